/- The choice out of n that some bytes make lies from 0 to n - 1. -/
import Derived.Test.YtembklbofdgmgaaPAllx9
import Derived.Test.YtembklbofdgmgaaSrc
namespace Go.Proofs.Ytembklbofdgmgaa
open Go.RowKit Go.Proofs.Ytembklbofdgmgaa.PAll Go.Proofs.YtembklbofdgmgaaW.PrintWords Go.Proofs.YtembklbofdgmgaaW.PrintLast

theorem at_ok {l : List Int} (i n : Int) (hl : (l.length : Int) ≤ 1048576) (hb : ∀ x ∈ l, 0 ≤ x ∧ x ≤ 255) (h0 : 0 ≤ i) (h1 : i ≤ 1000000) (hn : n ≤ 1000000) :
    ∃ r, laws_at.f l i n = some r ∧ 0 ≤ r ∧ (1 ≤ n → r < n) := by
  unfold laws_at.f
  by_cases a : n ≤ 1
  · rw [if_pos a]; exact ⟨0, rfl, by omega, fun _ => by omega⟩
  · rw [if_neg a]
    by_cases b : (l.length : Int) = 0
    · rw [if_pos b, if_neg (by omega), w64 (x := i * 7) (by omega) (by omega)]
      have hm := tmod_bd (a := i * 7) (n := n) (by omega) (by omega)
      exact ⟨_, rfl, hm.1, fun _ => hm.2⟩
    · rw [if_neg b]
      have m1 := tmod_bd (a := i) (n := (l.length : Int)) h0 (by omega)
      rw [w64 (x := i + 1) (by omega) (by omega)]
      have m2 := tmod_bd (a := i + 1) (n := (l.length : Int)) (by omega) (by omega)
      have x1 := hb _ (rd_mem m1.1 m1.2)
      have x2 := hb _ (rd_mem m2.1 m2.2)
      rw [if_pos m1.1, if_pos m1.2, if_pos m2.1, if_pos m2.2, if_neg (by omega)]
      generalize rd l (Int.tmod i (l.length : Int)) = x at *
      generalize rd l (Int.tmod (i + 1) (l.length : Int)) = y at *
      have hd : Int.tdiv i (l.length : Int) = i / (l.length : Int) := Int.tdiv_eq_ediv_of_nonneg h0
      have d0 : 0 ≤ i / (l.length : Int) := Int.ediv_nonneg h0 (by omega)
      have d1 : i / (l.length : Int) ≤ i := Int.ediv_le_self _ h0
      rw [hd]
      generalize i / (l.length : Int) = d at *
      rw [w64 (x := x) (by omega) (by omega), w64 (x := x * 31) (by omega) (by omega), w64 (x := y) (by omega) (by omega), w64 (x := x * 31 + y) (by omega) (by omega), w64 (x := d) (by omega) (by omega), w64 (x := _ + d) (by omega) (by omega)]
      have hm := tmod_bd (a := x * 31 + y + d) (n := n) (by omega) (by omega)
      exact ⟨_, rfl, hm.1, fun _ => hm.2⟩

theorem bytes_bd {l : List Int} (hb : ∀ x ∈ l, (Lit.int .u8 x).wf = true) : ∀ x ∈ l, 0 ≤ x ∧ x ≤ 255 := fun x hx => by
  have h := hb x hx; simp [Lit.wf, IntKind.min, IntKind.max, IntKind.bits, IntKind.signed] at h; omega

end Go.Proofs.Ytembklbofdgmgaa
