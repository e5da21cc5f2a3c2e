/- The statements' own marks on rules: they are made, for whatever rules. -/
import Derived.Test.YtbmpkggjcnmieaaPAllx0
import Derived.Test.YtbmpkggjcnmieaaPAllx7
import Derived.Test.YtbmpkggjcnmieaaPAllx8
import Derived.Test.YtbmpkggjcnmieaaMarkText
import Derived.Test.YtbmpkggjcnmieaaStdClause
namespace Go.Proofs.Ytbmpkggjcnmieaa
open Go.RowKit Go.Proofs.Ytbmpkggjcnmieaa.PAll Go.Proofs.YtbmpkggjcnmieaaW.PrintWords Go.Proofs.YtbmpkggjcnmieaaW.PrintLast

theorem markTermB_loop : ∀ (d i : Nat) (l : List S47) (a : Int), i + d = l.length → 0 ≤ a → a + 3 * d ≤ 1000000000000000000 → l.length ≤ 100000000 → ∀ k, d < k → ∃ t, laws_markTermS.l0 k l a (i : Int) = some (a + 3 * d, t)
  | 0, i, l, a, hi, _, _, _, k, hk => by
    obtain ⟨k, rfl⟩ : ∃ q, k = q + 1 := ⟨k - 1, by omega⟩
    exact ⟨l, by rw [laws_markTermS.l0, if_neg (by omega)]; simp⟩
  | d + 1, i, l, a, hi, h0, h1, hl, k, hk => by
    obtain ⟨k, rfl⟩ : ∃ q, k = q + 1 := ⟨k - 1, by omega⟩
    rw [laws_markTermS.l0, if_pos (by omega), if_pos (by omega), Option.bind_some, Option.bind_some, w64 (x := a + 1) (by omega) (by omega), w64 (x := a + 1 + 1) (by omega) (by omega), w64 (x := a + 1 + 1 + 1) (by omega) (by omega), w64 (x := (i : Int) + 1) (by omega) (by omega)]
    have key : ∀ l' : List S47, l'.length = l.length → ∃ t, laws_markTermS.l0 k l' (a + 1 + 1 + 1) ((i : Int) + 1) = some (a + 3 * ((d + 1 : Nat) : Int), t) := fun l' h' => by
      obtain ⟨t, e⟩ := markTermB_loop d (i + 1) l' (a + 1 + 1 + 1) (by omega) (by omega) (by omega) (by omega) k (by omega)
      exact ⟨t, by rw [show (i : Int) + 1 = ((i + 1 : Nat) : Int) by omega, e]; congr 2; omega⟩
    exact key _ (by simp only [List.length_set])

theorem markClause_go (k : Nat) (hk : 1048600 ≤ k) : ∀ (ts : List (List S47)) (a : Int), (∀ x ∈ ts, x.length ≤ 1048576) → 0 ≤ a → a + 4000000 * (ts.length : Int) ≤ 1000000000000000000 → ∃ n, laws_markClauseS.go k ts a = some n ∧ 0 ≤ n
  | [], a, _, h0, _ => ⟨a, rfl, h0⟩
  | x :: xs, a, hx, h0, h1 => by
    have hl := hx x List.mem_cons_self
    simp only [List.length_cons, Int.natCast_add, Int.natCast_one] at h1
    obtain ⟨t, et⟩ := markText_any a (by omega) k (by omega)
    obtain ⟨t2, e2⟩ := markTermB_loop x.length 0 x (a + 1) (by omega) (by omega) (by omega) (by omega) k (by omega)
    obtain ⟨n, en, n0⟩ := markClause_go k hk xs (a + 1 + 3 * (x.length : Int) + 1 + 1) (fun y hy => hx y (List.mem_cons_of_mem _ hy)) (by omega) (by omega)
    refine ⟨n, ?_, n0⟩
    rw [laws_markClauseS.go, et, Option.bind_some, w64 (x := a + 1) (by omega) (by omega)]
    have e3 : laws_markTermS.f k x (a + 1) = some (a + 1 + 3 * (x.length : Int), t2) := e2
    rw [e3, Option.bind_some, w64 (x := a + 1 + 3 * (x.length : Int) + 1) (by omega) (by omega), w64 (by omega) (by omega)]
    exact en

theorem markClause_any (l : List S37) (hl : l.length ≤ 1048576) (hi : ∀ x ∈ l, x.f1.length ≤ 1048576) (k : Nat) (hk : 1048600 ≤ k) : ∃ n, laws_markClauseS.f k l 1 = some n ∧ 0 ≤ n := by
  refine markClause_go k hk _ 1 (fun x hx => ?_) (by omega) (by rw [List.length_map]; omega)
  obtain ⟨c, hc, rfl⟩ := List.mem_map.1 hx
  exact hi c hc

end Go.Proofs.Ytbmpkggjcnmieaa
