/- Unpacking: the program's and the reference's loops are one; each round leaves fewer units, so that it ends. -/
import Derived.Test.YtookjankaanhlaaPAllx0
import Derived.Test.YtookjankaanhlaaPAllx24
import Derived.Test.YtookjankaanhlaaPAllx39
import Derived.Test.YtookjankaanhlaaPacks
namespace Go.Proofs.Ytookjankaanhlaa
open Go.RowKit Go.Proofs.Ytookjankaanhlaa.PAll Go.Proofs.YtookjankaanhlaaW.PrintWords Go.Proofs.YtookjankaanhlaaW.PrintLast

theorem scan_same (sizes : List Int) (u : Int) : ∀ (l : List Int) (i b : Int), impl_Unpack.scan sizes u l i b = spec_Unpack.scan sizes u l i b
  | [], _, _ => rfl
  | s :: rest, i, b => by
    rw [impl_Unpack.scan, spec_Unpack.scan]
    simp only [scan_same sizes u rest]

theorem loop_same (sizes : List Int) : ∀ (k : Nat) (out : List Int) (u : Int), impl_Unpack.loop sizes k out u = spec_Unpack.loop sizes k out u
  | 0, _, _ => rfl
  | k + 1, out, u => by
    rw [impl_Unpack.loop, spec_Unpack.loop, scan_same]
    simp only [loop_same sizes k]

def Best (sizes : List Int) (u b : Int) : Prop := b < 0 ∨ (0 ≤ b ∧ b < sizes.length ∧ rd sizes b ≤ u)

theorem scan_ok (sizes : List Int) (u : Int) : ∀ (l : List Int) (i : Nat) (b : Int), l = sizes.drop i → i + l.length = sizes.length → Best sizes u b → ∃ r, impl_Unpack.scan sizes u l (i : Int) b = some r ∧ Best sizes u r
  | [], _, b, _, _, hb => ⟨b, rfl, hb⟩
  | s :: rest, i, b, hd, hl, hb => by
    rw [List.length_cons] at hl
    rw [List.drop_eq_getElem_cons (by omega : i < sizes.length), List.cons.injEq] at hd
    have hr : rd sizes (i : Int) = s := by
      unfold rd
      rw [Int.toNat_natCast, List.getD_eq_getElem?_getD, List.getElem?_eq_getElem (by omega : i < sizes.length)]
      exact hd.1.symm
    have go := fun c hc => scan_ok sizes u rest (i + 1) c hd.2 (by omega) hc
    simp only [show ((i + 1 : Nat) : Int) = (i : Int) + 1 by omega] at go
    rw [impl_Unpack.scan]
    by_cases h1 : s ≤ u
    · rw [if_pos h1]
      have hi : Best sizes u (i : Int) := .inr ⟨by omega, by omega, by rw [hr]; exact h1⟩
      by_cases h2 : b < 0
      · rw [if_pos h2]; exact go _ hi
      · rw [if_neg h2]
        have hb2 : b < (sizes.length : Int) := by rcases hb with h | h <;> omega
        rw [if_pos hb2]
        by_cases h3 : s > rd sizes b
        · rw [if_pos h3]; exact go _ hi
        · rw [if_neg h3]; exact go _ hb
    · rw [if_neg h1]; exact go _ hb

theorem tmod_lt {u s : Int} (h0 : 0 ≤ u) (h1 : 1 ≤ s) : 0 ≤ Int.tmod u s ∧ Int.tmod u s < s := by
  rw [Int.tmod_eq_emod_of_nonneg h0]
  exact ⟨Int.emod_nonneg _ (by omega), Int.emod_lt_of_pos _ (by omega)⟩

theorem loop_ok (sizes : List Int) (hu : Units sizes) : ∀ (n : Nat) (u : Int) (out : List Int), 0 ≤ u → u ≤ n → out.length = sizes.length → ∃ r, r.1.length = sizes.length ∧ ∀ k, n < k → impl_Unpack.loop sizes k out u = some r := by
  intro n
  induction n with
  | zero =>
    intro u out h0 h1 ho
    obtain ⟨b, e, hb⟩ := scan_ok sizes u sizes 0 (-1) (by simp) (by simp) (.inl (by omega))
    have hneg : b < 0 := by
      rcases hb with h | ⟨h, h', h''⟩
      · exact h
      · have := (rd_unit hu h h').1; omega
    refine ⟨(out, u, 0), ho, fun k hk => ?_⟩
    obtain ⟨k, rfl⟩ : ∃ m, k = m + 1 := ⟨k - 1, by omega⟩
    rw [impl_Unpack.loop]
    rw [show ((0 : Nat) : Int) = 0 from rfl] at e
    rw [e, Option.bind_some, if_pos hneg]
  | succ n ih =>
    intro u out h0 h1 ho
    obtain ⟨b, e, hb⟩ := scan_ok sizes u sizes 0 (-1) (by simp) (by simp) (.inl (by omega))
    rw [show ((0 : Nat) : Int) = 0 from rfl] at e
    by_cases hneg : b < 0
    · refine ⟨(out, u, 0), ho, fun k hk => ?_⟩
      obtain ⟨k, rfl⟩ : ∃ m, k = m + 1 := ⟨k - 1, by omega⟩
      rw [impl_Unpack.loop, e, Option.bind_some, if_pos hneg]
    · obtain ⟨b0, b1, b2⟩ : 0 ≤ b ∧ b < sizes.length ∧ rd sizes b ≤ u := by rcases hb with h | h; exact absurd h hneg; exact h
      have hs := rd_unit hu b0 b1
      have hm := tmod_lt (u := u) (s := rd sizes b) h0 hs.1
      obtain ⟨r, hr, hk2⟩ := ih (Int.tmod u (rd sizes b)) (out.set b.toNat (wrap64 (rd out b + wrap64 (Int.tdiv u (rd sizes b))))) hm.1 (by omega) (by rw [List.length_set]; exact ho)
      refine ⟨r, hr, fun k hk => ?_⟩
      obtain ⟨k, rfl⟩ : ∃ m, k = m + 1 := ⟨k - 1, by omega⟩
      rw [impl_Unpack.loop, e, Option.bind_some, if_neg hneg, if_pos b1, if_pos (by omega), if_neg (by omega)]
      exact hk2 k (by omega)

theorem unpack_both (l : List S149) (a : Int) : ∃ r, r.1.length ≤ 30 ∧ ∀ k, 1000100 ≤ k → impl_Unpack.f k l a = some r ∧ spec_Unpack.f k l a = some r := by
  have ok := packB_ok l
  have hb := packs_both l
  unfold impl_Unpack.f spec_Unpack.f
  generalize packB l = b at *
  obtain ⟨sizes, code, who⟩ := b
  by_cases hc : code = 0
  · subst hc
    have hlen := ok.2.2 rfl
    have hlen1 : sizes.length = l.length := hlen.1
    by_cases hr : 0 ≤ a ∧ a ≤ 1000000
    · obtain ⟨r, h1, h2⟩ := loop_ok sizes ok.1 1000000 a (List.replicate sizes.length 0) hr.1 (by omega) (by simp)
      refine ⟨r, by omega, fun k hk => ?_⟩
      rw [(hb k (by omega)).1, (hb k (by omega)).2]
      simp only [Option.bind_some, if_true]
      rw [within_b, in1_is, decide_eq_true hr]
      simp only [Option.bind_some, if_true]
      rw [if_pos (by omega), if_pos (by omega), ← loop_same, ← hlen1]
      exact ⟨h2 k (by omega), h2 k (by omega)⟩
    · refine ⟨([], 0, 5), by simp, fun k hk => ?_⟩
      rw [(hb k (by omega)).1, (hb k (by omega)).2]
      simp only [Option.bind_some, if_true]
      rw [within_b, in1_is, decide_eq_false hr]
      simp
  · refine ⟨([], 0, code), by simp, fun k hk => ?_⟩
    rw [(hb k (by omega)).1, (hb k (by omega)).2]
    simp [hc]

end Go.Proofs.Ytookjankaanhlaa
