/- Small draws: a chance and a size come out of any state of the source; a list of numbers is the same as itself. -/
import Derived.Test.YtaablbglkfpbpaaPAllx13
import Derived.Test.YtaablbglkfpbpaaPAllx14
import Derived.Test.YtaablbglkfpbpaaPAllx19
import Derived.Test.YtaablbglkfpbpaaSrc
namespace Go.Proofs.Ytaablbglkfpbpaa
open Go.RowKit Go.Proofs.Ytaablbglkfpbpaa.PAll Go.Proofs.YtaablbglkfpbpaaW.PrintWords Go.Proofs.YtaablbglkfpbpaaW.PrintLast

theorem chance_ok {l : List Int} {i s : Int} (n : Int) (h : SrcOK l i s) (hi : i ≤ 999999999990) (hn : n ≤ 16777216) :
    ∃ r i' s', spec_l00Src_chance.f l i s n = some (r, i', s') ∧ i ≤ i' ∧ i' ≤ i + 3 ∧ SrcOK l i' s' := by
  obtain ⟨r, i', s', e, _, _, _, g, g', hs⟩ := next_ok n h hi hn
  unfold spec_l00Src_chance.f
  rw [e]
  exact ⟨_, i', s', rfl, g, g', hs⟩

theorem size_ok {l : List Int} {i s : Int} (n : Int) (h : SrcOK l i s) (h0 : 1 ≤ n) (h1 : n ≤ 1000000) : ∃ r, spec_l00Src_size.f l i s n = some (r, i, s) ∧ 1 ≤ r ∧ r ≤ n := by
  have hl := h.len
  unfold spec_l00Src_size.f
  rw [w64 (x := (l.length : Int) / 12) (by omega) (by omega), w64 (x := 1 + (l.length : Int) / 12) (by omega) (by omega)]
  refine ⟨_, rfl, ?_⟩
  unfold mn
  split <;> omega

theorem sameInts_refl (l : List Int) (h : l.length ≤ 2000000) (k : Nat) (hk : l.length < k) : laws_sameInts.f k l l = some true := by
  have hh : ∀ d i k, i + d = l.length → d < k → laws_sameInts.l0 k l l (i : Int) = some true := by
    intro d
    induction d with
    | zero =>
      intro i k hi hk
      obtain ⟨k, rfl⟩ : ∃ m, k = m + 1 := ⟨k - 1, by omega⟩
      rw [laws_sameInts.l0, if_neg (by omega)]
    | succ d ih =>
      intro i k hi hk
      obtain ⟨k, rfl⟩ : ∃ m, k = m + 1 := ⟨k - 1, by omega⟩
      rw [laws_sameInts.l0, if_pos (by omega), if_pos (by omega), if_pos (by omega), if_pos rfl, w64 (x := (i : Int) + 1) (by omega) (by omega)]
      have := ih (i + 1) k (by omega) (by omega)
      rwa [show ((i + 1 : Nat) : Int) = (i : Int) + 1 by omega] at this
  unfold laws_sameInts.f
  rw [if_pos rfl]
  have := hh l.length 0 k (by omega) hk
  simpa using this

end Go.Proofs.Ytaablbglkfpbpaa
