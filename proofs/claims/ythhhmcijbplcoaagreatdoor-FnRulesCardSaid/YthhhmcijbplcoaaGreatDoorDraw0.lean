/- Small draws: a chance and a size come out of any state of the source. -/
import Derived.Test.YthhhmcijbplcoaaGreatDoorPFnRulesx5
import Derived.Test.YthhhmcijbplcoaaGreatDoorPFnRulesx6
import Derived.Test.YthhhmcijbplcoaaGreatDoorSrc
namespace Go.Proofs.YthhhmcijbplcoaaGreatDoor
open Go.RowKit Go.Proofs.YthhhmcijbplcoaaGreatDoor.PFnRules Go.Proofs.YthhhmcijbplcoaaGreatDoorW.PrintWords Go.Proofs.YthhhmcijbplcoaaGreatDoorW.PrintLast

theorem chance_ok {l : List Int} {i s : Int} (n : Int) (h : SrcOK l i s) (hi : i ≤ 999999999990) (hn : n ≤ 16777216) :
    ∃ r i' s', spec_l00Src_chance.f l i s n = some (r, i', s') ∧ i ≤ i' ∧ i' ≤ i + 3 ∧ SrcOK l i' s' := by
  obtain ⟨r, i', s', e, _, _, _, g, g', hs⟩ := next_ok n h hi hn
  unfold spec_l00Src_chance.f
  rw [e]
  exact ⟨_, i', s', rfl, g, g', hs⟩

theorem size_ok {l : List Int} {i s : Int} (n : Int) (h : SrcOK l i s) (h0 : 1 ≤ n) (h1 : n ≤ 1000000) : ∃ r, spec_l00Src_size.f l i s n = some (r, i, s) ∧ 1 ≤ r ∧ r ≤ n := by
  have hl := h.len
  unfold spec_l00Src_size.f
  rw [w64 (x := (l.length : Int) / 12) (by omega) (by omega), w64 (x := 1 + (l.length : Int) / 12) (by omega) (by omega)]
  refine ⟨_, rfl, ?_⟩
  unfold mn
  split <;> omega

end Go.Proofs.YthhhmcijbplcoaaGreatDoor
