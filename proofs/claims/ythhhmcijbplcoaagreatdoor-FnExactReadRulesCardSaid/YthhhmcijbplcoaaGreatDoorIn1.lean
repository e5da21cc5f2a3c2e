/- The reference's test of a range. -/
import Derived.Test.YthhhmcijbplcoaaGreatDoorPFnExactReadRulesx2
import Derived.Test.YthhhmcijbplcoaaGreatDoorName
namespace Go.Proofs.YthhhmcijbplcoaaGreatDoor
open Go.RowKit Go.Proofs.YthhhmcijbplcoaaGreatDoor.PFnExactReadRules Go.Proofs.YthhhmcijbplcoaaGreatDoorW.PrintWords Go.Proofs.YthhhmcijbplcoaaGreatDoorW.PrintLast

theorem in1_is (a b c : Int) : spec_l01In.f a b c = some (decide (b ≤ a ∧ a ≤ c)) := by
  unfold spec_l01In.f
  by_cases h : a ≥ b
  · rw [if_pos h]; simp; omega
  · rw [if_neg h]; simp; omega

end Go.Proofs.YthhhmcijbplcoaaGreatDoor
