/- The reference's test of a range. -/
import Derived.Test.YtplboloibpkdeaaDoorPFnExactRulesTextx1
import Derived.Test.YtplboloibpkdeaaDoorName
namespace Go.Proofs.YtplboloibpkdeaaDoor
open Go.RowKit Go.Proofs.YtplboloibpkdeaaDoor.PFnExactRulesText Go.Proofs.YtplboloibpkdeaaDoorW.PrintWords Go.Proofs.YtplboloibpkdeaaDoorW.PrintLast

theorem in1_is (a b c : Int) : spec_l01In.f a b c = some (decide (b ≤ a ∧ a ≤ c)) := by
  unfold spec_l01In.f
  by_cases h : a ≥ b
  · rw [if_pos h]; simp; omega
  · rw [if_neg h]; simp; omega

end Go.Proofs.YtplboloibpkdeaaDoor
