/- The reference's test of a range. -/
import Derived.Test.YtaablbglkfpbpaaPAllx2
import Derived.Test.YtaablbglkfpbpaaName
namespace Go.Proofs.Ytaablbglkfpbpaa
open Go.RowKit Go.Proofs.Ytaablbglkfpbpaa.PAll Go.Proofs.YtaablbglkfpbpaaW.PrintWords Go.Proofs.YtaablbglkfpbpaaW.PrintLast

theorem in1_is (a b c : Int) : spec_l01In.f a b c = some (decide (b ≤ a ∧ a ≤ c)) := by
  unfold spec_l01In.f
  by_cases h : a ≥ b
  · rw [if_pos h]; simp; omega
  · rw [if_neg h]; simp; omega

end Go.Proofs.Ytaablbglkfpbpaa
