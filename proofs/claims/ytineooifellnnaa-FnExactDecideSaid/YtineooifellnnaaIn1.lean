/- The reference's test of a range. -/
import Derived.Test.YtineooifellnnaaPAllx1
import Derived.Test.YtineooifellnnaaName
namespace Go.Proofs.Ytineooifellnnaa
open Go.RowKit Go.Proofs.Ytineooifellnnaa.PAll Go.Proofs.YtineooifellnnaaW.PrintWords Go.Proofs.YtineooifellnnaaW.PrintLast

theorem in1_is (a b c : Int) : spec_l01In.f a b c = some (decide (b ≤ a ∧ a ≤ c)) := by
  unfold spec_l01In.f
  by_cases h : a ≥ b
  · rw [if_pos h]; simp; omega
  · rw [if_neg h]; simp; omega

end Go.Proofs.Ytineooifellnnaa
