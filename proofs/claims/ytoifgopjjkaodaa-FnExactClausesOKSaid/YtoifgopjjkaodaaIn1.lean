/- The reference's test of a range. -/
import Derived.Test.YtoifgopjjkaodaaPAllx1
import Derived.Test.YtoifgopjjkaodaaName
namespace Go.Proofs.Ytoifgopjjkaodaa
open Go.RowKit Go.Proofs.Ytoifgopjjkaodaa.PAll Go.Proofs.YtoifgopjjkaodaaW.PrintWords Go.Proofs.YtoifgopjjkaodaaW.PrintLast

theorem in1_is (a b c : Int) : spec_l01In.f a b c = some (decide (b ≤ a ∧ a ≤ c)) := by
  unfold spec_l01In.f
  by_cases h : a ≥ b
  · rw [if_pos h]; simp; omega
  · rw [if_neg h]; simp; omega

end Go.Proofs.Ytoifgopjjkaodaa
