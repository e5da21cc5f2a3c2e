/- A place is empty or a name; a number from one bound to another. -/
import Derived.Test.YtembklbofdgmgaaPAllx1
import Derived.Test.YtembklbofdgmgaaPAllx2
import Derived.Test.YtembklbofdgmgaaName
namespace Go.Proofs.Ytembklbofdgmgaa
open Go.RowKit Go.Proofs.Ytembklbofdgmgaa.PAll Go.Proofs.YtembklbofdgmgaaW.PrintWords Go.Proofs.YtembklbofdgmgaaW.PrintLast

theorem in1_is (a b c : Int) : spec_l01In.f a b c = some (decide (b ≤ a ∧ a ≤ c)) := by
  unfold spec_l01In.f
  by_cases h : a ≥ b
  · rw [if_pos h]; simp; omega
  · rw [if_neg h]; simp; omega

def placeB (s : ByteArray) : Bool := decide (s.toList = ([] : List UInt8)) || nameB s

theorem place_is (s : ByteArray) (k : Nat) (hk : 84 ≤ k) : impl_isPlace.f k s = some (placeB s) := by
  unfold impl_isPlace.f placeB
  rw [(name_both s k hk).1]
  by_cases h : s.toList = ([] : List UInt8)
  · rw [if_pos h]; simp [h]
  · rw [if_neg h]; simp [h]

end Go.Proofs.Ytembklbofdgmgaa
