/- The number that digits spell. -/
import Derived.Test.YthhhmcijbplcoaaGreatDoorNumText
namespace Go.Proofs.YthhhmcijbplcoaaGreatDoor

/-- The number that digits spell. -/
def dec (l : List UInt8) : Nat := (Lib.decFrom 0 l).getD 0
theorem dec_is {l : List UInt8} (h : l.all dg1 = true) : Lib.decFrom 0 l = some (dec l) := by
  obtain ⟨v, hv⟩ := dec_some l 0 h
  unfold dec; rw [hv]; rfl
theorem dec_lt {l : List UInt8} (h : l.all dg1 = true) : dec l < 10 ^ l.length := by
  have := Lib.decFrom_lt l 0 _ (dec_is h); simpa using this
instance (W : List UInt8) : Decidable (isNum W) := by unfold isNum; infer_instance

end Go.Proofs.YthhhmcijbplcoaaGreatDoor
