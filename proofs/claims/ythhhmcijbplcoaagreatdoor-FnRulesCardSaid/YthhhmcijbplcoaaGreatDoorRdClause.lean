/- Reading a rule and a term. -/
import Derived.Test.YthhhmcijbplcoaaGreatDoorPFnRulesx0
import Derived.Test.YthhhmcijbplcoaaGreatDoorLoop
namespace Go.Proofs.YthhhmcijbplcoaaGreatDoor
open Go.RowKit Go.Proofs.YthhhmcijbplcoaaGreatDoor.PFnRules Go.Proofs.YthhhmcijbplcoaaGreatDoorW.PrintWords Go.Proofs.YthhhmcijbplcoaaGreatDoorW.PrintLast

theorem rdBTerm {l : List S66} {i : Nat} (h : i < l.length) : rd_T66 l (i : Int) = l[i] := by
  unfold rd_T66
  rw [Int.toNat_natCast, List.getD_eq_getElem?_getD, List.getElem?_eq_getElem h]; rfl
theorem rdBClause {l : List S41} {i : Nat} (h : i < l.length) : rd_T41 l (i : Int) = l[i] := by
  unfold rd_T41
  rw [Int.toNat_natCast, List.getD_eq_getElem?_getD, List.getElem?_eq_getElem h]; rfl

end Go.Proofs.YthhhmcijbplcoaaGreatDoor
