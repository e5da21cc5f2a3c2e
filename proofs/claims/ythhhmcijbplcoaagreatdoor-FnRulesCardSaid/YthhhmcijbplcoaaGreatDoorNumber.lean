/- The reference's reading of a number. -/
import Derived.Test.YthhhmcijbplcoaaGreatDoorPFnRulesx0
import Derived.Test.YthhhmcijbplcoaaGreatDoorBs
import Derived.Test.YthhhmcijbplcoaaGreatDoorDec
namespace Go.Proofs.YthhhmcijbplcoaaGreatDoor
open Go.RowKit Go.Proofs.YthhhmcijbplcoaaGreatDoor.PFnRules Go.Proofs.YthhhmcijbplcoaaGreatDoorW.PrintWords Go.Proofs.YthhhmcijbplcoaaGreatDoorW.PrintLast

/-- What is read behind the sign. -/
def numAt (s : Int) (W : List UInt8) : Int × Bool := if isNum W ∧ W.length ≤ 18 ∧ ¬ (s < 0 ∧ W.head? = some 48) then (wrap64 (s * dec W), true) else (0, false)
/-- What is read. -/
def numS (l : List UInt8) : Int × Bool := if l.head? = some 45 then numAt (-1) l.tail else numAt 1 l
end Go.Proofs.YthhhmcijbplcoaaGreatDoor
