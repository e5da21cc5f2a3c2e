-- The print's words, less those that this claim's texts do not name (laid by wip/tools/pclaim.py).
import Derived.Test.YtaablbglkfpbpaaWInv
import Derived.Test.YtaablbglkfpbpaaWFootNe
namespace Go.Proofs.YtaablbglkfpbpaaW.PrintWords
open Go.RowKit
end Go.Proofs.YtaablbglkfpbpaaW.PrintWords
namespace Go.Proofs.YtaablbglkfpbpaaW.PrintLast
section
variable {ops : Array Oper} {a : Act} {o og : Oper} {g : Nat} {t : Tmp} {u : Bool}
end
end Go.Proofs.YtaablbglkfpbpaaW.PrintLast
