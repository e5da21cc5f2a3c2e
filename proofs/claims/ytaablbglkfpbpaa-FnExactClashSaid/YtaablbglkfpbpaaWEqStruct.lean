-- The print's words, less those that this claim's texts do not name (laid by wip/tools/pclaim.py).
import Derived.Test.YtaablbglkfpbpaaWWords
import Derived.Laws.StructEq
/-! ### 53. '==' of structs as_ one Bool -/
namespace Go.Proofs.YtaablbglkfpbpaaW.PrintWords
open Go.RowKit
section
variable {P : Program} {d : Nat} {xs ys : Array Value} {f : Field} {fs : List Field} {a b : Value} {r s : Bool} {w : World}
end
end Go.Proofs.YtaablbglkfpbpaaW.PrintWords
