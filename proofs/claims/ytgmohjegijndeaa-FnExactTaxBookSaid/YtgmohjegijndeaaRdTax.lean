/- Reading a row of a book of taxes. -/
import Derived.Test.YtgmohjegijndeaaPAllx0
import Derived.Test.YtgmohjegijndeaaLoop
namespace Go.Proofs.Ytgmohjegijndeaa
open Go.RowKit Go.Proofs.Ytgmohjegijndeaa.PAll Go.Proofs.YtgmohjegijndeaaW.PrintWords Go.Proofs.YtgmohjegijndeaaW.PrintLast

theorem rdBTaxRow {l : List S66} {i : Nat} (h : i < l.length) : rd_T66 l (i : Int) = l[i] := by
  unfold rd_T66
  rw [Int.toNat_natCast, List.getD_eq_getElem?_getD, List.getElem?_eq_getElem h]; rfl

end Go.Proofs.Ytgmohjegijndeaa
