/- FnExactPricesOK is true for every book of prices: longer books are let by by the law's own guard; for the others both sides answer the same plain Bool, and the program leaves its book as it was. -/
import Derived.Test.YtookjankaanhlaaPAllx0
import Derived.Test.YtookjankaanhlaaPAllx6
import Derived.Test.YtookjankaanhlaaPriceRows
namespace Go.Proofs.Ytookjankaanhlaa.Pure
open Go.RowKit Go.Proofs.Ytookjankaanhlaa Go.Proofs.Ytookjankaanhlaa.PAll Go.Proofs.YtookjankaanhlaaW.PrintWords Go.Proofs.YtookjankaanhlaaW.PrintLast

theorem FnExactPricesOK (l0 : List S99) (h : l0.length ≤ 9223372036854775807 ∧ ∀ y ∈ l0, okS99 y) : ∃ k, laws_FnExactPricesOK.f k l0 = some true := by
  obtain ⟨r, h1, h2⟩ := szPriceRowS_ok l0 h.1 h.2
  refine ⟨l0.length + 165, ?_⟩
  unfold laws_FnExactPricesOK.f
  rw [h1 _ (by omega)]
  simp only [Option.bind_some]
  by_cases hr : r < 0
  · rw [if_pos hr]
  · rw [if_neg hr]
    have hl : l0.length ≤ 1048576 := by omega
    rw [toPriceRowS_is l0 hl _ (by omega)]
    simp only [Option.bind_some]
    rw [specPrices_is _ _ (by omega)]
    simp only [Option.bind_some]
    rw [implPrices_is _ _ (by omega)]
    simp only [Option.bind_some, bne_self_eq_false]
    rw [eqPriceRowS_refl _ (by rw [List.length_map]; omega) _ (by rw [List.length_map]; omega)]
    simp

end Go.Proofs.Ytookjankaanhlaa.Pure
