/- FnExactTaxRowsOK is true for every book of taxes: longer books are let by by the law's own guard; for the others both sides answer the same plain Bool, and the program leaves its book as it was. -/
import Derived.Test.YtookjankaanhlaaPAllx0
import Derived.Test.YtookjankaanhlaaPAllx28
import Derived.Test.YtookjankaanhlaaTaxRows
namespace Go.Proofs.Ytookjankaanhlaa.Pure
open Go.RowKit Go.Proofs.Ytookjankaanhlaa Go.Proofs.Ytookjankaanhlaa.PAll Go.Proofs.YtookjankaanhlaaW.PrintWords Go.Proofs.YtookjankaanhlaaW.PrintLast

theorem FnExactTaxRowsOK (l0 : List S109) (h : l0.length ≤ 9223372036854775807 ∧ ∀ y ∈ l0, okS109 y) : ∃ k, laws_FnExactTaxRowsOK.f k l0 = some true := by
  obtain ⟨r, h1, h2⟩ := szTaxRowS_ok l0 h.1 h.2
  refine ⟨l0.length + 4400, ?_⟩
  unfold laws_FnExactTaxRowsOK.f
  rw [h1 _ (by omega)]
  simp only [Option.bind_some]
  by_cases hr : r < 0
  · rw [if_pos hr]
  · rw [if_neg hr]
    have hl : l0.length ≤ 1048576 := by omega
    rw [toTaxRowS_is l0 hl _ (by omega)]
    simp only [Option.bind_some]
    rw [specTaxes_is _ _ (by omega)]
    simp only [Option.bind_some]
    rw [implTaxes_is _ _ (by omega)]
    simp only [Option.bind_some, bne_self_eq_false]
    rw [eqTaxRowS_refl _ (by rw [List.length_map]; omega) _ (by rw [List.length_map]; omega)]
    simp

end Go.Proofs.Ytookjankaanhlaa.Pure
