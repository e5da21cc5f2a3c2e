/- FnExactSplit is true for every gross amount and rate: both sides round gross times numerator by denominator plus numerator to the even one. -/
import Derived.Test.YtlkammlhhkhboaaPAllx0
import Derived.Test.YtlkammlhhkhboaaPAllx1
import Derived.Test.YtlkammlhhkhboaaPAllx10
import Derived.Test.YtlkammlhhkhboaaPAllx9
import Derived.Test.YtlkammlhhkhboaaMoney
import Derived.Test.YtlkammlhhkhboaaTypAll
namespace Go.Proofs.Ytlkammlhhkhboaa.Pure
open Go.RowKit Go.Proofs.Ytlkammlhhkhboaa Go.Proofs.Ytlkammlhhkhboaa.PAll Go.Proofs.YtlkammlhhkhboaaW.PrintWords Go.Proofs.YtlkammlhhkhboaaW.PrintLast

theorem FnExactSplit : ∀ (a0 : Int) (x1 : S24), (Lit.int .i64 a0).wf = true → okS24 x1 → ∃ k, laws_FnExactSplit.f k a0 x1.f0 x1.f1 = some true := by
  intro a x _ _
  refine ⟨2, ?_⟩
  unfold laws_FnExactSplit.f laws_toRate.f spec_Split.f impl_Split.f spec_l03Split.f laws_eqTaxed.f
  simp only [Option.bind_some, spec_rate, impl_rate, l01Money_is, isMoney_is]
  by_cases hm : -1000000000 ≤ a ∧ a ≤ 1000000000
  · by_cases hr' : RateB x.f0 x.f1 = true
    · have hr := rateB hr'
      have hp := mul_bd hm.1 hm.2 hr.1.1 hr.1.2 (by omega)
      rw [w64 (x := a * x.f0) (by omega) (by omega), w64 (x := x.f1 + x.f0) (by omega) (by omega), spec_round_is _ _ _ (by omega) (by omega) (by omega) (by omega) (by omega) (by omega) _ (by omega), impl_round_is _ _ _ (by omega) (by omega) (by omega) (by omega)]
      simp [hm, hr']
    · simp [hm, hr']
  · simp [hm]

end Go.Proofs.Ytlkammlhhkhboaa.Pure
