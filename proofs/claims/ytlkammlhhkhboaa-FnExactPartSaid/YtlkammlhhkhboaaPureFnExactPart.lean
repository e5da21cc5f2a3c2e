/- FnExactPart is true for every amount, rate and mode: both sides round amount times numerator by denominator by the mode, and tell it if it is an amount. -/
import Derived.Test.YtlkammlhhkhboaaPAllx0
import Derived.Test.YtlkammlhhkhboaaPAllx1
import Derived.Test.YtlkammlhhkhboaaPAllx10
import Derived.Test.YtlkammlhhkhboaaPAllx11
import Derived.Test.YtlkammlhhkhboaaMoney
import Derived.Test.YtlkammlhhkhboaaTypAll
namespace Go.Proofs.Ytlkammlhhkhboaa.Pure
open Go.RowKit Go.Proofs.Ytlkammlhhkhboaa Go.Proofs.Ytlkammlhhkhboaa.PAll Go.Proofs.YtlkammlhhkhboaaW.PrintWords Go.Proofs.YtlkammlhhkhboaaW.PrintLast

theorem FnExactPart : ∀ (a0 : Int) (x1 : S24) (a2 : Int), (Lit.int .i64 a0).wf = true → okS24 x1 → (Lit.int .i64 a2).wf = true → ∃ k, laws_FnExactPart.f k a0 x1.f0 x1.f1 a2 = some true := by
  intro a x m _ _ _
  refine ⟨4, ?_⟩
  unfold laws_FnExactPart.f laws_toRate.f spec_Part.f impl_Part.f
  simp only [Option.bind_some, spec_rate, impl_rate, l01Money_is, isMoney_is, spec_Part.j0, impl_Part.j0, impl_mode, spec_mode]
  by_cases hm : -1000000000 ≤ a ∧ a ≤ 1000000000
  · by_cases hr' : RateB x.f0 x.f1 = true
    · have hr := rateB hr'
      by_cases ho : 1 ≤ m ∧ m ≤ 4
      · have hp := mul_bd hm.1 hm.2 hr.1.1 hr.1.2 (by omega)
        rw [w64 (x := a * x.f0) (by omega) (by omega), spec_round_is _ _ _ (by omega) (by omega) (by omega) (by omega) (by omega) (by omega) _ (by omega), impl_round_is _ _ _ (by omega) (by omega) (by omega) (by omega)]
        simp [hm, hr', ho, told_is, money_is]
      · simp [hm, hr', ho]
    · simp [hm, hr']
  · simp [hm]

end Go.Proofs.Ytlkammlhhkhboaa.Pure
