/- FnExactExchange is true for every amount, two rates and mode: both sides round amount times one rate by the other by the mode, and tell it if it is an amount. -/
import Derived.Test.YtlkammlhhkhboaaPAllx0
import Derived.Test.YtlkammlhhkhboaaPAllx1
import Derived.Test.YtlkammlhhkhboaaPAllx11
import Derived.Test.YtlkammlhhkhboaaPAllx12
import Derived.Test.YtlkammlhhkhboaaMoney
import Derived.Test.YtlkammlhhkhboaaTypAll
namespace Go.Proofs.Ytlkammlhhkhboaa.Pure
open Go.RowKit Go.Proofs.Ytlkammlhhkhboaa Go.Proofs.Ytlkammlhhkhboaa.PAll Go.Proofs.YtlkammlhhkhboaaW.PrintWords Go.Proofs.YtlkammlhhkhboaaW.PrintLast

theorem FnExactExchange : ∀ (a0 : Int) (x1 : S24) (x2 : S24) (a3 : Int), (Lit.int .i64 a0).wf = true → okS24 x1 → okS24 x2 → (Lit.int .i64 a3).wf = true → ∃ k, laws_FnExactExchange.f k a0 x1.f0 x1.f1 x2.f0 x2.f1 a3 = some true := by
  intro a x y m _ _ _ _
  refine ⟨4, ?_⟩
  unfold laws_FnExactExchange.f laws_toRate.f spec_Exchange.f impl_Exchange.f
  simp only [Option.bind_some, spec_rate, impl_rate, l01Money_is, isMoney_is, spec_Exchange.j0, impl_Exchange.j0, impl_mode, spec_mode]
  by_cases hm : -1000000000 ≤ a ∧ a ≤ 1000000000
  · by_cases hr' : RateB x.f0 x.f1 = true
    · have hr := rateB hr'
      by_cases hs' : RateB y.f0 y.f1 = true
      · have hs := rateB hs'
        by_cases ho : 1 ≤ m ∧ m ≤ 4
        · by_cases hz : y.f0 = 0
          · rw [hz] at hs'
            simp [hm, hr', hs', ho, hz]
          · have hp := mul_bd hm.1 hm.2 hr.1.1 hr.1.2 (by omega)
            have hp2 := mul_bd hp.1 hp.2 (by omega) hs.2.2 (by omega)
            have hq := mul_bd (show -10000 ≤ x.f1 by omega) hr.2.2 hs.1.1 hs.1.2 (by omega)
            have hq1 := Int.mul_pos (show 0 < x.f1 by omega) (show 0 < y.f0 by omega)
            rw [w64 (x := a * x.f0) (by omega) (by omega), w64 (x := a * x.f0 * y.f1) (by omega) (by omega), w64 (x := x.f1 * y.f0) (by omega) (by omega), spec_round_is _ _ _ (by omega) (by omega) (by omega) (by omega) (by omega) (by omega) _ (by omega), impl_round_is _ _ _ (by omega) (by omega) (by omega) (by omega)]
            simp [hm, hr', hs', ho, hz, told_is, money_is]
        · simp [hm, hr', hs', ho]
      · simp [hm, hr', hs']
    · simp [hm, hr']
  · simp [hm]

end Go.Proofs.Ytlkammlhhkhboaa.Pure
