/- FnExactRateOK is true for every rate: both sides ask for a numerator from 0 to 10000 and a denominator from 1 to 10000. -/
import Derived.Test.YtlkammlhhkhboaaPAllx0
import Derived.Test.YtlkammlhhkhboaaPAllx1
import Derived.Test.YtlkammlhhkhboaaMoney
import Derived.Test.YtlkammlhhkhboaaTypAll
namespace Go.Proofs.Ytlkammlhhkhboaa.Pure
open Go.RowKit Go.Proofs.Ytlkammlhhkhboaa Go.Proofs.Ytlkammlhhkhboaa.PAll Go.Proofs.YtlkammlhhkhboaaW.PrintWords Go.Proofs.YtlkammlhhkhboaaW.PrintLast

theorem FnExactRateOK : ∀ (x0 : S24), okS24 x0 → laws_FnExactRateOK.f x0.f0 x0.f1 = some true := by
  intro x _
  unfold laws_FnExactRateOK.f laws_toRate.f
  simp only [Option.bind_some, spec_rate, impl_rate]
  simp

end Go.Proofs.Ytlkammlhhkhboaa.Pure
