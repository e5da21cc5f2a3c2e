/- FnExactByWeight is true for every amount and weight: both sides round amount times grams by 1000 to the even one, and tell it if it is an amount. -/
import Derived.Test.YtlkammlhhkhboaaPAllx8
import Derived.Test.YtlkammlhhkhboaaPAllx9
import Derived.Test.YtlkammlhhkhboaaMoney
namespace Go.Proofs.Ytlkammlhhkhboaa.Pure
open Go.RowKit Go.Proofs.Ytlkammlhhkhboaa Go.Proofs.Ytlkammlhhkhboaa.PAll Go.Proofs.YtlkammlhhkhboaaW.PrintWords Go.Proofs.YtlkammlhhkhboaaW.PrintLast

theorem FnExactByWeight : laws_FnExactByWeight.Pure := by
  intro a b _ _
  refine ⟨2, ?_⟩
  unfold laws_FnExactByWeight.f spec_ByWeight.f impl_ByWeight.f
  rw [l01Money_is, isMoney_is, l01In_is, within_is]
  simp only [Option.bind_some]
  by_cases hm : -1000000000 ≤ a ∧ a ≤ 1000000000
  · by_cases hr : 0 ≤ b ∧ b ≤ 99999
    · have hp : -100000000000000000 ≤ a * b ∧ a * b ≤ 100000000000000000 := by
        have h1 := Int.mul_le_mul_of_nonneg_right hm.2 hr.1
        have h2 := Int.mul_le_mul_of_nonneg_right hm.1 hr.1
        omega
      rw [w64 (x := a * b) (by omega) (by omega), spec_round_is _ _ _ (by omega) (by omega) (by omega) (by omega) hp.1 hp.2 _ (by omega), impl_round_is _ _ _ (by omega) (by omega) hp.1 hp.2]
      simp only [Option.bind_some, told_is, money_is]
      simp [hm, hr]
    · simp [hm, hr]
  · simp [hm]

end Go.Proofs.Ytlkammlhhkhboaa.Pure
