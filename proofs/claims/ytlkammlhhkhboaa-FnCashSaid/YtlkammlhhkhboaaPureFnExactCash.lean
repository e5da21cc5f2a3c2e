/- FnExactCash is true for every amount and step: both sides round the size of the amount to the nearest multiple of the step, and put the sign back. -/
import Derived.Test.YtlkammlhhkhboaaPAllx2
import Derived.Test.YtlkammlhhkhboaaPAllx3
import Derived.Test.YtlkammlhhkhboaaMoney
namespace Go.Proofs.Ytlkammlhhkhboaa.Pure
open Go.RowKit Go.Proofs.Ytlkammlhhkhboaa Go.Proofs.Ytlkammlhhkhboaa.PAll Go.Proofs.YtlkammlhhkhboaaW.PrintWords Go.Proofs.YtlkammlhhkhboaaW.PrintLast

/-- A size rounded to a step. -/
def toStep (s b : Int) : Int := if 2 * (s - Int.tdiv s b * b) > b then Int.tdiv s b * b + b else Int.tdiv s b * b

theorem toStep_bd {s b : Int} (h : 0 ≤ s) (hb : 1 ≤ b) : 0 ≤ toStep s b ∧ toStep s b ≤ s + b := by
  have := tdiv_mul_le h hb
  unfold toStep
  split <;> omega

theorem spec_pos (a b : Int) (h : 0 ≤ a) (h1 : a ≤ 1000000000) (hb : 1 ≤ b) (hb1 : b ≤ 1000) (k : Nat) :
    spec_Cash.f (k + 1) a b = some (if toStep a b ≤ 1000000000 then (toStep a b, 0) else (0, 11)) := by
  have := tdiv_mul_le h hb
  have hs := toStep_bd h hb
  simp only [spec_Cash.f]
  rw [l01Money_is, l01In_is]
  simp only [Option.bind_some]
  rw [if_pos (by simp; omega)]
  rw [if_pos (by simp; omega), if_neg (by omega), if_neg (by omega)]
  rw [w64 (x := Int.tdiv a b) (by omega) (by omega), w64 (x := Int.tdiv a b * b) (by omega) (by omega), w64 (x := a - _) (by omega) (by omega), w64 (x := 2 * _) (by omega) (by omega), w64 (x := _ + b) (by omega) (by omega), told_is, told_is]
  simp only [Option.bind_some]
  unfold toStep at hs ⊢
  repeat' split
  all_goals first | rfl | omega

theorem impl_any (a b : Int) (h0 : -1000000000 ≤ a) (h1 : a ≤ 1000000000) (hb : 1 ≤ b) (hb1 : b ≤ 1000) :
    impl_Cash.f a b = some (if toStep (if a < 0 then -a else a) b ≤ 1000000000 then ((if a < 0 then -toStep (-a) b else toStep a b), 0) else (0, 11)) := by
  unfold impl_Cash.f
  rw [isMoney_is, within_is]
  simp only [Option.bind_some]
  rw [if_pos (by simp; omega), if_pos (by simp; omega)]
  unfold impl_sizeOf.f
  have hm : mx a (wrap64 (-a)) = if a < 0 then -a else a := by
    rw [w64 (by omega) (by omega)]; unfold mx; split <;> split <;> omega
  rw [hm]
  simp only [Option.bind_some]
  rw [if_neg (by omega)]
  by_cases hn : a < 0
  · simp only [if_pos hn]
    have := tdiv_mul_le (a := -a) (by omega) hb
    have hs := toStep_bd (s := -a) (by omega) hb
    rw [w64 (x := Int.tdiv (-a) b) (by omega) (by omega), w64 (x := Int.tdiv (-a) b * b) (by omega) (by omega), w64 (x := -a - _) (by omega) (by omega), w64 (x := 2 * _) (by omega) (by omega), w64 (x := _ + b) (by omega) (by omega), w64 (x := -(_ + b)) (by omega) (by omega), w64 (x := -(_ * b)) (by omega) (by omega), money_is, money_is]
    simp only [Option.bind_some]
    unfold toStep at hs ⊢
    repeat' split
    all_goals first | rfl | omega
  · simp only [if_neg hn]
    have := tdiv_mul_le (a := a) (by omega) hb
    have hs := toStep_bd (s := a) (by omega) hb
    rw [w64 (x := Int.tdiv a b) (by omega) (by omega), w64 (x := Int.tdiv a b * b) (by omega) (by omega), w64 (x := a - _) (by omega) (by omega), w64 (x := 2 * _) (by omega) (by omega), w64 (x := _ + b) (by omega) (by omega), money_is, money_is]
    simp only [Option.bind_some]
    unfold toStep at hs ⊢
    repeat' split
    all_goals first | rfl | omega

theorem spec_any (a b : Int) (h0 : -1000000000 ≤ a) (h1 : a ≤ 1000000000) (hb : 1 ≤ b) (hb1 : b ≤ 1000) (k : Nat) :
    spec_Cash.f (k + 2) a b = some (if toStep (if a < 0 then -a else a) b ≤ 1000000000 then ((if a < 0 then -toStep (-a) b else toStep a b), 0) else (0, 11)) := by
  by_cases hn : a < 0
  · have e := spec_pos (-a) b (by omega) (by omega) hb hb1 k
    have hs := toStep_bd (s := -a) (by omega) hb
    rw [show k + 2 = (k + 1) + 1 from rfl, spec_Cash.f, l01Money_is, l01In_is]
    simp only [Option.bind_some]
    rw [if_pos (by simp; omega), if_pos (by simp; omega), if_pos hn, w64 (x := -a) (by omega) (by omega), e]
    simp only [Option.bind_some, if_pos hn]
    split
    · rw [w64 (by omega) (by omega)]
    · simp; exact w64 (by omega) (by omega)
  · rw [spec_pos a b (by omega) h1 hb hb1]
    simp only [if_neg hn]

theorem FnExactCash : laws_FnExactCash.Pure := by
  intro a b _ _
  refine ⟨2, ?_⟩
  unfold laws_FnExactCash.f
  by_cases hm : -1000000000 ≤ a ∧ a ≤ 1000000000
  · by_cases hr : 1 ≤ b ∧ b ≤ 1000
    · rw [spec_any a b hm.1 hm.2 hr.1 hr.2 0, impl_any a b hm.1 hm.2 hr.1 hr.2]
      simp
    · simp only [spec_Cash.f, impl_Cash.f]
      rw [l01Money_is, l01In_is, isMoney_is, within_is]
      simp [hm, hr]
  · simp only [spec_Cash.f, impl_Cash.f]
    rw [l01Money_is, isMoney_is]
    simp [hm]

end Go.Proofs.Ytlkammlhhkhboaa.Pure
