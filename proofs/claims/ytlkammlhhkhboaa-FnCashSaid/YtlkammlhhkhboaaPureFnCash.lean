/- FnCash is true for all bytes: what the program rounds a drawn amount to is a multiple of the step, no farther than half of it, and the same below 0; longer texts of bytes are let by by the law's own guard. -/
import Derived.Test.YtlkammlhhkhboaaPAllx9
import Derived.Test.YtlkammlhhkhboaaPureFnExactCash
import Derived.Test.YtlkammlhhkhboaaAt
import Derived.Test.YtlkammlhhkhboaaAmount
namespace Go.Proofs.Ytlkammlhhkhboaa.Pure
open Go.RowKit Go.Proofs.Ytlkammlhhkhboaa Go.Proofs.Ytlkammlhhkhboaa.PAll Go.Proofs.YtlkammlhhkhboaaW.PrintWords Go.Proofs.YtlkammlhhkhboaaW.PrintLast

theorem toStep_near {s b : Int} (h : 0 ≤ s) (hb : 1 ≤ b) : Int.tmod (toStep s b) b = 0 ∧ 2 * (toStep s b - s) ≤ b ∧ -(2 * (toStep s b - s)) ≤ b := by
  have hd := tdiv_mul_le h hb
  unfold toStep
  generalize Int.tdiv s b = q at *
  have e : q * b + b = (q + 1) * b := by rw [Int.add_mul, Int.one_mul]
  split
  · refine ⟨?_, by omega, by omega⟩
    rw [e]; exact Int.mul_tmod_left _ _
  · exact ⟨Int.mul_tmod_left _ _, by omega, by omega⟩

theorem toStep_neg {s b : Int} (h : 0 ≤ s) (hb : 1 ≤ b) : Int.tmod (-toStep s b) b = 0 := by
  rw [Int.neg_tmod, (toStep_near h hb).1]; rfl

theorem FnCash : laws_FnCash.Pure := by
  intro l0 l1 _ _ hb0 _ _ hb1
  refine ⟨1, ?_⟩
  unfold laws_FnCash.f
  by_cases hl0 : (l0.length : Int) > 1048576
  · rw [if_pos hl0]; simp [laws_FnCash.j0]
  · rw [if_neg hl0]
    by_cases hl1 : (l1.length : Int) > 1048576
    · rw [decide_eq_true hl1]; simp [laws_FnCash.j0]
    · rw [decide_eq_false hl1, laws_FnCash.j0, if_neg (by decide)]
      obtain ⟨n, ra, rb, e1, n0, n1, _⟩ := amount_ok (by omega) hb0
      obtain ⟨t, e2, t0, t1⟩ := at_ok (l := l1) 0 100 (by omega) (bytes_bd hb1) (by omega) (by omega) (by omega)
      have := t1 (by omega)
      rw [e1]; simp only [Option.bind_some]
      rw [e2]; simp only [Option.bind_some]
      rw [w64 (x := 1 + t) (by omega) (by omega), w64 (x := -n) (by omega) (by omega)]
      generalize hstep : 1 + t = b at *
      rw [impl_any n b (by omega) (by omega) (by omega) (by omega), impl_any (-n) b (by omega) (by omega) (by omega) (by omega)]
      simp only [Option.bind_some]
      by_cases hn : n < 0
      · have h2 : ¬ (-n < 0) := by omega
        simp only [if_pos hn, if_neg h2]
        have hbd := toStep_bd (s := -n) (b := b) (by omega) (by omega)
        have hnr := toStep_near (s := -n) (b := b) (by omega) (by omega)
        have hng := toStep_neg (s := -n) (b := b) (by omega) (by omega)
        generalize toStep (-n) b = x at *
        have hxb : x ≤ 1000000000 := by omega
        simp only [if_pos hxb, eq_self, if_true]
        rw [if_neg (by omega), if_pos hng, w64 (x := -x - n) (by omega) (by omega), w64 (x := 2 * (-x - n)) (by omega) (by omega), w64 (x := -(2 * (-x - n))) (by omega) (by omega), w64 (x := - -x) (by omega) (by omega), if_pos (by omega), if_pos (by omega)]
        simp
      · by_cases hz : n = 0
        · subst hz
          have hbd := toStep_bd (s := 0) (b := b) (by omega) (by omega)
          have hz0 : toStep 0 b = 0 := by
            unfold toStep; rw [Int.zero_tdiv, if_neg (by omega)]; omega
          simp [hz0]
          refine ⟨by omega, ?_⟩
          rw [w64 (x := 0) (by omega) (by omega), show (2 * 0 : Int) = 0 by omega, w64 (x := 0) (by omega) (by omega), show (-0 : Int) = 0 by omega, w64 (x := 0) (by omega) (by omega), if_pos (by omega), if_pos (by omega)]
          rfl
        · have h2 : -n < 0 := by omega
          simp only [if_neg hn, if_pos h2]
          rw [show - -n = n by omega]
          have hbd := toStep_bd (s := n) (b := b) (by omega) (by omega)
          have hnr := toStep_near (s := n) (b := b) (by omega) (by omega)
          generalize toStep n b = x at *
          have hxb : x ≤ 1000000000 := by omega
          simp only [if_pos hxb, eq_self, if_true]
          rw [if_neg (by omega), if_pos hnr.1, w64 (x := x - n) (by omega) (by omega), w64 (x := 2 * (x - n)) (by omega) (by omega), w64 (x := -(2 * (x - n))) (by omega) (by omega), w64 (x := -x) (by omega) (by omega), if_pos (by omega), if_pos (by omega)]
          simp

end Go.Proofs.Ytlkammlhhkhboaa.Pure
