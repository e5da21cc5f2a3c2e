/- FnExactCodeWord is true for every code: within 0 to 19 both sides read the same word, outside both tell the empty one. -/
import Derived.Test.YtlkammlhhkhboaaPAllx1
import Derived.Test.YtlkammlhhkhboaaBase
namespace Go.Proofs.Ytlkammlhhkhboaa.Pure
open Go.RowKit Go.Proofs.Ytlkammlhhkhboaa Go.Proofs.Ytlkammlhhkhboaa.PAll Go.Proofs.YtlkammlhhkhboaaW.PrintWords Go.Proofs.YtlkammlhhkhboaaW.PrintLast

theorem FnExactCodeWord : laws_FnExactCodeWord.Pure := by
  intro a0 _
  unfold laws_FnExactCodeWord.f spec_CodeWord.f impl_CodeWord.f impl_within.f impl_codeWords.f
  simp only [Option.bind_some, List.length_cons, List.length_nil]
  by_cases h1 : a0 < 0
  · rw [if_pos h1, if_neg (by omega)]
    simp
  · rw [if_neg h1]
    by_cases h2 : a0 ≤ 19
    · rw [if_neg (by omega), if_pos (by omega), if_pos (by omega)]
      simp only [Option.bind_some]
      rw [if_pos (by omega)]
      simp only [h2, decide_true, Option.bind_some]
      rw [if_pos trivial]
      simp
    · rw [if_pos (by omega)]
      simp only [Option.bind_some]
      rw [if_pos (by omega)]
      simp [h2]

end Go.Proofs.Ytlkammlhhkhboaa.Pure
