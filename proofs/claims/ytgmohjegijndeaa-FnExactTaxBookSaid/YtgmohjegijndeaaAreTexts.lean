/- The program's areTexts of one text. -/
import Derived.Test.YtgmohjegijndeaaPAllx5
import Derived.Test.YtgmohjegijndeaaBase
namespace Go.Proofs.Ytgmohjegijndeaa
open Go.RowKit Go.Proofs.Ytgmohjegijndeaa.PAll Go.Proofs.YtgmohjegijndeaaW.PrintWords Go.Proofs.YtgmohjegijndeaaW.PrintLast

theorem texts_is (t : ByteArray) : impl_areTexts.f [t] = some (decide (t.size ≤ 65536)) := by
  unfold impl_areTexts.f slices_ContainsFunc_string_string_impl_areTexts_1.f slices_ContainsFunc_string_string.f slices_IndexFunc_string_string.f impl_areTexts_1.f
  by_cases h : t.size ≤ 65536
  · rw [decide_eq_true h, Option.bind_some, decide_eq_false (by omega)]; rfl
  · rw [decide_eq_false h, Option.bind_some, decide_eq_true (by omega)]; rfl

end Go.Proofs.Ytgmohjegijndeaa
