/- FnExactNameOK is true for every text of at most 2^20 bytes, and of longer ones by its own guard: both sides go through the text letter by letter, of one byte or of two, and answer alike. -/
import Derived.Test.YtlkammlhhkhboaaPAllx7
import Derived.Test.YtlkammlhhkhboaaName
namespace Go.Proofs.Ytlkammlhhkhboaa.Pure
open Go.RowKit Go.Proofs.Ytlkammlhhkhboaa Go.Proofs.Ytlkammlhhkhboaa.PAll Go.Proofs.YtlkammlhhkhboaaW.PrintWords Go.Proofs.YtlkammlhhkhboaaW.PrintLast

theorem FnExactNameOK : laws_FnExactNameOK.Pure := by
  intro a0 _
  refine ⟨84, ?_⟩
  unfold laws_FnExactNameOK.f
  rw [(name_both a0 84 (by omega)).1, (name_both a0 84 (by omega)).2]
  simp

end Go.Proofs.Ytlkammlhhkhboaa.Pure
