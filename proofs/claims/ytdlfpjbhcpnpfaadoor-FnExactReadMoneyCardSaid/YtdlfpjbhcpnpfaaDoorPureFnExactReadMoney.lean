/- FnExactReadMoney is true for every text. -/
import Derived.Test.YtdlfpjbhcpnpfaaDoorPFnExactReadMoneyx3
import Derived.Test.YtdlfpjbhcpnpfaaDoorPFnExactReadMoneyx3
import Derived.Test.YtdlfpjbhcpnpfaaDoorPFnExactReadMoneyx3
import Derived.Test.YtdlfpjbhcpnpfaaDoorReadMoney
import Derived.Test.YtdlfpjbhcpnpfaaDoorAreTexts
namespace Go.Proofs.YtdlfpjbhcpnpfaaDoor.Pure
open Go.RowKit Go.Proofs.YtdlfpjbhcpnpfaaDoor Go.Proofs.YtdlfpjbhcpnpfaaDoor.PFnExactReadMoney Go.Proofs.YtdlfpjbhcpnpfaaDoorW.PrintWords Go.Proofs.YtdlfpjbhcpnpfaaDoorW.PrintLast

theorem FnExactReadMoney : laws_FnExactReadMoney.Pure := by
  intro t ht
  refine ⟨100, ?_⟩
  unfold laws_FnExactReadMoney.f
  by_cases hL : (t.size : Int) > 1048576
  · rw [if_pos hL]
  rw [if_neg hL]
  by_cases h1 : t.size ≤ 65536
  · have hl : t.data.toList.length ≤ 65536 := by rw [← Lib.size_eq]; exact h1
    have ha : impl_areTexts.f [bs t.data.toList] = some true := by rw [bs_back, texts_is, decide_eq_true h1]
    have hS := spec_is t.data.toList hl 100 (by omega)
    rcases impl_is t.data.toList hl 100 (by omega) ha with ⟨neg, W, x, y, s, e⟩ | ⟨no, e⟩
    · have e2 := hS.1 neg W x y s
      rw [bs_back] at e e2
      rw [e, e2]; simp
    · have e2 := hS.2 no
      rw [bs_back] at e e2
      rw [e, e2]; simp
  · have e : spec_ReadMoney.f 100 t = some (0, 2) := by unfold spec_ReadMoney.f; rw [if_pos (by omega)]
    have e2 : impl_ReadMoney.f 100 t = some (0, 2) := by unfold impl_ReadMoney.f; rw [texts_is, decide_eq_false h1]; simp
    rw [e, e2]; simp

end Go.Proofs.YtdlfpjbhcpnpfaaDoor.Pure
