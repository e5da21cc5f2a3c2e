/- FnExactReadScan is true for every text. -/
import Derived.Test.YtdlfpjbhcpnpfaaDoorPAllx3
import Derived.Test.YtdlfpjbhcpnpfaaDoorPAllx4
import Derived.Test.YtdlfpjbhcpnpfaaDoorReadScan
namespace Go.Proofs.YtdlfpjbhcpnpfaaDoor.Pure
open Go.RowKit Go.Proofs.YtdlfpjbhcpnpfaaDoor Go.Proofs.YtdlfpjbhcpnpfaaDoor.PAll Go.Proofs.YtdlfpjbhcpnpfaaDoorW.PrintWords Go.Proofs.YtdlfpjbhcpnpfaaDoorW.PrintLast

theorem FnExactReadScan : laws_FnExactReadScan.Pure := by
  intro t ht
  refine ⟨100, ?_⟩
  unfold laws_FnExactReadScan.f
  by_cases hL : (t.size : Int) > 1048576
  · rw [if_pos hL]
  rw [if_neg hL]
  unfold impl_ReadScan.f
  rw [texts_is, Option.bind_some]
  by_cases h1 : t.size ≤ 65536
  · obtain ⟨r, e1, e2⟩ := scan_same t h1
    rw [e1, e2, decide_eq_true h1]
    unfold laws_eqScan.f
    simp
  · have e : spec_ReadScan.f 100 t = some (0, (⟨#[]⟩ : ByteArray), 0, 2) := by unfold spec_ReadScan.f; rw [if_pos (by omega)]
    rw [e, decide_eq_false h1]
    unfold laws_eqScan.f
    simp

end Go.Proofs.YtdlfpjbhcpnpfaaDoor.Pure
