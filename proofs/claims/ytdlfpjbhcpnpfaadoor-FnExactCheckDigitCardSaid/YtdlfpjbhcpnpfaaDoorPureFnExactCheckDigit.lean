/- FnExactCheckDigit is true for every text. -/
import Derived.Test.YtdlfpjbhcpnpfaaDoorPAllx1
import Derived.Test.YtdlfpjbhcpnpfaaDoorPAllx4
import Derived.Test.YtdlfpjbhcpnpfaaDoorPAllx5
import Derived.Test.YtdlfpjbhcpnpfaaDoorScan
namespace Go.Proofs.YtdlfpjbhcpnpfaaDoor.Pure
open Go.RowKit Go.Proofs.YtdlfpjbhcpnpfaaDoor Go.Proofs.YtdlfpjbhcpnpfaaDoor.PAll Go.Proofs.YtdlfpjbhcpnpfaaDoorW.PrintWords Go.Proofs.YtdlfpjbhcpnpfaaDoorW.PrintLast

theorem FnExactCheckDigit : laws_FnExactCheckDigit.Pure := by
  intro t ht
  refine ⟨100, ?_⟩
  unfold laws_FnExactCheckDigit.f
  by_cases hL : (t.size : Int) > 1048576
  · rw [if_pos hL]
  rw [if_neg hL]
  unfold spec_CheckDigit.f impl_CheckDigit.f
  rw [texts_is, Option.bind_some]
  by_cases h1 : t.size ≤ 65536
  · rw [if_neg (by omega), if_pos (decide_eq_true h1)]
    by_cases h2 : (t.size : Int) < 1
    · have e : impl_within.f (t.size : Int) 1 17 = some false := by unfold impl_within.f; rw [if_neg (by omega)]
      rw [if_pos h2, e]; simp
    · rw [if_neg h2]
      by_cases h3 : (t.size : Int) > 17
      · have e : impl_within.f (t.size : Int) 1 17 = some false := by unfold impl_within.f; rw [if_pos (by omega)]; simp; omega
        rw [if_pos h3, e]; simp
      · have e : impl_within.f (t.size : Int) 1 17 = some true := by unfold impl_within.f; rw [if_pos (by omega)]; simp; omega
        rw [if_neg h3, e, all_is t (by omega) 100 (by omega), allDigits_is t (by omega)]
        cases hd : allD t
        · simp
        · obtain ⟨r, e1, e2, -⟩ := check_is t hd (by omega) 100 (by omega)
          rw [e1, e2]; simp
  · rw [if_pos (by omega), decide_eq_false h1]; simp

end Go.Proofs.YtdlfpjbhcpnpfaaDoor.Pure
