/- FnExactMoneyText is true for every number: both sides refuse what is no amount, and write the same text of one. -/
import Derived.Test.YtdlfpjbhcpnpfaaDoorPAllx1
import Derived.Test.YtdlfpjbhcpnpfaaDoorPAllx2
import Derived.Test.YtdlfpjbhcpnpfaaDoorMoneyText
namespace Go.Proofs.YtdlfpjbhcpnpfaaDoor.Pure
open Go.RowKit Go.Proofs.YtdlfpjbhcpnpfaaDoor Go.Proofs.YtdlfpjbhcpnpfaaDoor.PAll Go.Proofs.YtdlfpjbhcpnpfaaDoorW.PrintWords Go.Proofs.YtdlfpjbhcpnpfaaDoorW.PrintLast

theorem FnExactMoneyText : laws_FnExactMoneyText.Pure := by
  intro a ha
  have hw := wf64 ha
  refine ⟨100, ?_⟩
  unfold laws_FnExactMoneyText.f spec_MoneyText.f impl_MoneyText.f spec_l01Money.f impl_isMoney.f
  have e1 : spec_l01In.f a (-1000000000) 1000000000 = some (decide (-1000000000 ≤ a ∧ a ≤ 1000000000)) := by
    unfold spec_l01In.f
    by_cases h : a ≥ -1000000000
    · rw [if_pos h]; simp; omega
    · rw [if_neg h]; simp; omega
  have e2 : impl_within.f a (-1000000000) 1000000000 = some (decide (-1000000000 ≤ a ∧ a ≤ 1000000000)) := by
    unfold impl_within.f
    by_cases h : a ≥ -1000000000
    · rw [if_pos h]; simp; omega
    · rw [if_neg h]; simp; omega
  rw [e1, e2]
  by_cases h : -1000000000 ≤ a ∧ a ≤ 1000000000
  · rw [decide_eq_true h]
    simp only [Option.bind_some, if_true]
    rw [text_is a 100 (by omega) (by omega) (by omega), moneyText_is a (by omega) (by omega)]
    simp
  · rw [decide_eq_false h]
    simp

end Go.Proofs.YtdlfpjbhcpnpfaaDoor.Pure
