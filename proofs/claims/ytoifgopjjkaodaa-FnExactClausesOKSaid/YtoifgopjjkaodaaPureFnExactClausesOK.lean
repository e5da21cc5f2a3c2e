/- FnExactClausesOK is true for every list of rules: longer lists are let by by the law's own guard; both sides give the same answer, and the list stays as it was. -/
import Derived.Test.YtoifgopjjkaodaaPAllx0
import Derived.Test.YtoifgopjjkaodaaPAllx6
import Derived.Test.YtoifgopjjkaodaaClauses
namespace Go.Proofs.Ytoifgopjjkaodaa.Pure
open Go.RowKit Go.Proofs.Ytoifgopjjkaodaa Go.Proofs.Ytoifgopjjkaodaa.PAll Go.Proofs.YtoifgopjjkaodaaW.PrintWords Go.Proofs.YtoifgopjjkaodaaW.PrintLast

theorem FnExactClausesOK (l0 : List S39) (h : l0.length ≤ 9223372036854775807 ∧ ∀ y ∈ l0, okS39 y) : ∃ k, laws_FnExactClausesOK.f k l0 = some true := by
  obtain ⟨r, h1, h2⟩ := szClauseS_ok l0 h.1 h.2
  refine ⟨2200000, ?_⟩
  unfold laws_FnExactClausesOK.f
  rw [h1 _ (by omega), Option.bind_some]
  by_cases hn : r < 0
  · rw [if_pos hn]
  rw [if_neg hn]
  obtain ⟨hl, hi⟩ : l0.length ≤ 1048576 ∧ ∀ x ∈ l0, x.f1.length ≤ 1048576 := by
    rcases h2 with h | h
    · exact absurd h hn
    · exact h
  have hi2 : ∀ x ∈ l0.map cvClause, x.f1.length ≤ 1048576 := fun x hx => by
    obtain ⟨y, hy, rfl⟩ := List.mem_map.1 hx
    show (y.f1.map cvTerm).length ≤ 1048576
    rw [List.length_map]
    exact hi y hy
  rw [toClauseS_is l0 hl hi _ (by omega), Option.bind_some, clauses_spec _ _ (by omega), Option.bind_some, Option.bind_some, clauses_impl _ (by rw [List.length_map]; exact hl) _ (by omega), Option.bind_some]
  simp only [bne_self_eq_false, Bool.false_eq_true, if_false, Option.bind_some]
  rw [eqClauseS_refl _ (by rw [List.length_map]; exact hl) hi2 _ (by omega)]
  rfl

end Go.Proofs.Ytoifgopjjkaodaa.Pure
