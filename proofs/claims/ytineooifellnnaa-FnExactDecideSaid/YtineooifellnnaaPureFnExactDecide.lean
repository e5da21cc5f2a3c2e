/- FnExactDecide is true for every list of rules and all facts: longer lists are let by by the law's own guard; both sides tell the same rule and the same error, and the list stays as it was. -/
import Derived.Test.YtineooifellnnaaPAllx0
import Derived.Test.YtineooifellnnaaPAllx3
import Derived.Test.YtineooifellnnaaPAllx6
import Derived.Test.YtineooifellnnaaPAllx7
import Derived.Test.YtineooifellnnaaDecide
namespace Go.Proofs.Ytineooifellnnaa.Pure
open Go.RowKit Go.Proofs.Ytineooifellnnaa Go.Proofs.Ytineooifellnnaa.PAll Go.Proofs.YtineooifellnnaaW.PrintWords Go.Proofs.YtineooifellnnaaW.PrintLast

theorem FnExactDecide (l0 : List S24) (x1 : S38) (h : l0.length ≤ 9223372036854775807 ∧ ∀ y ∈ l0, okS24 y) (_ : okS38 x1) : ∃ k, laws_FnExactDecide.f k l0 x1.f0 x1.f1 x1.f2 x1.f3 x1.f4 = some true := by
  obtain ⟨r, h1, h2⟩ := szClauseS_ok l0 h.1 h.2
  refine ⟨2200001, ?_⟩
  unfold laws_FnExactDecide.f
  rw [h1 _ (by omega), Option.bind_some]
  by_cases hn : r < 0
  · rw [if_pos hn]
  rw [if_neg hn]
  obtain ⟨hl, hi⟩ : l0.length ≤ 1048576 ∧ ∀ x ∈ l0, x.f1.length ≤ 1048576 := by
    rcases h2 with h | h
    · exact absurd h hn
    · exact h
  have hi2 : ∀ x ∈ l0.map cvClause, x.f1.length ≤ 1048576 := fun x hx => by
    obtain ⟨y, hy, rfl⟩ := List.mem_map.1 hx
    show (y.f1.map cvTerm).length ≤ 1048576
    rw [List.length_map]
    exact hi y hy
  obtain ⟨w, _, hw⟩ := isIn_is x1.f0 x1.f1 x1.f2 x1.f3 x1.f4 impl_bounds.all
  have ht : laws_toFacts.f x1.f0 x1.f1 x1.f2 x1.f3 x1.f4 = some (x1.f0, x1.f1, x1.f2, x1.f3, x1.f4) := rfl
  rw [toClauseS_is l0 hl hi _ (by omega), Option.bind_some, ht, Option.bind_some, decide_spec _ _ _ _ _ _ w hw _ (by omega), Option.bind_some, Option.bind_some, Option.bind_some, decide_impl _ (by rw [List.length_map]; exact hl) _ _ _ _ _ w hw _ (by omega), Option.bind_some, if_pos rfl]
  rw [show (2200001 : Nat) = 2200000 + 1 from rfl, laws_FnExactDecide.j0]
  simp only [bne_self_eq_false, Bool.false_eq_true, if_false]
  rw [toClauseS_is l0 hl hi _ (by omega), Option.bind_some, eqClauseS_refl _ (by rw [List.length_map]; exact hl) hi2 _ (by omega)]
  rfl

end Go.Proofs.Ytineooifellnnaa.Pure
