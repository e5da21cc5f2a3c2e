/- FnExactRulesText is true for all rules: longer rows are let by by the law's own guard; both sides tell the same text and the same code, and the rules stay as they were. -/
import Derived.Test.YtplboloibpkdeaaDoorPFnExactRulesTextx0
import Derived.Test.YtplboloibpkdeaaDoorPFnExactRulesTextx7
import Derived.Test.YtplboloibpkdeaaDoorRuleText
import Derived.Test.YtplboloibpkdeaaDoorStdClause
namespace Go.Proofs.YtplboloibpkdeaaDoor.Pure
open Go.RowKit Go.Proofs.YtplboloibpkdeaaDoor Go.Proofs.YtplboloibpkdeaaDoor.PFnExactRulesText Go.Proofs.YtplboloibpkdeaaDoorW.PrintWords Go.Proofs.YtplboloibpkdeaaDoorW.PrintLast

theorem FnExactRulesText (l0 : List S33) (h : l0.length ≤ 9223372036854775807 ∧ ∀ y ∈ l0, okS33 y) : ∃ k, laws_FnExactRulesText.f k l0 = some true := by
  obtain ⟨r, h1, h2⟩ := szClauseS_ok l0 h.1 h.2
  refine ⟨2200001, ?_⟩
  unfold laws_FnExactRulesText.f
  rw [h1 _ (by omega), Option.bind_some]
  by_cases hn : r < 0
  · rw [if_pos hn]
  rw [if_neg hn]
  obtain ⟨hl, hi⟩ : l0.length ≤ 1048576 ∧ ∀ x ∈ l0, x.f1.length ≤ 1048576 := by
    rcases h2 with h | h
    · exact absurd h hn
    · exact h
  have hi2 : ∀ x ∈ l0.map cvClause, x.f1.length ≤ 1048576 := fun x hx => by
    obtain ⟨y, hy, rfl⟩ := List.mem_map.1 hx
    show (y.f1.map cvTerm).length ≤ 1048576
    rw [List.length_map]
    exact hi y hy
  have hl2 : (l0.map cvClause).length ≤ 1048576 := by rw [List.length_map]; exact hl
  rw [toClauseS_is l0 hl hi _ (by omega), Option.bind_some, rules_spec _ _ (by omega), Option.bind_some, Option.bind_some, rules_impl _ hl2 _ (by omega), Option.bind_some]
  simp only [bne_self_eq_false, if_true]
  rw [show (2200001 : Nat) = 2200000 + 1 from rfl, laws_FnExactRulesText.j0, if_neg (by decide), toClauseS_is l0 hl hi _ (by omega), Option.bind_some, eqClauseS_refl _ hl2 hi2 _ (by omega)]
  rfl

end Go.Proofs.YtplboloibpkdeaaDoor.Pure
