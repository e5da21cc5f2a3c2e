/- One rule: the program and the reference answer alike whether it is right, given rounds enough. -/
import Derived.Test.YthhhmcijbplcoaaGreatDoorPFnRulesx0
import Derived.Test.YthhhmcijbplcoaaGreatDoorPFnRulesx4
import Derived.Test.YthhhmcijbplcoaaGreatDoorPFnRulesx6
import Derived.Test.YthhhmcijbplcoaaGreatDoorPFnRulesx7
import Derived.Test.YthhhmcijbplcoaaGreatDoorClause0
import Derived.Test.YthhhmcijbplcoaaGreatDoorRdClause
namespace Go.Proofs.YthhhmcijbplcoaaGreatDoor
open Go.RowKit Go.Proofs.YthhhmcijbplcoaaGreatDoor.PFnRules Go.Proofs.YthhhmcijbplcoaaGreatDoorW.PrintWords Go.Proofs.YthhhmcijbplcoaaGreatDoorW.PrintLast

theorem term_is (x : S66) : impl_isTerm.f x.f0 x.f1 x.f2 = some (termB x) := by
  unfold impl_isTerm.f termB
  rw [within_b, Option.bind_some, within_b, Option.bind_some]
  by_cases h : 1 ≤ x.f0 ∧ x.f0 ≤ 5
  · rw [decide_eq_true h, if_pos rfl, num_is _ _ _ h, Option.bind_some]
    cases decide (1 ≤ x.f1 ∧ x.f1 ≤ 3)
    · rfl
    · rfl
  · rw [decide_eq_false h]; rfl

theorem terms_is (l : List S66) : impl_Term_60_impl_isClause_1.f l = some (!l.all termB) := by
  have key : ∀ (l : List S66) (i : Int), 0 ≤ i → ∃ r, impl_Term_85.f (fun x => impl_isClause_1.f x.f0 x.f1 x.f2) l i = some r ∧ decide (r ≥ 0) = !l.all termB := by
    intro l
    induction l with
    | nil => intro i _; exact ⟨-1, rfl, rfl⟩
    | cons x xs ih =>
      intro i hi
      obtain ⟨r, e, hr⟩ := ih (i + 1) (by omega)
      unfold impl_Term_85.f
      have hx : impl_isClause_1.f x.f0 x.f1 x.f2 = some (!termB x) := by
        unfold impl_isClause_1.f
        rw [term_is]; rfl
      rw [hx, Option.bind_some, List.all_cons]
      cases termB x
      · exact ⟨i, rfl, by rw [decide_eq_true (by omega)]; rfl⟩
      · exact ⟨r, e, by rw [hr]; rfl⟩
  obtain ⟨r, e, hr⟩ := key l 0 (by omega)
  unfold impl_Term_60_impl_isClause_1.f impl_Term_60.f
  rw [e, Option.bind_some, hr]

theorem clause_impl (c : S41) (k : Nat) (hk : 84 ≤ k) : impl_isClause.f k c.f0 c.f1 c.f2 c.f3 = some (clauseB c) := by
  unfold impl_isClause.f clauseB
  rw [(name_both _ k hk).1, Option.bind_some, act_impl, Option.bind_some, terms_is, Option.bind_some, Bool.not_not]
  cases nameB c.f0
  · rfl
  rw [if_pos rfl]
  by_cases h : (c.f1.length : Int) ≤ 8
  · rw [if_pos h, decide_eq_true h]
    cases actB c.f2 c.f3 <;> rfl
  · rw [if_neg h, decide_eq_false h]; rfl

end Go.Proofs.YthhhmcijbplcoaaGreatDoor
