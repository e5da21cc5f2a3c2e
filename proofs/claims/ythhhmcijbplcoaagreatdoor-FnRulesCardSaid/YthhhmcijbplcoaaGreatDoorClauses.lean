/- Rules: the program and the reference answer alike whether they are right, given rounds enough. -/
import Derived.Test.YthhhmcijbplcoaaGreatDoorPFnRulesx0
import Derived.Test.YthhhmcijbplcoaaGreatDoorPFnRulesx4
import Derived.Test.YthhhmcijbplcoaaGreatDoorPFnRulesx7
import Derived.Test.YthhhmcijbplcoaaGreatDoorClause1
import Derived.Test.YthhhmcijbplcoaaGreatDoorClauses0
import Derived.Test.YthhhmcijbplcoaaGreatDoorRdClause
namespace Go.Proofs.YthhhmcijbplcoaaGreatDoor
open Go.RowKit Go.Proofs.YthhhmcijbplcoaaGreatDoor.PFnRules Go.Proofs.YthhhmcijbplcoaaGreatDoorW.PrintWords Go.Proofs.YthhhmcijbplcoaaGreatDoorW.PrintLast

/-- The rules, one after another. -/
def goC (rows : List S41) : List S41 → Nat → Bool
  | [], _ => true
  | c :: rest, i => clauseB c && (!decide (firstOf (namedC c.f0) (rows.take i) 0 ≥ 0) && goC rows rest (i + 1))

def clausesB (l : List S41) : Bool := goC l l 0 && decide ((l.length : Int) ≤ 40)

theorem clauses_impl (l : List S41) (hl : l.length ≤ 1048576) (k : Nat) (hk : 2200000 ≤ k) : impl_ClausesOK.f k l = some (clausesB l) := by
  unfold impl_ClausesOK.f clausesB
  have key : ∀ d i k, i + d = l.length → d + 100 < k → impl_ClausesOK.l0 k l l (l.length : Int) (i : Int) = some (goC l (l.drop i) i && decide ((l.length : Int) ≤ 40)) := by
    intro d
    induction d with
    | zero =>
      intro i k hi hk
      obtain ⟨k, rfl⟩ : ∃ m, k = m + 1 := ⟨k - 1, by omega⟩
      rw [impl_ClausesOK.l0, if_neg (by omega), List.drop_eq_nil_of_le (by omega), goC, Bool.true_and]
    | succ d ih =>
      intro i k hi hk
      obtain ⟨k, rfl⟩ : ∃ m, k = m + 1 := ⟨k - 1, by omega⟩
      have hil : i < l.length := by omega
      have e := ih (i + 1) k (by omega) (by omega)
      rw [show ((i + 1 : Nat) : Int) = (i : Int) + 1 by omega] at e
      have hq : namedC l[i].f0 l[i] = true := by unfold namedC; exact beq_self_eq_true _
      have hat := firstOf_at (namedC l[i].f0) l i 0 hil (by omega) hq
      rw [impl_ClausesOK.l0, if_pos (by omega), if_pos (by omega), if_pos (by omega), rdBClause hil, clause_impl _ k (by omega), Option.bind_some, List.drop_eq_getElem_cons hil, goC]
      cases clauseB l[i]
      · rfl
      rw [if_pos rfl]
      unfold impl_clauseAt.f
      rw [at_is, Option.bind_some, w64 (by omega) (by omega)]
      by_cases hf : firstOf (namedC l[i].f0) l 0 = (i : Int)
      · have h2 := hat.1 (by omega)
        rw [if_pos hf, e, decide_eq_false (show ¬ firstOf (namedC l[i].f0) (l.take i) 0 ≥ 0 by omega)]; rfl
      · have h2 : ¬ firstOf (namedC l[i].f0) (l.take i) 0 < 0 := fun h => hf (by have := hat.2 h; omega)
        rw [if_neg hf, decide_eq_true (show firstOf (namedC l[i].f0) (l.take i) 0 ≥ 0 by omega)]; rfl
  have := key l.length 0 k (by omega) (by omega)
  simpa using this

end Go.Proofs.YthhhmcijbplcoaaGreatDoor
