/- Rules one by one: right rules are each right; the first rule for which a test holds. -/
import Derived.Test.YthhhmcijbplcoaaGreatDoorPFnRulesx0
import Derived.Test.YthhhmcijbplcoaaGreatDoorPFnRulesx4
import Derived.Test.YthhhmcijbplcoaaGreatDoorClauses
namespace Go.Proofs.YthhhmcijbplcoaaGreatDoor
open Go.RowKit Go.Proofs.YthhhmcijbplcoaaGreatDoor.PFnRules Go.Proofs.YthhhmcijbplcoaaGreatDoorW.PrintWords Go.Proofs.YthhhmcijbplcoaaGreatDoorW.PrintLast

theorem goC_all (rows : List S41) : ∀ (l : List S41) (i : Nat), goC rows l i = true → ∀ c ∈ l, clauseB c = true
  | [], _, _ => fun c hc => by simp at hc
  | x :: xs, i, h => by
    rw [goC, Bool.and_eq_true, Bool.and_eq_true] at h
    intro c hc
    rcases List.mem_cons.1 hc with e | e
    · rw [e]; exact h.1
    · exact goC_all rows xs (i + 1) h.2.2 c e

theorem idx_is (p : S41 → Option Bool) (q : S41 → Bool) : ∀ (l : List S41) (i : Int), (∀ x ∈ l, p x = some (q x)) → impl_Clause_38.f p l i = some (firstOf q l i)
  | [], _, _ => rfl
  | x :: xs, i, h => by
    unfold impl_Clause_38.f firstOf
    rw [h x (List.mem_cons_self ..), Option.bind_some, idx_is p q xs (i + 1) (fun y hy => h y (List.mem_cons_of_mem _ hy))]
    cases q x <;> simp

end Go.Proofs.YthhhmcijbplcoaaGreatDoor
