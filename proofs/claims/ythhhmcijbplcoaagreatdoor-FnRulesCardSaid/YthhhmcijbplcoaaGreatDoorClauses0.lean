/- The place of the first rule of a name. -/
import Derived.Test.YthhhmcijbplcoaaGreatDoorPFnRulesx0
import Derived.Test.YthhhmcijbplcoaaGreatDoorPFnRulesx4
import Derived.Test.YthhhmcijbplcoaaGreatDoorClause0
import Derived.Test.YthhhmcijbplcoaaGreatDoorFirst
import Derived.Test.YthhhmcijbplcoaaGreatDoorRdClause
namespace Go.Proofs.YthhhmcijbplcoaaGreatDoor
open Go.RowKit Go.Proofs.YthhhmcijbplcoaaGreatDoor.PFnRules Go.Proofs.YthhhmcijbplcoaaGreatDoorW.PrintWords Go.Proofs.YthhhmcijbplcoaaGreatDoorW.PrintLast

def namedC (s : ByteArray) (x : S41) : Bool := x.f0.toList == s.toList

theorem at_is (s : ByteArray) : ∀ (l : List S41) (i : Int), impl_Clause_38.f (impl_clauseAt_1.p s) l i = some (firstOf (namedC s) l i)
  | [], _ => rfl
  | x :: xs, i => by
    unfold impl_Clause_38.f firstOf
    have hx : impl_clauseAt_1.p s x = some (namedC s x) := rfl
    rw [hx, Option.bind_some, at_is s xs (i + 1)]
    cases namedC s x <;> simp

theorem firstOf_at {α : Type} (q : α → Bool) : ∀ (l : List α) (i : Nat) (b : Int) (h : i < l.length), 0 ≤ b → q l[i] = true → (firstOf q l b = b + i ↔ firstOf q (l.take i) b < 0)
  | [], _, _, h, _, _ => by simp at h
  | x :: xs, 0, b, _, _, hq => by
    have hx : q x = true := hq
    simp [firstOf, hx]
  | x :: xs, i + 1, b, h, hb, hq => by
    have h' : i < xs.length := by simpa using h
    have hq' : q xs[i] = true := hq
    have ih := firstOf_at q xs i (b + 1) h' (by omega) hq'
    rw [List.take_succ_cons, firstOf, firstOf]
    cases hx : q x
    · simp only [Bool.false_eq_true, if_false]
      rw [← ih]
      constructor <;> intro e <;> omega
    · simp only [if_true]
      constructor <;> intro e <;> omega

end Go.Proofs.YthhhmcijbplcoaaGreatDoor
