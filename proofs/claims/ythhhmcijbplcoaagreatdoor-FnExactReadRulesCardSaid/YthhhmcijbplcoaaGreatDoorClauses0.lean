/- The place of the first rule of a name. -/
import Derived.Test.YthhhmcijbplcoaaGreatDoorPFnExactReadRulesx0
import Derived.Test.YthhhmcijbplcoaaGreatDoorPFnExactReadRulesx3
import Derived.Test.YthhhmcijbplcoaaGreatDoorPFnExactReadRulesx6
import Derived.Test.YthhhmcijbplcoaaGreatDoorClause0
import Derived.Test.YthhhmcijbplcoaaGreatDoorFirst
import Derived.Test.YthhhmcijbplcoaaGreatDoorRdClause
namespace Go.Proofs.YthhhmcijbplcoaaGreatDoor
open Go.RowKit Go.Proofs.YthhhmcijbplcoaaGreatDoor.PFnExactReadRules Go.Proofs.YthhhmcijbplcoaaGreatDoorW.PrintWords Go.Proofs.YthhhmcijbplcoaaGreatDoorW.PrintLast

def namedC (s : ByteArray) (x : S41) : Bool := x.f0.toList == s.toList

theorem at_is (s : ByteArray) : ∀ (l : List S41) (i : Int), impl_Clause.f (impl_clauseAt_1.p s) l i = some (firstOf (namedC s) l i)
  | [], _ => rfl
  | x :: xs, i => by
    unfold impl_Clause.f firstOf
    have hx : impl_clauseAt_1.p s x = some (namedC s x) := rfl
    rw [hx, Option.bind_some, at_is s xs (i + 1)]
    cases namedC s x <;> simp

theorem firstOf_at {α : Type} (q : α → Bool) : ∀ (l : List α) (i : Nat) (b : Int) (h : i < l.length), 0 ≤ b → q l[i] = true → (firstOf q l b = b + i ↔ firstOf q (l.take i) b < 0)
  | [], _, _, h, _, _ => by simp at h
  | x :: xs, 0, b, _, _, hq => by
    have hx : q x = true := hq
    simp [firstOf, hx]
  | x :: xs, i + 1, b, h, hb, hq => by
    have h' : i < xs.length := by simpa using h
    have hq' : q xs[i] = true := hq
    have ih := firstOf_at q xs i (b + 1) h' (by omega) hq'
    rw [List.take_succ_cons, firstOf, firstOf]
    cases hx : q x
    · simp only [Bool.false_eq_true, if_false]
      rw [← ih]
      constructor <;> intro e <;> omega
    · simp only [if_true]
      constructor <;> intro e <;> omega

theorem find_loop6 (l : List S41) (s : ByteArray) (hl : l.length ≤ 1048576) (k : Nat) (hk : l.length < k) : spec_l06Find.f k l s = some (firstOf (namedC s) l 0) := by
  have key : ∀ d i k, i + d = l.length → d < k → spec_l06Find.l0 k l s (i : Int) = some (firstOf (namedC s) (l.drop i) (i : Int)) := by
    intro d
    induction d with
    | zero =>
      intro i k hi hk
      obtain ⟨k, rfl⟩ : ∃ m, k = m + 1 := ⟨k - 1, by omega⟩
      rw [spec_l06Find.l0, if_neg (by omega), List.drop_eq_nil_of_le (by omega)]; rfl
    | succ d ih =>
      intro i k hi hk
      obtain ⟨k, rfl⟩ : ∃ m, k = m + 1 := ⟨k - 1, by omega⟩
      have e := ih (i + 1) k (by omega) (by omega)
      rw [show ((i + 1 : Nat) : Int) = (i : Int) + 1 by omega] at e
      rw [spec_l06Find.l0, if_pos (by omega), if_pos (by omega), rdBClause (by omega), List.drop_eq_getElem_cons (by omega : i < l.length), firstOf, w64 (by omega) (by omega), e]
      unfold namedC
      by_cases h0 : (l[i]).f0.toList = s.toList
      · rw [if_pos h0, if_pos (by simpa using h0)]
      · rw [if_neg h0, if_neg (by simpa using h0)]
  unfold spec_l06Find.f
  have := key l.length 0 k (by omega) hk
  simpa using this

end Go.Proofs.YthhhmcijbplcoaaGreatDoor
