/- Rules: the program and the reference answer alike whether they are right, given rounds enough. -/
import Derived.Test.YtbmpkggjcnmieaaPAllx0
import Derived.Test.YtbmpkggjcnmieaaPAllx3
import Derived.Test.YtbmpkggjcnmieaaPAllx6
import Derived.Test.YtbmpkggjcnmieaaClause1
import Derived.Test.YtbmpkggjcnmieaaFirst
import Derived.Test.YtbmpkggjcnmieaaRdClause
namespace Go.Proofs.Ytbmpkggjcnmieaa
open Go.RowKit Go.Proofs.Ytbmpkggjcnmieaa.PAll Go.Proofs.YtbmpkggjcnmieaaW.PrintWords Go.Proofs.YtbmpkggjcnmieaaW.PrintLast

def namedC (s : ByteArray) (x : S37) : Bool := x.f0.toList == s.toList

theorem at_is (s : ByteArray) : ∀ (l : List S37) (i : Int), impl_Clause_41.f (impl_clauseAt_1.p s) l i = some (firstOf (namedC s) l i)
  | [], _ => rfl
  | x :: xs, i => by
    unfold impl_Clause_41.f firstOf
    have hx : impl_clauseAt_1.p s x = some (namedC s x) := rfl
    rw [hx, Option.bind_some, at_is s xs (i + 1)]
    cases namedC s x <;> simp

theorem firstOf_at {α : Type} (q : α → Bool) : ∀ (l : List α) (i : Nat) (b : Int) (h : i < l.length), 0 ≤ b → q l[i] = true → (firstOf q l b = b + i ↔ firstOf q (l.take i) b < 0)
  | [], _, _, h, _, _ => by simp at h
  | x :: xs, 0, b, _, _, hq => by
    have hx : q x = true := hq
    simp [firstOf, hx]
  | x :: xs, i + 1, b, h, hb, hq => by
    have h' : i < xs.length := by simpa using h
    have hq' : q xs[i] = true := hq
    have ih := firstOf_at q xs i (b + 1) h' (by omega) hq'
    rw [List.take_succ_cons, firstOf, firstOf]
    cases hx : q x
    · simp only [Bool.false_eq_true, if_false]
      rw [← ih]
      constructor <;> intro e <;> omega
    · simp only [if_true]
      constructor <;> intro e <;> omega

theorem find_loop6 (l : List S37) (s : ByteArray) (hl : l.length ≤ 1048576) (k : Nat) (hk : l.length < k) : spec_l06Find.f k l s = some (firstOf (namedC s) l 0) := by
  have key : ∀ d i k, i + d = l.length → d < k → spec_l06Find.l0 k l s (i : Int) = some (firstOf (namedC s) (l.drop i) (i : Int)) := by
    intro d
    induction d with
    | zero =>
      intro i k hi hk
      obtain ⟨k, rfl⟩ : ∃ m, k = m + 1 := ⟨k - 1, by omega⟩
      rw [spec_l06Find.l0, if_neg (by omega), List.drop_eq_nil_of_le (by omega)]; rfl
    | succ d ih =>
      intro i k hi hk
      obtain ⟨k, rfl⟩ : ∃ m, k = m + 1 := ⟨k - 1, by omega⟩
      have e := ih (i + 1) k (by omega) (by omega)
      rw [show ((i + 1 : Nat) : Int) = (i : Int) + 1 by omega] at e
      rw [spec_l06Find.l0, if_pos (by omega), if_pos (by omega), rdBClause (by omega), List.drop_eq_getElem_cons (by omega : i < l.length), firstOf, w64 (by omega) (by omega), e]
      unfold namedC
      by_cases h0 : (l[i]).f0.toList = s.toList
      · rw [if_pos h0, if_pos (by simpa using h0)]
      · rw [if_neg h0, if_neg (by simpa using h0)]
  unfold spec_l06Find.f
  have := key l.length 0 k (by omega) hk
  simpa using this

/-- The rules, one after another. -/
def goC (rows : List S37) : List S37 → Nat → Bool
  | [], _ => true
  | c :: rest, i => clauseB c && (!decide (firstOf (namedC c.f0) (rows.take i) 0 ≥ 0) && goC rows rest (i + 1))

def clausesB (l : List S37) : Bool := goC l l 0 && decide ((l.length : Int) ≤ 40)

theorem clauses_impl (l : List S37) (hl : l.length ≤ 1048576) (k : Nat) (hk : 2200000 ≤ k) : impl_ClausesOK.f k l = some (clausesB l) := by
  unfold impl_ClausesOK.f clausesB
  have key : ∀ d i k, i + d = l.length → d + 100 < k → impl_ClausesOK.l0 k l l (l.length : Int) (i : Int) = some (goC l (l.drop i) i && decide ((l.length : Int) ≤ 40)) := by
    intro d
    induction d with
    | zero =>
      intro i k hi hk
      obtain ⟨k, rfl⟩ : ∃ m, k = m + 1 := ⟨k - 1, by omega⟩
      rw [impl_ClausesOK.l0, if_neg (by omega), List.drop_eq_nil_of_le (by omega), goC, Bool.true_and]
    | succ d ih =>
      intro i k hi hk
      obtain ⟨k, rfl⟩ : ∃ m, k = m + 1 := ⟨k - 1, by omega⟩
      have hil : i < l.length := by omega
      have e := ih (i + 1) k (by omega) (by omega)
      rw [show ((i + 1 : Nat) : Int) = (i : Int) + 1 by omega] at e
      have hq : namedC l[i].f0 l[i] = true := by unfold namedC; exact beq_self_eq_true _
      have hat := firstOf_at (namedC l[i].f0) l i 0 hil (by omega) hq
      rw [impl_ClausesOK.l0, if_pos (by omega), if_pos (by omega), if_pos (by omega), rdBClause hil, clause_impl _ k (by omega), Option.bind_some, List.drop_eq_getElem_cons hil, goC]
      cases clauseB l[i]
      · rfl
      rw [if_pos rfl]
      unfold impl_clauseAt.f
      rw [at_is, Option.bind_some, w64 (by omega) (by omega)]
      by_cases hf : firstOf (namedC l[i].f0) l 0 = (i : Int)
      · have h2 := hat.1 (by omega)
        rw [if_pos hf, e, decide_eq_false (show ¬ firstOf (namedC l[i].f0) (l.take i) 0 ≥ 0 by omega)]; rfl
      · have h2 : ¬ firstOf (namedC l[i].f0) (l.take i) 0 < 0 := fun h => hf (by have := hat.2 h; omega)
        rw [if_neg hf, decide_eq_true (show firstOf (namedC l[i].f0) (l.take i) 0 ≥ 0 by omega)]; rfl
  have := key l.length 0 k (by omega) (by omega)
  simpa using this

theorem clauses_spec (l : List S37) (k : Nat) (hk : 2200000 ≤ k) : spec_ClausesOK.f k l = some (clausesB l) := by
  unfold spec_ClausesOK.f clausesB
  by_cases h : (l.length : Int) > 40
  · rw [if_pos h, decide_eq_false (by omega), Bool.and_false]
  rw [if_neg h, decide_eq_true (by omega), Bool.and_true]
  have key : ∀ d i k, i + d = l.length → d + 200 < k → spec_ClausesOK.l0 k l (i : Int) = some (goC l (l.drop i) i) := by
    intro d
    induction d with
    | zero =>
      intro i k hi hk
      obtain ⟨k, rfl⟩ : ∃ m, k = m + 1 := ⟨k - 1, by omega⟩
      rw [spec_ClausesOK.l0, if_neg (by omega), List.drop_eq_nil_of_le (by omega), goC]
    | succ d ih =>
      intro i k hi hk
      obtain ⟨k, rfl⟩ : ∃ m, k = m + 1 := ⟨k - 1, by omega⟩
      have hil : i < l.length := by omega
      have e := ih (i + 1) k (by omega) (by omega)
      rw [show ((i + 1 : Nat) : Int) = (i : Int) + 1 by omega] at e
      rw [spec_ClausesOK.l0, if_pos (by omega), if_pos (by omega), rdBClause hil, clause_spec _ k (by omega), Option.bind_some, List.drop_eq_getElem_cons hil, goC]
      cases clauseB l[i]
      · rfl
      rw [if_pos rfl, if_pos (by omega), Int.toNat_natCast, find_loop6 _ _ (by rw [List.length_take]; omega) k (by rw [List.length_take]; omega), Option.bind_some, w64 (by omega) (by omega)]
      by_cases hf : firstOf (namedC l[i].f0) (l.take i) 0 ≥ 0
      · rw [if_pos hf, decide_eq_true hf]; rfl
      · rw [if_neg hf, decide_eq_false hf, e]; rfl
  have := key l.length 0 k (by omega) (by omega)
  simpa using this

end Go.Proofs.Ytbmpkggjcnmieaa
