/- Rules: the program and the reference answer alike whether they are right, given rounds enough. -/
import Derived.Test.YtineooifellnnaaPAllx0
import Derived.Test.YtineooifellnnaaPAllx1
import Derived.Test.YtineooifellnnaaPAllx2
import Derived.Test.YtineooifellnnaaPAllx4
import Derived.Test.YtineooifellnnaaPAllx5
import Derived.Test.YtineooifellnnaaIn1
import Derived.Test.YtineooifellnnaaFirst
import Derived.Test.YtineooifellnnaaStdClause
namespace Go.Proofs.Ytineooifellnnaa
open Go.RowKit Go.Proofs.Ytineooifellnnaa.PAll Go.Proofs.YtineooifellnnaaW.PrintWords Go.Proofs.YtineooifellnnaaW.PrintLast

def loB (f : Int) : Int := rd [0, 1, 0, 0, 1, 0] f
def hiB (f : Int) : Int := rd [0, 999, 1000000, 23, 7, 120] f

def termB (x : S69) : Bool := decide (1 ≤ x.f0 ∧ x.f0 ≤ 5) && (decide (1 ≤ x.f1 ∧ x.f1 ≤ 3) && decide (loB x.f0 ≤ x.f2 ∧ x.f2 ≤ hiB x.f0))

theorem num_is (a b c : Int) (h : 1 ≤ a ∧ a ≤ 5) : impl_isTermNum.f a b c = some (decide (loB a ≤ c ∧ c ≤ hiB a)) := by
  unfold impl_isTermNum.f
  have : a = 1 ∨ a = 2 ∨ a = 3 ∨ a = 4 ∨ a = 5 := by omega
  rcases this with rfl | rfl | rfl | rfl | rfl
  · rw [if_pos rfl, within_b]; rfl
  · rw [if_neg (by decide), if_pos rfl, within_b]; rfl
  · rw [if_neg (by decide), if_neg (by decide), if_pos rfl, within_b]; rfl
  · rw [if_neg (by decide), if_neg (by decide), if_neg (by decide), if_pos rfl, within_b]; rfl
  · rw [if_neg (by decide), if_neg (by decide), if_neg (by decide), if_neg (by decide), if_pos rfl, within_b]; rfl

theorem term_is (x : S69) : impl_isTerm.f x.f0 x.f1 x.f2 = some (termB x) := by
  unfold impl_isTerm.f termB
  rw [within_b, Option.bind_some, within_b, Option.bind_some]
  by_cases h : 1 ≤ x.f0 ∧ x.f0 ≤ 5
  · rw [decide_eq_true h, if_pos rfl, num_is _ _ _ h, Option.bind_some]
    cases decide (1 ≤ x.f1 ∧ x.f1 ≤ 3)
    · rfl
    · rfl
  · rw [decide_eq_false h]; rfl

theorem terms_is (l : List S69) : impl_Term_45_impl_isClause_1.f l = some (!l.all termB) := by
  have key : ∀ (l : List S69) (i : Int), 0 ≤ i → ∃ r, impl_Term_59.f (fun x => impl_isClause_1.f x.f0 x.f1 x.f2) l i = some r ∧ decide (r ≥ 0) = !l.all termB := by
    intro l
    induction l with
    | nil => intro i _; exact ⟨-1, rfl, rfl⟩
    | cons x xs ih =>
      intro i hi
      obtain ⟨r, e, hr⟩ := ih (i + 1) (by omega)
      unfold impl_Term_59.f
      have hx : impl_isClause_1.f x.f0 x.f1 x.f2 = some (!termB x) := by
        unfold impl_isClause_1.f
        rw [term_is]; rfl
      rw [hx, Option.bind_some, List.all_cons]
      cases termB x
      · exact ⟨i, rfl, by rw [decide_eq_true (by omega)]; rfl⟩
      · exact ⟨r, e, by rw [hr]; rfl⟩
  obtain ⟨r, e, hr⟩ := key l 0 (by omega)
  unfold impl_Term_45_impl_isClause_1.f impl_Term_45.f
  rw [e, Option.bind_some, hr]

def actB (a n : Int) : Bool :=
  if a = 1 then decide (0 ≤ n ∧ n ≤ 100) else if a = 2 then decide (0 ≤ n ∧ n ≤ 1000000000) else if a = 3 then n == 0 else false

theorem act_impl (a n : Int) : impl_isAct.f a n = some (actB a n) := by
  unfold impl_isAct.f actB
  rw [within_b, within_b]
  split
  · rfl
  · split
    · rfl
    · split <;> rfl

theorem act_spec (a n : Int) : spec_l06Act.f a n = some (actB a n) := by
  unfold spec_l06Act.f actB
  rw [in1_is, in1_is]
  split
  · rfl
  · split
    · rfl
    · split <;> rfl

def clauseB (c : S32) : Bool := nameB c.f0 && (decide ((c.f1.length : Int) ≤ 8) && (actB c.f2 c.f3 && c.f1.all termB))

theorem clause_impl (c : S32) (k : Nat) (hk : 84 ≤ k) : impl_isClause.f k c.f0 c.f1 c.f2 c.f3 = some (clauseB c) := by
  unfold impl_isClause.f clauseB
  rw [(name_both _ k hk).1, Option.bind_some, act_impl, Option.bind_some, terms_is, Option.bind_some, Bool.not_not]
  cases nameB c.f0
  · rfl
  rw [if_pos rfl]
  by_cases h : (c.f1.length : Int) ≤ 8
  · rw [if_pos h, decide_eq_true h]
    cases actB c.f2 c.f3 <;> rfl
  · rw [if_neg h, decide_eq_false h]; rfl

theorem low_is (a : Int) (h : 1 ≤ a ∧ a ≤ 5) : spec_l06Low.f a = some (loB a) ∧ spec_l06High.f a = some (hiB a) := by
  unfold spec_l06Low.f spec_l06High.f loB hiB
  simp only [Option.bind_some]
  rw [if_pos (by omega), if_pos (by simp only [List.length_cons, List.length_nil]; omega), if_pos (by omega), if_pos (by simp only [List.length_cons, List.length_nil]; omega)]
  exact ⟨rfl, rfl⟩

theorem clause_spec (c : S32) (k : Nat) (hk : 100 ≤ k) : spec_l06Clause.f k c.f0 c.f1 c.f2 c.f3 = some (clauseB c) := by
  obtain ⟨k, rfl⟩ : ∃ m, k = m + 1 := ⟨k - 1, by omega⟩
  unfold spec_l06Clause.f clauseB
  rw [(name_both _ _ (by omega)).2, Option.bind_some]
  cases nameB c.f0
  · rw [if_neg (by decide), spec_l06Clause.j0, if_pos rfl]; rfl
  rw [if_pos rfl, spec_l06Clause.j0]
  by_cases h : (c.f1.length : Int) ≤ 8
  · rw [decide_eq_false (show ¬ (c.f1.length : Int) > 8 by omega), decide_eq_true h, if_neg (by decide)]
    have key : ∀ d i k, i + d = c.f1.length → 2 * d < k → spec_l06Clause.l0 k (i : Int) c.f0 c.f1 c.f2 c.f3 = some (actB c.f2 c.f3 && (c.f1.drop i).all termB) := by
      intro d
      induction d with
      | zero =>
        intro i k hi hk
        obtain ⟨k, rfl⟩ : ∃ m, k = m + 1 := ⟨k - 1, by omega⟩
        rw [spec_l06Clause.l0, if_neg (by omega), act_spec, List.drop_eq_nil_of_le (by omega)]
        cases actB c.f2 c.f3 <;> rfl
      | succ d ih =>
        intro i k hi hk
        obtain ⟨k, rfl⟩ : ∃ m, k = m + 2 := ⟨k - 2, by omega⟩
        have hil : i < c.f1.length := by omega
        have e := ih (i + 1) k (by omega) (by omega)
        rw [show ((i + 1 : Nat) : Int) = (i : Int) + 1 by omega] at e
        have jt : spec_l06Clause.j2 (k + 1) (i : Int) true c.f0 c.f1 c.f2 c.f3 = some false := by rw [spec_l06Clause.j2, if_pos rfl]
        have jf : spec_l06Clause.j2 (k + 1) (i : Int) false c.f0 c.f1 c.f2 c.f3 = some (actB c.f2 c.f3 && (c.f1.drop (i + 1)).all termB) := by rw [spec_l06Clause.j2, if_neg (by decide), w64 (by omega) (by omega), e]
        rw [spec_l06Clause.l0, if_pos (by omega), if_pos (by omega), rdBTerm hil, List.drop_eq_getElem_cons hil, List.all_cons, in1_is, Option.bind_some, in1_is, Option.bind_some]
        generalize (c.f1.drop (i + 1)).all termB = R at *
        generalize c.f1[i] = x at *
        unfold termB
        by_cases h1 : 1 ≤ x.f0 ∧ x.f0 ≤ 5
        · rw [decide_eq_true h1, if_pos rfl]
          by_cases h2 : 1 ≤ x.f1 ∧ x.f1 ≤ 3
          · rw [decide_eq_true h2, if_pos rfl, (low_is _ h1).1, Option.bind_some, (low_is _ h1).2, Option.bind_some, in1_is, Option.bind_some]
            cases decide (loB x.f0 ≤ x.f2 ∧ x.f2 ≤ hiB x.f0)
            · rw [Bool.not_false, jt]; cases actB c.f2 c.f3 <;> rfl
            · rw [Bool.not_true, jf]; rfl
          · rw [decide_eq_false h2, if_neg (by decide), jt]; cases actB c.f2 c.f3 <;> rfl
        · rw [decide_eq_false h1, if_neg (by decide), jt]; cases actB c.f2 c.f3 <;> rfl
    have := key c.f1.length 0 k (by omega) (by omega)
    rw [show ((0 : Nat) : Int) = 0 from rfl, List.drop_zero] at this
    rw [this]; rfl
  · rw [decide_eq_true (show (c.f1.length : Int) > 8 by omega), decide_eq_false h, if_pos rfl]; rfl

def namedC (s : ByteArray) (x : S32) : Bool := x.f0.toList == s.toList

theorem at_is (s : ByteArray) : ∀ (l : List S32) (i : Int), impl_Clause_37.f (impl_clauseAt_1.p s) l i = some (firstOf (namedC s) l i)
  | [], _ => rfl
  | x :: xs, i => by
    unfold impl_Clause_37.f firstOf
    have hx : impl_clauseAt_1.p s x = some (namedC s x) := rfl
    rw [hx, Option.bind_some, at_is s xs (i + 1)]
    cases namedC s x <;> simp

theorem firstOf_at {α : Type} (q : α → Bool) : ∀ (l : List α) (i : Nat) (b : Int) (h : i < l.length), 0 ≤ b → q l[i] = true → (firstOf q l b = b + i ↔ firstOf q (l.take i) b < 0)
  | [], _, _, h, _, _ => by simp at h
  | x :: xs, 0, b, _, _, hq => by
    have hx : q x = true := hq
    simp [firstOf, hx]
  | x :: xs, i + 1, b, h, hb, hq => by
    have h' : i < xs.length := by simpa using h
    have hq' : q xs[i] = true := hq
    have ih := firstOf_at q xs i (b + 1) h' (by omega) hq'
    rw [List.take_succ_cons, firstOf, firstOf]
    cases hx : q x
    · simp only [Bool.false_eq_true, if_false]
      rw [← ih]
      constructor <;> intro e <;> omega
    · simp only [if_true]
      constructor <;> intro e <;> omega

theorem find_loop6 (l : List S32) (s : ByteArray) (hl : l.length ≤ 1048576) (k : Nat) (hk : l.length < k) : spec_l06Find.f k l s = some (firstOf (namedC s) l 0) := by
  have key : ∀ d i k, i + d = l.length → d < k → spec_l06Find.l0 k l s (i : Int) = some (firstOf (namedC s) (l.drop i) (i : Int)) := by
    intro d
    induction d with
    | zero =>
      intro i k hi hk
      obtain ⟨k, rfl⟩ : ∃ m, k = m + 1 := ⟨k - 1, by omega⟩
      rw [spec_l06Find.l0, if_neg (by omega), List.drop_eq_nil_of_le (by omega)]; rfl
    | succ d ih =>
      intro i k hi hk
      obtain ⟨k, rfl⟩ : ∃ m, k = m + 1 := ⟨k - 1, by omega⟩
      have e := ih (i + 1) k (by omega) (by omega)
      rw [show ((i + 1 : Nat) : Int) = (i : Int) + 1 by omega] at e
      rw [spec_l06Find.l0, if_pos (by omega), if_pos (by omega), rdBClause (by omega), List.drop_eq_getElem_cons (by omega : i < l.length), firstOf, w64 (by omega) (by omega), e]
      unfold namedC
      by_cases h0 : (l[i]).f0.toList = s.toList
      · rw [if_pos h0, if_pos (by simpa using h0)]
      · rw [if_neg h0, if_neg (by simpa using h0)]
  unfold spec_l06Find.f
  have := key l.length 0 k (by omega) hk
  simpa using this

/-- The rules, one after another. -/
def goC (rows : List S32) : List S32 → Nat → Bool
  | [], _ => true
  | c :: rest, i => clauseB c && (!decide (firstOf (namedC c.f0) (rows.take i) 0 ≥ 0) && goC rows rest (i + 1))

def clausesB (l : List S32) : Bool := goC l l 0 && decide ((l.length : Int) ≤ 40)

theorem clauses_impl (l : List S32) (hl : l.length ≤ 1048576) (k : Nat) (hk : 2200000 ≤ k) : impl_ClausesOK.f k l = some (clausesB l) := by
  unfold impl_ClausesOK.f clausesB
  have key : ∀ d i k, i + d = l.length → d + 100 < k → impl_ClausesOK.l0 k l l (l.length : Int) (i : Int) = some (goC l (l.drop i) i && decide ((l.length : Int) ≤ 40)) := by
    intro d
    induction d with
    | zero =>
      intro i k hi hk
      obtain ⟨k, rfl⟩ : ∃ m, k = m + 1 := ⟨k - 1, by omega⟩
      rw [impl_ClausesOK.l0, if_neg (by omega), List.drop_eq_nil_of_le (by omega), goC, Bool.true_and]
    | succ d ih =>
      intro i k hi hk
      obtain ⟨k, rfl⟩ : ∃ m, k = m + 1 := ⟨k - 1, by omega⟩
      have hil : i < l.length := by omega
      have e := ih (i + 1) k (by omega) (by omega)
      rw [show ((i + 1 : Nat) : Int) = (i : Int) + 1 by omega] at e
      have hq : namedC l[i].f0 l[i] = true := by unfold namedC; exact beq_self_eq_true _
      have hat := firstOf_at (namedC l[i].f0) l i 0 hil (by omega) hq
      rw [impl_ClausesOK.l0, if_pos (by omega), if_pos (by omega), if_pos (by omega), rdBClause hil, clause_impl _ k (by omega), Option.bind_some, List.drop_eq_getElem_cons hil, goC]
      cases clauseB l[i]
      · rfl
      rw [if_pos rfl]
      unfold impl_clauseAt.f
      rw [at_is, Option.bind_some, w64 (by omega) (by omega)]
      by_cases hf : firstOf (namedC l[i].f0) l 0 = (i : Int)
      · have h2 := hat.1 (by omega)
        rw [if_pos hf, e, decide_eq_false (show ¬ firstOf (namedC l[i].f0) (l.take i) 0 ≥ 0 by omega)]; rfl
      · have h2 : ¬ firstOf (namedC l[i].f0) (l.take i) 0 < 0 := fun h => hf (by have := hat.2 h; omega)
        rw [if_neg hf, decide_eq_true (show firstOf (namedC l[i].f0) (l.take i) 0 ≥ 0 by omega)]; rfl
  have := key l.length 0 k (by omega) (by omega)
  simpa using this

theorem clauses_spec (l : List S32) (k : Nat) (hk : 2200000 ≤ k) : spec_ClausesOK.f k l = some (clausesB l) := by
  unfold spec_ClausesOK.f clausesB
  by_cases h : (l.length : Int) > 40
  · rw [if_pos h, decide_eq_false (by omega), Bool.and_false]
  rw [if_neg h, decide_eq_true (by omega), Bool.and_true]
  have key : ∀ d i k, i + d = l.length → d + 200 < k → spec_ClausesOK.l0 k l (i : Int) = some (goC l (l.drop i) i) := by
    intro d
    induction d with
    | zero =>
      intro i k hi hk
      obtain ⟨k, rfl⟩ : ∃ m, k = m + 1 := ⟨k - 1, by omega⟩
      rw [spec_ClausesOK.l0, if_neg (by omega), List.drop_eq_nil_of_le (by omega), goC]
    | succ d ih =>
      intro i k hi hk
      obtain ⟨k, rfl⟩ : ∃ m, k = m + 1 := ⟨k - 1, by omega⟩
      have hil : i < l.length := by omega
      have e := ih (i + 1) k (by omega) (by omega)
      rw [show ((i + 1 : Nat) : Int) = (i : Int) + 1 by omega] at e
      rw [spec_ClausesOK.l0, if_pos (by omega), if_pos (by omega), rdBClause hil, clause_spec _ k (by omega), Option.bind_some, List.drop_eq_getElem_cons hil, goC]
      cases clauseB l[i]
      · rfl
      rw [if_pos rfl, if_pos (by omega), Int.toNat_natCast, find_loop6 _ _ (by rw [List.length_take]; omega) k (by rw [List.length_take]; omega), Option.bind_some, w64 (by omega) (by omega)]
      by_cases hf : firstOf (namedC l[i].f0) (l.take i) 0 ≥ 0
      · rw [if_pos hf, decide_eq_true hf]; rfl
      · rw [if_neg hf, decide_eq_false hf, e]; rfl
  have := key l.length 0 k (by omega) (by omega)
  simpa using this

end Go.Proofs.Ytineooifellnnaa
