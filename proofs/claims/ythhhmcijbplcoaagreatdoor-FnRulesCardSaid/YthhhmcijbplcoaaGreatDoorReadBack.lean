/- A right rule's line is read back: its words are the rule's, and they spell the rule. -/
import Derived.Test.YthhhmcijbplcoaaGreatDoorPFnRulesx0
import Derived.Test.YthhhmcijbplcoaaGreatDoorPFnRulesx9
import Derived.Test.YthhhmcijbplcoaaGreatDoorRead
import Derived.Test.YthhhmcijbplcoaaGreatDoorCutWords
import Derived.Test.YthhhmcijbplcoaaGreatDoorRuleText
namespace Go.Proofs.YthhhmcijbplcoaaGreatDoor
open Go.RowKit Go.Proofs.YthhhmcijbplcoaaGreatDoor.PFnRules Go.Proofs.YthhhmcijbplcoaaGreatDoorW.PrintWords Go.Proofs.YthhhmcijbplcoaaGreatDoorW.PrintLast

/-- A word: not empty, and no blank and no line's end in it. -/
def wordB (t : ByteArray) : Bool := !(D t).isEmpty && ((D t).all fun b => !(b == 32) && !(b == 10))
theorem wordB_no {t : ByteArray} (h : wordB t = true) : (32 : UInt8) ∉ D t ∧ (10 : UInt8) ∉ D t ∧ D t ≠ [] := by
  unfold wordB at h
  rw [Bool.and_eq_true, List.all_eq_true] at h
  refine ⟨fun m => ?_, fun m => ?_, fun m => ?_⟩
  · have := h.2 _ m; simp at this
  · have := h.2 _ m; simp at this
  · rw [m] at h; simp at h
theorem cut_J : ∀ (ws : List ByteArray) (p : List UInt8), (32 : UInt8) ∉ p → (∀ t ∈ ws, wordB t = true) → cutL 32 (p ++ J ws) = p :: ws.map D
  | [], p, hp, _ => by
    rw [show J [] = [] from rfl, List.append_nil, cutL_no 32 p hp]; rfl
  | a :: l, p, hp, h => by
    have ha := wordB_no (h a List.mem_cons_self)
    have e : p ++ J (a :: l) = p ++ 32 :: (D a ++ J l) := by rw [J_cons]; simp
    rw [e, cutL_at 32 _ p hp, cut_J l (D a) ha.1 (fun t ht => h t (List.mem_cons_of_mem _ ht))]
    rfl
theorem words_J (w : ByteArray) (ws : List ByteArray) (hw : wordB w = true) (h : ∀ t ∈ ws, wordB t = true) : words (D w ++ J ws) = w :: ws := by
  have h0 := wordB_no hw
  unfold words
  rw [cut_J ws _ h0.1 h]
  have key : ∀ l : List ByteArray, (∀ t ∈ l, wordB t = true) → ((l.map D).filter fun x => !x.isEmpty).map bs = l := by
    intro l
    induction l with
    | nil => intro _; rfl
    | cons a l ih =>
      intro hl
      have ha := wordB_no (hl a List.mem_cons_self)
      have hne : (!(D a).isEmpty) = true := by
        cases hd : D a with
        | nil => exact absurd hd ha.2.2
        | cons _ _ => rfl
      rw [List.map_cons, List.filter_cons, if_pos hne, List.map_cons, ih (fun t ht => hl t (List.mem_cons_of_mem _ ht))]
      rw [show bs (D a) = a from bs_back a]
  exact key (w :: ws) (fun t ht => by
    rcases List.mem_cons.1 ht with e | e
    · rw [e]; exact hw
    · exact h t e)
theorem J_no10 : ∀ ws : List ByteArray, (∀ t ∈ ws, wordB t = true) → (10 : UInt8) ∉ J ws
  | [], _ => by simp [J]
  | a :: l, h => by
    have ha := (wordB_no (h a List.mem_cons_self)).2.1
    have hl := J_no10 l (fun t ht => h t (List.mem_cons_of_mem _ ht))
    rw [J_cons, List.cons_append, List.mem_cons, List.mem_append]
    rintro (e | e | e)
    · cases e
    · exact ha e
    · exact hl e

theorem rule_word : wordB rule = true := by decide +kernel
theorem FW_word (f : Int) (h : 1 ≤ f ∧ f ≤ 5) : wordB (rdOf ByteArray.empty FW f) = true ∧ sF (rdOf ByteArray.empty FW f) = f := by
  have : f = 1 ∨ f = 2 ∨ f = 3 ∨ f = 4 ∨ f = 5 := by omega
  rcases this with rfl | rfl | rfl | rfl | rfl <;> exact ⟨by decide +kernel, by decide +kernel⟩
theorem OW_word (f : Int) (h : 1 ≤ f ∧ f ≤ 3) : wordB (rdOf ByteArray.empty OW f) = true ∧ sO (rdOf ByteArray.empty OW f) = f := by
  have : f = 1 ∨ f = 2 ∨ f = 3 := by omega
  rcases this with rfl | rfl | rfl <;> exact ⟨by decide +kernel, by decide +kernel⟩
theorem NT_num (n : Int) (h0 : 0 ≤ n) (h1 : n ≤ 1000000000) : wordB (NT n) = true ∧ nS (NT n) = (n, true) := by
  have hsz := NT_size n h0 h1
  obtain ⟨u, rfl⟩ : ∃ u : Nat, n = u := ⟨n.toNat, by omega⟩
  have hd : D (NT (u : Int)) = Lib.decDigits u := by unfold NT D; rw [bs_list, Int.toNat_natCast]
  obtain ⟨a, b, _⟩ := digits_num u u (Nat.le_refl _)
  have hdec : Lib.decFrom 0 (Lib.decDigits u) = some u := by have := b []; rwa [List.append_nil] at this
  rw [D_size, hd] at hsz
  constructor
  · unfold wordB
    rw [hd, Bool.and_eq_true]
    refine ⟨?_, List.all_eq_true.2 fun x hx => ?_⟩
    · cases hc : Lib.decDigits u with
      | nil => exact absurd hc a.2.1
      | cons _ _ => rfl
    · have := dg1_iff.1 (List.all_eq_true.1 a.1 x hx)
      have e1 : (x == 32) = false := by rw [beq_eq_false_iff_ne]; intro e; rw [e] at this; exact absurd this (by decide)
      have e2 : (x == 10) = false := by rw [beq_eq_false_iff_ne]; intro e; rw [e] at this; exact absurd this (by decide)
      rw [e1, e2]; rfl
  · unfold nS
    have hd' : (NT (u : Int)).data.toList = Lib.decDigits u := hd
    rw [hd']
    unfold numS
    have h45 : ¬ (Lib.decDigits u).head? = some 45 := fun e => by
      have := head_dg a.1 e
      exact absurd this (by decide)
    rw [if_neg h45]
    unfold numAt
    have hv : dec (Lib.decDigits u) = u := by
      have := dec_is a.1
      rw [hdec] at this
      exact (Option.some.inj this).symm
    rw [if_pos ⟨a, by omega, fun h => absurd h.1 (by omega)⟩, hv, w64 (x := 1 * (u : Int)) (by omega) (by omega), Int.one_mul]
theorem act_word (a n : Int) (h : actB a n = true) : (∀ t ∈ actW a n, wordB t = true) ∧ endV (actW a n) = some (a, n) := by
  have hw1 : wordB (⟨#[116, 104, 101, 110]⟩ : ByteArray) = true := by decide +kernel
  have hw2 : wordB (⟨#[112, 101, 114, 99, 101, 110, 116]⟩ : ByteArray) = true := by decide +kernel
  have hw3 : wordB (⟨#[111, 102, 102]⟩ : ByteArray) = true := by decide +kernel
  have hw4 : wordB (⟨#[100, 101, 110, 121]⟩ : ByteArray) = true := by decide +kernel
  have t1 : (⟨#[116, 104, 101, 110]⟩ : ByteArray).toList = WTHEN := lit_toList [116, 104, 101, 110]
  have t2 : (⟨#[112, 101, 114, 99, 101, 110, 116]⟩ : ByteArray).toList = WPCT := lit_toList [112, 101, 114, 99, 101, 110, 116]
  have t3 : (⟨#[111, 102, 102]⟩ : ByteArray).toList = WOFF := lit_toList [111, 102, 102]
  have t4 : (⟨#[100, 101, 110, 121]⟩ : ByteArray).toList = WDENY := lit_toList [100, 101, 110, 121]
  unfold actB at h
  unfold actW
  by_cases a1 : a = 1
  · rw [if_pos a1] at h ⊢
    have hn := of_decide_eq_true h
    obtain ⟨n1, n2⟩ := NT_num n (by omega) (by omega)
    refine ⟨fun t ht => ?_, ?_⟩
    · simp only [List.mem_cons, List.mem_nil_iff, or_false] at ht
      rcases ht with rfl | rfl | rfl
      · exact hw1
      · exact hw2
      · exact n1
    · rw [endV3, if_pos t1, if_pos t2, n2, if_pos rfl, a1]
  · rw [if_neg a1] at h ⊢
    by_cases a2 : a = 2
    · rw [if_pos a2] at h ⊢
      have hn := of_decide_eq_true h
      obtain ⟨n1, n2⟩ := NT_num n (by omega) (by omega)
      refine ⟨fun t ht => ?_, ?_⟩
      · simp only [List.mem_cons, List.mem_nil_iff, or_false] at ht
        rcases ht with rfl | rfl | rfl
        · exact hw1
        · exact hw3
        · exact n1
      · rw [endV3, if_pos t1, if_neg (by rw [t3]; decide), if_pos t3, n2, if_pos rfl, a2]
    · rw [if_neg a2] at h ⊢
      by_cases a3 : a = 3
      · rw [if_pos a3] at h
        refine ⟨fun t ht => ?_, ?_⟩
        · simp only [List.mem_cons, List.mem_nil_iff, or_false] at ht
          rcases ht with rfl | rfl
          · exact hw1
          · exact hw4
        · rw [endV2, if_pos ⟨t1, t4⟩, a3, beq_iff_eq.1 h]
      · rw [if_neg a3] at h; cases h

theorem impl_step (w0 a b n : ByteArray) (rest : List ByteArray) (ahead name : ByteArray) (acc : List S66) (c0 : w0.toList = ahead.toList) (hac : acc.length ≤ 200000) (k : Nat) (hk : 70 ≤ k) (ho : okT a b n = true) :
    impl_clauseOf.l0 (k + 1 + 1) (w0 :: a :: b :: n :: rest) ahead name acc 0 0 = impl_clauseOf.l0 k rest (⟨#[97, 110, 100]⟩ : ByteArray) name (acc ++ [⟨sF a, sO b, (nS n).1⟩]) 0 0 := by
  obtain ⟨t1, t2, v, et, ht⟩ := term_impl a b n k (by omega)
  have r0 : rdOf ByteArray.empty (w0 :: a :: b :: n :: rest) 0 = w0 := rfl
  rw [impl_clauseOf.l0, if_pos (by simp only [List.length_cons]; omega), if_pos (by simp only [List.length_cons]; omega), r0, beq_iff_eq.2 c0, impl_clauseOf.j2, if_pos rfl, if_pos (by simp only [List.length_cons]; omega), show ((w0 :: a :: b :: n :: rest).take 4).drop 1 = [a, b, n] from rfl, et, Option.bind_some]
  obtain ⟨rfl, rfl, rfl⟩ := ht ho
  rw [ho, if_pos rfl, if_pos (by omega)]; rfl

/-- The words of the terms, the first behind a word of its own. -/
def wordsOf (first : Bool) : List S66 → List ByteArray
  | [] => []
  | x :: xs => termW first x ++ wordsOf false xs
theorem wordsOf_false : ∀ ts : List S66, (ts.map (termW false)).flatten = wordsOf false ts
  | [] => rfl
  | x :: xs => by rw [List.map_cons, List.flatten_cons, wordsOf_false xs]; rfl
theorem ruleT_is (c : S41) : ruleT c = D rule ++ J (c.f0 :: (wordsOf true c.f1 ++ actW c.f2 c.f3)) ++ [10] := by
  obtain ⟨n, l, a, b⟩ := c
  cases l with
  | nil => simp [ruleT, wordsOf]
  | cons x xs =>
    show D rule ++ J ([n] ++ (termW true x ++ (xs.map (termW false)).flatten) ++ actW a b) ++ [10] = _
    rw [wordsOf_false]
    simp [wordsOf]
def aheadOf (first : Bool) : ByteArray := if first then (⟨#[119, 104, 101, 110]⟩ : ByteArray) else (⟨#[97, 110, 100]⟩ : ByteArray)
theorem ahead_word (first : Bool) : wordB (aheadOf first) = true ∧ (aheadOf first).toList ≠ WTHEN := by
  cases first <;> exact ⟨by decide +kernel, by decide +kernel⟩
def TermR (x : S66) : Prop := (1 ≤ x.f0 ∧ x.f0 ≤ 5) ∧ (1 ≤ x.f1 ∧ x.f1 ≤ 3) ∧ 0 ≤ x.f2 ∧ x.f2 ≤ 1000000
theorem terms_word : ∀ (ts : List S66) (first : Bool), (∀ x ∈ ts, TermR x) → ∀ t ∈ wordsOf first ts, wordB t = true
  | [], _, _ => fun t ht => by simp [wordsOf] at ht
  | x :: xs, first, h => by
    obtain ⟨hf, ho, n0, n1⟩ := h x List.mem_cons_self
    intro t ht
    rw [wordsOf] at ht
    rcases List.mem_append.1 ht with q | q
    · unfold termW at q
      simp only [List.mem_cons, List.mem_nil_iff, or_false] at q
      rcases q with rfl | rfl | rfl | rfl
      · exact (ahead_word first).1
      · exact (FW_word _ hf).1
      · exact (OW_word _ ho).1
      · exact (NT_num _ n0 (by omega)).1
    · exact terms_word xs false (fun y hy => h y (List.mem_cons_of_mem _ hy)) t q
theorem back_run (name : ByteArray) (a n : Int) (ha : actB a n = true) : ∀ (ts : List S66) (first : Bool) (acc : List S66) (k : Nat), (∀ x ∈ ts, TermR x) → acc.length + ts.length ≤ 100 → 3 * ts.length + 100 ≤ k →
    impl_clauseOf.l0 k (wordsOf first ts ++ actW a n) (aheadOf first) name acc 0 0 = some (name, acc ++ ts, a, n, true)
  | [], first, acc, k, _, _, hk => by
    obtain ⟨k, rfl⟩ : ∃ m, k = m + 1 := ⟨k - 1, by omega⟩
    obtain ⟨g, e, h⟩ := impl_endR (actW a n) name acc k (by omega)
    rw [(act_word a n ha).2] at h
    have h' : g = (name, acc, a, n, true) := h
    have hl : (actW a n).length < 4 := by
      unfold actW
      split
      · simp
      · split <;> simp
    rw [wordsOf, List.nil_append, impl_clauseOf.l0, if_neg (by omega), e, h', List.append_nil]
  | x :: xs, first, acc, k, ht, hac, hk => by
    obtain ⟨k, rfl⟩ : ∃ m, k = m + 1 + 1 := ⟨k - 2, by simp only [List.length_cons] at hk; omega⟩
    simp only [List.length_cons] at hac hk
    obtain ⟨hf, ho, n0, n1⟩ := ht x List.mem_cons_self
    have hn := (NT_num x.f2 n0 (by omega)).2
    have hok : okT (rdOf ByteArray.empty FW x.f0) (rdOf ByteArray.empty OW x.f1) (NT x.f2) = true := by
      unfold okT
      rw [hn, (FW_word _ hf).2, (OW_word _ ho).2, decide_eq_true (show x.f0 ≠ 0 by omega), decide_eq_true (show x.f1 ≠ 0 by omega)]; rfl
    have hw : wordsOf first (x :: xs) ++ actW a n = aheadOf first :: rdOf ByteArray.empty FW x.f0 :: rdOf ByteArray.empty OW x.f1 :: NT x.f2 :: (wordsOf false xs ++ actW a n) := rfl
    rw [hw, impl_step _ _ _ _ _ _ name acc rfl (by omega) k (by omega) hok, (FW_word _ hf).2, (OW_word _ ho).2, hn]
    have := back_run name a n ha xs false (acc ++ [x]) k (fun y hy => ht y (List.mem_cons_of_mem _ hy)) (by rw [List.length_append, List.length_singleton]; omega) (by omega)
    rw [List.append_assoc, List.singleton_append] at this
    exact this
/-- A right rule's words spell the rule. -/
theorem back_clause (c : S41) (h : clauseB c = true) (k : Nat) (hk : 300 ≤ k) : impl_clauseOf.f k (rule :: c.f0 :: (wordsOf true c.f1 ++ actW c.f2 c.f3)) = some (c.f0, c.f1, c.f2, c.f3, true) := by
  obtain ⟨k, rfl⟩ : ∃ m, k = m + 1 := ⟨k - 1, by omega⟩
  have h' := h
  unfold clauseB at h'
  rw [Bool.and_eq_true, Bool.and_eq_true, Bool.and_eq_true] at h'
  obtain ⟨_, h8, ht, _⟩ := clause_nums c h
  have run := back_run c.f0 c.f2 c.f3 h'.2.2.1 c.f1 true [] k ht (by simp only [List.length_nil]; omega) (by omega)
  rw [List.nil_append] at run
  generalize wordsOf true c.f1 ++ actW c.f2 c.f3 = W at *
  have r0 : rdOf ByteArray.empty (rule :: c.f0 :: W) 0 = rule := rfl
  have r1 : rdOf ByteArray.empty (rule :: c.f0 :: W) 1 = c.f0 := rfl
  have hr : rule.toList = [114, 117, 108, 101] := lit_toList [114, 117, 108, 101]
  have l0 : ((rule :: c.f0 :: W).length : Int) = (W.length : Int) + 2 := by simp only [List.length_cons]; omega
  unfold impl_clauseOf.f
  rw [l0, if_neg (by omega), if_pos (by omega), r0, if_pos hr, if_pos (by omega), r1, (name_both c.f0 (k + 1) (by omega)).1, Option.bind_some, h'.1, show (!true) = false from rfl, impl_clauseOf.j0, if_neg (by decide), l0, if_pos (by omega), if_pos (by omega), r1]
  exact run

end Go.Proofs.YthhhmcijbplcoaaGreatDoor
