/- The text of rules: the program joins words, the reference puts them one behind the other; both come to the same bytes. -/
import Derived.Test.YthhhmcijbplcoaaGreatDoorPFnRulesx0
import Derived.Test.YthhhmcijbplcoaaGreatDoorPFnRulesx2
import Derived.Test.YthhhmcijbplcoaaGreatDoorPFnRulesx3
import Derived.Test.YthhhmcijbplcoaaGreatDoorPFnRulesx7
import Derived.Test.YthhhmcijbplcoaaGreatDoorClauses
import Derived.Test.YthhhmcijbplcoaaGreatDoorBs
import Derived.Lib.Join
namespace Go.Proofs.YthhhmcijbplcoaaGreatDoor
open Go.RowKit Go.Proofs.YthhhmcijbplcoaaGreatDoor.PFnRules Go.Proofs.YthhhmcijbplcoaaGreatDoorW.PrintWords Go.Proofs.YthhhmcijbplcoaaGreatDoorW.PrintLast

/-- A text's bytes. -/
def D (t : ByteArray) : List UInt8 := t.data.toList
theorem D_app (a b : ByteArray) : D (a ++ b) = D a ++ D b := by simp [D, ByteArray.data_append]
theorem D_size (a : ByteArray) : a.size = (D a).length := Lib.size_eq a
theorem D_inj {a b : ByteArray} (h : D a = D b) : a = b := by
  apply ByteArray.ext
  apply Array.ext'
  exact h
/-- Words, each behind a blank. -/
def J (l : List ByteArray) : List UInt8 := (l.map fun t => 32 :: D t).flatten
theorem J_app (l m : List ByteArray) : J (l ++ m) = J l ++ J m := by unfold J; rw [List.map_append, List.flatten_append]
theorem J_cons (a : ByteArray) (l : List ByteArray) : J (a :: l) = 32 :: D a ++ J l := by unfold J; simp
theorem join_J (a : ByteArray) : ∀ l : List ByteArray, Lib.join ((a :: l).map (·.data.toList)) [32] = D a ++ J l := by
  intro l
  unfold Lib.join
  induction l generalizing a with
  | nil => simp [J, D, List.intercalate]
  | cons b l ih =>
    have := ih b
    rw [J_cons]
    simp only [List.map_cons] at this ⊢
    rw [List.intercalate] at this ⊢
    change (a.data.toList :: [32] :: List.intersperse [32] (b.data.toList :: List.map (fun x => x.data.toList) l)).flatten = _
    simp only [List.flatten_cons]
    rw [this]
    simp [D]

def FW : List ByteArray := [(⟨#[]⟩ : ByteArray), (⟨#[113, 116, 121]⟩ : ByteArray), (⟨#[97, 109, 111, 117, 110, 116]⟩ : ByteArray), (⟨#[104, 111, 117, 114]⟩ : ByteArray), (⟨#[100, 97, 121]⟩ : ByteArray), (⟨#[97, 103, 101]⟩ : ByteArray)]
def OW : List ByteArray := [(⟨#[]⟩ : ByteArray), (⟨#[62, 61]⟩ : ByteArray), (⟨#[60, 61]⟩ : ByteArray), (⟨#[61]⟩ : ByteArray)]
theorem FW_size (f : Int) (h : 1 ≤ f ∧ f ≤ 5) : (rdOf ByteArray.empty FW f).size ≤ 6 := by
  have : f = 1 ∨ f = 2 ∨ f = 3 ∨ f = 4 ∨ f = 5 := by omega
  rcases this with rfl | rfl | rfl | rfl | rfl <;> decide
theorem OW_size (f : Int) (h : 1 ≤ f ∧ f ≤ 3) : (rdOf ByteArray.empty OW f).size ≤ 2 := by
  have : f = 1 ∨ f = 2 ∨ f = 3 := by omega
  rcases this with rfl | rfl | rfl <;> decide
/-- A number's text. -/
def NT (n : Int) : ByteArray := bs (Lib.decDigits n.toNat)
theorem NT_size (n : Int) (h0 : 0 ≤ n) (h1 : n ≤ 1000000000) : (NT n).size ≤ 10 := by
  unfold NT
  rw [bs_size, Lib.decDigits_length]
  exact nDigits_le 10 _ (by omega) (by omega)
theorem itoa_NT (n : Int) (h0 : 0 ≤ n) (h1 : n ≤ 1000000000) : strconv_Itoa.f n = some (NT n) := by
  obtain ⟨u, rfl⟩ : ∃ u : Nat, n = u := ⟨n.toNat, by omega⟩
  unfold strconv_Itoa.f NT
  rw [if_pos ⟨by omega, by omega⟩, show Lib.itoa (u : Int) = Lib.decDigits u from by unfold Lib.itoa; rw [if_neg (by omega)]; simp]
  rfl
/-- A term's words. -/
def termW (first : Bool) (x : S66) : List ByteArray := [if first then (⟨#[119, 104, 101, 110]⟩ : ByteArray) else (⟨#[97, 110, 100]⟩ : ByteArray), rdOf ByteArray.empty FW x.f0, rdOf ByteArray.empty OW x.f1, NT x.f2]
/-- What stands behind the terms. -/
def actW (a n : Int) : List ByteArray := if a = 1 then [(⟨#[116, 104, 101, 110]⟩ : ByteArray), (⟨#[112, 101, 114, 99, 101, 110, 116]⟩ : ByteArray), NT n] else if a = 2 then [(⟨#[116, 104, 101, 110]⟩ : ByteArray), (⟨#[111, 102, 102]⟩ : ByteArray), NT n] else [(⟨#[116, 104, 101, 110]⟩ : ByteArray), (⟨#[100, 101, 110, 121]⟩ : ByteArray)]
def rule : ByteArray := ⟨#[114, 117, 108, 101]⟩
theorem J_len : ∀ (l : List ByteArray) (m : Nat), (∀ t ∈ l, t.size ≤ m) → (J l).length ≤ (m + 1) * l.length
  | [], _, _ => by simp [J]
  | a :: l, m, h => by
    have h1 := J_len l m (fun t ht => h t (List.mem_cons_of_mem _ ht))
    have h2 := h a List.mem_cons_self
    rw [D_size] at h2
    rw [J_cons, List.length_append, List.length_cons, List.length_cons, Nat.mul_succ]
    omega
theorem join_ok (l : List ByteArray) (m : Nat) (hm : m ≤ 1000) (h : ∀ t ∈ l, t.size ≤ m) (hl : l.length ≤ 900) : strings_Join.f (rule :: l) (⟨#[32]⟩ : ByteArray) = some (bs (D rule ++ J l)) := by
  have hj := J_len l m h
  have hj2 : (m + 1) * l.length ≤ 1001 * 900 := Nat.mul_le_mul (by omega) hl
  have e := join_J rule l
  have hr : (D rule).length = 4 := rfl
  unfold strings_Join.f
  have e2 : Lib.join ((rule :: l).map (·.data.toList)) ((⟨#[32]⟩ : ByteArray).data.toList) = D rule ++ J l := e
  rw [e2, if_pos ⟨by simp, by simp only [List.length_cons]; omega, by rw [List.length_append, hr]; omega⟩]
  rfl

/-- What a right rule's numbers are. -/
theorem clause_nums (c : S41) (h : clauseB c = true) : c.f0.size ≤ 40 ∧ c.f1.length ≤ 8 ∧ (∀ x ∈ c.f1, (1 ≤ x.f0 ∧ x.f0 ≤ 5) ∧ (1 ≤ x.f1 ∧ x.f1 ≤ 3) ∧ 0 ≤ x.f2 ∧ x.f2 ≤ 1000000) ∧ 0 ≤ c.f3 ∧ c.f3 ≤ 1000000000 := by
  unfold clauseB at h
  rw [Bool.and_eq_true, Bool.and_eq_true, Bool.and_eq_true] at h
  have hn : c.f0.size ≤ 40 := by
    by_cases q : c.f0.size ≤ 40
    · exact q
    · exfalso
      have := h.1
      unfold nameB impl_NameOK.f impl_within.f at this
      rw [if_pos (by omega), decide_eq_false (by omega), Option.bind_some] at this
      simp at this
  refine ⟨hn, by have := of_decide_eq_true h.2.1; omega, fun x hx => ?_, ?_⟩
  · have := List.all_eq_true.1 h.2.2.2 x hx
    unfold termB at this
    rw [Bool.and_eq_true, Bool.and_eq_true] at this
    have hf := of_decide_eq_true this.1
    refine ⟨hf, of_decide_eq_true this.2.1, ?_⟩
    have hb := of_decide_eq_true this.2.2
    have hlo : 0 ≤ loB x.f0 ∧ hiB x.f0 ≤ 1000000 := by
      have : x.f0 = 1 ∨ x.f0 = 2 ∨ x.f0 = 3 ∨ x.f0 = 4 ∨ x.f0 = 5 := by omega
      rcases this with e | e | e | e | e <;> rw [e] <;> decide
    omega
  · have ha := h.2.2.1
    unfold actB at ha
    by_cases a1 : c.f2 = 1
    · rw [if_pos a1] at ha; have := of_decide_eq_true ha; omega
    · rw [if_neg a1] at ha
      by_cases a2 : c.f2 = 2
      · rw [if_pos a2] at ha; have := of_decide_eq_true ha; omega
      · rw [if_neg a2] at ha
        by_cases a3 : c.f2 = 3
        · rw [if_pos a3] at ha; have := beq_iff_eq.1 ha; omega
        · rw [if_neg a3] at ha; cases ha

/-- One rule's text. -/
def ruleT (c : S41) : List UInt8 := D rule ++ J ([c.f0] ++ (match c.f1 with | [] => [] | x :: xs => termW true x ++ (xs.map (termW false)).flatten) ++ actW c.f2 c.f3) ++ [10]
def wordsFrom (ts : List S66) (i : Nat) : List ByteArray := (if i = 0 then (match ts with | [] => [] | x :: xs => termW true x ++ (xs.map (termW false)).flatten) else ((ts.drop i).map (termW false)).flatten)
theorem wordsFrom_step (ts : List S66) (i : Nat) (h : i < ts.length) : wordsFrom ts i = termW (decide (i = 0)) ts[i] ++ wordsFrom ts (i + 1) := by
  unfold wordsFrom
  by_cases h0 : i = 0
  · subst h0
    rw [if_pos rfl, if_neg (by omega)]
    cases ts with
    | nil => simp at h
    | cons x xs => rfl
  · rw [if_neg h0, if_neg (by omega), decide_eq_false h0, List.drop_eq_getElem_cons h]
    rfl
theorem termW_size (b : Bool) (x : S66) (h : (1 ≤ x.f0 ∧ x.f0 ≤ 5) ∧ (1 ≤ x.f1 ∧ x.f1 ≤ 3) ∧ 0 ≤ x.f2 ∧ x.f2 ≤ 1000000) : ∀ t ∈ termW b x, t.size ≤ 40 := by
  intro t ht
  have h1 := FW_size x.f0 h.1
  have h2 := OW_size x.f1 h.2.1
  have h3 := NT_size x.f2 h.2.2.1 (by omega)
  unfold termW at ht
  simp only [List.mem_cons, List.not_mem_nil, or_false] at ht
  rcases ht with rfl | rfl | rfl | rfl
  · cases b <;> decide
  · omega
  · omega
  · omega
theorem actW_size (a n : Int) (h0 : 0 ≤ n) (h1 : n ≤ 1000000000) : (∀ t ∈ actW a n, t.size ≤ 40) ∧ (actW a n).length ≤ 3 := by
  have h3 := NT_size n h0 h1
  unfold actW
  repeat' split
  all_goals (refine ⟨fun t ht => ?_, by simp⟩; simp only [List.mem_cons, List.not_mem_nil, or_false] at ht)
  · rcases ht with rfl | rfl | rfl
    · decide
    · decide
    · omega
  · rcases ht with rfl | rfl | rfl
    · decide
    · decide
    · omega
  · rcases ht with rfl | rfl <;> decide
theorem rdT {l : List S66} {i : Nat} (h : i < l.length) : rd_T66 l (i : Int) = l[i] := by
  unfold rd_T66
  rw [Int.toNat_natCast, List.getD_eq_getElem?_getD, List.getElem?_eq_getElem h]; rfl

/-- The program's end of a rule's text. -/
theorem impl_end (c : S41) (h : clauseB c = true) (W : List ByteArray) (hW : ∀ t ∈ W, t.size ≤ 40) (hl : W.length ≤ 40) (k : Nat) (hk : 1 ≤ k) :
    impl_clauseText.l0 k (rule :: W) c.f1 (c.f1.length : Int) (c.f1.length : Int) c.f0 c.f1 c.f2 c.f3 = some (bs (D rule ++ J (W ++ actW c.f2 c.f3) ++ [10])) := by
  obtain ⟨k, rfl⟩ : ∃ q, k = q + 1 := ⟨k - 1, by omega⟩
  obtain ⟨_, _, _, n0, n1⟩ := clause_nums c h
  have ha := actW_size c.f2 c.f3 n0 n1
  have hall : ∀ t ∈ W ++ actW c.f2 c.f3, t.size ≤ 40 := fun t ht => (List.mem_append.1 ht).elim (hW t) (ha.1 t)
  have hj := join_ok (W ++ actW c.f2 c.f3) 40 (by omega) hall (by rw [List.length_append]; omega)
  have hjl := J_len _ 40 hall
  have hrl : (D rule).length = 4 := rfl
  have hfin : (if (bs (D rule ++ J (W ++ actW c.f2 c.f3))).size + 1 ≤ 9223372036854775807 then some (bs (D rule ++ J (W ++ actW c.f2 c.f3)) ++ (⟨#[10]⟩ : ByteArray)) else none) = some (bs (D rule ++ J (W ++ actW c.f2 c.f3) ++ [10])) := by
    have : (W ++ actW c.f2 c.f3).length ≤ 43 := by rw [List.length_append]; omega
    rw [if_pos (by rw [bs_size, List.length_append, hrl]; omega), show (⟨#[10]⟩ : ByteArray) = bs [10] from rfl, bs_app]
  rw [impl_clauseText.l0, if_neg (by omega)]
  unfold actW at hj hfin ⊢
  by_cases a1 : c.f2 = 1
  · rw [if_pos a1] at hj hfin ⊢
    rw [if_pos a1, itoa_NT c.f3 n0 n1, Option.bind_some, Option.bind_some, if_pos (by simp only [List.length_cons, List.length_nil]; omega), List.cons_append, hj, Option.bind_some]
    exact hfin
  · rw [if_neg a1] at hj hfin ⊢
    by_cases a2 : c.f2 = 2
    · rw [if_pos a2] at hj hfin ⊢
      rw [if_neg a1, if_pos a2, itoa_NT c.f3 n0 n1, Option.bind_some, Option.bind_some, if_pos (by simp only [List.length_cons, List.length_nil]; omega), List.cons_append, hj, Option.bind_some]
      exact hfin
    · rw [if_neg a2] at hj hfin ⊢
      rw [if_neg a1, if_neg a2, Option.bind_some, if_pos (by simp only [List.length_cons, List.length_nil]; omega), List.cons_append, hj, Option.bind_some]
      exact hfin
theorem impl_run (c : S41) (h : clauseB c = true) : ∀ (d i : Nat) (W : List ByteArray) (k : Nat), i + d = c.f1.length → (∀ t ∈ W, t.size ≤ 40) → W.length ≤ 1 + 4 * i → d < k →
    impl_clauseText.l0 k (rule :: W) c.f1 (c.f1.length : Int) (i : Int) c.f0 c.f1 c.f2 c.f3 = some (bs (D rule ++ J (W ++ wordsFrom c.f1 i ++ actW c.f2 c.f3) ++ [10]))
  | 0, i, W, k, hi, hW, hl, hk => by
    have hb := (clause_nums c h).2.1
    have : i = c.f1.length := by omega
    subst this
    rw [impl_end c h W hW (by omega) k (by omega)]
    have hw : wordsFrom c.f1 c.f1.length = [] := by
      unfold wordsFrom
      by_cases h0 : c.f1.length = 0
      · rw [if_pos h0, List.length_eq_zero_iff.1 h0]
      · rw [if_neg h0, List.drop_eq_nil_of_le (Nat.le_refl _)]; rfl
    rw [hw, List.append_nil]
  | d + 1, i, W, k, hi, hW, hl, hk => by
    obtain ⟨k, rfl⟩ : ∃ q, k = q + 1 := ⟨k - 1, by omega⟩
    obtain ⟨_, hb, ht, _⟩ := clause_nums c h
    have hlt : i < c.f1.length := by omega
    have hx := ht c.f1[i] (List.getElem_mem hlt)
    have hstep := wordsFrom_step c.f1 i hlt
    have hsz := termW_size (decide (i = 0)) c.f1[i] hx
    rw [impl_clauseText.l0, if_pos (by omega), if_pos (by omega), if_pos (by omega), rdT hlt, hstep]
    generalize c.f1[i] = x at *
    have ef : impl_fieldWords.f = some FW := rfl
    have eo : impl_opWords.f = some OW := rfl
    have l6 : (FW.length : Int) = 6 := rfl
    have l4 : (OW.length : Int) = 4 := rfl
    have ih := impl_run c h d (i + 1) (W ++ termW (decide (i = 0)) x) k (by omega) (fun t ht => (List.mem_append.1 ht).elim (hW t) (hsz t)) (by rw [List.length_append]; unfold termW; simp only [List.length_cons, List.length_nil]; omega) (by omega)
    have e : W ++ (termW (decide (i = 0)) x ++ wordsFrom c.f1 (i + 1)) = W ++ termW (decide (i = 0)) x ++ wordsFrom c.f1 (i + 1) := (List.append_assoc ..).symm
    rw [e, ← ih]
    by_cases h0 : i = 0
    · rw [if_pos (show (i : Int) = 0 by omega), ef, Option.bind_some, if_pos (by omega), if_pos (by omega), eo, Option.bind_some, if_pos (by omega), if_pos (by omega), itoa_NT x.f2 hx.2.2.1 (by omega), Option.bind_some, Option.bind_some, if_pos (by simp only [List.length_cons, List.length_nil]; omega), w64 (by omega) (by omega), decide_eq_true h0]
      rfl
    · rw [if_neg (show ¬ (i : Int) = 0 by omega), ef, Option.bind_some, if_pos (by omega), if_pos (by omega), eo, Option.bind_some, if_pos (by omega), if_pos (by omega), itoa_NT x.f2 hx.2.2.1 (by omega), Option.bind_some, Option.bind_some, if_pos (by simp only [List.length_cons, List.length_nil]; omega), w64 (by omega) (by omega), decide_eq_false h0]
      rfl
theorem impl_rule (c : S41) (h : clauseB c = true) (k : Nat) (hk : 10 ≤ k) : impl_clauseText.f k c.f0 c.f1 c.f2 c.f3 = some (bs (ruleT c)) := by
  obtain ⟨hn, hb, _⟩ := clause_nums c h
  unfold impl_clauseText.f
  have r := impl_run c h c.f1.length 0 [c.f0] k (by omega) (fun t ht => by rw [List.mem_singleton.1 ht]; exact hn) (by simp) (by omega)
  exact r

/-- All the rules' texts. -/
def allT (l : List S41) : List UInt8 := (l.map ruleT).flatten
theorem ruleT_len (c : S41) (h : clauseB c = true) : (ruleT c).length ≤ 5000 := by
  obtain ⟨hn, hb, ht, n0, n1⟩ := clause_nums c h
  have ha := actW_size c.f2 c.f3 n0 n1
  have hall : ∀ (ts : List S66), ts.length ≤ 8 → (∀ x ∈ ts, (1 ≤ x.f0 ∧ x.f0 ≤ 5) ∧ (1 ≤ x.f1 ∧ x.f1 ≤ 3) ∧ 0 ≤ x.f2 ∧ x.f2 ≤ 1000000) → (∀ t ∈ (ts.map (termW false)).flatten, t.size ≤ 40) ∧ (ts.map (termW false)).flatten.length ≤ 4 * ts.length := by
    intro ts
    induction ts with
    | nil => intro _ _; simp
    | cons x xs ih =>
      intro hl hx
      have i2 := ih (by simp only [List.length_cons] at hl; omega) (fun y hy => hx y (List.mem_cons_of_mem _ hy))
      have hs := termW_size false x (hx x List.mem_cons_self)
      simp only [List.map_cons, List.flatten_cons]
      refine ⟨fun t ht => (List.mem_append.1 ht).elim (hs t) (i2.1 t), ?_⟩
      rw [List.length_append]
      unfold termW at i2 ⊢
      simp only [List.length_cons, List.length_nil]
      omega
  unfold ruleT
  generalize hw : (match c.f1 with | [] => ([] : List ByteArray) | x :: xs => termW true x ++ (xs.map (termW false)).flatten) = Wt
  have hW : (∀ t ∈ Wt, t.size ≤ 40) ∧ Wt.length ≤ 40 := by
    subst hw
    cases hc : c.f1 with
    | nil => simp
    | cons x xs =>
      rw [hc] at hb ht
      simp only [List.length_cons] at hb
      have h1 := termW_size true x (ht x List.mem_cons_self)
      have h2 := hall xs (by omega) (fun y hy => ht y (List.mem_cons_of_mem _ hy))
      refine ⟨fun t hm => (List.mem_append.1 hm).elim (h1 t) (h2.1 t), ?_⟩
      rw [List.length_append]
      have : (termW true x).length = 4 := rfl
      omega
  have hj := J_len ([c.f0] ++ Wt ++ actW c.f2 c.f3) 40 (fun t hm => by
    rcases List.mem_append.1 hm with q | q
    · rcases List.mem_append.1 q with q | q
      · rw [List.mem_singleton.1 q]; exact hn
      · exact hW.1 t q
    · exact ha.1 t q)
  have hl : ([c.f0] ++ Wt ++ actW c.f2 c.f3).length ≤ 100 := by
    rw [List.length_append, List.length_append]
    simp only [List.length_cons, List.length_nil]
    omega
  rw [List.length_append, List.length_append, show (D rule).length = 4 from rfl]
  simp only [List.length_cons, List.length_nil]
  omega
theorem rdC {l : List S41} {i : Nat} (h : i < l.length) : rd_T41 l (i : Int) = l[i] := by
  unfold rd_T41
  rw [Int.toNat_natCast, List.getD_eq_getElem?_getD, List.getElem?_eq_getElem h]; rfl
theorem impl_rules (l : List S41) (hl : l.length ≤ 4096) (h : ∀ c ∈ l, clauseB c = true) : ∀ (d i : Nat) (t : List UInt8) (k : Nat), i + d = l.length → t.length ≤ 100000 * i → d + 20 < k → impl_RulesText.l0 k (bs t) l (l.length : Int) (i : Int) = some (bs (t ++ allT (l.drop i)), 0)
  | 0, i, t, k, hi, _, hk => by
    obtain ⟨k, rfl⟩ : ∃ q, k = q + 1 := ⟨k - 1, by omega⟩
    rw [impl_RulesText.l0, if_neg (by omega), List.drop_eq_nil_of_le (by omega)]
    simp [allT]
  | d + 1, i, t, k, hi, ht, hk => by
    obtain ⟨k, rfl⟩ : ∃ q, k = q + 1 := ⟨k - 1, by omega⟩
    have hlt : i < l.length := by omega
    have hc := h l[i] (List.getElem_mem hlt)
    have hcl := ruleT_len _ hc
    have r := impl_rule l[i] hc k (by omega)
    have ih := impl_rules l hl h d (i + 1) (t ++ ruleT l[i]) k (by omega) (by rw [List.length_append]; omega) (by omega)
    rw [impl_RulesText.l0, if_pos (by omega), if_pos (by omega), if_pos (by omega), rdC hlt, r, Option.bind_some, if_pos (by rw [bs_size, bs_size]; omega), bs_app, w64 (by omega) (by omega), show (i : Int) + 1 = ((i + 1 : Nat) : Int) by omega, ih, List.drop_eq_getElem_cons hlt]
    unfold allT
    rw [List.map_cons, List.flatten_cons, List.append_assoc]
theorem goC_right (rows : List S41) : ∀ (l : List S41) (i : Nat), goC rows l i = true → ∀ c ∈ l, clauseB c = true
  | [], _, _ => fun c hc => by simp at hc
  | x :: xs, i, h => by
    rw [goC, Bool.and_eq_true, Bool.and_eq_true] at h
    intro c hc
    rcases List.mem_cons.1 hc with e | e
    · rw [e]; exact h.1
    · exact goC_right rows xs (i + 1) h.2.2 c e
/-- What is told of rules. -/
def rulesT (l : List S41) : ByteArray × Int := if l.length > 4096 then ((⟨#[]⟩ : ByteArray), 2) else if clausesB l = true then (bs (allT l), 0) else ((⟨#[]⟩ : ByteArray), 1)
theorem rules_impl (l : List S41) (hl : l.length ≤ 1048576) (k : Nat) (hk : 2200000 ≤ k) : impl_RulesText.f k l = some (rulesT l) := by
  unfold impl_RulesText.f rulesT impl_Clause_32.f
  rw [Option.bind_some]
  by_cases h : l.length > 4096
  · rw [decide_eq_false (by omega), if_pos h]; rfl
  rw [decide_eq_true (by omega), if_neg h, if_pos rfl, clauses_impl l hl k hk, Option.bind_some]
  by_cases hc : clausesB l = true
  · rw [if_pos hc, if_pos hc]
    have hall : ∀ c ∈ l, clauseB c = true := by
      unfold clausesB at hc
      rw [Bool.and_eq_true] at hc
      exact goC_right l l 0 hc.1
    have := impl_rules l (by omega) hall l.length 0 [] k (by omega) (by simp) (by omega)
    rw [List.drop_zero, List.nil_append] at this
    exact this
  · rw [if_neg hc, if_neg hc]
end Go.Proofs.YthhhmcijbplcoaaGreatDoor
