/- The text of drawn rules is read back as these rules. -/
import Derived.Test.YthhhmcijbplcoaaGreatDoorPFnRulesx0
import Derived.Test.YthhhmcijbplcoaaGreatDoorPFnRulesx5
import Derived.Test.YthhhmcijbplcoaaGreatDoorPFnRulesx9
import Derived.Test.YthhhmcijbplcoaaGreatDoorReadBack
import Derived.Test.YthhhmcijbplcoaaGreatDoorReadBoth
import Derived.Test.YthhhmcijbplcoaaGreatDoorDrawClauses
namespace Go.Proofs.YthhhmcijbplcoaaGreatDoor
open Go.RowKit Go.Proofs.YthhhmcijbplcoaaGreatDoor.PFnRules Go.Proofs.YthhhmcijbplcoaaGreatDoorW.PrintWords Go.Proofs.YthhhmcijbplcoaaGreatDoorW.PrintLast

/-- A rule's words, and its line. -/
def ruleW (c : S41) : List ByteArray := c.f0 :: (wordsOf true c.f1 ++ actW c.f2 c.f3)
def lineT (c : S41) : List UInt8 := D rule ++ J (ruleW c)
theorem rname_word (a : Int) (h : 0 ≤ a ∧ a ≤ 6) : wordB (rname a) = true := by
  have : a = 0 ∨ a = 1 ∨ a = 2 ∨ a = 3 ∨ a = 4 ∨ a = 5 ∨ a = 6 := by omega
  rcases this with rfl | rfl | rfl | rfl | rfl | rfl | rfl <;> decide +kernel
theorem ruleW_word (c : S41) (h : clauseB c = true) (hn : wordB c.f0 = true) : ∀ t ∈ ruleW c, wordB t = true := by
  obtain ⟨_, _, ht, _⟩ := clause_nums c h
  have h' := h
  unfold clauseB at h'
  rw [Bool.and_eq_true, Bool.and_eq_true, Bool.and_eq_true] at h'
  intro t hm
  rcases List.mem_cons.1 hm with e | e
  · rw [e]; exact hn
  · rcases List.mem_append.1 e with e | e
    · exact terms_word c.f1 true ht t e
    · exact (act_word _ _ h'.2.2.1).1 t e
theorem line_no10 (c : S41) (h : clauseB c = true) (hn : wordB c.f0 = true) : (10 : UInt8) ∉ lineT c := by
  unfold lineT
  intro m
  rcases List.mem_append.1 m with e | e
  · exact (wordB_no rule_word).2.1 e
  · exact J_no10 _ (ruleW_word c h hn) e
theorem line_words (c : S41) (h : clauseB c = true) (hn : wordB c.f0 = true) : words (lineT c) = rule :: ruleW c := words_J rule _ rule_word (ruleW_word c h hn)
theorem cut_all : ∀ l : List S41, (∀ c ∈ l, (10 : UInt8) ∉ lineT c) → cutL 10 (allT l) = l.map lineT ++ [[]]
  | [], _ => rfl
  | c :: l, h => by
    have e : allT (c :: l) = lineT c ++ 10 :: allT l := by
      unfold allT
      rw [List.map_cons, List.flatten_cons, ruleT_is]
      show lineT c ++ [10] ++ _ = _
      simp
    rw [e, cutL_at 10 _ _ (h c List.mem_cons_self), cut_all l (fun x hx => h x (List.mem_cons_of_mem _ hx))]; rfl
theorem lines_all (l : List S41) (h : ∀ c ∈ l, (10 : UInt8) ∉ lineT c) : lines (allT l) = l.map fun c => bs (lineT c) := by
  unfold lines
  rw [cut_all l h, List.getLast?_append, if_pos (by rfl), List.map_append, List.length_append, List.map_map]
  simp
theorem all_len : ∀ l : List S41, (∀ c ∈ l, clauseB c = true) → (allT l).length ≤ 5000 * l.length
  | [], _ => by simp [allT]
  | c :: l, h => by
    have h1 := ruleT_len c (h c List.mem_cons_self)
    have h2 := all_len l (fun x hx => h x (List.mem_cons_of_mem _ hx))
    have e : allT (c :: l) = ruleT c ++ allT l := by unfold allT; rw [List.map_cons, List.flatten_cons]
    rw [e, List.length_append, List.length_cons]; omega
theorem code_new (L : List S41) (h7 : L.length ≤ 7) (hd : Drawn_ L) (i : Nat) (hi : i < L.length) : codeB (L.take i) L[i] = 0 := by
  have hx := hd i hi
  have h8 := (clause_nums _ hx.1).2.1
  have hf := firstOf_none (namedC L[i].f0) (L.take i) 0 (fun y hy => by
    obtain ⟨j, hj, e⟩ := List.mem_iff_getElem.1 hy
    rw [List.length_take] at hj
    rw [List.getElem_take] at e
    rw [← e]
    unfold namedC
    rw [hx.2, (hd j (by omega)).2]
    exact rname_apart _ _ (by omega) (by omega) (by omega))
  have hl : (L.take i).length = i := by rw [List.length_take]; omega
  unfold codeB
  rw [if_neg (by omega), if_pos hx.1, hf, if_neg (by omega), hl, if_neg (by omega)]
theorem back_loop (L : List S41) (h7 : L.length ≤ 7) (hd : Drawn_ L) : ∀ (d i : Nat) (k : Nat), i + d = L.length → 2 * d + 1000 ≤ k →
    impl_ReadRules.l0 k (L.take i) (L.map fun c => bs (lineT c)) (L.length : Int) (i : Int) = some (L, 0, 0) := by
  intro d
  induction d with
  | zero =>
    intro i k hi hk
    obtain ⟨k, rfl⟩ : ∃ m, k = m + 1 := ⟨k - 1, by omega⟩
    rw [impl_ReadRules.l0, if_neg (by omega), List.take_of_length_le (by omega)]
  | succ d ih =>
    intro i k hi hk
    obtain ⟨k, rfl⟩ : ∃ m, k = m + 1 + 1 := ⟨k - 2, by omega⟩
    have hil : i < L.length := by omega
    have hx := hd i hil
    have hnw : wordB L[i].f0 = true := by rw [hx.2]; exact rname_word _ (by omega)
    have hM : (L.map fun c => bs (lineT c)).length = L.length := List.length_map ..
    have hr : rdOf ByteArray.empty (L.map fun c => bs (lineT c)) (i : Int) = bs (lineT L[i]) := by
      rw [rdO (by omega), List.getElem_map]
    have hll : (lineT L[i]).length ≤ 65536 := by
      have := ruleT_len _ hx.1
      rw [ruleT_is, List.length_append] at this
      have e : (D rule ++ J (L[i].f0 :: (wordsOf true L[i].f1 ++ actW L[i].f2 L[i].f3))) = lineT L[i] := rfl
      rw [e] at this; omega
    have hw := words_impl (lineT L[i]) hll
    rw [line_words _ hx.1 hnw] at hw
    have hb := back_clause L[i] hx.1 k (by omega)
    have ht : ∀ x ∈ L[i].f1, (1 ≤ x.f0 ∧ x.f0 ≤ 5) ∧ 1 ≤ x.f1 ∧ x.f1 ≤ 3 := (clause_terms _ hx.1).2
    have hc := code_impl (L.take i) L[i] (by have := hx.1; unfold clauseB at this; rw [Bool.and_eq_true] at this; exact this.1) ht k (by omega)
    rw [code_new L h7 hd i hil] at hc
    have r0 : rdOf ByteArray.empty (rule :: ruleW L[i]) 0 = rule := rfl
    have hb0 : (bt rule 0 == 35) = false := by decide +kernel
    have hrs : (0 : Int) < (rule.size : Int) := by decide +kernel
    have lw : ((rule :: ruleW L[i]).length : Int) = ((ruleW L[i]).length : Int) + 1 := by simp only [List.length_cons]; omega
    have hb' : impl_clauseOf.f k (rule :: ruleW L[i]) = some (L[i].f0, L[i].f1, L[i].f2, L[i].f3, true) := hb
    have ht1 : L.take i ++ [L[i]] = L.take (i + 1) := (List.take_succ_eq_append_getElem hil).symm
    have hlt : (L.take i).length < 2513169434916 := by rw [List.length_take]; omega
    rw [impl_ReadRules.l0, if_pos (show (i : Int) < (L.length : Int) by omega), if_pos (show 0 ≤ (i : Int) by omega), if_pos (show (i : Int) < ((L.map fun c => bs (lineT c)).length : Int) by omega), hr, hw, Option.bind_some, lw, if_neg (by omega), if_pos (by omega), r0, if_pos hrs, hb0, impl_ReadRules.j1, if_neg (by decide), hb', Option.bind_some, w64 (x := (i : Int) + 1) (by omega) (by omega)]
    simp only []
    rw [hc, Option.bind_some, if_pos (show (0 : Int) = 0 from rfl), if_pos hlt, ht1]
    have := ih (i + 1) k (by omega) (by omega)
    rwa [show ((i + 1 : Nat) : Int) = (i : Int) + 1 by omega] at this
/-- Drawn rules' text is read back. -/
theorem rules_back (L : List S41) (h7 : L.length ≤ 7) (hd : Drawn_ L) (k : Nat) (hk : 5000 ≤ k) : impl_ReadRules.f k (bs (allT L)) = some (L, 0, 0) := by
  have hall : ∀ c ∈ L, clauseB c = true := fun c hc => by
    obtain ⟨j, hj, e⟩ := List.mem_iff_getElem.1 hc
    rw [← e]; exact (hd j hj).1
  have hw : ∀ c ∈ L, wordB c.f0 = true := fun c hc => by
    obtain ⟨j, hj, e⟩ := List.mem_iff_getElem.1 hc
    rw [← e, (hd j hj).2]; exact rname_word _ (by omega)
  have hs := all_len L hall
  unfold impl_ReadRules.f
  rw [areTexts1, Option.bind_some, bs_size, decide_eq_true (by omega), if_pos rfl, lines_impl _ (by omega), Option.bind_some, lines_all L (fun c hc => line_no10 c (hall c hc) (hw c hc)), List.length_map]
  have := back_loop L h7 hd L.length 0 k (by omega) (by omega)
  rw [List.take_zero] at this
  exact this

end Go.Proofs.YthhhmcijbplcoaaGreatDoor
