/- Rules are read: the program and the reference tell the same rules, or the same error at the same line. -/
import Derived.Test.YthhhmcijbplcoaaGreatDoorPFnExactReadRulesx0
import Derived.Test.YthhhmcijbplcoaaGreatDoorPFnExactReadRulesx2
import Derived.Test.YthhhmcijbplcoaaGreatDoorPFnExactReadRulesx3
import Derived.Test.YthhhmcijbplcoaaGreatDoorPFnExactReadRulesx6
import Derived.Test.YthhhmcijbplcoaaGreatDoorPFnExactReadRulesx7
import Derived.Test.YthhhmcijbplcoaaGreatDoorRead
import Derived.Test.YthhhmcijbplcoaaGreatDoorCutWords
import Derived.Test.YthhhmcijbplcoaaGreatDoorClauses0
namespace Go.Proofs.YthhhmcijbplcoaaGreatDoor
open Go.RowKit Go.Proofs.YthhhmcijbplcoaaGreatDoor.PFnExactReadRules Go.Proofs.YthhhmcijbplcoaaGreatDoorW.PrintWords Go.Proofs.YthhhmcijbplcoaaGreatDoorW.PrintLast

structure SameN (s g : RuleR) : Prop where
  ok : s.2.2.2.2 = g.2.2.2.2
  eq : g.2.2.2.2 = true → s = g ∧ nameB g.1 = true ∧ ∀ x ∈ g.2.1, (1 ≤ x.f0 ∧ x.f0 ≤ 5) ∧ 1 ≤ x.f1 ∧ x.f1 ≤ 3
theorem SameN.no {s g : RuleR} (h1 : s.2.2.2.2 = false) (h2 : g.2.2.2.2 = false) : SameN s g := ⟨by rw [h1, h2], fun h => by rw [h2] at h; cases h⟩
abbrev WRULE : List UInt8 := [114, 117, 108, 101]
theorem impl_short (ws : List ByteArray) (h2 : 2 ≤ ws.length) (h4 : ws.length < 4) (k : Nat) (hk : 80 ≤ k) (name : ByteArray) : ∃ g, impl_clauseOf.l0 k (ws.drop 2) (⟨#[119, 104, 101, 110]⟩ : ByteArray) name [] 0 0 = some g ∧ g.2.2.2.2 = false := by
  obtain ⟨k, rfl⟩ : ∃ m, k = m + 1 := ⟨k - 1, by omega⟩
  have hl : (ws.drop 2).length ≤ 1 := by rw [List.length_drop]; omega
  obtain ⟨g, e, h⟩ := impl_end (ws.drop 2) name [] k (by omega)
  rw [impl_clauseOf.l0, if_neg (by omega)]
  refine ⟨g, e, ?_⟩
  have : endV (ws.drop 2) = none := by
    match ws.drop 2, hl with
    | [], _ => rfl
    | [_], _ => rfl
    | _ :: _ :: _, h => simp only [List.length_cons] at h; omega
  rw [this] at h
  exact h
theorem read_both (ws : List ByteArray) (hl : ws.length ≤ 100000) (k : Nat) (hk : 3 * ws.length + 300 ≤ k) : ∃ s g, SameN s g ∧ spec_l06Read.f k ws = some s ∧ impl_clauseOf.f k ws = some g := by
  have sj : ∀ k, 2 ≤ k → spec_l06Read.j0 k ws true (⟨#[]⟩ : ByteArray) 0 0 = some ((⟨#[]⟩ : ByteArray), ([] : List S66), 0, 0, false) := fun k hk => by
    obtain ⟨k, rfl⟩ : ∃ m, k = m + 1 := ⟨k - 1, by omega⟩
    rw [spec_l06Read.j0, if_pos rfl]
  have ij : ∀ k, 2 ≤ k → impl_clauseOf.j0 k ws true = some ((⟨#[]⟩ : ByteArray), ([] : List S66), 0, 0, false) := fun k hk => by
    obtain ⟨k, rfl⟩ : ∃ m, k = m + 1 := ⟨k - 1, by omega⟩
    rw [impl_clauseOf.j0, if_pos rfl]
  unfold spec_l06Read.f impl_clauseOf.f
  by_cases c2 : ws.length < 2
  · rw [if_pos (by omega), if_pos (by omega), sj k (by omega), ij k (by omega)]
    exact ⟨_, _, SameN.no rfl rfl, rfl, rfl⟩
  have h0 : rdOf ByteArray.empty ws 0 = ws[0]'(by omega) := rdO (i := 0) (by omega)
  have h1 : rdOf ByteArray.empty ws 1 = ws[1]'(by omega) := rdO (i := 1) (by omega)
  generalize ws[0]'(by omega) = w0 at h0
  generalize ws[1]'(by omega) = name at h1
  rw [h0, h1]
  by_cases c4 : ws.length < 4
  · rw [if_pos (by omega), sj k (by omega), if_neg (by omega), if_pos (by omega)]
    by_cases cr : w0.toList = WRULE
    · rw [if_pos cr, if_pos (by omega), (name_both name k (by omega)).1, Option.bind_some]
      cases nameB name with
      | false => rw [show (!false) = true from rfl, ij k (by omega)]; exact ⟨_, _, SameN.no rfl rfl, rfl, rfl⟩
      | true =>
        obtain ⟨k, rfl⟩ : ∃ m, k = m + 1 := ⟨k - 1, by omega⟩
        obtain ⟨g, e, hg⟩ := impl_short ws (by omega) c4 k (by omega) name
        rw [show (!true) = false from rfl, impl_clauseOf.j0, if_neg (by decide), if_pos (by omega), if_pos (by omega), h1, e]
        exact ⟨_, _, SameN.no rfl hg, rfl, rfl⟩
    · rw [if_neg cr, ij k (by omega)]
      exact ⟨_, _, SameN.no rfl rfl, rfl, rfl⟩
  · rw [if_neg (show ¬ (ws.length : Int) < 4 by omega), if_pos (show 0 < (ws.length : Int) by omega), if_neg (show ¬ (ws.length : Int) < 2 by omega), if_pos (show 0 < (ws.length : Int) by omega)]
    by_cases cr : w0.toList = WRULE
    · rw [if_pos cr, if_pos cr, if_pos (show 1 < (ws.length : Int) by omega), if_pos (show 1 < (ws.length : Int) by omega), (name_both name k (by omega)).1, (name_both name k (by omega)).2, Option.bind_some, Option.bind_some]
      cases hn : nameB name with
      | false => rw [show (!false) = true from rfl, sj k (by omega), ij k (by omega)]; exact ⟨_, _, SameN.no rfl rfl, rfl, rfl⟩
      | true =>
        obtain ⟨k, rfl⟩ : ∃ m, k = m + 1 := ⟨k - 1, by omega⟩
        obtain ⟨s, g, hS, e1, e2⟩ := read_run ws hl name (ws.drop 2).length 2 (ws.drop 2) (⟨#[119, 104, 101, 110]⟩ : ByteArray) [] (Nat.le_refl _) (by omega) rfl (by rw [lit_toList [119, 104, 101, 110]]; decide) (by rw [List.length_drop]; simp only [List.length_nil]; omega) (fun x hx => by cases hx) k k (by rw [List.length_drop]; omega) (by rw [List.length_drop]; omega)
        rw [show (!true) = false from rfl, spec_l06Read.j0, impl_clauseOf.j0, if_neg (show ¬ (false = true) by decide), if_neg (show ¬ (false = true) by decide), if_pos (show 1 < (ws.length : Int) by omega), if_pos (show 1 < (ws.length : Int) by omega), if_pos (show 2 ≤ (ws.length : Int) by omega), h1]
        refine ⟨s, g, ⟨hS.ok, fun h => ?_⟩, e1, e2⟩
        obtain ⟨q1, q2, q3⟩ := hS.eq h
        exact ⟨q1, by rw [q2]; exact hn, q3⟩
    · rw [if_neg cr, if_neg cr, sj k (by omega), ij k (by omega)]
      exact ⟨_, _, SameN.no rfl rfl, rfl, rfl⟩

theorem termnum_is (l : List S66) (h : ∀ x ∈ l, (1 ≤ x.f0 ∧ x.f0 ≤ 5) ∧ 1 ≤ x.f1 ∧ x.f1 ≤ 3) : impl_Term_60_impl_lineCode_1.f l = some (!l.all termB) := by
  have key : ∀ (l : List S66) (i : Int), (∀ x ∈ l, (1 ≤ x.f0 ∧ x.f0 ≤ 5) ∧ 1 ≤ x.f1 ∧ x.f1 ≤ 3) → 0 ≤ i → ∃ r, impl_Term_85.f (fun x => impl_lineCode_1.f x.f0 x.f1 x.f2) l i = some r ∧ decide (r ≥ 0) = !l.all termB := by
    intro l
    induction l with
    | nil => intro i _ _; exact ⟨-1, rfl, rfl⟩
    | cons x xs ih =>
      intro i hx hi
      obtain ⟨r, e, hr⟩ := ih (i + 1) (fun y hy => hx y (List.mem_cons_of_mem _ hy)) (by omega)
      have h1 := hx x List.mem_cons_self
      unfold impl_Term_85.f
      have hb : impl_lineCode_1.f x.f0 x.f1 x.f2 = some (!termB x) := by
        unfold impl_lineCode_1.f termB
        rw [num_is _ _ _ h1.1, Option.bind_some, decide_eq_true h1.1, decide_eq_true h1.2]; rfl
      rw [hb, Option.bind_some, List.all_cons]
      cases termB x
      · exact ⟨i, rfl, by rw [decide_eq_true (by omega)]; rfl⟩
      · exact ⟨r, e, by rw [hr]; rfl⟩
  obtain ⟨r, e, hr⟩ := key l 0 h (by omega)
  unfold impl_Term_60_impl_lineCode_1.f impl_Term_60.f
  rw [e, Option.bind_some, hr]
/-- The code of a line that is a rule's. -/
def codeB (out : List S41) (c : S41) : Int := if (c.f1.length : Int) > 8 then 9 else if clauseB c = true then (if firstOf (namedC c.f0) out 0 ≥ 0 then 7 else if (out.length : Int) = 40 then 9 else 0) else 5
theorem code_impl (out : List S41) (c : S41) (hn : nameB c.f0 = true) (h : ∀ x ∈ c.f1, (1 ≤ x.f0 ∧ x.f0 ≤ 5) ∧ 1 ≤ x.f1 ∧ x.f1 ≤ 3) (k : Nat) (hk : 2 ≤ k) : impl_lineCode.f k out c.f0 c.f1 c.f2 c.f3 true = some (codeB out c) := by
  obtain ⟨k, rfl⟩ : ∃ m, k = m + 1 := ⟨k - 1, by omega⟩
  unfold impl_lineCode.f codeB
  rw [if_pos rfl]
  by_cases c8 : (c.f1.length : Int) > 8
  · rw [if_pos c8, if_pos c8]
  rw [if_neg c8, if_neg c8, act_impl, Option.bind_some, termnum_is c.f1 h]
  have hc : clauseB c = (actB c.f2 c.f3 && c.f1.all termB) := by
    unfold clauseB
    rw [hn, decide_eq_true (show (c.f1.length : Int) ≤ 8 by omega)]; rfl
  rw [hc]
  cases actB c.f2 c.f3 with
  | false => rw [Bool.false_and, if_neg (show ¬ (false = true) by decide), if_neg (show ¬ (false = true) by decide), impl_lineCode.j0, if_pos (show true = true from rfl)]
  | true =>
    rw [if_pos rfl, Option.bind_some, impl_lineCode.j0]
    cases c.f1.all termB with
    | false => rw [if_pos (show (!false) = true from rfl), Bool.and_false, if_neg (show ¬ (false = true) by decide)]
    | true =>
      rw [if_neg (show ¬ ((!true) = true) by decide), if_pos (show (true && true) = true from rfl)]
      unfold impl_clauseAt.f
      rw [at_is, Option.bind_some]
      split
      · rfl
      · split <;> rfl

abbrev Told := List S41 × Int × Int
structure ToldOK (r : Told) : Prop where
  len : r.1.length ≤ 40
  right : ∀ c ∈ r.1, clauseB c = true
theorem rules_run (L : List ByteArray) (hL : L.length ≤ 70000) (hs : ∀ t ∈ L, t.size ≤ 65536) : ∀ (d i : Nat) (out : List S41) (k : Nat), i + d = L.length → out.length ≤ 40 → (∀ c ∈ out, clauseB c = true) → 2 * d + 400000 ≤ k →
    ∃ r, ToldOK r ∧ spec_ReadRules.l0 k [] L out (i : Int) = some r ∧ impl_ReadRules.l0 k out L (L.length : Int) (i : Int) = some r := by
  intro d
  induction d with
  | zero =>
    intro i out k hi ho hc hk
    obtain ⟨k, rfl⟩ : ∃ m, k = m + 1 := ⟨k - 1, by omega⟩
    refine ⟨(out, 0, 0), ⟨ho, hc⟩, ?_, ?_⟩
    · rw [spec_ReadRules.l0, if_neg (by omega)]
    · rw [impl_ReadRules.l0, if_neg (by omega)]
  | succ d ih =>
    intro i out k hi ho hc hk
    obtain ⟨k, rfl⟩ : ∃ m, k = m + 1 + 1 := ⟨k - 2, by omega⟩
    have hil : i < L.length := by omega
    obtain ⟨t, ht⟩ : ∃ t, t = L[i] := ⟨_, rfl⟩
    have hts : t.size ≤ 65536 := by rw [ht]; exact hs _ (List.getElem_mem hil)
    have hr : rdOf ByteArray.empty L (i : Int) = t := by rw [ht]; exact rdO hil
    have hdl : t.data.toList.length ≤ 65536 := by rw [← Lib.size_eq]; exact hts
    obtain ⟨w1, w2⟩ := words_both t.data.toList hdl
    rw [bs_back] at w1 w2
    have hwl := words_len t.data.toList
    have hwm := words_mem t.data.toList
    obtain ⟨ws, hws⟩ : ∃ ws, ws = words t.data.toList := ⟨_, rfl⟩
    rw [← hws] at w1 w2 hwl hwm
    have nx : ∀ k, 2 * d + 400000 ≤ k → ∃ r, ToldOK r ∧ spec_ReadRules.l0 k [] L out ((i : Int) + 1) = some r ∧ impl_ReadRules.l0 k out L (L.length : Int) ((i : Int) + 1) = some r := fun k hk => by
      have := ih (i + 1) out k (by omega) ho hc hk
      rwa [show ((i + 1 : Nat) : Int) = (i : Int) + 1 by omega] at this
    have skip : ∃ r, ToldOK r ∧ spec_ReadRules.j1 (k + 1) [] L out (i : Int) ws true = some r ∧ impl_ReadRules.j1 (k + 1) out (i : Int) ws L (L.length : Int) (i : Int) true = some r := by
      obtain ⟨r, h, e1, e2⟩ := nx k (by omega)
      refine ⟨r, h, ?_, ?_⟩
      · rw [spec_ReadRules.j1, if_pos rfl, w64 (x := (i : Int) + 1) (by omega) (by omega)]; exact e1
      · rw [impl_ReadRules.j1, if_pos rfl, w64 (x := (i : Int) + 1) (by omega) (by omega)]; exact e2
    have take : ∃ r, ToldOK r ∧ spec_ReadRules.j1 (k + 1) [] L out (i : Int) ws false = some r ∧ impl_ReadRules.j1 (k + 1) out (i : Int) ws L (L.length : Int) (i : Int) false = some r := by
      obtain ⟨s, g, hS, e1, e2⟩ := read_both ws (by omega) k (by omega)
      rw [spec_ReadRules.j1, impl_ReadRules.j1, if_neg (by decide), if_neg (by decide), e1, e2, Option.bind_some, Option.bind_some, w64 (x := (i : Int) + 1) (by omega) (by omega)]
      have hok := hS.ok
      cases hg : g.2.2.2.2 with
      | false =>
        rw [hg] at hok
        rw [hok, if_neg (by decide)]
        have hl : impl_lineCode.f k out g.1 g.2.1 g.2.2.1 g.2.2.2.1 false = some 4 := by unfold impl_lineCode.f; rw [if_neg (by decide)]
        rw [hl, Option.bind_some, if_neg (by decide)]
        exact ⟨_, ⟨by simp, fun c hc => by cases hc⟩, rfl, rfl⟩
      | true =>
        obtain ⟨rfl, hn, ht⟩ := hS.eq hg
        rw [if_pos hg]
        have hcs := clause_spec ⟨s.1, s.2.1, s.2.2.1, s.2.2.2.1⟩ k (by omega)
        have hci := code_impl out ⟨s.1, s.2.1, s.2.2.1, s.2.2.2.1⟩ hn ht k (by omega)
        have hfi := find_loop6 out s.1 (by omega) k (by omega)
        simp only [] at hcs hci
        rw [hcs, hci, Option.bind_some, Option.bind_some]
        generalize hC : (⟨s.1, s.2.1, s.2.2.1, s.2.2.2.1⟩ : S41) = c at *
        have hf1 : s.2.1 = c.f1 := by rw [← hC]
        have hf0 : s.1 = c.f0 := by rw [← hC]
        rw [hf1, hfi, hf0]
        unfold codeB
        by_cases c8 : (c.f1.length : Int) > 8
        · rw [if_pos c8, if_pos c8, if_neg (show ¬ (9 : Int) = 0 by decide)]
          exact ⟨_, ⟨by simp, fun c hc => by cases hc⟩, rfl, rfl⟩
        rw [if_neg c8, if_neg c8]
        cases hcb : clauseB c with
        | false =>
          rw [if_neg (show ¬ (false = true) by decide), if_neg (show ¬ (false = true) by decide), if_neg (show ¬ (5 : Int) = 0 by decide)]
          exact ⟨_, ⟨by simp, fun c hc => by cases hc⟩, rfl, rfl⟩
        | true =>
          rw [if_pos (show true = true from rfl), if_pos (show true = true from rfl), Option.bind_some]
          by_cases c7 : firstOf (namedC c.f0) out 0 ≥ 0
          · rw [if_pos c7, if_pos c7, if_neg (show ¬ (7 : Int) = 0 by decide)]
            exact ⟨_, ⟨by simp, fun c hc => by cases hc⟩, rfl, rfl⟩
          rw [if_neg c7, if_neg c7]
          by_cases c40 : (out.length : Int) = 40
          · rw [if_pos c40, if_pos c40, if_neg (show ¬ (9 : Int) = 0 by decide)]
            exact ⟨_, ⟨by simp, fun c hc => by cases hc⟩, rfl, rfl⟩
          rw [if_neg c40, if_neg c40, if_pos (show (0 : Int) = 0 from rfl), if_pos (show out.length < 2513169434916 by omega), if_pos (show out.length < 2513169434916 by omega)]
          have := ih (i + 1) (out ++ [c]) k (by omega) (by rw [List.length_append, List.length_singleton]; omega) (fun x hx => by
            rcases List.mem_append.1 hx with hx | hx
            · exact hc x hx
            · rw [List.mem_singleton.1 hx]; exact hcb) (by omega)
          rwa [show ((i + 1 : Nat) : Int) = (i : Int) + 1 by omega] at this
    rw [spec_ReadRules.l0, impl_ReadRules.l0, if_pos (show (i : Int) < (L.length : Int) by omega), if_pos (show 0 ≤ (i : Int) by omega), if_pos (show (i : Int) < (L.length : Int) by omega), if_pos (show 0 ≤ (i : Int) by omega), if_pos (show (i : Int) < (L.length : Int) by omega), hr, w1, w2 (k + 1) (by omega), Option.bind_some, Option.bind_some]
    cases hw : ws with
    | nil =>
      rw [hw] at skip
      rw [if_pos (show (([] : List ByteArray).length : Int) = 0 from rfl), if_pos (show (([] : List ByteArray).length : Int) = 0 from rfl)]
      exact skip
    | cons a b =>
      rw [hw] at skip take
      have ha := hwm a (by rw [hw]; exact List.mem_cons_self)
      have r0 : rdOf ByteArray.empty (a :: b) 0 = a := rfl
      rw [if_neg (show ¬ ((a :: b).length : Int) = 0 by simp only [List.length_cons]; omega), if_pos (show 0 < ((a :: b).length : Int) by simp only [List.length_cons]; omega), if_neg (show ¬ ((a :: b).length : Int) = 0 by simp only [List.length_cons]; omega), if_pos (show 0 < ((a :: b).length : Int) by simp only [List.length_cons]; omega), r0, if_pos (show 0 < (a.size : Int) by omega), if_pos (show 0 < (a.size : Int) by omega)]
      cases (bt a 0 == 35) with
      | true => exact skip
      | false => exact take
theorem areTexts1 (t : ByteArray) : impl_areTexts.f [t] = some (decide (t.size ≤ 65536)) := by
  unfold impl_areTexts.f slices_ContainsFunc_string_string_impl_areTexts_1.f slices_ContainsFunc_string_string.f
  rw [slices_IndexFunc_string_string.f]
  unfold impl_areTexts_1.f
  rw [Option.bind_some]
  by_cases c : (t.size : Int) > 65536
  · rw [decide_eq_true c, if_pos rfl]
    have : decide (t.size ≤ 65536) = false := decide_eq_false (by omega)
    rw [this]; rfl
  · rw [decide_eq_false c, if_neg (by decide)]
    have : decide (t.size ≤ 65536) = true := decide_eq_true (by omega)
    rw [this]; rfl
theorem rules_both (t : ByteArray) (k : Nat) (hk : 1000000 ≤ k) : ∃ r, ToldOK r ∧ spec_ReadRules.f k t = some r ∧ impl_ReadRules.f k t = some r := by
  unfold spec_ReadRules.f impl_ReadRules.f
  rw [areTexts1, Option.bind_some, Option.bind_some]
  by_cases c : (t.size : Int) > 65536
  · rw [if_pos c, decide_eq_false (by omega), if_neg (by decide)]
    exact ⟨_, ⟨by simp, fun c hc => by cases hc⟩, rfl, rfl⟩
  · rw [if_neg c, decide_eq_true (by omega), if_pos rfl]
    have hdl : t.data.toList.length ≤ 65536 := by rw [← Lib.size_eq]; omega
    obtain ⟨e1, e2⟩ := lines_both t.data.toList hdl
    rw [bs_back] at e1 e2
    rw [e1, e2 k (by omega), Option.bind_some, Option.bind_some]
    have hll := lines_len t.data.toList
    exact rules_run (lines t.data.toList) (by omega) (fun x hx => Nat.le_trans (lines_mem _ x hx) hdl) (lines t.data.toList).length 0 [] k (by omega) (by simp) (fun c hc => by cases hc) (by omega)

end Go.Proofs.YthhhmcijbplcoaaGreatDoor
