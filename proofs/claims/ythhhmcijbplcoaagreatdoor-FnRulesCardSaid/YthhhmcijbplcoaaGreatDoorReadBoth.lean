/- Rules are read: the program and the reference tell the same rules, or the same error at the same line. -/
import Derived.Test.YthhhmcijbplcoaaGreatDoorPFnRulesx0
import Derived.Test.YthhhmcijbplcoaaGreatDoorPFnRulesx1
import Derived.Test.YthhhmcijbplcoaaGreatDoorPFnRulesx4
import Derived.Test.YthhhmcijbplcoaaGreatDoorPFnRulesx5
import Derived.Test.YthhhmcijbplcoaaGreatDoorRead
import Derived.Test.YthhhmcijbplcoaaGreatDoorCutWords
import Derived.Test.YthhhmcijbplcoaaGreatDoorClauses0
namespace Go.Proofs.YthhhmcijbplcoaaGreatDoor
open Go.RowKit Go.Proofs.YthhhmcijbplcoaaGreatDoor.PFnRules Go.Proofs.YthhhmcijbplcoaaGreatDoorW.PrintWords Go.Proofs.YthhhmcijbplcoaaGreatDoorW.PrintLast

abbrev WRULE : List UInt8 := [114, 117, 108, 101]
theorem termnum_is (l : List S66) (h : ∀ x ∈ l, (1 ≤ x.f0 ∧ x.f0 ≤ 5) ∧ 1 ≤ x.f1 ∧ x.f1 ≤ 3) : impl_Term_60_impl_lineCode_1.f l = some (!l.all termB) := by
  have key : ∀ (l : List S66) (i : Int), (∀ x ∈ l, (1 ≤ x.f0 ∧ x.f0 ≤ 5) ∧ 1 ≤ x.f1 ∧ x.f1 ≤ 3) → 0 ≤ i → ∃ r, impl_Term_85.f (fun x => impl_lineCode_1.f x.f0 x.f1 x.f2) l i = some r ∧ decide (r ≥ 0) = !l.all termB := by
    intro l
    induction l with
    | nil => intro i _ _; exact ⟨-1, rfl, rfl⟩
    | cons x xs ih =>
      intro i hx hi
      obtain ⟨r, e, hr⟩ := ih (i + 1) (fun y hy => hx y (List.mem_cons_of_mem _ hy)) (by omega)
      have h1 := hx x List.mem_cons_self
      unfold impl_Term_85.f
      have hb : impl_lineCode_1.f x.f0 x.f1 x.f2 = some (!termB x) := by
        unfold impl_lineCode_1.f termB
        rw [num_is _ _ _ h1.1, Option.bind_some, decide_eq_true h1.1, decide_eq_true h1.2]; rfl
      rw [hb, Option.bind_some, List.all_cons]
      cases termB x
      · exact ⟨i, rfl, by rw [decide_eq_true (by omega)]; rfl⟩
      · exact ⟨r, e, by rw [hr]; rfl⟩
  obtain ⟨r, e, hr⟩ := key l 0 h (by omega)
  unfold impl_Term_60_impl_lineCode_1.f impl_Term_60.f
  rw [e, Option.bind_some, hr]
/-- The code of a line that is a rule's. -/
def codeB (out : List S41) (c : S41) : Int := if (c.f1.length : Int) > 8 then 9 else if clauseB c = true then (if firstOf (namedC c.f0) out 0 ≥ 0 then 7 else if (out.length : Int) = 40 then 9 else 0) else 5
theorem code_impl (out : List S41) (c : S41) (hn : nameB c.f0 = true) (h : ∀ x ∈ c.f1, (1 ≤ x.f0 ∧ x.f0 ≤ 5) ∧ 1 ≤ x.f1 ∧ x.f1 ≤ 3) (k : Nat) (hk : 2 ≤ k) : impl_lineCode.f k out c.f0 c.f1 c.f2 c.f3 true = some (codeB out c) := by
  obtain ⟨k, rfl⟩ : ∃ m, k = m + 1 := ⟨k - 1, by omega⟩
  unfold impl_lineCode.f codeB
  rw [if_pos rfl]
  by_cases c8 : (c.f1.length : Int) > 8
  · rw [if_pos c8, if_pos c8]
  rw [if_neg c8, if_neg c8, act_impl, Option.bind_some, termnum_is c.f1 h]
  have hc : clauseB c = (actB c.f2 c.f3 && c.f1.all termB) := by
    unfold clauseB
    rw [hn, decide_eq_true (show (c.f1.length : Int) ≤ 8 by omega)]; rfl
  rw [hc]
  cases actB c.f2 c.f3 with
  | false => rw [Bool.false_and, if_neg (show ¬ (false = true) by decide), if_neg (show ¬ (false = true) by decide), impl_lineCode.j0, if_pos (show true = true from rfl)]
  | true =>
    rw [if_pos rfl, Option.bind_some, impl_lineCode.j0]
    cases c.f1.all termB with
    | false => rw [if_pos (show (!false) = true from rfl), Bool.and_false, if_neg (show ¬ (false = true) by decide)]
    | true =>
      rw [if_neg (show ¬ ((!true) = true) by decide), if_pos (show (true && true) = true from rfl)]
      unfold impl_clauseAt.f
      rw [at_is, Option.bind_some]
      split
      · rfl
      · split <;> rfl

abbrev Told := List S41 × Int × Int
theorem areTexts1 (t : ByteArray) : impl_areTexts.f [t] = some (decide (t.size ≤ 65536)) := by
  unfold impl_areTexts.f slices_ContainsFunc_string_string_impl_areTexts_1.f slices_ContainsFunc_string_string.f
  rw [slices_IndexFunc_string_string.f]
  unfold impl_areTexts_1.f
  rw [Option.bind_some]
  by_cases c : (t.size : Int) > 65536
  · rw [decide_eq_true c, if_pos rfl]
    have : decide (t.size ≤ 65536) = false := decide_eq_false (by omega)
    rw [this]; rfl
  · rw [decide_eq_false c, if_neg (by decide)]
    have : decide (t.size ≤ 65536) = true := decide_eq_true (by omega)
    rw [this]; rfl

end Go.Proofs.YthhhmcijbplcoaaGreatDoor
