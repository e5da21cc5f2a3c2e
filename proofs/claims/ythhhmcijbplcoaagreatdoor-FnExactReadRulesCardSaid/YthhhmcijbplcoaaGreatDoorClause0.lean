/- One rule: what the reference answers whether it is right; numbers and acts as both ask. -/
import Derived.Test.YthhhmcijbplcoaaGreatDoorPFnExactReadRulesx0
import Derived.Test.YthhhmcijbplcoaaGreatDoorPFnExactReadRulesx2
import Derived.Test.YthhhmcijbplcoaaGreatDoorPFnExactReadRulesx6
import Derived.Test.YthhhmcijbplcoaaGreatDoorPFnExactReadRulesx7
import Derived.Test.YthhhmcijbplcoaaGreatDoorIn1
import Derived.Test.YthhhmcijbplcoaaGreatDoorName
import Derived.Test.YthhhmcijbplcoaaGreatDoorRdClause
namespace Go.Proofs.YthhhmcijbplcoaaGreatDoor
open Go.RowKit Go.Proofs.YthhhmcijbplcoaaGreatDoor.PFnExactReadRules Go.Proofs.YthhhmcijbplcoaaGreatDoorW.PrintWords Go.Proofs.YthhhmcijbplcoaaGreatDoorW.PrintLast

def loB (f : Int) : Int := rd [0, 1, 0, 0, 1, 0] f
def hiB (f : Int) : Int := rd [0, 999, 1000000, 23, 7, 120] f

def termB (x : S66) : Bool := decide (1 ≤ x.f0 ∧ x.f0 ≤ 5) && (decide (1 ≤ x.f1 ∧ x.f1 ≤ 3) && decide (loB x.f0 ≤ x.f2 ∧ x.f2 ≤ hiB x.f0))

theorem num_is (a b c : Int) (h : 1 ≤ a ∧ a ≤ 5) : impl_isTermNum.f a b c = some (decide (loB a ≤ c ∧ c ≤ hiB a)) := by
  unfold impl_isTermNum.f
  have : a = 1 ∨ a = 2 ∨ a = 3 ∨ a = 4 ∨ a = 5 := by omega
  rcases this with rfl | rfl | rfl | rfl | rfl
  · rw [if_pos rfl, within_b]; rfl
  · rw [if_neg (by decide), if_pos rfl, within_b]; rfl
  · rw [if_neg (by decide), if_neg (by decide), if_pos rfl, within_b]; rfl
  · rw [if_neg (by decide), if_neg (by decide), if_neg (by decide), if_pos rfl, within_b]; rfl
  · rw [if_neg (by decide), if_neg (by decide), if_neg (by decide), if_neg (by decide), if_pos rfl, within_b]; rfl

def actB (a n : Int) : Bool :=
  if a = 1 then decide (0 ≤ n ∧ n ≤ 100) else if a = 2 then decide (0 ≤ n ∧ n ≤ 1000000000) else if a = 3 then n == 0 else false

theorem act_impl (a n : Int) : impl_isAct.f a n = some (actB a n) := by
  unfold impl_isAct.f actB
  rw [within_b, within_b]
  split
  · rfl
  · split
    · rfl
    · split <;> rfl

theorem act_spec (a n : Int) : spec_l06Act.f a n = some (actB a n) := by
  unfold spec_l06Act.f actB
  rw [in1_is, in1_is]
  split
  · rfl
  · split
    · rfl
    · split <;> rfl

def clauseB (c : S41) : Bool := nameB c.f0 && (decide ((c.f1.length : Int) ≤ 8) && (actB c.f2 c.f3 && c.f1.all termB))

theorem low_is (a : Int) (h : 1 ≤ a ∧ a ≤ 5) : spec_l06Low.f a = some (loB a) ∧ spec_l06High.f a = some (hiB a) := by
  unfold spec_l06Low.f spec_l06High.f loB hiB
  simp only [Option.bind_some]
  rw [if_pos (by omega), if_pos (by simp only [List.length_cons, List.length_nil]; omega), if_pos (by omega), if_pos (by simp only [List.length_cons, List.length_nil]; omega)]
  exact ⟨rfl, rfl⟩

theorem clause_spec (c : S41) (k : Nat) (hk : 100 ≤ k) : spec_l06Clause.f k c.f0 c.f1 c.f2 c.f3 = some (clauseB c) := by
  obtain ⟨k, rfl⟩ : ∃ m, k = m + 1 := ⟨k - 1, by omega⟩
  unfold spec_l06Clause.f clauseB
  rw [(name_both _ _ (by omega)).2, Option.bind_some]
  cases nameB c.f0
  · rw [if_neg (by decide), spec_l06Clause.j0, if_pos rfl]; rfl
  rw [if_pos rfl, spec_l06Clause.j0]
  by_cases h : (c.f1.length : Int) ≤ 8
  · rw [decide_eq_false (show ¬ (c.f1.length : Int) > 8 by omega), decide_eq_true h, if_neg (by decide)]
    have key : ∀ d i k, i + d = c.f1.length → 2 * d < k → spec_l06Clause.l0 k (i : Int) c.f0 c.f1 c.f2 c.f3 = some (actB c.f2 c.f3 && (c.f1.drop i).all termB) := by
      intro d
      induction d with
      | zero =>
        intro i k hi hk
        obtain ⟨k, rfl⟩ : ∃ m, k = m + 1 := ⟨k - 1, by omega⟩
        rw [spec_l06Clause.l0, if_neg (by omega), act_spec, List.drop_eq_nil_of_le (by omega)]
        cases actB c.f2 c.f3 <;> rfl
      | succ d ih =>
        intro i k hi hk
        obtain ⟨k, rfl⟩ : ∃ m, k = m + 2 := ⟨k - 2, by omega⟩
        have hil : i < c.f1.length := by omega
        have e := ih (i + 1) k (by omega) (by omega)
        rw [show ((i + 1 : Nat) : Int) = (i : Int) + 1 by omega] at e
        have jt : spec_l06Clause.j2 (k + 1) (i : Int) true c.f0 c.f1 c.f2 c.f3 = some false := by rw [spec_l06Clause.j2, if_pos rfl]
        have jf : spec_l06Clause.j2 (k + 1) (i : Int) false c.f0 c.f1 c.f2 c.f3 = some (actB c.f2 c.f3 && (c.f1.drop (i + 1)).all termB) := by rw [spec_l06Clause.j2, if_neg (by decide), w64 (by omega) (by omega), e]
        rw [spec_l06Clause.l0, if_pos (by omega), if_pos (by omega), rdBTerm hil, List.drop_eq_getElem_cons hil, List.all_cons, in1_is, Option.bind_some, in1_is, Option.bind_some]
        generalize (c.f1.drop (i + 1)).all termB = R at *
        generalize c.f1[i] = x at *
        unfold termB
        by_cases h1 : 1 ≤ x.f0 ∧ x.f0 ≤ 5
        · rw [decide_eq_true h1, if_pos rfl]
          by_cases h2 : 1 ≤ x.f1 ∧ x.f1 ≤ 3
          · rw [decide_eq_true h2, if_pos rfl, (low_is _ h1).1, Option.bind_some, (low_is _ h1).2, Option.bind_some, in1_is, Option.bind_some]
            cases decide (loB x.f0 ≤ x.f2 ∧ x.f2 ≤ hiB x.f0)
            · rw [Bool.not_false, jt]; cases actB c.f2 c.f3 <;> rfl
            · rw [Bool.not_true, jf]; rfl
          · rw [decide_eq_false h2, if_neg (by decide), jt]; cases actB c.f2 c.f3 <;> rfl
        · rw [decide_eq_false h1, if_neg (by decide), jt]; cases actB c.f2 c.f3 <;> rfl
    have := key c.f1.length 0 k (by omega) (by omega)
    rw [show ((0 : Nat) : Int) = 0 from rfl, List.drop_zero] at this
    rw [this]; rfl
  · rw [decide_eq_true (show (c.f1.length : Int) > 8 by omega), decide_eq_false h, if_pos rfl]; rfl

end Go.Proofs.YthhhmcijbplcoaaGreatDoor
