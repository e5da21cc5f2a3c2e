/- One rule: what the reference answers whether it is right; numbers and acts as both ask. -/
import Derived.Test.YthhhmcijbplcoaaGreatDoorPFnRulesx0
import Derived.Test.YthhhmcijbplcoaaGreatDoorPFnRulesx4
import Derived.Test.YthhhmcijbplcoaaGreatDoorPFnRulesx6
import Derived.Test.YthhhmcijbplcoaaGreatDoorName
import Derived.Test.YthhhmcijbplcoaaGreatDoorRdClause
namespace Go.Proofs.YthhhmcijbplcoaaGreatDoor
open Go.RowKit Go.Proofs.YthhhmcijbplcoaaGreatDoor.PFnRules Go.Proofs.YthhhmcijbplcoaaGreatDoorW.PrintWords Go.Proofs.YthhhmcijbplcoaaGreatDoorW.PrintLast

def loB (f : Int) : Int := rd [0, 1, 0, 0, 1, 0] f
def hiB (f : Int) : Int := rd [0, 999, 1000000, 23, 7, 120] f

def termB (x : S66) : Bool := decide (1 ≤ x.f0 ∧ x.f0 ≤ 5) && (decide (1 ≤ x.f1 ∧ x.f1 ≤ 3) && decide (loB x.f0 ≤ x.f2 ∧ x.f2 ≤ hiB x.f0))

theorem num_is (a b c : Int) (h : 1 ≤ a ∧ a ≤ 5) : impl_isTermNum.f a b c = some (decide (loB a ≤ c ∧ c ≤ hiB a)) := by
  unfold impl_isTermNum.f
  have : a = 1 ∨ a = 2 ∨ a = 3 ∨ a = 4 ∨ a = 5 := by omega
  rcases this with rfl | rfl | rfl | rfl | rfl
  · rw [if_pos rfl, within_b]; rfl
  · rw [if_neg (by decide), if_pos rfl, within_b]; rfl
  · rw [if_neg (by decide), if_neg (by decide), if_pos rfl, within_b]; rfl
  · rw [if_neg (by decide), if_neg (by decide), if_neg (by decide), if_pos rfl, within_b]; rfl
  · rw [if_neg (by decide), if_neg (by decide), if_neg (by decide), if_neg (by decide), if_pos rfl, within_b]; rfl

def actB (a n : Int) : Bool :=
  if a = 1 then decide (0 ≤ n ∧ n ≤ 100) else if a = 2 then decide (0 ≤ n ∧ n ≤ 1000000000) else if a = 3 then n == 0 else false

theorem act_impl (a n : Int) : impl_isAct.f a n = some (actB a n) := by
  unfold impl_isAct.f actB
  rw [within_b, within_b]
  split
  · rfl
  · split
    · rfl
    · split <;> rfl

def clauseB (c : S41) : Bool := nameB c.f0 && (decide ((c.f1.length : Int) ≤ 8) && (actB c.f2 c.f3 && c.f1.all termB))

theorem low_is (a : Int) (h : 1 ≤ a ∧ a ≤ 5) : spec_l06Low.f a = some (loB a) ∧ spec_l06High.f a = some (hiB a) := by
  unfold spec_l06Low.f spec_l06High.f loB hiB
  simp only [Option.bind_some]
  rw [if_pos (by omega), if_pos (by simp only [List.length_cons, List.length_nil]; omega), if_pos (by omega), if_pos (by simp only [List.length_cons, List.length_nil]; omega)]
  exact ⟨rfl, rfl⟩

end Go.Proofs.YthhhmcijbplcoaaGreatDoor
