/- Clashing: of two rules the program and the reference tell the same facts, whether they clash, and the same code. -/
import Derived.Test.YtaablbglkfpbpaaPAllx0
import Derived.Test.YtaablbglkfpbpaaPAllx2
import Derived.Test.YtaablbglkfpbpaaPAllx3
import Derived.Test.YtaablbglkfpbpaaPAllx8
import Derived.Test.YtaablbglkfpbpaaBounds
namespace Go.Proofs.Ytaablbglkfpbpaa
open Go.RowKit Go.Proofs.Ytaablbglkfpbpaa.PAll Go.Proofs.YtaablbglkfpbpaaW.PrintWords Go.Proofs.YtaablbglkfpbpaaW.PrintLast

/-- What is told of two rules. -/
def clashB (a b : S32) : Int × Int × Int × Int × Int × Bool × Int :=
  bif clauseB a && clauseB b then
    (bif emptyB (impl_narrowed.go impl_bounds.all (a.f1 ++ b.f1)) || (decide (a.f2 = b.f2) && decide (a.f3 = b.f3)) then (0, 0, 0, 0, 0, false, 0) else
      (impl_narrowed.go impl_bounds.all (a.f1 ++ b.f1) 2, impl_narrowed.go impl_bounds.all (a.f1 ++ b.f1) 4, impl_narrowed.go impl_bounds.all (a.f1 ++ b.f1) 6, impl_narrowed.go impl_bounds.all (a.f1 ++ b.f1) 8, impl_narrowed.go impl_bounds.all (a.f1 ++ b.f1) 10, true, 0))
  else (0, 0, 0, 0, 0, false, 1)

theorem clash_terms (a b : S32) (ha : clauseB a = true) (hb : clauseB b = true) : TermsOK (a.f1 ++ b.f1) := by
  have h1 := clauseB_terms a ha
  have h2 := clauseB_terms b hb
  refine ⟨by rw [List.length_append]; omega, fun x hx => ?_⟩
  rcases List.mem_append.1 hx with h | h
  · exact (h1.2 x h).1
  · exact (h2.2 x h).1

theorem clash_impl (a b : S32) (k : Nat) (hk : 100 ≤ k) : impl_Clash.f k a.f0 a.f1 a.f2 a.f3 b.f0 b.f1 b.f2 b.f3 = some (clashB a b) := by
  unfold impl_Clash.f clashB
  rw [clause_impl a k (by omega), Option.bind_some, clause_impl b k (by omega)]
  cases ha : clauseB a
  · rfl
  rw [if_pos rfl, Option.bind_some]
  cases hb : clauseB b
  · rfl
  have ht := clash_terms a b ha hb
  rw [if_pos rfl, if_pos (List.all_eq_true.2 fun x hx => decide_eq_true (ht.2 x hx)), ← go_append]
  have hz := go_zero _ impl_bounds.all ht.2
  rw [empty_is _ (by rw [hz.1, hz.2]; decide)]
  cases emptyB (impl_narrowed.go impl_bounds.all (a.f1 ++ b.f1))
  · rw [if_neg (by decide)]
    by_cases h2 : a.f2 = b.f2
    · rw [if_pos h2, decide_eq_true h2]
      by_cases h3 : a.f3 = b.f3
      · rw [if_pos h3, decide_eq_true h3]; rfl
      · rw [if_neg h3, decide_eq_false h3]; rfl
    · rw [if_neg h2, decide_eq_false h2]; rfl
  · rfl

theorem clash_spec (a b : S32) (k : Nat) (hk : 200 ≤ k) : spec_Clash.f k a.f0 a.f1 a.f2 a.f3 b.f0 b.f1 b.f2 b.f3 = some (clashB a b) := by
  obtain ⟨k, rfl⟩ : ∃ m, k = m + 2 := ⟨k - 2, by omega⟩
  unfold spec_Clash.f clashB
  rw [clause_spec a _ (by omega), Option.bind_some, clause_spec b _ (by omega)]
  cases ha : clauseB a
  · rw [if_neg (by decide), spec_Clash.j0, if_pos rfl]; rfl
  rw [if_pos rfl, Option.bind_some]
  cases hb : clauseB b
  · rw [spec_Clash.j0]; rfl
  have ht := clash_terms a b ha hb
  have h1 := (clauseB_terms a ha).1
  have h2 := (clauseB_terms b hb).1
  rw [spec_Clash.j0, Bool.not_true, if_neg (by decide), Option.bind_some, List.nil_append, if_pos (by simp only [List.length_nil]; omega), Option.bind_some, if_pos (by omega), least_is _ ht _ (by rw [List.length_append]; omega), Option.bind_some]
  generalize impl_narrowed.go impl_bounds.all (a.f1 ++ b.f1) = B
  cases emptyB B
  · simp only [Bool.false_eq_true, if_false, if_true, Bool.and_self, Bool.false_or, cond_true]
    by_cases h2 : a.f2 = b.f2
    · rw [if_pos h2, decide_eq_true h2, spec_Clash.j1]
      by_cases h3 : a.f3 = b.f3
      · rw [if_pos (beq_iff_eq.mpr h3), decide_eq_true h3]; rfl
      · rw [if_neg (by simpa using h3), decide_eq_false h3]; rfl
    · rw [if_neg h2, decide_eq_false h2, spec_Clash.j1, if_neg (by decide)]; rfl
  · simp only [if_true, Bool.false_eq_true, if_false]
    rw [spec_Clash.j1, if_pos rfl]; rfl

end Go.Proofs.Ytaablbglkfpbpaa
