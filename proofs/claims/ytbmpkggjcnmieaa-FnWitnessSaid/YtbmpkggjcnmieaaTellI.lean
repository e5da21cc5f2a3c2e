/- A rule's witness: what the program tells of a rule. -/
import Derived.Test.YtbmpkggjcnmieaaPAllx0
import Derived.Test.YtbmpkggjcnmieaaPAllx11
import Derived.Test.YtbmpkggjcnmieaaPAllx3
import Derived.Test.YtbmpkggjcnmieaaBounds
namespace Go.Proofs.Ytbmpkggjcnmieaa
open Go.RowKit Go.Proofs.Ytbmpkggjcnmieaa.PAll Go.Proofs.YtbmpkggjcnmieaaW.PrintWords Go.Proofs.YtbmpkggjcnmieaaW.PrintLast

/-- What is told of a rule. -/
def witB (c : S37) : Int × Int × Int × Int × Int × Int × List Int :=
  bif clauseB c then
    (bif emptyB (impl_narrowed.go impl_bounds.all c.f1) then (0, 0, 0, 0, 0, 8, impl_conflict.all c.f1) else
      (impl_narrowed.go impl_bounds.all c.f1 2, impl_narrowed.go impl_bounds.all c.f1 4, impl_narrowed.go impl_bounds.all c.f1 6, impl_narrowed.go impl_bounds.all c.f1 8, impl_narrowed.go impl_bounds.all c.f1 10, 0, []))
  else (0, 0, 0, 0, 0, 1, [])

theorem wit_terms (c : S37) (h : clauseB c = true) : TermsOK c.f1 := by
  have h1 := clauseB_terms c h
  exact ⟨by omega, fun x hx => (h1.2 x hx).1⟩
theorem wit_impl (c : S37) (k : Nat) (hk : 100 ≤ k) : impl_Witness.f k c.f0 c.f1 c.f2 c.f3 = some (witB c) := by
  unfold impl_Witness.f witB
  rw [clause_impl c k (by omega), Option.bind_some]
  cases ha : clauseB c
  · rfl
  have ht := wit_terms c ha
  rw [if_pos rfl, if_pos ⟨List.all_eq_true.2 fun x hx => decide_eq_true (ht.2 x hx), (clauseB_terms c ha).1⟩]
  have hz := go_zero _ impl_bounds.all ht.2
  rw [empty_is _ (by rw [hz.1, hz.2]; decide)]
  cases emptyB (impl_narrowed.go impl_bounds.all c.f1)
  · rw [if_neg (by decide)]; rfl
  · rw [if_pos rfl]; rfl

end Go.Proofs.Ytbmpkggjcnmieaa
