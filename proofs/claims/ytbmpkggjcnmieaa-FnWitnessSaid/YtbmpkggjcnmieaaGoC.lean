/- Rules one by one: right rules are each right; the first rule for which a test holds. -/
import Derived.Test.YtbmpkggjcnmieaaPAllx0
import Derived.Test.YtbmpkggjcnmieaaPAllx3
import Derived.Test.YtbmpkggjcnmieaaClauses
namespace Go.Proofs.Ytbmpkggjcnmieaa
open Go.RowKit Go.Proofs.Ytbmpkggjcnmieaa.PAll Go.Proofs.YtbmpkggjcnmieaaW.PrintWords Go.Proofs.YtbmpkggjcnmieaaW.PrintLast

theorem goC_all (rows : List S37) : ∀ (l : List S37) (i : Nat), goC rows l i = true → ∀ c ∈ l, clauseB c = true
  | [], _, _ => fun c hc => by simp at hc
  | x :: xs, i, h => by
    rw [goC, Bool.and_eq_true, Bool.and_eq_true] at h
    intro c hc
    rcases List.mem_cons.1 hc with e | e
    · rw [e]; exact h.1
    · exact goC_all rows xs (i + 1) h.2.2 c e

theorem idx_is (p : S37 → Option Bool) (q : S37 → Bool) : ∀ (l : List S37) (i : Int), (∀ x ∈ l, p x = some (q x)) → impl_Clause_41.f p l i = some (firstOf q l i)
  | [], _, _ => rfl
  | x :: xs, i, h => by
    unfold impl_Clause_41.f firstOf
    rw [h x (List.mem_cons_self ..), Option.bind_some, idx_is p q xs (i + 1) (fun y hy => h y (List.mem_cons_of_mem _ hy))]
    cases q x <;> simp

end Go.Proofs.Ytbmpkggjcnmieaa
