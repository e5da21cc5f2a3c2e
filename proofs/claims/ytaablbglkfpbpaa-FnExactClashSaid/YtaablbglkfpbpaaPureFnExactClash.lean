/- FnExactClash is true for every two rules: longer ones are let by by the law's own guard; both sides tell the same facts, the same clash and the same code, and the rules stay as they were. -/
import Derived.Test.YtaablbglkfpbpaaPAllx0
import Derived.Test.YtaablbglkfpbpaaPAllx15
import Derived.Test.YtaablbglkfpbpaaPAllx9
import Derived.Test.YtaablbglkfpbpaaClash
namespace Go.Proofs.Ytaablbglkfpbpaa.Pure
open Go.RowKit Go.Proofs.Ytaablbglkfpbpaa Go.Proofs.Ytaablbglkfpbpaa.PAll Go.Proofs.YtaablbglkfpbpaaW.PrintWords Go.Proofs.YtaablbglkfpbpaaW.PrintLast

theorem FnExactClash (x0 x1 : S24) (h0 : okS24 x0) (h1 : okS24 x1) : ∃ k, laws_FnExactClash.f k x0.f0 x0.f1 x0.f2 x0.f3 x1.f0 x1.f1 x1.f2 x1.f3 = some true := by
  obtain ⟨r, e, hr⟩ := szClause_ok x0 h0 1048576 (by decide) (by decide)
  refine ⟨2200001, ?_⟩
  unfold laws_FnExactClash.f
  rw [e, Option.bind_some]
  by_cases hn : r < 0
  · rw [if_pos hn]
  rw [if_neg hn]
  obtain ⟨r2, e2, hr2⟩ := szClause_ok x1 h1 r (by omega) (by omega)
  rw [e2, Option.bind_some]
  by_cases hn2 : r2 < 0
  · rw [if_pos hn2]
  rw [if_neg hn2]
  have l0 : x0.f1.length ≤ 1048576 := by omega
  have l1 : x1.f1.length ≤ 1048576 := by omega
  have m0 : (x0.f1.map cvTerm).length ≤ 1048576 := by rw [List.length_map]; exact l0
  have m1 : (x1.f1.map cvTerm).length ≤ 1048576 := by rw [List.length_map]; exact l1
  have cs := clash_spec (cvClause x0) (cvClause x1) 2200001 (by omega)
  have ci := clash_impl (cvClause x0) (cvClause x1) 2200001 (by omega)
  unfold cvClause at cs ci
  have ef : ∀ a b c d e : Int, laws_eqFacts.f a b c d e a b c d e = some true := fun a b c d e => by unfold laws_eqFacts.f; simp
  rw [toClause_is _ l0 _ (by omega), Option.bind_some, toClause_is _ l1 _ (by omega), Option.bind_some, cs, Option.bind_some, Option.bind_some, Option.bind_some, ci, Option.bind_some, ef, Option.bind_some, if_pos rfl]
  simp only [bne_self_eq_false, Bool.false_eq_true, if_false]
  rw [show (2200001 : Nat) = 2200000 + 1 from rfl, laws_FnExactClash.j0, if_neg (by decide), toClause_is _ l0 _ (by omega), Option.bind_some]
  have q0 := eqClause_refl ⟨x0.f0, x0.f1.map cvTerm, x0.f2, x0.f3⟩ m0 2200000 (by omega)
  have q1 := eqClause_refl ⟨x1.f0, x1.f1.map cvTerm, x1.f2, x1.f3⟩ m1 2200000 (by omega)
  rw [q0, Option.bind_some, if_pos rfl, toClause_is _ l1 _ (by omega), Option.bind_some, q1, Option.bind_some, if_pos rfl]

end Go.Proofs.Ytaablbglkfpbpaa.Pure
