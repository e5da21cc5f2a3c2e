/- FnExactWitness is true for every rule: longer ones are let by by the law's own guard; both sides tell the same facts, the same code and the same terms, and the rule stays as it was. -/
import Derived.Test.YtaablbglkfpbpaaPAllx0
import Derived.Test.YtaablbglkfpbpaaPAllx1
import Derived.Test.YtaablbglkfpbpaaPAllx6
import Derived.Test.YtaablbglkfpbpaaPAllx7
import Derived.Test.YtaablbglkfpbpaaRuleWit
import Derived.Test.YtaablbglkfpbpaaMarkInt
namespace Go.Proofs.Ytaablbglkfpbpaa.Pure
open Go.RowKit Go.Proofs.Ytaablbglkfpbpaa Go.Proofs.Ytaablbglkfpbpaa.PAll Go.Proofs.YtaablbglkfpbpaaW.PrintWords Go.Proofs.YtaablbglkfpbpaaW.PrintLast

theorem FnExactWitness (x0 : S24) (h0 : okS24 x0) : ∃ k, laws_FnExactWitness.f k x0.f0 x0.f1 x0.f2 x0.f3 = some true := by
  obtain ⟨r, e, hr⟩ := szClause_ok x0 h0 1048576 (by decide) (by decide)
  refine ⟨2200003, ?_⟩
  unfold laws_FnExactWitness.f
  rw [e, Option.bind_some]
  by_cases hn : r < 0
  · rw [if_pos hn]
  rw [if_neg hn]
  have l0 : x0.f1.length ≤ 1048576 := by omega
  have m0 : (x0.f1.map cvTerm).length ≤ 1048576 := by rw [List.length_map]; exact l0
  have ws := fun k hk => wit_spec (cvClause x0) k hk
  have wi := fun k hk => wit_impl (cvClause x0) k hk
  have hl := witB_len (cvClause x0)
  unfold cvClause at ws wi hl
  generalize witB ⟨x0.f0, x0.f1.map cvTerm, x0.f2, x0.f3⟩ = W at *
  have ef : ∀ a b c d e : Int, laws_eqFacts.f a b c d e a b c d e = some true := fun a b c d e => by unfold laws_eqFacts.f; simp
  have ei := fun k hk => eqInt_refl W.2.2.2.2.2.2 (by omega) k hk
  have tc := fun k hk => toClause_is x0 l0 k hk
  have eq := fun k hk => eqClause_refl ⟨x0.f0, x0.f1.map cvTerm, x0.f2, x0.f3⟩ m0 k hk
  obtain ⟨mt, hm⟩ := markTerm_loop (x0.f1.map cvTerm).length 0 (x0.f1.map cvTerm) 1 (by omega) (by omega) (by omega) (by omega) 2200002 (by omega)
  have hmc : laws_markClause.f 2200002 x0.f0 (x0.f1.map cvTerm) x0.f2 x0.f3 1 = some (1 + 3 * ((x0.f1.map cvTerm).length : Int), mt) := by
    unfold laws_markClause.f laws_markTermS.f
    rw [show (0 : Int) = ((0 : Nat) : Int) from rfl, hm, Option.bind_some]
  have mi := fun k hk => markInt_is W.2.2.2.2.2.2 (by omega) k hk
  have hi := fun k hk => heldInt_is W.2.2.2.2.2.2.length (by omega) k hk
  rw [tc _ (by omega), Option.bind_some, ws _ (by omega), Option.bind_some, Option.bind_some, wi _ (by omega), Option.bind_some, ef, Option.bind_some, if_pos rfl, if_pos rfl, ei _ (by omega), Option.bind_some]
  rw [show (2200003 : Nat) = 2200002 + 1 from rfl, laws_FnExactWitness.j0, Bool.not_true, if_neg (by decide), tc _ (by omega), Option.bind_some, eq _ (by omega), Option.bind_some, if_pos rfl, hmc, Option.bind_some, if_neg (by omega), ef, Option.bind_some, if_pos rfl, if_pos rfl, ei _ (by omega), Option.bind_some]
  rw [show (2200002 : Nat) = 2200001 + 1 from rfl, laws_FnExactWitness.j1, Bool.not_true, if_neg (by decide), mi _ (by omega), Option.bind_some, hi _ (by omega), Option.bind_some, if_neg (by omega), if_pos rfl, tc _ (by omega), Option.bind_some, wi _ (by omega), Option.bind_some, ef, Option.bind_some, if_pos rfl, if_pos rfl, ei _ (by omega), Option.bind_some]
  rw [show (2200001 : Nat) = 2200000 + 1 from rfl, laws_FnExactWitness.j2, Bool.not_true, if_neg (by decide), hi _ (by omega), Option.bind_some, if_neg (by omega), if_pos rfl]

end Go.Proofs.Ytaablbglkfpbpaa.Pure
