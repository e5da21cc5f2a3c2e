/- FnExactHidden is true for every list of rules: longer ones are let by by the law's own guard; both sides tell the same hidden rules and the same code, the rules stay as they were, and the told places lie apart from whatever else was handed out. -/
import Derived.Test.YtbmpkggjcnmieaaPAllx0
import Derived.Test.YtbmpkggjcnmieaaPAllx3
import Derived.Test.YtbmpkggjcnmieaaPAllx7
import Derived.Test.YtbmpkggjcnmieaaPAllx8
import Derived.Test.YtbmpkggjcnmieaaHidBoth
import Derived.Test.YtbmpkggjcnmieaaMarkClause
import Derived.Test.YtbmpkggjcnmieaaMarkInt
namespace Go.Proofs.Ytbmpkggjcnmieaa.Pure
open Go.RowKit Go.Proofs.Ytbmpkggjcnmieaa Go.Proofs.Ytbmpkggjcnmieaa.PAll Go.Proofs.YtbmpkggjcnmieaaW.PrintWords Go.Proofs.YtbmpkggjcnmieaaW.PrintLast

theorem hidGo_len (rows : List S37) : ∀ (l : List S37) (i : Nat), (hidGo rows l i).length ≤ l.length
  | [], _ => by simp [hidGo]
  | x :: xs, i => by
    rw [hidGo]
    have := hidGo_len rows xs (i + 1)
    split
    · simp only [List.length_cons]; omega
    · simp only [List.length_cons]; omega

theorem hiddenB_len (l : List S37) : (hiddenB l).1.length ≤ 4096 := by
  unfold hiddenB
  by_cases h : l.length > 4096
  · rw [if_pos h]; simp
  · rw [if_neg h]
    by_cases h2 : clausesB l = false
    · rw [if_pos h2]; simp
    · rw [if_neg h2]; have := hidGo_len l l 0; show (hidGo l l 0).length ≤ 4096; omega

theorem FnExactHidden (l0 : List S54) (h : l0.length ≤ 9223372036854775807 ∧ ∀ y ∈ l0, okS54 y) : ∃ k, laws_FnExactHidden.f k l0 = some true := by
  obtain ⟨r, h1, h2⟩ := szClauseS_ok l0 h.1 h.2
  refine ⟨3000000, ?_⟩
  unfold laws_FnExactHidden.f
  rw [h1 _ (by omega)]
  simp only [Option.bind_some]
  by_cases hn : r < 0
  · rw [if_pos hn]
  rw [if_neg hn]
  rcases h2 with h2 | ⟨hl, hi⟩
  · exact absurd h2 hn
  have hc : ∀ k, 2200000 ≤ k → laws_toClauseS.f k l0 = some (l0.map cvClause) := fun k hk => toClauseS_is l0 hl hi k hk
  have hl' : (l0.map cvClause).length ≤ 1048576 := by rw [List.length_map]; exact hl
  have hi' : ∀ x ∈ l0.map cvClause, x.f1.length ≤ 1048576 := by
    intro x hx
    obtain ⟨c, hcm, rfl⟩ := List.mem_map.1 hx
    show (c.f1.map cvTerm).length ≤ 1048576
    rw [List.length_map]; exact hi c hcm
  have hq : ∀ k, 2200000 ≤ k → laws_eqClauseS.f k (l0.map cvClause) (l0.map cvClause) = some true := fun k hk => eqClauseS_refl _ hl' hi' k hk
  have hs := fun k hk => hidden_spec (l0.map cvClause) k hk
  have hm := fun k hk => hidden_impl (l0.map cvClause) hl' k hk
  have hk := fun k hk => markClause_any (l0.map cvClause) hl' hi' k hk
  have hlo := hiddenB_len (l0.map cvClause)
  generalize hiddenB (l0.map cvClause) = b at *
  obtain ⟨out, code⟩ := b
  have hlo' : out.length ≤ 4096 := hlo
  have hr : ∀ k, 5000 ≤ k → laws_eqIntS.f k out out = some true := fun k hk => eqInt_refl out (by omega) k (by omega)
  rw [hc _ (by omega)]
  simp only [Option.bind_some]
  rw [hs _ (by omega), hm _ (by omega)]
  simp only [Option.bind_some]
  rw [hr _ (by omega)]
  simp only [Option.bind_some, if_true, bne_self_eq_false]
  rw [show (3000000 : Nat) = 2999999 + 1 from rfl, laws_FnExactHidden.j0]
  simp only [Bool.false_eq_true, if_false]
  rw [hc _ (by omega)]
  simp only [Option.bind_some]
  rw [hq _ (by omega)]
  obtain ⟨n, e1, e2⟩ := hk 2999999 (by omega)
  simp only [Option.bind_some, if_true, e1, if_neg (show ¬ n < 0 by omega)]
  rw [hr _ (by omega)]
  simp only [Option.bind_some, if_true, bne_self_eq_false]
  rw [show (2999999 : Nat) = 2999998 + 1 from rfl, laws_FnExactHidden.j1]
  simp only [Bool.false_eq_true, if_false]
  rw [markInt_is out (by omega) _ (by omega)]
  simp only [Option.bind_some]
  rw [heldInt_is out.length (by omega) _ (by omega)]
  simp only [Option.bind_some]
  rw [if_neg (by omega)]
  simp only [if_true]
  rw [hc _ (by omega)]
  simp only [Option.bind_some]
  rw [hm _ (by omega)]
  simp only [Option.bind_some]
  rw [hr _ (by omega)]
  simp only [Option.bind_some, if_true, bne_self_eq_false]
  rw [show (2999998 : Nat) = 2999997 + 1 from rfl, laws_FnExactHidden.j2]
  simp only [Bool.false_eq_true, if_false]
  rw [heldInt_is out.length (by omega) _ (by omega)]
  simp only [Option.bind_some]
  rw [if_neg (by omega)]
  simp only [if_true]

end Go.Proofs.Ytbmpkggjcnmieaa.Pure
