/- FnRules is true for every code of bytes: a longer one is let by by the law's own guard; the text of the drawn rules is read back as these rules, which are right and have the same text; and what is decided is the first rule that fires. -/
import Derived.Test.YthhhmcijbplcoaaGreatDoorPFnRulesx0
import Derived.Test.YthhhmcijbplcoaaGreatDoorPFnRulesx5
import Derived.Test.YthhhmcijbplcoaaGreatDoorPFnRulesx7
import Derived.Test.YthhhmcijbplcoaaGreatDoorPFnRulesx8
import Derived.Test.YthhhmcijbplcoaaGreatDoorReadLoop
import Derived.Test.YthhhmcijbplcoaaGreatDoorFiresW
namespace Go.Proofs.YthhhmcijbplcoaaGreatDoor.Pure
open Go.RowKit Go.Proofs.YthhhmcijbplcoaaGreatDoor Go.Proofs.YthhhmcijbplcoaaGreatDoor.PFnRules Go.Proofs.YthhhmcijbplcoaaGreatDoorW.PrintWords Go.Proofs.YthhhmcijbplcoaaGreatDoorW.PrintLast

theorem law_loop (L : List S41) (hl : L.length ≤ 7) (hall : ∀ c ∈ L, clauseB c = true) (f0 f1 f2 f3 f4 p q : Int) : ∀ (d i k : Nat), i + d = L.length → d + 200 ≤ k →
    (p, q) = (if firstOf (firesB (nums f0 f1 f2 f3 f4)) (L.drop i) (i : Int) < 0 then ((0 : Int), (8 : Int)) else (firstOf (firesB (nums f0 f1 f2 f3 f4)) (L.drop i) (i : Int), 0)) →
    laws_FnRules.l0 k L p q (i : Int) f0 f1 f2 f3 f4 = some true := by
  intro d
  induction d with
  | zero =>
    intro i k hi hk h
    obtain ⟨k, rfl⟩ : ∃ m, k = m + 1 := ⟨k - 1, by omega⟩
    rw [List.drop_eq_nil_of_le (by omega), firstOf, if_pos (by omega)] at h
    obtain ⟨rfl, rfl⟩ := Prod.mk.inj h
    rw [laws_FnRules.l0, if_neg (by omega)]; rfl
  | succ d ih =>
    intro i k hi hk h
    obtain ⟨k, rfl⟩ : ∃ m, k = m + 1 := ⟨k - 1, by omega⟩
    have hil : i < L.length := by omega
    have hc := hall _ (List.getElem_mem hil)
    rw [List.drop_eq_getElem_cons hil, firstOf] at h
    rw [laws_FnRules.l0, if_pos (by omega), if_pos (by omega), rdBClause hil, lawFires_is f0 f1 f2 f3 f4 _ hc k (by omega), Option.bind_some]
    cases hf : firesB (nums f0 f1 f2 f3 f4) L[i] with
    | true =>
      rw [hf, if_pos rfl, if_neg (by omega)] at h
      obtain ⟨rfl, rfl⟩ := Prod.mk.inj h
      rw [if_pos rfl, if_pos rfl, beq_self_eq_true]
    | false =>
      rw [hf, if_neg (show ¬ (false = true) by decide)] at h
      rw [if_neg (by decide), w64 (by omega) (by omega)]
      have := ih (i + 1) k (by omega) (by omega) (by rw [show ((i + 1 : Nat) : Int) = (i : Int) + 1 by omega]; exact h)
      rwa [show ((i + 1 : Nat) : Int) = (i : Int) + 1 by omega] at this

theorem FnRules : laws_FnRules.Pure := by
  intro l0 h1 h2 h3
  by_cases hc : (l0.length : Int) > 1048576
  · exact ⟨0, by unfold laws_FnRules.f; rw [if_pos hc]⟩
  obtain ⟨L, f0, f1, f2, f3, f4, eL, h7, hcl, hw, hd⟩ := clausesOf_ok (l := l0) (by omega) h3
  suffices H : ∀ k, 2300000 ≤ k → laws_FnRules.f k l0 = some true from ⟨2300000, H _ (Nat.le_refl _)⟩
  intro k hk
  obtain ⟨k, rfl⟩ : ∃ m, k = m + 1 + 1 := ⟨k - 2, by omega⟩
  have hall : ∀ c ∈ L, clauseB c = true := fun c hm => by
    obtain ⟨j, hj, e⟩ := List.mem_iff_getElem.1 hm
    rw [← e]; exact (hd j hj).1
  have hr : ∀ k, 2200000 ≤ k → impl_RulesText.f k L = some (bs (allT L), 0) := fun k hk => by
    rw [rules_impl L (by omega) k hk]
    unfold rulesT
    rw [if_neg (by omega), if_pos hcl]
  have hb := rules_back L h7 hd (k + 1 + 1) (by omega)
  have hdec := decide_impl L (by omega) f0 f1 f2 f3 f4 true ⟨fun _ => hw, fun _ => rfl⟩ k (by omega)
  have hloop := law_loop L h7 hall f0 f1 f2 f3 f4 (decideB L (nums f0 f1 f2 f3 f4) true).1 (decideB L (nums f0 f1 f2 f3 f4) true).2 L.length 0 k (by omega) (by omega) (by
    unfold decideB
    rw [if_neg (by omega), hcl, if_neg (by decide), if_neg (by decide), List.drop_zero]; rfl)
  unfold laws_FnRules.f
  rw [if_neg hc, eL _ (by omega), Option.bind_some]
  show ((impl_RulesText.f (k + 1 + 1) L).bind _) = _
  rw [hr _ (by omega), Option.bind_some]
  show ((impl_ReadRules.f (k + 1 + 1) (bs (allT L))).bind _) = _
  rw [hb, Option.bind_some]
  show ((impl_ClausesOK.f (k + 1 + 1) L).bind _) = _
  rw [clauses_impl L (by omega) _ (by omega), Option.bind_some, if_pos hcl, if_pos rfl, if_pos rfl, if_pos rfl]
  show laws_FnRules.j0 (k + 1 + 1) L (bs (allT L)) L ((L.length : Int) != (L.length : Int)) f0 f1 f2 f3 f4 = _
  rw [bne_self_eq_false, laws_FnRules.j0, if_neg (by decide), hr _ (by omega), Option.bind_some, if_pos rfl]
  show laws_FnRules.j1 (k + 1) L ((bs (allT L)).toList != (bs (allT L)).toList) f0 f1 f2 f3 f4 = _
  rw [bne_self_eq_false, laws_FnRules.j1, if_neg (by decide), hdec, Option.bind_some]
  exact hloop

end Go.Proofs.YthhhmcijbplcoaaGreatDoor.Pure
