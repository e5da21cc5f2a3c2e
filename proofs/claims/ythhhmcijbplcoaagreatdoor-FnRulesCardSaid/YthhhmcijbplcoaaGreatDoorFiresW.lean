/- Facts within a rule's bounds are those with which it fires; the laws' own test of a rule with facts is the plain one. -/
import Derived.Test.YthhhmcijbplcoaaGreatDoorPFnRulesx0
import Derived.Test.YthhhmcijbplcoaaGreatDoorPFnRulesx8
import Derived.Test.YthhhmcijbplcoaaGreatDoorDecideI
namespace Go.Proofs.YthhhmcijbplcoaaGreatDoor
open Go.RowKit Go.Proofs.YthhhmcijbplcoaaGreatDoor.PFnRules Go.Proofs.YthhhmcijbplcoaaGreatDoorW.PrintWords Go.Proofs.YthhhmcijbplcoaaGreatDoorW.PrintLast

theorem lawFires_is (f0 f1 f2 f3 f4 : Int) (c : S41) (h : clauseB c = true) (k : Nat) (hk : 100 ≤ k) : laws_fires.f k c.f0 c.f1 c.f2 c.f3 f0 f1 f2 f3 f4 = some (firesB (nums f0 f1 f2 f3 f4) c) := by
  obtain ⟨n, l, a, b⟩ := c
  have ht := clause_terms _ h
  have hl := ht.1
  have hts := ht.2
  simp only at hl hts
  have key : ∀ d i k, i + d = l.length → 3 * d < k → laws_fires.l0 k (i : Int) n l a b f0 f1 f2 f3 f4 = some ((l.drop i).all (holdsB (nums f0 f1 f2 f3 f4))) := by
    intro d
    induction d with
    | zero =>
      intro i k hi hk
      obtain ⟨k, rfl⟩ : ∃ m, k = m + 1 := ⟨k - 1, by omega⟩
      rw [laws_fires.l0, if_neg (by omega), List.drop_eq_nil_of_le (by omega)]; rfl
    | succ d ih =>
      intro i k hi hk
      obtain ⟨k, rfl⟩ : ∃ m, k = m + 3 := ⟨k - 3, by omega⟩
      have hil : i < l.length := by omega
      have e := ih (i + 1) k (by omega) (by omega)
      rw [show ((i + 1 : Nat) : Int) = (i : Int) + 1 by omega] at e
      have hx := hts _ (List.getElem_mem hil)
      have jt : laws_fires.j2 (k + 1) (i : Int) true n l a b f0 f1 f2 f3 f4 = some false := by rw [laws_fires.j2, if_pos rfl]
      have jf : laws_fires.j2 (k + 1) (i : Int) false n l a b f0 f1 f2 f3 f4 = some ((l.drop (i + 1)).all (holdsB (nums f0 f1 f2 f3 f4))) := by rw [laws_fires.j2, if_neg (by decide), w64 (by omega) (by omega), e]
      have one : ∀ (x : S66) (m : Int), m = (nums f0 f1 f2 f3 f4).getD x.f0.toNat 0 → 1 ≤ x.f1 ∧ x.f1 ≤ 3 → laws_fires.j1 (k + 2) (i : Int) m n l a b f0 f1 f2 f3 f4 x.f0 x.f1 x.f2 = some (holdsB (nums f0 f1 f2 f3 f4) x && (l.drop (i + 1)).all (holdsB (nums f0 f1 f2 f3 f4))) := by
        intro x m hm hr
        rw [laws_fires.j1]
        generalize (l.drop (i + 1)).all (holdsB (nums f0 f1 f2 f3 f4)) = R at *
        unfold holdsB
        rw [← hm]
        have : x.f1 = 1 ∨ x.f1 = 2 ∨ x.f1 = 3 := by omega
        rcases this with h1 | h1 | h1
        · rw [if_pos h1]
          by_cases h2 : m < x.f2
          · rw [if_pos h2, jt]; simp [h1, h2]
          · rw [if_neg h2, if_neg (show ¬ x.f1 = 2 by omega), if_neg (show ¬ x.f1 = 3 by omega), jf]; simp [h1, h2]
        · rw [if_neg (show ¬ x.f1 = 1 by omega), if_pos h1]
          by_cases h2 : m > x.f2
          · rw [if_pos h2, jt]; simp [h1, h2]
          · have h2' : ¬ x.f2 < m := h2
            rw [if_neg h2, if_neg (show ¬ x.f1 = 3 by omega), jf]; simp [h1, h2']
        · rw [if_neg (show ¬ x.f1 = 1 by omega), if_neg (show ¬ x.f1 = 2 by omega), if_pos h1]
          by_cases h2 : m = x.f2
          · rw [h2, bne_self_eq_false, jf]; simp [h1]
          · rw [bne_iff_ne.mpr h2, jt]; simp [h1, h2]
      rw [laws_fires.l0, if_pos (by omega), if_pos (by omega), rdBTerm hil, List.drop_eq_getElem_cons hil, List.all_cons]
      generalize l[i] = x at *
      have hf : x.f0 = 1 ∨ x.f0 = 2 ∨ x.f0 = 3 ∨ x.f0 = 4 ∨ x.f0 = 5 := by omega
      rcases hf with h1 | h1 | h1 | h1 | h1
      · rw [if_neg (by omega), if_neg (by omega), if_neg (by omega), if_neg (by omega)]; exact one x f0 (by rw [h1]; rfl) hx.2
      · rw [if_pos h1]; exact one x f1 (by rw [h1]; rfl) hx.2
      · rw [if_neg (by omega), if_pos h1]; exact one x f2 (by rw [h1]; rfl) hx.2
      · rw [if_neg (by omega), if_neg (by omega), if_pos h1]; exact one x f3 (by rw [h1]; rfl) hx.2
      · rw [if_neg (by omega), if_neg (by omega), if_neg (by omega), if_pos h1]; exact one x f4 (by rw [h1]; rfl) hx.2
  unfold laws_fires.f firesB
  have := key l.length 0 k (by omega) (by omega)
  simpa using this

theorem within_all (f : List Int) (ts : List S66) (h : ∀ x ∈ ts, 1 ≤ x.f0 ∧ x.f0 ≤ 5) (w : Within f (impl_narrowed.go impl_bounds.all ts)) : Within f impl_bounds.all ∧ ∀ x ∈ ts, Holds f x := (within_go f ts impl_bounds.all h).1 w

end Go.Proofs.YthhhmcijbplcoaaGreatDoor
