/- The laws' own test of a rule with facts is the plain one; a clash does not hang on the order; the facts that are told make both rules fire. -/
import Derived.Test.YtaablbglkfpbpaaPAllx0
import Derived.Test.YtaablbglkfpbpaaPAllx14
import Derived.Test.YtaablbglkfpbpaaPAllx2
import Derived.Test.YtaablbglkfpbpaaPAllx3
import Derived.Test.YtaablbglkfpbpaaHidden
import Derived.Test.YtaablbglkfpbpaaClash
namespace Go.Proofs.Ytaablbglkfpbpaa
open Go.RowKit Go.Proofs.Ytaablbglkfpbpaa.PAll Go.Proofs.YtaablbglkfpbpaaW.PrintWords Go.Proofs.YtaablbglkfpbpaaW.PrintLast

theorem lawFires_is (f0 f1 f2 f3 f4 : Int) (c : S32) (h : clauseB c = true) (k : Nat) (hk : 100 ≤ k) : laws_fires.f k c.f0 c.f1 c.f2 c.f3 f0 f1 f2 f3 f4 = some (firesB (nums f0 f1 f2 f3 f4) c) := by
  obtain ⟨n, l, a, b⟩ := c
  have ht := clause_terms _ h
  have hl := ht.1
  have hts := ht.2
  simp only at hl hts
  have key : ∀ d i k, i + d = l.length → 3 * d < k → laws_fires.l0 k (i : Int) n l a b f0 f1 f2 f3 f4 = some ((l.drop i).all (holdsB (nums f0 f1 f2 f3 f4))) := by
    intro d
    induction d with
    | zero =>
      intro i k hi hk
      obtain ⟨k, rfl⟩ : ∃ m, k = m + 1 := ⟨k - 1, by omega⟩
      rw [laws_fires.l0, if_neg (by omega), List.drop_eq_nil_of_le (by omega)]; rfl
    | succ d ih =>
      intro i k hi hk
      obtain ⟨k, rfl⟩ : ∃ m, k = m + 3 := ⟨k - 3, by omega⟩
      have hil : i < l.length := by omega
      have e := ih (i + 1) k (by omega) (by omega)
      rw [show ((i + 1 : Nat) : Int) = (i : Int) + 1 by omega] at e
      have hx := hts _ (List.getElem_mem hil)
      have jt : laws_fires.j2 (k + 1) (i : Int) true n l a b f0 f1 f2 f3 f4 = some false := by rw [laws_fires.j2, if_pos rfl]
      have jf : laws_fires.j2 (k + 1) (i : Int) false n l a b f0 f1 f2 f3 f4 = some ((l.drop (i + 1)).all (holdsB (nums f0 f1 f2 f3 f4))) := by rw [laws_fires.j2, if_neg (by decide), w64 (by omega) (by omega), e]
      have one : ∀ (x : S59) (m : Int), m = (nums f0 f1 f2 f3 f4).getD x.f0.toNat 0 → 1 ≤ x.f1 ∧ x.f1 ≤ 3 → laws_fires.j1 (k + 2) (i : Int) m n l a b f0 f1 f2 f3 f4 x.f0 x.f1 x.f2 = some (holdsB (nums f0 f1 f2 f3 f4) x && (l.drop (i + 1)).all (holdsB (nums f0 f1 f2 f3 f4))) := by
        intro x m hm hr
        rw [laws_fires.j1]
        generalize (l.drop (i + 1)).all (holdsB (nums f0 f1 f2 f3 f4)) = R at *
        unfold holdsB
        rw [← hm]
        have : x.f1 = 1 ∨ x.f1 = 2 ∨ x.f1 = 3 := by omega
        rcases this with h1 | h1 | h1
        · rw [if_pos h1]
          by_cases h2 : m < x.f2
          · rw [if_pos h2, jt]; simp [h1, h2]
          · rw [if_neg h2, if_neg (show ¬ x.f1 = 2 by omega), if_neg (show ¬ x.f1 = 3 by omega), jf]; simp [h1, h2]
        · rw [if_neg (show ¬ x.f1 = 1 by omega), if_pos h1]
          by_cases h2 : m > x.f2
          · rw [if_pos h2, jt]; simp [h1, h2]
          · have h2' : ¬ x.f2 < m := h2
            rw [if_neg h2, if_neg (show ¬ x.f1 = 3 by omega), jf]; simp [h1, h2']
        · rw [if_neg (show ¬ x.f1 = 1 by omega), if_neg (show ¬ x.f1 = 2 by omega), if_pos h1]
          by_cases h2 : m = x.f2
          · rw [h2, bne_self_eq_false, jf]; simp [h1]
          · rw [bne_iff_ne.mpr h2, jt]; simp [h1, h2]
      rw [laws_fires.l0, if_pos (by omega), if_pos (by omega), rdBTerm hil, List.drop_eq_getElem_cons hil, List.all_cons]
      generalize l[i] = x at *
      have hf : x.f0 = 1 ∨ x.f0 = 2 ∨ x.f0 = 3 ∨ x.f0 = 4 ∨ x.f0 = 5 := by omega
      rcases hf with h1 | h1 | h1 | h1 | h1
      · rw [if_neg (by omega), if_neg (by omega), if_neg (by omega), if_neg (by omega)]; exact one x f0 (by rw [h1]; rfl) hx.2
      · rw [if_pos h1]; exact one x f1 (by rw [h1]; rfl) hx.2
      · rw [if_neg (by omega), if_pos h1]; exact one x f2 (by rw [h1]; rfl) hx.2
      · rw [if_neg (by omega), if_neg (by omega), if_pos h1]; exact one x f3 (by rw [h1]; rfl) hx.2
      · rw [if_neg (by omega), if_neg (by omega), if_neg (by omega), if_pos h1]; exact one x f4 (by rw [h1]; rfl) hx.2
  unfold laws_fires.f firesB
  have := key l.length 0 k (by omega) (by omega)
  simpa using this

theorem one_comm (b : Nat → Int) (x y : S59) : impl_narrowed.one (impl_narrowed.one b x) y = impl_narrowed.one (impl_narrowed.one b y) x := by
  funext i
  obtain ⟨j, e⟩ : ∃ j, i = 2 * j ∨ i = 2 * j + 1 := ⟨i / 2, by omega⟩
  rcases e with e | e <;> subst e
  · rw [bone_lo, bone_lo, bone_lo, bone_lo]
    split <;> split <;> (first | rfl | (unfold mx; (repeat' split) <;> omega))
  · rw [bone_hi, bone_hi, bone_hi, bone_hi]
    split <;> split <;> (first | rfl | (unfold mn; (repeat' split) <;> omega))

theorem go_one : ∀ (l : List S59) (b : Nat → Int) (x : S59), impl_narrowed.go (impl_narrowed.one b x) l = impl_narrowed.one (impl_narrowed.go b l) x
  | [], _, _ => rfl
  | y :: ys, b, x => by rw [impl_narrowed.go, impl_narrowed.go, one_comm, go_one ys]

theorem go_comm : ∀ (l m : List S59) (b : Nat → Int), impl_narrowed.go b (l ++ m) = impl_narrowed.go b (m ++ l)
  | [], m, b => by rw [List.nil_append, List.append_nil]
  | x :: xs, m, b => by
    rw [List.cons_append, impl_narrowed.go, go_comm xs m, go_append, go_append, impl_narrowed.go, go_one m]

theorem clash_comm (a b : S32) : clashB a b = clashB b a := by
  unfold clashB
  rw [go_comm a.f1 b.f1, Bool.and_comm (clauseB a), show decide (a.f2 = b.f2) = decide (b.f2 = a.f2) from decide_eq_decide.2 eq_comm, show decide (a.f3 = b.f3) = decide (b.f3 = a.f3) from decide_eq_decide.2 eq_comm]

theorem least_within (b : Nat → Int) (h : emptyB b = false) (h0 : b 0 = 0) (h1 : b 1 = 0) : Within (nums (b 2) (b 4) (b 6) (b 8) (b 10)) b := by
  unfold emptyB at h
  simp only [Bool.or_eq_false_iff, decide_eq_false_iff_not] at h
  intro i hi
  have : i = 0 ∨ i = 1 ∨ i = 2 ∨ i = 3 ∨ i = 4 ∨ i = 5 := by omega
  rcases this with rfl | rfl | rfl | rfl | rfl | rfl
  · simp only [nums, Nat.mul_zero, Nat.zero_add, List.getD_cons_zero]; omega
  · simp only [nums, Nat.mul_one, Nat.reduceAdd, List.getD_cons_succ, List.getD_cons_zero]; omega
  · simp only [nums, Nat.reduceMul, Nat.reduceAdd, List.getD_cons_succ, List.getD_cons_zero]; omega
  · simp only [nums, Nat.reduceMul, Nat.reduceAdd, List.getD_cons_succ, List.getD_cons_zero]; omega
  · simp only [nums, Nat.reduceMul, Nat.reduceAdd, List.getD_cons_succ, List.getD_cons_zero]; omega
  · simp only [nums, Nat.reduceMul, Nat.reduceAdd, List.getD_cons_succ, List.getD_cons_zero]; omega

theorem within_all (f : List Int) (ts : List S59) (h : ∀ x ∈ ts, 1 ≤ x.f0 ∧ x.f0 ≤ 5) (w : Within f (impl_narrowed.go impl_bounds.all ts)) : Within f impl_bounds.all ∧ ∀ x ∈ ts, Holds f x := (within_go f ts impl_bounds.all h).1 w

/-- What is told of two right rules: facts with which both fire where they clash; else they say the same, or no facts in range make both fire. -/
theorem clash_tells (a b : S32) (ha : clauseB a = true) (hb : clauseB b = true) :
    ((clashB a b).2.2.2.2.2.1 = true → (a.f2 ≠ b.f2 ∨ a.f3 ≠ b.f3) ∧
      firesB (nums (clashB a b).1 (clashB a b).2.1 (clashB a b).2.2.1 (clashB a b).2.2.2.1 (clashB a b).2.2.2.2.1) a = true ∧ firesB (nums (clashB a b).1 (clashB a b).2.1 (clashB a b).2.2.1 (clashB a b).2.2.2.1 (clashB a b).2.2.2.2.1) b = true) ∧
    ((clashB a b).2.2.2.2.2.1 = false → (a.f2 ≠ b.f2 ∨ a.f3 ≠ b.f3) → ∀ f0 f1 f2 f3 f4, Within (nums f0 f1 f2 f3 f4) impl_bounds.all → firesB (nums f0 f1 f2 f3 f4) a = true → firesB (nums f0 f1 f2 f3 f4) b = true → False) ∧ (clashB a b).2.2.2.2.2.2 = 0 := by
  have ht := clash_terms a b ha hb
  have hz := go_zero _ impl_bounds.all ht.2
  have hta := (clause_terms a ha).2
  have htb := (clause_terms b hb).2
  unfold clashB
  rw [ha, hb, Bool.true_and, cond_true]
  cases he : emptyB (impl_narrowed.go impl_bounds.all (a.f1 ++ b.f1))
  · rw [Bool.false_or]
    by_cases hs : a.f2 = b.f2 ∧ a.f3 = b.f3
    · rw [decide_eq_true hs.1, decide_eq_true hs.2, Bool.true_and, cond_true]
      refine ⟨fun h => (by cases h), fun _ h => ?_, rfl⟩
      rcases h with h | h
      · exact absurd hs.1 h
      · exact absurd hs.2 h
    · have hd : (decide (a.f2 = b.f2) && decide (a.f3 = b.f3)) = false := by
        rw [Bool.and_eq_false_iff]
        by_cases h2 : a.f2 = b.f2
        · right; exact decide_eq_false (fun h3 => hs ⟨h2, h3⟩)
        · left; exact decide_eq_false h2
      rw [hd, cond_false]
      refine ⟨fun _ => ?_, fun h => (by cases h), rfl⟩
      have hw := within_all _ _ ht.2 (least_within _ he hz.1 hz.2)
      refine ⟨?_, ?_, ?_⟩
      · by_cases h2 : a.f2 = b.f2
        · right; exact fun h3 => hs ⟨h2, h3⟩
        · left; exact h2
      · unfold firesB
        rw [List.all_eq_true]
        exact fun x hx => (holdsB_iff _ x (hta x hx).2).2 (hw.2 x (List.mem_append_left _ hx))
      · unfold firesB
        rw [List.all_eq_true]
        exact fun x hx => (holdsB_iff _ x (htb x hx).2).2 (hw.2 x (List.mem_append_right _ hx))
  · rw [Bool.true_or, cond_true]
    refine ⟨fun h => (by cases h), fun _ _ f0 f1 f2 f3 f4 hw h1 h2 => ?_, rfl⟩
    have : Within (nums f0 f1 f2 f3 f4) (impl_narrowed.go impl_bounds.all (a.f1 ++ b.f1)) := by
      rw [within_go _ _ _ ht.2]
      refine ⟨hw, fun x hx => ?_⟩
      unfold firesB at h1 h2
      rw [List.all_eq_true] at h1 h2
      rcases List.mem_append.1 hx with h | h
      · exact (holdsB_iff _ x (hta x h).2).1 (h1 x h)
      · exact (holdsB_iff _ x (htb x h).2).1 (h2 x h)
    rw [within_empty _ _ this] at he
    cases he

end Go.Proofs.Ytaablbglkfpbpaa
