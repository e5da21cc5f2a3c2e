/- The steps of a price, the program's side. -/
import Derived.Test.YtembklbofdgmgaaPAllx0
import Derived.Test.YtembklbofdgmgaaPAllx3
import Derived.Test.YtembklbofdgmgaaPAllx4
import Derived.Test.YtembklbofdgmgaaSteps
namespace Go.Proofs.Ytembklbofdgmgaa
open Go.RowKit Go.Proofs.Ytembklbofdgmgaa.PAll Go.Proofs.YtembklbofdgmgaaW.PrintWords Go.Proofs.YtembklbofdgmgaaW.PrintLast

theorem rdPriceStep {l : List S40} {i : Nat} (h : i < l.length) : rd_T40 l (i : Int) = l[i] := by
  unfold rd_T40
  rw [Int.toNat_natCast, List.getD_eq_getElem?_getD, List.getElem?_eq_getElem h]; rfl

theorem rdLast (pre : List S40) (s : S40) (h : pre.length ≤ 1000) : wrap64 (((pre ++ [s]).length : Int) - 1) = (pre.length : Int) ∧ rd_T40 (pre ++ [s]) (pre.length : Int) = s := by
  refine ⟨?_, ?_⟩
  · rw [List.length_append]; simp only [List.length_cons, List.length_nil]
    rw [w64 (by omega) (by omega)]; omega
  · rw [rdPriceStep (by rw [List.length_append]; simp), List.getElem_append_right (by omega)]
    simp

theorem texts2_is (a b : ByteArray) : impl_areTexts.f [a, b] = some (decide (a.size ≤ 65536 ∧ b.size ≤ 65536)) := by
  unfold impl_areTexts.f slices_ContainsFunc_string_string_impl_areTexts_1.f slices_ContainsFunc_string_string.f slices_IndexFunc_string_string.f impl_areTexts_1.f
  by_cases h : a.size ≤ 65536
  · rw [Option.bind_some, decide_eq_false (by omega), if_neg (by decide)]
    unfold slices_IndexFunc_string_string.f
    by_cases g : b.size ≤ 65536
    · rw [Option.bind_some, decide_eq_false (by omega), if_neg (by decide), decide_eq_true ⟨h, g⟩]; rfl
    · rw [Option.bind_some, decide_eq_true (by omega), if_pos rfl, decide_eq_false (by omega)]; rfl
  · rw [Option.bind_some, decide_eq_true (by omega), if_pos rfl, decide_eq_false (by omega)]; rfl

theorem impl_pair (l : List S44) (a1 a2 : ByteArray) (f t : Int) (x : List Int) (hx : x.length ≤ 1000) (a b : Int) (i : Nat) (n : Int) (hi : i ≤ 80) (k : Nat) :
    impl_PriceSteps.l1 (k + 3) l a1 a2 f t x l n (i : Int) [a, b] (([a, b] : List Int).length : Int) 0 = impl_PriceSteps.l0 k l a1 a2 f t (x ++ ((if f < a ∧ a < t then [a] else []) ++ (if f < b ∧ b < t then [b] else []))) l n ((i : Int) + 1) := by
  have r0 : rd [a, b] 0 = a := rfl
  have r1 : rd [a, b] 1 = b := rfl
  have w1 : wrap64 ((0 : Int) + 1) = 1 := by decide +kernel
  have w2 : wrap64 ((1 : Int) + 1) = 2 := by decide +kernel
  have w3 : wrap64 ((i : Int) + 1) = (i : Int) + 1 := w64 (by omega) (by omega)
  have e2 : ∀ y : List Int, y.length ≤ 1001 → impl_PriceSteps.l1 (k + 2) l a1 a2 f t y l n (i : Int) [a, b] (([a, b] : List Int).length : Int) 1 = impl_PriceSteps.l0 k l a1 a2 f t (y ++ (if f < b ∧ b < t then [b] else [])) l n ((i : Int) + 1) := by
    intro y hy
    have e1 : ∀ z : List Int, impl_PriceSteps.l1 (k + 1) l a1 a2 f t z l n (i : Int) [a, b] (([a, b] : List Int).length : Int) 2 = impl_PriceSteps.l0 k l a1 a2 f t z l n ((i : Int) + 1) := by
      intro z
      rw [impl_PriceSteps.l1, if_neg (by simp), w3]
    rw [show k + 2 = (k + 1) + 1 from rfl, impl_PriceSteps.l1, if_pos (by simp), if_pos (by omega), if_pos (by simp), r1, w2, e1, e1]
    by_cases h1 : b > f
    · rw [if_pos h1]
      by_cases h2 : b < t
      · rw [if_pos h2, if_pos (by omega), if_pos ⟨h1, h2⟩]
      · rw [if_neg h2, if_neg (by omega), List.append_nil]
    · rw [if_neg h1, if_neg (by omega), List.append_nil]
  rw [show k + 3 = (k + 2) + 1 from rfl, impl_PriceSteps.l1, if_pos (by simp), if_pos (by omega), if_pos (by simp), r0, w1]
  by_cases h1 : a > f
  · rw [if_pos h1]
    by_cases h2 : a < t
    · rw [if_pos h2, if_pos (by omega), e2 _ (by rw [List.length_append]; simp only [List.length_cons, List.length_nil]; omega), if_pos (show f < a ∧ a < t from ⟨h1, h2⟩), List.append_assoc]
    · rw [if_neg h2, e2 _ (by omega), if_neg (show ¬ (f < a ∧ a < t) by omega), List.nil_append]
  · rw [if_neg h1, e2 _ (by omega), if_neg (show ¬ (f < a ∧ a < t) by omega), List.nil_append]

theorem impl_amt (l : List S44) (a1 a2 : ByteArray) (hl : l.length ≤ 80) (hp : l.all priceB = true) (S : List Int) (hS : S.length ≤ 200) : ∀ (d j : Nat) (pre : List S40) (s : S40) (k : Nat), j + d = S.length → pre.length + d ≤ 500 → d + 200 < k →
    impl_PriceSteps.l2 k l a1 a2 (pre ++ [s]) S (S.length : Int) (j : Int) = some (pre ++ [s] ++ walkB (amtB l a1 a2) (S.drop j) (some s.f1), 0) := by
  intro d
  induction d with
  | zero =>
    intro j pre s k hj hp2 hk
    obtain ⟨k, rfl⟩ : ∃ m, k = m + 1 := ⟨k - 1, by omega⟩
    rw [impl_PriceSteps.l2, if_neg (by omega), List.drop_eq_nil_of_le (by omega), walkB, List.append_nil]
  | succ d ih =>
    intro j pre s k hj hp2 hk
    obtain ⟨k, rfl⟩ : ∃ m, k = m + 1 := ⟨k - 1, by omega⟩
    have hjS : j < S.length := by omega
    have w : wrap64 ((j : Int) + 1) = ((j + 1 : Nat) : Int) := by rw [w64 (by omega) (by omega)]; omega
    have hr : rd S (j : Int) = S[j] := by
      unfold rd
      rw [Int.toNat_natCast, List.getD_eq_getElem?_getD, List.getElem?_eq_getElem hjS]; rfl
    have hb := bestAt_lt l a1 a2 S[j] hl hp
    have hlast := rdLast pre s (by omega)
    have hne : ¬ ((pre ++ [s]).length : Int) = 0 := by rw [List.length_append]; simp only [List.length_cons, List.length_nil]; omega
    have hlen : (pre.length : Int) < ((pre ++ [s]).length : Int) := by rw [List.length_append]; simp only [List.length_cons, List.length_nil]; omega
    have hsm : (pre ++ [s]).length < 8796093022208 := by rw [List.length_append]; simp only [List.length_cons, List.length_nil]; omega
    have i1 := ih (j + 1) pre s k (by omega) (by omega) (by omega)
    have i2 := ih (j + 1) (pre ++ [s]) ⟨S[j], amtB l a1 a2 S[j]⟩ k (by omega) (by rw [List.length_append]; simp only [List.length_cons, List.length_nil]; omega) (by omega)
    rw [impl_PriceSteps.l2, if_pos (by omega), if_pos (by omega), if_pos (by omega), hr, implAt_best l a1 a2 S[j] hl hp k (by omega)]
    simp only [Option.bind_some]
    rw [hlast.1, hlast.2, w, List.drop_eq_getElem_cons hjS, walkB]
    have fin : ∀ v : Int, v = amtB l a1 a2 S[j] → (if ((pre ++ [s]).length : Int) = 0 then (if (pre ++ [s]).length < 8796093022208 then impl_PriceSteps.l2 k l a1 a2 (pre ++ [s] ++ [(⟨S[j], v⟩ : S40)]) S (S.length : Int) ((j + 1 : Nat) : Int) else none) else (if 0 ≤ (pre.length : Int) then (if (pre.length : Int) < ((pre ++ [s]).length : Int) then (if s.f1 = v then impl_PriceSteps.l2 k l a1 a2 (pre ++ [s]) S (S.length : Int) ((j + 1 : Nat) : Int) else (if (pre ++ [s]).length < 8796093022208 then impl_PriceSteps.l2 k l a1 a2 (pre ++ [s] ++ [(⟨S[j], v⟩ : S40)]) S (S.length : Int) ((j + 1 : Nat) : Int) else none)) else none) else none))
        = some (pre ++ [s] ++ (if some s.f1 = some (amtB l a1 a2 S[j]) then walkB (amtB l a1 a2) (S.drop (j + 1)) (some s.f1) else ⟨S[j], amtB l a1 a2 S[j]⟩ :: walkB (amtB l a1 a2) (S.drop (j + 1)) (some (amtB l a1 a2 S[j]))), 0) := by
      intro v hv
      subst hv
      rw [if_neg hne, if_pos (by omega), if_pos hlen]
      by_cases e : s.f1 = amtB l a1 a2 S[j]
      · rw [if_pos e, if_pos (by rw [e]), i1]
      · rw [if_neg e, if_pos hsm, if_neg (fun q => e (by injection q)), i2]
        simp
    by_cases h : bestAt l a1 a2 S[j] ≥ 0
    · rw [if_pos h, if_pos (by omega), if_pos hb]
      exact fin _ (by unfold amtB; rw [if_neg (by omega)])
    · rw [if_neg h]
      exact fin _ (by unfold amtB; rw [if_pos (by omega)])

theorem impl_rows (l : List S44) (a1 a2 : ByteArray) (f t : Int) (hl : l.length ≤ 80) (R : List S40 × Int) (K : Nat) : ∀ (d i : Nat) (x : List Int) (k : Nat), i + d = l.length → 0 < x.length → x.length + 2 * d ≤ 1000 → K + 4 * d + 2 ≤ k →
    (∀ k, K ≤ k → impl_PriceSteps.l2 k l a1 a2 [] (Lib.compact ((x ++ minutesB f t (l.drop i)).mergeSort fun x y => decide (x ≤ y))) ((Lib.compact ((x ++ minutesB f t (l.drop i)).mergeSort fun x y => decide (x ≤ y))).length : Int) 0 = some R) →
    impl_PriceSteps.l0 k l a1 a2 f t x l (l.length : Int) (i : Int) = some R := by
  intro d
  induction d with
  | zero =>
    intro i x k hi h0 hx hk H
    obtain ⟨k, rfl⟩ : ∃ m, k = m + 1 := ⟨k - 1, by omega⟩
    have H := H k (by omega)
    rw [List.drop_eq_nil_of_le (by omega), minutesB, List.append_nil] at H
    rw [impl_PriceSteps.l0, if_neg (by omega)]
    unfold slices_Sort_int_int.f
    rw [if_pos ⟨h0, by omega⟩]
    simp only [Option.bind_some]
    unfold slices_Compact_int_int.f
    rw [if_pos ⟨by rw [List.length_mergeSort]; exact h0, by rw [List.length_mergeSort]; omega⟩]
    simp only [Option.bind_some]
    exact H
  | succ d ih =>
    intro i x k hi h0 hx hk H
    obtain ⟨k, rfl⟩ : ∃ m, k = m + 4 := ⟨k - 4, by omega⟩
    have hil : i < l.length := by omega
    rw [show k + 4 = (k + 3) + 1 from rfl, impl_PriceSteps.l0, if_pos (by omega), if_pos (by omega), if_pos (by omega), rdBPriceRow hil]
    simp only [Option.bind_some]
    rw [impl_pair l a1 a2 f t x (by omega) _ _ i _ (by omega) k]
    have := ih (i + 1) (x ++ ((if f < l[i].f3 ∧ l[i].f3 < t then [l[i].f3] else []) ++ (if f < l[i].f4 ∧ l[i].f4 < t then [l[i].f4] else []))) k (by omega) (by rw [List.length_append]; omega) (by
      rw [List.length_append, List.length_append]
      have e1 : (if f < l[i].f3 ∧ l[i].f3 < t then [l[i].f3] else []).length ≤ 1 := by split <;> simp
      have e2 : (if f < l[i].f4 ∧ l[i].f4 < t then [l[i].f4] else []).length ≤ 1 := by split <;> simp
      omega) (by omega) (fun k hk => by
        have := H k hk
        rw [List.drop_eq_getElem_cons hil, minutesB] at this
        simp only [List.append_assoc]
        exact this)
    rw [show ((i + 1 : Nat) : Int) = (i : Int) + 1 by omega] at this
    exact this

/-- The answer of PriceSteps. -/
def priceStepsB (l : List S44) (a1 a2 : ByteArray) (f t : Int) : List S40 × Int :=
  if l.length ≤ 4096 ∧ a1.size ≤ 65536 ∧ a2.size ≤ 65536 then (if pricesB l = true then (if 0 ≤ f ∧ f < t ∧ t ≤ 10000000 then (stepsB l a1 a2 f t, 0) else ([], 5)) else ([], 1)) else ([], 2)

theorem implSteps_is (l : List S44) (a1 a2 : ByteArray) (f t : Int) (k : Nat) (hk : 2000 ≤ k) : impl_PriceSteps.f k l a1 a2 f t = some (priceStepsB l a1 a2 f t) := by
  obtain ⟨k, rfl⟩ : ∃ m, k = m + 1 := ⟨k - 1, by omega⟩
  unfold impl_PriceSteps.f priceStepsB impl_PriceRow_24.f
  simp only [Option.bind_some]
  rw [texts2_is]
  simp only [Option.bind_some, impl_PriceSteps.j0]
  by_cases h0 : l.length ≤ 4096
  · rw [decide_eq_true (show (l.length : Int) ≤ 4096 by omega), if_pos rfl]
    by_cases h1 : a1.size ≤ 65536 ∧ a2.size ≤ 65536
    · rw [decide_eq_true h1, Bool.not_true, if_neg Bool.false_ne_true, if_pos (show l.length ≤ 4096 ∧ a1.size ≤ 65536 ∧ a2.size ≤ 65536 from ⟨h0, h1⟩), implPrices_is _ _ (by omega)]
      simp only [Option.bind_some]
      by_cases hp : pricesB l = true
      · have hl : l.length ≤ 80 ∧ l.all priceB = true := by unfold pricesB at hp; simpa using hp
        rw [if_pos hp, if_pos hp]
        by_cases hr : 0 ≤ f ∧ f < t ∧ t ≤ 10000000
        · rw [if_neg (show ¬ f < 0 by omega), if_neg (show ¬ f ≥ t by omega), if_neg (show ¬ t > 10000000 by omega), if_pos hr]
          refine impl_rows l a1 a2 f t hl.1 _ 1000 l.length 0 [f] k (by omega) (by simp) (by simp only [List.length_cons, List.length_nil]; omega) (by omega) (fun k hk => ?_)
          rw [List.drop_zero]
          obtain ⟨rest, hs, _, _⟩ := sorted_cons f t l
          have hlen := sorted_len f t l
          have hS : Lib.compact (([f] ++ minutesB f t l).mergeSort fun x y => decide (x ≤ y)) = sortedB f t l := rfl
          rw [hS]
          unfold stepsB
          rw [hs] at hlen ⊢
          obtain ⟨k, rfl⟩ : ∃ m, k = m + 1 := ⟨k - 1, by omega⟩
          have key := impl_amt l a1 a2 hl.1 hl.2 (f :: rest) (by omega) rest.length 1 [] ⟨f, amtB l a1 a2 f⟩ k (by simp only [List.length_cons]; omega) (by simp only [List.length_nil, List.length_cons] at *; omega) (by simp only [List.length_cons] at *; omega)
          have hb := bestAt_lt l a1 a2 f hl.1 hl.2
          have r0 : rd (f :: rest) 0 = f := rfl
          have w1 : wrap64 ((0 : Int) + 1) = ((1 : Nat) : Int) := by decide +kernel
          rw [impl_PriceSteps.l2, if_pos (by simp only [List.length_cons]; omega), if_pos (by omega), if_pos (by simp only [List.length_cons]; omega), r0, implAt_best l a1 a2 f hl.1 hl.2 k (by omega)]
          simp only [Option.bind_some]
          rw [walkB, if_neg (show ¬ (none = some (amtB l a1 a2 f)) by simp), w1]
          have fin : ∀ v : Int, v = amtB l a1 a2 f → impl_PriceSteps.l2 k l a1 a2 ([] ++ [(⟨f, v⟩ : S40)]) (f :: rest) ((f :: rest).length : Int) ((1 : Nat) : Int) = some (⟨f, amtB l a1 a2 f⟩ :: walkB (amtB l a1 a2) rest (some (amtB l a1 a2 f)), 0) := by
            intro v hv
            subst hv
            exact key
          by_cases h : bestAt l a1 a2 f ≥ 0
          · rw [if_pos h, if_pos (by omega), if_pos hb, if_pos (by simp), if_pos (by simp)]
            exact fin _ (by unfold amtB; rw [if_neg (by omega)])
          · rw [if_neg h, if_pos (by simp), if_pos (by simp)]
            exact fin _ (by unfold amtB; rw [if_pos (by omega)])
        · rw [if_neg hr]
          by_cases r1 : f < 0
          · rw [if_pos r1]
          · rw [if_neg r1]
            by_cases r2 : f ≥ t
            · rw [if_pos r2]
            · rw [if_neg r2, if_pos (show t > 10000000 by omega)]
      · rw [if_neg hp, if_neg hp]
    · rw [decide_eq_false h1, Bool.not_false, if_pos rfl, if_neg (show ¬ (l.length ≤ 4096 ∧ a1.size ≤ 65536 ∧ a2.size ≤ 65536) from fun q => h1 q.2)]
  · rw [decide_eq_false (show ¬ (l.length : Int) ≤ 4096 by omega), if_neg Bool.false_ne_true, if_pos trivial, if_neg (show ¬ (l.length ≤ 4096 ∧ a1.size ≤ 65536 ∧ a2.size ≤ 65536) from fun q => h0 q.1)]

end Go.Proofs.Ytembklbofdgmgaa
