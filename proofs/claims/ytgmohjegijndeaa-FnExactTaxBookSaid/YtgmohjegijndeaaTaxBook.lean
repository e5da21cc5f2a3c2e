/- The book of taxes: what the lines sum up to, class by class, and that the program's sums tell it. -/
import Derived.Test.YtgmohjegijndeaaPAllx0
import Derived.Test.YtgmohjegijndeaaPAllx5
import Derived.Test.YtgmohjegijndeaaPAllx6
import Derived.Test.YtgmohjegijndeaaPAllx7
import Derived.Test.YtgmohjegijndeaaTaxAt
import Derived.Test.YtgmohjegijndeaaRound
namespace Go.Proofs.Ytgmohjegijndeaa
open Go.RowKit Go.Proofs.Ytgmohjegijndeaa.PAll Go.Proofs.YtgmohjegijndeaaW.PrintWords Go.Proofs.YtgmohjegijndeaaW.PrintLast

/-- A line that is good: a class from 1 to 9, an amount that is money. -/
def lineB (x : S45) : Bool := decide (1 ≤ x.f0 ∧ x.f0 ≤ 9) && decide (-1000000000 ≤ x.f1 ∧ x.f1 ≤ 1000000000)

theorem line1_is (x : S45) : impl_TaxBook_1.f x.f0 x.f1 = some (!lineB x) := by
  unfold impl_TaxBook_1.f lineB
  rw [within_is, isMoney_is]
  by_cases h : 1 ≤ x.f0 ∧ x.f0 ≤ 9
  · rw [decide_eq_true h]; simp
  · rw [decide_eq_false h]; simp

theorem idxLine_is : ∀ (l : List S45) (i : Int), 0 ≤ i → ∃ r, impl_TaxLine_56.f (fun x => impl_TaxBook_1.f x.f0 x.f1) l i = some r ∧ decide (r ≥ 0) = !l.all lineB
  | [], _, _ => ⟨-1, rfl, rfl⟩
  | x :: xs, i, h => by
    obtain ⟨r, e, f⟩ := idxLine_is xs (i + 1) (by omega)
    rw [impl_TaxLine_56.cons, line1_is]
    simp only [Option.bind_some, List.all_cons]
    cases lineB x
    · refine ⟨i, by simp, by simp; omega⟩
    · exact ⟨r, by simpa using e, by simpa using f⟩

theorem contLine_is (l : List S45) : impl_TaxLine_32.f (fun x => impl_TaxBook_1.f x.f0 x.f1) l = some (!l.all lineB) := by
  obtain ⟨r, e, f⟩ := idxLine_is l 0 (by omega)
  unfold impl_TaxLine_32.f
  rw [e]; simp only [Option.bind_some]; rw [f]

/-- The sum of a class's lines, and whether it has one. -/
def sumAt : List S45 → Int → Int
  | [], _ => 0
  | x :: xs, c => (if x.f0 = c then x.f1 else 0) + sumAt xs c
def hasAt (l : List S45) (c : Int) : Bool := l.any fun x => decide (x.f0 = c)

theorem sumAt_bd : ∀ (l : List S45) (c : Int), l.all lineB = true → -(1000000000 * (l.length : Int)) ≤ sumAt l c ∧ sumAt l c ≤ 1000000000 * (l.length : Int)
  | [], _, _ => by simp [sumAt]
  | x :: xs, c, h => by
    simp only [List.all_cons, Bool.and_eq_true] at h
    have ih := sumAt_bd xs c h.2
    have hx := h.1
    unfold lineB at hx
    simp only [Bool.and_eq_true, decide_eq_true_eq] at hx
    rw [sumAt]
    simp only [List.length_cons, Int.natCast_add, Int.natCast_one]
    split <;> omega

theorem sum_len : ∀ (l : List S45) (s : List Int) (t : List Bool), (impl_TaxBook.sum l s t).1.length = s.length ∧ (impl_TaxBook.sum l s t).2.length = t.length
  | [], _, _ => ⟨rfl, rfl⟩
  | x :: xs, s, t => by
    rw [impl_TaxBook.sum]
    have := sum_len xs (s.set x.f0.toNat (wrap64 (s.getD x.f0.toNat 0 + x.f1))) (t.set x.f0.toNat true)
    simpa using this

theorem sum_is : ∀ (l : List S45) (s : List Int) (t : List Bool) (B : Int), l.all lineB = true → s.length = 10 → t.length = 10 → 0 ≤ B → B + 1000000000 * (l.length : Int) ≤ 1000000000000000000 → (∀ c : Nat, c < 10 → -B ≤ s.getD c 0 ∧ s.getD c 0 ≤ B) →
    ∀ c : Nat, c < 10 → (impl_TaxBook.sum l s t).1.getD c 0 = s.getD c 0 + sumAt l c ∧ (impl_TaxBook.sum l s t).2.getD c false = (t.getD c false || hasAt l c)
  | [], s, t, _, _, _, _, _, _, _, c, _ => ⟨by simp [impl_TaxBook.sum, sumAt], by simp [impl_TaxBook.sum, hasAt]⟩
  | x :: xs, s, t, B, h, hs, ht, hB, hB2, hb, c, hc => by
    simp only [List.all_cons, Bool.and_eq_true] at h
    have hx := h.1
    unfold lineB at hx
    simp only [Bool.and_eq_true, decide_eq_true_eq] at hx
    simp only [List.length_cons, Int.natCast_add, Int.natCast_one] at hB2
    have hN : x.f0.toNat < 10 := by omega
    have hbx := hb x.f0.toNat hN
    have hw : wrap64 (s.getD x.f0.toNat 0 + x.f1) = s.getD x.f0.toNat 0 + x.f1 := w64 (by omega) (by omega)
    rw [impl_TaxBook.sum, hw]
    have get : ∀ c' : Nat, c' < 10 → (s.set x.f0.toNat (s.getD x.f0.toNat 0 + x.f1)).getD c' 0 = s.getD c' 0 + (if x.f0 = (c' : Int) then x.f1 else 0) := by
      intro c' hc'
      simp only [List.getD_eq_getElem?_getD, List.getElem?_set]
      by_cases e : x.f0.toNat = c'
      · rw [if_pos e, if_pos (by omega), if_pos (by omega), ← e]; rfl
      · rw [if_neg e, if_neg (by omega)]; omega
    have gett : (t.set x.f0.toNat true).getD c false = (t.getD c false || decide (x.f0 = (c : Int))) := by
      simp only [List.getD_eq_getElem?_getD, List.getElem?_set]
      by_cases e : x.f0.toNat = c
      · rw [if_pos e, if_pos (by omega), decide_eq_true (by omega)]; simp
      · rw [if_neg e, decide_eq_false (by omega)]; simp
    have ih := sum_is xs (s.set x.f0.toNat (s.getD x.f0.toNat 0 + x.f1)) (t.set x.f0.toNat true) (B + 1000000000) h.2 (by simpa using hs) (by simpa using ht) (by omega) (by omega)
      (fun c' hc' => by rw [get c' hc']; have := hb c' hc'; split <;> omega) c hc
    rw [get c hc, gett] at ih
    rw [ih.1, ih.2, sumAt]
    refine ⟨by omega, ?_⟩
    unfold hasAt
    rw [List.any_cons, Bool.or_assoc]

end Go.Proofs.Ytgmohjegijndeaa
