/- Price rows: the program's and the reference's tests of a book of prices answer one plain Bool of it, given rounds enough. -/
import Derived.Test.YtembklbofdgmgaaPAllx0
import Derived.Test.YtembklbofdgmgaaPAllx1
import Derived.Test.YtembklbofdgmgaaPAllx2
import Derived.Test.YtembklbofdgmgaaPAllx3
import Derived.Test.YtembklbofdgmgaaRdPriceRow
import Derived.Test.YtembklbofdgmgaaPlace
namespace Go.Proofs.Ytembklbofdgmgaa
open Go.RowKit Go.Proofs.Ytembklbofdgmgaa.PAll Go.Proofs.YtembklbofdgmgaaW.PrintWords Go.Proofs.YtembklbofdgmgaaW.PrintLast

def priceB (x : S44) : Bool :=
  nameB x.f0 && (placeB x.f1 && (decide (1 ≤ x.f2 ∧ x.f2 ≤ 5) && (decide (0 ≤ x.f3) && (decide (x.f3 < x.f4) && (decide (x.f4 ≤ 10000000) && decide (0 ≤ x.f5 ∧ x.f5 ≤ 1000000000))))))

theorem isPrice_is (x : S44) (k : Nat) (hk : 84 ≤ k) : impl_isPriceRow.f k x.f0 x.f1 x.f2 x.f3 x.f4 x.f5 = some (priceB x) := by
  unfold impl_isPriceRow.f priceB
  rw [(name_both x.f0 k hk).1, place_is x.f1 k hk, within_b, within_b]
  simp only [Option.bind_some]
  cases nameB x.f0
  · simp
  cases placeB x.f1
  · simp
  by_cases h2 : 1 ≤ x.f2 ∧ x.f2 ≤ 5
  · by_cases h3 : x.f3 ≥ 0
    · by_cases h4 : x.f3 < x.f4
      · by_cases h5 : x.f4 ≤ 10000000
        · simp [h2, h3, h4, h5]
        · simp [h2, h3, h4, h5]
      · simp [h2, h3, h4]
    · have : ¬ (0 ≤ x.f3) := by omega
      simp [h2, this]
  · rw [decide_eq_false h2]; simp

/-- One round of the reference's test of a book. -/
theorem specPrices_round (l : List S44) (i k : Nat) (hi : i < l.length) (hl : l.length ≤ 80) (hk : 84 ≤ k) :
    spec_PricesOK.l0 (k + 1) l (i : Int) = if priceB l[i] = true then spec_PricesOK.l0 k l ((i : Int) + 1) else some false := by
  rw [spec_PricesOK.l0, if_pos (by omega), if_pos (by omega), rdBPriceRow hi, w64 (by omega) (by omega)]
  generalize l[i] = x
  generalize spec_PricesOK.l0 k l ((i : Int) + 1) = R
  rw [(name_both x.f0 k hk).2, (name_both x.f1 k hk).2, in1_is, in1_is]
  simp only [Option.bind_some]
  unfold priceB placeB
  cases nameB x.f0
  · simp
  have fin : (if decide (1 ≤ x.f2 ∧ x.f2 ≤ 5) = true then (if x.f3 < 0 then some false else if x.f3 ≥ x.f4 then some false else if x.f4 > 10000000 then some false else if decide (0 ≤ x.f5 ∧ x.f5 ≤ 1000000000) = true then R else some false) else some false)
      = if (decide (1 ≤ x.f2 ∧ x.f2 ≤ 5) && (decide (0 ≤ x.f3) && (decide (x.f3 < x.f4) && (decide (x.f4 ≤ 10000000) && decide (0 ≤ x.f5 ∧ x.f5 ≤ 1000000000))))) = true then R else some false := by
    by_cases h2 : 1 ≤ x.f2 ∧ x.f2 ≤ 5
    · by_cases h3 : x.f3 < 0
      · have : ¬ (0 ≤ x.f3) := by omega
        simp [h2, this]
      · by_cases h4 : x.f3 ≥ x.f4
        · have : ¬ (x.f3 < x.f4) := by omega
          simp [h2, h3, h4, this]
        · by_cases h5 : x.f4 > 10000000
          · have : ¬ (x.f4 ≤ 10000000) := by omega
            simp [h2, h3, h4, h5, this]
          · have h3' : 0 ≤ x.f3 := by omega
            have h4' : x.f3 < x.f4 := by omega
            have h5' : x.f4 ≤ 10000000 := by omega
            rw [decide_eq_true h2, decide_eq_true h3', decide_eq_true h4', decide_eq_true h5', if_pos rfl, if_neg h3, if_neg h4, if_neg h5]
            simp
    · rw [decide_eq_false h2]; simp
  rw [if_pos rfl, Bool.true_and]
  by_cases h : x.f1.toList = ([] : List UInt8)
  · rw [if_pos h, decide_eq_true h, fin]; simp
  · rw [if_neg h, decide_eq_false h]
    cases nameB x.f1
    · simp
    · rw [if_pos rfl, fin]; simp

theorem specPrices_loop (l : List S44) (hl : l.length ≤ 80) : ∀ d i k, i + d = l.length → d + 85 ≤ k → spec_PricesOK.l0 k l (i : Int) = some ((l.drop i).all priceB) := by
  intro d
  induction d with
  | zero =>
    intro i k h hk
    obtain ⟨k, rfl⟩ : ∃ m, k = m + 1 := ⟨k - 1, by omega⟩
    rw [spec_PricesOK.l0, if_neg (by omega), List.drop_eq_nil_of_le (by omega)]; rfl
  | succ d ih =>
    intro i k h hk
    obtain ⟨k, rfl⟩ : ∃ m, k = m + 1 := ⟨k - 1, by omega⟩
    rw [specPrices_round l i k (by omega) hl (by omega), List.drop_eq_getElem_cons (by omega : i < l.length), List.all_cons]
    have := ih (i + 1) k (by omega) (by omega)
    rw [show ((i + 1 : Nat) : Int) = (i : Int) + 1 by omega] at this
    rw [this]
    cases priceB l[i] <;> simp

def pricesB (l : List S44) : Bool := decide (l.length ≤ 80) && l.all priceB

theorem specPrices_is (l : List S44) (k : Nat) (hk : 165 ≤ k) : spec_PricesOK.f k l = some (pricesB l) := by
  unfold spec_PricesOK.f pricesB
  by_cases h : (l.length : Int) > 80
  · rw [if_pos h, decide_eq_false (by omega)]; simp
  · rw [if_neg h, decide_eq_true (by omega)]
    have := specPrices_loop l (by omega) l.length 0 k (by omega) (by omega)
    simpa using this

/-- The first place where a test holds, with a test that always answers. -/
theorem idxPrice_any (p : S44 → Option Bool) (q : S44 → Bool) (h : ∀ x, p x = some (q x)) : ∀ (l : List S44) (i : Int), 0 ≤ i → ∃ j, impl_PriceRow_50.f p l i = some j ∧ (j ≥ 0 ↔ l.any q = true)
  | [], i, _ => ⟨-1, rfl, by simp⟩
  | x :: xs, i, hi => by
    obtain ⟨j, h1, h2⟩ := idxPrice_any p q h xs (i + 1) (by omega)
    unfold impl_PriceRow_50.f
    rw [h x]
    simp only [Option.bind_some, List.any_cons]
    cases q x
    · rw [if_neg (by decide)]; exact ⟨j, h1, by simpa using h2⟩
    · exact ⟨i, rfl, by simpa using hi⟩

theorem implPrices_is (l : List S44) (k : Nat) (hk : 84 ≤ k) : impl_PricesOK.f k l = some (pricesB l) := by
  unfold impl_PricesOK.f pricesB
  by_cases h : (l.length : Int) ≤ 80
  · rw [if_pos h, decide_eq_true (by omega)]
    obtain ⟨j, h1, h2⟩ := idxPrice_any (fun x_ => impl_PricesOK_1.f k x_.f0 x_.f1 x_.f2 x_.f3 x_.f4 x_.f5) (fun x => !priceB x) (fun x => by
      show impl_PricesOK_1.f k x.f0 x.f1 x.f2 x.f3 x.f4 x.f5 = _
      unfold impl_PricesOK_1.f
      rw [isPrice_is x k hk]; rfl) l 0 (by omega)
    unfold impl_PriceRow_34_impl_PricesOK_1.f impl_PriceRow_34.f
    rw [h1]
    simp only [Option.bind_some]
    have : decide (j ≥ 0) = l.any fun x => !priceB x := by
      cases g : l.any fun x => !priceB x
      · rw [decide_eq_false]; intro hj; rw [h2.1 hj] at g; cases g
      · rw [decide_eq_true (h2.2 g)]
    rw [this, List.not_any_eq_all_not]
    simp
  · rw [if_neg h, decide_eq_false (by omega)]; simp

end Go.Proofs.Ytembklbofdgmgaa
