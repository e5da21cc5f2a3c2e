/- Tax rows: the program's and the reference's tests of a book of taxes answer one plain Bool of it, given rounds enough. -/
import Derived.Test.YtgmohjegijndeaaPAllx0
import Derived.Test.YtgmohjegijndeaaPAllx1
import Derived.Test.YtgmohjegijndeaaPAllx2
import Derived.Test.YtgmohjegijndeaaPAllx3
import Derived.Test.YtgmohjegijndeaaPAllx4
import Derived.Test.YtgmohjegijndeaaPAllx5
import Derived.Test.YtgmohjegijndeaaRdTax
import Derived.Test.YtgmohjegijndeaaPlace
namespace Go.Proofs.Ytgmohjegijndeaa
open Go.RowKit Go.Proofs.Ytgmohjegijndeaa.PAll Go.Proofs.YtgmohjegijndeaaW.PrintWords Go.Proofs.YtgmohjegijndeaaW.PrintLast

def rateB (a b : Int) : Bool := decide (0 ≤ a ∧ a ≤ 10000) && decide (1 ≤ b ∧ b ≤ 10000)

theorem implRate_is (a b : Int) : impl_RateOK.f a b = some (rateB a b) := by
  unfold impl_RateOK.f rateB
  rw [within_b, within_b]
  simp only [Option.bind_some]
  cases decide (0 ≤ a ∧ a ≤ 10000) <;> simp

theorem specRate_is (a b : Int) : spec_RateOK.f a b = some (rateB a b) := by
  unfold spec_RateOK.f rateB
  rw [in1_is, in1_is]
  simp only [Option.bind_some]
  cases decide (0 ≤ a ∧ a ≤ 10000) <;> simp

def taxB (x : S66) : Bool :=
  decide (1 ≤ x.f0 ∧ x.f0 ≤ 9) && (placeB x.f1 && (decide (0 ≤ x.f2) && (decide (x.f2 < x.f3) && (decide (x.f3 ≤ 100000) && rateB x.f4.f0 x.f4.f1))))

def meetB (r x : S66) : Bool := decide (x.f0 = r.f0) && (decide (x.f1.toList = r.f1.toList) && (decide (x.f2 < r.f3) && decide (r.f2 < x.f3)))

theorem isTax_is (x : S66) (k : Nat) (hk : 84 ≤ k) : impl_isTaxRow.f k x.f0 x.f1 x.f2 x.f3 x.f4.f0 x.f4.f1 = some (taxB x) := by
  unfold impl_isTaxRow.f taxB
  rw [place_is x.f1 k hk, within_b, implRate_is]
  simp only [Option.bind_some]
  cases decide (1 ≤ x.f0 ∧ x.f0 ≤ 9)
  · simp
  cases placeB x.f1
  · simp
  by_cases h3 : x.f2 ≥ 0
  · by_cases h4 : x.f2 < x.f3
    · by_cases h5 : x.f3 ≤ 100000
      · simp [h3, h4, h5]
      · simp [h3, h4, h5]
    · simp [h3, h4]
  · have : ¬ (0 ≤ x.f2) := by omega
    simp [this]

theorem meet_is (r x : S66) : impl_TaxRowsOK.p r x = some (meetB r x) := by
  unfold impl_TaxRowsOK.p impl_TaxRowsOK_1.f meetB
  by_cases h0 : x.f0 = r.f0
  · by_cases h1 : x.f1.toList = r.f1.toList
    · by_cases h2 : x.f2 < r.f3
      · simp [h0, h1, h2]
      · simp [h0, h1, h2]
    · simp [h0, h1]
  · simp [h0]

/-- From place i on, every row is good and meets no row ahead of it. -/
def taxGo (rows : List S66) : List S66 → Nat → Bool
  | [], _ => true
  | r :: rest, i => taxB r && (!((rows.take i).any (meetB r)) && taxGo rows rest (i + 1))

def taxesB (l : List S66) : Bool := decide (l.length ≤ 60) && taxGo l l 0

theorem idxTax_any (p : S66 → Option Bool) (q : S66 → Bool) (h : ∀ x, p x = some (q x)) : ∀ (l : List S66) (i : Int), 0 ≤ i → ∃ j, impl_TaxRow_57.f p l i = some j ∧ (j ≥ 0 ↔ l.any q = true)
  | [], i, _ => ⟨-1, rfl, by simp⟩
  | x :: xs, i, hi => by
    obtain ⟨j, h1, h2⟩ := idxTax_any p q h xs (i + 1) (by omega)
    unfold impl_TaxRow_57.f
    rw [h x]
    simp only [Option.bind_some, List.any_cons]
    cases q x
    · rw [if_neg (by decide)]; exact ⟨j, h1, by simpa using h2⟩
    · exact ⟨i, rfl, by simpa using hi⟩

theorem contTax_is (p : S66 → Option Bool) (q : S66 → Bool) (h : ∀ x, p x = some (q x)) (l : List S66) : impl_TaxRow_48.f p l = some (l.any q) := by
  obtain ⟨j, h1, h2⟩ := idxTax_any p q h l 0 (by omega)
  unfold impl_TaxRow_48.f
  rw [h1, Option.bind_some]
  cases g : l.any q
  · rw [decide_eq_false]; intro hj; rw [h2.1 hj] at g; cases g
  · rw [decide_eq_true (h2.2 g)]

theorem implTax_go (k : Nat) (hk : 84 ≤ k) (rows : List S66) : ∀ (l : List S66) (i : Nat), impl_TaxRowsOK.go k rows l i = some (taxGo rows l i)
  | [], _ => rfl
  | r :: rest, i => by
    unfold impl_TaxRowsOK.go taxGo
    rw [isTax_is r k hk, contTax_is _ _ (meet_is r), implTax_go k hk rows rest (i + 1)]
    simp only [Option.bind_some]
    cases taxB r
    · simp
    · cases (rows.take i).any (meetB r) <;> simp

theorem implTaxes_is (l : List S66) (k : Nat) (hk : 84 ≤ k) : impl_TaxRowsOK.f k l = some (taxesB l) := by
  unfold impl_TaxRowsOK.f taxesB
  by_cases h : (l.length : Int) > 60
  · rw [if_pos h, decide_eq_false (by omega)]; simp
  · rw [if_neg h, decide_eq_true (by omega), implTax_go k hk]; simp

/-- The reference's inner loop: does row i meet one ahead of it? -/
theorem spec_l1 (l : List S66) (i : Nat) (r : S66) (hi : i < l.length) (hl : l.length ≤ 60) (k : Nat) : ∀ d j, j + d = i →
    spec_TaxRowsOK.l1 (k + d + 1) l (i : Int) (j : Int) r.f0 r.f1 r.f2 r.f3 r.f4.f0 r.f4.f1 = if ((l.take i).drop j).any (meetB r) = true then some false else spec_TaxRowsOK.l0 (k + 0) l ((i : Int) + 1) := by
  intro d
  induction d with
  | zero =>
    intro j hj
    rw [spec_TaxRowsOK.l1, if_neg (by omega), List.drop_eq_nil_of_le (by rw [List.length_take]; omega), w64 (by omega) (by omega)]
    simp
  | succ d ih =>
    intro j hj
    have hlen : j < (l.take i).length := by rw [List.length_take]; omega
    have e : (l.take i)[j] = l[j] := List.getElem_take
    have w : wrap64 ((j : Int) + 1) = ((j + 1 : Nat) : Int) := by rw [w64 (by omega) (by omega)]; omega
    rw [spec_TaxRowsOK.l1, if_pos (by omega), if_pos (by omega), if_pos (by omega), rdBTaxRow (by omega), List.drop_eq_getElem_cons hlen, List.any_cons, e, w]
    rw [show k + (d + 1) = k + d + 1 by omega, ih (j + 1) (by omega)]
    generalize ((l.take i).drop (j + 1)).any (meetB r) = q
    unfold meetB
    generalize l[j] = x
    by_cases h0 : x.f0 = r.f0
    · by_cases h1 : x.f1.toList = r.f1.toList
      · by_cases h2 : x.f2 < r.f3
        · by_cases h3 : r.f2 < x.f3
          · simp [h0, h1, h2, h3]
          · simp [h0, h1, h2, h3]
        · simp [h0, h1, h2]
      · simp [h0, h1]
    · simp [h0]

/-- One round of the reference's test of a book of taxes. -/
theorem specTax_round (l : List S66) (i k : Nat) (hi : i < l.length) (hl : l.length ≤ 60) (hk : 84 ≤ k) :
    spec_TaxRowsOK.l0 (k + i + 3) l (i : Int) = if taxB l[i] = true then (if (l.take i).any (meetB l[i]) = true then some false else spec_TaxRowsOK.l0 k l ((i : Int) + 1)) else some false := by
  have hj : ∀ c x, spec_TaxRowsOK.j1 (k + i + 2) l (i : Int) c x.f0 x.f1 x.f2 x.f3 x.f4.f0 x.f4.f1 = if c = true then some false else (if (l.take i).any (meetB x) = true then some false else spec_TaxRowsOK.l0 k l ((i : Int) + 1)) := by
    intro c x
    have := spec_l1 l i x hi hl k i 0 (by omega)
    rw [List.drop_zero] at this
    rw [show k + i + 2 = (k + i + 1) + 1 from rfl, spec_TaxRowsOK.j1]
    cases c
    · rw [if_neg (by decide), if_neg (by decide)]; exact this
    · rfl
  rw [show k + i + 3 = (k + i + 2) + 1 from rfl, spec_TaxRowsOK.l0, if_pos (by omega), if_pos (by omega), rdBTaxRow hi]
  simp only [hj]
  generalize l[i] = x
  generalize (if (l.take i).any (meetB x) = true then some false else spec_TaxRowsOK.l0 k l ((i : Int) + 1)) = R
  rw [(name_both x.f1 _ (by omega)).2, in1_is, specRate_is]
  simp only [Option.bind_some]
  unfold taxB placeB
  cases decide (1 ≤ x.f0 ∧ x.f0 ≤ 9)
  · simp
  have fin : (if x.f2 < 0 then (if True then some false else R) else if x.f2 ≥ x.f3 then (if True then some false else R) else if x.f3 > 100000 then (if True then some false else R) else (if (!rateB x.f4.f0 x.f4.f1) = true then some false else R))
      = if (decide (0 ≤ x.f2) && (decide (x.f2 < x.f3) && (decide (x.f3 ≤ 100000) && rateB x.f4.f0 x.f4.f1))) = true then R else some false := by
    by_cases h3 : x.f2 < 0
    · have : ¬ (0 ≤ x.f2) := by omega
      simp [h3, this]
    · by_cases h4 : x.f2 ≥ x.f3
      · have : ¬ (x.f2 < x.f3) := by omega
        simp [h3, h4, this]
      · by_cases h5 : x.f3 > 100000
        · have : ¬ (x.f3 ≤ 100000) := by omega
          simp [h3, h4, h5, this]
        · have h3' : 0 ≤ x.f2 := by omega
          have h4' : x.f2 < x.f3 := by omega
          have h5' : x.f3 ≤ 100000 := by omega
          rw [decide_eq_true h3', decide_eq_true h4', decide_eq_true h5', if_neg h3, if_neg h4, if_neg h5]
          cases rateB x.f4.f0 x.f4.f1 <;> simp
  rw [if_pos rfl, Bool.true_and]
  by_cases h : x.f1.toList = ([] : List UInt8)
  · rw [if_pos h, decide_eq_true h, fin, Bool.true_or, Bool.true_and]
  · rw [if_neg h, decide_eq_false h, Bool.false_or]
    cases nameB x.f1
    · simp
    · rw [if_pos rfl, fin, Bool.true_and]

theorem specTax_loop (l : List S66) (hl : l.length ≤ 60) : ∀ d i k, i + d = l.length → 70 * d + 90 ≤ k → spec_TaxRowsOK.l0 k l (i : Int) = some (taxGo l (l.drop i) i) := by
  intro d
  induction d with
  | zero =>
    intro i k h hk
    obtain ⟨k, rfl⟩ : ∃ m, k = m + 1 := ⟨k - 1, by omega⟩
    rw [spec_TaxRowsOK.l0, if_neg (by omega), List.drop_eq_nil_of_le (by omega)]; rfl
  | succ d ih =>
    intro i k h hk
    obtain ⟨k, rfl⟩ : ∃ m, k = m + i + 3 := ⟨k - i - 3, by omega⟩
    have := ih (i + 1) k (by omega) (by omega)
    rw [show ((i + 1 : Nat) : Int) = (i : Int) + 1 by omega] at this
    rw [specTax_round l i k (by omega) hl (by omega), List.drop_eq_getElem_cons (by omega : i < l.length), taxGo, this]
    cases taxB l[i]
    · simp
    · cases (l.take i).any (meetB l[i]) <;> simp

theorem specTaxes_is (l : List S66) (k : Nat) (hk : 4400 ≤ k) : spec_TaxRowsOK.f k l = some (taxesB l) := by
  unfold spec_TaxRowsOK.f taxesB
  by_cases h : (l.length : Int) > 60
  · rw [if_pos h, decide_eq_false (by omega)]; simp
  · rw [if_neg h, decide_eq_true (by omega)]
    have := specTax_loop l (by omega) l.length 0 k (by omega) (by omega)
    simpa using this

end Go.Proofs.Ytgmohjegijndeaa
