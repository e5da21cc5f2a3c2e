/- The row of a book of prices that holds at a place and an amount: the program and the reference take the same one, given rounds enough. -/
import Derived.Test.YtembklbofdgmgaaPAllx0
import Derived.Test.YtembklbofdgmgaaPAllx1
import Derived.Test.YtembklbofdgmgaaPAllx4
import Derived.Test.YtembklbofdgmgaaPriceRows
namespace Go.Proofs.Ytembklbofdgmgaa
open Go.RowKit Go.Proofs.Ytembklbofdgmgaa.PAll Go.Proofs.YtembklbofdgmgaaW.PrintWords Go.Proofs.YtembklbofdgmgaaW.PrintLast

def aheadB (x y : S44) : Bool :=
  if x.f2 = y.f2 then (if (x.f1.toList.isEmpty != y.f1.toList.isEmpty) = true then y.f1.toList.isEmpty else decide (x.f3 > y.f3)) else decide (x.f2 > y.f2)

theorem ahead_is (x y : S44) : spec_l04Ahead.f x.f0 x.f1 x.f2 x.f3 x.f4 x.f5 y.f0 y.f1 y.f2 y.f3 y.f4 y.f5 = some (aheadB x y) := by
  unfold spec_l04Ahead.f aheadB
  repeat' split
  all_goals rfl

theorem firmer_is (x y : S44) : impl_isFirmer.f x.f0 x.f1 x.f2 x.f3 x.f4 x.f5 y.f0 y.f1 y.f2 y.f3 y.f4 y.f5 = some (aheadB x y) := by
  unfold impl_isFirmer.f aheadB
  by_cases h : x.f2 = y.f2
  · rw [if_pos h, if_pos h]
    cases x.f1.toList.isEmpty <;> cases y.f1.toList.isEmpty <;> simp
  · rw [if_neg h, if_neg h]

def fitsB (a1 a2 : ByteArray) (a3 : Int) (x : S44) : Bool :=
  decide (x.f0.toList = a1.toList) && ((decide (x.f1.toList = ([] : List UInt8)) || decide (x.f1.toList = a2.toList)) && decide (x.f3 ≤ a3 ∧ a3 < x.f4))

def taken (l : List S44) (a1 a2 : ByteArray) (a3 b : Int) (i : Int) : Int :=
  if (fitsB a1 a2 a3 (rd_T44 l i) && (decide (b < 0) || aheadB (rd_T44 l i) (rd_T44 l b))) = true then i else b

theorem spec_j1 (l : List S44) (a1 a2 : ByteArray) (a3 b i : Int) (c : Bool) (x : S44) (k : Nat) (hb : b < l.length) :
    spec_l04At.j1 (k + 1) l a1 a2 a3 b i c x.f0 x.f1 x.f2 x.f3 x.f4 x.f5 = spec_l04At.l0 k l a1 a2 a3 (if (!c && (decide (b < 0) || aheadB x (rd_T44 l b))) = true then i else b) (wrap64 (i + 1)) := by
  rw [spec_l04At.j1]
  cases c
  · rw [if_neg (by decide)]
    by_cases h : b < 0
    · rw [if_pos h]; simp [h]
    · rw [if_neg h, if_pos (by omega), if_pos hb, ahead_is]
      simp only [Option.bind_some]
      cases aheadB x (rd_T44 l b) <;> simp [h]
  · rw [if_pos rfl]; simp

theorem spec_round (l : List S44) (a1 a2 : ByteArray) (a3 b : Int) (i k : Nat) (hi : i < l.length) (hl : l.length ≤ 80) (hb : b < l.length) :
    spec_l04At.l0 (k + 2) l a1 a2 a3 b (i : Int) = spec_l04At.l0 k l a1 a2 a3 (taken l a1 a2 a3 b i) ((i : Int) + 1) := by
  have hw : wrap64 ((i : Int) + 1) = (i : Int) + 1 := w64 (by omega) (by omega)
  rw [show k + 2 = (k + 1) + 1 from rfl, spec_l04At.l0, if_pos (by omega), if_pos (by omega)]
  simp only [spec_j1 _ _ _ _ _ _ _ _ _ hb]
  rw [hw]
  unfold taken fitsB
  generalize rd_T44 l (i : Int) = x
  generalize aheadB x (rd_T44 l b) = q
  by_cases h0 : x.f0.toList = a1.toList
  · rw [if_pos h0, decide_eq_true h0, Bool.true_and]
    by_cases h1 : x.f1.toList = ([] : List UInt8)
    · rw [if_pos h1, decide_eq_true h1, Bool.true_or, Bool.true_and]
      by_cases h3 : a3 < x.f3
      · rw [if_pos h3, decide_eq_false (by omega : ¬ (x.f3 ≤ a3 ∧ a3 < x.f4))]; simp
      · rw [if_neg h3]
        by_cases h4 : a3 ≥ x.f4
        · rw [decide_eq_true h4, decide_eq_false (by omega : ¬ (x.f3 ≤ a3 ∧ a3 < x.f4))]; simp
        · rw [decide_eq_false h4, decide_eq_true (by omega : (x.f3 ≤ a3 ∧ a3 < x.f4))]; simp
    · rw [if_neg h1, decide_eq_false h1, Bool.false_or]
      by_cases h2 : x.f1.toList = a2.toList
      · rw [if_pos h2, decide_eq_true h2, Bool.true_and]
        by_cases h3 : a3 < x.f3
        · rw [if_pos h3, decide_eq_false (by omega : ¬ (x.f3 ≤ a3 ∧ a3 < x.f4))]; simp
        · rw [if_neg h3]
          by_cases h4 : a3 ≥ x.f4
          · rw [decide_eq_true h4, decide_eq_false (by omega : ¬ (x.f3 ≤ a3 ∧ a3 < x.f4))]; simp
          · rw [decide_eq_false h4, decide_eq_true (by omega : (x.f3 ≤ a3 ∧ a3 < x.f4))]; simp
      · rw [if_neg h2, decide_eq_false h2]; simp
  · rw [if_neg h0, decide_eq_false h0]; simp

theorem impl_j1 (l : List S44) (a1 a2 : ByteArray) (a3 b i n j : Int) (c : Bool) (m : List S44) (k : Nat) :
    impl_rowAt.j1 (k + 1) l a1 a2 a3 b i m n j c = impl_rowAt.l0 k l a1 a2 a3 (if c = true then i else b) m n (wrap64 (j + 1)) := by
  rw [impl_rowAt.j1]
  cases c <;> rfl

theorem impl_round (l : List S44) (a1 a2 : ByteArray) (a3 b : Int) (i k : Nat) (hi : i < l.length) (hl : l.length ≤ 80) (hb : b < l.length) (hp : l.all priceB = true) :
    impl_rowAt.l0 (k + 2) l a1 a2 a3 b l (l.length : Int) (i : Int) = impl_rowAt.l0 k l a1 a2 a3 (taken l a1 a2 a3 b i) l (l.length : Int) ((i : Int) + 1) := by
  have hw : wrap64 ((i : Int) + 1) = (i : Int) + 1 := w64 (by omega) (by omega)
  rw [show k + 2 = (k + 1) + 1 from rfl, impl_rowAt.l0, if_pos (by omega), if_pos (by omega), if_pos (by omega)]
  simp only [impl_j1]
  rw [hw]
  have hx : priceB (rd_T44 l (i : Int)) = true := by
    rw [rdBPriceRow hi]; exact List.all_eq_true.1 hp _ (List.getElem_mem hi)
  unfold taken fitsB
  generalize rd_T44 l (i : Int) = x at *
  have hx4 : x.f3 < x.f4 ∧ x.f4 ≤ 10000000 ∧ 0 ≤ x.f3 := by
    unfold priceB at hx; simp only [Bool.and_eq_true, decide_eq_true_eq] at hx; omega
  rw [firmer_is, within_b, w64 (x := x.f4 - 1) (by omega) (by omega)]
  generalize aheadB x (rd_T44 l b) = q
  simp only [Option.bind_some]
  have hd : decide (x.f3 ≤ a3 ∧ a3 ≤ x.f4 - 1) = decide (x.f3 ≤ a3 ∧ a3 < x.f4) := by
    by_cases h : x.f3 ≤ a3 ∧ a3 < x.f4
    · rw [decide_eq_true h, decide_eq_true (by omega)]
    · rw [decide_eq_false h, decide_eq_false (by omega)]
  rw [hd]
  generalize decide (x.f3 ≤ a3 ∧ a3 < x.f4) = w
  by_cases h0 : x.f0.toList = a1.toList
  · rw [if_pos h0, decide_eq_true h0, Bool.true_and]
    by_cases h2 : x.f1.toList = a2.toList
    · rw [if_pos h2, decide_eq_true h2, Bool.or_true, Bool.true_and]
      cases w
      · simp
      · rw [if_pos rfl]
        by_cases h : b < 0
        · rw [if_pos h]; simp [h]
        · rw [if_neg h, if_pos (by omega), if_pos hb]; simp [h]
    · rw [if_neg h2, decide_eq_false h2, Bool.or_false]
      by_cases h1 : x.f1.toList = ([] : List UInt8)
      · rw [if_pos h1, decide_eq_true h1, Bool.true_and]
        cases w
        · simp
        · rw [if_pos rfl]
          by_cases h : b < 0
          · rw [if_pos h]; simp [h]
          · rw [if_neg h, if_pos (by omega), if_pos hb]; simp [h]
      · rw [if_neg h1, decide_eq_false h1]; simp
  · rw [if_neg h0, decide_eq_false h0]; simp

theorem taken_bd {l : List S44} {a1 a2 : ByteArray} {a3 b : Int} {i : Nat} (hi : i < l.length) (hb : b < l.length) : taken l a1 a2 a3 b i < l.length := by
  unfold taken; split <;> omega

/-- The row that counts, walking on from a place. -/
def bestGo (l : List S44) (a1 a2 : ByteArray) (a3 : Int) : Nat → Nat → Int → Int
  | 0, _, b => b
  | d + 1, i, b => bestGo l a1 a2 a3 d (i + 1) (taken l a1 a2 a3 b i)

theorem at_both (l : List S44) (a1 a2 : ByteArray) (a3 : Int) (hl : l.length ≤ 80) (hp : l.all priceB = true) :
    ∀ d i, i + d = l.length → ∀ b : Int, b < l.length → bestGo l a1 a2 a3 d i b < l.length ∧ ∀ k, 2 * d + 1 ≤ k → spec_l04At.l0 k l a1 a2 a3 b (i : Int) = some (bestGo l a1 a2 a3 d i b) ∧ impl_rowAt.l0 k l a1 a2 a3 b l (l.length : Int) (i : Int) = some (bestGo l a1 a2 a3 d i b) := by
  intro d
  induction d with
  | zero =>
    intro i hi b hb
    refine ⟨hb, fun k hk => ?_⟩
    obtain ⟨k, rfl⟩ : ∃ m, k = m + 1 := ⟨k - 1, by omega⟩
    rw [spec_l04At.l0, impl_rowAt.l0, if_neg (by omega), if_neg (by omega)]
    exact ⟨rfl, rfl⟩
  | succ d ih =>
    intro i hi b hb
    obtain ⟨hr, h⟩ := ih (i + 1) (by omega) (taken l a1 a2 a3 b i) (taken_bd (by omega) hb)
    refine ⟨hr, fun k hk => ?_⟩
    obtain ⟨k, rfl⟩ : ∃ m, k = m + 2 := ⟨k - 2, by omega⟩
    rw [spec_round l a1 a2 a3 b i k (by omega) hl hb, impl_round l a1 a2 a3 b i k (by omega) hl hb hp]
    have := h k (by omega)
    rwa [show ((i + 1 : Nat) : Int) = (i : Int) + 1 by omega] at this

/-- The row that counts at a minute, -1 without one. -/
def bestAt (l : List S44) (a1 a2 : ByteArray) (a3 : Int) : Int := bestGo l a1 a2 a3 l.length 0 (-1)

theorem bestAt_lt (l : List S44) (a1 a2 : ByteArray) (a3 : Int) (hl : l.length ≤ 80) (hp : l.all priceB = true) : bestAt l a1 a2 a3 < l.length := (at_both l a1 a2 a3 hl hp l.length 0 (by omega) (-1) (by omega)).1

theorem specAt_best (l : List S44) (a1 a2 : ByteArray) (a3 : Int) (hl : l.length ≤ 80) (hp : l.all priceB = true) (k : Nat) (hk : 170 ≤ k) : spec_l04At.f k l a1 a2 a3 = some (bestAt l a1 a2 a3) :=
  ((at_both l a1 a2 a3 hl hp l.length 0 (by omega) (-1) (by omega)).2 k (by omega)).1

theorem implAt_best (l : List S44) (a1 a2 : ByteArray) (a3 : Int) (hl : l.length ≤ 80) (hp : l.all priceB = true) (k : Nat) (hk : 170 ≤ k) : impl_rowAt.f k l a1 a2 a3 = some (bestAt l a1 a2 a3) :=
  ((at_both l a1 a2 a3 hl hp l.length 0 (by omega) (-1) (by omega)).2 k (by omega)).2

end Go.Proofs.Ytembklbofdgmgaa
