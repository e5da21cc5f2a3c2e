/- Of numbers the greatest one after another, of equals the first: they are the first ones of the sorted places. -/
import Derived.Test.YtfccbbbejjdakaaStable
namespace Go.Proofs.Ytfccbbbejjdakaa
open Go.Sort Go.Proofs

/-- Of n places into n places, no two into one: each is met. -/
theorem pigeon : ∀ (n : Nat) (f : Nat → Nat), (∀ i, i < n → f i < n) → (∀ i j, i < j → j < n → f i ≠ f j) → ∀ y, y < n → ∃ i, i < n ∧ f i = y
  | 0, _, _, _, y, hy => absurd hy (Nat.not_lt_zero _)
  | n + 1, f, hf, hi, y, hy => by
    by_cases c : f n = n
    · by_cases e : y = n
      · exact ⟨n, by omega, c.trans e.symm⟩
      · obtain ⟨i, h1, h2⟩ := pigeon n f (fun i h => by have := hf i (by omega); have := hi i n h (by omega); omega) (fun i j h1 h2 => hi i j h1 (by omega)) y (by omega)
        exact ⟨i, by omega, h2⟩
    · have hc : f n < n := by have := hf n (by omega); omega
      have g1 : ∀ i, i < n → (if f i = n then f n else f i) < n := fun i h => by
        by_cases e : f i = n
        · rw [if_pos e]; exact hc
        · rw [if_neg e]; have := hf i (by omega); omega
      have g2 : ∀ i j, i < j → j < n → (if f i = n then f n else f i) ≠ (if f j = n then f n else f j) := fun i j h1 h2 => by
        have a1 := hi i j h1 (by omega)
        have a2 := hi i n (by omega) (by omega)
        have a3 := hi j n (by omega) (by omega)
        by_cases e1 : f i = n
        · by_cases e2 : f j = n
          · omega
          · rw [if_pos e1, if_neg e2]; omega
        · by_cases e2 : f j = n
          · rw [if_neg e1, if_pos e2]; omega
          · rw [if_neg e1, if_neg e2]; exact a1
      have P := pigeon n (fun i => if f i = n then f n else f i) g1 g2
      by_cases e : y = f n
      · exact ⟨n, by omega, e.symm⟩
      · by_cases e2 : y = n
        · obtain ⟨i, h1, h2⟩ := P (f n) hc
          by_cases e3 : f i = n
          · exact ⟨i, by omega, e3.trans e2.symm⟩
          · rw [if_neg e3] at h2; exact absurd h2 (hi i n h1 (by omega))
        · obtain ⟨i, h1, h2⟩ := P y (by omega)
          by_cases e3 : f i = n
          · rw [if_pos e3] at h2; exact absurd h2.symm e
          · rw [if_neg e3] at h2; exact ⟨i, by omega, h2⟩

/-- Of some numbers the greatest, of equals the first. -/
structure IsBest (r : List Int) (b : Nat) : Prop where
  lt : b < r.length
  le : ∀ i, i < r.length → r.getD i 0 ≤ r.getD b 0
  first : ∀ i, i < b → r.getD i 0 < r.getD b 0

theorem IsBest.unique {r : List Int} {b c : Nat} (h : IsBest r b) (h' : IsBest r c) : b = c := by
  rcases Nat.lt_trichotomy b c with e | e | e
  · have := h'.first b e; have := h.le c h'.lt; omega
  · exact e
  · have := h.first c e; have := h'.le b h.lt; omega

/-- The search from place i on, b the best up to there. -/
def bestFrom (r : List Int) : Nat → Nat → Nat → Nat
  | 0, _, b => b
  | k + 1, i, b => bestFrom r k (i + 1) (if r.getD i 0 > r.getD b 0 then i else b)
def bestIx (r : List Int) : Nat := bestFrom r (r.length - 1) 1 0

theorem bestFrom_is (r : List Int) : ∀ (k i b : Nat), i + k = r.length → b < i → (∀ j, j < i → r.getD j 0 ≤ r.getD b 0) → (∀ j, j < b → r.getD j 0 < r.getD b 0) → IsBest r (bestFrom r k i b)
  | 0, i, b, hi, hb, h1, h2 => ⟨by rw [bestFrom]; omega, fun j hj => by rw [bestFrom]; exact h1 j (by omega), fun j hj => by rw [bestFrom] at hj ⊢; exact h2 j hj⟩
  | k + 1, i, b, hi, hb, h1, h2 => by
    rw [bestFrom]
    by_cases c : r.getD i 0 > r.getD b 0
    · rw [if_pos c]
      refine bestFrom_is r k (i + 1) i (by omega) (by omega) (fun j hj => ?_) (fun j hj => by have := h1 j hj; omega)
      by_cases e : j = i
      · rw [e]; exact Int.le_refl _
      · have := h1 j (by omega); omega
    · rw [if_neg c]
      refine bestFrom_is r k (i + 1) b (by omega) (by omega) (fun j hj => ?_) h2
      by_cases e : j = i
      · rw [e]; omega
      · exact h1 j (by omega)

theorem bestIx_is (r : List Int) (h : r ≠ []) : IsBest r (bestIx r) := by
  have : 0 < r.length := List.length_pos_iff.2 h
  exact bestFrom_is r _ 1 0 (by omega) (by omega) (fun j hj => by rw [show j = 0 by omega]; exact Int.le_refl _) (fun j hj => by omega)

def greedy : Nat → List Int → List Nat
  | 0, _ => []
  | k + 1, r => bestIx r :: greedy k (r.set (bestIx r) (-1))

/-- Which of two places comes first. -/
def Bf {m : Nat} (r : List Int) (x y : Fin (m + 1)) : Prop := r.getD y.val 0 < r.getD x.val 0 ∨ (r.getD x.val 0 = r.getD y.val 0 ∧ x.val < y.val)
def Vf {m : Nat} (x y : Fin (m + 1)) : Prop := x.val < y.val

theorem Bf.irrefl {m : Nat} {r : List Int} {x y : Fin (m + 1)} (h : Bf r x y) : x ≠ y := by
  rintro rfl
  rcases h with h | h <;> omega

theorem order_surj {m : Nat} {r : List Int} {d : Array (Fin (m + 1))} (hs : Srt (Bf r) 0 (m + 1) d) : ∀ y, y < m + 1 → ∃ p, p < m + 1 ∧ d[p]!.val = y :=
  pigeon (m + 1) (fun p => d[p]!.val) (fun p _ => d[p]!.isLt) (fun i j h1 h2 e => (hs i j (Nat.zero_le _) h1 h2).irrefl (Fin.ext e))

theorem getD_set (r : List Int) (b i : Nat) (v : Int) (hb : b < r.length) : (r.set b v).getD i 0 = if i = b then v else r.getD i 0 := by
  simp only [List.getD_eq_getElem?_getD, List.getElem?_set]
  by_cases e : b = i
  · subst e; simp [hb]
  · rw [if_neg e, if_neg (Ne.symm e)]

/-- The greatest one after another are those of the sorted places. -/
theorem greedy_go {m : Nat} {r0 : List Int} (hr : r0.length = m + 1) (h0 : ∀ i, i < m + 1 → 0 ≤ r0.getD i 0) {d : Array (Fin (m + 1))} (hs : Srt (Bf r0) 0 (m + 1) d) : ∀ (k t : Nat) (r : List Int), t + k ≤ m + 1 → r.length = m + 1 → (∀ p, p < t → r.getD d[p]!.val 0 = -1) → (∀ p, t ≤ p → p < m + 1 → r.getD d[p]!.val 0 = r0.getD d[p]!.val 0) →
    greedy k r = (List.range k).map (fun p => d[t + p]!.val)
  | 0, t, r, _, _, _, _ => rfl
  | k + 1, t, r, ht, hl, h1, h2 => by
    have hb : IsBest r d[t]!.val := by
      refine ⟨by rw [hl]; exact d[t]!.isLt, fun i hi => ?_, fun i hi => ?_⟩
      · obtain ⟨p, hp, rfl⟩ := order_surj hs i (by omega)
        have e := h2 t (Nat.le_refl _) (by omega)
        have n0 := h0 d[t]!.val d[t]!.isLt
        by_cases c : p < t
        · rw [h1 p c, e]; omega
        · by_cases c2 : p = t
          · rw [c2]; exact Int.le_refl _
          · rw [h2 p (by omega) hp, e]
            rcases hs t p (Nat.zero_le _) (by omega) hp with q | q <;> omega
      · obtain ⟨p, hp, rfl⟩ := order_surj hs i (by have := d[t]!.isLt; omega)
        have e := h2 t (Nat.le_refl _) (by omega)
        have n0 := h0 d[t]!.val d[t]!.isLt
        by_cases c : p < t
        · rw [h1 p c, e]; omega
        · by_cases c2 : p = t
          · subst c2; omega
          · rw [h2 p (by omega) hp, e]
            rcases hs t p (Nat.zero_le _) (by omega) hp with q | q <;> omega
    have hx : bestIx r = d[t]!.val := (bestIx_is r (by intro e; rw [e] at hl; simp at hl)).unique hb
    have hlt : d[t]!.val < r.length := by rw [hl]; exact d[t]!.isLt
    rw [greedy, hx, greedy_go hr h0 hs k (t + 1) _ (by omega) (by rw [List.length_set]; exact hl) (fun p hp => ?_) (fun p hp1 hp2 => ?_), List.range_succ_eq_map, List.map_cons, List.map_map]
    · refine congrArg (List.cons d[t]!.val) ?_
      refine List.map_congr_left fun p _ => ?_
      simp only [Function.comp]
      rw [show t + 1 + p = t + (p + 1) by omega]
    · rw [getD_set _ _ _ _ hlt]
      by_cases e : d[p]!.val = d[t]!.val
      · rw [if_pos e]
      · rw [if_neg e]
        by_cases c : p = t
        · subst c; exact absurd rfl e
        · exact h1 p (by omega)
    · rw [getD_set _ _ _ _ hlt, if_neg, h2 p (by omega) hp2]
      intro e
      exact (hs t p (Nat.zero_le _) (by omega) hp2).irrefl (Fin.ext e.symm)

theorem greedy_is {m : Nat} {r : List Int} (hr : r.length = m + 1) (h0 : ∀ i, i < m + 1 → 0 ≤ r.getD i 0) {d : Array (Fin (m + 1))} (hs : Srt (Bf r) 0 (m + 1) d) (k : Nat) (hk : k ≤ m + 1) : greedy k r = (List.range k).map (fun p => d[p]!.val) := by
  have := greedy_go hr h0 hs k 0 r (by omega) hr (fun p hp => by omega) (fun p _ _ => rfl)
  simpa using this

end Go.Proofs.Ytfccbbbejjdakaa
