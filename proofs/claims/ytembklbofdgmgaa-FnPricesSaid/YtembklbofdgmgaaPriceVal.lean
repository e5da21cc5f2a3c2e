/- The price at a minute, without places: the best row of those that hold; it changes only where a row begins or ends. -/
import Derived.Test.YtembklbofdgmgaaPAllx0
import Derived.Test.YtembklbofdgmgaaSteps
namespace Go.Proofs.Ytembklbofdgmgaa
open Go.RowKit Go.Proofs.Ytembklbofdgmgaa.PAll Go.Proofs.YtembklbofdgmgaaW.PrintWords Go.Proofs.YtembklbofdgmgaaW.PrintLast

def pickRow (a1 a2 : ByteArray) (m : Int) (b : Option S44) (x : S44) : Option S44 :=
  if fitsB a1 a2 m x = true then (match b with | none => some x | some y => if aheadB x y = true then some x else some y) else b
def foldRow (a1 a2 : ByteArray) (m : Int) : List S44 → Option S44 → Option S44
  | [], b => b
  | x :: xs, b => foldRow a1 a2 m xs (pickRow a1 a2 m b x)
def rowOf (l : List S44) (b : Int) : Option S44 := if b < 0 then none else some (rd_T44 l b)

theorem best_fold (l : List S44) (a1 a2 : ByteArray) (m : Int) : ∀ d i (b : Int), i + d = l.length → rowOf l (bestGo l a1 a2 m d i b) = foldRow a1 a2 m (l.drop i) (rowOf l b) := by
  intro d
  induction d with
  | zero =>
    intro i b hi
    rw [List.drop_eq_nil_of_le (by omega)]; rfl
  | succ d ih =>
    intro i b hi
    have hil : i < l.length := by omega
    rw [bestGo, ih (i + 1) _ (by omega), List.drop_eq_getElem_cons hil, foldRow]
    congr 1
    unfold taken pickRow rowOf
    rw [rdBPriceRow hil]
    cases hf : fitsB a1 a2 m l[i]
    · simp
    · by_cases hb : b < 0
      · simp [hb, show ¬ ((i : Int) < 0) by omega, rdBPriceRow hil]
      · rw [if_neg hb]
        cases ha : aheadB l[i] (rd_T44 l b)
        · simp [hb, ha]
        · simp [show ¬ ((i : Int) < 0) by omega, rdBPriceRow hil, ha]

/-- The row that counts at a minute. -/
def bestRow (l : List S44) (a1 a2 : ByteArray) (m : Int) : Option S44 := foldRow a1 a2 m l none

theorem rowOf_best (l : List S44) (a1 a2 : ByteArray) (m : Int) : rowOf l (bestAt l a1 a2 m) = bestRow l a1 a2 m := by
  have := best_fold l a1 a2 m l.length 0 (-1) (by omega)
  rw [List.drop_zero] at this
  exact this

theorem amt_best (l : List S44) (a1 a2 : ByteArray) (m : Int) : amtB l a1 a2 m = match bestRow l a1 a2 m with | none => -1 | some r => r.f5 := by
  rw [← rowOf_best]
  unfold amtB rowOf
  by_cases h : bestAt l a1 a2 m < 0
  · rw [if_pos h, if_pos h]
  · rw [if_neg h, if_neg h]

theorem best_none (l : List S44) (a1 a2 : ByteArray) (m : Int) : bestAt l a1 a2 m < 0 ↔ bestRow l a1 a2 m = none := by
  rw [← rowOf_best]
  unfold rowOf
  by_cases h : bestAt l a1 a2 m < 0
  · simp [h]
  · simp [h]

theorem fold_congr (a1 a2 : ByteArray) (m m' : Int) : ∀ (l : List S44) (b : Option S44), (∀ r ∈ l, fitsB a1 a2 m r = fitsB a1 a2 m' r) → foldRow a1 a2 m l b = foldRow a1 a2 m' l b
  | [], _, _ => rfl
  | x :: xs, b, h => by
    rw [foldRow, foldRow, fold_congr a1 a2 m m' xs _ (fun r hr => h r (List.mem_cons_of_mem _ hr))]
    unfold pickRow
    rw [h x List.mem_cons_self]

theorem fold_filter (a1 a2 : ByteArray) (m : Int) (p : S44 → Bool) : ∀ (l : List S44) (b : Option S44), (∀ r ∈ l, fitsB a1 a2 m r = true → p r = true) → foldRow a1 a2 m (l.filter p) b = foldRow a1 a2 m l b
  | [], _, _ => rfl
  | x :: xs, b, h => by
    have ih := fun b => fold_filter a1 a2 m p xs b (fun r hr => h r (List.mem_cons_of_mem _ hr))
    rw [foldRow, List.filter_cons]
    by_cases hp : p x = true
    · rw [if_pos hp, foldRow, ih]
    · rw [if_neg hp, ih]
      have : fitsB a1 a2 m x = false := by
        cases hf : fitsB a1 a2 m x
        · rfl
        · exact absurd (h x List.mem_cons_self hf) hp
      unfold pickRow
      rw [this]; rfl

/-- Where no row begins or ends nothing changes. -/
theorem amt_same (l : List S44) (a1 a2 : ByteArray) (m : Int) (h : ∀ r ∈ l, r.f3 ≠ m ∧ r.f4 ≠ m) : amtB l a1 a2 m = amtB l a1 a2 (m - 1) := by
  rw [amt_best, amt_best]
  unfold bestRow
  rw [fold_congr a1 a2 m (m - 1) l none (fun r hr => by
    have := h r hr
    unfold fitsB
    have e : decide (r.f3 ≤ m ∧ m < r.f4) = decide (r.f3 ≤ m - 1 ∧ m - 1 < r.f4) := by
      by_cases q : r.f3 ≤ m ∧ m < r.f4
      · rw [decide_eq_true q, decide_eq_true (by omega)]
      · rw [decide_eq_false q, decide_eq_false (by omega)]
    rw [e])]

/-! ## The steps read back -/

/-- The amount of the last step up to a minute. -/
def valB : List S40 → Int → Int → Int
  | [], _, d => d
  | s :: ss, m, d => if s.f0 ≤ m then valB ss m s.f1 else d

theorem walk_mem (A : Int → Int) : ∀ (l : List Int) (a : Option Int), ∀ s ∈ walkB A l a, s.f0 ∈ l ∧ s.f1 = A s.f0
  | [], _, s, h => by rw [walkB] at h; cases h
  | m :: ms, a, s, h => by
    rw [walkB] at h
    by_cases e : a = some (A m)
    · rw [if_pos e] at h
      have := walk_mem A ms a s h
      exact ⟨List.mem_cons_of_mem _ this.1, this.2⟩
    · rw [if_neg e] at h
      rcases List.mem_cons.1 h with g | g
      · rw [g]; exact ⟨List.mem_cons_self, rfl⟩
      · have := walk_mem A ms _ s g
        exact ⟨List.mem_cons_of_mem _ this.1, this.2⟩

theorem val_before (ss : List S40) (m d : Int) (h : ∀ s ∈ ss, m < s.f0) : valB ss m d = d := by
  cases ss with
  | nil => rfl
  | cons s ss => rw [valB, if_neg (by have := h s List.mem_cons_self; omega)]

theorem walk_asc (A : Int → Int) : ∀ (l : List Int) (a : Option Int), l.Pairwise (· < ·) → (walkB A l a).Pairwise (fun x y => x.f0 < y.f0)
  | [], _, _ => by rw [walkB]; exact List.Pairwise.nil
  | m :: ms, a, h => by
    rw [List.pairwise_cons] at h
    rw [walkB]
    by_cases e : a = some (A m)
    · rw [if_pos e]; exact walk_asc A ms a h.2
    · rw [if_neg e, List.pairwise_cons]
      exact ⟨fun s hs => h.1 _ (walk_mem A ms _ s hs).1, walk_asc A ms _ h.2⟩

theorem walk_val (A : Int → Int) : ∀ (l : List Int) (a : Option Int) (d : Int), l.Pairwise (· < ·) → (a = none ∨ a = some d) → ∀ m ∈ l, valB (walkB A l a) m d = A m
  | [], _, _, _, _, m, hm => by cases hm
  | x :: xs, a, d, h, ha, m, hm => by
    rw [List.pairwise_cons] at h
    rw [walkB]
    by_cases e : a = some (A x)
    · rw [if_pos e]
      rcases List.mem_cons.1 hm with g | g
      · subst g
        rw [val_before _ _ _ (fun s hs => h.1 _ (walk_mem A xs _ s hs).1)]
        rcases ha with q | q
        · rw [q] at e; cases e
        · rw [q] at e; injection e
      · exact walk_val A xs a d h.2 ha m g
    · rw [if_neg e, valB]
      rcases List.mem_cons.1 hm with g | g
      · subst g
        rw [if_pos (Int.le_refl _), val_before _ _ _ (fun s hs => h.1 _ (walk_mem A xs _ s hs).1)]
      · have := h.1 m g
        rw [if_pos (show x ≤ m by omega)]
        exact walk_val A xs (some (A x)) (A x) h.2 (.inr rfl) m g

/-- Of two steps one behind the other the amounts differ. -/
def ChainB (a : Option Int) : List S40 → Prop
  | [] => True
  | s :: ss => a ≠ some s.f1 ∧ ChainB (some s.f1) ss

theorem walk_chain (A : Int → Int) : ∀ (l : List Int) (a : Option Int), ChainB a (walkB A l a)
  | [], _ => by rw [walkB]; trivial
  | m :: ms, a => by
    rw [walkB]
    by_cases e : a = some (A m)
    · rw [if_pos e]; exact walk_chain A ms a
    · rw [if_neg e]; exact ⟨e, walk_chain A ms _⟩

/-- At each minute the last step tells the amount. -/
theorem steps_val (l : List S44) (a1 a2 : ByteArray) (f t : Int) : ∀ (n : Nat) (d : Int), f + n < t → valB (stepsB l a1 a2 f t) (f + n) d = amtB l a1 a2 (f + n) := by
  intro n
  have hasc := sorted_asc f t l
  induction n with
  | zero =>
    intro d h
    rw [show f + ((0 : Nat) : Int) = f by omega]
    exact walk_val _ _ none d hasc (.inl rfl) f ((sorted_mem f t l f).2 (.inl rfl))
  | succ n ih =>
    intro d h
    by_cases hm : f + ((n + 1 : Nat) : Int) ∈ sortedB f t l
    · exact walk_val _ _ none d hasc (.inl rfl) _ hm
    · have hr : ∀ r ∈ l, r.f3 ≠ f + ((n + 1 : Nat) : Int) ∧ r.f4 ≠ f + ((n + 1 : Nat) : Int) := fun r hr =>
        ⟨fun e => hm ((sorted_mem f t l _).2 (.inr ⟨by omega, r, hr, .inl e.symm⟩)), fun e => hm ((sorted_mem f t l _).2 (.inr ⟨by omega, r, hr, .inr e.symm⟩))⟩
      rw [amt_same l a1 a2 _ hr, show f + ((n + 1 : Nat) : Int) - 1 = f + (n : Int) by omega, ← ih d (by omega)]
      have hne : ∀ s ∈ stepsB l a1 a2 f t, s.f0 ≠ f + ((n + 1 : Nat) : Int) := fun s hs e => hm (by rw [← e]; exact (walk_mem _ _ _ s hs).1)
      have key : ∀ (ss : List S40) (d : Int), (∀ s ∈ ss, s.f0 ≠ f + ((n + 1 : Nat) : Int)) → valB ss (f + ((n + 1 : Nat) : Int)) d = valB ss (f + (n : Int)) d := by
        intro ss
        induction ss with
        | nil => intro d _; rfl
        | cons s ss ihs =>
          intro d hs
          have h0 := hs s List.mem_cons_self
          rw [valB, valB]
          by_cases q : s.f0 ≤ f + (n : Int)
          · rw [if_pos q, if_pos (by omega), ihs _ (fun x hx => hs x (List.mem_cons_of_mem _ hx))]
          · rw [if_neg q, if_neg (by omega)]
      exact key _ d hne

end Go.Proofs.Ytembklbofdgmgaa
