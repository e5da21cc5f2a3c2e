/- A stable sort in plain words: blocks exchanged and turned, a block sorted by insertion, two sorted blocks made one. -/
import Derived.Sort.LotA
import Derived.Sort.WalkA
namespace Go.Proofs.Ytfccbbbejjdakaa
open Go.Sort Go.Proofs
variable {α : Type} [Inhabited α]

/-- d' is d but for the places from a up to b, and holds there what d holds there. -/
def Within (a b : Nat) (d d' : Array α) : Prop := d'.size = d.size ∧ (∀ i, i < d.size → i < a ∨ b ≤ i → d'[i]! = d[i]!) ∧ ∀ i, a ≤ i → i < b → ∃ j, a ≤ j ∧ j < b ∧ d'[i]! = d[j]!

theorem Within.refl (a b : Nat) (d : Array α) : Within a b d d := ⟨rfl, fun _ _ _ => rfl, fun i h1 h2 => ⟨i, h1, h2, rfl⟩⟩

theorem Within.trans {a b : Nat} {d d' d'' : Array α} (h : Within a b d d') (h' : Within a b d' d'') : Within a b d d'' := by
  refine ⟨h'.1.trans h.1, fun i hi ho => (h'.2.1 i (by rw [h.1]; exact hi) ho).trans (h.2.1 i hi ho), fun i h1 h2 => ?_⟩
  obtain ⟨j, j1, j2, e⟩ := h'.2.2 i h1 h2
  obtain ⟨k, k1, k2, e'⟩ := h.2.2 j j1 j2
  exact ⟨k, k1, k2, e.trans e'⟩

theorem Within.wider {a b a' b' : Nat} {d d' : Array α} (h : Within a b d d') (ha : a' ≤ a) (hb : b ≤ b') (hs : b' ≤ d.size) : Within a' b' d d' := by
  refine ⟨h.1, fun i hi ho => h.2.1 i hi (by omega), fun i h1 h2 => ?_⟩
  by_cases hc : a ≤ i ∧ i < b
  · obtain ⟨j, j1, j2, e⟩ := h.2.2 i hc.1 hc.2
    exact ⟨j, by omega, by omega, e⟩
  · exact ⟨i, h1, h2, h.2.1 i (by omega) (by omega)⟩

/-- Two blocks of n places have changed places. -/
def SwapB (a b n : Nat) (d d' : Array α) : Prop := d'.size = d.size ∧ ∀ i, i < d.size → d'[i]! = if a ≤ i ∧ i < a + n then d[b + (i - a)]! else if b ≤ i ∧ i < b + n then d[a + (i - b)]! else d[i]!

theorem SwapB.zero (a b : Nat) (d : Array α) : SwapB a b 0 d d := ⟨rfl, fun i _ => by rw [if_neg (by omega), if_neg (by omega)]⟩

theorem SwapB.step {a b n k : Nat} {d dk : Array α} (h : SwapB a b k d dk) (hk : k < n) (hab : a + n ≤ b) (hb : b + n ≤ d.size) : SwapB a b (k + 1) d (swp dk (a + k) (b + k)) := by
  refine ⟨by rw [size_swp]; exact h.1, fun i hi => ?_⟩
  rw [swp_get dk (by rw [h.1]; omega) (by rw [h.1]; omega)]
  by_cases c1 : i = b + k
  · rw [if_pos c1, h.2 _ (by omega), if_neg (by omega), if_neg (by omega), if_neg (by omega), if_pos (by omega)]; congr 1; omega
  · rw [if_neg c1]
    by_cases c2 : i = a + k
    · rw [if_pos c2, h.2 _ (by omega), if_neg (by omega), if_neg (by omega), if_pos (by omega)]; congr 1; omega
    · rw [if_neg c2, h.2 i hi]
      by_cases c3 : a ≤ i ∧ i < a + k
      · rw [if_pos c3, if_pos (by omega)]
      · rw [if_neg c3]
        by_cases c4 : b ≤ i ∧ i < b + k
        · rw [if_pos c4, if_neg (by omega), if_pos (by omega)]
        · rw [if_neg c4, if_neg (by omega), if_neg (by omega)]

/-- The places from a up to b are turned: those from m on stand first. -/
def RotB (a m b : Nat) (d d' : Array α) : Prop := d'.size = d.size ∧ ∀ i, i < d.size → d'[i]! = if a ≤ i ∧ i < a + (b - m) then d[m + (i - a)]! else if a + (b - m) ≤ i ∧ i < b then d[i - (b - m)]! else d[i]!

theorem RotB.none_ {a m b : Nat} (d : Array α) (h : a = m ∨ m = b) (h1 : a ≤ m) (h2 : m ≤ b) : RotB a m b d d := by
  refine ⟨rfl, fun i _ => ?_⟩
  by_cases c1 : a ≤ i ∧ i < a + (b - m)
  · rw [if_pos c1]; congr 1; omega
  · rw [if_neg c1]
    by_cases c2 : a + (b - m) ≤ i ∧ i < b
    · rw [if_pos c2]; congr 1; omega
    · rw [if_neg c2]

theorem RotB.same {m i : Nat} {d d' : Array α} (hi : i ≤ m) (h : SwapB (m - i) m i d d') : RotB (m - i) m (m + i) d d' := by
  refine ⟨h.1, fun k hk => ?_⟩
  rw [h.2 k hk]
  by_cases c1 : m - i ≤ k ∧ k < m - i + i
  · rw [if_pos c1, if_pos (by omega)]
  · rw [if_neg c1]
    by_cases c2 : m ≤ k ∧ k < m + i
    · rw [if_pos c2, if_neg (by omega), if_pos (by omega)]; congr 1; omega
    · rw [if_neg c2, if_neg (by omega), if_neg (by omega)]

theorem RotB.left {m i j : Nat} {d d1 d2 : Array α} (hi : i ≤ m) (hij : j < i) (hb : m + j ≤ d.size) (h1 : SwapB (m - i) m j d d1) (h2 : RotB (m - (i - j)) m (m + j) d1 d2) : RotB (m - i) m (m + j) d d2 := by
  refine ⟨h2.1.trans h1.1, fun k hk => ?_⟩
  rw [h2.2 k (by rw [h1.1]; exact hk)]
  by_cases c1 : m - (i - j) ≤ k ∧ k < m - (i - j) + (m + j - m)
  · rw [if_pos c1, h1.2 _ (by omega), if_neg (by omega), if_pos (by omega), if_neg (by omega), if_pos (by omega)]; congr 1; omega
  · rw [if_neg c1]
    by_cases c2 : m - (i - j) + (m + j - m) ≤ k ∧ k < m + j
    · rw [if_pos c2, if_neg (by omega), if_pos (by omega)]
      rw [h1.2 _ (by omega), if_neg (by omega), if_neg (by omega)]
    · rw [if_neg c2, h1.2 k hk]
      by_cases c3 : m - i ≤ k ∧ k < m - i + j
      · rw [if_pos c3, if_pos (by omega)]
      · rw [if_neg c3, if_neg (by omega), if_neg (by omega), if_neg (by omega)]

theorem RotB.right {m i j : Nat} {d d1 d2 : Array α} (hi : i ≤ m) (hij : i < j) (hb : m + j ≤ d.size) (h1 : SwapB (m - i) (m + j - i) i d d1) (h2 : RotB (m - i) m (m + (j - i)) d1 d2) : RotB (m - i) m (m + j) d d2 := by
  refine ⟨h2.1.trans h1.1, fun k hk => ?_⟩
  rw [h2.2 k (by rw [h1.1]; exact hk)]
  by_cases c1 : m - i ≤ k ∧ k < m - i + (m + (j - i) - m)
  · rw [if_pos c1, h1.2 _ (by omega), if_neg (by omega), if_neg (by omega), if_pos (by omega)]
  · rw [if_neg c1]
    by_cases c2 : m - i + (m + (j - i) - m) ≤ k ∧ k < m + (j - i)
    · rw [if_pos c2, if_pos (by omega), h1.2 _ (by omega), if_pos (by omega)]; congr 1; omega
    · rw [if_neg c2, h1.2 k hk]
      by_cases c3 : m + j - i ≤ k ∧ k < m + j - i + i
      · rw [if_neg (by omega), if_pos c3, if_neg (by omega), if_pos (by omega)]; congr 1; omega
      · rw [if_neg (by omega), if_neg c3, if_neg (by omega), if_neg (by omega)]

/-! ### An order that tells which of two comes first -/
structure Ord (B V : α → α → Prop) (lt : α → α → Bool) : Prop where
  tr : ∀ x y z, B x y → B y z → B x z
  yes : ∀ x y, V x y → lt y x = true → B y x
  no : ∀ x y, V x y → lt y x = false → B x y

def Srt (B : α → α → Prop) (a b : Nat) (d : Array α) : Prop := ∀ i j, a ≤ i → i < j → j < b → B d[i]! d[j]!
def Ahead (V : α → α → Prop) (a m b : Nat) (d : Array α) : Prop := ∀ i j, a ≤ i → i < m → m ≤ j → j < b → V d[i]! d[j]!

variable {B V : α → α → Prop} {lt : α → α → Bool}

theorem Srt.of_eq {a b : Nat} {d d' : Array α} (h : Srt B a b d) (e : ∀ i, a ≤ i → i < b → d'[i]! = d[i]!) : Srt B a b d' := fun i j h1 h2 h3 => by
  rw [e i h1 (by omega), e j (by omega) h3]; exact h i j h1 h2 h3

/-! ### The block sorted by insertion -/
structure InsI (B V : α → α → Prop) (a j i : Nat) (d dj : Array α) : Prop where
  win : Within a (i + 1) d dj
  rest : ∀ p q, a ≤ p → p < q → q ≤ i → p ≠ j → q ≠ j → B dj[p]! dj[q]!
  right : ∀ q, j < q → q ≤ i → B dj[j]! dj[q]!
  last : ∀ p, a ≤ p → p ≤ i → p ≠ j → V dj[p]! dj[j]!

theorem Within.swp_ {a b i j : Nat} {d : Array α} (hb : b ≤ d.size) (hi : a ≤ i ∧ i < b) (hj : a ≤ j ∧ j < b) : Within a b d (swp d i j) := by
  refine ⟨size_swp _ _ _, fun k hk ho => ?_, fun k h1 h2 => ?_⟩
  · rw [swp_get d (by omega) (by omega), if_neg (by omega), if_neg (by omega)]
  · rw [swp_get d (by omega) (by omega)]
    by_cases c1 : k = j
    · rw [if_pos c1]; exact ⟨i, hi.1, hi.2, rfl⟩
    · rw [if_neg c1]
      by_cases c2 : k = i
      · rw [if_pos c2]; exact ⟨j, hj.1, hj.2, rfl⟩
      · rw [if_neg c2]; exact ⟨k, h1, h2, rfl⟩

theorem InsI.step (O : Ord B V lt) {a j i : Nat} {d dj : Array α} (h : InsI B V a (j + 1) i d dj) (hj : a ≤ j) (hji : j + 1 ≤ i) (hi : i < d.size) (hl : lt dj[j + 1]! dj[j]! = true) : InsI B V a j i d (swp dj (j + 1) j) := by
  have hs := h.win.1
  have g := fun k => swp_get dj (i := j + 1) (j := j) (by omega) (by omega) k
  have b1 := O.yes _ _ (h.last j hj (by omega) (by omega)) hl
  refine ⟨h.win.trans (Within.swp_ (by omega) (by omega) (by omega)), fun p q hp hpq hq hpj hqj => ?_, fun q hjq hq => ?_, fun p hp hpi hpj => ?_⟩
  · rw [g, g, if_neg hpj, if_neg hqj]
    by_cases c1 : p = j + 1
    · rw [if_pos c1, if_neg (by omega)]; exact h.rest j q hj (by omega) hq (by omega) (by omega)
    · rw [if_neg c1]
      by_cases c2 : q = j + 1
      · rw [if_pos c2]; exact h.rest p j hp (by omega) (by omega) (by omega) (by omega)
      · rw [if_neg c2]; exact h.rest p q hp hpq hq c1 c2
  · rw [g, g, if_pos rfl, if_neg (by omega)]
    by_cases c1 : q = j + 1
    · rw [if_pos c1]; exact b1
    · rw [if_neg c1]; exact h.right q (by omega) hq
  · rw [g, g, if_neg hpj, if_pos rfl]
    by_cases c1 : p = j + 1
    · rw [if_pos c1]; exact h.last j hj (by omega) (by omega)
    · rw [if_neg c1]; exact h.last p hp hpi c1

theorem InsI.stop (O : Ord B V lt) {a j i : Nat} {d dj : Array α} (h : InsI B V a j i d dj) (haj : a ≤ j) (hji : j ≤ i) (hs : j = a ∨ lt dj[j]! dj[j - 1]! = false) : Srt B a (i + 1) dj := by
  intro p q hp hpq hq
  by_cases c1 : q = j
  · subst c1
    rcases hs with hs | hs
    · omega
    · have b1 := O.no _ _ (h.last (q - 1) (by omega) (by omega) (by omega)) hs
      by_cases c2 : p = q - 1
      · rw [c2]; exact b1
      · exact O.tr _ _ _ (h.rest p (q - 1) hp (by omega) (by omega) (by omega) (by omega)) b1
  · by_cases c2 : p = j
    · rw [c2]; exact h.right q (by omega) (by omega)
    · exact h.rest p q hp hpq (by omega) c2 c1

theorem insInner_ok (O : Ord B V lt) {a i : Nat} {d : Array α} (hi : i < d.size) : ∀ (j : Nat) (dj : Array α), a ≤ j → j ≤ i → InsI B V a j i d dj → Srt B a (i + 1) (insInner lt a j dj) ∧ Within a (i + 1) d (insInner lt a j dj) := by
  intro j
  induction j with
  | zero =>
    intro dj ha hj h
    rw [insInner_stop lt a 0 dj (Or.inl (by omega))]
    exact ⟨h.stop O ha hj (Or.inl (by omega)), h.win⟩
  | succ j ih =>
    intro dj ha hj h
    by_cases c : j + 1 = a
    · rw [insInner_stop lt a _ dj (Or.inl (by omega))]
      exact ⟨h.stop O ha hj (Or.inl c), h.win⟩
    · cases hl : lt dj[j + 1]! dj[j]! with
      | true =>
        rw [insInner_go lt a (j + 1) dj (by omega) hl]
        exact ih _ (by omega) (by omega) (h.step O (by omega) hj hi hl)
      | false =>
        rw [insInner_stop lt a (j + 1) dj (Or.inr hl)]
        exact ⟨h.stop O ha hj (Or.inr hl), h.win⟩

theorem insOuter_ok (O : Ord B V lt) {a b : Nat} {d : Array α} (hb : b ≤ d.size) (hV : ∀ i j, a ≤ i → i < j → j < b → V d[i]! d[j]!) : ∀ (n i : Nat) (dk : Array α), b - i = n → a ≤ i → i ≤ b → Srt B a i dk → Within a i d dk → Srt B a b (insOuter lt a b i dk) ∧ Within a b d (insOuter lt a b i dk) := by
  intro n
  induction n with
  | zero =>
    intro i dk hn ha hi hs hw
    obtain rfl : i = b := by omega
    rw [insOuter_stop lt a i i dk (by omega)]
    exact ⟨hs, hw⟩
  | succ n ih =>
    intro i dk hn ha hi hs hw
    rw [insOuter_go lt a b i dk (by omega)]
    have hI : InsI B V a i i dk dk := ⟨Within.refl _ _ _, fun p q hp hpq hq hpi hqi => hs p q hp hpq (by omega), fun q h1 h2 => by omega, fun p hp hpi hne => by
      obtain ⟨j, j1, j2, e⟩ := hw.2.2 p hp (by omega)
      rw [e, hw.2.1 i (by omega) (Or.inr (Nat.le_refl _))]
      exact hV j i j1 j2 (by omega)⟩
    have h := insInner_ok O (by rw [hw.1]; omega) i dk ha (Nat.le_refl _) hI
    exact ih (i + 1) _ (by omega) (by omega) (by omega) h.1 ((hw.wider (Nat.le_refl _) (by omega) (by omega)).trans h.2)

theorem insertion_ok (O : Ord B V lt) {a b : Nat} {d : Array α} (hab : a ≤ b) (hb : b ≤ d.size) (hV : ∀ i j, a ≤ i → i < j → j < b → V d[i]! d[j]!) : Srt B a b (insertionSort lt d a b) ∧ Within a b d (insertionSort lt d a b) := by
  unfold insertionSort
  by_cases c : a + 1 ≤ b
  · exact insOuter_ok O hb hV _ (a + 1) d rfl (by omega) c (fun i j h1 h2 h3 => by omega) (Within.refl _ _ _)
  · rw [insOuter_stop lt a b _ d (by omega)]
    exact ⟨fun i j h1 h2 h3 => by omega, Within.refl _ _ _⟩

/-! ### One element moved up or down among the others -/
def ShiftUp (a k : Nat) (d dk : Array α) : Prop := dk.size = d.size ∧ ∀ p, p < d.size → dk[p]! = if a ≤ p ∧ p < k then d[p + 1]! else if p = k then d[a]! else d[p]!
theorem ShiftUp.zero (a : Nat) (d : Array α) : ShiftUp a a d d := ⟨rfl, fun p _ => by
  rw [if_neg (by omega)]
  by_cases c : p = a
  · rw [if_pos c, c]
  · rw [if_neg c]⟩
theorem ShiftUp.step {a k : Nat} {d dk : Array α} (h : ShiftUp a k d dk) (ha : a ≤ k) (hk : k + 1 < d.size) : ShiftUp a (k + 1) d (swp dk k (k + 1)) := by
  refine ⟨(size_swp _ _ _).trans h.1, fun p hp => ?_⟩
  rw [swp_get dk (by rw [h.1]; omega) (by rw [h.1]; omega)]
  by_cases c1 : p = k + 1
  · rw [if_pos c1, h.2 _ (by omega), if_neg (by omega), if_pos rfl, if_neg (by omega), if_pos c1]
  · rw [if_neg c1]
    by_cases c2 : p = k
    · rw [if_pos c2, h.2 _ hk, if_neg (by omega), if_neg (by omega), if_pos (by omega), c2]
    · rw [if_neg c2, h.2 p hp]
      by_cases c3 : a ≤ p ∧ p < k
      · rw [if_pos c3, if_pos (by omega)]
      · rw [if_neg c3, if_neg c2, if_neg (by omega), if_neg c1]

def ShiftDn (k m : Nat) (d dk : Array α) : Prop := dk.size = d.size ∧ ∀ p, p < d.size → dk[p]! = if k < p ∧ p ≤ m then d[p - 1]! else if p = k then d[m]! else d[p]!
theorem ShiftDn.zero (m : Nat) (d : Array α) : ShiftDn m m d d := ⟨rfl, fun p _ => by
  rw [if_neg (by omega)]
  by_cases c : p = m
  · rw [if_pos c, c]
  · rw [if_neg c]⟩
theorem ShiftDn.step {k m : Nat} {d dk : Array α} (h : ShiftDn (k + 1) m d dk) (hm : k + 1 ≤ m) (hk : m < d.size) : ShiftDn k m d (swp dk (k + 1) k) := by
  refine ⟨(size_swp _ _ _).trans h.1, fun p hp => ?_⟩
  rw [swp_get dk (by rw [h.1]; omega) (by rw [h.1]; omega)]
  by_cases c1 : p = k
  · rw [if_pos c1, h.2 _ (by omega), if_neg (by omega), if_pos rfl, if_neg (by omega), if_pos c1]
  · rw [if_neg c1]
    by_cases c2 : p = k + 1
    · rw [if_pos c2, h.2 _ (by omega), if_neg (by omega), if_neg (by omega), if_pos (by omega)]; congr 1; omega
    · rw [if_neg c2, h.2 p hp]
      by_cases c3 : k + 1 < p ∧ p ≤ m
      · rw [if_pos c3, if_pos (by omega)]
      · rw [if_neg c3, if_neg c2, if_neg (by omega), if_neg c1]

theorem shiftUp_ok {a b i : Nat} {d dk : Array α} (hi : a + 1 ≤ i) (hib : i ≤ b) (hb : b ≤ d.size) (hs : Srt B (a + 1) b d) (hl : ∀ h, a + 1 ≤ h → h < i → B d[h]! d[a]!) (hr : ∀ h, i ≤ h → h < b → B d[a]! d[h]!) (h : ShiftUp a (i - 1) d dk) : Srt B a b dk ∧ Within a b d dk := by
  refine ⟨fun p q hp hpq hq => ?_, h.1, fun p hp ho => ?_, fun p h1 h2 => ?_⟩
  · rw [h.2 p (by omega), h.2 q (by omega)]
    by_cases c1 : a ≤ p ∧ p < i - 1
    · rw [if_pos c1]
      by_cases c2 : a ≤ q ∧ q < i - 1
      · rw [if_pos c2]; exact hs _ _ (by omega) (by omega) (by omega)
      · rw [if_neg c2]
        by_cases c3 : q = i - 1
        · rw [if_pos c3]; exact hl _ (by omega) (by omega)
        · rw [if_neg c3]; exact hs _ _ (by omega) (by omega) (by omega)
    · rw [if_neg c1]
      by_cases c3 : p = i - 1
      · rw [if_pos c3, if_neg (by omega), if_neg (by omega)]; exact hr _ (by omega) (by omega)
      · rw [if_neg c3, if_neg (by omega), if_neg (by omega)]; exact hs _ _ (by omega) (by omega) (by omega)
  · rw [h.2 p hp, if_neg (by omega), if_neg (by omega)]
  · rw [h.2 p (by omega)]
    by_cases c1 : a ≤ p ∧ p < i - 1
    · rw [if_pos c1]; exact ⟨p + 1, by omega, by omega, rfl⟩
    · rw [if_neg c1]
      by_cases c3 : p = i - 1
      · rw [if_pos c3]; exact ⟨a, by omega, by omega, rfl⟩
      · rw [if_neg c3]; exact ⟨p, h1, h2, rfl⟩

theorem shiftDn_ok {a m i : Nat} {d dk : Array α} (hi : a ≤ i) (him : i ≤ m) (hb : m + 1 ≤ d.size) (hs : Srt B a m d) (hl : ∀ h, a ≤ h → h < i → B d[h]! d[m]!) (hr : ∀ h, i ≤ h → h < m → B d[m]! d[h]!) (h : ShiftDn i m d dk) : Srt B a (m + 1) dk ∧ Within a (m + 1) d dk := by
  refine ⟨fun p q hp hpq hq => ?_, h.1, fun p hp ho => ?_, fun p h1 h2 => ?_⟩
  · rw [h.2 p (by omega), h.2 q (by omega)]
    by_cases c1 : i < q ∧ q ≤ m
    · rw [if_pos c1]
      by_cases c2 : i < p ∧ p ≤ m
      · rw [if_pos c2]; exact hs _ _ (by omega) (by omega) (by omega)
      · rw [if_neg c2]
        by_cases c3 : p = i
        · rw [if_pos c3]; exact hr _ (by omega) (by omega)
        · rw [if_neg c3]; exact hs _ _ (by omega) (by omega) (by omega)
    · rw [if_neg c1, if_neg (by omega), if_neg (show ¬ p = i by omega)]
      by_cases c3 : q = i
      · rw [if_pos c3]; exact hl _ (by omega) (by omega)
      · rw [if_neg c3]; exact hs _ _ (by omega) (by omega) (by omega)
  · rw [h.2 p hp, if_neg (by omega), if_neg (by omega)]
  · rw [h.2 p (by omega)]
    by_cases c1 : i < p ∧ p ≤ m
    · rw [if_pos c1]; exact ⟨p - 1, by omega, by omega, rfl⟩
    · rw [if_neg c1]
      by_cases c3 : p = i
      · rw [if_pos c3]; exact ⟨m, by omega, by omega, rfl⟩
      · rw [if_neg c3]; exact ⟨p, h1, h2, rfl⟩

/-! ### Two sorted blocks made one -/
/-- What the search in the middle finds: s on the left, e = mid + m - s on the right. -/
structure Cross (B : α → α → Prop) (a m b mid s : Nat) (d : Array α) : Prop where
  lo : a ≤ s
  hi : s ≤ m
  hmid : s ≤ mid
  he : mid + m ≤ s + b
  c1 : ∀ i j, a ≤ i → i < s → mid + m - s ≤ j → j < b → B d[i]! d[j]!
  c2 : ∀ i j, m ≤ i → i < mid + m - s → s ≤ j → j < m → B d[i]! d[j]!

theorem cross_of (O : Ord B V lt) {a m b mid lo r0 s : Nat} {d : Array α} (hmb : m < b) (hmid : mid = (a + b) / 2) (hlo : lo = if mid < m then mid + m - b else a) (hr0 : r0 = if mid < m then mid else m)
    (hsl : Srt B a m d) (hsr : Srt B m b d) (h1 : lo ≤ s) (h2 : s ≤ r0) (hl : ∀ c, lo ≤ c → c < s → B d[c]! d[mid + m - 1 - c]!) (hr : ∀ c, s ≤ c → c < r0 → B d[mid + m - 1 - c]! d[c]!) : Cross B a m b mid s d := by
  have hc : (mid < m ∧ lo = mid + m - b ∧ r0 = mid) ∨ (m ≤ mid ∧ lo = a ∧ r0 = m) := by
    by_cases c : mid < m
    · rw [if_pos c] at hlo hr0; exact Or.inl ⟨c, hlo, hr0⟩
    · rw [if_neg c] at hlo hr0; exact Or.inr ⟨by omega, hlo, hr0⟩
  refine ⟨by omega, by omega, by omega, by omega, fun i j i1 i2 j1 j2 => ?_, fun i j i1 i2 j1 j2 => ?_⟩
  · have q := hl (s - 1) (by omega) (by omega)
    have q1 : B d[i]! d[mid + m - 1 - (s - 1)]! := by
      by_cases c : i = s - 1
      · rw [c]; exact q
      · exact O.tr _ _ _ (hsl i (s - 1) i1 (by omega) (by omega)) q
    by_cases c : j = mid + m - 1 - (s - 1)
    · rw [c]; exact q1
    · exact O.tr _ _ _ q1 (hsr _ j (by omega) (by omega) j2)
  · have q := hr s (by omega) (by omega)
    have q1 : B d[mid + m - 1 - s]! d[j]! := by
      by_cases c : j = s
      · rw [c]; exact q
      · exact O.tr _ _ _ q (hsl s j (by omega) (by omega) j2)
    by_cases c : i = mid + m - 1 - s
    · rw [c]; exact q1
    · exact O.tr _ _ _ (hsr i _ i1 (by omega) (by omega)) q1

/-- One step of the search in the middle. -/
theorem search_go (O : Ord B V lt) {a m b mid lo r0 s c : Nat} {d : Array α} (hmid : mid = (a + b) / 2) (ham : a < m) (hmb : m < b) (hlo : lo = if mid < m then mid + m - b else a) (hr0 : r0 = if mid < m then mid else m)
    (hsl : Srt B a m d) (hsr : Srt B m b d) (hV : Ahead V a m b d) (h1 : lo ≤ s) (h2 : s ≤ c) (h3 : c < r0) (hn : lt d[mid + m - 1 - c]! d[c]! = false) : ∀ x, lo ≤ x → x < c + 1 → B d[x]! d[mid + m - 1 - x]! := by
  have hc : (mid < m ∧ lo = mid + m - b ∧ r0 = mid) ∨ (m ≤ mid ∧ lo = a ∧ r0 = m) := by
    by_cases c : mid < m
    · rw [if_pos c] at hlo hr0; exact Or.inl ⟨c, hlo, hr0⟩
    · rw [if_neg c] at hlo hr0; exact Or.inr ⟨by omega, hlo, hr0⟩
  have q := O.no _ _ (hV c (mid + m - 1 - c) (by omega) (by omega) (by omega) (by omega)) hn
  intro x x1 x2
  by_cases e : x = c
  · rw [e]; exact q
  · exact O.tr _ _ _ (hsl x c (by omega) (by omega) (by omega)) (O.tr _ _ _ q (hsr _ _ (by omega) (by omega) (by omega)))

theorem search_stop (O : Ord B V lt) {a m b mid lo r0 r c : Nat} {d : Array α} (hmid : mid = (a + b) / 2) (ham : a < m) (hmb : m < b) (hlo : lo = if mid < m then mid + m - b else a) (hr0 : r0 = if mid < m then mid else m)
    (hsl : Srt B a m d) (hsr : Srt B m b d) (hV : Ahead V a m b d) (h1 : lo ≤ c) (h2 : c < r) (h3 : r ≤ r0) (hn : lt d[mid + m - 1 - c]! d[c]! = true) : ∀ x, c ≤ x → x < r0 → B d[mid + m - 1 - x]! d[x]! := by
  have hc : (mid < m ∧ lo = mid + m - b ∧ r0 = mid) ∨ (m ≤ mid ∧ lo = a ∧ r0 = m) := by
    by_cases c : mid < m
    · rw [if_pos c] at hlo hr0; exact Or.inl ⟨c, hlo, hr0⟩
    · rw [if_neg c] at hlo hr0; exact Or.inr ⟨by omega, hlo, hr0⟩
  have q := O.yes _ _ (hV c (mid + m - 1 - c) (by omega) (by omega) (by omega) (by omega)) hn
  intro x x1 x2
  by_cases e : x = c
  · rw [e]; exact q
  · exact O.tr _ _ _ (O.tr _ _ _ (hsr _ _ (by omega) (by omega) (by omega)) q) (hsl c x (by omega) (by omega) (by omega))

/-- Behind the turn: what stands where. -/
theorem cross_split {a m b mid s : Nat} {d d1 : Array α} (C : Cross B a m b mid s d) (hmb : m < b) (hmid : mid = (a + b) / 2) (hb : b ≤ d.size) (hsl : Srt B a m d) (hsr : Srt B m b d) (hV : Ahead V a m b d) (hr : RotB s m (mid + m - s) d d1) :
    Srt B a s d1 ∧ Srt B s mid d1 ∧ Ahead V a s mid d1 ∧ Srt B mid (mid + m - s) d1 ∧ Srt B (mid + m - s) b d1 ∧ Ahead V mid (mid + m - s) b d1 ∧ (∀ i j, a ≤ i → i < mid → mid ≤ j → j < b → B d1[i]! d1[j]!) ∧ Within a b d d1 := by
  obtain ⟨k1, k2, k3, k4, c1, c2⟩ := C
  have p1 : ∀ i, a ≤ i → i < s → d1[i]! = d[i]! := fun i x1 x2 => by rw [hr.2 i (by omega), if_neg (by omega), if_neg (by omega)]
  have p2 : ∀ i, s ≤ i → i < mid → d1[i]! = d[m + (i - s)]! := fun i x1 x2 => by rw [hr.2 i (by omega), if_pos (by omega)]
  have p3 : ∀ i, mid ≤ i → i < mid + m - s → d1[i]! = d[i - (mid - s)]! := fun i x1 x2 => by rw [hr.2 i (by omega), if_neg (by omega), if_pos (by omega)]; congr 1; omega
  have p4 : ∀ i, mid + m - s ≤ i → i < b → d1[i]! = d[i]! := fun i x1 x2 => by rw [hr.2 i (by omega), if_neg (by omega), if_neg (by omega)]
  refine ⟨fun i j x1 x2 x3 => ?_, fun i j x1 x2 x3 => ?_, fun i j x1 x2 x3 x4 => ?_, fun i j x1 x2 x3 => ?_, fun i j x1 x2 x3 => ?_, fun i j x1 x2 x3 x4 => ?_, fun i j x1 x2 x3 x4 => ?_, hr.1, fun i x1 x2 => ?_, fun i x1 x2 => ?_⟩
  · rw [p1 i x1 (by omega), p1 j (by omega) x3]; exact hsl _ _ x1 x2 (by omega)
  · rw [p2 i x1 (by omega), p2 j (by omega) x3]; exact hsr _ _ (by omega) (by omega) (by omega)
  · rw [p1 i x1 x2, p2 j x3 x4]; exact hV _ _ x1 (by omega) (by omega) (by omega)
  · rw [p3 i x1 (by omega), p3 j (by omega) x3]; exact hsl _ _ (by omega) (by omega) (by omega)
  · rw [p4 i x1 (by omega), p4 j (by omega) x3]; exact hsr _ _ (by omega) (by omega) (by omega)
  · rw [p3 i x1 x2, p4 j x3 x4]; exact hV _ _ (by omega) (by omega) (by omega) (by omega)
  · by_cases e1 : i < s
    · rw [p1 i x1 e1]
      by_cases e2 : j < mid + m - s
      · rw [p3 j x3 e2]; exact hsl _ _ x1 (by omega) (by omega)
      · rw [p4 j (by omega) x4]; exact c1 _ _ x1 e1 (by omega) x4
    · rw [p2 i (by omega) x2]
      by_cases e2 : j < mid + m - s
      · rw [p3 j x3 e2]; exact c2 _ _ (by omega) (by omega) (by omega) (by omega)
      · rw [p4 j (by omega) x4]; exact hsr _ _ (by omega) (by omega) x4
  · rw [hr.2 i x1, if_neg (by omega), if_neg (by omega)]
  · by_cases e1 : i < s
    · exact ⟨i, x1, x2, p1 i x1 e1⟩
    · by_cases e2 : i < mid
      · exact ⟨_, by omega, by omega, p2 i (by omega) e2⟩
      · by_cases e3 : i < mid + m - s
        · exact ⟨_, by omega, by omega, p3 i (by omega) e3⟩
        · exact ⟨i, x1, x2, p4 i (by omega) x2⟩

theorem merge_join {a b mid : Nat} {d d1 d2 d3 : Array α} (ham : a ≤ mid) (hmb : mid ≤ b) (hb : b ≤ d.size) (hw : Within a b d d1) (hx : ∀ i j, a ≤ i → i < mid → mid ≤ j → j < b → B d1[i]! d1[j]!)
    (h2 : Srt B a mid d2 ∧ Within a mid d1 d2) (h3 : Srt B mid b d3 ∧ Within mid b d2 d3) : Srt B a b d3 ∧ Within a b d d3 := by
  have s1 := hw.1
  have s2 := h2.2.1
  refine ⟨fun i j x1 x2 x3 => ?_, (hw.trans (h2.2.wider (Nat.le_refl _) hmb (by omega))).trans (h3.2.wider ham (Nat.le_refl _) (by omega))⟩
  by_cases e2 : j < mid
  · rw [h3.2.2.1 i (by omega) (by omega), h3.2.2.1 j (by omega) (by omega)]; exact h2.1 i j x1 x2 e2
  · by_cases e1 : i < mid
    · rw [h3.2.2.1 i (by omega) (by omega)]
      obtain ⟨i', i1, i2, ei⟩ := h2.2.2.2 i x1 e1
      obtain ⟨j', j1, j2, ej⟩ := h3.2.2.2 j (by omega) x3
      rw [ei, ej, h2.2.2.1 j' (by omega) (by omega)]
      exact hx i' j' i1 i2 j1 j2
    · exact h3.1 i j (by omega) x2 x3

end Go.Proofs.Ytfccbbbejjdakaa
