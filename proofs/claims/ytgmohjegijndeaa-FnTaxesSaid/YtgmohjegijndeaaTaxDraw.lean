/- Drawn rows of a book of taxes are right and have a rate for each class up to 3 on each day up to 199; the drawn lines and the drawn day are in range. -/
import Derived.Test.YtgmohjegijndeaaPAllx0
import Derived.Test.YtgmohjegijndeaaPAllx10
import Derived.Test.YtgmohjegijndeaaTaxBook
import Derived.Test.YtgmohjegijndeaaSrc
namespace Go.Proofs.Ytgmohjegijndeaa
open Go.RowKit Go.Proofs.Ytgmohjegijndeaa.PAll Go.Proofs.YtgmohjegijndeaaW.PrintWords Go.Proofs.YtgmohjegijndeaaW.PrintLast

theorem size1_ok {l : List Int} {i s : Int} (n : Int) (h : SrcOK l i s) (h0 : 1 ≤ n) (h1 : n ≤ 1000000) : ∃ r, spec_l00Src_size.f l i s n = some (r, i, s) ∧ 1 ≤ r ∧ r ≤ n := by
  have hl := h.len
  unfold spec_l00Src_size.f
  rw [w64 (x := (l.length : Int) / 12) (by omega) (by omega), w64 (x := 1 + (l.length : Int) / 12) (by omega) (by omega)]
  refine ⟨_, rfl, ?_⟩
  unfold mn
  split <;> omega

theorem place1_ok {l : List Int} {i s : Int} (h : SrcOK l i s) (hi : i ≤ 999999999990) : ∃ r i' s', spec_l00Src_place.f l i s = some (r, i', s') ∧ i ≤ i' ∧ i' ≤ i + 3 ∧ SrcOK l i' s' := by
  obtain ⟨r, i1, s1, e, a0, a1, _, g, g', h1⟩ := next_ok 5 h hi (by omega)
  have a2 := a1 (by omega)
  unfold spec_l00Src_place.f spec_l00Src_pick.f
  rw [if_neg (by simp only [List.length_cons, List.length_nil]; omega)]
  simp only [List.length_cons, List.length_nil, Nat.zero_add, Nat.reduceAdd, Int.cast_ofNat_Int]
  rw [e]
  simp only [Option.bind_some]
  rw [if_pos a0, if_pos a2]
  exact ⟨_, i1, s1, rfl, g, g', h1⟩

theorem taxRows_loop (l : List Int) : ∀ (d : Nat) (x : List S66) (c i s : Int), c ≤ d → x.length + d ≤ 30 → taxesB x = true → SrcOK l i s → i + 20 * d ≤ 1000000 →
    ∃ y i' s', (∀ k, d + 4400 < k → spec_l00Src_taxRows.l0 k x c l i s = some (y, i', s')) ∧ taxesB y = true ∧ y.length ≤ x.length + d ∧ i ≤ i' ∧ i' ≤ i + 20 * d ∧ SrcOK l i' s' := by
  intro d
  induction d with
  | zero =>
    intro x c i s hc hx ht h hi
    refine ⟨x, i, s, fun k hk => ?_, ht, by omega, by omega, by omega, h⟩
    obtain ⟨k, rfl⟩ : ∃ m, k = m + 1 := ⟨k - 1, by omega⟩
    rw [spec_l00Src_taxRows.l0, if_neg (by omega)]
  | succ d ih =>
    intro x c i s hc hx ht h hi
    by_cases hz : c > 0
    · obtain ⟨r1, i1, s1, e1, a0, a1, _, g1, g1', h1⟩ := next_ok 40 h (by omega) (by omega)
      obtain ⟨r2, i2, s2, e2, b0, b1, _, g2, g2', h2⟩ := next_ok 3 h1 (by omega) (by omega)
      obtain ⟨p, i3, s3, e3, g3, g3', h3⟩ := place1_ok h2 (by omega)
      obtain ⟨r4, i4, s4, e4, c0, c1, _, g4, g4', h4⟩ := next_ok 60 h3 (by omega) (by omega)
      obtain ⟨r5, i5, s5, e5, d0, d1, _, g5, g5', h5⟩ := next_ok 30 h4 (by omega) (by omega)
      have go : ∀ k, d + 4400 < k → ∀ R, (x.length < 2513169434916) → spec_l00Src_taxRows.l0 (k + 1) x c l i s = R → True := fun _ _ _ _ _ => trivial
      clear go
      generalize hr : (⟨wrap64 (1 + r2), p, r1, wrap64 ((wrap64 (r1 + 1)) + r4), (⟨r5, 100⟩ : S49)⟩ : S66) = row
      by_cases hg : taxesB (x ++ [row]) = true
      · obtain ⟨y, i', s', hy, k1, k2, k3, k4, k5⟩ := ih (x ++ [row]) (wrap64 (c - 1)) i5 s5 (by rw [w64 (by omega) (by omega)]; omega) (by rw [List.length_append]; simp only [List.length_cons, List.length_nil]; omega) hg h5 (by omega)
        rw [List.length_append] at k2
        simp only [List.length_cons, List.length_nil] at k2
        refine ⟨y, i', s', fun k hk => ?_, k1, by omega, by omega, by omega, k5⟩
        obtain ⟨k, rfl⟩ : ∃ m, k = m + 1 := ⟨k - 1, by omega⟩
        rw [spec_l00Src_taxRows.l0, if_pos hz, e1]
        simp only [Option.bind_some]
        rw [e2]
        simp only [Option.bind_some]
        rw [e3]
        simp only [Option.bind_some]
        rw [e4]
        simp only [Option.bind_some]
        rw [e5]
        simp only [Option.bind_some, hr, List.nil_append]
        rw [if_pos (by simp only [List.length_nil]; omega), if_pos (by simp only [List.length_cons, List.length_nil]; omega), specTaxes_is _ k (by omega)]
        simp only [Option.bind_some]
        rw [if_pos hg, if_pos (by simp only [List.length_cons, List.length_nil]; omega)]
        exact hy k (by omega)
      · obtain ⟨y, i', s', hy, k1, k2, k3, k4, k5⟩ := ih x (wrap64 (c - 1)) i5 s5 (by rw [w64 (by omega) (by omega)]; omega) (by omega) ht h5 (by omega)
        refine ⟨y, i', s', fun k hk => ?_, k1, by omega, by omega, by omega, k5⟩
        obtain ⟨k, rfl⟩ : ∃ m, k = m + 1 := ⟨k - 1, by omega⟩
        rw [spec_l00Src_taxRows.l0, if_pos hz, e1]
        simp only [Option.bind_some]
        rw [e2]
        simp only [Option.bind_some]
        rw [e3]
        simp only [Option.bind_some]
        rw [e4]
        simp only [Option.bind_some]
        rw [e5]
        simp only [Option.bind_some, hr, List.nil_append]
        rw [if_pos (by simp only [List.length_nil]; omega), if_pos (by simp only [List.length_cons, List.length_nil]; omega), specTaxes_is _ k (by omega)]
        simp only [Option.bind_some]
        rw [if_neg hg]
        exact hy k (by omega)
    · obtain ⟨y, i', s', hy, k1, k2, k3, k4, k5⟩ := ih x c i s (by omega) (by omega) ht h (by omega)
      exact ⟨y, i', s', fun k hk => hy k (by omega), k1, by omega, by omega, by omega, k5⟩

theorem taxRows_ok {l : List Int} {i s : Int} (h : SrcOK l i s) (hi : i ≤ 1000) : ∃ y i' s', (∀ k, 4500 ≤ k → spec_l00Src_taxRows.f k l i s = some (y, i', s')) ∧ taxesB y = true ∧ y.length ≤ 9 ∧ i' ≤ 2000 ∧ SrcOK l i' s' := by
  obtain ⟨c, e, c0, c1⟩ := size1_ok 8 h (by omega) (by omega)
  obtain ⟨r, i1, s1, e1, a0, a1, _, g1, g1', h1⟩ := next_ok (c + 2) h (by omega) (by omega)
  have a2 := a1 (by omega)
  obtain ⟨y, i', s', hy, k1, k2, k3, k4, k5⟩ := taxRows_loop l 9 [] r i1 s1 (by omega) (by simp) (by rfl) h1 (by omega)
  simp only [List.length_nil] at k2
  refine ⟨y, i', s', fun k hk => ?_, k1, by omega, by omega, k5⟩
  unfold spec_l00Src_taxRows.f
  rw [e]
  simp only [Option.bind_some]
  rw [w64 (x := c + 2) (by omega) (by omega), e1]
  simp only [Option.bind_some]
  exact hy k (by omega)

/-! ## The gaps of the classes -/

theorem noBytes : (⟨#[]⟩ : ByteArray).toList = [] := by decide +kernel

/-- A row of a class holds everywhere on a day. -/
def cov (l : List S66) (c d : Int) : Bool := l.any (fitT c ⟨#[]⟩ d)

theorem firstAt_any {α : Type} (q : α → Bool) : ∀ (l : List α) (i : Int), 0 ≤ i → (firstAt q l i ≥ 0 ↔ l.any q = true)
  | [], _, _ => by simp [firstAt]
  | x :: xs, i, h => by
    rw [firstAt, List.any_cons]
    cases g : q x
    · rw [if_neg (by decide), firstAt_any q xs (i + 1) (by omega)]; simp
    · rw [if_pos rfl]; simpa using h

theorem taxGo_snoc (rows : List S66) (r : S66) : ∀ (l : List S66) (i : Nat), i + l.length = rows.length → taxGo (rows ++ [r]) (l ++ [r]) i = (taxGo rows l i && (taxB r && !(rows.any (meetB r))))
  | [], i, h => by
    simp only [List.length_nil, Nat.add_zero] at h
    subst h
    rw [List.nil_append, taxGo, taxGo, taxGo, List.take_left]
    simp
  | x :: xs, i, h => by
    simp only [List.length_cons] at h
    rw [List.cons_append, taxGo, taxGo, taxGo_snoc rows r xs (i + 1) (by omega), List.take_append_of_le_length (by omega)]
    cases taxB x <;> cases (rows.take i).any (meetB x) <;> simp

theorem taxesB_len {l : List S66} (h : taxesB l = true) : l.length ≤ 60 ∧ taxGo l l 0 = true := by
  unfold taxesB at h; simpa using h

theorem taxesB_snoc {l : List S66} {r : S66} (h : taxesB l = true) (hl : l.length < 60) (hr : taxB r = true) (hm : ∀ x ∈ l, meetB r x = false) : taxesB (l ++ [r]) = true := by
  have hg := (taxesB_len h).2
  unfold taxesB
  rw [taxGo_snoc l r l 0 (by omega), hg, hr, List.length_append]
  have : l.any (meetB r) = false := by
    rw [List.any_eq_false]; intro x hx; rw [hm x hx]; decide
  rw [this]
  simp only [List.length_cons, List.length_nil]
  rw [decide_eq_true (by omega)]; rfl

theorem countP_lt {α : Type} (p q : α → Bool) (x : α) (hp : p x = false) (hq : q x = true) : ∀ (l : List α), x ∈ l → (∀ y ∈ l, p y = true → q y = true) → l.countP p + 1 ≤ l.countP q
  | [], h, _ => by cases h
  | y :: ys, h, hh => by
    rw [List.countP_cons, List.countP_cons]
    have hm : ys.countP p ≤ ys.countP q := List.countP_mono_left (fun z hz => hh z (List.mem_cons_of_mem _ hz))
    rcases List.mem_cons.1 h with e | e
    · subst e
      rw [hp, hq]; simp; omega
    · have := countP_lt p q x hp hq ys e (fun z hz => hh z (List.mem_cons_of_mem _ hz))
      have h1 := hh y List.mem_cons_self
      cases g : p y
      · simp; split <;> omega
      · rw [h1 g]; simp; omega

/-- The rows that are still ahead. -/
def ahead (c d : Int) (q : S66) : Bool := decide (q.f0 > c) || (decide (q.f0 = c) && decide (q.f3 > d))
def pot (l : List S66) (c d : Int) : Nat := l.countP (ahead c d)

theorem pot_mono (l : List S66) (c d d' : Int) (h : d ≤ d') : pot l c d' ≤ pot l c d := by
  refine List.countP_mono_left (fun q _ hq => ?_)
  unfold ahead at *
  simp only [Bool.or_eq_true, Bool.and_eq_true, decide_eq_true_eq] at *
  omega

theorem pot_next (l : List S66) (c d : Int) : pot l (c + 1) 0 ≤ pot l c d := by
  refine List.countP_mono_left (fun q _ hq => ?_)
  unfold ahead at *
  simp only [Bool.or_eq_true, Bool.and_eq_true, decide_eq_true_eq] at *
  omega

theorem cov_mem {l : List S66} {c d : Int} : cov l c d = true ↔ ∃ q ∈ l, q.f0 = c ∧ q.f1.toList = [] ∧ q.f2 ≤ d ∧ d < q.f3 := by
  unfold cov fitT
  rw [List.any_eq_true]
  simp only [Bool.and_eq_true, decide_eq_true_eq, noBytes]

theorem cov_snoc {l : List S66} {r : S66} {c d : Int} (h : cov l c d = true) : cov (l ++ [r]) c d = true := by
  unfold cov at *; rw [List.any_append, h]; rfl

theorem pot_drop (l : List S66) (c d d' : Int) (h : d < d') (hc : cov l c d = true) (hn : cov l c d' = false) : pot l c d' + 1 ≤ pot l c d := by
  obtain ⟨q, hq, q0, q1, q2, q3⟩ := cov_mem.1 hc
  have hq3 : q.f3 ≤ d' := by
    rcases Int.lt_or_le d' q.f3 with g | g
    · have : cov l c d' = true := cov_mem.2 ⟨q, hq, q0, q1, by omega, g⟩
      rw [hn] at this; cases this
    · exact g
  refine countP_lt _ _ q ?_ ?_ l hq (fun y _ hy => ?_)
  · unfold ahead; rw [decide_eq_false (show ¬ (q.f0 > c) by omega), decide_eq_false (show ¬ (q.f3 > d') by omega)]; simp
  · unfold ahead; rw [decide_eq_true q0, decide_eq_true q3]; simp
  · unfold ahead at *
    simp only [Bool.or_eq_true, Bool.and_eq_true, decide_eq_true_eq] at *
    omega

def goodLine (x : S45) : Prop := (1 ≤ x.f0 ∧ x.f0 ≤ 3) ∧ (-800 ≤ x.f1 ∧ x.f1 ≤ 4199)

/-- What is drawn: right rows with a rate for each class up to 3 on each day up to 199; lines in range; a day. -/
structure Drawn (r : List S66 × List S45 × Int) : Prop where
  rows : taxesB r.1 = true
  full : ∀ c d, 1 ≤ c → c ≤ 3 → 0 ≤ d → d < 200 → cov r.1 c d = true
  few : r.2.1.length ≤ 12
  line : ∀ x ∈ r.2.1, goodLine x
  day0 : 0 ≤ r.2.2
  day1 : r.2.2 < 200

def Ends (f : Nat → Option (List S66 × List S45 × Int)) : Prop := ∃ K r, Drawn r ∧ ∀ k, K ≤ k → f k = some r

theorem Ends.step {f g : Nat → Option (List S66 × List S45 × Int)} (K0 : Nat) (h : ∀ k, K0 ≤ k → f (k + 1) = g k) (hg : Ends g) : Ends f := by
  obtain ⟨K, r, hr, hk⟩ := hg
  refine ⟨max K0 K + 1, r, hr, fun k hk' => ?_⟩
  obtain ⟨k, rfl⟩ : ∃ m, k = m + 1 := ⟨k - 1, by omega⟩
  rw [h k (by omega)]; exact hk k (by omega)

theorem lines_loop (l : List Int) (rows : List S66) : ∀ (d : Nat) (x : List S45) (c i s : Int), c ≤ d → x.length + d ≤ 100 → (∀ y ∈ x, goodLine y) → SrcOK l i s → i + 20 * d ≤ 1000000 →
    ∃ y day, (∀ k, d < k → spec_TaxesOf.l3 k rows x c l i s = some (rows, y, day)) ∧ y.length ≤ x.length + d ∧ (∀ z ∈ y, goodLine z) ∧ 0 ≤ day ∧ day < 200 := by
  intro d
  induction d with
  | zero =>
    intro x c i s hc hx ht h hi
    obtain ⟨r, i1, s1, e, a0, a1, _, g, g', h1⟩ := next_ok 200 h (by omega) (by omega)
    refine ⟨x, r, fun k hk => ?_, by omega, ht, a0, a1 (by omega)⟩
    obtain ⟨k, rfl⟩ : ∃ m, k = m + 1 := ⟨k - 1, by omega⟩
    rw [spec_TaxesOf.l3, if_neg (by omega), e]
    rfl
  | succ d ih =>
    intro x c i s hc hx ht h hi
    by_cases hz : c > 0
    · obtain ⟨r1, i1, s1, e1, a0, a1, _, g1, g1', h1⟩ := next_ok 3 h (by omega) (by omega)
      obtain ⟨r2, i2, s2, e2, b0, b1, _, g2, g2', h2⟩ := next_ok 5000 h1 (by omega) (by omega)
      have a2 := a1 (by omega)
      have b2 := b1 (by omega)
      obtain ⟨y, day, hy, k1, k2, k3, k4⟩ := ih (x ++ [(⟨wrap64 (1 + r1), wrap64 (r2 - 800)⟩ : S45)]) (wrap64 (c - 1)) i2 s2 (by rw [w64 (by omega) (by omega)]; omega) (by rw [List.length_append]; simp only [List.length_cons, List.length_nil]; omega)
        (fun z hz => by
          rcases List.mem_append.1 hz with g | g
          · exact ht z g
          · rw [List.mem_singleton.1 g]; unfold goodLine; simp only; rw [w64 (by omega) (by omega), w64 (by omega) (by omega)]; omega) h2 (by omega)
      rw [List.length_append] at k1
      simp only [List.length_cons, List.length_nil] at k1
      refine ⟨y, day, fun k hk => ?_, by omega, k2, k3, k4⟩
      obtain ⟨k, rfl⟩ : ∃ m, k = m + 1 := ⟨k - 1, by omega⟩
      rw [spec_TaxesOf.l3, if_pos hz, e1]
      simp only [Option.bind_some]
      rw [e2]
      simp only [Option.bind_some]
      rw [if_pos (by omega)]
      exact hy k (by omega)
    · obtain ⟨y, day, hy, k1, k2, k3, k4⟩ := ih x c i s (by omega) (by omega) ht h (by omega)
      exact ⟨y, day, fun k hk => hy k (by omega), by omega, k2, k3, k4⟩

/-- Behind the classes. -/
theorem last_ends {l : List Int} {i s : Int} (h : SrcOK l i s) (hi : i ≤ 2000) (rows : List S66) (ht : taxesB rows = true) (c : Int) (hc : c > 3) (hf : ∀ c d, 1 ≤ c → c ≤ 3 → 0 ≤ d → d < 200 → cov rows c d = true) :
    Ends (fun k => spec_TaxesOf.l0 k rows c l i s) := by
  obtain ⟨n, e, c0, c1⟩ := size1_ok 12 h (by omega) (by omega)
  obtain ⟨r, i1, s1, e1, a0, a1, _, g1, g1', h1⟩ := next_ok (n + 1) h (by omega) (by omega)
  have a2 := a1 (by omega)
  obtain ⟨y, day, hy, k1, k2, k3, k4⟩ := lines_loop l rows 12 [] r i1 s1 (by omega) (by simp) (fun y hy => by cases hy) h1 (by omega)
  refine ⟨14, (rows, y, day), ⟨ht, hf, by simpa using k1, k2, k3, k4⟩, fun k hk => ?_⟩
  obtain ⟨k, rfl⟩ : ∃ m, k = m + 1 := ⟨k - 1, by omega⟩
  show spec_TaxesOf.l0 (k + 1) rows c l i s = _
  rw [spec_TaxesOf.l0, if_neg (by omega), e]
  simp only [Option.bind_some]
  rw [w64 (x := n + 1) (by omega) (by omega), e1]
  simp only [Option.bind_some]
  exact hy k (by omega)

/-- The inner loop goes on to the first day that is not covered. -/
theorem l2_ends (l : List Int) (i s : Int) (rows : List S66) (hl : rows.length ≤ 60) (c : Int) : ∀ (n : Nat) (d : Int), 0 ≤ d → d + n = 200 →
    ∃ d', d ≤ d' ∧ d' ≤ 200 ∧ (∀ e, d ≤ e → e < d' → cov rows c e = true) ∧ (d' = 200 ∨ cov rows c d' = false) ∧
      (Ends (fun k => spec_TaxesOf.l1 k rows c d' (d' + 1) l i s) → Ends (fun k => spec_TaxesOf.l2 k rows c d l i s)) := by
  intro n
  induction n with
  | zero =>
    intro d h0 h1
    refine ⟨d, by omega, by omega, fun e h h' => by omega, .inl (by omega), fun H => ?_⟩
    refine Ends.step 0 (fun k _ => ?_) H
    show spec_TaxesOf.l2 (k + 1) rows c d l i s = _
    rw [spec_TaxesOf.l2, if_neg (by omega), w64 (x := d + 1) (by omega) (by omega)]
  | succ n ih =>
    intro d h0 h1
    have hfa := firstAt_any (fitT c ⟨#[]⟩ d) rows 0 (by omega)
    cases hc : cov rows c d
    · refine ⟨d, by omega, by omega, fun e h h' => by omega, .inr hc, fun H => ?_⟩
      refine Ends.step 61 (fun k hk => ?_) H
      show spec_TaxesOf.l2 (k + 1) rows c d l i s = _
      rw [spec_TaxesOf.l2, if_pos (by omega), specRow_is rows c _ d hl k hk]
      simp only [Option.bind_some]
      rw [if_neg (fun hh => by have := hfa.1 hh; unfold cov at hc; rw [hc] at this; cases this), w64 (x := d + 1) (by omega) (by omega)]
    · obtain ⟨d', g1, g2, g3, g4, g5⟩ := ih (d + 1) (by omega) (by omega)
      refine ⟨d', by omega, g2, fun e h h' => ?_, g4, fun H => ?_⟩
      · by_cases he : e = d
        · rw [he]; exact hc
        · exact g3 e (by omega) h'
      · refine Ends.step 61 (fun k hk => ?_) (g5 H)
        show spec_TaxesOf.l2 (k + 1) rows c d l i s = _
        rw [spec_TaxesOf.l2, if_pos (by omega), specRow_is rows c _ d hl k hk]
        simp only [Option.bind_some]
        rw [if_pos (hfa.2 hc), w64 (x := d + 1) (by omega) (by omega)]

/-- The state of the loop over a class's days. -/
structure Days (rows : List S66) (c a d : Int) : Prop where
  good : taxesB rows = true
  c0 : 1 ≤ c
  c1 : c ≤ 3
  a0 : 0 ≤ a
  ad : a ≤ d
  a1 : a ≤ 200
  d1 : d ≤ 201
  prev : ∀ c' e, 1 ≤ c' → c' < c → 0 ≤ e → e < 200 → cov rows c' e = true
  low : ∀ e, 0 ≤ e → e < a → cov rows c e = true
  gap : ∀ e, a ≤ e → e < d → e < 200 → cov rows c e = false
  small : d ≤ 200 → (rows.length : Int) + pot rows c a + (4 - c) ≤ 60
  last : d = 201 → (rows.length : Int) + pot rows c a + (3 - c) ≤ 60 ∧ a = 200

/-- From the end of a gap on. -/
theorem j3_ends (l : List Int) (i s : Int) (rows : List S66) (c d : Int) (hg : taxesB rows = true) (c0 : 1 ≤ c) (c1 : c ≤ 3) (d0 : 0 ≤ d) (d1 : d ≤ 200) (prev : ∀ c' e, 1 ≤ c' → c' < c → 0 ≤ e → e < 200 → cov rows c' e = true)
    (low : ∀ e, 0 ≤ e → e < d → cov rows c e = true) (hc : d = 200 ∨ cov rows c d = true) (small : (rows.length : Int) + pot rows c d + (4 - c) ≤ 61)
    (go : ∀ e, d ≤ e → Days rows c e (e + 1) → Ends (fun k => spec_TaxesOf.l1 k rows c e (e + 1) l i s)) : Ends (fun k => spec_TaxesOf.j3 k rows c d l i s) := by
  obtain ⟨d', g1, g2, g3, g4, g5⟩ := l2_ends l i s rows (taxesB_len hg).1 c (200 - d).toNat d d0 (by omega)
  refine Ends.step 0 (fun k _ => ?_) (g5 (go d' g1 ?_))
  · show spec_TaxesOf.j3 (k + 1) rows c d l i s = _
    rw [spec_TaxesOf.j3]
  · have hm := pot_mono rows c d d' g1
    refine ⟨hg, c0, c1, by omega, by omega, g2, by omega, prev, fun e h h' => ?_, fun e h h' h'' => ?_, fun h => ?_, fun h => ⟨?_, by omega⟩⟩
    · by_cases he : e < d
      · exact low e h he
      · exact g3 e (by omega) h'
    · obtain rfl : e = d' := by omega
      rcases g4 with g | g
      · omega
      · exact g
    · have hn : cov rows c d' = false := by
        rcases g4 with g | g
        · omega
        · exact g
      rcases hc with g | g
      · omega
      · have hlt : d < d' := by
          rcases Int.lt_or_le d d' with q | q
          · exact q
          · obtain rfl : d' = d := by omega
            rw [hn] at g; cases g
        have := pot_drop rows c d d' hlt g hn
        omega
    · omega

theorem l1_ends (l : List Int) (i s : Int) (c : Int) (next : ∀ rows, taxesB rows = true → (∀ c' e, 1 ≤ c' → c' < c + 1 → 0 ≤ e → e < 200 → cov rows c' e = true) → (rows.length : Int) + pot rows (c + 1) 0 + (4 - (c + 1)) ≤ 60 → Ends (fun k => spec_TaxesOf.l0 k rows (c + 1) l i s)) :
    ∀ (n : Nat) (rows : List S66) (a d : Int), Days rows c a d → d + n = 201 → Ends (fun k => spec_TaxesOf.l1 k rows c a d l i s) := by
  intro n
  induction n using Nat.strongRecOn with
  | _ n ih =>
    intro rows a d D hn
    have k0 := D.c0
    have k1 := D.c1
    have k2 := D.a0
    have k3 := D.ad
    have k4 := D.a1
    have k5 := D.d1
    have hl := (taxesB_len D.good).1
    by_cases hd : d ≤ 200
    · -- the step at the end of a gap
      have J : (d = 200 ∨ cov rows c d = true) → Ends (fun k => spec_TaxesOf.j2 k rows c a d true l i s) := by
        intro hc
        have hs := D.small hd
        by_cases had : a < d
        · have rt : taxB (⟨c, (⟨#[]⟩ : ByteArray), a, d, (⟨wrap64 (7 * c), 100⟩ : S49)⟩ : S66) = true := by
            unfold taxB rateB placeB
            simp only
            rw [w64 (x := 7 * c) (by omega) (by omega), decide_eq_true (show 1 ≤ c ∧ c ≤ 9 by omega), decide_eq_true (show 0 ≤ a by omega), decide_eq_true had, decide_eq_true (show d ≤ 100000 by omega), decide_eq_true (show 0 ≤ 7 * c ∧ 7 * c ≤ 10000 by omega), noBytes]
            rfl
          have hm : ∀ x ∈ rows, meetB (⟨c, (⟨#[]⟩ : ByteArray), a, d, (⟨wrap64 (7 * c), 100⟩ : S49)⟩ : S66) x = false := by
            intro x hx
            have tx := taxGo_all rows rows 0 (taxesB_len D.good).2 x hx
            have t23 : x.f2 < x.f3 := by unfold taxB at tx; simp only [Bool.and_eq_true, decide_eq_true_eq] at tx; omega
            cases hb : meetB (⟨c, (⟨#[]⟩ : ByteArray), a, d, (⟨wrap64 (7 * c), 100⟩ : S49)⟩ : S66) x
            · rfl
            · unfold meetB at hb
              simp only [Bool.and_eq_true, decide_eq_true_eq] at hb
              obtain ⟨b0, b1, b2, b3⟩ := hb
              have hcov : cov rows c (max a x.f2) = true := cov_mem.2 ⟨x, hx, b0, b1.trans noBytes, by omega, by omega⟩
              have := D.gap (max a x.f2) (by omega) (by omega) (by omega)
              rw [hcov] at this; cases this
          have hlow : rows.length < 60 := by omega
          have hg := taxesB_snoc D.good hlow rt hm
          refine Ends.step 0 (fun k _ => ?_) (j3_ends l i s (rows ++ [(⟨c, (⟨#[]⟩ : ByteArray), a, d, (⟨wrap64 (7 * c), 100⟩ : S49)⟩ : S66)]) c d hg k0 k1 (by omega) hd (fun c' e h h' h2 h3 => cov_snoc (D.prev c' e h h' h2 h3)) (fun e h h' => ?_) ?_ ?_ ?_)
          · show spec_TaxesOf.j2 (k + 1) rows c a d true l i s = _
            rw [spec_TaxesOf.j2, if_pos rfl, if_pos had, if_pos (by omega)]
          · by_cases he : e < a
            · exact cov_snoc (D.low e h he)
            · exact cov_mem.2 ⟨_, List.mem_append_right _ (List.mem_singleton.2 rfl), rfl, noBytes, by simp only; omega, by simp only; omega⟩
          · rcases hc with g | g
            · exact .inl g
            · exact .inr (cov_snoc g)
          · have hm2 := pot_mono rows c a d (by omega)
            have : pot (rows ++ [(⟨c, (⟨#[]⟩ : ByteArray), a, d, (⟨wrap64 (7 * c), 100⟩ : S49)⟩ : S66)]) c d = pot rows c d := by
              unfold pot
              rw [List.countP_append, List.countP_cons, List.countP_nil]
              have : ahead c d (⟨c, (⟨#[]⟩ : ByteArray), a, d, (⟨wrap64 (7 * c), 100⟩ : S49)⟩ : S66) = false := by
                unfold ahead; simp only; rw [decide_eq_false (show ¬ (c > c) by omega), decide_eq_false (show ¬ (d > d) by omega)]; simp
              rw [this]; simp
            rw [this, List.length_append]
            simp only [List.length_cons, List.length_nil]
            omega
          · intro e he De
            have := De.d1
            exact ih (201 - (e + 1)).toNat (by omega) _ e (e + 1) De (by omega)
        · have hm2 := pot_mono rows c a d (by omega)
          refine Ends.step 0 (fun k _ => ?_) (j3_ends l i s rows c d D.good k0 k1 (by omega) hd D.prev (fun e h h' => D.low e h (by omega)) hc (by omega) ?_)
          · show spec_TaxesOf.j2 (k + 1) rows c a d true l i s = _
            rw [spec_TaxesOf.j2, if_pos rfl, if_neg had]
          · intro e he De
            have := De.d1
            exact ih (201 - (e + 1)).toNat (by omega) _ e (e + 1) De (by omega)
      by_cases h2 : d = 200
      · refine Ends.step 0 (fun k _ => ?_) (J (.inl h2))
        show spec_TaxesOf.l1 (k + 1) rows c a d l i s = _
        rw [spec_TaxesOf.l1, if_pos hd, if_pos h2]
      · have hfa := firstAt_any (fitT c ⟨#[]⟩ d) rows 0 (by omega)
        cases hc : cov rows c d
        · have N : Ends (fun k => spec_TaxesOf.l1 k rows c a (d + 1) l i s) := by
            refine ih (201 - (d + 1)).toNat (by omega) rows a (d + 1) ⟨D.good, k0, k1, k2, by omega, k4, by omega, D.prev, D.low, fun e h h' h'' => ?_, fun _ => D.small hd, fun h => by omega⟩ (by omega)
            by_cases he : e = d
            · rw [he]; exact hc
            · exact D.gap e h (by omega) h''
          refine Ends.step 61 (fun k hk => ?_) (Ends.step 0 (f := fun k => spec_TaxesOf.j2 k rows c a d false l i s) (fun k _ => ?_) N)
          · show spec_TaxesOf.l1 (k + 1) rows c a d l i s = _
            rw [spec_TaxesOf.l1, if_pos hd, if_neg h2, specRow_is rows c _ d hl k hk]
            simp only [Option.bind_some]
            rw [decide_eq_false (fun hh => by have := hfa.1 hh; unfold cov at hc; rw [hc] at this; cases this)]
          · show spec_TaxesOf.j2 (k + 1) rows c a d false l i s = _
            rw [spec_TaxesOf.j2, if_neg (by decide), w64 (x := d + 1) (by omega) (by omega)]
        · refine Ends.step 61 (fun k hk => ?_) (J (.inr hc))
          show spec_TaxesOf.l1 (k + 1) rows c a d l i s = _
          rw [spec_TaxesOf.l1, if_pos hd, if_neg h2, specRow_is rows c _ d hl k hk]
          simp only [Option.bind_some]
          rw [decide_eq_true (hfa.2 hc)]
    · have hd' : d = 201 := by omega
      have hs := D.last hd'
      have hp := pot_next rows c a
      refine Ends.step 0 (fun k _ => ?_) (next rows D.good (fun c' e h h' h2 h3 => ?_) (by omega))
      · show spec_TaxesOf.l1 (k + 1) rows c a d l i s = _
        rw [spec_TaxesOf.l1, if_neg hd, w64 (x := c + 1) (by omega) (by omega)]
      · by_cases hcc : c' = c
        · rw [hcc]; exact D.low e h2 (by omega)
        · exact D.prev c' e h (by omega) h2 h3

theorem l0_ends {l : List Int} {i s : Int} (h : SrcOK l i s) (hi : i ≤ 2000) : ∀ (n : Nat) (c : Int), 1 ≤ c → c + n = 4 → ∀ rows, taxesB rows = true → (∀ c' e, 1 ≤ c' → c' < c → 0 ≤ e → e < 200 → cov rows c' e = true) → (rows.length : Int) + pot rows c 0 + (4 - c) ≤ 60 → Ends (fun k => spec_TaxesOf.l0 k rows c l i s) := by
  intro n
  induction n with
  | zero =>
    intro c hc hn rows hg hp hs
    exact last_ends h hi rows hg c (by omega) (fun c' d h1 h2 h3 h4 => hp c' d h1 (by omega) h3 h4)
  | succ n ih =>
    intro c hc hn rows hg hp hs
    refine Ends.step 0 (fun k _ => ?_) (l1_ends l i s c (fun rows' hg' hp' hs' => ih (c + 1) (by omega) (by omega) rows' hg' hp' hs') 201 rows 0 0 ⟨hg, hc, by omega, by omega, by omega, by omega, by omega, hp, fun e h h' => by omega, fun e h h' => by omega, fun _ => hs, fun h => by omega⟩ (by omega))
    show spec_TaxesOf.l0 (k + 1) rows c l i s = _
    rw [spec_TaxesOf.l0, if_pos (by omega)]

theorem taxesOf_ends {l : List Int} (hl : (l.length : Int) ≤ 1048576) (hb : ∀ x ∈ l, (Lit.int .u8 x).wf = true) : Ends (fun k => spec_TaxesOf.f k l) := by
  have h := source_ok hl hb
  obtain ⟨x, i', s', hx, hg, hx9, hi', h'⟩ := taxRows_ok h (by omega)
  have hp : pot x 1 0 ≤ x.length := List.countP_le_length
  obtain ⟨K, r, hr, hk⟩ := l0_ends h' (by omega) 3 1 (by omega) (by omega) x hg (fun c' e h1 h2 => by omega) (by omega)
  refine ⟨max 4500 K, r, hr, fun k hk' => ?_⟩
  have es : spec_l00Source.f l = some (l, 0, (l.length : Int) % 1000) := rfl
  show spec_TaxesOf.f k l = _
  unfold spec_TaxesOf.f
  rw [es, Option.bind_some]
  have ex := hx k (by omega)
  have ey := hk k (by omega)
  generalize (l.length : Int) % 1000 = q at *
  show (spec_l00Src_taxRows.f k l 0 q).bind _ = _
  rw [ex, Option.bind_some]
  exact ey

end Go.Proofs.Ytgmohjegijndeaa
