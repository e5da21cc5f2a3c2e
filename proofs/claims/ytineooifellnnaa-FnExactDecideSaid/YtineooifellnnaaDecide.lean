/- Deciding: facts within a rule's narrowed bounds are those with which all its terms hold; so the program and the reference tell the same rule. -/
import Derived.Test.YtineooifellnnaaPAllx0
import Derived.Test.YtineooifellnnaaPAllx2
import Derived.Test.YtineooifellnnaaPAllx3
import Derived.Test.YtineooifellnnaaPAllx5
import Derived.Test.YtineooifellnnaaPAllx6
import Derived.Test.YtineooifellnnaaClauses
namespace Go.Proofs.Ytineooifellnnaa
open Go.RowKit Go.Proofs.Ytineooifellnnaa.PAll Go.Proofs.YtineooifellnnaaW.PrintWords Go.Proofs.YtineooifellnnaaW.PrintLast Go.Proofs.YtineooifellnnaaW.PrintMore

/-- The facts, by field. -/
def nums (f0 f1 f2 f3 f4 : Int) : List Int := [0, f0, f1, f2, f3, f4]

def Within (l : List Int) (b : Nat → Int) : Prop := ∀ i, i < 6 → b (2 * i) ≤ l.getD i 0 ∧ l.getD i 0 ≤ b (2 * i + 1)

theorem isIn_go (b : Nat → Int) : ∀ (l : List Int) (i : Nat), ∃ t : Bool, impl_isIn.go b l i = some t ∧ (t = true ↔ ∀ j, j < l.length → b (2 * (i + j)) ≤ l.getD j 0 ∧ l.getD j 0 ≤ b (2 * (i + j) + 1))
  | [], i => ⟨true, rfl, by simp⟩
  | n :: ns, i => by
    obtain ⟨t, e, ht⟩ := isIn_go b ns (i + 1)
    rw [impl_isIn.go, within_b, Option.bind_some]
    by_cases h : b (2 * i) ≤ n ∧ n ≤ b (2 * i + 1)
    · rw [decide_eq_true h, if_pos rfl]
      refine ⟨t, e, ht.trans ⟨fun H j hj => ?_, fun H j hj => ?_⟩⟩
      · cases j with
        | zero => exact h
        | succ j =>
          have := H j (by simpa using hj)
          rw [show i + (j + 1) = i + 1 + j by omega]
          exact this
      · have := H (j + 1) (by simpa using hj)
        rw [show i + (j + 1) = i + 1 + j by omega] at this
        exact this
    · rw [decide_eq_false h, if_neg (by decide)]
      refine ⟨false, rfl, ⟨fun e => (by cases e), fun H => absurd (H 0 (by simp)) h⟩⟩

theorem isIn_is (f0 f1 f2 f3 f4 : Int) (b : Nat → Int) : ∃ t : Bool, impl_isIn.f f0 f1 f2 f3 f4 b = some t ∧ (t = true ↔ Within (nums f0 f1 f2 f3 f4) b) := by
  obtain ⟨t, e, h⟩ := isIn_go b (nums f0 f1 f2 f3 f4) 0
  refine ⟨t, e, h.trans ?_⟩
  unfold Within
  constructor
  · intro H i hi
    have := H i hi
    rwa [Nat.zero_add] at this
  · intro H i hi
    have := H i hi
    rwa [Nat.zero_add]

/-- A term holds with facts. -/
def Holds (l : List Int) (x : S69) : Prop := (x.f1 ≠ 2 → x.f2 ≤ l.getD x.f0.toNat 0) ∧ (x.f1 ≠ 1 → l.getD x.f0.toNat 0 ≤ x.f2)

theorem one_lo (b : Nat → Int) (x : S69) (i : Nat) : impl_narrowed.one b x (2 * i) = if i = x.f0.toNat ∧ x.f1 ≠ 2 then mx (b (2 * i)) x.f2 else b (2 * i) := by
  unfold impl_narrowed.one
  by_cases h : i = x.f0.toNat ∧ x.f1 ≠ 2
  · rw [if_pos h, if_pos ⟨by omega, h.2⟩]
  · rw [if_neg h, if_neg (fun e => h ⟨by omega, e.2⟩), if_neg (fun e => by omega)]

theorem one_hi (b : Nat → Int) (x : S69) (i : Nat) : impl_narrowed.one b x (2 * i + 1) = if i = x.f0.toNat ∧ x.f1 ≠ 1 then mn (b (2 * i + 1)) x.f2 else b (2 * i + 1) := by
  unfold impl_narrowed.one
  rw [if_neg (fun e => by omega)]
  by_cases h : i = x.f0.toNat ∧ x.f1 ≠ 1
  · rw [if_pos h, if_pos ⟨by omega, h.2⟩]
  · rw [if_neg h, if_neg (fun e => h ⟨by omega, e.2⟩)]

theorem mx_le {a b c : Int} : mx a b ≤ c ↔ a ≤ c ∧ b ≤ c := by unfold mx; split <;> omega
theorem le_mn {a b c : Int} : c ≤ mn a b ↔ c ≤ a ∧ c ≤ b := by unfold mn; split <;> omega

theorem within_one (l : List Int) (b : Nat → Int) (x : S69) (h : 1 ≤ x.f0 ∧ x.f0 ≤ 5) : Within l (impl_narrowed.one b x) ↔ Within l b ∧ Holds l x := by
  unfold Within Holds
  constructor
  · intro H
    refine ⟨fun i hi => ?_, fun o => ?_, fun o => ?_⟩
    · have := H i hi
      rw [one_lo, one_hi] at this
      constructor
      · split at this
        · exact (mx_le.1 this.1).1
        · exact this.1
      · have h2 := this.2
        split at h2
        · exact (le_mn.1 h2).1
        · exact h2
    · have := (H x.f0.toNat (by omega)).1
      rw [one_lo, if_pos ⟨rfl, o⟩] at this
      exact (mx_le.1 this).2
    · have := (H x.f0.toNat (by omega)).2
      rw [one_hi, if_pos ⟨rfl, o⟩] at this
      exact (le_mn.1 this).2
  · rintro ⟨H, hlo, hhi⟩ i hi
    have hb := H i hi
    rw [one_lo, one_hi]
    constructor
    · split
      · rename_i e
        rw [e.1] at hb ⊢
        exact mx_le.2 ⟨hb.1, hlo e.2⟩
      · exact hb.1
    · split
      · rename_i e
        rw [e.1] at hb ⊢
        exact le_mn.2 ⟨hb.2, hhi e.2⟩
      · exact hb.2

theorem within_go (l : List Int) : ∀ (ts : List S69) (b : Nat → Int), (∀ x ∈ ts, 1 ≤ x.f0 ∧ x.f0 ≤ 5) → (Within l (impl_narrowed.go b ts) ↔ Within l b ∧ ∀ x ∈ ts, Holds l x)
  | [], b, _ => by simp [impl_narrowed.go]
  | x :: xs, b, h => by
    rw [impl_narrowed.go, within_go l xs _ (fun y hy => h y (List.mem_cons_of_mem _ hy)), within_one l b x (h x (List.mem_cons_self ..))]
    simp only [List.mem_cons, forall_eq_or_imp]
    exact and_assoc

def holdsB (l : List Int) (x : S69) : Bool := !(decide (x.f1 = 1 ∧ l.getD x.f0.toNat 0 < x.f2) || decide (x.f1 = 2 ∧ l.getD x.f0.toNat 0 > x.f2) || decide (x.f1 = 3 ∧ l.getD x.f0.toNat 0 ≠ x.f2))

theorem holdsB_iff (l : List Int) (x : S69) (h : 1 ≤ x.f1 ∧ x.f1 ≤ 3) : holdsB l x = true ↔ Holds l x := by
  unfold holdsB Holds
  generalize l.getD x.f0.toNat 0 = n
  have : x.f1 = 1 ∨ x.f1 = 2 ∨ x.f1 = 3 := by omega
  rcases this with e | e | e <;> rw [e] <;> simp <;> omega

theorem fact_is (f0 f1 f2 f3 f4 a : Int) (h : 0 ≤ a ∧ a ≤ 5) : spec_l06Fact.f f0 f1 f2 f3 f4 a = some ((nums f0 f1 f2 f3 f4).getD a.toNat 0) := by
  unfold spec_l06Fact.f
  simp only [Option.bind_some]
  rw [if_pos h.1, if_pos (by simp only [List.length_cons, List.length_nil]; omega)]
  rfl

theorem fires_is (f0 f1 f2 f3 f4 : Int) (l : List S69) (hl : l.length ≤ 8) (ht : ∀ x ∈ l, 1 ≤ x.f0 ∧ x.f0 ≤ 5) (k : Nat) (hk : 2 * l.length < k) : spec_l06Fires.f k l f0 f1 f2 f3 f4 = some (l.all (holdsB (nums f0 f1 f2 f3 f4))) := by
  have key : ∀ d i k, i + d = l.length → 2 * d < k → spec_l06Fires.l0 k l (i : Int) f0 f1 f2 f3 f4 = some ((l.drop i).all (holdsB (nums f0 f1 f2 f3 f4))) := by
    intro d
    induction d with
    | zero =>
      intro i k hi hk
      obtain ⟨k, rfl⟩ : ∃ m, k = m + 1 := ⟨k - 1, by omega⟩
      rw [spec_l06Fires.l0, if_neg (by omega), List.drop_eq_nil_of_le (by omega)]; rfl
    | succ d ih =>
      intro i k hi hk
      obtain ⟨k, rfl⟩ : ∃ m, k = m + 2 := ⟨k - 2, by omega⟩
      have hil : i < l.length := by omega
      have e := ih (i + 1) k (by omega) (by omega)
      rw [show ((i + 1 : Nat) : Int) = (i : Int) + 1 by omega] at e
      have hx := ht _ (List.getElem_mem hil)
      have jt : spec_l06Fires.j1 (k + 1) l (i : Int) true f0 f1 f2 f3 f4 = some false := by rw [spec_l06Fires.j1, if_pos rfl]
      have jf : spec_l06Fires.j1 (k + 1) l (i : Int) false f0 f1 f2 f3 f4 = some ((l.drop (i + 1)).all (holdsB (nums f0 f1 f2 f3 f4))) := by rw [spec_l06Fires.j1, if_neg (by decide), w64 (by omega) (by omega), e]
      rw [spec_l06Fires.l0, if_pos (by omega), if_pos (by omega), rdBTerm hil, fact_is _ _ _ _ _ _ (by omega), Option.bind_some, List.drop_eq_getElem_cons hil, List.all_cons]
      generalize (l.drop (i + 1)).all (holdsB (nums f0 f1 f2 f3 f4)) = R at *
      generalize l[i] = x at *
      unfold holdsB
      generalize (nums f0 f1 f2 f3 f4).getD x.f0.toNat 0 = n
      by_cases h1 : x.f1 = 1
      · rw [if_pos h1]
        by_cases h2 : n < x.f2
        · rw [if_pos h2, jt]; simp [h1, h2]
        · rw [if_neg h2, if_neg (by omega), if_neg (by omega), jf]; simp [h1, h2]
      · rw [if_neg h1]
        by_cases h2 : x.f1 = 2
        · rw [if_pos h2]
          by_cases h3 : n > x.f2
          · rw [if_pos h3, jt]; simp [h2, h3]
          · have h3' : ¬ x.f2 < n := h3
            rw [if_neg h3, if_neg (by omega), jf]; simp [h2, h3']
        · rw [if_neg h2]
          by_cases h3 : x.f1 = 3
          · rw [if_pos h3]
            by_cases h4 : n = x.f2
            · rw [h4, bne_self_eq_false, jf]; simp [h3]
            · rw [bne_iff_ne.mpr h4, jt]; simp [h3, h4]
          · rw [if_neg h3, jf]; simp [h1, h2, h3]
  unfold spec_l06Fires.f
  have := key l.length 0 k (by omega) hk
  simpa using this

theorem goC_all (rows : List S32) : ∀ (l : List S32) (i : Nat), goC rows l i = true → ∀ c ∈ l, clauseB c = true
  | [], _, _ => fun c hc => by simp at hc
  | x :: xs, i, h => by
    rw [goC, Bool.and_eq_true, Bool.and_eq_true] at h
    intro c hc
    rcases List.mem_cons.1 hc with e | e
    · rw [e]; exact h.1
    · exact goC_all rows xs (i + 1) h.2.2 c e

theorem clause_terms (c : S32) (h : clauseB c = true) : c.f1.length ≤ 8 ∧ ∀ x ∈ c.f1, (1 ≤ x.f0 ∧ x.f0 ≤ 5) ∧ (1 ≤ x.f1 ∧ x.f1 ≤ 3) := by
  unfold clauseB at h
  rw [Bool.and_eq_true, Bool.and_eq_true, Bool.and_eq_true] at h
  refine ⟨by have := of_decide_eq_true h.2.1; omega, fun x hx => ?_⟩
  have := List.all_eq_true.1 h.2.2.2 x hx
  unfold termB at this
  rw [Bool.and_eq_true, Bool.and_eq_true] at this
  exact ⟨of_decide_eq_true this.1, of_decide_eq_true this.2.1⟩

def firesB (l : List Int) (c : S32) : Bool := c.f1.all (holdsB l)

theorem p_is (f0 f1 f2 f3 f4 : Int) (c : S32) (h : clauseB c = true) (hw : Within (nums f0 f1 f2 f3 f4) impl_bounds.all) : impl_Decide_1.p f0 f1 f2 f3 f4 c = some (firesB (nums f0 f1 f2 f3 f4) c) := by
  have hc := (clause_terms c h).2
  unfold impl_Decide_1.p
  rw [if_pos (by rw [List.all_eq_true]; exact fun x hx => decide_eq_true (hc x hx).1)]
  obtain ⟨t, e, ht⟩ := isIn_is f0 f1 f2 f3 f4 (impl_narrowed.go impl_bounds.all c.f1)
  rw [e, Option.some.injEq]
  rw [within_go _ _ _ (fun x hx => (hc x hx).1)] at ht
  have hf : firesB (nums f0 f1 f2 f3 f4) c = true ↔ ∀ x ∈ c.f1, Holds (nums f0 f1 f2 f3 f4) x := by
    unfold firesB
    rw [List.all_eq_true]
    exact ⟨fun H x hx => (holdsB_iff _ x (hc x hx).2).1 (H x hx), fun H x hx => (holdsB_iff _ x (hc x hx).2).2 (H x hx)⟩
  have : t = true ↔ firesB (nums f0 f1 f2 f3 f4) c = true := ht.trans ⟨fun H => hf.2 H.2, fun H => ⟨hw, hf.1 H⟩⟩
  cases t <;> cases hq : firesB (nums f0 f1 f2 f3 f4) c <;> simp [hq] at this ⊢

theorem idx_is (p : S32 → Option Bool) (q : S32 → Bool) : ∀ (l : List S32) (i : Int), (∀ x ∈ l, p x = some (q x)) → impl_Clause_37.f p l i = some (firstOf q l i)
  | [], _, _ => rfl
  | x :: xs, i, h => by
    unfold impl_Clause_37.f firstOf
    rw [h x (List.mem_cons_self ..), Option.bind_some, idx_is p q xs (i + 1) (fun y hy => h y (List.mem_cons_of_mem _ hy))]
    cases q x <;> simp

/-- What is decided. -/
def decideB (l : List S32) (f : List Int) (w : Bool) : Int × Int :=
  if l.length > 4096 then (0, 2) else if clausesB l = false then (0, 1) else if w = false then (0, 5) else if firstOf (firesB f) l 0 < 0 then (0, 8) else (firstOf (firesB f) l 0, 0)

theorem decide_impl (l : List S32) (hl : l.length ≤ 1048576) (f0 f1 f2 f3 f4 : Int) (w : Bool) (hw : w = true ↔ Within (nums f0 f1 f2 f3 f4) impl_bounds.all) (k : Nat) (hk : 2200000 ≤ k) :
    impl_Decide.f k l f0 f1 f2 f3 f4 = some (decideB l (nums f0 f1 f2 f3 f4) w) := by
  unfold impl_Decide.f decideB impl_Clause_33.f
  rw [Option.bind_some]
  by_cases h : l.length > 4096
  · rw [decide_eq_false (by omega), if_pos h]; rfl
  rw [decide_eq_true (by omega), if_neg h, if_pos rfl, clauses_impl l hl k hk, Option.bind_some]
  cases hc : clausesB l
  · rfl
  rw [if_pos rfl, if_neg (by decide)]
  obtain ⟨t, e, ht⟩ := isIn_is f0 f1 f2 f3 f4 impl_bounds.all
  obtain rfl : t = w := by
    have := ht.trans hw.symm
    cases t <;> cases w <;> simp at this ⊢
  rw [e, Option.bind_some]
  cases ht2 : t
  · rfl
  rw [if_pos rfl, if_neg (by decide)]
  have hall : ∀ c ∈ l, clauseB c = true := by
    unfold clausesB at hc
    rw [Bool.and_eq_true] at hc
    exact goC_all l l 0 hc.1
  rw [idx_is _ (firesB (nums f0 f1 f2 f3 f4)) l 0 (fun c hcm => p_is f0 f1 f2 f3 f4 c (hall c hcm) (hw.1 ht2)), Option.bind_some]
  split <;> rfl

theorem all_lo (i : Nat) (h : 1 ≤ i) (h5 : i ≤ 5) : impl_bounds.all (2 * i) = loB (i : Int) ∧ impl_bounds.all (2 * i + 1) = hiB (i : Int) := by
  have : i = 1 ∨ i = 2 ∨ i = 3 ∨ i = 4 ∨ i = 5 := by omega
  rcases this with rfl | rfl | rfl | rfl | rfl <;> exact ⟨rfl, rfl⟩

theorem spec_l1 (l : List S32) (hl : l.length ≤ 4096) (hall : ∀ c ∈ l, clauseB c = true) (f0 f1 f2 f3 f4 : Int) : ∀ d i k, i + d = l.length → d + 20 < k →
    spec_Decide.l1 k l (i : Int) f0 f1 f2 f3 f4 = some (if firstOf (firesB (nums f0 f1 f2 f3 f4)) (l.drop i) (i : Int) < 0 then (0, 8) else (firstOf (firesB (nums f0 f1 f2 f3 f4)) (l.drop i) (i : Int), 0)) := by
  intro d
  induction d with
  | zero =>
    intro i k hi hk
    obtain ⟨k, rfl⟩ : ∃ m, k = m + 1 := ⟨k - 1, by omega⟩
    rw [spec_Decide.l1, if_neg (by omega), List.drop_eq_nil_of_le (by omega)]; rfl
  | succ d ih =>
    intro i k hi hk
    obtain ⟨k, rfl⟩ : ∃ m, k = m + 1 := ⟨k - 1, by omega⟩
    have hil : i < l.length := by omega
    have e := ih (i + 1) k (by omega) (by omega)
    rw [show ((i + 1 : Nat) : Int) = (i : Int) + 1 by omega] at e
    have hc := clause_terms _ (hall _ (List.getElem_mem hil))
    rw [spec_Decide.l1, if_pos (by omega), if_pos (by omega), rdBClause hil, fires_is _ _ _ _ _ _ hc.1 (fun x hx => (hc.2 x hx).1) k (by omega), Option.bind_some, List.drop_eq_getElem_cons hil, firstOf, w64 (by omega) (by omega), e]
    have hf : (l[i].f1.all (holdsB (nums f0 f1 f2 f3 f4))) = firesB (nums f0 f1 f2 f3 f4) l[i] := rfl
    rw [hf]
    cases firesB (nums f0 f1 f2 f3 f4) l[i]
    · rfl
    · rw [if_pos rfl, if_pos rfl, if_neg (by omega)]

theorem spec_l0 (l : List S32) (hl : l.length ≤ 4096) (hall : ∀ c ∈ l, clauseB c = true) (f0 f1 f2 f3 f4 : Int) : ∀ d i k, i + d = 6 → 1 ≤ i → d + 5000 < k →
    ∃ t : Bool, (t = true ↔ ∀ j, i ≤ j → j < 6 → impl_bounds.all (2 * j) ≤ (nums f0 f1 f2 f3 f4).getD j 0 ∧ (nums f0 f1 f2 f3 f4).getD j 0 ≤ impl_bounds.all (2 * j + 1)) ∧
      spec_Decide.l0 k l (i : Int) f0 f1 f2 f3 f4 = some (if t = false then (0, 5) else if firstOf (firesB (nums f0 f1 f2 f3 f4)) l 0 < 0 then (0, 8) else (firstOf (firesB (nums f0 f1 f2 f3 f4)) l 0, 0)) := by
  intro d
  induction d with
  | zero =>
    intro i k hi h1 hk
    obtain ⟨k, rfl⟩ : ∃ m, k = m + 1 := ⟨k - 1, by omega⟩
    refine ⟨true, ⟨fun _ j h0 h1 => by omega, fun _ => rfl⟩, ?_⟩
    rw [spec_Decide.l0, if_neg (by omega), if_neg (by decide)]
    have := spec_l1 l hl hall f0 f1 f2 f3 f4 l.length 0 k (by omega) (by omega)
    simpa using this
  | succ d ih =>
    intro i k hi h1 hk
    obtain ⟨k, rfl⟩ : ∃ m, k = m + 1 := ⟨k - 1, by omega⟩
    obtain ⟨t, ht, e⟩ := ih (i + 1) k (by omega) (by omega) (by omega)
    rw [show ((i + 1 : Nat) : Int) = (i : Int) + 1 by omega] at e
    have hb := all_lo i h1 (by omega)
    have hlo := low_is (i : Int) (by omega)
    rw [spec_Decide.l0, if_pos (by omega), fact_is _ _ _ _ _ _ (by omega), Option.bind_some, hlo.1, Option.bind_some, hlo.2, Option.bind_some, in1_is, Option.bind_some, Int.toNat_natCast, w64 (by omega) (by omega), ← hb.1, ← hb.2]
    by_cases h : impl_bounds.all (2 * i) ≤ (nums f0 f1 f2 f3 f4).getD i 0 ∧ (nums f0 f1 f2 f3 f4).getD i 0 ≤ impl_bounds.all (2 * i + 1)
    · rw [decide_eq_true h, if_pos rfl]
      refine ⟨t, ht.trans ⟨fun H j h0 h6 => ?_, fun H j h0 h6 => H j (by omega) h6⟩, e⟩
      by_cases hj : j = i
      · rw [hj]; exact h
      · exact H j (by omega) h6
    · rw [decide_eq_false h, if_neg (by decide)]
      exact ⟨false, ⟨fun e => (by cases e), fun H => absurd (H i (Nat.le_refl _) (by omega)) h⟩, rfl⟩

theorem decide_spec (l : List S32) (f0 f1 f2 f3 f4 : Int) (w : Bool) (hw : w = true ↔ Within (nums f0 f1 f2 f3 f4) impl_bounds.all) (k : Nat) (hk : 2200000 ≤ k) :
    spec_Decide.f k l f0 f1 f2 f3 f4 = some (decideB l (nums f0 f1 f2 f3 f4) w) := by
  unfold spec_Decide.f decideB
  by_cases h : l.length > 4096
  · rw [if_pos (by omega), if_pos h]
  rw [if_neg (by omega), if_neg h, clauses_spec l k hk, Option.bind_some]
  cases hc : clausesB l
  · rfl
  rw [if_pos rfl, if_neg (by decide)]
  have hall : ∀ c ∈ l, clauseB c = true := by
    unfold clausesB at hc
    rw [Bool.and_eq_true] at hc
    exact goC_all l l 0 hc.1
  obtain ⟨t, ht, e⟩ := spec_l0 l (by omega) hall f0 f1 f2 f3 f4 5 1 k (by omega) (by omega) (by omega)
  rw [show ((1 : Nat) : Int) = 1 from rfl] at e
  rw [e]
  have h0 : Within (nums f0 f1 f2 f3 f4) impl_bounds.all ↔ ∀ j, 1 ≤ j → j < 6 → impl_bounds.all (2 * j) ≤ (nums f0 f1 f2 f3 f4).getD j 0 ∧ (nums f0 f1 f2 f3 f4).getD j 0 ≤ impl_bounds.all (2 * j + 1) := by
    unfold Within
    constructor
    · exact fun H j _ h6 => H j h6
    · intro H j h6
      by_cases hj : j = 0
      · rw [hj]; exact ⟨Int.le_refl 0, Int.le_refl 0⟩
      · exact H j (by omega) h6
  have : t = w := by
    have := ht.trans (h0.symm.trans hw.symm)
    cases t <;> cases w <;> simp at this ⊢
  rw [this]

end Go.Proofs.Ytineooifellnnaa
