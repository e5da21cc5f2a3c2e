/- Deciding, the program's side: facts within a rule's narrowed bounds are those with which all its terms hold. -/
import Derived.Test.YthhhmcijbplcoaaGreatDoorPFnRulesx0
import Derived.Test.YthhhmcijbplcoaaGreatDoorPFnRulesx7
import Derived.Test.YthhhmcijbplcoaaGreatDoorPFnRulesx8
import Derived.Test.YthhhmcijbplcoaaGreatDoorGoC
namespace Go.Proofs.YthhhmcijbplcoaaGreatDoor
open Go.RowKit Go.Proofs.YthhhmcijbplcoaaGreatDoor.PFnRules Go.Proofs.YthhhmcijbplcoaaGreatDoorW.PrintWords Go.Proofs.YthhhmcijbplcoaaGreatDoorW.PrintLast Go.Proofs.YthhhmcijbplcoaaGreatDoorW.PrintMore

/-- The facts, by field. -/
def nums (f0 f1 f2 f3 f4 : Int) : List Int := [0, f0, f1, f2, f3, f4]

def Within (l : List Int) (b : Nat → Int) : Prop := ∀ i, i < 6 → b (2 * i) ≤ l.getD i 0 ∧ l.getD i 0 ≤ b (2 * i + 1)

theorem isIn_go (b : Nat → Int) : ∀ (l : List Int) (i : Nat), ∃ t : Bool, impl_isIn.go b l i = some t ∧ (t = true ↔ ∀ j, j < l.length → b (2 * (i + j)) ≤ l.getD j 0 ∧ l.getD j 0 ≤ b (2 * (i + j) + 1))
  | [], i => ⟨true, rfl, by simp⟩
  | n :: ns, i => by
    obtain ⟨t, e, ht⟩ := isIn_go b ns (i + 1)
    rw [impl_isIn.go, within_b, Option.bind_some]
    by_cases h : b (2 * i) ≤ n ∧ n ≤ b (2 * i + 1)
    · rw [decide_eq_true h, if_pos rfl]
      refine ⟨t, e, ht.trans ⟨fun H j hj => ?_, fun H j hj => ?_⟩⟩
      · cases j with
        | zero => exact h
        | succ j =>
          have := H j (by simpa using hj)
          rw [show i + (j + 1) = i + 1 + j by omega]
          exact this
      · have := H (j + 1) (by simpa using hj)
        rw [show i + (j + 1) = i + 1 + j by omega] at this
        exact this
    · rw [decide_eq_false h, if_neg (by decide)]
      refine ⟨false, rfl, ⟨fun e => (by cases e), fun H => absurd (H 0 (by simp)) h⟩⟩

theorem isIn_is (f0 f1 f2 f3 f4 : Int) (b : Nat → Int) : ∃ t : Bool, impl_isIn.f f0 f1 f2 f3 f4 b = some t ∧ (t = true ↔ Within (nums f0 f1 f2 f3 f4) b) := by
  obtain ⟨t, e, h⟩ := isIn_go b (nums f0 f1 f2 f3 f4) 0
  refine ⟨t, e, h.trans ?_⟩
  unfold Within
  constructor
  · intro H i hi
    have := H i hi
    rwa [Nat.zero_add] at this
  · intro H i hi
    have := H i hi
    rwa [Nat.zero_add]

/-- A term holds with facts. -/
def Holds (l : List Int) (x : S66) : Prop := (x.f1 ≠ 2 → x.f2 ≤ l.getD x.f0.toNat 0) ∧ (x.f1 ≠ 1 → l.getD x.f0.toNat 0 ≤ x.f2)

theorem one_lo (b : Nat → Int) (x : S66) (i : Nat) : impl_narrowed.one b x (2 * i) = if i = x.f0.toNat ∧ x.f1 ≠ 2 then mx (b (2 * i)) x.f2 else b (2 * i) := by
  unfold impl_narrowed.one
  by_cases h : i = x.f0.toNat ∧ x.f1 ≠ 2
  · rw [if_pos h, if_pos ⟨by omega, h.2⟩]
  · rw [if_neg h, if_neg (fun e => h ⟨by omega, e.2⟩), if_neg (fun e => by omega)]

theorem one_hi (b : Nat → Int) (x : S66) (i : Nat) : impl_narrowed.one b x (2 * i + 1) = if i = x.f0.toNat ∧ x.f1 ≠ 1 then mn (b (2 * i + 1)) x.f2 else b (2 * i + 1) := by
  unfold impl_narrowed.one
  rw [if_neg (fun e => by omega)]
  by_cases h : i = x.f0.toNat ∧ x.f1 ≠ 1
  · rw [if_pos h, if_pos ⟨by omega, h.2⟩]
  · rw [if_neg h, if_neg (fun e => h ⟨by omega, e.2⟩)]

theorem mx_le {a b c : Int} : mx a b ≤ c ↔ a ≤ c ∧ b ≤ c := by unfold mx; split <;> omega
theorem le_mn {a b c : Int} : c ≤ mn a b ↔ c ≤ a ∧ c ≤ b := by unfold mn; split <;> omega

theorem within_one (l : List Int) (b : Nat → Int) (x : S66) (h : 1 ≤ x.f0 ∧ x.f0 ≤ 5) : Within l (impl_narrowed.one b x) ↔ Within l b ∧ Holds l x := by
  unfold Within Holds
  constructor
  · intro H
    refine ⟨fun i hi => ?_, fun o => ?_, fun o => ?_⟩
    · have := H i hi
      rw [one_lo, one_hi] at this
      constructor
      · split at this
        · exact (mx_le.1 this.1).1
        · exact this.1
      · have h2 := this.2
        split at h2
        · exact (le_mn.1 h2).1
        · exact h2
    · have := (H x.f0.toNat (by omega)).1
      rw [one_lo, if_pos ⟨rfl, o⟩] at this
      exact (mx_le.1 this).2
    · have := (H x.f0.toNat (by omega)).2
      rw [one_hi, if_pos ⟨rfl, o⟩] at this
      exact (le_mn.1 this).2
  · rintro ⟨H, hlo, hhi⟩ i hi
    have hb := H i hi
    rw [one_lo, one_hi]
    constructor
    · split
      · rename_i e
        rw [e.1] at hb ⊢
        exact mx_le.2 ⟨hb.1, hlo e.2⟩
      · exact hb.1
    · split
      · rename_i e
        rw [e.1] at hb ⊢
        exact le_mn.2 ⟨hb.2, hhi e.2⟩
      · exact hb.2

theorem within_go (l : List Int) : ∀ (ts : List S66) (b : Nat → Int), (∀ x ∈ ts, 1 ≤ x.f0 ∧ x.f0 ≤ 5) → (Within l (impl_narrowed.go b ts) ↔ Within l b ∧ ∀ x ∈ ts, Holds l x)
  | [], b, _ => by simp [impl_narrowed.go]
  | x :: xs, b, h => by
    rw [impl_narrowed.go, within_go l xs _ (fun y hy => h y (List.mem_cons_of_mem _ hy)), within_one l b x (h x (List.mem_cons_self ..))]
    simp only [List.mem_cons, forall_eq_or_imp]
    exact and_assoc

def holdsB (l : List Int) (x : S66) : Bool := !(decide (x.f1 = 1 ∧ l.getD x.f0.toNat 0 < x.f2) || decide (x.f1 = 2 ∧ l.getD x.f0.toNat 0 > x.f2) || decide (x.f1 = 3 ∧ l.getD x.f0.toNat 0 ≠ x.f2))

theorem holdsB_iff (l : List Int) (x : S66) (h : 1 ≤ x.f1 ∧ x.f1 ≤ 3) : holdsB l x = true ↔ Holds l x := by
  unfold holdsB Holds
  generalize l.getD x.f0.toNat 0 = n
  have : x.f1 = 1 ∨ x.f1 = 2 ∨ x.f1 = 3 := by omega
  rcases this with e | e | e <;> rw [e] <;> simp <;> omega

theorem clause_terms (c : S41) (h : clauseB c = true) : c.f1.length ≤ 8 ∧ ∀ x ∈ c.f1, (1 ≤ x.f0 ∧ x.f0 ≤ 5) ∧ (1 ≤ x.f1 ∧ x.f1 ≤ 3) := by
  unfold clauseB at h
  rw [Bool.and_eq_true, Bool.and_eq_true, Bool.and_eq_true] at h
  refine ⟨by have := of_decide_eq_true h.2.1; omega, fun x hx => ?_⟩
  have := List.all_eq_true.1 h.2.2.2 x hx
  unfold termB at this
  rw [Bool.and_eq_true, Bool.and_eq_true] at this
  exact ⟨of_decide_eq_true this.1, of_decide_eq_true this.2.1⟩

def firesB (l : List Int) (c : S41) : Bool := c.f1.all (holdsB l)

theorem p_is (f0 f1 f2 f3 f4 : Int) (c : S41) (h : clauseB c = true) (hw : Within (nums f0 f1 f2 f3 f4) impl_bounds.all) : impl_Decide_1.p f0 f1 f2 f3 f4 c = some (firesB (nums f0 f1 f2 f3 f4) c) := by
  have hc := (clause_terms c h).2
  unfold impl_Decide_1.p
  rw [if_pos (by rw [List.all_eq_true]; exact fun x hx => decide_eq_true (hc x hx).1)]
  obtain ⟨t, e, ht⟩ := isIn_is f0 f1 f2 f3 f4 (impl_narrowed.go impl_bounds.all c.f1)
  rw [e, Option.some.injEq]
  rw [within_go _ _ _ (fun x hx => (hc x hx).1)] at ht
  have hf : firesB (nums f0 f1 f2 f3 f4) c = true ↔ ∀ x ∈ c.f1, Holds (nums f0 f1 f2 f3 f4) x := by
    unfold firesB
    rw [List.all_eq_true]
    exact ⟨fun H x hx => (holdsB_iff _ x (hc x hx).2).1 (H x hx), fun H x hx => (holdsB_iff _ x (hc x hx).2).2 (H x hx)⟩
  have : t = true ↔ firesB (nums f0 f1 f2 f3 f4) c = true := ht.trans ⟨fun H => hf.2 H.2, fun H => ⟨hw, hf.1 H⟩⟩
  cases t <;> cases hq : firesB (nums f0 f1 f2 f3 f4) c <;> simp [hq] at this ⊢

/-- What is decided. -/
def decideB (l : List S41) (f : List Int) (w : Bool) : Int × Int :=
  if l.length > 4096 then (0, 2) else if clausesB l = false then (0, 1) else if w = false then (0, 5) else if firstOf (firesB f) l 0 < 0 then (0, 8) else (firstOf (firesB f) l 0, 0)

theorem decide_impl (l : List S41) (hl : l.length ≤ 1048576) (f0 f1 f2 f3 f4 : Int) (w : Bool) (hw : w = true ↔ Within (nums f0 f1 f2 f3 f4) impl_bounds.all) (k : Nat) (hk : 2200000 ≤ k) :
    impl_Decide.f k l f0 f1 f2 f3 f4 = some (decideB l (nums f0 f1 f2 f3 f4) w) := by
  unfold impl_Decide.f decideB impl_Clause_32.f
  rw [Option.bind_some]
  by_cases h : l.length > 4096
  · rw [decide_eq_false (by omega), if_pos h]; rfl
  rw [decide_eq_true (by omega), if_neg h, if_pos rfl, clauses_impl l hl k hk, Option.bind_some]
  cases hc : clausesB l
  · rfl
  rw [if_pos rfl, if_neg (by decide)]
  obtain ⟨t, e, ht⟩ := isIn_is f0 f1 f2 f3 f4 impl_bounds.all
  obtain rfl : t = w := by
    have := ht.trans hw.symm
    cases t <;> cases w <;> simp at this ⊢
  rw [e, Option.bind_some]
  cases ht2 : t
  · rfl
  rw [if_pos rfl, if_neg (by decide)]
  have hall : ∀ c ∈ l, clauseB c = true := by
    unfold clausesB at hc
    rw [Bool.and_eq_true] at hc
    exact goC_all l l 0 hc.1
  rw [idx_is _ (firesB (nums f0 f1 f2 f3 f4)) l 0 (fun c hcm => p_is f0 f1 f2 f3 f4 c (hall c hcm) (hw.1 ht2)), Option.bind_some]
  split <;> rfl

theorem all_lo (i : Nat) (h : 1 ≤ i) (h5 : i ≤ 5) : impl_bounds.all (2 * i) = loB (i : Int) ∧ impl_bounds.all (2 * i + 1) = hiB (i : Int) := by
  have : i = 1 ∨ i = 2 ∨ i = 3 ∨ i = 4 ∨ i = 5 := by omega
  rcases this with rfl | rfl | rfl | rfl | rfl <;> exact ⟨rfl, rfl⟩

end Go.Proofs.YthhhmcijbplcoaaGreatDoor
