/- Decimal numerals as lists of bytes: a row of digits without a needless 0 ahead is the numeral of the number that it spells. -/
import Derived.Lib.ItoaNum
import Derived.Lib.Atoi
namespace Go.Proofs.YthhhmcijbplcoaaGreatDoor

/-- A digit's byte. -/
def dg1 (b : UInt8) : Bool := decide (48 ≤ b.toNat ∧ b.toNat ≤ 57)
theorem dg1_iff {b : UInt8} : dg1 b = true ↔ 48 ≤ b.toNat ∧ b.toNat ≤ 57 := by unfold dg1; exact decide_eq_true_iff
theorem digitVal_of {b : UInt8} (h : dg1 b = true) : Lib.digitVal b = some (b.toNat - 48) := by
  unfold Lib.digitVal; rw [if_pos (dg1_iff.1 h)]
theorem digitVal_no {b : UInt8} (h : dg1 b = false) : Lib.digitVal b = none := by
  unfold Lib.digitVal; rw [if_neg (fun c => by rw [dg1_iff.2 c] at h; cases h)]
theorem dec_app : ∀ (l m : List UInt8) (a : Nat), Lib.decFrom a (l ++ m) = (Lib.decFrom a l).bind fun v => Lib.decFrom v m
  | [], _, _ => rfl
  | b :: r, m, a => by
    rw [List.cons_append, Lib.decFrom, Lib.decFrom]
    cases Lib.digitVal b with
    | none => rfl
    | some d => exact dec_app r m _
theorem dec_some : ∀ (l : List UInt8) (a : Nat), l.all dg1 = true → ∃ v, Lib.decFrom a l = some v
  | [], a, _ => ⟨a, rfl⟩
  | b :: r, a, h => by
    rw [List.all_cons, Bool.and_eq_true] at h
    rw [Lib.decFrom, digitVal_of h.1]
    exact dec_some r _ h.2
theorem dec_none : ∀ (l : List UInt8) (a : Nat), l.all dg1 = false → Lib.decFrom a l = none
  | [], a, h => by simp at h
  | b :: r, a, h => by
    rw [Lib.decFrom]
    cases hb : dg1 b with
    | false => rw [digitVal_no hb]
    | true =>
      rw [digitVal_of hb]
      rw [List.all_cons, hb, Bool.true_and] at h
      exact dec_none r _ h
theorem u8_back8 {b : UInt8} (h : dg1 b = true) : UInt8.ofNat (48 + (b.toNat - 48)) = b := by
  have := dg1_iff.1 h
  rw [show 48 + (b.toNat - 48) = b.toNat by omega]
  exact UInt8.ofNat_toNat
/-- A row of digits that does not begin with 0 is the numeral of what it spells. -/
theorem dec_text : ∀ (n : Nat) (W : List UInt8) (v : Nat), W.length = n → W.all dg1 = true → W.head? ≠ some 48 → W ≠ [] → Lib.decFrom 0 W = some v → 1 ≤ v ∧ Lib.decDigits v = W
  | 0, W, v, hn, _, _, he, _ => absurd (List.length_eq_zero_iff.1 hn) he
  | n + 1, W, v, hn, hd, h0, he, hv => by
    have hW := (List.dropLast_concat_getLast he).symm
    generalize W.dropLast = P at hW
    generalize W.getLast he = b at hW
    subst hW
    rw [List.all_append, Bool.and_eq_true] at hd
    have hb : dg1 b = true := by simpa using hd.2
    have hb2 := dg1_iff.1 hb
    rw [dec_app] at hv
    by_cases hP : P = []
    · subst hP
      simp only [List.nil_append, List.head?_cons, ne_eq, Option.some.injEq] at h0
      rw [Lib.decFrom, Option.bind_some, Lib.decFrom, digitVal_of hb] at hv
      simp only [Lib.decFrom, Option.some.injEq] at hv
      have hne : b.toNat ≠ 48 := fun e => h0 (UInt8.toNat_inj.1 (by rw [e]; rfl))
      subst hv
      refine ⟨by omega, ?_⟩
      rw [Lib.decDigits, dif_pos (by omega), Nat.zero_mul, Nat.zero_add, u8_back8 hb]; rfl
    · obtain ⟨p, hp⟩ := dec_some P 0 hd.1
      have ih := dec_text n P p (by simpa using hn) hd.1 (by cases P with | nil => exact absurd rfl hP | cons x y => simpa using h0) hP hp
      rw [hp, Option.bind_some, Lib.decFrom, digitVal_of hb] at hv
      simp only [Lib.decFrom, Option.some.injEq] at hv
      subst hv
      refine ⟨by omega, ?_⟩
      rw [Lib.decDigits, dif_neg (by omega), show (p * 10 + (b.toNat - 48)) / 10 = p by omega, show (p * 10 + (b.toNat - 48)) % 10 = b.toNat - 48 by omega, u8_back8 hb, ih.2]
/-- A numeral: digits alone, and no 0 ahead but in "0". -/
def isNum (W : List UInt8) : Prop := W.all dg1 = true ∧ W ≠ [] ∧ (W.head? = some 48 → W.length = 1)
theorem num_text {W : List UInt8} {v : Nat} (h : isNum W) (hv : Lib.decFrom 0 W = some v) : Lib.decDigits v = W := by
  by_cases h0 : W.head? = some 48
  · have h1 := h.2.2 h0
    cases W with
    | nil => exact absurd rfl h.2.1
    | cons a t =>
      cases t with
      | cons _ _ => simp at h1
      | nil =>
        simp only [List.head?_cons, Option.some.injEq] at h0
        subst h0
        rw [Lib.decFrom, show Lib.digitVal 48 = some 0 from rfl] at hv
        simp only [Lib.decFrom, Option.some.injEq] at hv
        subst hv
        rw [Lib.decDigits, dif_pos (by omega)]; rfl
  · exact (dec_text _ W v rfl h.1 h0 h.2.1 hv).2
theorem ofNat_digit {d : Nat} (h : d < 10) : (UInt8.ofNat (48 + d)).toNat = 48 + d := by
  rw [UInt8.toNat_ofNat']; omega
theorem dg1_ofNat {d : Nat} (h : d < 10) : dg1 (UInt8.ofNat (48 + d)) = true := by rw [dg1_iff, ofNat_digit h]; omega
/-- What a number's numeral is. -/
theorem digits_num : ∀ (d u : Nat), u ≤ d → isNum (Lib.decDigits u) ∧ (∀ a, Lib.decFrom 0 (Lib.decDigits u ++ a) = Lib.decFrom u a) ∧ (1 ≤ u → (Lib.decDigits u).head? ≠ some 48)
  | d, u, h => by
    rw [Lib.decDigits]
    by_cases h10 : u < 10
    · rw [dif_pos h10]
      refine ⟨⟨by rw [List.all_cons, dg1_ofNat h10]; rfl, by simp, fun _ => rfl⟩, fun a => ?_, fun h1 e => ?_⟩
      · rw [List.cons_append, Lib.decFrom, digitVal_of (dg1_ofNat h10), ofNat_digit h10]
        simp
      · simp only [List.head?_cons, Option.some.injEq] at e
        have := congrArg UInt8.toNat e
        rw [ofNat_digit h10] at this
        have e48 : (48 : UInt8).toNat = 48 := rfl
        omega
    · rw [dif_neg h10]
      obtain ⟨d, rfl⟩ : ∃ m, d = m + 1 := ⟨d - 1, by omega⟩
      obtain ⟨⟨h1, h2, h3⟩, h4, h5⟩ := digits_num d (u / 10) (by omega)
      have hh : (Lib.decDigits (u / 10) ++ [UInt8.ofNat (48 + u % 10)]).head? ≠ some 48 := by
        have := h5 (by omega)
        cases hD : Lib.decDigits (u / 10) with
        | nil => exact absurd hD h2
        | cons x y => rw [hD] at this; simpa using this
      refine ⟨⟨?_, by simp, fun e => absurd e hh⟩, fun a => ?_, fun _ => hh⟩
      · rw [List.all_append, h1, Bool.true_and]
        rw [List.all_cons, dg1_ofNat (show u % 10 < 10 by omega)]; rfl
      · rw [List.append_assoc, h4, List.cons_append, Lib.decFrom, digitVal_of (dg1_ofNat (by omega)), ofNat_digit (by omega)]
        simp only [List.nil_append]
        rw [show u / 10 * 10 + (48 + u % 10 - 48) = u by omega]
theorem digits_isNum (u : Nat) : isNum (Lib.decDigits u) := (digits_num u u (Nat.le_refl _)).1
theorem digits_from (u : Nat) (a : List UInt8) : Lib.decFrom 0 (Lib.decDigits u ++ a) = Lib.decFrom u a := (digits_num u u (Nat.le_refl _)).2.1 a
theorem digits_back (u : Nat) : Lib.decFrom 0 (Lib.decDigits u) = some u := by have := digits_from u []; rwa [List.append_nil] at this

end Go.Proofs.YthhhmcijbplcoaaGreatDoor
