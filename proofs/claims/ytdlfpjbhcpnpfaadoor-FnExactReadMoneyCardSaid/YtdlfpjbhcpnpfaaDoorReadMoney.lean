/- An amount's text that is read: both sides tell the same. -/
import Derived.Test.YtdlfpjbhcpnpfaaDoorPFnExactReadMoneyx1
import Derived.Test.YtdlfpjbhcpnpfaaDoorPFnExactReadMoneyx2
import Derived.Test.YtdlfpjbhcpnpfaaDoorPFnExactReadMoneyx3
import Derived.Test.YtdlfpjbhcpnpfaaDoorNumber
import Derived.Test.YtdlfpjbhcpnpfaaDoorCutText
import Derived.Test.YtdlfpjbhcpnpfaaDoorDigitsAre
import Derived.Test.YtdlfpjbhcpnpfaaDoorMoneyI
namespace Go.Proofs.YtdlfpjbhcpnpfaaDoor
open Go.RowKit Go.Proofs.YtdlfpjbhcpnpfaaDoor.PFnExactReadMoney Go.Proofs.YtdlfpjbhcpnpfaaDoorW.PrintWords Go.Proofs.YtdlfpjbhcpnpfaaDoorW.PrintLast

/-- An amount, if it is one. -/
def told (n : Int) : Int × Int := if -1000000000 ≤ n ∧ n ≤ 1000000000 then (n, 0) else (0, 11)
theorem in_is (a b c : Int) : spec_l01In.f a b c = some (decide (b ≤ a ∧ a ≤ c)) := by
  unfold spec_l01In.f
  by_cases h : a ≥ b
  · rw [if_pos h]; exact congrArg some (decide_eq_decide.2 ⟨fun x => ⟨h, x⟩, fun x => x.2⟩)
  · rw [if_neg h]; exact congrArg some (decide_eq_false (fun x => h x.1)).symm
theorem within_is (a b c : Int) : impl_within.f a b c = some (decide (b ≤ a ∧ a ≤ c)) := by
  unfold impl_within.f
  by_cases h : a ≥ b
  · rw [if_pos h]; exact congrArg some (decide_eq_decide.2 ⟨fun x => ⟨h, x⟩, fun x => x.2⟩)
  · rw [if_neg h]; exact congrArg some (decide_eq_false (fun x => h x.1)).symm
theorem told_is (n : Int) : spec_l01Told.f n = some (told n) := by
  unfold spec_l01Told.f spec_l01Money.f told
  rw [in_is, Option.bind_some, Option.bind_some]
  by_cases h : -1000000000 ≤ n ∧ n ≤ 1000000000
  · rw [decide_eq_true h, if_pos rfl, if_pos h]
  · rw [decide_eq_false h, if_neg (by decide), if_neg h]
theorem money_is (n : Int) : impl_money.f n = some (told n) := by
  unfold impl_money.f impl_isMoney.f told
  rw [within_is, Option.bind_some, Option.bind_some]
  by_cases h : -1000000000 ≤ n ∧ n ≤ 1000000000
  · rw [decide_eq_true h, if_pos rfl, if_pos h]
  · rw [decide_eq_false h, if_neg (by decide), if_neg h]

/-- The hundredths of a text of digits and two digits more. -/
def cts (W : List UInt8) (x y : UInt8) : Nat := dec W * 100 + (x.toNat - 48) * 10 + (y.toNat - 48)
/-- A text that may be an amount's: a sign or none, digits, a point, two digits. -/
structure Shape (l : List UInt8) (neg : Bool) (W : List UInt8) (x y : UInt8) : Prop where
  eq : l = (if neg then [45] else []) ++ W ++ [46, x, y]
  digits : W.all dg1 = true
  some : W ≠ []
  few : W.length ≤ 15
  hx : dg1 x = true
  hy : dg1 y = true
/-- What a text of that shape is read as. -/
def readS (neg : Bool) (W : List UInt8) (x y : UInt8) : Int × Int :=
  if isNum W ∧ ¬ (neg = true ∧ cts W x y = 0) then told (if neg then -(cts W x y : Int) else (cts W x y : Int)) else (0, 4)

theorem cts_lt {W : List UInt8} {x y : UInt8} (hd : W.all dg1 = true) (hf : W.length ≤ 15) (hx : dg1 x = true) (hy : dg1 y = true) : cts W x y < 100000000000000000 := by
  have h1 := dec_lt hd
  have h2 : (10 : Nat) ^ W.length ≤ 10 ^ 15 := Nat.pow_le_pow_right (by omega) hf
  have h3 := dg1_iff.1 hx
  have h4 := dg1_iff.1 hy
  unfold cts; omega
theorem dec_cts {W : List UInt8} {x y : UInt8} (hd : W.all dg1 = true) (hx : dg1 x = true) (hy : dg1 y = true) : Lib.decFrom 0 (W ++ [x, y]) = some (cts W x y) := by
  rw [dec_app, dec_is hd, Option.bind_some, Lib.decFrom, digitVal_of hx]
  simp only
  rw [Lib.decFrom, digitVal_of hy]
  simp only [Lib.decFrom, Option.some.injEq]
  unfold cts; omega
theorem mText_cts {W : List UInt8} {x y : UInt8} (hx : dg1 x = true) (hy : dg1 y = true) : mText (cts W x y) = Lib.decDigits (dec W) ++ [46, x, y] := by
  have h3 := dg1_iff.1 hx
  have h4 := dg1_iff.1 hy
  unfold mText
  have e1 : cts W x y / 100 = dec W := by unfold cts; omega
  have e2 : cts W x y / 10 % 10 = x.toNat - 48 := by unfold cts; omega
  have e3 : cts W x y % 10 = y.toNat - 48 := by unfold cts; omega
  rw [e1, e2, e3, u8_back8 hx, u8_back8 hy]
theorem digits_ne45 {W : List UInt8} (hd : W.all dg1 = true) : W.head? ≠ some 45 := by
  cases W with
  | nil => simp
  | cons a t =>
    intro h
    simp only [List.head?_cons, Option.some.injEq] at h
    subst h
    rw [List.all_cons, Bool.and_eq_true] at hd
    exact absurd hd.1 (by decide)
theorem dec_eq_num {W : List UInt8} : Lib.decDigits (dec W) = W → isNum W := fun h => by rw [← h]; exact digits_isNum _
/-- The program writes the number again just where it is written without a needless 0 or sign. -/
theorem again_iff {l : List UInt8} {neg : Bool} {W : List UInt8} {x y : UInt8} (h : Shape l neg W x y) : moneyT (if neg then -(cts W x y : Int) else (cts W x y : Int)) = l ↔ (isNum W ∧ ¬ (neg = true ∧ cts W x y = 0)) := by
  have hm := mText_cts h.hx h.hy (W := W)
  have hW : ∀ p : List UInt8, p ++ Lib.decDigits (dec W) ++ [46, x, y] = p ++ W ++ [46, x, y] ↔ isNum W := fun p => by
    rw [List.append_assoc, List.append_assoc, List.append_cancel_left_eq, List.append_cancel_right_eq]
    exact ⟨dec_eq_num, fun hn => num_text hn (dec_is h.digits)⟩
  rw [h.eq]
  cases neg with
  | false =>
    unfold moneyT
    simp only [Bool.false_eq_true, if_false, false_and, not_false_eq_true, and_true]
    rw [if_neg (by omega), Int.toNat_natCast, hm]
    exact hW []
  | true =>
    unfold moneyT
    simp only [if_true, true_and]
    by_cases h0 : cts W x y = 0
    · rw [if_neg (by omega), h0]
      refine ⟨fun e => ?_, fun e => absurd rfl e.2⟩
      exfalso
      have e2 : (mText (-((0 : Nat) : Int)).toNat).head? = some 45 := by rw [e]; rfl
      have hz : (-((0 : Nat) : Int)).toNat = 0 := rfl
      rw [hz] at e2
      unfold mText at e2
      rw [Lib.decDigits_one (by omega)] at e2
      exact absurd e2 (by decide)
    · rw [if_pos (by omega), show (-((cts W x y : Nat) : Int)).natAbs = cts W x y by omega, hm]
      exact ⟨fun e => ⟨(hW [45]).1 e, h0⟩, fun e => (hW [45]).2 e.1⟩

theorem impl_good {l : List UInt8} {neg : Bool} {W : List UInt8} {x y : UInt8} (h : Shape l neg W x y) (k : Nat) (hk : 5 ≤ k) : impl_ReadMoney.j0 k (bs l) neg (bs W) (bs [x, y]) false = some (readS neg W x y) := by
  obtain ⟨k, rfl⟩ : ∃ q, k = q + 1 := ⟨k - 1, by omega⟩
  obtain ⟨k, rfl⟩ : ∃ q, k = q + 1 := ⟨k - 1, by omega⟩
  have hc := cts_lt h.digits h.few h.hx h.hy
  have hf := h.few
  have hA : strconv_Atoi.f (bs W ++ bs [x, y]) = some ((cts W x y : Int), none) := by
    unfold strconv_Atoi.f
    rw [bs_app, bs_size, if_pos (by simp only [List.length_append, List.length_cons, List.length_nil]; omega), bs_list]
    have e := dec_cts h.digits h.hx h.hy
    have hne := digits_ne45 h.digits
    cases W with
    | nil => exact absurd rfl h.some
    | cons a t =>
      have ha : dg1 a = true := by have := h.digits; rw [List.all_cons, Bool.and_eq_true] at this; exact this.1
      have e45 : (a == 45) = false := beq_eq_false_iff_ne.2 (fun q => by rw [q] at ha; exact absurd ha (by decide))
      have e43 : (a == 43) = false := beq_eq_false_iff_ne.2 (fun q => by rw [q] at ha; exact absurd ha (by decide))
      rw [List.cons_append] at e ⊢
      unfold Lib.atoi Lib.decNat
      simp only [e45, e43, Bool.false_eq_true, if_false, List.isEmpty_cons, e, Option.map_some]
  have hend : ∀ v : Int, v = (if neg then -(cts W x y : Int) else (cts W x y : Int)) → impl_ReadMoney.j1 (k + 1) (bs l) v = some (readS neg W x y) := fun v hv => by
    have hv0 : -9223372036854775807 ≤ v ∧ v ≤ 9223372036854775807 := by rw [hv]; split <;> omega
    rw [impl_ReadMoney.j1, moneyText_is v hv0.1 hv0.2, Option.bind_some, bs_toList, bs_toList, money_is, Option.bind_some]
    unfold readS
    have hi := again_iff h
    rw [← hv] at hi ⊢
    by_cases c : moneyT v = l
    · rw [if_pos c, if_pos (hi.1 c)]
    · rw [if_neg c, if_neg (fun q => c (hi.2 q))]
  rw [impl_ReadMoney.j0, if_neg (by decide), if_pos (by rw [bs_size, bs_size]; simp only [List.length_cons, List.length_nil]; omega), hA, Option.bind_some]
  cases neg with
  | true => rw [if_pos rfl]; exact hend _ (by rw [if_pos rfl, w64 (by omega) (by omega)])
  | false => rw [if_neg (by decide)]; exact hend _ (by rw [if_neg (by decide)])

/-- The program's side: a text of the shape is read as it is; any other is refused. -/
theorem impl_is (l : List UInt8) (hl : l.length ≤ 65536) (k : Nat) (hk : 5 ≤ k) (ht : impl_areTexts.f [bs l] = some true) :
    (∃ neg W x y, Shape l neg W x y ∧ impl_ReadMoney.f k (bs l) = some (readS neg W x y)) ∨ ((¬ ∃ neg W x y, Shape l neg W x y) ∧ impl_ReadMoney.f k (bs l) = some (0, 4)) := by
  obtain ⟨k, rfl⟩ : ∃ q, k = q + 1 := ⟨k - 1, by omega⟩
  have bad : ∀ n p q, impl_ReadMoney.j0 (k + 1) (bs l) n p q true = some (0, 4) := fun n p q => by rw [impl_ReadMoney.j0, if_pos rfl]
  have core : ∀ (neg : Bool) (D : List UInt8), l = (if neg then [45] else []) ++ D → (neg = false → D.head? ≠ some 45) →
      (∃ W x y, Shape l neg W x y ∧ ((strings_Cut.f (bs D) (⟨#[46]⟩ : ByteArray)).bind fun bt126 => ((impl_within.f (bt126.1.size : Int) 1 15).bind fun t129 => (if t129 = true then (if (bt126.2.1.size : Int) = 2 then ((impl_areDigits.f bt126.1).bind fun t130 => (if t130 = true then ((impl_areDigits.f bt126.2.1).bind fun t131 => (impl_ReadMoney.j0 (k + 1) (bs l) neg bt126.1 bt126.2.1 (!t131))) else (impl_ReadMoney.j0 (k + 1) (bs l) neg bt126.1 bt126.2.1 true))) else (impl_ReadMoney.j0 (k + 1) (bs l) neg bt126.1 bt126.2.1 true)) else (impl_ReadMoney.j0 (k + 1) (bs l) neg bt126.1 bt126.2.1 true)))) = some (readS neg W x y)) ∨
      ((¬ ∃ neg W x y, Shape l neg W x y) ∧ ((strings_Cut.f (bs D) (⟨#[46]⟩ : ByteArray)).bind fun bt126 => ((impl_within.f (bt126.1.size : Int) 1 15).bind fun t129 => (if t129 = true then (if (bt126.2.1.size : Int) = 2 then ((impl_areDigits.f bt126.1).bind fun t130 => (if t130 = true then ((impl_areDigits.f bt126.2.1).bind fun t131 => (impl_ReadMoney.j0 (k + 1) (bs l) neg bt126.1 bt126.2.1 (!t131))) else (impl_ReadMoney.j0 (k + 1) (bs l) neg bt126.1 bt126.2.1 true))) else (impl_ReadMoney.j0 (k + 1) (bs l) neg bt126.1 bt126.2.1 true)) else (impl_ReadMoney.j0 (k + 1) (bs l) neg bt126.1 bt126.2.1 true)))) = some (0, 4)) := by
    intro neg D hD hne
    have hlen : D.length ≤ l.length := by rw [hD]; simp
    -- whatever shape l has, D is cut as that shape says
    have only : ∀ neg' W x y, Shape l neg' W x y → D = W ++ [46, x, y] := fun neg' W x y s => by
      have e := hD.symm.trans s.eq
      cases neg <;> cases neg'
      · simpa using e
      · exfalso; have := hne rfl; simp only [Bool.false_eq_true, if_false, if_true, List.nil_append] at e; rw [e] at this; exact this rfl
      · exfalso
        have hw := digits_ne45 s.digits
        have hs := s.some
        simp only [Bool.false_eq_true, if_false, if_true, List.nil_append] at e
        cases W with
        | nil => exact hs rfl
        | cons a t => simp only [List.cons_append, List.cons.injEq] at e; exact hw (by rw [List.head?_cons, ← e.1])
      · simpa using e
    have hcut : strings_Cut.f (bs D) (⟨#[46]⟩ : ByteArray) = some (bs (Lib.cut D [46]).1, bs (Lib.cut D [46]).2.1, (Lib.cut D [46]).2.2) := by
      unfold strings_Cut.f
      rw [bs_size, if_pos (by omega), bs_list]
      rfl
    rw [hcut, Option.bind_some]
    simp only [bs_size]
    rcases byte_parts 46 D with h46 | ⟨P, Q, h46, rfl⟩
    · refine .inr ⟨fun ⟨neg', W, x, y, s⟩ => h46 (by rw [only _ _ _ _ s]; simp), ?_⟩
      rw [cut_no 46 D h46, within_is, Option.bind_some]
      simp only [bad, List.length_nil]
      by_cases c : decide (1 ≤ (D.length : Int) ∧ (D.length : Int) ≤ 15) = true
      · rw [if_pos c, if_neg (by decide)]
      · rw [if_neg c]
    · rw [cut_at 46 P Q h46, within_is, Option.bind_some]
      simp only [bad]
      have hPQ : P.length + Q.length ≤ 65536 := by simp only [List.length_append, List.length_cons] at hlen; omega
      have no : (∀ x y, Q = [x, y] → ¬ (P.all dg1 = true ∧ P ≠ [] ∧ P.length ≤ 15 ∧ dg1 x = true ∧ dg1 y = true)) → ¬ ∃ neg W x y, Shape l neg W x y := fun hno ⟨neg', W, x, y, s⟩ => by
        have e := only _ _ _ _ s
        have hW46 : (46 : UInt8) ∉ W := fun m => absurd (List.all_eq_true.1 s.digits _ m) (by decide)
        have c1 := cut_at 46 P Q h46
        have c2 := cut_at 46 W [x, y] hW46
        rw [e] at c1
        have c3 := c1.symm.trans c2
        simp only [Prod.mk.injEq, and_true] at c3
        exact hno x y c3.2 (by rw [c3.1]; exact ⟨s.digits, s.some, s.few, s.hx, s.hy⟩)
      by_cases cP : 1 ≤ (P.length : Int) ∧ (P.length : Int) ≤ 15
      · rw [if_pos (decide_eq_true cP)]
        by_cases cQ : (Q.length : Int) = 2
        · rw [if_pos cQ, areDigits_is P (by omega), Option.bind_some, areDigits_is Q (by omega), Option.bind_some]
          obtain ⟨x, y, rfl⟩ : ∃ x y, Q = [x, y] := by
            match Q, cQ with
            | [x, y], _ => exact ⟨x, y, rfl⟩
          by_cases dP : P.all dg1 = true
          · rw [if_pos dP]
            by_cases dQ : [x, y].all dg1 = true
            · have hx : dg1 x = true := by simp only [List.all_cons, List.all_nil, Bool.and_true, Bool.and_eq_true] at dQ; exact dQ.1
              have hy : dg1 y = true := by simp only [List.all_cons, List.all_nil, Bool.and_true, Bool.and_eq_true] at dQ; exact dQ.2
              have s : Shape l neg P x y := ⟨by rw [hD]; simp, dP, fun q => by rw [q] at cP; simp at cP, by omega, hx, hy⟩
              refine .inl ⟨P, x, y, s, ?_⟩
              rw [dQ]
              exact impl_good s _ (by omega)
            · refine .inr ⟨no fun x' y' e q => dQ ?_, ?_⟩
              · simp only [List.cons.injEq, and_true] at e
                simp only [List.all_cons, List.all_nil, Bool.and_true, Bool.and_eq_true]
                rw [e.1, e.2]; exact ⟨q.2.2.2.1, q.2.2.2.2⟩
              · rw [Bool.eq_false_iff.2 dQ]; exact bad _ _ _
          · rw [if_neg dP]
            exact .inr ⟨no fun x' y' _ q => dP q.1, rfl⟩
        · rw [if_neg cQ]
          exact .inr ⟨no fun x' y' e _ => cQ (by rw [e]; rfl), rfl⟩
      · rw [if_neg (by rw [decide_eq_false cP]; decide)]
        refine .inr ⟨no fun x' y' _ q => cP ?_, rfl⟩
        have : P.length ≠ 0 := fun z => q.2.1 (List.length_eq_zero_iff.1 z)
        have := q.2.2.1
        omega
  unfold impl_ReadMoney.f
  rw [ht, Option.bind_some, if_pos rfl]
  unfold strings_CutPrefix.f
  rw [Option.bind_some, bs_list]
  have hp : Lib.hasPrefix l [45] = decide (l.head? = some 45) := by
    unfold Lib.hasPrefix
    cases l with
    | nil => rfl
    | cons a t =>
      by_cases c : a = 45
      · subst c; rfl
      · rw [decide_eq_false (by simpa using c)]
        simp only [List.isPrefixOf, Bool.and_true, beq_eq_false_iff_ne]
        exact fun q => c q.symm
  have hp2 : Lib.hasPrefix l ((⟨#[45]⟩ : ByteArray).data.toList) = decide (l.head? = some 45) := hp
  unfold Lib.trimPrefix
  rw [hp2]
  by_cases c : l.head? = some 45
  · rw [decide_eq_true c, if_pos rfl]
    have hD : l = (if true then [45] else []) ++ l.drop 1 := by
      cases l with
      | nil => simp at c
      | cons a t => simp only [List.head?_cons, Option.some.injEq] at c; subst c; rfl
    rcases core true (l.drop 1) hD (fun h => by cases h) with ⟨W, x, y, s, e⟩ | ⟨n, e⟩
    · exact .inl ⟨true, W, x, y, s, e⟩
    · exact .inr ⟨n, e⟩
  · rw [decide_eq_false c, if_neg (by decide)]
    rcases core false l rfl (fun _ => c) with ⟨W, x, y, s, e⟩ | ⟨n, e⟩
    · exact .inl ⟨false, W, x, y, s, e⟩
    · exact .inr ⟨n, e⟩

/-- The reference's side. -/
theorem spec_j3 (neg : Bool) (W : List UInt8) (x y : UInt8) (hd : W.all dg1 = true) (hf : W.length ≤ 15) (k : Nat) (hk : 1 ≤ k) (hN : isNum W) :
    spec_ReadMoney.j3 k (if neg then -1 else 1) (dec W : Int) ((x.toNat : Int) - 48) ((y.toNat : Int) - 48) (!(dg1 x && dg1 y)) = some (if dg1 x = true ∧ dg1 y = true then readS neg W x y else (0, 4)) := by
  obtain ⟨k, rfl⟩ : ∃ q, k = q + 1 := ⟨k - 1, by omega⟩
  by_cases h : dg1 x = true ∧ dg1 y = true
  · rw [if_pos h, h.1, h.2, spec_ReadMoney.j3, if_neg (by decide)]
    have hc := cts_lt hd hf h.1 h.2
    have h3 := dg1_iff.1 h.1
    have h4 := dg1_iff.1 h.2
    have hl := dec_lt hd
    have h2 : (10 : Nat) ^ W.length ≤ 10 ^ 15 := Nat.pow_le_pow_right (by omega) hf
    have ev : wrap64 (wrap64 (wrap64 ((dec W : Int) * 100) + wrap64 (((x.toNat : Int) - 48) * 10)) + ((y.toNat : Int) - 48)) = (cts W x y : Int) := by
      rw [w64 (x := (dec W : Int) * 100) (by omega) (by omega), w64 (x := ((x.toNat : Int) - 48) * 10) (by omega) (by omega), w64 (x := (dec W : Int) * 100 + ((x.toNat : Int) - 48) * 10) (by omega) (by omega), w64 (by omega) (by omega)]
      unfold cts; omega
    rw [ev]
    unfold readS
    cases neg with
    | true =>
      simp only [if_true, true_and]
      by_cases h0 : cts W x y = 0
      · rw [if_pos (by omega), if_pos (by decide), if_neg (fun q => q.2 h0)]
      · rw [if_neg (by omega), if_pos ⟨hN, h0⟩, w64 (by omega) (by omega), told_is, Option.bind_some, show (-1 : Int) * (cts W x y : Int) = -(cts W x y : Int) by omega]
    | false =>
      simp only [Bool.false_eq_true, if_false, false_and, not_false_eq_true, and_true]
      rw [if_pos hN, w64 (by omega) (by omega), told_is, Option.bind_some, show (1 : Int) * (cts W x y : Int) = (cts W x y : Int) by omega]
      by_cases h0 : (cts W x y : Int) = 0
      · rw [if_pos h0, if_neg (by decide)]
      · rw [if_neg h0]
  · have e : (!(dg1 x && dg1 y)) = true := by
      cases hx : dg1 x <;> cases hy : dg1 y <;> simp_all
    rw [if_neg h, e, spec_ReadMoney.j3, if_pos rfl]
theorem numAt_good {s : Int} {W : List UInt8} (h : isNum W ∧ W.length ≤ 18 ∧ ¬ (s < 0 ∧ W.head? = some 48)) : numAt s W = (wrap64 (s * dec W), true) := by unfold numAt; exact if_pos h
theorem numAt_bad {s : Int} {W : List UInt8} (h : ¬ (isNum W ∧ W.length ≤ 18 ∧ ¬ (s < 0 ∧ W.head? = some 48))) : numAt s W = (0, false) := by unfold numAt; exact if_neg h
def endT (neg : Bool) (W : List UInt8) (x y : UInt8) : Int × Int := if isNum W ∧ W.length ≤ 15 ∧ dg1 x = true ∧ dg1 y = true then readS neg W x y else (0, 4)
def endS (H : List UInt8) (x y : UInt8) : Int × Int := if H.head? = some 45 then endT true H.tail x y else endT false H x y
theorem endS_neg (W : List UInt8) (x y : UInt8) : endS (45 :: W) x y = endT true W x y := if_pos rfl
theorem endS_pos {W : List UInt8} (h : W.head? ≠ some 45) (x y : UInt8) : endS W x y = endT false W x y := if_neg h
theorem endT_bad {neg : Bool} {W : List UInt8} {x y : UInt8} (h : ¬ (isNum W ∧ W.length ≤ 15 ∧ dg1 x = true ∧ dg1 y = true)) : endT neg W x y = (0, 4) := if_neg h
theorem endT_shape {l : List UInt8} {neg : Bool} {W : List UInt8} {x y : UInt8} (s : Shape l neg W x y) : endT neg W x y = readS neg W x y := by
  by_cases hn : isNum W
  · exact if_pos ⟨hn, s.few, s.hx, s.hy⟩
  · unfold readS
    rw [if_neg (fun q => hn q.1)]
    exact if_neg (fun q => hn q.1)
theorem spec_j1 (l : List UInt8) (neg : Bool) (W : List UInt8) (x y : UInt8) (hs : W.head? ≠ some 45 ∨ neg = true) (hl : l.length ≤ 65536) (he : l = (if neg then [45] else []) ++ W ++ [46, x, y]) (k : Nat) (hk : 40 ≤ k) :
    spec_ReadMoney.j1 k (bs l) (l.length : Int) (if neg then -1 else 1) (bs W) = some (endT neg W x y) := by
  obtain ⟨k, rfl⟩ : ∃ q, k = q + 1 := ⟨k - 1, by omega⟩
  obtain ⟨k, rfl⟩ : ∃ q, k = q + 1 := ⟨k - 1, by omega⟩
  have bad : ∀ a b c, spec_ReadMoney.j2 (k + 1) (bs l) a b c true = some (0, 4) := fun a b c => by rw [spec_ReadMoney.j2, if_pos rfl]
  obtain ⟨R, hR⟩ : ∃ R, R = (if isNum W ∧ W.length ≤ 15 ∧ dg1 x = true ∧ dg1 y = true then readS neg W x y else (0, 4)) := ⟨_, rfl⟩
  rw [show endT neg W x y = R from hR.symm]
  have hno : ¬ (isNum W ∧ W.length ≤ 15 ∧ dg1 x = true ∧ dg1 y = true) → R = (0, 4) := fun q => by rw [hR, if_neg q]
  rw [spec_ReadMoney.j1, num_is W (k + 1) (by omega), Option.bind_some]
  simp only [bs_size, bad]
  by_cases h45 : W.head? = some 45
  · have hn : ¬ isNum W := fun h => digits_ne45 h.1 h45
    rw [hno (fun q => hn q.1)]
    have hpos : 0 < (W.length : Int) := by cases W with | nil => simp at h45 | cons a t => simp only [List.length_cons]; omega
    have h0 : bt (bs W) 0 = 45 := by
      cases W with
      | nil => simp at h45
      | cons a t =>
        simp only [List.head?_cons, Option.some.injEq] at h45
        subst h45
        exact bt_bs (l := 45 :: t) (i := 0) (by simp)
    rw [if_pos hpos, h0, show ((45 : Int) == 45) = true from rfl, bad]
    simp
  · unfold numS
    rw [if_neg h45]
    by_cases hn : isNum W
    · by_cases h18 : W.length ≤ 18
      · rw [numAt_good ⟨hn, h18, fun q => absurd q.1 (by decide)⟩]
        simp only [if_true]
        by_cases h15 : W.length ≤ 15
        · have hpos : W.length ≠ 0 := fun z => hn.2.1 (List.length_eq_zero_iff.1 z)
          have hne : (bt (bs W) 0 == 45) = false := by
            rw [beq_eq_false_iff_ne]
            cases W with
            | nil => exact absurd rfl hn.2.1
            | cons a t =>
              rw [show bt (bs (a :: t)) 0 = (a.toNat : Int) from bt_bs (l := a :: t) (i := 0) (by simp)]
              intro q
              have ea : a = 45 := UInt8.toNat_inj.1 (by rw [show (45 : UInt8).toNat = 45 from rfl]; omega)
              exact h45 (by rw [ea]; rfl)
          have hl' := dec_lt hn.1
          have h2 : (10 : Nat) ^ W.length ≤ 10 ^ 15 := Nat.pow_le_pow_right (by omega) h15
          have hll : l.length = (if neg then 1 else 0) + W.length + 3 := by rw [he]; cases neg <;> simp [Nat.add_comm, Nat.add_left_comm]
          have hl3 : W.length + 3 ≤ l.length := by rw [hll]; split <;> omega
          have e2 : wrap64 ((l.length : Int) - 2) = ((l.length - 2 : Nat) : Int) := by rw [w64 (by omega) (by omega)]; omega
          have e1 : wrap64 ((l.length : Int) - 1) = ((l.length - 1 : Nat) : Int) := by rw [w64 (by omega) (by omega)]; omega
          have gx : ∀ h : l.length - 2 < l.length, l[l.length - 2] = x := fun h => by
            have : l[l.length - 2]? = some x := by
              rw [he]
              rw [show (((if neg then [45] else []) ++ W ++ [46, x, y] : List UInt8).length - 2) = ((if neg then [45] else []) ++ W : List UInt8).length + 1 by simp only [List.length_append, List.length_cons, List.length_nil]; omega]
              rw [List.getElem?_append_right (by omega)]
              simp
            rw [List.getElem?_eq_getElem h] at this
            exact Option.some.inj this
          have gy : ∀ h : l.length - 1 < l.length, l[l.length - 1] = y := fun h => by
            have : l[l.length - 1]? = some y := by
              rw [he]
              rw [show (((if neg then [45] else []) ++ W ++ [46, x, y] : List UInt8).length - 1) = ((if neg then [45] else []) ++ W : List UInt8).length + 2 by simp only [List.length_append, List.length_cons, List.length_nil]; omega]
              rw [List.getElem?_append_right (by omega)]
              simp
            rw [List.getElem?_eq_getElem h] at this
            exact Option.some.inj this
          have bx : x.toNat < 256 := x.toNat_lt
          have by_ : y.toNat < 256 := y.toNat_lt
          have dx : decide (0 ≤ (x.toNat : Int) - 48 ∧ (x.toNat : Int) - 48 ≤ 9) = dg1 x := by unfold dg1; exact decide_eq_decide.2 (by omega)
          have dy : decide (0 ≤ (y.toNat : Int) - 48 ∧ (y.toNat : Int) - 48 ≤ 9) = dg1 y := by unfold dg1; exact decide_eq_decide.2 (by omega)
          rw [if_neg (by omega), if_pos (by omega), hne, spec_ReadMoney.j2, if_neg (by decide), e2, e1, bs_size, if_pos (by omega), if_pos (by omega), if_pos (by omega), if_pos (by omega), bt_bs (by omega), bt_bs (by omega), gx, gy,
            w64 (x := (x.toNat : Int)) (by omega) (by omega), w64 (x := (x.toNat : Int) - 48) (by omega) (by omega), w64 (x := (y.toNat : Int)) (by omega) (by omega), w64 (x := (y.toNat : Int) - 48) (by omega) (by omega),
            in_is, in_is, dx, dy, Option.bind_some, Option.bind_some, w64 (x := 1 * (dec W : Int)) (by omega) (by omega), Int.one_mul]
          have J := spec_j3 neg W x y hn.1 h15 k (by omega) hn
          have ec : R = (if dg1 x = true ∧ dg1 y = true then readS neg W x y else (0, 4)) := by
            rw [hR]
            by_cases q : dg1 x = true ∧ dg1 y = true
            · rw [if_pos ⟨hn, h15, q⟩, if_pos q]
            · rw [if_neg (fun z => q z.2.2), if_neg q]
          rw [ec, ← J]
          cases hx : dg1 x <;> simp
        · rw [if_pos (by omega), hno (fun q => h15 q.2.1)]
      · rw [hno (fun q => h18 (by omega)), numAt_bad (fun q => h18 q.2.1)]
        simp
    · rw [hno (fun q => hn q.1), numAt_bad (fun q => hn q.1)]
      simp
theorem spec_is (l : List UInt8) (hl : l.length ≤ 65536) (k : Nat) (hk : 60 ≤ k) :
    (∀ neg W x y, Shape l neg W x y → spec_ReadMoney.f k (bs l) = some (readS neg W x y)) ∧ ((¬ ∃ neg W x y, Shape l neg W x y) → spec_ReadMoney.f k (bs l) = some (0, 4)) := by
  obtain ⟨k, rfl⟩ : ∃ q, k = q + 1 := ⟨k - 1, by omega⟩
  have bad : ∀ a b, spec_ReadMoney.j0 (k + 1) a b true = some (0, 4) := fun a b => by rw [spec_ReadMoney.j0, if_pos rfl]
  -- a text that ends in a point and two bytes
  have core : ∀ H x y, H ≠ [] → l = H ++ [46, x, y] → spec_ReadMoney.f (k + 1) (bs l) = some (endS H x y) := by
    intro H x y hH he
    have hlen : l.length = H.length + 3 := by rw [he]; simp
    have hpos : H.length ≠ 0 := fun z => hH (List.length_eq_zero_iff.1 z)
    have e3 : wrap64 ((l.length : Int) - 3) = ((H.length : Nat) : Int) := by rw [w64 (by omega) (by omega)]; omega
    have g46 : bt (bs l) ((H.length : Nat) : Int) = 46 := by
      rw [bt_bs (by omega)]
      have : l[H.length]? = some 46 := by rw [he, List.getElem?_append_right (by omega)]; simp
      rw [List.getElem?_eq_getElem (by omega)] at this
      rw [Option.some.inj this]; rfl
    have hx : (bs l).extract 0 ((H.length : Nat) : Int).toNat = bs H := by
      rw [Int.toNat_natCast, bs_cut, List.drop_zero, he, Nat.sub_zero, List.take_left]
    unfold spec_ReadMoney.f
    rw [bs_size, if_neg (by omega), if_neg (by omega), e3, if_pos (by omega), if_pos (by omega), g46, show ((46 : Int) != 46) = false from rfl, spec_ReadMoney.j0, if_neg (by decide), e3, if_pos (by omega), bs_size, if_pos (by omega), hx, bs_size, if_pos (by omega)]
    cases H with
    | nil => exact absurd rfl hH
    | cons a t =>
      rw [show bt (bs (a :: t)) 0 = (a.toNat : Int) from bt_bs (l := a :: t) (i := 0) (by simp)]
      by_cases c : ((a.toNat : Nat) : Int) = 45
      · have ea : a = 45 := UInt8.toNat_inj.1 (by rw [show (45 : UInt8).toNat = 45 from rfl]; omega)
        subst ea
        rw [if_pos c, if_pos (by simp only [List.length_cons]; omega), bs_cut, endS_neg]
        have e : (List.drop 1 (45 :: t)).take ((45 :: t : List UInt8).length - 1) = t := by simp
        rw [e]
        exact spec_j1 l true t x y (.inr rfl) hl he k (by omega)
      · have hne : ¬ ((a :: t).head? = some 45) := fun h => by
          simp only [List.head?_cons, Option.some.injEq] at h
          rw [h] at c; exact c rfl
        rw [if_neg c, endS_pos hne]
        exact spec_j1 l false (a :: t) x y (.inl hne) hl (by rw [he]; rfl) k (by omega)
  refine ⟨fun neg W x y s => ?_, fun hno => ?_⟩
  · have hw := digits_ne45 s.digits
    cases neg with
    | true => rw [core ([45] ++ W) x y (by simp) s.eq, ← endT_shape s]; exact congrArg some (endS_neg W x y)
    | false =>
      have e := s.eq
      simp only [Bool.false_eq_true, if_false, List.nil_append] at e
      rw [core W x y s.some e, endS_pos hw, endT_shape s]
  · by_cases h4 : l.length < 4
    · unfold spec_ReadMoney.f
      rw [bs_size, if_neg (by omega), if_pos (by omega), bad]
    · by_cases h46 : l[l.length - 3]? = some 46
      · have hlt : l.length - 3 < l.length := by omega
        obtain ⟨H, x, y, hH, he⟩ : ∃ H x y, H ≠ [] ∧ l = H ++ [46, x, y] := by
          refine ⟨l.take (l.length - 3), l[l.length - 2], l[l.length - 1], fun z => ?_, ?_⟩
          · have := congrArg List.length z
            rw [List.length_take] at this
            simp only [List.length_nil] at this; omega
          · rw [List.getElem?_eq_getElem hlt] at h46
            have h46' := Option.some.inj h46
            have hd : l.drop (l.length - 3) = [46, l[l.length - 2], l[l.length - 1]] := by
              rw [List.drop_eq_getElem_cons hlt, h46']
              congr 1
              rw [List.drop_eq_getElem_cons (by omega)]
              congr 1
              · congr 1; omega
              · rw [List.drop_eq_getElem_cons (by omega)]
                congr 1
                · congr 1; omega
                · exact List.drop_eq_nil_of_le (by omega)
            rw [← hd, List.take_append_drop]
        rw [core H x y hH he]
        have hsh : ∀ (neg : Bool) (W : List UInt8), l = (if neg then [45] else []) ++ W ++ [46, x, y] → ¬ (isNum W ∧ W.length ≤ 15 ∧ dg1 x = true ∧ dg1 y = true) := fun neg W e q => hno ⟨neg, W, x, y, e, q.1.1, q.1.2.1, q.2.1, q.2.2.1, q.2.2.2⟩
        by_cases c : H.head? = some 45
        · cases H with
          | nil => exact absurd rfl hH
          | cons a t =>
            simp only [List.head?_cons, Option.some.injEq] at c
            subst c
            rw [endS_neg, endT_bad (hsh true t (by rw [he]; rfl))]
        · rw [endS_pos c, endT_bad (hsh false H (by rw [he]; rfl))]
      · have e3 : wrap64 ((l.length : Int) - 3) = ((l.length - 3 : Nat) : Int) := by rw [w64 (by omega) (by omega)]; omega
        unfold spec_ReadMoney.f
        rw [bs_size, if_neg (by omega), if_neg (by omega), e3, if_pos (by omega), if_pos (by omega), bt_bs (by omega)]
        have hne : ((((l[l.length - 3]'(by omega)).toNat : Nat) : Int) != 46) = true := by
          rw [bne_iff_ne]
          intro q
          apply h46
          rw [List.getElem?_eq_getElem (by omega)]
          exact congrArg some (UInt8.toNat_inj.1 (by rw [show (46 : UInt8).toNat = 46 from rfl]; omega))
        rw [hne, bad]

end Go.Proofs.YtdlfpjbhcpnpfaaDoor
