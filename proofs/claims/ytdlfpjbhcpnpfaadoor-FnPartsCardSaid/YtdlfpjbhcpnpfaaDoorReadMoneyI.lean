/- An amount's text that is read by the program. -/
import Derived.Test.YtdlfpjbhcpnpfaaDoorPFnPartsx1
import Derived.Test.YtdlfpjbhcpnpfaaDoorPFnPartsx2
import Derived.Test.YtdlfpjbhcpnpfaaDoorPFnPartsx3
import Derived.Test.YtdlfpjbhcpnpfaaDoorBs
import Derived.Test.YtdlfpjbhcpnpfaaDoorDec
import Derived.Test.YtdlfpjbhcpnpfaaDoorCutText
import Derived.Test.YtdlfpjbhcpnpfaaDoorDigitsAre
import Derived.Test.YtdlfpjbhcpnpfaaDoorMoneyI
namespace Go.Proofs.YtdlfpjbhcpnpfaaDoor
open Go.RowKit Go.Proofs.YtdlfpjbhcpnpfaaDoor.PFnParts Go.Proofs.YtdlfpjbhcpnpfaaDoorW.PrintWords Go.Proofs.YtdlfpjbhcpnpfaaDoorW.PrintLast

/-- An amount, if it is one. -/
def told (n : Int) : Int × Int := if -1000000000 ≤ n ∧ n ≤ 1000000000 then (n, 0) else (0, 11)
theorem rwithin_is (a b c : Int) : impl_within.f a b c = some (decide (b ≤ a ∧ a ≤ c)) := by
  unfold impl_within.f
  by_cases h : a ≥ b
  · rw [if_pos h]; exact congrArg some (decide_eq_decide.2 ⟨fun x => ⟨h, x⟩, fun x => x.2⟩)
  · rw [if_neg h]; exact congrArg some (decide_eq_false (fun x => h x.1)).symm
theorem rmoney_is (n : Int) : impl_money.f n = some (told n) := by
  unfold impl_money.f impl_isMoney.f told
  rw [rwithin_is, Option.bind_some, Option.bind_some]
  by_cases h : -1000000000 ≤ n ∧ n ≤ 1000000000
  · rw [decide_eq_true h, if_pos rfl, if_pos h]
  · rw [decide_eq_false h, if_neg (by decide), if_neg h]

/-- The hundredths of a text of digits and two digits more. -/
def cts (W : List UInt8) (x y : UInt8) : Nat := dec W * 100 + (x.toNat - 48) * 10 + (y.toNat - 48)
/-- A text that may be an amount's: a sign or none, digits, a point, two digits. -/
structure Shape (l : List UInt8) (neg : Bool) (W : List UInt8) (x y : UInt8) : Prop where
  eq : l = (if neg then [45] else []) ++ W ++ [46, x, y]
  digits : W.all dg1 = true
  some : W ≠ []
  few : W.length ≤ 15
  hx : dg1 x = true
  hy : dg1 y = true
/-- What a text of that shape is read as. -/
def readS (neg : Bool) (W : List UInt8) (x y : UInt8) : Int × Int :=
  if isNum W ∧ ¬ (neg = true ∧ cts W x y = 0) then told (if neg then -(cts W x y : Int) else (cts W x y : Int)) else (0, 4)

theorem cts_lt {W : List UInt8} {x y : UInt8} (hd : W.all dg1 = true) (hf : W.length ≤ 15) (hx : dg1 x = true) (hy : dg1 y = true) : cts W x y < 100000000000000000 := by
  have h1 := dec_lt hd
  have h2 : (10 : Nat) ^ W.length ≤ 10 ^ 15 := Nat.pow_le_pow_right (by omega) hf
  have h3 := dg1_iff.1 hx
  have h4 := dg1_iff.1 hy
  unfold cts; omega
theorem dec_cts {W : List UInt8} {x y : UInt8} (hd : W.all dg1 = true) (hx : dg1 x = true) (hy : dg1 y = true) : Lib.decFrom 0 (W ++ [x, y]) = some (cts W x y) := by
  rw [dec_app, dec_is hd, Option.bind_some, Lib.decFrom, digitVal_of hx]
  simp only
  rw [Lib.decFrom, digitVal_of hy]
  simp only [Lib.decFrom, Option.some.injEq]
  unfold cts; omega
theorem mText_cts {W : List UInt8} {x y : UInt8} (hx : dg1 x = true) (hy : dg1 y = true) : mText (cts W x y) = Lib.decDigits (dec W) ++ [46, x, y] := by
  have h3 := dg1_iff.1 hx
  have h4 := dg1_iff.1 hy
  unfold mText
  have e1 : cts W x y / 100 = dec W := by unfold cts; omega
  have e2 : cts W x y / 10 % 10 = x.toNat - 48 := by unfold cts; omega
  have e3 : cts W x y % 10 = y.toNat - 48 := by unfold cts; omega
  rw [e1, e2, e3, u8_back8 hx, u8_back8 hy]
theorem digits_ne45 {W : List UInt8} (hd : W.all dg1 = true) : W.head? ≠ some 45 := by
  cases W with
  | nil => simp
  | cons a t =>
    intro h
    simp only [List.head?_cons, Option.some.injEq] at h
    subst h
    rw [List.all_cons, Bool.and_eq_true] at hd
    exact absurd hd.1 (by decide)
theorem dec_eq_num {W : List UInt8} : Lib.decDigits (dec W) = W → isNum W := fun h => by rw [← h]; exact digits_isNum _
/-- The program writes the number again just where it is written without a needless 0 or sign. -/
theorem again_iff {l : List UInt8} {neg : Bool} {W : List UInt8} {x y : UInt8} (h : Shape l neg W x y) : moneyT (if neg then -(cts W x y : Int) else (cts W x y : Int)) = l ↔ (isNum W ∧ ¬ (neg = true ∧ cts W x y = 0)) := by
  have hm := mText_cts h.hx h.hy (W := W)
  have hW : ∀ p : List UInt8, p ++ Lib.decDigits (dec W) ++ [46, x, y] = p ++ W ++ [46, x, y] ↔ isNum W := fun p => by
    rw [List.append_assoc, List.append_assoc, List.append_cancel_left_eq, List.append_cancel_right_eq]
    exact ⟨dec_eq_num, fun hn => num_text hn (dec_is h.digits)⟩
  rw [h.eq]
  cases neg with
  | false =>
    unfold moneyT
    simp only [Bool.false_eq_true, if_false, false_and, not_false_eq_true, and_true]
    rw [if_neg (by omega), Int.toNat_natCast, hm]
    exact hW []
  | true =>
    unfold moneyT
    simp only [if_true, true_and]
    by_cases h0 : cts W x y = 0
    · rw [if_neg (by omega), h0]
      refine ⟨fun e => ?_, fun e => absurd rfl e.2⟩
      exfalso
      have e2 : (mText (-((0 : Nat) : Int)).toNat).head? = some 45 := by rw [e]; rfl
      have hz : (-((0 : Nat) : Int)).toNat = 0 := rfl
      rw [hz] at e2
      unfold mText at e2
      rw [Lib.decDigits_one (by omega)] at e2
      exact absurd e2 (by decide)
    · rw [if_pos (by omega), show (-((cts W x y : Nat) : Int)).natAbs = cts W x y by omega, hm]
      exact ⟨fun e => ⟨(hW [45]).1 e, h0⟩, fun e => (hW [45]).2 e.1⟩

theorem impl_good {l : List UInt8} {neg : Bool} {W : List UInt8} {x y : UInt8} (h : Shape l neg W x y) (k : Nat) (hk : 5 ≤ k) : impl_ReadMoney.j0 k (bs l) neg (bs W) (bs [x, y]) false = some (readS neg W x y) := by
  obtain ⟨k, rfl⟩ : ∃ q, k = q + 1 := ⟨k - 1, by omega⟩
  obtain ⟨k, rfl⟩ : ∃ q, k = q + 1 := ⟨k - 1, by omega⟩
  have hc := cts_lt h.digits h.few h.hx h.hy
  have hf := h.few
  have hA : strconv_Atoi.f (bs W ++ bs [x, y]) = some ((cts W x y : Int), none) := by
    unfold strconv_Atoi.f
    rw [bs_app, bs_size, if_pos (by simp only [List.length_append, List.length_cons, List.length_nil]; omega), bs_list]
    have e := dec_cts h.digits h.hx h.hy
    have hne := digits_ne45 h.digits
    cases W with
    | nil => exact absurd rfl h.some
    | cons a t =>
      have ha : dg1 a = true := by have := h.digits; rw [List.all_cons, Bool.and_eq_true] at this; exact this.1
      have e45 : (a == 45) = false := beq_eq_false_iff_ne.2 (fun q => by rw [q] at ha; exact absurd ha (by decide))
      have e43 : (a == 43) = false := beq_eq_false_iff_ne.2 (fun q => by rw [q] at ha; exact absurd ha (by decide))
      rw [List.cons_append] at e ⊢
      unfold Lib.atoi Lib.decNat
      simp only [e45, e43, Bool.false_eq_true, if_false, List.isEmpty_cons, e, Option.map_some]
  have hend : ∀ v : Int, v = (if neg then -(cts W x y : Int) else (cts W x y : Int)) → impl_ReadMoney.j1 (k + 1) (bs l) v = some (readS neg W x y) := fun v hv => by
    have hv0 : -9223372036854775807 ≤ v ∧ v ≤ 9223372036854775807 := by rw [hv]; split <;> omega
    rw [impl_ReadMoney.j1, moneyText_is v hv0.1 hv0.2, Option.bind_some, bs_toList, bs_toList, rmoney_is, Option.bind_some]
    unfold readS
    have hi := again_iff h
    rw [← hv] at hi ⊢
    by_cases c : moneyT v = l
    · rw [if_pos c, if_pos (hi.1 c)]
    · rw [if_neg c, if_neg (fun q => c (hi.2 q))]
  rw [impl_ReadMoney.j0, if_neg (by decide), if_pos (by rw [bs_size, bs_size]; simp only [List.length_cons, List.length_nil]; omega), hA, Option.bind_some]
  cases neg with
  | true => rw [if_pos rfl]; exact hend _ (by rw [if_pos rfl, w64 (by omega) (by omega)])
  | false => rw [if_neg (by decide)]; exact hend _ (by rw [if_neg (by decide)])

/-- The program's side: a text of the shape is read as it is; any other is refused. -/
theorem impl_is (l : List UInt8) (hl : l.length ≤ 65536) (k : Nat) (hk : 5 ≤ k) (ht : impl_areTexts.f [bs l] = some true) :
    (∃ neg W x y, Shape l neg W x y ∧ impl_ReadMoney.f k (bs l) = some (readS neg W x y)) ∨ ((¬ ∃ neg W x y, Shape l neg W x y) ∧ impl_ReadMoney.f k (bs l) = some (0, 4)) := by
  obtain ⟨k, rfl⟩ : ∃ q, k = q + 1 := ⟨k - 1, by omega⟩
  have bad : ∀ n p q, impl_ReadMoney.j0 (k + 1) (bs l) n p q true = some (0, 4) := fun n p q => by rw [impl_ReadMoney.j0, if_pos rfl]
  have core : ∀ (neg : Bool) (D : List UInt8), l = (if neg then [45] else []) ++ D → (neg = false → D.head? ≠ some 45) →
      (∃ W x y, Shape l neg W x y ∧ ((strings_Cut.f (bs D) (⟨#[46]⟩ : ByteArray)).bind fun bt126 => ((impl_within.f (bt126.1.size : Int) 1 15).bind fun t129 => (if t129 = true then (if (bt126.2.1.size : Int) = 2 then ((impl_areDigits.f bt126.1).bind fun t130 => (if t130 = true then ((impl_areDigits.f bt126.2.1).bind fun t131 => (impl_ReadMoney.j0 (k + 1) (bs l) neg bt126.1 bt126.2.1 (!t131))) else (impl_ReadMoney.j0 (k + 1) (bs l) neg bt126.1 bt126.2.1 true))) else (impl_ReadMoney.j0 (k + 1) (bs l) neg bt126.1 bt126.2.1 true)) else (impl_ReadMoney.j0 (k + 1) (bs l) neg bt126.1 bt126.2.1 true)))) = some (readS neg W x y)) ∨
      ((¬ ∃ neg W x y, Shape l neg W x y) ∧ ((strings_Cut.f (bs D) (⟨#[46]⟩ : ByteArray)).bind fun bt126 => ((impl_within.f (bt126.1.size : Int) 1 15).bind fun t129 => (if t129 = true then (if (bt126.2.1.size : Int) = 2 then ((impl_areDigits.f bt126.1).bind fun t130 => (if t130 = true then ((impl_areDigits.f bt126.2.1).bind fun t131 => (impl_ReadMoney.j0 (k + 1) (bs l) neg bt126.1 bt126.2.1 (!t131))) else (impl_ReadMoney.j0 (k + 1) (bs l) neg bt126.1 bt126.2.1 true))) else (impl_ReadMoney.j0 (k + 1) (bs l) neg bt126.1 bt126.2.1 true)) else (impl_ReadMoney.j0 (k + 1) (bs l) neg bt126.1 bt126.2.1 true)))) = some (0, 4)) := by
    intro neg D hD hne
    have hlen : D.length ≤ l.length := by rw [hD]; simp
    -- whatever shape l has, D is cut as that shape says
    have only : ∀ neg' W x y, Shape l neg' W x y → D = W ++ [46, x, y] := fun neg' W x y s => by
      have e := hD.symm.trans s.eq
      cases neg <;> cases neg'
      · simpa using e
      · exfalso; have := hne rfl; simp only [Bool.false_eq_true, if_false, if_true, List.nil_append] at e; rw [e] at this; exact this rfl
      · exfalso
        have hw := digits_ne45 s.digits
        have hs := s.some
        simp only [Bool.false_eq_true, if_false, if_true, List.nil_append] at e
        cases W with
        | nil => exact hs rfl
        | cons a t => simp only [List.cons_append, List.cons.injEq] at e; exact hw (by rw [List.head?_cons, ← e.1])
      · simpa using e
    have hcut : strings_Cut.f (bs D) (⟨#[46]⟩ : ByteArray) = some (bs (Lib.cut D [46]).1, bs (Lib.cut D [46]).2.1, (Lib.cut D [46]).2.2) := by
      unfold strings_Cut.f
      rw [bs_size, if_pos (by omega), bs_list]
      rfl
    rw [hcut, Option.bind_some]
    simp only [bs_size]
    rcases byte_parts 46 D with h46 | ⟨P, Q, h46, rfl⟩
    · refine .inr ⟨fun ⟨neg', W, x, y, s⟩ => h46 (by rw [only _ _ _ _ s]; simp), ?_⟩
      rw [cut_no 46 D h46, rwithin_is, Option.bind_some]
      simp only [bad, List.length_nil]
      by_cases c : decide (1 ≤ (D.length : Int) ∧ (D.length : Int) ≤ 15) = true
      · rw [if_pos c, if_neg (by decide)]
      · rw [if_neg c]
    · rw [cut_at 46 P Q h46, rwithin_is, Option.bind_some]
      simp only [bad]
      have hPQ : P.length + Q.length ≤ 65536 := by simp only [List.length_append, List.length_cons] at hlen; omega
      have no : (∀ x y, Q = [x, y] → ¬ (P.all dg1 = true ∧ P ≠ [] ∧ P.length ≤ 15 ∧ dg1 x = true ∧ dg1 y = true)) → ¬ ∃ neg W x y, Shape l neg W x y := fun hno ⟨neg', W, x, y, s⟩ => by
        have e := only _ _ _ _ s
        have hW46 : (46 : UInt8) ∉ W := fun m => absurd (List.all_eq_true.1 s.digits _ m) (by decide)
        have c1 := cut_at 46 P Q h46
        have c2 := cut_at 46 W [x, y] hW46
        rw [e] at c1
        have c3 := c1.symm.trans c2
        simp only [Prod.mk.injEq, and_true] at c3
        exact hno x y c3.2 (by rw [c3.1]; exact ⟨s.digits, s.some, s.few, s.hx, s.hy⟩)
      by_cases cP : 1 ≤ (P.length : Int) ∧ (P.length : Int) ≤ 15
      · rw [if_pos (decide_eq_true cP)]
        by_cases cQ : (Q.length : Int) = 2
        · rw [if_pos cQ, areDigits_is P (by omega), Option.bind_some, areDigits_is Q (by omega), Option.bind_some]
          obtain ⟨x, y, rfl⟩ : ∃ x y, Q = [x, y] := by
            match Q, cQ with
            | [x, y], _ => exact ⟨x, y, rfl⟩
          by_cases dP : P.all dg1 = true
          · rw [if_pos dP]
            by_cases dQ : [x, y].all dg1 = true
            · have hx : dg1 x = true := by simp only [List.all_cons, List.all_nil, Bool.and_true, Bool.and_eq_true] at dQ; exact dQ.1
              have hy : dg1 y = true := by simp only [List.all_cons, List.all_nil, Bool.and_true, Bool.and_eq_true] at dQ; exact dQ.2
              have s : Shape l neg P x y := ⟨by rw [hD]; simp, dP, fun q => by rw [q] at cP; simp at cP, by omega, hx, hy⟩
              refine .inl ⟨P, x, y, s, ?_⟩
              rw [dQ]
              exact impl_good s _ (by omega)
            · refine .inr ⟨no fun x' y' e q => dQ ?_, ?_⟩
              · simp only [List.cons.injEq, and_true] at e
                simp only [List.all_cons, List.all_nil, Bool.and_true, Bool.and_eq_true]
                rw [e.1, e.2]; exact ⟨q.2.2.2.1, q.2.2.2.2⟩
              · rw [Bool.eq_false_iff.2 dQ]; exact bad _ _ _
          · rw [if_neg dP]
            exact .inr ⟨no fun x' y' _ q => dP q.1, rfl⟩
        · rw [if_neg cQ]
          exact .inr ⟨no fun x' y' e _ => cQ (by rw [e]; rfl), rfl⟩
      · rw [if_neg (by rw [decide_eq_false cP]; decide)]
        refine .inr ⟨no fun x' y' _ q => cP ?_, rfl⟩
        have : P.length ≠ 0 := fun z => q.2.1 (List.length_eq_zero_iff.1 z)
        have := q.2.2.1
        omega
  unfold impl_ReadMoney.f
  rw [ht, Option.bind_some, if_pos rfl]
  unfold strings_CutPrefix.f
  rw [Option.bind_some, bs_list]
  have hp : Lib.hasPrefix l [45] = decide (l.head? = some 45) := by
    unfold Lib.hasPrefix
    cases l with
    | nil => rfl
    | cons a t =>
      by_cases c : a = 45
      · subst c; rfl
      · rw [decide_eq_false (by simpa using c)]
        simp only [List.isPrefixOf, Bool.and_true, beq_eq_false_iff_ne]
        exact fun q => c q.symm
  have hp2 : Lib.hasPrefix l ((⟨#[45]⟩ : ByteArray).data.toList) = decide (l.head? = some 45) := hp
  unfold Lib.trimPrefix
  rw [hp2]
  by_cases c : l.head? = some 45
  · rw [decide_eq_true c, if_pos rfl]
    have hD : l = (if true then [45] else []) ++ l.drop 1 := by
      cases l with
      | nil => simp at c
      | cons a t => simp only [List.head?_cons, Option.some.injEq] at c; subst c; rfl
    rcases core true (l.drop 1) hD (fun h => by cases h) with ⟨W, x, y, s, e⟩ | ⟨n, e⟩
    · exact .inl ⟨true, W, x, y, s, e⟩
    · exact .inr ⟨n, e⟩
  · rw [decide_eq_false c, if_neg (by decide)]
    rcases core false l rfl (fun _ => c) with ⟨W, x, y, s, e⟩ | ⟨n, e⟩
    · exact .inl ⟨false, W, x, y, s, e⟩
    · exact .inr ⟨n, e⟩

theorem Shape.one {l : List UInt8} {n n' : Bool} {W W' : List UInt8} {x x' y y' : UInt8} (h : Shape l n W x y) (h' : Shape l n' W' x' y') : n = n' ∧ W = W' ∧ x = x' ∧ y = y' := by
  have e := h.eq.symm.trans h'.eq
  have e2 := List.append_inj' e rfl
  have e3 : x = x' ∧ y = y' := by simpa using e2.2
  have w := digits_ne45 h.digits
  have w' := digits_ne45 h'.digits
  cases n <;> cases n'
  · exact ⟨rfl, by simpa using e2.1, e3⟩
  · exfalso
    have q : W = 45 :: W' := by simpa using e2.1
    rw [q] at w; exact w rfl
  · exfalso
    have q : 45 :: W = W' := by simpa using e2.1
    rw [← q] at w'; exact w' rfl
  · exact ⟨rfl, by simpa using e2.1, e3⟩

end Go.Proofs.YtdlfpjbhcpnpfaaDoor
