/- FnParts is true for all bytes: of a drawn amount and rate the program's parts lie as the law says, the exchange from a rate to itself gives the amount, and its text is read back. -/
import Derived.Test.YtdlfpjbhcpnpfaaDoorPFnPartsx1
import Derived.Test.YtdlfpjbhcpnpfaaDoorPFnPartsx2
import Derived.Test.YtdlfpjbhcpnpfaaDoorPFnPartsx3
import Derived.Test.YtdlfpjbhcpnpfaaDoorPFnPartsx4
import Derived.Test.YtdlfpjbhcpnpfaaDoorPFnPartsx5
import Derived.Test.YtdlfpjbhcpnpfaaDoorMoney
import Derived.Test.YtdlfpjbhcpnpfaaDoorAmount
import Derived.Test.YtdlfpjbhcpnpfaaDoorReadMoneyI
import Derived.Test.YtdlfpjbhcpnpfaaDoorAreTexts
namespace Go.Proofs.YtdlfpjbhcpnpfaaDoor.Pure
open Go.RowKit Go.Proofs.YtdlfpjbhcpnpfaaDoor Go.Proofs.YtdlfpjbhcpnpfaaDoor.PFnParts Go.Proofs.YtdlfpjbhcpnpfaaDoorW.PrintWords Go.Proofs.YtdlfpjbhcpnpfaaDoorW.PrintLast

/-- The four roundings lie as the law says. -/
theorem rnd_all (p b : Int) (hb : 1 ≤ b) :
    rnd p b 1 * b ≤ p ∧ p ≤ rnd p b 2 * b ∧ rnd p b 2 - rnd p b 1 ≤ 1 ∧ rnd p b 1 ≤ rnd p b 2 ∧
    (∀ m, m = 3 ∨ m = 4 → (rnd p b m = rnd p b 1 ∨ rnd p b m = rnd p b 2) ∧ 2 * (rnd p b m * b - p) ≤ b ∧ -(2 * (rnd p b m * b - p)) ≤ b) := by
  have e := Int.mul_ediv_add_emod p b
  have r0 := Int.emod_nonneg p (show b ≠ 0 by omega)
  have r1 := Int.emod_lt_of_pos p (show 0 < b by omega)
  rw [Int.mul_comm] at e
  unfold rnd
  generalize p / b = q at *
  generalize p % b = r at *
  have e2 : (q + 1) * b = q * b + b := by rw [Int.add_mul, Int.one_mul]
  simp only [show ¬ ((1 : Int) = 2) by decide, show ¬ ((1 : Int) = 3) by decide, show ¬ ((1 : Int) = 4) by decide, if_true, if_false]
  refine ⟨by omega, by split <;> omega, by split <;> omega, by split <;> omega, fun m hm => ?_⟩
  rcases hm with rfl | rfl
  · simp only [show ¬ ((3 : Int) = 2) by decide, if_true, if_false]
    repeat' split
    all_goals (refine ⟨?_, ?_, ?_⟩ <;> first | omega | (left; rfl) | (right; rfl) | (exfalso; omega))
  · simp only [show ¬ ((4 : Int) = 2) by decide, show ¬ ((4 : Int) = 3) by decide, if_true, if_false]
    repeat' split
    all_goals (refine ⟨?_, ?_, ?_⟩ <;> first | omega | (left; rfl) | (right; rfl) | (exfalso; omega))
theorem rnd_self (n a b : Int) (ha : 0 < a) (hb : 0 < b) : rnd (n * a * b) (b * a) 3 = n := by
  have hp : 0 < b * a := Int.mul_pos hb ha
  have e : n * a * b = n * (b * a) := by rw [Int.mul_assoc, Int.mul_comm a b]
  unfold rnd
  rw [e, Int.mul_ediv_cancel n (by omega), Int.mul_emod_left]
  simp only [show ¬ ((3 : Int) = 2) by decide, if_true, if_false]
  rw [if_neg (by omega), if_neg (by omega)]
theorem rnd_bd (p b m : Int) (hb : 1 ≤ b) (h0 : -100000000 ≤ p) (h1 : p ≤ 100000000) : -100000001 ≤ rnd p b m ∧ rnd p b m ≤ 100000001 := by
  have hq := ediv_bd hb h0 h1 (by omega)
  unfold rnd
  generalize p / b = q at *
  generalize p % b = r at *
  simp only
  repeat' split
  all_goals omega

theorem part_both (n a b m : Int) (n0 : -50000 ≤ n) (n1 : n < 150000) (a0 : 0 ≤ a) (a1 : a < 400) (b0 : 1 ≤ b) (b1 : b ≤ 400) (m1 : 1 ≤ m) (m4 : m ≤ 4) (k : Nat) (hk : 4 ≤ k) :
    impl_Part.f k n a b m = some (rnd (n * a) b m, 0) ∧ spec_Part.f k n a b m = some (rnd (n * a) b m, 0) := by
  obtain ⟨k, rfl⟩ : ∃ q, k = q + 1 := ⟨k - 1, by omega⟩
  have hp := mul_bd (A := 150000) (B := 400) (show -150000 ≤ n by omega) (by omega) a0 (by omega) (by omega)
  have hr := rnd_bd (n * a) b m b0 (by omega) (by omega)
  have hR : RateB a b = true := decide_eq_true (by omega)
  have hm : (1 : Int) ≤ m ∧ m ≤ 4 := ⟨m1, m4⟩
  have hn : -1000000000 ≤ n ∧ n ≤ 1000000000 := by omega
  have hx : -1000000000 ≤ rnd (n * a) b m ∧ rnd (n * a) b m ≤ 1000000000 := by omega
  unfold impl_Part.f spec_Part.f
  constructor
  · rw [isMoney_is, decide_eq_true hn, Option.bind_some, if_pos rfl, impl_rate, hR, Option.bind_some, impl_Part.j0, if_neg (by decide), impl_mode, decide_eq_true hm, Option.bind_some, if_pos rfl, w64 (x := n * a) (by omega) (by omega),
      impl_round_is _ _ _ b0 (by omega) (by omega) (by omega), Option.bind_some, money_is, if_pos hx, Option.bind_some]
  · rw [l01Money_is, decide_eq_true hn, Option.bind_some, if_pos rfl, spec_rate, hR, Option.bind_some, spec_Part.j0, if_neg (by decide), spec_mode, decide_eq_true hm, Option.bind_some, if_pos rfl, w64 (x := n * a) (by omega) (by omega),
      spec_round_is _ _ _ m1 m4 b0 (by omega) (by omega) (by omega) k (by omega), Option.bind_some, told_is, if_pos hx, Option.bind_some]
theorem exchange_self (n a b : Int) (n0 : -50000 ≤ n) (n1 : n < 150000) (a0 : 0 < a) (a1 : a < 400) (b0 : 1 ≤ b) (b1 : b ≤ 400) (k : Nat) (hk : 4 ≤ k) : impl_Exchange.f k n a b a b 3 = some (n, 0) := by
  obtain ⟨k, rfl⟩ : ∃ q, k = q + 1 := ⟨k - 1, by omega⟩
  have hp := mul_bd (A := 150000) (B := 400) (show -150000 ≤ n by omega) (by omega) (show 0 ≤ a by omega) (by omega) (by omega)
  have hp2 := mul_bd hp.1 hp.2 (show 0 ≤ b by omega) b1 (by omega)
  have hq := mul_bd (A := 400) (B := 400) (show -400 ≤ b by omega) b1 (show 0 ≤ a by omega) (by omega) (by omega)
  have hq1 := Int.mul_pos (show 0 < b by omega) a0
  have hR : RateB a b = true := decide_eq_true (by omega)
  have hn : -1000000000 ≤ n ∧ n ≤ 1000000000 := by omega
  unfold impl_Exchange.f
  rw [isMoney_is, decide_eq_true hn, Option.bind_some, if_pos rfl, impl_rate, hR, Option.bind_some, if_pos rfl, Option.bind_some, impl_Exchange.j0, if_neg (by decide), impl_mode, Option.bind_some, if_pos (by decide), if_neg (by omega),
    w64 (x := n * a) (by omega) (by omega), w64 (x := n * a * b) (by omega) (by omega), w64 (x := b * a) (by omega) (by omega), impl_round_is _ _ _ (by omega) (by omega) (by omega) (by omega), rnd_self n a b a0 (by omega), Option.bind_some, money_is, if_pos hn, Option.bind_some]
/-- An amount's text is read back by the program. -/
theorem text_back (n : Int) (h0 : -1000000 ≤ n) (h1 : n ≤ 1000000) (k : Nat) (hk : 5 ≤ k) : ∃ t, impl_MoneyText.f n = some (t, 0) ∧ impl_ReadMoney.f k t = some (n, 0) := by
  have hn : -1000000000 ≤ n ∧ n ≤ 1000000000 := by omega
  refine ⟨bs (moneyT n), ?_, ?_⟩
  · unfold impl_MoneyText.f
    rw [isMoney_is, decide_eq_true hn, Option.bind_some, if_pos rfl, moneyText_is n (by omega) (by omega), Option.bind_some]
  · have hsh : ∃ neg W x y, Shape (moneyT n) neg W x y ∧ readS neg W x y = (n, 0) := by
      have core : ∀ u : Nat, u ≤ 1000000 → ∃ W x y, W.all dg1 = true ∧ W ≠ [] ∧ W.length ≤ 15 ∧ dg1 x = true ∧ dg1 y = true ∧ mText u = W ++ [46, x, y] ∧ cts W x y = u ∧ isNum W := fun u hu => by
        have hN := digits_isNum (u / 100)
        refine ⟨Lib.decDigits (u / 100), UInt8.ofNat (48 + u / 10 % 10), UInt8.ofNat (48 + u % 10), hN.1, hN.2.1, ?_, dg1_ofNat (by omega), dg1_ofNat (by omega), rfl, ?_, hN⟩
        · rw [Lib.decDigits_length]; have := nDigits_le 15 (u / 100) (by omega) (by omega); omega
        · unfold cts dec
          rw [digits_back, ofNat_digit (by omega), ofNat_digit (by omega)]
          simp only [Option.getD_some]; omega
      unfold moneyT
      by_cases hneg : n < 0
      · obtain ⟨W, x, y, h1, h2, h3, h4, h5, h6, h7, h8⟩ := core n.natAbs (by omega)
        rw [if_pos hneg]
        refine ⟨true, W, x, y, ⟨by rw [h6]; rfl, h1, h2, h3, h4, h5⟩, ?_⟩
        unfold readS
        rw [h7, if_pos ⟨h8, fun q => by omega⟩]
        unfold told
        simp only [if_true]
        rw [if_pos (by omega), show (-(n.natAbs : Int)) = n by omega]
      · obtain ⟨W, x, y, h1, h2, h3, h4, h5, h6, h7, h8⟩ := core n.toNat (by omega)
        rw [if_neg hneg]
        refine ⟨false, W, x, y, ⟨by rw [h6]; rfl, h1, h2, h3, h4, h5⟩, ?_⟩
        unfold readS
        rw [h7, if_pos ⟨h8, fun q => by cases q.1⟩]
        unfold told
        simp only [Bool.false_eq_true, if_false]
        rw [if_pos (by omega), show ((n.toNat : Nat) : Int) = n by omega]
    obtain ⟨neg, W, x, y, s, e⟩ := hsh
    have hl : (moneyT n).length ≤ 65536 := by
      rw [s.eq]
      have := s.few
      cases neg <;> simp <;> omega
    have ht : impl_areTexts.f [bs (moneyT n)] = some true := by rw [texts_is, decide_eq_true (by rw [bs_size]; exact hl)]
    rcases impl_is (moneyT n) hl k hk ht with ⟨neg', W', x', y', s', e'⟩ | ⟨no, _⟩
    · obtain ⟨rfl, rfl, rfl, rfl⟩ := s.one s'
      rw [e', e]
    · exact absurd ⟨neg, W, x, y, s⟩ no

theorem FnParts : laws_FnParts.Pure := by
  intro l _ _ hb
  refine ⟨50, ?_⟩
  unfold laws_FnParts.f
  by_cases hl : (l.length : Int) > 1048576
  · rw [if_pos hl]
  rw [if_neg hl]
  obtain ⟨n, a, b, e, n0, n1, a0, a1, b0, b1⟩ := amount_ok (by omega) hb
  rw [e, Option.bind_some]
  have hp := mul_bd (A := 150000) (B := 400) (show -150000 ≤ n by omega) (by omega) a0 (show a ≤ 400 by omega) (by omega)
  have P := fun m h1 h4 k hk => part_both n a b m n0 n1 a0 a1 b0 b1 h1 h4 k hk
  have hA := rnd_all (n * a) b b0
  have B := fun m => rnd_bd (n * a) b m b0 (by omega) (by omega)
  have rounds : ∀ (m : Int) (k : Nat) (got : List Int), 1 ≤ m → m ≤ 4 → 6 ≤ k → got.length < 100 → laws_FnParts.l0 (k + 2) n got m a b = laws_FnParts.l0 k n (got ++ [rnd (n * a) b m]) (m + 1) a b := fun m k got h1 h4 hk hg => by
    rw [laws_FnParts.l0, if_pos (by omega), (P m h1 h4 (k + 1) (by omega)).1, (P m h1 h4 (k + 1) (by omega)).2, Option.bind_some, Option.bind_some]
    simp only [if_true, bne_self_eq_false]
    rw [laws_FnParts.j1, if_neg (by decide), if_pos rfl, if_pos (by omega), w64 (by omega) (by omega)]
  rw [rounds 1 48 [] (by omega) (by omega) (by omega) (by decide), rounds (1 + 1) 46 _ (by omega) (by omega) (by omega) (by simp), rounds (1 + 1 + 1) 44 _ (by omega) (by omega) (by omega) (by simp), rounds (1 + 1 + 1 + 1) 42 _ (by omega) (by omega) (by omega) (by simp)]
  simp only [List.nil_append, List.cons_append, show ((1 : Int) + 1) = 2 from rfl, show ((2 : Int) + 1) = 3 from rfl, show ((3 : Int) + 1) = 4 from rfl, show ((4 : Int) + 1) = 5 from rfl]
  have B1 := B 1; have B2 := B 2; have B3 := B 3; have B4 := B 4
  obtain ⟨h1, h2, h3, h4, h5⟩ := hA
  have h53 := h5 3 (.inl rfl)
  have h54 := h5 4 (.inr rfl)
  generalize rnd (n * a) b 1 = x1 at *
  generalize rnd (n * a) b 2 = x2 at *
  generalize rnd (n * a) b 3 = x3 at *
  generalize rnd (n * a) b 4 = x4 at *
  have m1 := mul_bd (A := 100000001) (B := 400) B1.1 B1.2 (show 0 ≤ b by omega) b1 (by omega)
  have m2 := mul_bd (A := 100000001) (B := 400) B2.1 B2.2 (show 0 ≤ b by omega) b1 (by omega)
  have m3 := mul_bd (A := 100000001) (B := 400) B3.1 B3.2 (show 0 ≤ b by omega) b1 (by omega)
  have m4 := mul_bd (A := 100000001) (B := 400) B4.1 B4.2 (show 0 ≤ b by omega) b1 (by omega)
  have r0 : rd [x1, x2, x3, x4] 0 = x1 := rfl
  have r1 : rd [x1, x2, x3, x4] 1 = x2 := rfl
  have r2 : rd [x1, x2, x3, x4] 2 = x3 := rfl
  have r3 : rd [x1, x2, x3, x4] 3 = x4 := rfl
  have hlen : (([x1, x2, x3, x4] : List Int).length : Int) = 4 := rfl
  obtain ⟨t, ht1, ht2⟩ := text_back n (by omega) (by omega) 38 (by omega)
  have ht2' : impl_ReadMoney.f 37 t = some (n, 0) := by
    obtain ⟨t', q1, q2⟩ := text_back n (by omega) (by omega) 37 (by omega)
    rw [ht1] at q1
    have := (Prod.mk.inj (Option.some.inj q1)).1
    rw [this]; exact q2
  have last : laws_FnParts.l1 39 n [x1, x2, x3, x4] x1 x2 4 a b = some true := by
    rw [laws_FnParts.l1, if_neg (by decide)]
    by_cases ha : a > 0
    · rw [if_pos ha, exchange_self n a b n0 n1 ha a1 b0 b1 38 (by omega), Option.bind_some, if_pos rfl]
      simp only [bne_self_eq_false]
      rw [laws_FnParts.j4, if_neg (by decide), ht1, Option.bind_some, ht2', Option.bind_some, if_pos rfl, if_pos rfl]
      simp
    · rw [if_neg ha, ht1, Option.bind_some, ht2, Option.bind_some, if_pos rfl, if_pos rfl]
      simp
  have step : ∀ (i x : Int) (k : Nat), 2 ≤ i → i < 4 → rd [x1, x2, x3, x4] i = x → (x = x1 ∨ x = x2) → 2 * (x * b - n * a) ≤ b → -(2 * (x * b - n * a)) ≤ b → -(100000001 * 400) ≤ x * b → x * b ≤ 100000001 * 400 →
      laws_FnParts.l1 (k + 1) n [x1, x2, x3, x4] x1 x2 i a b = laws_FnParts.l1 k n [x1, x2, x3, x4] x1 x2 (i + 1) a b := fun i x k i2 i4 hr hx f1 f2 g1 g2 => by
    rw [laws_FnParts.l1, if_pos (by omega), if_pos (by omega), if_pos (by rw [hlen]; omega), hr, w64 (x := x * b) (by omega) (by omega), w64 (x := n * a) (by omega) (by omega), w64 (x := x * b - n * a) (by omega) (by omega), w64 (x := 2 * (x * b - n * a)) (by omega) (by omega), w64 (x := -(2 * (x * b - n * a))) (by omega) (by omega), w64 (x := i + 1) (by omega) (by omega)]
    by_cases c : x = x1
    · rw [if_pos c, if_neg (by omega), if_neg (by omega)]
    · rw [if_neg c, if_pos (hx.resolve_left c), if_neg (by omega), if_neg (by omega)]
  rw [laws_FnParts.l0, if_neg (by decide), if_pos (by rw [hlen]; decide), if_pos (by rw [hlen]; decide), r0, r1, w64 (x := x2 - x1) (by omega) (by omega), if_neg (by omega), if_neg (by omega), w64 (x := x1 * b) (by omega) (by omega), w64 (x := n * a) (by omega) (by omega), w64 (x := x2 * b) (by omega) (by omega), if_neg (by omega),
    decide_eq_false (by omega), laws_FnParts.j2, if_neg (by decide), step 2 x3 _ (by omega) (by omega) r2 h53.1 h53.2.1 h53.2.2 m3.1 m3.2, show ((2 : Int) + 1) = 3 from rfl, step 3 x4 _ (by omega) (by omega) r3 h54.1 h54.2.1 h54.2.2 m4.1 m4.2]
  exact last

end Go.Proofs.YtdlfpjbhcpnpfaaDoor.Pure
