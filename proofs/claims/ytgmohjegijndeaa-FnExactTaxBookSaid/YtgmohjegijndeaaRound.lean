/- Plain laws of this seat's money functions: what the program and the reference compute of an amount, a rate and a mode, each as one plain function of whole numbers. -/
import Derived.Test.YtgmohjegijndeaaPAllx1
import Derived.Test.YtgmohjegijndeaaPAllx2
import Derived.Test.YtgmohjegijndeaaPAllx3
import Derived.Test.YtgmohjegijndeaaPAllx6
import Derived.Test.YtgmohjegijndeaaBase
namespace Go.Proofs.Ytgmohjegijndeaa
open Go.RowKit Go.Proofs.Ytgmohjegijndeaa.PAll Go.Proofs.YtgmohjegijndeaaW.PrintWords Go.Proofs.YtgmohjegijndeaaW.PrintLast

theorem bits_and_one {x : Int} (h : -9223372036854775808 ≤ x) (k : x ≤ 9223372036854775807) : Go.bits .and .i64 x 1 = x % 2 := by
  unfold Go.bits
  have e : (BitVec.ofInt 64 x &&& BitVec.ofInt 64 1).toNat = (x % 2).toNat := by
    rw [BitVec.toNat_and]
    have h1 : (BitVec.ofInt 64 1).toNat = 2 ^ 1 - 1 := by decide
    rw [h1, Nat.and_two_pow_sub_one_eq_mod, BitVec.toNat_ofInt]
    omega
  show IntKind.wrap .i64 ((BitVec.ofInt 64 x &&& BitVec.ofInt 64 1).toNat : Int) = x % 2
  rw [e, Go.IntKind.wrap_i64]
  omega

/-- The quotient rounded by a mode. -/
def rnd (a b mode : Int) : Int :=
  let q := a / b
  let r := a % b
  if mode = 2 then (if r > 0 then q + 1 else q)
  else if mode = 3 then (if 2 * r > b then q + 1 else if 2 * r = b then (if q % 2 = 0 then q else q + 1) else q)
  else if mode = 4 then (if 2 * r > b then q + 1 else if 2 * r = b then (if q ≥ 0 then q + 1 else q) else q)
  else q

theorem tdm {a b : Int} (hb : 1 ≤ b) :
    (Int.tmod a b < 0 → Int.tdiv a b - 1 = a / b ∧ Int.tmod a b + b = a % b) ∧ (¬ Int.tmod a b < 0 → Int.tdiv a b = a / b ∧ Int.tmod a b = a % b) := by
  by_cases h : 0 ≤ a
  · rw [Int.tdiv_eq_ediv_of_nonneg h, Int.tmod_eq_emod_of_nonneg h]
    have := Int.emod_nonneg a (show b ≠ 0 by omega)
    exact ⟨fun k => by omega, fun _ => ⟨rfl, rfl⟩⟩
  · obtain ⟨c, rfl⟩ : ∃ c, a = -c := ⟨-a, by omega⟩
    have hc : 0 ≤ c := by omega
    rw [Int.neg_tdiv, Int.neg_tmod, Int.tdiv_eq_ediv_of_nonneg hc, Int.tmod_eq_emod_of_nonneg hc]
    have e := Int.mul_ediv_add_emod c b
    have m0 := Int.emod_nonneg c (show b ≠ 0 by omega)
    have m1 := Int.emod_lt_of_pos c (show 0 < b by omega)
    constructor
    · intro k
      have hq : -c = b - c % b + b * (-(c / b) - 1) := by
        rw [Int.mul_sub, Int.mul_neg]; omega
      have z : (b - c % b) / b = 0 := Int.ediv_eq_zero_of_lt (by omega) (by omega)
      have z2 : (b - c % b) % b = b - c % b := Int.emod_eq_of_lt (by omega) (by omega)
      have z3 : -c / b = -(c / b) - 1 := by rw [hq, Int.add_mul_ediv_left _ _ (show b ≠ 0 by omega), z]; omega
      have z4 : -c % b = b - c % b := by rw [hq, Int.add_mul_emod_self_left, z2]
      exact ⟨z3.symm, by rw [z4]; omega⟩
    · intro k
      have hz : c % b = 0 := by omega
      have hq : -c = 0 + b * (-(c / b)) := by rw [Int.mul_neg]; omega
      have z3 : -c / b = -(c / b) := by rw [hq, Int.add_mul_ediv_left _ _ (show b ≠ 0 by omega)]; simp
      have z4 : -c % b = 0 := by rw [hq, Int.add_mul_emod_self_left]; simp
      exact ⟨z3.symm, by rw [z4]; omega⟩

theorem ediv_bd {a b B : Int} (hb : 1 ≤ b) (h0 : -B ≤ a) (h1 : a ≤ B) (hB : 0 ≤ B) : -B ≤ a / b ∧ a / b ≤ B := by
  constructor
  · rw [Int.le_ediv_iff_mul_le (by omega)]
    have := Int.mul_le_mul_of_nonneg_left hb hB
    rw [Int.neg_mul]; omega
  · have : a / b ≤ B / b := Int.ediv_le_ediv (by omega) h1
    exact Int.le_trans this (Int.ediv_le_self b hB)

theorem impl_round_is (a b mode : Int) (hb : 1 ≤ b) (hb2 : b ≤ 100000000) (h0 : -100000000000000000 ≤ a) (h1 : a ≤ 100000000000000000) :
    impl_round.f a b mode = some (rnd a b mode) := by
  have hd := tdm (a := a) hb
  have hq := ediv_bd hb h0 h1 (by omega)
  have r0 := Int.emod_nonneg a (show b ≠ 0 by omega)
  have r1 := Int.emod_lt_of_pos a (show 0 < b by omega)
  have hf : impl_floorOf.f a b = some (a / b, a % b) := by
    unfold impl_floorOf.f
    rw [if_neg (by omega)]
    by_cases hn : Int.tmod a b < 0
    · obtain ⟨e1, e2⟩ := hd.1 hn
      rw [if_pos hn, w64 (x := Int.tdiv a b) (by omega) (by omega), e1, e2, w64 (by omega) (by omega), w64 (by omega) (by omega)]
    · obtain ⟨e1, e2⟩ := hd.2 hn
      rw [if_neg hn, e1, e2, w64 (by omega) (by omega)]
  unfold impl_round.f rnd
  rw [hf]
  simp only [Option.bind_some]
  generalize a / b = q at *
  generalize a % b = r at *
  rw [w64 (x := 2 * r) (by omega) (by omega), w64 (x := q + 1) (by omega) (by omega)]
  have hm : (Int.tmod q 2 = 0) ↔ (q % 2 = 0) := by
    have := tdm (a := q) (b := 2) (by omega)
    by_cases hn : Int.tmod q 2 < 0
    · have := this.1 hn; have := Int.lt_tmod_of_pos q (show (0:Int) < 2 by omega); omega
    · have := this.2 hn; omega
  simp only [hm]
  repeat' split
  all_goals first | rfl | omega

theorem spec_round_is (a b mode : Int) (hm : 1 ≤ mode) (hm4 : mode ≤ 4) (hb : 1 ≤ b) (hb2 : b ≤ 100000000) (h0 : -100000000000000000 ≤ a) (h1 : a ≤ 100000000000000000) (k : Nat) (hk : 2 ≤ k) :
    spec_l01Round.f k a b mode = some (rnd a b mode) := by
  obtain ⟨k, rfl⟩ : ∃ m, k = m + 2 := ⟨k - 2, by omega⟩
  have hd := tdm (a := a) hb
  have hq := ediv_bd hb h0 h1 (by omega)
  have r0 := Int.emod_nonneg a (show b ≠ 0 by omega)
  have r1 := Int.emod_lt_of_pos a (show 0 < b by omega)
  have hqr := Int.mul_ediv_add_emod a b
  have hneg : a < 0 ↔ a / b < 0 := by
    constructor
    · intro h; exact Int.ediv_neg_of_neg_of_pos h (by omega)
    · intro h
      by_cases h2 : a < 0
      · exact h2
      · have := Int.ediv_nonneg (a := a) (b := b) (by omega) (by omega); omega
  have hf : spec_l01Floor.f a b = some (a / b) := by
    unfold spec_l01Floor.f
    rw [if_neg (by omega)]
    by_cases hn : Int.tmod a b < 0
    · obtain ⟨e1, e2⟩ := hd.1 hn
      rw [if_pos hn, w64 (x := Int.tdiv a b) (by omega) (by omega), e1, w64 (by omega) (by omega)]
    · obtain ⟨e1, e2⟩ := hd.2 hn
      rw [if_neg hn, e1, w64 (by omega) (by omega)]
  unfold spec_l01Round.f rnd
  rw [hf]
  simp only [Option.bind_some]
  rw [Int.mul_comm (a / b) b]
  generalize hq' : a / b = q at *
  generalize a % b = r at *
  rw [w64 (x := b * q) (by omega) (by omega), show a - b * q = r by omega, w64 (x := r) (by omega) (by omega)]
  simp only [spec_l01Round.j0, spec_l01Round.j1]
  have hba := bits_and_one (x := q) (by omega) (by omega)
  have h2 : 0 ≤ q % 2 ∧ q % 2 < 2 := ⟨Int.emod_nonneg _ (by omega), Int.emod_lt_of_pos _ (by omega)⟩
  rw [w64 (x := 2 * r) (by omega) (by omega), w64 (x := q + 1) (by omega) (by omega), hba, w64 (x := q + q % 2) (by omega) (by omega)]
  have c1 : (mode == 1) = decide (mode = 1) := by rw [Bool.eq_iff_iff]; simp
  simp only [c1, decide_eq_true_eq]
  repeat' split
  all_goals first | rfl | exact absurd trivial (by assumption) | omega | (congr 1; omega)

theorem isMoney_is (n : Int) : impl_isMoney.f n = some (decide (-1000000000 ≤ n ∧ n ≤ 1000000000)) := by
  unfold impl_isMoney.f impl_within.f
  by_cases h : -1000000000 ≤ n <;> by_cases k : n ≤ 1000000000 <;> simp [h, k]

theorem l01Money_is (n : Int) : spec_l01Money.f n = some (decide (-1000000000 ≤ n ∧ n ≤ 1000000000)) := by
  unfold spec_l01Money.f spec_l01In.f
  by_cases h : -1000000000 ≤ n <;> by_cases k : n ≤ 1000000000 <;> simp [h, k]

theorem within_is (n a b : Int) : impl_within.f n a b = some (decide (a ≤ n ∧ n ≤ b)) := by
  unfold impl_within.f
  by_cases h : a ≤ n <;> by_cases k : n ≤ b <;> simp [h, k]

theorem l01In_is (n a b : Int) : spec_l01In.f n a b = some (decide (a ≤ n ∧ n ≤ b)) := by
  unfold spec_l01In.f
  by_cases h : a ≤ n <;> by_cases k : n ≤ b <;> simp [h, k]

/-- What a rate must be. -/
def RateB (n d : Int) : Bool := decide ((0 ≤ n ∧ n ≤ 10000) ∧ (1 ≤ d ∧ d ≤ 10000))
theorem rateB_of {n d : Int} (h : RateB n d = true) : (0 ≤ n ∧ n ≤ 10000) ∧ (1 ≤ d ∧ d ≤ 10000) := of_decide_eq_true h

theorem impl_rate (n d : Int) : impl_RateOK.f n d = some (RateB n d) := by
  unfold impl_RateOK.f
  rw [within_is, within_is]
  by_cases h : 0 ≤ n ∧ n ≤ 10000 <;> by_cases k : 1 ≤ d ∧ d ≤ 10000 <;> simp [RateB, h, k]

theorem spec_rate (n d : Int) : spec_RateOK.f n d = some (RateB n d) := by
  unfold spec_RateOK.f
  rw [l01In_is, l01In_is]
  by_cases h : 0 ≤ n ∧ n ≤ 10000 <;> by_cases k : 1 ≤ d ∧ d ≤ 10000 <;> simp [RateB, h, k]

theorem mul_bd {a b A B : Int} (h0 : -A ≤ a) (h1 : a ≤ A) (k0 : 0 ≤ b) (k1 : b ≤ B) (hA : 0 ≤ A) : -(A * B) ≤ a * b ∧ a * b ≤ A * B := by
  have h2 := Int.mul_le_mul_of_nonneg_right h1 k0
  have h3 := Int.mul_le_mul_of_nonneg_right h0 k0
  have h4 := Int.mul_le_mul_of_nonneg_left k1 hA
  rw [Int.neg_mul] at h3
  omega

end Go.Proofs.Ytgmohjegijndeaa
