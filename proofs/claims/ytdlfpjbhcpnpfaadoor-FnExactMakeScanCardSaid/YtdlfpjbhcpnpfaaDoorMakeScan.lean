/- A code that is made: both sides make the same. -/
import Derived.Test.YtdlfpjbhcpnpfaaDoorPAllx0
import Derived.Test.YtdlfpjbhcpnpfaaDoorPAllx2
import Derived.Test.YtdlfpjbhcpnpfaaDoorReadScan
import Derived.Lib.ItoaNum
import Derived.Lib.ItoaLen
namespace Go.Proofs.YtdlfpjbhcpnpfaaDoor
open Go.RowKit Go.Proofs.YtdlfpjbhcpnpfaaDoor.PAll Go.Proofs.YtdlfpjbhcpnpfaaDoorW.PrintWords Go.Proofs.YtdlfpjbhcpnpfaaDoorW.PrintLast

/-- What is read without a fault is of one of the three kinds. -/
theorem kind_j1 (k : Nat) (t : ByteArray) (x : Bool) (r) (h : impl_readScan.j1 k t x = some r) (h0 : r.2.2.2 = 0) (hd : 1 < t.size → 48 ≤ bt t 1) : r.1 = 1 ∨ r.1 = 2 ∨ r.1 = 3 := by
  cases k with
  | zero => rw [impl_readScan.j1] at h; cases h
  | succ k =>
    rw [impl_readScan.j1] at h
    by_cases hx : x = true
    · rw [if_pos hx] at h; obtain rfl := Option.some.inj h; exact Or.inl rfl
    · rw [if_neg hx] at h
      by_cases h1 : 1 < (t.size : Int)
      · rw [if_pos h1] at h
        by_cases h2 : bt t 1 > 49
        · rw [if_pos h2] at h; obtain rfl := Option.some.inj h; exact absurd h0 (by decide)
        · rw [if_neg h2] at h
          by_cases h3 : 7 ≤ (t.size : Int)
          · rw [if_pos h3] at h
            by_cases h4 : 12 ≤ (t.size : Int)
            · rw [if_pos h4] at h
              obtain ⟨v, -, h⟩ := Option.bind_eq_some_iff.mp h
              obtain rfl := Option.some.inj h
              have := hd (by omega)
              show 2 + (bt t 1 - 48) % 256 = 1 ∨ 2 + (bt t 1 - 48) % 256 = 2 ∨ 2 + (bt t 1 - 48) % 256 = 3
              omega
            · rw [if_neg h4] at h; cases h
          · rw [if_neg h3] at h; cases h
      · rw [if_neg h1] at h; cases h
theorem kind_of (t : ByteArray) (r) (hs : t.size ≤ 9223372036854775807) (h : impl_readScan.f 100 t = some r) (h0 : r.2.2.2 = 0) : r.1 = 1 ∨ r.1 = 2 ∨ r.1 = 3 := by
  have core : ∀ y b, (b = false → allD t = true) → impl_readScan.j0 100 t y b = some r → r.1 = 1 ∨ r.1 = 2 ∨ r.1 = 3 := by
    intro y b hb h
    rw [impl_readScan.j0] at h
    by_cases hx : b = true
    · rw [if_pos hx] at h; obtain rfl := Option.some.inj h; exact absurd h0 (by decide)
    · have hd := hb (by simpa using hx)
      have hd1 : 1 < t.size → 48 ≤ bt t 1 := fun q => (allD_at hd 1 q).1
      rw [if_neg hx] at h
      by_cases h1 : 0 ≤ y
      · rw [if_pos h1] at h
        by_cases h2 : y < (t.size : Int)
        · rw [if_pos h2, if_pos (by omega)] at h
          obtain ⟨q, -, h⟩ := Option.bind_eq_some_iff.mp h
          by_cases h3 : (bt t y - 48) % 256 = q
          · rw [if_pos h3] at h
            by_cases h4 : (t.size : Int) = 8
            · rw [if_pos h4] at h; exact kind_j1 _ _ _ _ h h0 hd1
            · rw [if_neg h4] at h
              by_cases h5 : 0 < (t.size : Int)
              · rw [if_pos h5] at h; exact kind_j1 _ _ _ _ h h0 hd1
              · rw [if_neg h5] at h; cases h
          · rw [if_neg h3] at h; obtain rfl := Option.some.inj h; exact absurd h0 (by decide)
        · rw [if_neg h2] at h; cases h
      · rw [if_neg h1] at h; cases h
  unfold impl_readScan.f at h
  rw [allDigits_is t hs] at h
  have hn : (!allD t) = false → allD t = true := fun q => by simpa using q
  by_cases h8 : (t.size : Int) = 8
  · rw [if_pos h8] at h; exact core _ _ hn h
  · rw [if_neg h8] at h
    by_cases h13 : (t.size : Int) = 13
    · rw [if_pos h13] at h; exact core _ _ hn h
    · rw [if_neg h13] at h; exact core _ _ (fun q => by cases q) h

theorem itoa_of (a : Int) (u : Nat) (h : a = u) (hu : (u : Int) ≤ 9223372036854775807) : strconv_Itoa.f a = some (bs (Lib.decDigits u)) := by
  subst h
  unfold strconv_Itoa.f
  rw [if_pos ⟨by omega, hu⟩, show Lib.itoa (u : Int) = Lib.decDigits u from by unfold Lib.itoa; rw [if_neg (by omega)]; simp]
  rfl
def od (d : Nat) : UInt8 := UInt8.ofNat (48 + d)
theorem od_nat (d : Nat) (h : d < 10) : (od d).toNat = 48 + d := by unfold od; rw [UInt8.toNat_ofNat']; omega
theorem od_isD (d : Nat) (h : d < 10) : isD (od d) = true := by unfold isD; rw [od_nat d h]; exact decide_eq_true (by omega)
theorem one_is (r : Nat) (h : r < 10) : Lib.decDigits r = [od r] := by rw [Lib.decDigits, dif_pos h]; rfl
theorem six_is (v : Nat) (h : v < 100000) : Lib.decDigits (100000 + v) = [49, od (v / 10000), od (v / 1000 % 10), od (v / 100 % 10), od (v / 10 % 10), od (v % 10)] := by
  rw [Lib.decDigits, dif_neg (by omega), Lib.decDigits, dif_neg (by omega), Lib.decDigits, dif_neg (by omega), Lib.decDigits, dif_neg (by omega), Lib.decDigits_two (by omega) (by omega)]
  rw [show (100000 + v) / 10 / 10 / 10 / 10 / 10 = 1 by omega, show (100000 + v) / 10 / 10 / 10 / 10 % 10 = v / 10000 by omega, show (100000 + v) / 10 / 10 / 10 % 10 = v / 1000 % 10 by omega, show (100000 + v) / 10 / 10 % 10 = v / 100 % 10 by omega, show (100000 + v) / 10 % 10 = v / 10 % 10 by omega, show (100000 + v) % 10 = v % 10 by omega]
  rfl
theorem bs_of (t : ByteArray) : t = bs t.data.toList := by apply ByteArray.ext; simp [bs]
theorem bs_cut (l : List UInt8) (i j : Nat) : (bs l).extract i j = bs ((l.drop i).take (j - i)) := by
  rw [bs_of ((bs l).extract i j), take_list]
  simp [bs]
theorem bs_bt (l : List UInt8) (i : Nat) (h : i < l.length) : bt (bs l) (i : Int) = ((l[i]'h).toNat : Int) := by
  have e : (bs l).data.toList = l := by simp [bs]
  have hl : i < (bs l).data.toList.length := by rw [e]; exact h
  rw [bt_list hl]
  simp [bs]
theorem bs_allD (l : List UInt8) : allD (bs l) = l.all isD := by unfold allD; simp [bs]
/-- A code that was made is read as what it was made of. -/
theorem read_made (c : UInt8) (hc : c = 48 ∨ c = 49) (s0 s1 s2 s3 s4 : UInt8) (hs : [s0, s1, s2, s3, s4].all isD = true) (v : Nat) (hv : v < 100000) (r : Nat) (hr : r < 10)
    (hk : impl_checkOf.f 99 (bs [50, c, s0, s1, s2, s3, s4, od (v / 10000), od (v / 1000 % 10), od (v / 100 % 10), od (v / 10 % 10), od (v % 10)]) = some (r : Int)) :
    impl_readScan.f 100 (bs [50, c, s0, s1, s2, s3, s4, od (v / 10000), od (v / 1000 % 10), od (v / 100 % 10), od (v / 10 % 10), od (v % 10), od r]) = some ((c.toNat : Int) - 46, bs [s0, s1, s2, s3, s4], (v : Int), 0) := by
  obtain ⟨L, hL⟩ : ∃ L, L = [50, c, s0, s1, s2, s3, s4, od (v / 10000), od (v / 1000 % 10), od (v / 100 % 10), od (v / 10 % 10), od (v % 10), od r] := ⟨_, rfl⟩
  rw [← hL]
  have h13 : (bs L).size = 13 := by rw [bs_size, hL]; rfl
  have hcD : isD c = true := by rcases hc with rfl | rfl <;> decide
  have hd : allD (bs L) = true := by
    rw [bs_allD, hL]
    simp only [List.all_cons, List.all_nil, Bool.and_true, Bool.and_eq_true] at hs ⊢
    exact ⟨by decide, hcD, hs.1, hs.2.1, hs.2.2.1, hs.2.2.2.1, hs.2.2.2.2, od_isD _ (by omega), od_isD _ (by omega), od_isD _ (by omega), od_isD _ (by omega), od_isD _ (by omega), od_isD _ (by omega)⟩
  have b12 : bt (bs L) 12 = 48 + r := by
    have := bs_bt L 12 (by rw [hL]; simp)
    rw [show ((12 : Nat) : Int) = 12 from rfl] at this
    rw [this]; simp only [hL]; show ((od r).toNat : Int) = _; rw [od_nat r hr]; omega
  have b0 : bt (bs L) 0 = 50 := by
    have := bs_bt L 0 (by rw [hL]; simp)
    rw [show ((0 : Nat) : Int) = 0 from rfl] at this
    rw [this]; simp only [hL]; rfl
  have b1 : bt (bs L) 1 = (c.toNat : Int) := by
    have := bs_bt L 1 (by rw [hL]; simp)
    rw [show ((1 : Nat) : Int) = 1 from rfl] at this
    rw [this]; simp only [hL]; rfl
  have e12 : (bs L).extract 0 12 = bs [50, c, s0, s1, s2, s3, s4, od (v / 10000), od (v / 1000 % 10), od (v / 100 % 10), od (v / 10 % 10), od (v % 10)] := by rw [bs_cut, hL]; rfl
  have e27 : (bs L).extract 2 7 = bs [s0, s1, s2, s3, s4] := by rw [bs_cut, hL]; rfl
  have e712 : (bs L).extract 7 12 = bs [od (v / 10000), od (v / 1000 % 10), od (v / 100 % 10), od (v / 10 % 10), od (v % 10)] := by rw [bs_cut, hL]; rfl
  have dv : ∀ d, d < 10 → Lib.digitVal (od d) = some d := fun d h => by unfold Lib.digitVal; rw [od_nat d h, if_pos (by omega), Nat.add_sub_cancel_left]
  have hnum : impl_numberOf.f ((bs L).extract 7 12) = some (v : Int) := by
    unfold impl_numberOf.f
    rw [e712, if_pos (by rw [bs_size]; simp)]
    refine atoi_digits _ v ?_ ?_ ?_
    · have := allD_cut (bs L) hd 7 12; rw [e712] at this; exact this
    · intro e; have := congrArg List.length e; simp [bs] at this
    · show Lib.decFrom 0 [od (v / 10000), od (v / 1000 % 10), od (v / 100 % 10), od (v / 10 % 10), od (v % 10)] = some v
      simp only [Lib.decFrom, dv _ (show v / 10000 < 10 by omega), dv _ (show v / 1000 % 10 < 10 by omega), dv _ (show v / 100 % 10 < 10 by omega), dv _ (show v / 10 % 10 < 10 by omega), dv _ (show v % 10 < 10 by omega)]
      exact congrArg some (by omega)
  have hcn : (c.toNat : Int) = 48 ∨ (c.toNat : Int) = 49 := hc.imp (fun e => by rw [e]; rfl) (fun e => by rw [e]; rfl)
  unfold impl_readScan.f
  rw [if_neg (by omega), if_pos (by omega), allDigits_is _ (by omega), hd, Option.bind_some]
  rw [show wrap64 (((bs L).size : Int) - 1) = 12 by rw [h13, w64 (by omega) (by omega)]; rfl, impl_readScan.j0]
  rw [h13, b12, b0, show ((12 : Int)).toNat = 12 from rfl, e12, hk]
  have eR : (48 + (r : Int) - 48) % 256 = r := by omega
  rw [eR]
  have j : impl_readScan.j1 99 (bs L) ((50 : Int) != 50) = some ((c.toNat : Int) - 46, bs [s0, s1, s2, s3, s4], (v : Int), 0) := by
    rw [show ((50 : Int) != 50) = false from by decide, impl_readScan.j1, h13, b1, hnum, e27]
    rw [show ((c.toNat : Int) - 48) % 256 = (c.toNat : Int) - 48 by omega, show 2 + ((c.toNat : Int) - 48) = (c.toNat : Int) - 46 by omega]
    have g : ¬ (c.toNat : Int) > 49 := by omega
    simp only [g, if_false, Bool.false_eq_true, Option.bind_some]
    rfl
  simp only [Option.bind_some, if_true, Bool.not_true, Bool.false_eq_true, if_false]
  exact j

end Go.Proofs.YtdlfpjbhcpnpfaaDoor
