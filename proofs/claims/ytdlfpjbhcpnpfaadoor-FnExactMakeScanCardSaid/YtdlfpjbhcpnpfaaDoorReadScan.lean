/- A code that is read: both sides tell the same. -/
import Derived.Test.YtdlfpjbhcpnpfaaDoorPAllx1
import Derived.Test.YtdlfpjbhcpnpfaaDoorPAllx2
import Derived.Test.YtdlfpjbhcpnpfaaDoorScan
namespace Go.Proofs.YtdlfpjbhcpnpfaaDoor
open Go.RowKit Go.Proofs.YtdlfpjbhcpnpfaaDoor.PAll Go.Proofs.YtdlfpjbhcpnpfaaDoorW.PrintWords Go.Proofs.YtdlfpjbhcpnpfaaDoorW.PrintLast

theorem atoi_digits : ∀ (l : List UInt8) (v : Nat), l.all isD = true → l ≠ [] → Lib.decFrom 0 l = some v → Lib.atoi l = some (v : Int)
  | [], _, _, h, _ => absurd rfl h
  | b :: r, v, h, _, hv => by
    have hb : isD b = true := by rw [List.all_cons, Bool.and_eq_true] at h; exact h.1
    have hb2 := of_decide_eq_true hb
    have e1 : (b == 45) = false := beq_eq_false_iff_ne.2 (fun e => by rw [e] at hb2; revert hb2; decide)
    have e2 : (b == 43) = false := beq_eq_false_iff_ne.2 (fun e => by rw [e] at hb2; revert hb2; decide)
    unfold Lib.atoi Lib.decNat
    simp only [e1, e2, Bool.false_eq_true, if_false, List.isEmpty_cons, hv, Option.map_some]
theorem take_list (t : ByteArray) (i j : Nat) : (t.extract i j).data.toList = (t.data.toList.drop i).take (j - i) := by
  rw [ByteArray.data_extract]
  simp
theorem allD_cut (t : ByteArray) (h : allD t = true) (i j : Nat) : allD (t.extract i j) = true := by
  unfold allD at *
  rw [take_list, List.all_eq_true]
  intro x hx
  exact List.all_eq_true.1 h x (List.mem_of_mem_drop (List.mem_of_mem_take hx))
theorem size_cut (t : ByteArray) (i j : Nat) (h : j ≤ t.size) : (t.extract i j).size = j - i := by
  rw [Lib.size_eq, take_list, List.length_take, List.length_drop, size_len]; omega
theorem step_at (s : ByteArray) (h13 : s.size = 13) (hd : allD s = true) (i q acc : Nat) (hi : i < 12) (ha : acc ≤ 1000000) (hl : i < s.data.toList.length) :
    spec_ReadScan.l0 (q + 1) s (acc : Int) (i : Int) = spec_ReadScan.l0 q s ((acc * 10 + ((s.data.toList[i]'hl).toNat - 48) : Nat) : Int) ((i + 1 : Nat) : Int) := by
  have hb := allD_at hd i (by omega)
  rw [bt_list hl] at hb
  rw [spec_ReadScan.l0, if_pos (by omega), if_pos (by omega), if_pos (by omega), bt_list hl]
  generalize (s.data.toList[i]'hl).toNat = b at *
  rw [w64 (x := (acc : Int) * 10) (by omega) (by omega), w64 (x := (b : Int)) (by omega) (by omega), w64 (x := (acc : Int) * 10 + b) (by omega) (by omega), w64 (x := (acc : Int) * 10 + b - 48) (by omega) (by omega), w64 (x := (i : Int) + 1) (by omega) (by omega),
    show (acc : Int) * 10 + b - 48 = ((acc * 10 + (b - 48) : Nat) : Int) by omega, show (i : Int) + 1 = ((i + 1 : Nat) : Int) by omega]
theorem loop_at (s : ByteArray) (h13 : s.size = 13) (hd : allD s = true) : ∀ (m k acc : Nat), m ≤ 5 → (acc + 1) * 10 ^ m ≤ 100000 → m < k →
    ∃ v : Nat, v ≤ 99999 ∧ Lib.decFrom acc ((s.data.toList.drop (12 - m)).take m) = some v ∧ spec_ReadScan.l0 k s (acc : Int) ((12 - m : Nat) : Int) = spec_ReadScan.l0 (k - m) s (v : Int) 12
  | 0, k, acc, _, hb, _ => by
    rw [Nat.pow_zero, Nat.mul_one] at hb
    exact ⟨acc, by omega, rfl, rfl⟩
  | m + 1, k, acc, hm, hb, hk => by
    obtain ⟨q, rfl⟩ : ∃ q, k = q + 1 := ⟨k - 1, by omega⟩
    have hl : 12 - (m + 1) < s.data.toList.length := by rw [size_len]; omega
    have hD := allD_at hd (12 - (m + 1)) (by omega)
    rw [bt_list hl] at hD
    have hp : 0 < 10 ^ m := Nat.pow_pos (by omega)
    have hb' : (acc + 1) * 10 * 10 ^ m ≤ 100000 := by rw [Nat.mul_assoc, Nat.mul_comm 10, ← Nat.pow_succ]; exact hb
    have hle : (acc + 1) * 10 ≤ 100000 := Nat.le_trans (Nat.le_mul_of_pos_right _ hp) hb'
    have hst := step_at s h13 hd (12 - (m + 1)) q acc (by omega) (by omega) hl
    rw [hst, List.drop_eq_getElem_cons hl, List.take_succ_cons, show 12 - (m + 1) + 1 = 12 - m by omega]
    generalize (s.data.toList[12 - (m + 1)]'hl) = b at *
    have hn : (acc * 10 + (b.toNat - 48) + 1) * 10 ^ m ≤ 100000 := Nat.le_trans (Nat.mul_le_mul_right _ (by omega)) hb'
    obtain ⟨v, h1, h2, h3⟩ := loop_at s h13 hd m q (acc * 10 + (b.toNat - 48)) (by omega) hn (by omega)
    refine ⟨v, h1, ?_, ?_⟩
    · rw [Lib.decFrom]
      have e : Lib.digitVal b = some (b.toNat - 48) := by unfold Lib.digitVal; rw [if_pos (by omega)]
      rw [e]; exact h2
    · rw [h3, show q + 1 - (m + 1) = q - m by omega]
theorem scan_same (t : ByteArray) (hs : t.size ≤ 65536) : ∃ r, spec_ReadScan.f 100 t = some r ∧ impl_readScan.f 100 t = some r := by
  unfold spec_ReadScan.f impl_readScan.f
  rw [if_neg (by omega)]
  have bad : ∀ x y, spec_ReadScan.j0 100 t x true = some (0, (⟨#[]⟩ : ByteArray), 0, 4) ∧ impl_readScan.j0 100 t y true = some (0, (⟨#[]⟩ : ByteArray), 0, 4) := fun x y => by
    rw [spec_ReadScan.j0, impl_readScan.j0, if_pos rfl, if_pos rfl]; exact ⟨rfl, rfl⟩
  by_cases h : t.size = 8 ∨ t.size = 13
  · have core : ∃ r, spec_ReadScan.j0 100 t (t.size : Int) (!allD t) = some r ∧ impl_readScan.j0 100 t (wrap64 ((t.size : Int) - 1)) (!allD t) = some r := by
      cases hd : allD t
      · exact ⟨_, bad _ _⟩
      · have hsz : (t.extract 0 (t.size - 1)).size = t.size - 1 := by rw [size_cut t 0 _ (by omega)]; omega
        obtain ⟨r, e1, e2, h0, h9⟩ := check_is (t.extract 0 (t.size - 1)) (allD_cut t hd _ _) (by omega) 99 (by omega)
        have hb := allD_at hd (t.size - 1) (by omega)
        have eI : wrap64 ((t.size : Int) - 1) = ((t.size - 1 : Nat) : Int) := by rw [w64 (by omega) (by omega)]; omega
        have b0 := allD_at hd 0 (by omega)
        have b1 := allD_at hd 1 (by omega)
        rw [spec_ReadScan.j0, impl_readScan.j0, eI]
        simp only [Bool.not_true, Bool.false_eq_true, if_false]
        have cA : 0 ≤ ((t.size - 1 : Nat) : Int) := by omega
        have cB : ((t.size - 1 : Nat) : Int) ≤ (t.size : Int) := by omega
        have cC : ((t.size - 1 : Nat) : Int) < (t.size : Int) := by omega
        simp only [cA, cB, cC, if_true, Int.toNat_natCast, e1, e2, Option.bind_some]
        generalize bt t ((t.size - 1 : Nat) : Int) = b at *
        rw [w64 (x := b) (by omega) (by omega), w64 (x := b - 48) (by omega) (by omega), show (b - 48) % 256 = b - 48 by omega]
        by_cases hr : r = b - 48
        · rw [if_pos hr, if_pos hr.symm]
          have un : ∃ r, spec_ReadScan.j1 99 t true = some r ∧ impl_readScan.j1 99 t true = some r := by
            rw [spec_ReadScan.j1, impl_readScan.j1, if_pos rfl, if_pos rfl]; exact ⟨_, rfl, rfl⟩
          by_cases h8 : (t.size : Int) = 8
          · rw [if_pos h8, if_pos h8]; exact un
          · have h13 : t.size = 13 := by omega
            rw [if_neg h8, if_neg h8, if_pos (by omega), if_pos (by omega)]
            by_cases h50 : bt t 0 = 50
            · have e50 : (bt t 0 != 50) = false := bne_eq_false_iff_eq.mpr h50
              rw [e50, spec_ReadScan.j1, impl_readScan.j1]
              simp only [Bool.false_eq_true, if_false]
              obtain ⟨v, hv, hde, hlo⟩ := loop_at t h13 hd 5 98 0 (by omega) (by decide) (by omega)
              have hlo2 : spec_ReadScan.l0 98 t 0 7 = spec_ReadScan.l0 93 t (v : Int) 12 := hlo
              have hnum : impl_numberOf.f (t.extract 7 12) = some (v : Int) := by
                unfold impl_numberOf.f
                rw [if_pos (by rw [size_cut t 7 12 (by omega)]; omega)]
                refine atoi_digits _ v (allD_cut t hd 7 12) (fun e => ?_) (by rw [take_list]; exact hde)
                have := size_cut t 7 12 (by omega)
                rw [Lib.size_eq, e] at this
                exact absurd this (by decide)
              have d1 : 1 < (t.size : Int) := by omega
              have d7 : 7 ≤ (t.size : Int) := by omega
              have d12 : 12 ≤ (t.size : Int) := by omega
              have b1' : 48 ≤ bt t 1 ∧ bt t 1 ≤ 57 := b1
              rw [hlo2, spec_ReadScan.l0, if_neg (by omega), hnum]
              simp only [d1, d7, d12, if_true, Option.bind_some]
              generalize bt t 1 = c at *
              by_cases c0 : c = 48
              · subst c0; exact ⟨_, rfl, rfl⟩
              · by_cases c1 : c = 49
                · subst c1; exact ⟨_, rfl, rfl⟩
                · rw [if_neg c0, if_neg c1, if_pos (by omega)]; exact ⟨_, rfl, rfl⟩
            · have e50 : (bt t 0 != 50) = true := bne_iff_ne.mpr h50
              rw [e50]; exact un
        · rw [if_neg hr, if_neg (fun e => hr e.symm)]; exact ⟨_, rfl, rfl⟩
    have ea := all_is t (by omega) 100 (by omega)
    have ei := allDigits_is t (by omega)
    by_cases h8 : (t.size : Int) = 8
    · rw [if_pos h8, if_pos h8, ea, ei]; exact core
    · rw [if_neg h8, if_neg h8, if_pos (by omega), if_pos (by omega), ea, ei]; exact core
  · rw [if_neg (by omega), if_neg (by omega), if_neg (by omega), if_neg (by omega)]
    exact ⟨_, bad _ _⟩

end Go.Proofs.YtdlfpjbhcpnpfaaDoor
