/- Texts of digits: the library's trimming against the reference's round; the check digit of a text of digits is one number for both sides. -/
import Derived.Test.YtdlfpjbhcpnpfaaDoorPAllx1
import Derived.Test.YtdlfpjbhcpnpfaaDoorPAllx2
import Derived.Test.YtdlfpjbhcpnpfaaDoorDigits
namespace Go.Proofs.YtdlfpjbhcpnpfaaDoor
open Go.RowKit Go.Proofs.YtdlfpjbhcpnpfaaDoor.PAll Go.Proofs.YtdlfpjbhcpnpfaaDoorW.PrintWords Go.Proofs.YtdlfpjbhcpnpfaaDoorW.PrintLast

/-- A digit's byte. -/
def isD (b : UInt8) : Bool := decide (48 ≤ b.toNat ∧ b.toNat ≤ 57)
/-- Digits alone. -/
def allD (s : ByteArray) : Bool := s.data.toList.all isD
theorem contains_digits (b : UInt8) : ([48, 49, 50, 51, 52, 53, 54, 55, 56, 57] : List UInt8).contains b = isD b := by
  rw [Bool.eq_iff_iff]
  unfold isD
  simp only [List.contains_iff_mem, List.mem_cons, ← UInt8.toNat_inj, List.not_mem_nil, or_false, decide_eq_true_eq, show (48 : UInt8).toNat = 48 from rfl, show (49 : UInt8).toNat = 49 from rfl, show (50 : UInt8).toNat = 50 from rfl, show (51 : UInt8).toNat = 51 from rfl, show (52 : UInt8).toNat = 52 from rfl, show (53 : UInt8).toNat = 53 from rfl, show (54 : UInt8).toNat = 54 from rfl, show (55 : UInt8).toNat = 55 from rfl, show (56 : UInt8).toNat = 56 from rfl, show (57 : UInt8).toNat = 57 from rfl]
  omega
theorem drop_all (p : UInt8 → Bool) : ∀ l : List UInt8, (l.dropWhile p).all p = l.all p
  | [] => rfl
  | a :: t => by
    cases h : p a
    · rw [List.dropWhile_cons, h]; simp
    · rw [List.dropWhile_cons, h, List.all_cons, h]; simpa using drop_all p t
theorem drop_empty (p : UInt8 → Bool) : ∀ l : List UInt8, (l.dropWhile p).isEmpty = l.all p
  | [] => rfl
  | a :: t => by
    cases h : p a
    · rw [List.dropWhile_cons, h, List.all_cons, h]; simp
    · rw [List.dropWhile_cons, h, List.all_cons, h]; simpa using drop_empty p t
theorem trim_empty (l : List UInt8) : (Lib.trimS l [48, 49, 50, 51, 52, 53, 54, 55, 56, 57]).isEmpty = l.all isD := by
  unfold Lib.trimS Lib.trimLeftS Lib.trimRightS
  rw [show (fun x => ([48, 49, 50, 51, 52, 53, 54, 55, 56, 57] : List UInt8).contains x) = isD from funext contains_digits]
  rw [drop_empty, List.all_reverse, drop_all, List.all_reverse]
theorem allDigits_is (s : ByteArray) (h : s.size ≤ 9223372036854775807) : impl_areDigits.f s = some (allD s) := by
  unfold impl_areDigits.f strings_Trim.f
  rw [if_pos ⟨h, by decide, by decide⟩, Option.bind_some, Lib.toList_data]
  exact congrArg some (trim_empty _)

theorem bt_list {s : ByteArray} {i : Nat} (h : i < s.data.toList.length) : bt s (i : Int) = ((s.data.toList[i]'h).toNat : Int) := by
  have h2 : (i : Int).toNat < s.size := by rw [Lib.size_eq]; exact h
  unfold bt
  rw [dif_pos h2]
  rfl
theorem size_len (s : ByteArray) : s.data.toList.length = s.size := (Lib.size_eq s).symm
theorem all_at (s : ByteArray) (hs : s.size ≤ 1048576) : ∀ (m k i : Nat), i + m = s.size → m < k → spec_l02All.l0 k s (i : Int) = some ((s.data.toList.drop i).all isD)
  | 0, k, i, hi, hk => by
    obtain ⟨k, rfl⟩ : ∃ q, k = q + 1 := ⟨k - 1, by omega⟩
    unfold spec_l02All.l0
    rw [if_neg (by omega), List.drop_eq_nil_of_le (by rw [size_len]; omega)]
    rfl
  | m + 1, k, i, hi, hk => by
    obtain ⟨k, rfl⟩ : ∃ q, k = q + 1 := ⟨k - 1, by omega⟩
    have hl : i < s.data.toList.length := by rw [size_len]; omega
    have IH := all_at s hs m k (i + 1) (by omega) (by omega)
    unfold spec_l02All.l0
    rw [if_pos (by omega), if_pos (by omega), bt_list hl, List.drop_eq_getElem_cons hl, List.all_cons, w64 (by omega) (by omega)]
    have e : isD s.data.toList[i] = decide (48 ≤ s.data.toList[i].toNat ∧ s.data.toList[i].toNat ≤ 57) := rfl
    by_cases a : ((s.data.toList[i]).toNat : Int) < 48
    · rw [if_pos a, e, decide_eq_false (by omega)]; rfl
    · rw [if_neg a]
      by_cases b : ((s.data.toList[i]).toNat : Int) > 57
      · rw [if_pos b, e, decide_eq_false (by omega)]; rfl
      · rw [if_neg b, e, decide_eq_true (by omega), Bool.true_and, show (i : Int) + 1 = ((i + 1 : Nat) : Int) by omega]
        exact IH
theorem all_is (s : ByteArray) (hs : s.size ≤ 1048576) (k : Nat) (hk : s.size < k) : spec_l02All.f k s = some (allD s) := by
  have h := all_at s hs s.size k 0 (by omega) hk
  rw [List.drop_zero] at h
  exact h
theorem allD_at {s : ByteArray} (h : allD s = true) (i : Nat) (hi : i < s.size) : 48 ≤ bt s (i : Int) ∧ bt s (i : Int) ≤ 57 := by
  have hl : i < s.data.toList.length := by rw [size_len]; exact hi
  rw [bt_list hl]
  have := List.all_eq_true.1 h _ (List.getElem_mem hl)
  unfold isD at this
  have := of_decide_eq_true this
  omega

theorem check_same (s : ByteArray) (hd : ∀ i : Nat, i < s.size → 48 ≤ bt s (i : Int) ∧ bt s (i : Int) ≤ 57) (hs : s.size ≤ 1000) : ∀ (m k : Nat) (x : Int), m ≤ s.size → m < k → 0 ≤ x → x ≤ 27 * ((s.size : Int) - m) →
    ∃ r, spec_l02Check.l0 k s x ((s.size : Int) - m) = some r ∧ impl_checkOf.l0 k s x (if ((s.size : Int) - m) % 2 = 0 then 3 else 1) ((m : Int) - 1) = some r ∧ 0 ≤ r ∧ r ≤ 9
  | 0, k, x, hm, hk, h0, hx => by
    obtain ⟨k, rfl⟩ : ∃ q, k = q + 1 := ⟨k - 1, by omega⟩
    unfold spec_l02Check.l0 impl_checkOf.l0
    rw [if_neg (by omega), if_neg (by omega)]
    have e : Int.tmod x 10 = x % 10 := Int.tmod_eq_emod_of_nonneg (by omega)
    have e2 : Int.tmod (wrap64 (10 - Int.tmod x 10)) 10 = (10 - x % 10) % 10 := by rw [e, w64 (by omega) (by omega)]; exact Int.tmod_eq_emod_of_nonneg (by omega)
    exact ⟨_, rfl, rfl, by rw [e2]; omega, by rw [e2]; omega⟩
  | m + 1, k, x, hm, hk, h0, hx => by
    obtain ⟨k, rfl⟩ : ∃ q, k = q + 1 := ⟨k - 1, by omega⟩
    have hb := hd m (by omega)
    have eI : wrap64 (wrap64 ((s.size : Int) - 1) - ((s.size : Int) - ((m + 1 : Nat) : Int))) = (m : Int) := by rw [w64 (x := (s.size : Int) - 1) (by omega) (by omega), w64 (by omega) (by omega)]; omega
    have eN : wrap64 ((s.size : Int) - ((m + 1 : Nat) : Int) + 1) = (s.size : Int) - (m : Int) := by rw [w64 (by omega) (by omega)]; omega
    have eT : Int.tmod ((s.size : Int) - ((m + 1 : Nat) : Int)) 2 = ((s.size : Int) - ((m + 1 : Nat) : Int)) % 2 := Int.tmod_eq_emod_of_nonneg (by omega)
    have eM : ((m + 1 : Nat) : Int) - 1 = (m : Int) := by omega
    have eW : wrap64 ((m : Int) - 1) = (m : Int) - 1 := w64 (by omega) (by omega)
    unfold spec_l02Check.l0 impl_checkOf.l0
    have c1 : (s.size : Int) - ((m + 1 : Nat) : Int) < (s.size : Int) := by omega
    have c2 : 0 ≤ (m : Int) := by omega
    have c3 : (m : Int) < (s.size : Int) := by omega
    simp only [eI, eN, eT, eM, eW, ge_iff_le, c1, c2, c3, if_true]
    generalize bt s (m : Int) = b at *
    have e48 : (b - 48) % 256 = b - 48 := by omega
    rw [e48, w64 (x := b) (by omega) (by omega), w64 (x := b - 48) (by omega) (by omega)]
    by_cases p : ((s.size : Int) - ((m + 1 : Nat) : Int)) % 2 = 0
    · simp only [p, if_true]
      rw [show wrap64 (4 - 3) = 1 by rw [w64 (by omega) (by omega)]; rfl, w64 (x := 3 * (b - 48)) (by omega) (by omega), w64 (x := x + 3 * (b - 48)) (by omega) (by omega)]
      obtain ⟨r, h1, h2, h3⟩ := check_same s hd hs m k (x + 3 * (b - 48)) (by omega) (by omega) (by omega) (by omega)
      rw [if_neg (by omega)] at h2
      exact ⟨r, h1, h2, h3⟩
    · simp only [p, if_false]
      rw [show wrap64 (4 - 1) = 3 by rw [w64 (by omega) (by omega)]; rfl, w64 (x := 1 * (b - 48)) (by omega) (by omega), Int.one_mul, w64 (x := x + (b - 48)) (by omega) (by omega)]
      obtain ⟨r, h1, h2, h3⟩ := check_same s hd hs m k (x + (b - 48)) (by omega) (by omega) (by omega) (by omega)
      rw [if_pos (by omega)] at h2
      exact ⟨r, h1, h2, h3⟩
theorem check_is (s : ByteArray) (h : allD s = true) (hs : s.size ≤ 1000) (k : Nat) (hk : s.size < k) : ∃ r, spec_l02Check.f k s = some r ∧ impl_checkOf.f k s = some r ∧ 0 ≤ r ∧ r ≤ 9 := by
  obtain ⟨r, h1, h2, h3⟩ := check_same s (fun i hi => allD_at h i hi) hs s.size k 0 (by omega) hk (by omega) (by omega)
  unfold spec_l02Check.f impl_checkOf.f
  rw [w64 (by omega) (by omega)]
  rw [Int.sub_self] at h1 h2
  exact ⟨r, h1, h2, h3⟩

end Go.Proofs.YtdlfpjbhcpnpfaaDoor
