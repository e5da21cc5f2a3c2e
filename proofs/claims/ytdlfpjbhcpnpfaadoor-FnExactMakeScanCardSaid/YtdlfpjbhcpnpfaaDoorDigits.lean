/- Texts as lists of bytes; the reference's digits of a number are its decimal numeral. -/
import Derived.Test.YtdlfpjbhcpnpfaaDoorPAllx1
import Derived.Test.YtdlfpjbhcpnpfaaDoorBase
import Derived.Lib.ItoaNum
import Derived.Lib.ItoaLen
namespace Go.Proofs.YtdlfpjbhcpnpfaaDoor
open Go.RowKit Go.Proofs.YtdlfpjbhcpnpfaaDoor.PAll Go.Proofs.YtdlfpjbhcpnpfaaDoorW.PrintWords Go.Proofs.YtdlfpjbhcpnpfaaDoorW.PrintLast

/-- A text of bytes. -/
def bs (l : List UInt8) : ByteArray := ⟨l.toArray⟩
theorem bs_app (l m : List UInt8) : bs l ++ bs m = bs (l ++ m) := by
  apply ByteArray.ext
  simp [bs, ByteArray.data_append]
theorem bs_size (l : List UInt8) : (bs l).size = l.length := by simp [bs, ByteArray.size]
theorem bs_tail (l : List UInt8) : (bs l).extract 1 (bs l).size = bs (l.drop 1) := by
  apply ByteArray.ext
  rw [bs_size]
  simp only [bs, ByteArray.data_extract]
  apply Array.ext'
  simp
  exact List.take_of_length_le (by rw [List.length_tail]; omega)

theorem one_digit (a : Int) (u : Nat) (h : a = u) (h9 : u < 10) : strOfNums [(wrap64 (48 + a)) % 256] = bs [UInt8.ofNat (48 + u)] := by
  subst h
  rw [w64 (by omega) (by omega), show (48 + (u : Int)) % 256 = ((48 + u : Nat) : Int) by omega]
  rfl

theorem nDigits_pos (u : Nat) : 1 ≤ Lib.nDigits u := by
  rw [Lib.nDigits]
  split <;> omega

theorem nDigits_le : ∀ (d u : Nat), u < 10 ^ d → 1 ≤ d → Lib.nDigits u ≤ d
  | 0, _, _, h => by omega
  | d + 1, u, hu, _ => by
    rw [Lib.nDigits]
    split
    · omega
    · rename_i h10
      have hd : 1 ≤ d := by
        rcases Nat.eq_zero_or_pos d with e | e
        · subst e; omega
        · exact e
      have := nDigits_le d (u / 10) (by rw [Nat.pow_succ] at hu; omega) hd
      omega

theorem digits_is : ∀ (d u k : Nat), Lib.nDigits u ≤ d → d ≤ 30 → (u : Int) ≤ 9223372036854775807 → d < k → spec_l00Digits.f k (u : Int) = some (bs (Lib.decDigits u))
  | 0, u, _, h, _, _, _ => by have := nDigits_pos u; omega
  | d + 1, u, k, h, hd, hu, hk => by
    obtain ⟨k, rfl⟩ : ∃ m, k = m + 1 := ⟨k - 1, by omega⟩
    rw [spec_l00Digits.f, if_neg (by omega), if_neg (by omega), Lib.decDigits]
    by_cases h10 : u < 10
    · rw [if_pos (by omega), dif_pos h10, one_digit _ u rfl h10]
    · have hn : Lib.nDigits (u / 10) ≤ d := by
        rw [Lib.nDigits, dif_neg h10] at h; omega
      have hdiv : Int.tdiv (u : Int) 10 = ((u / 10 : Nat) : Int) := by rw [Int.tdiv_eq_ediv_of_nonneg (by omega)]; omega
      have hmod : Int.tmod (u : Int) 10 = ((u % 10 : Nat) : Int) := by rw [Int.tmod_eq_emod_of_nonneg (by omega)]; omega
      have ih := digits_is d (u / 10) k hn (by omega) (by omega) (by omega)
      have hlen : (Lib.decDigits (u / 10)).length ≤ 30 := by rw [Lib.decDigits_length]; omega
      rw [if_neg (by omega), dif_neg h10, hdiv, w64 (by omega) (by omega), ih, Option.bind_some, Option.bind_some, hmod, one_digit _ (u % 10) rfl (by omega), if_pos (by rw [bs_size, bs_size]; simp only [List.length_cons, List.length_nil]; omega), bs_app]

end Go.Proofs.YtdlfpjbhcpnpfaaDoor
