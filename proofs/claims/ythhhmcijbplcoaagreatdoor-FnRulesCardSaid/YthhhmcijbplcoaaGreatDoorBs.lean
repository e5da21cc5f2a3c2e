/- Texts as lists of bytes. -/
import Derived.Test.YthhhmcijbplcoaaGreatDoorBase
import Derived.Lib.ItoaNum
import Derived.Lib.ItoaLen
import Derived.Lib.Strings
namespace Go.Proofs.YthhhmcijbplcoaaGreatDoor
open Go.RowKit Go.Proofs.YthhhmcijbplcoaaGreatDoorW.PrintWords

/-- A text of bytes. -/
def bs (l : List UInt8) : ByteArray := ⟨l.toArray⟩
theorem bs_app (l m : List UInt8) : bs l ++ bs m = bs (l ++ m) := by
  apply ByteArray.ext
  simp [bs, ByteArray.data_append]
theorem bs_size (l : List UInt8) : (bs l).size = l.length := by simp [bs, ByteArray.size]
theorem bs_tail (l : List UInt8) : (bs l).extract 1 (bs l).size = bs (l.drop 1) := by
  apply ByteArray.ext
  rw [bs_size]
  simp only [bs, ByteArray.data_extract]
  apply Array.ext'
  simp
  exact List.take_of_length_le (by rw [List.length_tail]; omega)

theorem nDigits_pos (u : Nat) : 1 ≤ Lib.nDigits u := by
  rw [Lib.nDigits]
  split <;> omega

theorem nDigits_le : ∀ (d u : Nat), u < 10 ^ d → 1 ≤ d → Lib.nDigits u ≤ d
  | 0, _, _, h => by omega
  | d + 1, u, hu, _ => by
    rw [Lib.nDigits]
    split
    · omega
    · rename_i h10
      have hd : 1 ≤ d := by
        rcases Nat.eq_zero_or_pos d with e | e
        · subst e; omega
        · exact e
      have := nDigits_le d (u / 10) (by rw [Nat.pow_succ] at hu; omega) hd
      omega

theorem bs_back (t : ByteArray) : bs t.data.toList = t := by
  apply ByteArray.ext
  simp [bs]
theorem bs_list (l : List UInt8) : (bs l).data.toList = l := by simp [bs]
theorem bs_toList (l : List UInt8) : (bs l).toList = l := by rw [Lib.toList_data, bs_list]
theorem bs_cut (l : List UInt8) (i j : Nat) : (bs l).extract i j = bs ((l.drop i).take (j - i)) := by
  apply ByteArray.ext
  simp only [bs, ByteArray.data_extract]
  apply Array.ext'
  simp
theorem bt_bs {l : List UInt8} {i : Nat} (h : i < l.length) : bt (bs l) (i : Int) = ((l[i]'h).toNat : Int) := by
  have h2 : (i : Int).toNat < (bs l).size := by rw [bs_size]; exact h
  unfold bt
  rw [dif_pos h2]
  rfl

end Go.Proofs.YthhhmcijbplcoaaGreatDoor
