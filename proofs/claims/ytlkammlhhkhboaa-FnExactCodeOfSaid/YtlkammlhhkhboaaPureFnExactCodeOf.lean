/- FnExactCodeOf is true for every word of at most 2^20 bytes, and of longer ones by its own guard: both sides tell the first of the twenty words that is equal, else -1. -/
import Derived.Test.YtlkammlhhkhboaaPAllx1
import Derived.Test.YtlkammlhhkhboaaPAllx2
import Derived.Test.YtlkammlhhkhboaaBase
namespace Go.Proofs.Ytlkammlhhkhboaa.Pure
open Go.RowKit Go.Proofs.Ytlkammlhhkhboaa Go.Proofs.Ytlkammlhhkhboaa.PAll Go.Proofs.YtlkammlhhkhboaaW.PrintWords Go.Proofs.YtlkammlhhkhboaaW.PrintLast

def W20 : List ByteArray := (impl_codeWords.f).getD []

theorem words_is : impl_codeWords.f = some W20 := rfl
theorem words_len : W20.length = 20 := rfl

theorem word_is (i : Int) (h0 : 0 ≤ i) (h1 : i ≤ 19) : spec_CodeWord.f i = some (rdOf ByteArray.empty W20 i) := by
  have e : spec_CodeWord.f i = (some W20).bind fun y => (if i < 0 then (some (⟨#[]⟩ : ByteArray)) else (if i ≥ (y.length : Int) then (some (⟨#[]⟩ : ByteArray)) else (if 0 ≤ i then (if i < (y.length : Int) then (some (rdOf ByteArray.empty y i)) else (none)) else (none)))) := rfl
  have hl : (W20.length : Int) = 20 := rfl
  rw [e]
  simp only [Option.bind_some]
  rw [if_neg (by omega), if_neg (by omega), if_pos h0, if_pos (by omega)]

theorem words_lenZ : (W20.length : Int) = 20 := rfl

theorem both_tell (x : ByteArray) (d : Nat) : ∀ (k : Nat) (i : Int), 0 ≤ i → i ≤ 20 → (20 : Int) - i = d → d < k →
    ∃ r, spec_CodeOf.l0 k x i = some r ∧ slices_Index_string_string.l0 k W20 x 20 i = some r := by
  induction d with
  | zero =>
    intro k i h0 h1 hd hk
    obtain ⟨k, rfl⟩ : ∃ m, k = m + 1 := ⟨k - 1, by omega⟩
    refine ⟨-1, ?_, ?_⟩
    · simp only [spec_CodeOf.l0]; rw [if_neg (by omega)]
    · simp only [slices_Index_string_string.l0]; rw [if_neg (by omega)]
  | succ d ih =>
    intro k i h0 h1 hd hk
    obtain ⟨k, rfl⟩ : ∃ m, k = m + 1 := ⟨k - 1, by omega⟩
    obtain ⟨r, hr1, hr2⟩ := ih k (i + 1) (by omega) (by omega) (by omega) (by omega)
    simp only [spec_CodeOf.l0, slices_Index_string_string.l0]
    rw [if_pos (show i ≤ 19 by omega), word_is i h0 (by omega), if_pos (show i < 20 by omega), if_pos h0, if_pos (show i < (W20.length : Int) by rw [words_lenZ]; omega)]
    simp only [Option.bind_some]
    by_cases e : (rdOf ByteArray.empty W20 i).toList = x.toList
    · rw [if_pos e, if_pos e.symm]; exact ⟨i, rfl, rfl⟩
    · rw [if_neg e, if_neg (fun h => e h.symm), w64 (by omega) (by omega)]; exact ⟨r, hr1, hr2⟩

theorem FnExactCodeOf : laws_FnExactCodeOf.Pure := by
  intro a0 _
  obtain ⟨r, h1, h2⟩ := both_tell a0 20 21 0 (by omega) (by omega) (by omega) (by omega)
  refine ⟨21, ?_⟩
  unfold laws_FnExactCodeOf.f
  split
  · rfl
  · unfold spec_CodeOf.f impl_CodeOf.f slices_Index_string_string.f
    rw [words_is, h1]
    simp only [Option.bind_some]
    rw [words_lenZ, h2]
    simp

end Go.Proofs.Ytlkammlhhkhboaa.Pure
