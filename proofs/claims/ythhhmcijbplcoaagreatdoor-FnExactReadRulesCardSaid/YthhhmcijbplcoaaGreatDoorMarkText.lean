/- The statements' own marks: a mark's text is made, for whatever number. -/
import Derived.Test.YthhhmcijbplcoaaGreatDoorPFnExactReadRulesx8
import Derived.Test.YthhhmcijbplcoaaGreatDoorLoop
namespace Go.Proofs.YthhhmcijbplcoaaGreatDoor
open Go.RowKit Go.Proofs.YthhhmcijbplcoaaGreatDoor.PFnExactReadRules Go.Proofs.YthhhmcijbplcoaaGreatDoorW.PrintWords Go.Proofs.YthhhmcijbplcoaaGreatDoorW.PrintLast

theorem strN_size (l : List Int) : (strOfNums l).size = l.length := by
  simp [strOfNums, ByteArray.size]

/-- A mark's text is made, for whatever number. -/
theorem markText_loop : ∀ (d : Nat) (a : Int), 0 ≤ a → a < 10 ^ d → a ≤ 9223372036854775807 → ∀ (s : ByteArray), s.size + d ≤ 9000 → ∀ k, d < k → ∃ t, laws_markText.l0 k a s = some t := by
  intro d
  induction d with
  | zero =>
    intro a h0 h1 h2 s hs k hk
    obtain ⟨k, rfl⟩ : ∃ m, k = m + 1 := ⟨k - 1, by omega⟩
    rw [laws_markText.l0, if_neg (by simp at h1; omega), if_pos (by omega)]
    exact ⟨_, rfl⟩
  | succ d ih =>
    intro a h0 h1 h2 s hs k hk
    obtain ⟨k, rfl⟩ : ∃ m, k = m + 1 := ⟨k - 1, by omega⟩
    rw [laws_markText.l0]
    by_cases h : a > 0
    · rw [if_pos h]
      simp only [Option.bind_some]
      rw [strN_size, if_pos (by simp only [List.length_cons, List.length_nil]; omega)]
      have hd : Int.tdiv a 10 = a / 10 := Int.tdiv_eq_ediv_of_nonneg h0
      have hlt : a / 10 < 10 ^ d := by
        have : a < 10 ^ d * 10 := by rw [← Int.pow_succ]; exact h1
        omega
      rw [hd, w64 (x := a / 10) (by omega) (by omega)]
      exact ih (a / 10) (by omega) hlt (by omega) _ (by rw [ByteArray.size_append, strN_size]; simp only [List.length_cons, List.length_nil]; omega) k (by omega)
    · rw [if_neg h, if_pos (by omega)]
      exact ⟨_, rfl⟩

theorem markText_any (a : Int) (h2 : a ≤ 9223372036854775807) (k : Nat) (hk : 20 ≤ k) : ∃ t, laws_markText.f k a = some t := by
  unfold laws_markText.f
  by_cases h : a ≤ 0
  · rw [if_pos h]; exact ⟨_, rfl⟩
  · rw [if_neg h]
    exact markText_loop 19 a (by omega) (by omega) h2 _ (by decide) k (by omega)

end Go.Proofs.YthhhmcijbplcoaaGreatDoor
