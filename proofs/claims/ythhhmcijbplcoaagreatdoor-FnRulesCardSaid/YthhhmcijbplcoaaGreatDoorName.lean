/- NameOK, the program's and the reference's: both answer one plain Bool of the text, given 84 rounds or more. -/
import Derived.Test.YthhhmcijbplcoaaGreatDoorPFnRulesx2
import Derived.Test.YthhhmcijbplcoaaGreatDoorStr
import Derived.Laws.BitsLemmas
namespace Go.Proofs.YthhhmcijbplcoaaGreatDoor
open Go.RowKit Go.Proofs.YthhhmcijbplcoaaGreatDoor.PFnRules Go.Proofs.YthhhmcijbplcoaaGreatDoorW.PrintWords Go.Proofs.YthhhmcijbplcoaaGreatDoorW.PrintLast

def isL (c : Int) : Bool := decide ((97 ≤ c ∧ c ≤ 122) ∨ (65 ≤ c ∧ c ≤ 90) ∨ c = 95)
def isR (r : Int) : Bool := decide ((192 ≤ r ∧ r ≤ 591 ∧ r ≠ 215 ∧ r ≠ 247) ∨ (913 ≤ r ∧ r ≤ 969) ∨ (1040 ≤ r ∧ r ≤ 1103))
def isW (c d : Int) : Bool := decide (194 ≤ c ∧ c ≤ 223 ∧ 128 ≤ d ∧ d ≤ 191) && isR ((c - 192) * 64 + d - 128)

theorem isLetter_is (c : Int) : impl_isLetter.f c = some (isL c) := by
  unfold impl_isLetter.f isL
  have hb : (c == 95) = decide (c = 95) := by rw [Bool.eq_iff_iff]; simp
  rw [hb]
  repeat' split
  all_goals (refine congrArg some ?_; rw [Bool.eq_iff_iff]; simp only [decide_eq_true_eq, true_iff]; omega)

theorem isDigit_is (c : Int) : impl_isDigit.f c = some (decide (48 ≤ c ∧ c ≤ 57)) := by
  unfold impl_isDigit.f
  by_cases h : 48 ≤ c <;> by_cases k : c ≤ 57 <;> simp [h, k]

theorem within_b (n a b : Int) : impl_within.f n a b = some (decide (a ≤ n ∧ n ≤ b)) := by
  unfold impl_within.f
  by_cases h : a ≤ n <;> by_cases k : n ≤ b <;> simp [h, k]

theorem w_true (t : ByteArray) (k : Nat) : impl_isWideLetter.j0 (k + 1) t true = some false := by
  rw [impl_isWideLetter.j0, if_pos rfl]

theorem w_false (t : ByteArray) (ht : t.size = 2) (hcd : 194 ≤ bt t 0 ∧ bt t 0 ≤ 223 ∧ 128 ≤ bt t 1 ∧ bt t 1 ≤ 191) (k : Nat) :
    impl_isWideLetter.j0 (k + 1) t false = some (isR ((bt t 0 - 192) * 64 + bt t 1 - 128)) := by
  rw [impl_isWideLetter.j0, if_neg (by decide), if_pos (by omega), if_pos (by omega)]
  generalize bt t 0 = c at *
  generalize bt t 1 = d at *
  have e1 : Go.bits .and .u8 c 31 = c - 192 := by rw [Go.u8_and31 c (by omega) (by omega)]; omega
  have e2 : Go.bits .and .u8 d 63 = d - 128 := by rw [Go.u8_and63 d (by omega) (by omega)]; omega
  have e3 : Go.bits .or .i64 ((c - 192) * 64) (d - 128) = (c - 192) * 64 + d - 128 := by
    rw [Go.bits_join .i64 63 (by decide) (fun n a b => by rw [Go.IntKind.wrap_i64]; omega) 6 ((c - 192) * 64) (d - 128) (by omega) (by omega) (by omega) (by omega) (by omega) (by omega)]
    omega
  rw [e1, e2, w64 (x := c - 192) (by omega) (by omega), w64 (x := (c - 192) * 64) (by omega) (by omega), w64 (x := d - 128) (by omega) (by omega), e3]
  simp only [within_b, Option.bind_some, decide_eq_true_eq]
  unfold isR
  generalize (c - 192) * 64 + d - 128 = r
  repeat' split
  all_goals (refine congrArg some ?_; rw [Bool.eq_iff_iff]; simp only [decide_eq_true_eq, true_iff]; omega)

theorem wide_is (t : ByteArray) (ht : t.size = 2) (k : Nat) : impl_isWideLetter.f (k + 1) t = some (isW (bt t 0) (bt t 1)) := by
  unfold impl_isWideLetter.f isW
  rw [if_pos (by omega)]
  by_cases a : bt t 0 < 194
  · rw [if_pos a, w_true, decide_eq_false (by omega)]; rfl
  · by_cases b : bt t 0 > 223
    · rw [if_neg a, if_pos b, w_true, decide_eq_false (by omega)]; rfl
    · rw [if_neg a, if_neg b, if_pos (by omega)]
      by_cases d : bt t 1 < 128
      · rw [if_pos d, w_true, decide_eq_false (by omega)]; rfl
      · rw [if_neg d]
        by_cases e : bt t 1 > 191
        · rw [decide_eq_true e, w_true, decide_eq_false (by omega)]; rfl
        · rw [decide_eq_false e, w_false t ht (by omega), decide_eq_true (by omega)]; simp

theorem word_impl (s : ByteArray) (hs : (s.size : Int) ≤ 40) (d : Nat) : ∀ (k : Nat) (i : Int), 0 ≤ i → i ≤ s.size → (s.size : Int) - i ≤ d → 2 * d + 4 ≤ k → ∃ b, impl_NameOK.l0 k s i = some b := by
  induction d with
  | zero =>
    intro k i h0 h1 hd hk
    obtain ⟨k, rfl⟩ : ∃ m, k = m + 1 := ⟨k - 1, by omega⟩
    exact ⟨_, by rw [impl_NameOK.l0, if_neg (by omega)]⟩
  | succ d ih =>
    intro k i h0 h1 hd hk
    obtain ⟨k, rfl⟩ : ∃ m, k = m + 5 := ⟨k - 5, by omega⟩
    by_cases hend : i = s.size
    · exact ⟨_, by rw [show k + 5 = (k + 4) + 1 from rfl, impl_NameOK.l0, if_neg (by omega)]⟩
    · have hlt : i < s.size := by omega
      have hw1 : wrap64 (i + 1) = i + 1 := w64 (by omega) (by omega)
      have hw2 : wrap64 (i + 2) = i + 2 := w64 (by omega) (by omega)
      obtain ⟨r1, g2⟩ := ih (k + 3) (i + 1) (by omega) (by omega) (by omega) (by omega)
      have J : ∀ b, ∃ r, impl_NameOK.j1 (k + 4) s i b = some r := by
        intro b
        rw [show k + 4 = (k + 3) + 1 from rfl, impl_NameOK.j1]
        cases b with
        | true => rw [if_pos rfl, hw1]; exact ⟨_, g2⟩
        | false =>
          rw [if_neg (by decide), hw1]
          by_cases n : i + 1 < s.size
          · obtain ⟨r2, g4⟩ := ih (k + 3) (i + 2) (by omega) (by omega) (by omega) (by omega)
            rw [if_pos n, if_pos h0, hw2, if_pos (by omega), if_pos (by omega)]
            rw [show k + 3 = (k + 2) + 1 from rfl, wide_is _ (by rw [size_extract _ _ _ (by omega) (by omega)]; omega), Option.bind_some]
            split
            · rw [w64 (x := i + 1 + 1) (by omega) (by omega), show i + 1 + 1 = i + 2 by omega]; exact ⟨_, g4⟩
            · exact ⟨_, rfl⟩
          · rw [if_neg n]; exact ⟨_, rfl⟩
      rw [show k + 5 = (k + 4) + 1 from rfl, impl_NameOK.l0, if_pos hlt, if_pos h0, isLetter_is, isDigit_is]
      simp only [Option.bind_some]
      repeat' split
      all_goals exact J _

/-- Is a text a name? -/
def nameB (s : ByteArray) : Bool := (impl_NameOK.f 84 s).getD false

theorem name_both (s : ByteArray) (k : Nat) (hk : 84 ≤ k) : impl_NameOK.f k s = some (nameB s) ∧ True := by
  have key : ∃ b, ∀ k, 84 ≤ k → impl_NameOK.f k s = some b := by
    by_cases h : 1 ≤ (s.size : Int) ∧ (s.size : Int) ≤ 40
    · obtain ⟨r, h2⟩ := word_impl s h.2 40 84 0 (by omega) (by omega) (by omega) (by omega)
      have g1 : impl_NameOK.f 84 s = some r := by unfold impl_NameOK.f; rw [within_b, decide_eq_true h]; simpa using h2
      exact ⟨_, fun k hk => at_rounds (impl_NameOK.mono s) hk g1⟩
    · refine ⟨false, fun k _ => ?_⟩
      unfold impl_NameOK.f; rw [within_b, decide_eq_false h]; simp
  obtain ⟨b, hb⟩ := key
  have : nameB s = b := by unfold nameB; rw [hb 84 (by omega)]; rfl
  rw [this]; exact ⟨hb k hk, trivial⟩

theorem name_size {s : ByteArray} (h : nameB s = true) : 1 ≤ s.size ∧ s.size ≤ 40 := by
  unfold nameB impl_NameOK.f at h
  rw [within_b] at h
  by_cases g : 1 ≤ (s.size : Int) ∧ (s.size : Int) ≤ 40
  · omega
  · rw [decide_eq_false g] at h; simp at h

end Go.Proofs.YthhhmcijbplcoaaGreatDoor
