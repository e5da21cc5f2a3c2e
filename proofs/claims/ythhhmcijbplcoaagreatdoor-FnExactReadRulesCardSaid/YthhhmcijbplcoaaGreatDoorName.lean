/- NameOK, the program's and the reference's: both answer one plain Bool of the text, given 84 rounds or more. -/
import Derived.Test.YthhhmcijbplcoaaGreatDoorPFnExactReadRulesx1
import Derived.Test.YthhhmcijbplcoaaGreatDoorPFnExactReadRulesx4
import Derived.Test.YthhhmcijbplcoaaGreatDoorStr
import Derived.Laws.BitsLemmas
namespace Go.Proofs.YthhhmcijbplcoaaGreatDoor
open Go.RowKit Go.Proofs.YthhhmcijbplcoaaGreatDoor.PFnExactReadRules Go.Proofs.YthhhmcijbplcoaaGreatDoorW.PrintWords Go.Proofs.YthhhmcijbplcoaaGreatDoorW.PrintLast

def isL (c : Int) : Bool := decide ((97 ≤ c ∧ c ≤ 122) ∨ (65 ≤ c ∧ c ≤ 90) ∨ c = 95)
def isR (r : Int) : Bool := decide ((192 ≤ r ∧ r ≤ 591 ∧ r ≠ 215 ∧ r ≠ 247) ∨ (913 ≤ r ∧ r ≤ 969) ∨ (1040 ≤ r ∧ r ≤ 1103))
def isW (c d : Int) : Bool := decide (194 ≤ c ∧ c ≤ 223 ∧ 128 ≤ d ∧ d ≤ 191) && isR ((c - 192) * 64 + d - 128)

theorem l1_true (s : ByteArray) (i c : Int) (k : Nat) : spec_l00Letter.j1 (k + 1) s i c true = some 0 := by
  rw [spec_l00Letter.j1, if_pos rfl]

theorem l1_false (s : ByteArray) (i c : Int) (h0 : 0 ≤ i) (h1 : i + 1 < s.size) (hs : (s.size : Int) ≤ 9223372036854775000) (hc : 194 ≤ c ∧ c ≤ 223) (k : Nat) :
    spec_l00Letter.j1 (k + 1) s i c false = some (if isR ((c - 192) * 64 + bt s (i + 1) - 128) = true then 2 else 0) := by
  have hd := bt_range s (i + 1)
  have e1 : wrap64 (i + 1) = i + 1 := w64 (by omega) (by omega)
  rw [spec_l00Letter.j1, if_neg (by decide), e1, if_pos (by omega), if_pos h1]
  have e2 : wrap64 ((wrap64 ((wrap64 ((wrap64 ((wrap64 c) - 192)) * 64)) + (wrap64 (bt s (i + 1))))) - 128) = (c - 192) * 64 + bt s (i + 1) - 128 := by
    rw [w64 (x := c) (by omega) (by omega), w64 (x := c - 192) (by omega) (by omega), w64 (x := (c - 192) * 64) (by omega) (by omega), w64 (x := bt s (i + 1)) (by omega) (by omega), w64 (x := _ + _) (by omega) (by omega), w64 (by omega) (by omega)]
  rw [e2]
  generalize (c - 192) * 64 + bt s (i + 1) - 128 = r
  unfold isR
  simp only [decide_eq_true_eq]
  repeat' split
  all_goals first | rfl | omega

theorem l0_true (s : ByteArray) (i c : Int) (k : Nat) : spec_l00Letter.j0 (k + 1) s i c true = some 1 := by
  rw [spec_l00Letter.j0, if_pos rfl]

theorem l0_false (s : ByteArray) (i c : Int) (h0 : 0 ≤ i) (h1 : i < s.size) (hs : (s.size : Int) ≤ 9223372036854775000) (k : Nat) :
    spec_l00Letter.j0 (k + 2) s i c false = some (if i + 1 < s.size ∧ isW c (bt s (i + 1)) = true then 2 else 0) := by
  have e1 : wrap64 (i + 1) = i + 1 := w64 (by omega) (by omega)
  rw [show k + 2 = (k + 1) + 1 from rfl, spec_l00Letter.j0, if_neg (by decide), e1, l1_true]
  unfold isW
  simp only [Bool.and_eq_true, decide_eq_true_eq]
  by_cases a : c < 194
  · rw [if_pos a, if_neg (by omega)]
  · by_cases b : c > 223
    · rw [if_neg a, if_pos b, if_neg (by omega)]
    · by_cases n : i + 1 ≥ (s.size : Int)
      · rw [if_neg a, if_neg b, if_pos n, if_neg (by omega)]
      · rw [if_neg a, if_neg b, if_neg n, if_pos (by omega), if_pos (by omega)]
        by_cases d : bt s (i + 1) < 128
        · rw [if_pos d, if_neg (by omega)]
        · rw [if_neg d]
          by_cases e : bt s (i + 1) > 191
          · rw [decide_eq_true e, l1_true, if_neg (by omega)]
          · rw [decide_eq_false e, l1_false s i c h0 (by omega) hs (by omega)]
            by_cases f : isR ((c - 192) * 64 + bt s (i + 1) - 128) = true
            · rw [if_pos f, if_pos ⟨by omega, by omega, f⟩]
            · rw [if_neg f, if_neg (fun h => f h.2.2)]

theorem letter_is (s : ByteArray) (i : Int) (h0 : 0 ≤ i) (h1 : i < s.size) (hs : (s.size : Int) ≤ 9223372036854775000) (k : Nat) :
    spec_l00Letter.f (k + 2) s i = some (if isL (bt s i) = true then 1 else if i + 1 < s.size ∧ isW (bt s i) (bt s (i + 1)) = true then 2 else 0) := by
  unfold spec_l00Letter.f isL
  rw [if_pos h0, if_pos h1, show k + 2 = (k + 1) + 1 from rfl, l0_true]
  have hb : (bt s i == 95) = decide (bt s i = 95) := by rw [Bool.eq_iff_iff]; simp
  rw [hb]
  simp only [decide_eq_true_eq]
  by_cases g : bt s i = 95
  · simp only [g, decide_true, l0_true]
    simp
  · simp only [decide_eq_false g, l0_false s i _ h0 h1 hs]
    generalize bt s i = c at *
    repeat' split
    all_goals first | rfl | omega

theorem isLetter_is (c : Int) : impl_isLetter.f c = some (isL c) := by
  unfold impl_isLetter.f isL
  have hb : (c == 95) = decide (c = 95) := by rw [Bool.eq_iff_iff]; simp
  rw [hb]
  repeat' split
  all_goals (refine congrArg some ?_; rw [Bool.eq_iff_iff]; simp only [decide_eq_true_eq, true_iff]; omega)

theorem isDigit_is (c : Int) : impl_isDigit.f c = some (decide (48 ≤ c ∧ c ≤ 57)) := by
  unfold impl_isDigit.f
  by_cases h : 48 ≤ c <;> by_cases k : c ≤ 57 <;> simp [h, k]

theorem within_b (n a b : Int) : impl_within.f n a b = some (decide (a ≤ n ∧ n ≤ b)) := by
  unfold impl_within.f
  by_cases h : a ≤ n <;> by_cases k : n ≤ b <;> simp [h, k]

theorem w_true (t : ByteArray) (k : Nat) : impl_isWideLetter.j0 (k + 1) t true = some false := by
  rw [impl_isWideLetter.j0, if_pos rfl]

theorem w_false (t : ByteArray) (ht : t.size = 2) (hcd : 194 ≤ bt t 0 ∧ bt t 0 ≤ 223 ∧ 128 ≤ bt t 1 ∧ bt t 1 ≤ 191) (k : Nat) :
    impl_isWideLetter.j0 (k + 1) t false = some (isR ((bt t 0 - 192) * 64 + bt t 1 - 128)) := by
  rw [impl_isWideLetter.j0, if_neg (by decide), if_pos (by omega), if_pos (by omega)]
  generalize bt t 0 = c at *
  generalize bt t 1 = d at *
  have e1 : Go.bits .and .u8 c 31 = c - 192 := by rw [Go.u8_and31 c (by omega) (by omega)]; omega
  have e2 : Go.bits .and .u8 d 63 = d - 128 := by rw [Go.u8_and63 d (by omega) (by omega)]; omega
  have e3 : Go.bits .or .i64 ((c - 192) * 64) (d - 128) = (c - 192) * 64 + d - 128 := by
    rw [Go.bits_join .i64 63 (by decide) (fun n a b => by rw [Go.IntKind.wrap_i64]; omega) 6 ((c - 192) * 64) (d - 128) (by omega) (by omega) (by omega) (by omega) (by omega) (by omega)]
    omega
  rw [e1, e2, w64 (x := c - 192) (by omega) (by omega), w64 (x := (c - 192) * 64) (by omega) (by omega), w64 (x := d - 128) (by omega) (by omega), e3]
  simp only [within_b, Option.bind_some, decide_eq_true_eq]
  unfold isR
  generalize (c - 192) * 64 + d - 128 = r
  repeat' split
  all_goals (refine congrArg some ?_; rw [Bool.eq_iff_iff]; simp only [decide_eq_true_eq, true_iff]; omega)

theorem wide_is (t : ByteArray) (ht : t.size = 2) (k : Nat) : impl_isWideLetter.f (k + 1) t = some (isW (bt t 0) (bt t 1)) := by
  unfold impl_isWideLetter.f isW
  rw [if_pos (by omega)]
  by_cases a : bt t 0 < 194
  · rw [if_pos a, w_true, decide_eq_false (by omega)]; rfl
  · by_cases b : bt t 0 > 223
    · rw [if_neg a, if_pos b, w_true, decide_eq_false (by omega)]; rfl
    · rw [if_neg a, if_neg b, if_pos (by omega)]
      by_cases d : bt t 1 < 128
      · rw [if_pos d, w_true, decide_eq_false (by omega)]; rfl
      · rw [if_neg d]
        by_cases e : bt t 1 > 191
        · rw [decide_eq_true e, w_true, decide_eq_false (by omega)]; rfl
        · rw [decide_eq_false e, w_false t ht (by omega), decide_eq_true (by omega)]; simp

theorem word_both (s : ByteArray) (hs : (s.size : Int) ≤ 40) (d : Nat) : ∀ (k : Nat) (i : Int), 0 ≤ i → i ≤ s.size → (s.size : Int) - i ≤ d → 2 * d + 4 ≤ k →
    ∃ r, spec_l00Word.l0 k s 0 i = some r ∧ impl_NameOK.l0 k s i = some (r == (s.size : Int)) := by
  induction d with
  | zero =>
    intro k i h0 h1 hd hk
    obtain ⟨k, rfl⟩ : ∃ m, k = m + 1 := ⟨k - 1, by omega⟩
    have : i = s.size := by omega
    refine ⟨i, ?_, ?_⟩
    · rw [spec_l00Word.l0, if_neg (by omega), w64 (by omega) (by omega), Int.sub_zero]
    · rw [impl_NameOK.l0, if_neg (by omega)]; simp [this]
  | succ d ih =>
    intro k i h0 h1 hd hk
    obtain ⟨k, rfl⟩ : ∃ m, k = m + 5 := ⟨k - 5, by omega⟩
    by_cases hend : i = s.size
    · refine ⟨i, ?_, ?_⟩
      · rw [show k + 5 = (k + 4) + 1 from rfl, spec_l00Word.l0, if_neg (by omega), w64 (by omega) (by omega), Int.sub_zero]
      · rw [show k + 5 = (k + 4) + 1 from rfl, impl_NameOK.l0, if_neg (by omega)]; simp [hend]
    · have hlt : i < s.size := by omega
      have hw0 : wrap64 (i - 0) = i := by rw [Int.sub_zero]; exact w64 (by omega) (by omega)
      have hw1 : wrap64 (i + 1) = i + 1 := w64 (by omega) (by omega)
      have hw2 : wrap64 (i + 2) = i + 2 := w64 (by omega) (by omega)
      have hstop : (i == (s.size : Int)) = false := by simp [hend]
      obtain ⟨r1, g1, g2⟩ := ih (k + 3) (i + 1) (by omega) (by omega) (by omega) (by omega)
      -- the two second halves
      have jt : spec_l00Word.j1 (k + 4) s 0 i 0 true = some r1 := by rw [show k + 4 = (k + 3) + 1 from rfl, spec_l00Word.j1, if_pos rfl, hw1]; exact g1
      have jf : spec_l00Word.j1 (k + 4) s 0 i 0 false = some i := by rw [show k + 4 = (k + 3) + 1 from rfl, spec_l00Word.j1, if_neg (by decide), if_pos rfl, hw0]
      have j1 : spec_l00Word.j1 (k + 4) s 0 i 1 false = some r1 := by rw [show k + 4 = (k + 3) + 1 from rfl, spec_l00Word.j1, if_neg (by decide), if_neg (by decide), hw1]; exact g1
      have mt : impl_NameOK.j1 (k + 4) s i true = some (r1 == (s.size : Int)) := by rw [show k + 4 = (k + 3) + 1 from rfl, impl_NameOK.j1, if_pos rfl, hw1]; exact g2
      have mf : ¬ (i + 1 < s.size ∧ isW (bt s i) (bt s (i + 1)) = true) → impl_NameOK.j1 (k + 4) s i false = some (i == (s.size : Int)) := by
        intro hW
        rw [show k + 4 = (k + 3) + 1 from rfl, impl_NameOK.j1, if_neg (by decide), hw1, hstop]
        by_cases n : i + 1 < s.size
        · rw [if_pos n, if_pos h0, hw2, if_pos (by omega), if_pos (by omega)]
          rw [show k + 3 = (k + 2) + 1 from rfl, wide_is _ (by rw [size_extract _ _ _ (by omega) (by omega)]; omega), bt_extract _ _ _ _ (by omega) (by omega) (by omega), bt_extract _ _ _ _ (by omega) (by omega) (by omega)]
          simp only [Option.bind_some]
          rw [if_neg (fun h => hW ⟨n, by rw [show (i.toNat : Int) + 0 = i by omega, show (i.toNat : Int) + 1 = i + 1 by omega] at h; exact h⟩)]
        · rw [if_neg n]
      rw [show k + 5 = (k + 4) + 1 from rfl, spec_l00Word.l0, impl_NameOK.l0, if_pos hlt, if_pos h0, if_pos hlt, show k + 4 = (k + 2) + 2 from rfl, letter_is s i h0 hlt (by omega), isLetter_is, isDigit_is, show (k + 2) + 2 = k + 4 from rfl]
      simp only [Option.bind_some]
      by_cases hL : isL (bt s i) = true
      · rw [if_pos hL, if_neg (by decide), if_pos hL]
        exact ⟨r1, j1, mt⟩
      · rw [if_neg hL, if_neg hL]
        by_cases hD : i > 0 ∧ (48 ≤ bt s i ∧ bt s i ≤ 57)
        · have hnw : ¬ (i + 1 < s.size ∧ isW (bt s i) (bt s (i + 1)) = true) := by
            unfold isW; simp only [Bool.and_eq_true, decide_eq_true_eq]; omega
          rw [if_neg hnw, if_pos rfl, if_pos hD.1, if_pos (show (0 : Int) ≤ i by omega), if_pos (show bt s i ≥ 48 by omega), if_pos hD.1, decide_eq_true (show bt s i ≤ 57 by omega), decide_eq_true hD.2]
          exact ⟨r1, jt, mt⟩
        · have hM : (if i > 0 then impl_NameOK.j1 (k + 4) s i (decide (48 ≤ bt s i ∧ bt s i ≤ 57)) else impl_NameOK.j1 (k + 4) s i false) = impl_NameOK.j1 (k + 4) s i false := by
            by_cases n : i > 0
            · rw [if_pos n, decide_eq_false (fun h => hD ⟨n, h⟩)]
            · rw [if_neg n]
          rw [hM]
          by_cases hW : i + 1 < s.size ∧ isW (bt s i) (bt s (i + 1)) = true
          · obtain ⟨r2, g3, g4⟩ := ih (k + 3) (i + 2) (by omega) (by omega) (by omega) (by omega)
            rw [if_pos hW, if_neg (by decide)]
            refine ⟨r2, ?_, ?_⟩
            · rw [show k + 4 = (k + 3) + 1 from rfl, spec_l00Word.j1, if_neg (by decide), if_neg (by decide), hw2]; exact g3
            · rw [show k + 4 = (k + 3) + 1 from rfl, impl_NameOK.j1, if_neg (by decide), hw1, if_pos hW.1, if_pos h0, hw2, if_pos (by omega), if_pos (by omega)]
              rw [show k + 3 = (k + 2) + 1 from rfl, wide_is _ (by rw [size_extract _ _ _ (by omega) (by omega)]; omega), bt_extract _ _ _ _ (by omega) (by omega) (by omega), bt_extract _ _ _ _ (by omega) (by omega) (by omega)]
              simp only [Option.bind_some]
              rw [if_pos (by rw [show (i.toNat : Int) + 0 = i by omega, show (i.toNat : Int) + 1 = i + 1 by omega]; exact hW.2), w64 (x := i + 1 + 1) (by omega) (by omega), show i + 1 + 1 = i + 2 by omega]
              exact g4
          · rw [if_neg hW, if_pos rfl, mf hW]
            have hS : (if i > 0 then (if 0 ≤ i then (if bt s i ≥ 48 then spec_l00Word.j1 (k + 4) s 0 i 0 (decide (bt s i ≤ 57)) else spec_l00Word.j1 (k + 4) s 0 i 0 false) else none) else spec_l00Word.j1 (k + 4) s 0 i 0 false) = some i := by
              by_cases n : i > 0
              · rw [if_pos n, if_pos h0]
                by_cases m : bt s i ≥ 48
                · rw [if_pos m, decide_eq_false (fun h => hD ⟨n, m, h⟩), jf]
                · rw [if_neg m, jf]
              · rw [if_neg n, jf]
            rw [hS]
            exact ⟨i, rfl, rfl⟩

/-- Is a text a name? -/
def nameB (s : ByteArray) : Bool := (impl_NameOK.f 84 s).getD false

theorem name_both (s : ByteArray) (k : Nat) (hk : 84 ≤ k) : impl_NameOK.f k s = some (nameB s) ∧ spec_NameOK.f k s = some (nameB s) := by
  have key : ∃ b, ∀ k, 84 ≤ k → impl_NameOK.f k s = some b ∧ spec_NameOK.f k s = some b := by
    by_cases h : 1 ≤ (s.size : Int) ∧ (s.size : Int) ≤ 40
    · obtain ⟨r, h1, h2⟩ := word_both s h.2 40 84 0 (by omega) (by omega) (by omega) (by omega)
      have g1 : impl_NameOK.f 84 s = some (r == (s.size : Int)) := by unfold impl_NameOK.f; rw [within_b, decide_eq_true h]; simpa using h2
      have g2 : spec_NameOK.f 84 s = some (r == (s.size : Int)) := by unfold spec_NameOK.f; rw [if_pos (by omega), if_pos h.2]; unfold spec_l00Word.f; rw [h1]; rfl
      exact ⟨_, fun k hk => ⟨at_rounds (impl_NameOK.mono s) hk g1, at_rounds (spec_NameOK.mono s) hk g2⟩⟩
    · refine ⟨false, fun k _ => ⟨?_, ?_⟩⟩
      · unfold impl_NameOK.f; rw [within_b, decide_eq_false h]; simp
      · unfold spec_NameOK.f
        by_cases a : (s.size : Int) > 0
        · rw [if_pos a, if_neg (by omega)]
        · rw [if_neg a]
  obtain ⟨b, hb⟩ := key
  have : nameB s = b := by unfold nameB; rw [(hb 84 (by omega)).1]; rfl
  rw [this]; exact hb k hk

theorem name_size {s : ByteArray} (h : nameB s = true) : 1 ≤ s.size ∧ s.size ≤ 40 := by
  unfold nameB impl_NameOK.f at h
  rw [within_b] at h
  by_cases g : 1 ≤ (s.size : Int) ∧ (s.size : Int) ≤ 40
  · omega
  · rw [decide_eq_false g] at h; simp at h

end Go.Proofs.YthhhmcijbplcoaaGreatDoor
