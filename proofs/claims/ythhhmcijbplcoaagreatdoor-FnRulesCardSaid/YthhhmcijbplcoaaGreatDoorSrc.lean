/- The source of choices: from any state in range, a byte, a number below n, and a choice out of bytes come out in range, and the state stays in range. -/
import Derived.Test.YthhhmcijbplcoaaGreatDoorPFnRulesx0
import Derived.Test.YthhhmcijbplcoaaGreatDoorPFnRulesx5
import Derived.Test.YthhhmcijbplcoaaGreatDoorBase
namespace Go.Proofs.YthhhmcijbplcoaaGreatDoor
open Go.RowKit Go.Proofs.YthhhmcijbplcoaaGreatDoor.PFnRules Go.Proofs.YthhhmcijbplcoaaGreatDoorW.PrintWords Go.Proofs.YthhhmcijbplcoaaGreatDoorW.PrintLast

/-- A state of the source: its bytes are bytes, its place and its seed are in range. -/
structure SrcOK (l : List Int) (i s : Int) : Prop where
  len : (l.length : Int) ≤ 1048576
  byte : ∀ x ∈ l, 0 ≤ x ∧ x ≤ 255
  at0 : 0 ≤ i
  at1 : i ≤ 1000000000000
  seed0 : 0 ≤ s
  seed1 : s < 2147483648

theorem rd_mem {l : List Int} {i : Int} (h0 : 0 ≤ i) (h1 : i < l.length) : rd l i ∈ l := by
  unfold rd
  rw [List.getD_eq_getElem?_getD, List.getElem?_eq_getElem (by omega : i.toNat < l.length)]
  exact List.getElem_mem _

theorem tmod_bd {a n : Int} (h : 0 ≤ a) (k : 1 ≤ n) : 0 ≤ Int.tmod a n ∧ Int.tmod a n < n := by
  rw [Int.tmod_eq_emod_of_nonneg h]
  exact ⟨Int.emod_nonneg _ (by omega), Int.emod_lt_of_pos _ (by omega)⟩

theorem byte_ok {l : List Int} {i s : Int} (h : SrcOK l i s) : ∃ b s', spec_l00Src_byte.f l i s = some (b, i + 1, s') ∧ 0 ≤ b ∧ b ≤ 255 ∧ 0 ≤ s' ∧ s' < 2147483648 := by
  have h0 := h.at0
  have h1 := h.at1
  have s0 := h.seed0
  have s1 := h.seed1
  unfold spec_l00Src_byte.f spec_l00Src_byte.seed1 spec_l00Src_byte.seed2
  rw [w64 (x := i + 1) (by omega) (by omega), w64 (x := i + 1 - 1) (by omega) (by omega), show i + 1 - 1 = i by omega]
  by_cases a : i + 1 ≤ (l.length : Int)
  · rw [if_pos a, if_pos h0, if_pos (by omega)]
    have hb := h.byte _ (rd_mem h0 (by omega))
    generalize rd l i = x at *
    rw [w64 (x := x) (by omega) (by omega), w64 (x := s * 31) (by omega) (by omega), w64 (x := s * 31 + x) (by omega) (by omega), w64 (x := s * 31 + x + 7) (by omega) (by omega)]
    have hm := tmod_bd (a := s * 31 + x + 7) (n := 2147483648) (by omega) (by omega)
    exact ⟨x, _, rfl, hb.1, hb.2, hm.1, hm.2⟩
  · rw [if_neg a]
    by_cases b : i + 1 > 3000
    · rw [if_pos b]
      exact ⟨0, s, rfl, by omega, by omega, s0, s1⟩
    · rw [if_neg b, w64 (x := s * 1103515245) (by omega) (by omega), w64 (x := s * 1103515245 + 12345) (by omega) (by omega)]
      have hm := tmod_bd (a := s * 1103515245 + 12345) (n := 2147483648) (by omega) (by omega)
      generalize Int.tmod (s * 1103515245 + 12345) 2147483648 = t at *
      have hd : Int.tdiv t 65536 = t / 65536 := Int.tdiv_eq_ediv_of_nonneg hm.1
      rw [hd, w64 (x := t / 65536) (by omega) (by omega)]
      have hc := tmod_bd (a := t / 65536) (n := 256) (by omega) (by omega)
      exact ⟨_, t, rfl, hc.1, by omega, hm.1, hm.2⟩

theorem SrcOK.step {l : List Int} {i s i' s' : Int} (h : SrcOK l i s) (h0 : 0 ≤ i') (h1 : i' ≤ 1000000000000) (k0 : 0 ≤ s') (k1 : s' < 2147483648) : SrcOK l i' s' := ⟨h.len, h.byte, h0, h1, k0, k1⟩

/-- A number below n (0 where n is 1 or less). -/
theorem next_ok {l : List Int} {i s : Int} (n : Int) (h : SrcOK l i s) (hi : i ≤ 999999999990) (hn : n ≤ 16777216) :
    ∃ r i' s', spec_l00Src_next.f l i s n = some (r, i', s') ∧ 0 ≤ r ∧ (1 ≤ n → r < n) ∧ (n ≤ 1 → r = 0) ∧ i ≤ i' ∧ i' ≤ i + 3 ∧ SrcOK l i' s' := by
  have h0 := h.at0
  unfold spec_l00Src_next.f
  by_cases a : n ≤ 1
  · rw [if_pos a]
    exact ⟨0, i, s, rfl, by omega, fun _ => by omega, fun _ => rfl, by omega, by omega, h⟩
  · rw [if_neg a]
    obtain ⟨b1, s1, e1, b10, b11, s10, s11⟩ := byte_ok h
    have k1 := h.step (i' := i + 1) (s' := s1) (by omega) (by omega) s10 s11
    by_cases b : n ≤ 256
    · rw [if_pos b, e1]
      simp only [Option.bind_some]
      rw [if_neg (by omega)]
      have hm := tmod_bd (a := b1) (n := n) b10 (by omega)
      exact ⟨_, _, _, rfl, hm.1, fun _ => hm.2, fun h => by omega, by omega, by omega, k1⟩
    · rw [if_neg b, e1]
      simp only [Option.bind_some]
      obtain ⟨b2, s2, e2, b20, b21, s20, s21⟩ := byte_ok k1
      have k2 := k1.step (i' := i + 1 + 1) (s' := s2) (by omega) (by omega) s20 s21
      rw [e2]
      simp only [Option.bind_some]
      obtain ⟨b3, s3, e3, b30, b31, s30, s31⟩ := byte_ok k2
      have k3 := k2.step (i' := i + 1 + 1 + 1) (s' := s3) (by omega) (by omega) s30 s31
      rw [e3]
      simp only [Option.bind_some]
      rw [if_neg (by omega), w64 (x := b1 * 65536) (by omega) (by omega), w64 (x := b2 * 256) (by omega) (by omega), w64 (x := b1 * 65536 + b2 * 256) (by omega) (by omega), w64 (x := _ + b3) (by omega) (by omega)]
      have hm := tmod_bd (a := b1 * 65536 + b2 * 256 + b3) (n := n) (by omega) (by omega)
      exact ⟨_, _, _, rfl, hm.1, fun _ => hm.2, fun h => by omega, by omega, by omega, k3⟩

/-- The source's beginning. -/
theorem source_ok {l : List Int} (hl : (l.length : Int) ≤ 1048576) (hb : ∀ x ∈ l, (Lit.int .u8 x).wf = true) : SrcOK l 0 ((l.length : Int) % 1000) :=
  ⟨hl, fun x hx => by have h := hb x hx; simp [Lit.wf, IntKind.min, IntKind.max, IntKind.bits, IntKind.signed] at h; omega, by omega, by omega, by omega, by omega⟩

end Go.Proofs.YthhhmcijbplcoaaGreatDoor
