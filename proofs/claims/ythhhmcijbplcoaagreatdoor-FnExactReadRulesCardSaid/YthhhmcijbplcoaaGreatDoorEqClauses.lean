/- The statements' own words on rules: a list of rules is equal to itself; a mark's text is one, however many rounds there are. -/
import Derived.Test.YthhhmcijbplcoaaGreatDoorPFnExactReadRulesx0
import Derived.Test.YthhhmcijbplcoaaGreatDoorPFnExactReadRulesx7
import Derived.Test.YthhhmcijbplcoaaGreatDoorPFnExactReadRulesx8
import Derived.Test.YthhhmcijbplcoaaGreatDoorRdClause
import Derived.Test.YthhhmcijbplcoaaGreatDoorMarkText
namespace Go.Proofs.YthhhmcijbplcoaaGreatDoor
open Go.RowKit Go.Proofs.YthhhmcijbplcoaaGreatDoor.PFnExactReadRules Go.Proofs.YthhhmcijbplcoaaGreatDoorW.PrintWords Go.Proofs.YthhhmcijbplcoaaGreatDoorW.PrintLast

theorem eqT1 (a b c : Int) : laws_eqTerm.f a b c a b c = some true := by
  unfold laws_eqTerm.f
  simp
theorem eqTS1 (l : List S66) (hl : l.length ≤ 1000) (k : Nat) (hk : l.length < k) : laws_eqTermS.f k l l = some true := by
  have key : ∀ d i k, i + d = l.length → d < k → laws_eqTermS.l0 k l l (i : Int) = some true := by
    intro d
    induction d with
    | zero =>
      intro i k h hk
      obtain ⟨k, rfl⟩ : ∃ m, k = m + 1 := ⟨k - 1, by omega⟩
      rw [laws_eqTermS.l0, if_neg (by omega)]
    | succ d ih =>
      intro i k h hk
      obtain ⟨k, rfl⟩ : ∃ m, k = m + 1 := ⟨k - 1, by omega⟩
      have := ih (i + 1) k (by omega) (by omega)
      rw [show ((i + 1 : Nat) : Int) = (i : Int) + 1 by omega] at this
      rw [laws_eqTermS.l0, if_pos (by omega), if_pos (by omega), if_pos (by omega), eqT1, Option.bind_some, if_pos rfl, w64 (x := (i : Int) + 1) (by omega) (by omega)]
      exact this
  unfold laws_eqTermS.f
  rw [if_pos rfl]
  exact key l.length 0 k (by omega) hk
theorem eqC1 (x : S41) (h : x.f1.length ≤ 1000) (k : Nat) (hk : 1000 < k) : laws_eqClause.f k x.f0 x.f1 x.f2 x.f3 x.f0 x.f1 x.f2 x.f3 = some true := by
  unfold laws_eqClause.f
  rw [if_pos rfl, eqTS1 x.f1 h k (by omega)]
  simp
theorem eqCS1 (l : List S41) (hl : l.length ≤ 1000) (hi : ∀ x ∈ l, x.f1.length ≤ 1000) (k : Nat) (hk : l.length + 1001 < k) : laws_eqClauseS.f k l l = some true := by
  have key : ∀ d i k, i + d = l.length → d + 1001 < k → laws_eqClauseS.l0 k l l (i : Int) = some true := by
    intro d
    induction d with
    | zero =>
      intro i k h hk
      obtain ⟨k, rfl⟩ : ∃ m, k = m + 1 := ⟨k - 1, by omega⟩
      rw [laws_eqClauseS.l0, if_neg (by omega)]
    | succ d ih =>
      intro i k h hk
      obtain ⟨k, rfl⟩ : ∃ m, k = m + 1 := ⟨k - 1, by omega⟩
      have hil : i < l.length := by omega
      have := ih (i + 1) k (by omega) (by omega)
      rw [show ((i + 1 : Nat) : Int) = (i : Int) + 1 by omega] at this
      rw [laws_eqClauseS.l0, if_pos (by omega), if_pos (by omega), if_pos (by omega), rdBClause hil, eqC1 _ (hi _ (List.getElem_mem hil)) k (by omega), Option.bind_some, if_pos rfl, w64 (x := (i : Int) + 1) (by omega) (by omega)]
      exact this
  unfold laws_eqClauseS.f
  rw [if_pos rfl]
  exact key l.length 0 k (by omega) hk

theorem markAll_loop : ∀ (d : Nat) (a : Int), 0 ≤ a → a < 10 ^ d → a ≤ 9223372036854775807 → ∀ (s : ByteArray), s.size + d ≤ 9000 → ∃ t, ∀ k, d < k → laws_markText.l0 k a s = some t := by
  intro d
  induction d with
  | zero =>
    intro a h0 h1 h2 s hs
    refine ⟨(⟨#[109]⟩ : ByteArray) ++ s, fun k hk => ?_⟩
    obtain ⟨k, rfl⟩ : ∃ m, k = m + 1 := ⟨k - 1, by omega⟩
    rw [laws_markText.l0, if_neg (by simp at h1; omega), if_pos (by omega)]
  | succ d ih =>
    intro a h0 h1 h2 s hs
    by_cases h : a > 0
    · have hd : Int.tdiv a 10 = a / 10 := Int.tdiv_eq_ediv_of_nonneg h0
      have hlt : a / 10 < 10 ^ d := by
        have : a < 10 ^ d * 10 := by rw [← Int.pow_succ]; exact h1
        omega
      obtain ⟨t, ht⟩ := ih (a / 10) (by omega) hlt (by omega) (strOfNums [(wrap64 (48 + (Int.tmod a 10))) % 256] ++ s) (by rw [ByteArray.size_append, strN_size]; simp only [List.length_cons, List.length_nil]; omega)
      refine ⟨t, fun k hk => ?_⟩
      obtain ⟨k, rfl⟩ : ∃ m, k = m + 1 := ⟨k - 1, by omega⟩
      rw [laws_markText.l0, if_pos h, Option.bind_some, strN_size, if_pos (by simp only [List.length_cons, List.length_nil]; omega), hd, w64 (x := a / 10) (by omega) (by omega)]
      exact ht k (by omega)
    · refine ⟨(⟨#[109]⟩ : ByteArray) ++ s, fun k hk => ?_⟩
      obtain ⟨k, rfl⟩ : ∃ m, k = m + 1 := ⟨k - 1, by omega⟩
      rw [laws_markText.l0, if_neg h, if_pos (by omega)]
theorem markText_all (a : Int) (h2 : a ≤ 9223372036854775807) : ∃ t, ∀ k, 20 ≤ k → laws_markText.f k a = some t := by
  unfold laws_markText.f
  by_cases h : a ≤ 0
  · exact ⟨_, fun k _ => by rw [if_pos h]⟩
  · obtain ⟨t, ht⟩ := markAll_loop 19 a (by omega) (by omega) h2 (⟨#[]⟩ : ByteArray) (by decide)
    exact ⟨t, fun k hk => by rw [if_neg h]; exact ht k (by omega)⟩

end Go.Proofs.YthhhmcijbplcoaaGreatDoor
