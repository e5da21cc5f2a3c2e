/- Plain laws of the statements' own functions on lists of rules: the copy of a list is its image, a list is equal to itself, and only short lists are let by. -/
import Derived.Test.YtbmpkggjcnmieaaPAllx0
import Derived.Test.YtbmpkggjcnmieaaPAllx1
import Derived.Test.YtbmpkggjcnmieaaPAllx3
import Derived.Test.YtbmpkggjcnmieaaPAllx7
import Derived.Test.YtbmpkggjcnmieaaStdClause1
namespace Go.Proofs.Ytbmpkggjcnmieaa
open Go.RowKit Go.Proofs.Ytbmpkggjcnmieaa.PAll Go.Proofs.YtbmpkggjcnmieaaW.PrintWords Go.Proofs.YtbmpkggjcnmieaaW.PrintLast

theorem szClauseS_ok (l : List S54) (hl : l.length ≤ 9223372036854775807) (hok : ∀ y ∈ l, okS54 y) :
    ∃ r, (∀ k, 2200000 ≤ k → laws_szClauseS.f k l 1048576 = some r) ∧ (r < 0 ∨ (l.length ≤ 1048576 ∧ ∀ x ∈ l, x.f1.length ≤ 1048576)) := by
  have key : ∀ d i (left : Int), i + d = l.length → l.length ≤ 1048576 → 0 ≤ left → left ≤ 1048576 → ∃ r, (∀ k, d + 1048577 < k → laws_szClauseS.l0 k l left (i : Int) = some r) ∧ (r < 0 ∨ ∀ x ∈ l.drop i, x.f1.length ≤ 1048576) := by
    intro d
    induction d with
    | zero =>
      intro i left hi hl2 h0 h1
      refine ⟨left, fun k hk => ?_, .inr fun x hx => ?_⟩
      · obtain ⟨k, rfl⟩ : ∃ m, k = m + 1 := ⟨k - 1, by omega⟩
        rw [laws_szClauseS.l0, if_neg (by omega)]
      · rw [List.drop_eq_nil_of_le (by omega)] at hx; simp at hx
    | succ d ih =>
      intro i left hi hl2 h0 h1
      obtain ⟨q, eq, hq⟩ := szClause_ok l[i] (hok _ (List.getElem_mem (by omega : i < l.length))) left h0 h1
      by_cases hn : q < 0
      · refine ⟨-1, fun k hk => ?_, by omega⟩
        obtain ⟨k, rfl⟩ : ∃ m, k = m + 1 := ⟨k - 1, by omega⟩
        rw [laws_szClauseS.l0, if_pos (by omega), if_pos (by omega), rdAClause (by omega), eq, Option.bind_some, if_pos hn]
      · obtain ⟨r, e, hr⟩ := ih (i + 1) q (by omega) hl2 (by omega) (by omega)
        refine ⟨r, fun k hk => ?_, ?_⟩
        · obtain ⟨k, rfl⟩ : ∃ m, k = m + 1 := ⟨k - 1, by omega⟩
          have e := e k (by omega)
          rw [show ((i + 1 : Nat) : Int) = (i : Int) + 1 by omega] at e
          rw [laws_szClauseS.l0, if_pos (by omega), if_pos (by omega), rdAClause (by omega), eq, Option.bind_some, if_neg hn, w64 (x := (i : Int) + 1) (by omega) (by omega)]
          exact e
        · rcases hr with h | h
          · exact .inl h
          · refine .inr fun x hx => ?_
            rw [List.drop_eq_getElem_cons (by omega : i < l.length)] at hx
            rcases List.mem_cons.1 hx with e | e
            · rw [e]; omega
            · exact h x e
  unfold laws_szClauseS.f
  rw [w64 (x := 1048576 - (l.length : Int)) (by omega) (by omega)]
  by_cases hn : 1048576 - (l.length : Int) < 0
  · exact ⟨-1, fun k _ => by rw [if_pos hn], by omega⟩
  · obtain ⟨r, e, hr⟩ := key l.length 0 (1048576 - (l.length : Int)) (by omega) (by omega) (by omega) (by omega)
    refine ⟨r, fun k hk => ?_, ?_⟩
    · rw [if_neg hn]
      exact e k (by omega)
    · rcases hr with h | h
      · exact .inl h
      · exact .inr ⟨by omega, by simpa using h⟩

theorem toClauseS_is (l : List S54) (hl : l.length ≤ 1048576) (hi : ∀ x ∈ l, x.f1.length ≤ 1048576) (k : Nat) (hk : 2200000 ≤ k) : laws_toClauseS.f k l = some (l.map cvClause) := by
  have key : ∀ d i k, i + d = l.length → d + 1048577 < k → laws_toClauseS.l0 k l ((l.take i).map cvClause ++ List.replicate (l.length - i) z37) (i : Int) = some (l.map cvClause) := by
    intro d
    induction d with
    | zero =>
      intro i k h hk
      obtain ⟨k, rfl⟩ : ∃ m, k = m + 1 := ⟨k - 1, by omega⟩
      obtain rfl : i = l.length := by omega
      rw [laws_toClauseS.l0, if_neg (by omega), List.take_length, Nat.sub_self, List.replicate_zero, List.append_nil]
    | succ d ih =>
      intro i k h hk
      obtain ⟨k, rfl⟩ : ∃ m, k = m + 1 := ⟨k - 1, by omega⟩
      have hil : i < l.length := by omega
      have hlen : ((l.take i).map cvClause ++ List.replicate (l.length - i) z37).length = l.length := by
        rw [List.length_append, List.length_map, List.length_take, List.length_replicate]; omega
      rw [laws_toClauseS.l0, if_pos (by omega), if_pos (by omega), rdAClause hil, toClause_is _ (hi _ (List.getElem_mem hil)) k (by omega)]
      simp only [Option.bind_some]
      rw [if_pos (by rw [hlen]; omega), Int.toNat_natCast, w64 (by omega) (by omega)]
      have hs := fill_set l cvClause z37 i hil l[i] (List.getElem?_eq_getElem hil)
      have := ih (i + 1) k (by omega) (by omega)
      rw [← hs, show ((i + 1 : Nat) : Int) = (i : Int) + 1 by omega] at this
      exact this
  unfold laws_toClauseS.f
  rw [if_pos (by omega), Int.toNat_natCast, if_pos (by omega)]
  have := key l.length 0 k (by omega) (by omega)
  simpa using this

theorem eqClauseS_refl (l : List S37) (hl : l.length ≤ 1048576) (hi : ∀ x ∈ l, x.f1.length ≤ 1048576) (k : Nat) (hk : 2200000 ≤ k) : laws_eqClauseS.f k l l = some true := by
  have key : ∀ d i k, i + d = l.length → d + 1048577 < k → laws_eqClauseS.l0 k l l (i : Int) = some true := by
    intro d
    induction d with
    | zero =>
      intro i k h hk
      obtain ⟨k, rfl⟩ : ∃ m, k = m + 1 := ⟨k - 1, by omega⟩
      rw [laws_eqClauseS.l0, if_neg (by omega)]
    | succ d ih =>
      intro i k h hk
      obtain ⟨k, rfl⟩ : ∃ m, k = m + 1 := ⟨k - 1, by omega⟩
      have hil : i < l.length := by omega
      rw [laws_eqClauseS.l0, if_pos (by omega), if_pos (by omega), if_pos (by omega), rdBClause hil, eqClause_refl _ (hi _ (List.getElem_mem hil)) k (by omega)]
      simp only [Option.bind_some, if_true]
      rw [w64 (by omega) (by omega)]
      have := ih (i + 1) k (by omega) (by omega)
      rwa [show ((i + 1 : Nat) : Int) = (i : Int) + 1 by omega] at this
  unfold laws_eqClauseS.f
  rw [if_pos rfl]
  have := key l.length 0 k (by omega) (by omega)
  simpa using this

end Go.Proofs.Ytbmpkggjcnmieaa
