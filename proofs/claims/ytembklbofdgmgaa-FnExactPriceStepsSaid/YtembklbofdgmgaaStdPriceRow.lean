/- Plain laws of the statements' own functions on lists of PriceRow: the copy of a list is its image, a list is equal to itself, and only short lists are let by. -/
import Derived.Test.YtembklbofdgmgaaPAllx0
import Derived.Test.YtembklbofdgmgaaPAllx5
import Derived.Test.YtembklbofdgmgaaPAllx6
import Derived.Test.YtembklbofdgmgaaLoop
import Derived.Test.YtembklbofdgmgaaTypAll
namespace Go.Proofs.Ytembklbofdgmgaa
open Go.RowKit Go.Proofs.Ytembklbofdgmgaa.PAll Go.Proofs.YtembklbofdgmgaaW.PrintWords Go.Proofs.YtembklbofdgmgaaW.PrintLast

theorem rdAPriceRow {l : List S47} {i : Nat} (h : i < l.length) : rd_T47 l (i : Int) = l[i] := by
  unfold rd_T47
  rw [Int.toNat_natCast, List.getD_eq_getElem?_getD, List.getElem?_eq_getElem h]; rfl
theorem rdBPriceRow {l : List S44} {i : Nat} (h : i < l.length) : rd_T44 l (i : Int) = l[i] := by
  unfold rd_T44
  rw [Int.toNat_natCast, List.getD_eq_getElem?_getD, List.getElem?_eq_getElem h]; rfl

/-- A PriceRow as the program takes it. -/
def cvPriceRow (x : S47) : S44 := (⟨x.f0, x.f1, x.f2, x.f3, x.f4, x.f5⟩ : S44)

theorem toPriceRow_is (x : S47) : laws_toPriceRow.f x.f0 x.f1 x.f2 x.f3 x.f4 x.f5 = some (x.f0, x.f1, x.f2, x.f3, x.f4, x.f5) := by
  unfold laws_toPriceRow.f
  rfl

theorem toPriceRowS_is (l : List S47) (hl : l.length ≤ 1048576) (k : Nat) (hk : l.length < k) : laws_toPriceRowS.f k l = some (l.map cvPriceRow) := by
  unfold laws_toPriceRowS.f
  rw [if_pos (by omega), Int.toNat_natCast, if_pos (by omega)]
  have key := loop_fold (fun k st i => laws_toPriceRowS.l0 k l st i) l.length (fun i => (l.take i).map cvPriceRow ++ List.replicate (l.length - i) z44) (l.map cvPriceRow)
    (fun k i hi => by
      have hlen : ((l.take i).map cvPriceRow ++ List.replicate (l.length - i) z44).length = l.length := by
        rw [List.length_append, List.length_map, List.length_take, List.length_replicate]; omega
      show laws_toPriceRowS.l0 (k + 1) l _ _ = _
      rw [laws_toPriceRowS.l0, if_pos (by omega), if_pos (by omega), toPriceRow_is]
      simp only [Option.bind_some]
      rw [if_pos (by rw [hlen]; omega), Int.toNat_natCast, w64 (by omega) (by omega)]
      have hs := fill_set l cvPriceRow z44 i hi l[i] (List.getElem?_eq_getElem hi)
      rw [rdAPriceRow hi]
      exact congrArg (fun z => laws_toPriceRowS.l0 k l z ((i : Int) + 1)) hs)
    (fun k => by
      show laws_toPriceRowS.l0 (k + 1) l _ _ = _
      rw [laws_toPriceRowS.l0, if_neg (by omega), List.take_length, Nat.sub_self, List.replicate_zero, List.append_nil])
  have := key l.length 0 k (by omega) hk
  simpa using this

theorem eqPriceRow_refl (x : S44) : laws_eqPriceRow.f x.f0 x.f1 x.f2 x.f3 x.f4 x.f5 x.f0 x.f1 x.f2 x.f3 x.f4 x.f5 = some true := by
  unfold laws_eqPriceRow.f
  simp

theorem eqPriceRowS_refl (l : List S44) (hl : l.length ≤ 1048576) (k : Nat) (hk : l.length < k) : laws_eqPriceRowS.f k l l = some true := by
  unfold laws_eqPriceRowS.f
  rw [if_pos rfl]
  have key := loop_fold (σ := Unit) (fun k _ i => laws_eqPriceRowS.l0 k l l i) l.length (fun _ => ()) true
    (fun k i hi => by
      show laws_eqPriceRowS.l0 (k + 1) l l _ = _
      rw [laws_eqPriceRowS.l0, if_pos (by omega), if_pos (by omega), if_pos (by omega), eqPriceRow_refl]
      simp only [Option.bind_some, if_true]
      rw [w64 (by omega) (by omega)])
    (fun k => by
      show laws_eqPriceRowS.l0 (k + 1) l l _ = _
      rw [laws_eqPriceRowS.l0, if_neg (by omega)])
  exact key l.length 0 k (by omega) hk

theorem szPriceRow_ok (x : S47) (h : okS47 x) (left : Int) (h0 : 0 ≤ left) (h1 : left ≤ 1048576) : ∃ r, laws_szPriceRow.f x.f0 x.f1 x.f2 x.f3 x.f4 x.f5 left = some r ∧ (r < 0 ∨ 0 ≤ r) ∧ r ≤ left := by
  unfold okS47 at h
  unfold laws_szPriceRow.f
  have q0 := h.1
  rw [w64 (x := left - (x.f0.size : Int)) (by omega) (by omega)]
  by_cases c0 : left - (x.f0.size : Int) < 0
  · rw [if_pos c0]; exact ⟨-1, rfl, by omega, by omega⟩
  · rw [if_neg c0]
    have q1 := h.2.1
    rw [w64 (x := left - (x.f0.size : Int) - (x.f1.size : Int)) (by omega) (by omega)]
    by_cases c1 : left - (x.f0.size : Int) - (x.f1.size : Int) < 0
    · rw [if_pos c1]; exact ⟨-1, rfl, by omega, by omega⟩
    · rw [if_neg c1]
      exact ⟨_, rfl, by omega, by omega⟩

theorem szPriceRowS_ok (l : List S47) (hl : l.length ≤ 9223372036854775807) (hok : ∀ y ∈ l, okS47 y) : ∃ r, (∀ k, l.length < k → laws_szPriceRowS.f k l 1048576 = some r) ∧ (r < 0 ∨ (0 ≤ r ∧ l.length ≤ 1048576)) := by
  have key : ∀ d i left, i + d = l.length → l.length ≤ 1048576 → (0 : Int) ≤ left → left ≤ 1048576 → ∃ r, (∀ k, d < k → laws_szPriceRowS.l0 k l left (i : Int) = some r) ∧ (r < 0 ∨ 0 ≤ r) := by
    intro d
    induction d with
    | zero =>
      intro i left hi hl2 h0 h1
      refine ⟨left, fun k hk => ?_, by omega⟩
      obtain ⟨k, rfl⟩ : ∃ m, k = m + 1 := ⟨k - 1, by omega⟩
      rw [laws_szPriceRowS.l0, if_neg (by omega)]
    | succ d ih =>
      intro i left hi hl2 h0 h1
      obtain ⟨r, hr, hs, hle⟩ := szPriceRow_ok l[i] (hok _ (List.getElem_mem _)) left h0 h1
      by_cases hn : r < 0
      · refine ⟨-1, fun k hk => ?_, by omega⟩
        obtain ⟨k, rfl⟩ : ∃ m, k = m + 1 := ⟨k - 1, by omega⟩
        rw [laws_szPriceRowS.l0, if_pos (by omega), if_pos (by omega), rdAPriceRow (show i < l.length by omega), hr]
        simp only [Option.bind_some]
        rw [if_pos hn]
      · obtain ⟨r2, hr2, hs2⟩ := ih (i + 1) r (by omega) hl2 (by omega) (by omega)
        refine ⟨r2, fun k hk => ?_, hs2⟩
        obtain ⟨k, rfl⟩ : ∃ m, k = m + 1 := ⟨k - 1, by omega⟩
        rw [laws_szPriceRowS.l0, if_pos (by omega), if_pos (by omega), rdAPriceRow (show i < l.length by omega), hr]
        simp only [Option.bind_some]
        rw [if_neg hn, w64 (by omega) (by omega)]
        have := hr2 k (by omega)
        rw [show ((i + 1 : Nat) : Int) = (i : Int) + 1 by omega] at this
        exact this
  unfold laws_szPriceRowS.f
  rw [w64 (x := 1048576 - (l.length : Int)) (by omega) (by omega)]
  by_cases h : 1048576 - (l.length : Int) < 0
  · exact ⟨-1, fun k _ => by rw [if_pos h], by omega⟩
  · obtain ⟨r, hr, hs⟩ := key l.length 0 (1048576 - (l.length : Int)) (by omega) (by omega) (by omega) (by omega)
    refine ⟨r, fun k hk => ?_, by omega⟩
    rw [if_neg h]
    have := hr k hk
    simpa using this

end Go.Proofs.Ytembklbofdgmgaa
