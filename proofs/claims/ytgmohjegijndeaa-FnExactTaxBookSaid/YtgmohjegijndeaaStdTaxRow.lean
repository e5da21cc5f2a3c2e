/- Plain laws of the statements' own functions on lists of TaxRow: the copy of a list is its image, a list is equal to itself, and only short lists are let by. -/
import Derived.Test.YtgmohjegijndeaaPAllx0
import Derived.Test.YtgmohjegijndeaaPAllx1
import Derived.Test.YtgmohjegijndeaaPAllx3
import Derived.Test.YtgmohjegijndeaaPAllx7
import Derived.Test.YtgmohjegijndeaaRdTax
import Derived.Test.YtgmohjegijndeaaTypAll
namespace Go.Proofs.Ytgmohjegijndeaa
open Go.RowKit Go.Proofs.Ytgmohjegijndeaa.PAll Go.Proofs.YtgmohjegijndeaaW.PrintWords Go.Proofs.YtgmohjegijndeaaW.PrintLast

theorem rdATaxRow {l : List S56} {i : Nat} (h : i < l.length) : rd_T56 l (i : Int) = l[i] := by
  unfold rd_T56
  rw [Int.toNat_natCast, List.getD_eq_getElem?_getD, List.getElem?_eq_getElem h]; rfl

/-- A TaxRow as the program takes it. -/
def cvTaxRow (x : S56) : S66 := (⟨x.f0, x.f1, x.f2, x.f3, (⟨x.f4.f0, x.f4.f1⟩ : S49)⟩ : S66)
theorem toTaxRow_is (x : S56) : laws_toTaxRow.f x.f0 x.f1 x.f2 x.f3 x.f4.f0 x.f4.f1 = some (x.f0, x.f1, x.f2, x.f3, x.f4.f0, x.f4.f1) := by
  unfold laws_toTaxRow.f laws_toRate.f
  rfl

theorem toTaxRowS_is (l : List S56) (hl : l.length ≤ 1048576) (k : Nat) (hk : l.length < k) : laws_toTaxRowS.f k l = some (l.map cvTaxRow) := by
  unfold laws_toTaxRowS.f
  rw [if_pos (by omega), Int.toNat_natCast, if_pos (by omega)]
  have key := loop_fold (fun k st i => laws_toTaxRowS.l0 k l st i) l.length (fun i => (l.take i).map cvTaxRow ++ List.replicate (l.length - i) z66) (l.map cvTaxRow)
    (fun k i hi => by
      have hlen : ((l.take i).map cvTaxRow ++ List.replicate (l.length - i) z66).length = l.length := by
        rw [List.length_append, List.length_map, List.length_take, List.length_replicate]; omega
      show laws_toTaxRowS.l0 (k + 1) l _ _ = _
      rw [laws_toTaxRowS.l0, if_pos (by omega), if_pos (by omega), toTaxRow_is]
      simp only [Option.bind_some]
      rw [if_pos (by rw [hlen]; omega), Int.toNat_natCast, w64 (by omega) (by omega)]
      have hs := fill_set l cvTaxRow z66 i hi l[i] (List.getElem?_eq_getElem hi)
      rw [rdATaxRow hi]
      exact congrArg (fun z => laws_toTaxRowS.l0 k l z ((i : Int) + 1)) hs)
    (fun k => by
      show laws_toTaxRowS.l0 (k + 1) l _ _ = _
      rw [laws_toTaxRowS.l0, if_neg (by omega), List.take_length, Nat.sub_self, List.replicate_zero, List.append_nil])
  have := key l.length 0 k (by omega) hk
  simpa using this

theorem eqTaxRow_refl (x : S66) : laws_eqTaxRow.f x.f0 x.f1 x.f2 x.f3 x.f4.f0 x.f4.f1 x.f0 x.f1 x.f2 x.f3 x.f4.f0 x.f4.f1 = some true := by
  unfold laws_eqTaxRow.f laws_eqRate.f
  simp

theorem eqTaxRowS_refl (l : List S66) (hl : l.length ≤ 1048576) (k : Nat) (hk : l.length < k) : laws_eqTaxRowS.f k l l = some true := by
  unfold laws_eqTaxRowS.f
  rw [if_pos rfl]
  have key := loop_fold (σ := Unit) (fun k _ i => laws_eqTaxRowS.l0 k l l i) l.length (fun _ => ()) true
    (fun k i hi => by
      show laws_eqTaxRowS.l0 (k + 1) l l _ = _
      rw [laws_eqTaxRowS.l0, if_pos (by omega), if_pos (by omega), if_pos (by omega), eqTaxRow_refl]
      simp only [Option.bind_some, if_true]
      rw [w64 (by omega) (by omega)])
    (fun k => by
      show laws_eqTaxRowS.l0 (k + 1) l l _ = _
      rw [laws_eqTaxRowS.l0, if_neg (by omega)])
  exact key l.length 0 k (by omega) hk

theorem szTaxRow_ok (x : S56) (h : okS56 x) (left : Int) (h0 : 0 ≤ left) (h1 : left ≤ 1048576) : ∃ r, laws_szTaxRow.f x.f0 x.f1 x.f2 x.f3 x.f4.f0 x.f4.f1 left = some r ∧ (r < 0 ∨ 0 ≤ r) ∧ r ≤ left := by
  unfold okS56 at h
  unfold laws_szTaxRow.f
  have q1 := h.2.1
  rw [w64 (x := left - (x.f1.size : Int)) (by omega) (by omega)]
  by_cases c1 : left - (x.f1.size : Int) < 0
  · rw [if_pos c1]; exact ⟨-1, rfl, by omega, by omega⟩
  · rw [if_neg c1]
    exact ⟨_, rfl, by omega, by omega⟩

theorem szTaxRowS_ok (l : List S56) (hl : l.length ≤ 9223372036854775807) (hok : ∀ y ∈ l, okS56 y) : ∃ r, (∀ k, l.length < k → laws_szTaxRowS.f k l 1048576 = some r) ∧ (r < 0 ∨ (0 ≤ r ∧ l.length ≤ 1048576)) := by
  have key : ∀ d i left, i + d = l.length → l.length ≤ 1048576 → (0 : Int) ≤ left → left ≤ 1048576 → ∃ r, (∀ k, d < k → laws_szTaxRowS.l0 k l left (i : Int) = some r) ∧ (r < 0 ∨ 0 ≤ r) := by
    intro d
    induction d with
    | zero =>
      intro i left hi hl2 h0 h1
      refine ⟨left, fun k hk => ?_, by omega⟩
      obtain ⟨k, rfl⟩ : ∃ m, k = m + 1 := ⟨k - 1, by omega⟩
      rw [laws_szTaxRowS.l0, if_neg (by omega)]
    | succ d ih =>
      intro i left hi hl2 h0 h1
      obtain ⟨r, hr, hs, hle⟩ := szTaxRow_ok l[i] (hok _ (List.getElem_mem _)) left h0 h1
      by_cases hn : r < 0
      · refine ⟨-1, fun k hk => ?_, by omega⟩
        obtain ⟨k, rfl⟩ : ∃ m, k = m + 1 := ⟨k - 1, by omega⟩
        rw [laws_szTaxRowS.l0, if_pos (by omega), if_pos (by omega), rdATaxRow (show i < l.length by omega), hr]
        simp only [Option.bind_some]
        rw [if_pos hn]
      · obtain ⟨r2, hr2, hs2⟩ := ih (i + 1) r (by omega) hl2 (by omega) (by omega)
        refine ⟨r2, fun k hk => ?_, hs2⟩
        obtain ⟨k, rfl⟩ : ∃ m, k = m + 1 := ⟨k - 1, by omega⟩
        rw [laws_szTaxRowS.l0, if_pos (by omega), if_pos (by omega), rdATaxRow (show i < l.length by omega), hr]
        simp only [Option.bind_some]
        rw [if_neg hn, w64 (by omega) (by omega)]
        have := hr2 k (by omega)
        rw [show ((i + 1 : Nat) : Int) = (i : Int) + 1 by omega] at this
        exact this
  unfold laws_szTaxRowS.f
  rw [w64 (x := 1048576 - (l.length : Int)) (by omega) (by omega)]
  by_cases h : 1048576 - (l.length : Int) < 0
  · exact ⟨-1, fun k _ => by rw [if_pos h], by omega⟩
  · obtain ⟨r, hr, hs⟩ := key l.length 0 (1048576 - (l.length : Int)) (by omega) (by omega) (by omega) (by omega)
    refine ⟨r, fun k hk => ?_, by omega⟩
    rw [if_neg h]
    have := hr k hk
    simpa using this

end Go.Proofs.Ytgmohjegijndeaa
