/- Plain laws of the statements' own functions on lists of Pack: the copy of a list is its image, a list is equal to itself, and only short lists are let by. -/
import Derived.Test.YtookjankaanhlaaPAllx0
import Derived.Test.YtookjankaanhlaaPAllx25
import Derived.Test.YtookjankaanhlaaLoop
import Derived.Test.YtookjankaanhlaaTypAll
namespace Go.Proofs.Ytookjankaanhlaa
open Go.RowKit Go.Proofs.Ytookjankaanhlaa.PAll Go.Proofs.YtookjankaanhlaaW.PrintWords Go.Proofs.YtookjankaanhlaaW.PrintLast

theorem rdAPack {l : List S152} {i : Nat} (h : i < l.length) : rd_T152 l (i : Int) = l[i] := by
  unfold rd_T152
  rw [Int.toNat_natCast, List.getD_eq_getElem?_getD, List.getElem?_eq_getElem h]; rfl
theorem rdBPack {l : List S149} {i : Nat} (h : i < l.length) : rd_T149 l (i : Int) = l[i] := by
  unfold rd_T149
  rw [Int.toNat_natCast, List.getD_eq_getElem?_getD, List.getElem?_eq_getElem h]; rfl

/-- A Pack as the program takes it. -/
def cvPack (x : S152) : S149 := (⟨x.f0, x.f1, x.f2⟩ : S149)

theorem toPack_is (x : S152) : laws_toPack.f x.f0 x.f1 x.f2 = some (x.f0, x.f1, x.f2) := by
  unfold laws_toPack.f
  rfl

theorem toPackS_is (l : List S152) (hl : l.length ≤ 1048576) (k : Nat) (hk : l.length < k) : laws_toPackS.f k l = some (l.map cvPack) := by
  unfold laws_toPackS.f
  rw [if_pos (by omega), Int.toNat_natCast, if_pos (by omega)]
  have key := loop_fold (fun k st i => laws_toPackS.l0 k l st i) l.length (fun i => (l.take i).map cvPack ++ List.replicate (l.length - i) z149) (l.map cvPack)
    (fun k i hi => by
      have hlen : ((l.take i).map cvPack ++ List.replicate (l.length - i) z149).length = l.length := by
        rw [List.length_append, List.length_map, List.length_take, List.length_replicate]; omega
      show laws_toPackS.l0 (k + 1) l _ _ = _
      rw [laws_toPackS.l0, if_pos (by omega), if_pos (by omega), toPack_is]
      simp only [Option.bind_some]
      rw [if_pos (by rw [hlen]; omega), Int.toNat_natCast, w64 (by omega) (by omega)]
      have hs := fill_set l cvPack z149 i hi l[i] (List.getElem?_eq_getElem hi)
      rw [rdAPack hi]
      exact congrArg (fun z => laws_toPackS.l0 k l z ((i : Int) + 1)) hs)
    (fun k => by
      show laws_toPackS.l0 (k + 1) l _ _ = _
      rw [laws_toPackS.l0, if_neg (by omega), List.take_length, Nat.sub_self, List.replicate_zero, List.append_nil])
  have := key l.length 0 k (by omega) hk
  simpa using this

theorem eqPack_refl (x : S149) : laws_eqPack.f x.f0 x.f1 x.f2 x.f0 x.f1 x.f2 = some true := by
  unfold laws_eqPack.f
  simp

theorem eqPackS_refl (l : List S149) (hl : l.length ≤ 1048576) (k : Nat) (hk : l.length < k) : laws_eqPackS.f k l l = some true := by
  unfold laws_eqPackS.f
  rw [if_pos rfl]
  have key := loop_fold (σ := Unit) (fun k _ i => laws_eqPackS.l0 k l l i) l.length (fun _ => ()) true
    (fun k i hi => by
      show laws_eqPackS.l0 (k + 1) l l _ = _
      rw [laws_eqPackS.l0, if_pos (by omega), if_pos (by omega), if_pos (by omega), eqPack_refl]
      simp only [Option.bind_some, if_true]
      rw [w64 (by omega) (by omega)])
    (fun k => by
      show laws_eqPackS.l0 (k + 1) l l _ = _
      rw [laws_eqPackS.l0, if_neg (by omega)])
  exact key l.length 0 k (by omega) hk

theorem szPack_ok (x : S152) (h : okS152 x) (left : Int) (h0 : 0 ≤ left) (h1 : left ≤ 1048576) : ∃ r, laws_szPack.f x.f0 x.f1 x.f2 left = some r ∧ (r < 0 ∨ 0 ≤ r) ∧ r ≤ left := by
  unfold okS152 at h
  unfold laws_szPack.f
  have q0 := h.1
  rw [w64 (x := left - (x.f0.size : Int)) (by omega) (by omega)]
  by_cases c0 : left - (x.f0.size : Int) < 0
  · rw [if_pos c0]; exact ⟨-1, rfl, by omega, by omega⟩
  · rw [if_neg c0]
    have q1 := h.2.1
    rw [w64 (x := left - (x.f0.size : Int) - (x.f1.size : Int)) (by omega) (by omega)]
    by_cases c1 : left - (x.f0.size : Int) - (x.f1.size : Int) < 0
    · rw [if_pos c1]; exact ⟨-1, rfl, by omega, by omega⟩
    · rw [if_neg c1]
      exact ⟨_, rfl, by omega, by omega⟩

theorem szPackS_ok (l : List S152) (hl : l.length ≤ 9223372036854775807) (hok : ∀ y ∈ l, okS152 y) : ∃ r, (∀ k, l.length < k → laws_szPackS.f k l 1048576 = some r) ∧ (r < 0 ∨ (0 ≤ r ∧ l.length ≤ 1048576)) := by
  have key : ∀ d i left, i + d = l.length → l.length ≤ 1048576 → (0 : Int) ≤ left → left ≤ 1048576 → ∃ r, (∀ k, d < k → laws_szPackS.l0 k l left (i : Int) = some r) ∧ (r < 0 ∨ 0 ≤ r) := by
    intro d
    induction d with
    | zero =>
      intro i left hi hl2 h0 h1
      refine ⟨left, fun k hk => ?_, by omega⟩
      obtain ⟨k, rfl⟩ : ∃ m, k = m + 1 := ⟨k - 1, by omega⟩
      rw [laws_szPackS.l0, if_neg (by omega)]
    | succ d ih =>
      intro i left hi hl2 h0 h1
      obtain ⟨r, hr, hs, hle⟩ := szPack_ok l[i] (hok _ (List.getElem_mem _)) left h0 h1
      by_cases hn : r < 0
      · refine ⟨-1, fun k hk => ?_, by omega⟩
        obtain ⟨k, rfl⟩ : ∃ m, k = m + 1 := ⟨k - 1, by omega⟩
        rw [laws_szPackS.l0, if_pos (by omega), if_pos (by omega), rdAPack (show i < l.length by omega), hr]
        simp only [Option.bind_some]
        rw [if_pos hn]
      · obtain ⟨r2, hr2, hs2⟩ := ih (i + 1) r (by omega) hl2 (by omega) (by omega)
        refine ⟨r2, fun k hk => ?_, hs2⟩
        obtain ⟨k, rfl⟩ : ∃ m, k = m + 1 := ⟨k - 1, by omega⟩
        rw [laws_szPackS.l0, if_pos (by omega), if_pos (by omega), rdAPack (show i < l.length by omega), hr]
        simp only [Option.bind_some]
        rw [if_neg hn, w64 (by omega) (by omega)]
        have := hr2 k (by omega)
        rw [show ((i + 1 : Nat) : Int) = (i : Int) + 1 by omega] at this
        exact this
  unfold laws_szPackS.f
  rw [w64 (x := 1048576 - (l.length : Int)) (by omega) (by omega)]
  by_cases h : 1048576 - (l.length : Int) < 0
  · exact ⟨-1, fun k _ => by rw [if_pos h], by omega⟩
  · obtain ⟨r, hr, hs⟩ := key l.length 0 (1048576 - (l.length : Int)) (by omega) (by omega) (by omega) (by omega)
    refine ⟨r, fun k hk => ?_, by omega⟩
    rw [if_neg h]
    have := hr k hk
    simpa using this

end Go.Proofs.Ytookjankaanhlaa
