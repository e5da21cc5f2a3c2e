/- Plain laws of the statements' own functions on lists of deals: the copy of a list is its image, a list is equal to itself, and only short lists are let by. -/
import Derived.Test.YtoifgopjjkaodaaPAllx0
import Derived.Test.YtoifgopjjkaodaaPAllx7
import Derived.Test.YtoifgopjjkaodaaPAllx9
import Derived.Test.YtoifgopjjkaodaaTexts
import Derived.Test.YtoifgopjjkaodaaTypAll
namespace Go.Proofs.Ytoifgopjjkaodaa
open Go.RowKit Go.Proofs.Ytoifgopjjkaodaa.PAll Go.Proofs.YtoifgopjjkaodaaW.PrintWords Go.Proofs.YtoifgopjjkaodaaW.PrintLast

theorem rdADeal {l : List S50} {i : Nat} (h : i < l.length) : rd_T50 l (i : Int) = l[i] := by
  unfold rd_T50
  rw [Int.toNat_natCast, List.getD_eq_getElem?_getD, List.getElem?_eq_getElem h]; rfl
theorem rdBDeal {l : List S51} {i : Nat} (h : i < l.length) : rd_T51 l (i : Int) = l[i] := by
  unfold rd_T51
  rw [Int.toNat_natCast, List.getD_eq_getElem?_getD, List.getElem?_eq_getElem h]; rfl

/-- Texts, copied. -/
theorem toStringS_is (l : List ByteArray) (hl : l.length ≤ 1048576) (k : Nat) (hk : l.length < k) : laws_toStringS.f k l = some l := by
  unfold laws_toStringS.f
  rw [if_pos (by omega), Int.toNat_natCast, if_pos (by omega)]
  have key := loop_fold (fun k st i => laws_toStringS.l0 k l st i) l.length (fun i => (l.take i).map id ++ List.replicate (l.length - i) (⟨#[]⟩ : ByteArray)) (l.map id)
    (fun k i hi => by
      have hlen : ((l.take i).map id ++ List.replicate (l.length - i) (⟨#[]⟩ : ByteArray)).length = l.length := by
        rw [List.length_append, List.length_map, List.length_take, List.length_replicate]; omega
      show laws_toStringS.l0 (k + 1) l _ _ = _
      rw [laws_toStringS.l0, if_pos (by omega), if_pos (by omega)]
      rw [if_pos (by rw [hlen]; omega), Int.toNat_natCast, w64 (by omega) (by omega)]
      have hs := fill_set l id (⟨#[]⟩ : ByteArray) i hi l[i] (List.getElem?_eq_getElem hi)
      rw [rdText hi]
      exact congrArg (fun z => laws_toStringS.l0 k l z ((i : Int) + 1)) hs)
    (fun k => by
      show laws_toStringS.l0 (k + 1) l _ _ = _
      rw [laws_toStringS.l0, if_neg (by omega), List.take_length, Nat.sub_self, List.replicate_zero, List.append_nil])
  have := key l.length 0 k (by omega) hk
  simpa using this

theorem eqStringS_refl (l : List ByteArray) (hl : l.length ≤ 1048576) (k : Nat) (hk : l.length < k) : laws_eqStringS.f k l l = some true := by
  unfold laws_eqStringS.f
  rw [if_pos rfl]
  have key := loop_fold (σ := Unit) (fun k _ i => laws_eqStringS.l0 k l l i) l.length (fun _ => ()) true
    (fun k i hi => by
      show laws_eqStringS.l0 (k + 1) l l _ = _
      rw [laws_eqStringS.l0, if_pos (by omega), if_pos (by omega), if_pos (by omega), if_pos rfl, w64 (by omega) (by omega)])
    (fun k => by
      show laws_eqStringS.l0 (k + 1) l l _ = _
      rw [laws_eqStringS.l0, if_neg (by omega)])
  exact key l.length 0 k (by omega) hk

theorem szStringS_ok (l : List ByteArray) (hl : l.length ≤ 9223372036854775807) (hok : ∀ y ∈ l, y.size ≤ 9223372036854775807) (left : Int) (h0 : 0 ≤ left) (h1 : left ≤ 1048576) :
    ∃ r, (∀ k, 1048577 < k → laws_szStringS.f k l left = some r) ∧ (r < 0 ∨ (0 ≤ r ∧ r ≤ left ∧ (l.length : Int) ≤ left)) := by
  have key : ∀ d i (left : Int), i + d = l.length → l.length ≤ 1048576 → 0 ≤ left → left ≤ 1048576 → ∃ r, (∀ k, d < k → laws_szStringS.l0 k l left (i : Int) = some r) ∧ (r < 0 ∨ (0 ≤ r ∧ r ≤ left)) := by
    intro d
    induction d with
    | zero =>
      intro i left hi hl2 h0 h1
      refine ⟨left, fun k hk => ?_, by omega⟩
      obtain ⟨k, rfl⟩ : ∃ m, k = m + 1 := ⟨k - 1, by omega⟩
      rw [laws_szStringS.l0, if_neg (by omega)]
    | succ d ih =>
      intro i left hi hl2 h0 h1
      have hy := hok _ (List.getElem_mem (by omega : i < l.length))
      by_cases hn : left - (l[i].size : Int) < 0
      · refine ⟨-1, fun k hk => ?_, by omega⟩
        obtain ⟨k, rfl⟩ : ∃ m, k = m + 1 := ⟨k - 1, by omega⟩
        rw [laws_szStringS.l0, if_pos (by omega), if_pos (by omega), rdText (by omega), w64 (by omega) (by omega), if_pos hn]
      · obtain ⟨r, e, hr⟩ := ih (i + 1) (left - (l[i].size : Int)) (by omega) hl2 (by omega) (by omega)
        refine ⟨r, fun k hk => ?_, by omega⟩
        obtain ⟨k, rfl⟩ : ∃ m, k = m + 1 := ⟨k - 1, by omega⟩
        have e := e k (by omega)
        rw [show ((i + 1 : Nat) : Int) = (i : Int) + 1 by omega] at e
        rw [laws_szStringS.l0, if_pos (by omega), if_pos (by omega), rdText (by omega), w64 (x := left - (l[i].size : Int)) (by omega) (by omega), if_neg hn, w64 (x := (i : Int) + 1) (by omega) (by omega)]
        exact e
  unfold laws_szStringS.f
  rw [w64 (x := left - (l.length : Int)) (by omega) (by omega)]
  by_cases hn : left - (l.length : Int) < 0
  · exact ⟨-1, fun k _ => by rw [if_pos hn], by omega⟩
  · obtain ⟨r, e, hr⟩ := key l.length 0 (left - (l.length : Int)) (by omega) (by omega) (by omega) (by omega)
    refine ⟨r, fun k hk => ?_, by omega⟩
    rw [if_neg hn]
    exact e k (by omega)

theorem szDeal_ok (x : S50) (h : okS50 x) (left : Int) (h0 : 0 ≤ left) (h1 : left ≤ 1048576) :
    ∃ r, (∀ k, 1048577 < k → laws_szDeal.f k x.f0 x.f1 x.f2 x.f3 x.f4 x.f5 left = some r) ∧ (r < 0 ∨ (0 ≤ r ∧ r ≤ left ∧ (x.f2.length : Int) ≤ left)) := by
  unfold okS50 at h
  obtain ⟨ha, _, hb, _⟩ := h
  unfold laws_szDeal.f
  rw [w64 (x := left - (x.f0.size : Int)) (by omega) (by omega)]
  by_cases hn : left - (x.f0.size : Int) < 0
  · exact ⟨-1, fun k _ => by rw [if_pos hn], by omega⟩
  · obtain ⟨r, e, hr⟩ := szStringS_ok x.f2 hb.1 hb.2 (left - (x.f0.size : Int)) (by omega) (by omega)
    by_cases hr0 : r < 0
    · refine ⟨-1, fun k hk => ?_, by omega⟩
      rw [if_neg hn, e k hk, Option.bind_some, if_pos hr0]
    · refine ⟨r, fun k hk => ?_, by omega⟩
      rw [if_neg hn, e k hk, Option.bind_some, if_neg hr0]

theorem szDealS_ok (l : List S50) (hl : l.length ≤ 9223372036854775807) (hok : ∀ y ∈ l, okS50 y) :
    ∃ r, (∀ k, 2200000 ≤ k → laws_szDealS.f k l 1048576 = some r) ∧ (r < 0 ∨ (l.length ≤ 1048576 ∧ ∀ x ∈ l, x.f2.length ≤ 1048576)) := by
  have key : ∀ d i (left : Int), i + d = l.length → l.length ≤ 1048576 → 0 ≤ left → left ≤ 1048576 → ∃ r, (∀ k, d + 1048577 < k → laws_szDealS.l0 k l left (i : Int) = some r) ∧ (r < 0 ∨ ∀ x ∈ l.drop i, x.f2.length ≤ 1048576) := by
    intro d
    induction d with
    | zero =>
      intro i left hi hl2 h0 h1
      refine ⟨left, fun k hk => ?_, .inr fun x hx => ?_⟩
      · obtain ⟨k, rfl⟩ : ∃ m, k = m + 1 := ⟨k - 1, by omega⟩
        rw [laws_szDealS.l0, if_neg (by omega)]
      · rw [List.drop_eq_nil_of_le (by omega)] at hx; simp at hx
    | succ d ih =>
      intro i left hi hl2 h0 h1
      obtain ⟨q, eq, hq⟩ := szDeal_ok l[i] (hok _ (List.getElem_mem (by omega : i < l.length))) left h0 h1
      by_cases hn : q < 0
      · refine ⟨-1, fun k hk => ?_, by omega⟩
        obtain ⟨k, rfl⟩ : ∃ m, k = m + 1 := ⟨k - 1, by omega⟩
        rw [laws_szDealS.l0, if_pos (by omega), if_pos (by omega), rdADeal (by omega), eq k (by omega), Option.bind_some, if_pos hn]
      · obtain ⟨r, e, hr⟩ := ih (i + 1) q (by omega) hl2 (by omega) (by omega)
        refine ⟨r, fun k hk => ?_, ?_⟩
        · obtain ⟨k, rfl⟩ : ∃ m, k = m + 1 := ⟨k - 1, by omega⟩
          have e := e k (by omega)
          rw [show ((i + 1 : Nat) : Int) = (i : Int) + 1 by omega] at e
          rw [laws_szDealS.l0, if_pos (by omega), if_pos (by omega), rdADeal (by omega), eq k (by omega), Option.bind_some, if_neg hn, w64 (x := (i : Int) + 1) (by omega) (by omega)]
          exact e
        · rcases hr with h | h
          · exact .inl h
          · refine .inr fun x hx => ?_
            rw [List.drop_eq_getElem_cons (by omega : i < l.length)] at hx
            rcases List.mem_cons.1 hx with e | e
            · rw [e]; omega
            · exact h x e
  unfold laws_szDealS.f
  rw [w64 (x := 1048576 - (l.length : Int)) (by omega) (by omega)]
  by_cases hn : 1048576 - (l.length : Int) < 0
  · exact ⟨-1, fun k _ => by rw [if_pos hn], by omega⟩
  · obtain ⟨r, e, hr⟩ := key l.length 0 (1048576 - (l.length : Int)) (by omega) (by omega) (by omega) (by omega)
    refine ⟨r, fun k hk => ?_, ?_⟩
    · rw [if_neg hn]
      exact e k (by omega)
    · rcases hr with h | h
      · exact .inl h
      · exact .inr ⟨by omega, by simpa using h⟩

/-- A deal as the program takes it. -/
def cvDeal (x : S50) : S51 := ⟨x.f0, x.f1, x.f2, x.f3, x.f4, x.f5⟩

theorem toDeal_is (x : S50) (h : x.f2.length ≤ 1048576) (k : Nat) (hk : 1048576 < k) : laws_toDeal.f k x.f0 x.f1 x.f2 x.f3 x.f4 x.f5 = some (x.f0, x.f1, x.f2, x.f3, x.f4, x.f5) := by
  unfold laws_toDeal.f
  rw [toStringS_is _ h k (by omega)]
  rfl

theorem toDealS_is (l : List S50) (hl : l.length ≤ 1048576) (hi : ∀ x ∈ l, x.f2.length ≤ 1048576) (k : Nat) (hk : 2200000 ≤ k) : laws_toDealS.f k l = some (l.map cvDeal) := by
  have key : ∀ d i k, i + d = l.length → d + 1048577 < k → laws_toDealS.l0 k l ((l.take i).map cvDeal ++ List.replicate (l.length - i) z51) (i : Int) = some (l.map cvDeal) := by
    intro d
    induction d with
    | zero =>
      intro i k h hk
      obtain ⟨k, rfl⟩ : ∃ m, k = m + 1 := ⟨k - 1, by omega⟩
      obtain rfl : i = l.length := by omega
      rw [laws_toDealS.l0, if_neg (by omega), List.take_length, Nat.sub_self, List.replicate_zero, List.append_nil]
    | succ d ih =>
      intro i k h hk
      obtain ⟨k, rfl⟩ : ∃ m, k = m + 1 := ⟨k - 1, by omega⟩
      have hil : i < l.length := by omega
      have hlen : ((l.take i).map cvDeal ++ List.replicate (l.length - i) z51).length = l.length := by
        rw [List.length_append, List.length_map, List.length_take, List.length_replicate]; omega
      rw [laws_toDealS.l0, if_pos (by omega), if_pos (by omega), rdADeal hil, toDeal_is _ (hi _ (List.getElem_mem hil)) k (by omega)]
      simp only [Option.bind_some]
      rw [if_pos (by rw [hlen]; omega), Int.toNat_natCast, w64 (by omega) (by omega)]
      have hs := fill_set l cvDeal z51 i hil l[i] (List.getElem?_eq_getElem hil)
      have := ih (i + 1) k (by omega) (by omega)
      rw [← hs, show ((i + 1 : Nat) : Int) = (i : Int) + 1 by omega] at this
      exact this
  unfold laws_toDealS.f
  rw [if_pos (by omega), Int.toNat_natCast, if_pos (by omega)]
  have := key l.length 0 k (by omega) (by omega)
  simpa using this

theorem eqDeal_refl (x : S51) (h : x.f2.length ≤ 1048576) (k : Nat) (hk : 1048576 < k) : laws_eqDeal.f k x.f0 x.f1 x.f2 x.f3 x.f4 x.f5 x.f0 x.f1 x.f2 x.f3 x.f4 x.f5 = some true := by
  unfold laws_eqDeal.f
  rw [if_pos rfl, if_pos rfl, eqStringS_refl _ h k (by omega)]
  simp

theorem eqDealS_refl (l : List S51) (hl : l.length ≤ 1048576) (hi : ∀ x ∈ l, x.f2.length ≤ 1048576) (k : Nat) (hk : 2200000 ≤ k) : laws_eqDealS.f k l l = some true := by
  have key : ∀ d i k, i + d = l.length → d + 1048577 < k → laws_eqDealS.l0 k l l (i : Int) = some true := by
    intro d
    induction d with
    | zero =>
      intro i k h hk
      obtain ⟨k, rfl⟩ : ∃ m, k = m + 1 := ⟨k - 1, by omega⟩
      rw [laws_eqDealS.l0, if_neg (by omega)]
    | succ d ih =>
      intro i k h hk
      obtain ⟨k, rfl⟩ : ∃ m, k = m + 1 := ⟨k - 1, by omega⟩
      have hil : i < l.length := by omega
      rw [laws_eqDealS.l0, if_pos (by omega), if_pos (by omega), if_pos (by omega), rdBDeal hil, eqDeal_refl _ (hi _ (List.getElem_mem hil)) k (by omega)]
      simp only [Option.bind_some, if_true]
      rw [w64 (by omega) (by omega)]
      have := ih (i + 1) k (by omega) (by omega)
      rwa [show ((i + 1 : Nat) : Int) = (i : Int) + 1 by omega] at this
  unfold laws_eqDealS.f
  rw [if_pos rfl]
  have := key l.length 0 k (by omega) (by omega)
  simpa using this

end Go.Proofs.Ytoifgopjjkaodaa
