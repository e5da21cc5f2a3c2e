/- Plain laws of the statements' own functions on lists of TaxLine: the copy of a list is its image, a list is equal to itself, and only short lists are let by. -/
import Derived.Test.YtgmohjegijndeaaPAllx0
import Derived.Test.YtgmohjegijndeaaPAllx3
import Derived.Test.YtgmohjegijndeaaPAllx7
import Derived.Test.YtgmohjegijndeaaLoop
import Derived.Test.YtgmohjegijndeaaTypAll
namespace Go.Proofs.Ytgmohjegijndeaa
open Go.RowKit Go.Proofs.Ytgmohjegijndeaa.PAll Go.Proofs.YtgmohjegijndeaaW.PrintWords Go.Proofs.YtgmohjegijndeaaW.PrintLast

theorem rdATaxLine {l : List S69} {i : Nat} (h : i < l.length) : rd_T69 l (i : Int) = l[i] := by
  unfold rd_T69
  rw [Int.toNat_natCast, List.getD_eq_getElem?_getD, List.getElem?_eq_getElem h]; rfl
theorem rdBTaxLine {l : List S45} {i : Nat} (h : i < l.length) : rd_T45 l (i : Int) = l[i] := by
  unfold rd_T45
  rw [Int.toNat_natCast, List.getD_eq_getElem?_getD, List.getElem?_eq_getElem h]; rfl

/-- A TaxLine as the program takes it. -/
def cvTaxLine (x : S69) : S45 := (⟨x.f0, x.f1⟩ : S45)

theorem toTaxLine_is (x : S69) : laws_toTaxLine.f x.f0 x.f1 = some (x.f0, x.f1) := by
  unfold laws_toTaxLine.f
  rfl

theorem toTaxLineS_is (l : List S69) (hl : l.length ≤ 1048576) (k : Nat) (hk : l.length < k) : laws_toTaxLineS.f k l = some (l.map cvTaxLine) := by
  unfold laws_toTaxLineS.f
  rw [if_pos (by omega), Int.toNat_natCast, if_pos (by omega)]
  have key := loop_fold (fun k st i => laws_toTaxLineS.l0 k l st i) l.length (fun i => (l.take i).map cvTaxLine ++ List.replicate (l.length - i) z45) (l.map cvTaxLine)
    (fun k i hi => by
      have hlen : ((l.take i).map cvTaxLine ++ List.replicate (l.length - i) z45).length = l.length := by
        rw [List.length_append, List.length_map, List.length_take, List.length_replicate]; omega
      show laws_toTaxLineS.l0 (k + 1) l _ _ = _
      rw [laws_toTaxLineS.l0, if_pos (by omega), if_pos (by omega), toTaxLine_is]
      simp only [Option.bind_some]
      rw [if_pos (by rw [hlen]; omega), Int.toNat_natCast, w64 (by omega) (by omega)]
      have hs := fill_set l cvTaxLine z45 i hi l[i] (List.getElem?_eq_getElem hi)
      rw [rdATaxLine hi]
      exact congrArg (fun z => laws_toTaxLineS.l0 k l z ((i : Int) + 1)) hs)
    (fun k => by
      show laws_toTaxLineS.l0 (k + 1) l _ _ = _
      rw [laws_toTaxLineS.l0, if_neg (by omega), List.take_length, Nat.sub_self, List.replicate_zero, List.append_nil])
  have := key l.length 0 k (by omega) hk
  simpa using this

theorem eqTaxLine_refl (x : S45) : laws_eqTaxLine.f x.f0 x.f1 x.f0 x.f1 = some true := by
  unfold laws_eqTaxLine.f
  simp

theorem eqTaxLineS_refl (l : List S45) (hl : l.length ≤ 1048576) (k : Nat) (hk : l.length < k) : laws_eqTaxLineS.f k l l = some true := by
  unfold laws_eqTaxLineS.f
  rw [if_pos rfl]
  have key := loop_fold (σ := Unit) (fun k _ i => laws_eqTaxLineS.l0 k l l i) l.length (fun _ => ()) true
    (fun k i hi => by
      show laws_eqTaxLineS.l0 (k + 1) l l _ = _
      rw [laws_eqTaxLineS.l0, if_pos (by omega), if_pos (by omega), if_pos (by omega), eqTaxLine_refl]
      simp only [Option.bind_some, if_true]
      rw [w64 (by omega) (by omega)])
    (fun k => by
      show laws_eqTaxLineS.l0 (k + 1) l l _ = _
      rw [laws_eqTaxLineS.l0, if_neg (by omega)])
  exact key l.length 0 k (by omega) hk

end Go.Proofs.Ytgmohjegijndeaa
