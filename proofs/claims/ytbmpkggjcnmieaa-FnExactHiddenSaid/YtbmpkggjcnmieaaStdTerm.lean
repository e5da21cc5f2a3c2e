/- Plain laws of the statements' own functions on lists of Term: the copy of a list is its image, a list is equal to itself, and only short lists are let by. -/
import Derived.Test.YtbmpkggjcnmieaaPAllx0
import Derived.Test.YtbmpkggjcnmieaaPAllx3
import Derived.Test.YtbmpkggjcnmieaaPAllx7
import Derived.Test.YtbmpkggjcnmieaaLoop
import Derived.Test.YtbmpkggjcnmieaaTypAll
namespace Go.Proofs.Ytbmpkggjcnmieaa
open Go.RowKit Go.Proofs.Ytbmpkggjcnmieaa.PAll Go.Proofs.YtbmpkggjcnmieaaW.PrintWords Go.Proofs.YtbmpkggjcnmieaaW.PrintLast

theorem rdATerm {l : List S101} {i : Nat} (h : i < l.length) : rd_T101 l (i : Int) = l[i] := by
  unfold rd_T101
  rw [Int.toNat_natCast, List.getD_eq_getElem?_getD, List.getElem?_eq_getElem h]; rfl
theorem rdBTerm {l : List S47} {i : Nat} (h : i < l.length) : rd_T47 l (i : Int) = l[i] := by
  unfold rd_T47
  rw [Int.toNat_natCast, List.getD_eq_getElem?_getD, List.getElem?_eq_getElem h]; rfl

/-- A Term as the program takes it. -/
def cvTerm (x : S101) : S47 := (⟨x.f0, x.f1, x.f2⟩ : S47)

theorem toTerm_is (x : S101) : laws_toTerm.f x.f0 x.f1 x.f2 = some (x.f0, x.f1, x.f2) := by
  unfold laws_toTerm.f
  rfl

theorem toTermS_is (l : List S101) (hl : l.length ≤ 1048576) (k : Nat) (hk : l.length < k) : laws_toTermS.f k l = some (l.map cvTerm) := by
  unfold laws_toTermS.f
  rw [if_pos (by omega), Int.toNat_natCast, if_pos (by omega)]
  have key := loop_fold (fun k st i => laws_toTermS.l0 k l st i) l.length (fun i => (l.take i).map cvTerm ++ List.replicate (l.length - i) z47) (l.map cvTerm)
    (fun k i hi => by
      have hlen : ((l.take i).map cvTerm ++ List.replicate (l.length - i) z47).length = l.length := by
        rw [List.length_append, List.length_map, List.length_take, List.length_replicate]; omega
      show laws_toTermS.l0 (k + 1) l _ _ = _
      rw [laws_toTermS.l0, if_pos (by omega), if_pos (by omega), toTerm_is]
      simp only [Option.bind_some]
      rw [if_pos (by rw [hlen]; omega), Int.toNat_natCast, w64 (by omega) (by omega)]
      have hs := fill_set l cvTerm z47 i hi l[i] (List.getElem?_eq_getElem hi)
      rw [rdATerm hi]
      exact congrArg (fun z => laws_toTermS.l0 k l z ((i : Int) + 1)) hs)
    (fun k => by
      show laws_toTermS.l0 (k + 1) l _ _ = _
      rw [laws_toTermS.l0, if_neg (by omega), List.take_length, Nat.sub_self, List.replicate_zero, List.append_nil])
  have := key l.length 0 k (by omega) hk
  simpa using this

theorem eqTerm_refl (x : S47) : laws_eqTerm.f x.f0 x.f1 x.f2 x.f0 x.f1 x.f2 = some true := by
  unfold laws_eqTerm.f
  simp

theorem eqTermS_refl (l : List S47) (hl : l.length ≤ 1048576) (k : Nat) (hk : l.length < k) : laws_eqTermS.f k l l = some true := by
  unfold laws_eqTermS.f
  rw [if_pos rfl]
  have key := loop_fold (σ := Unit) (fun k _ i => laws_eqTermS.l0 k l l i) l.length (fun _ => ()) true
    (fun k i hi => by
      show laws_eqTermS.l0 (k + 1) l l _ = _
      rw [laws_eqTermS.l0, if_pos (by omega), if_pos (by omega), if_pos (by omega), eqTerm_refl]
      simp only [Option.bind_some, if_true]
      rw [w64 (by omega) (by omega)])
    (fun k => by
      show laws_eqTermS.l0 (k + 1) l l _ = _
      rw [laws_eqTermS.l0, if_neg (by omega)])
  exact key l.length 0 k (by omega) hk

end Go.Proofs.Ytbmpkggjcnmieaa
