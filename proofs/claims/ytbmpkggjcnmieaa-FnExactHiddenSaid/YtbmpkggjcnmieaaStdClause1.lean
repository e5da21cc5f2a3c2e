/- Plain laws of the statements' own functions on one rule: its copy is its image, a rule is equal to itself, and only short ones are let by. -/
import Derived.Test.YtbmpkggjcnmieaaPAllx0
import Derived.Test.YtbmpkggjcnmieaaPAllx1
import Derived.Test.YtbmpkggjcnmieaaPAllx3
import Derived.Test.YtbmpkggjcnmieaaPAllx7
import Derived.Test.YtbmpkggjcnmieaaStdTerm
namespace Go.Proofs.Ytbmpkggjcnmieaa
open Go.RowKit Go.Proofs.Ytbmpkggjcnmieaa.PAll Go.Proofs.YtbmpkggjcnmieaaW.PrintWords Go.Proofs.YtbmpkggjcnmieaaW.PrintLast

theorem rdAClause {l : List S54} {i : Nat} (h : i < l.length) : rd_T54 l (i : Int) = l[i] := by
  unfold rd_T54
  rw [Int.toNat_natCast, List.getD_eq_getElem?_getD, List.getElem?_eq_getElem h]; rfl
theorem rdBClause {l : List S37} {i : Nat} (h : i < l.length) : rd_T37 l (i : Int) = l[i] := by
  unfold rd_T37
  rw [Int.toNat_natCast, List.getD_eq_getElem?_getD, List.getElem?_eq_getElem h]; rfl

theorem szClause_ok (x : S54) (h : okS54 x) (left : Int) (h0 : 0 ≤ left) (h1 : left ≤ 1048576) :
    ∃ r, laws_szClause.f x.f0 x.f1 x.f2 x.f3 left = some r ∧ (r < 0 ∨ (0 ≤ r ∧ r ≤ left ∧ (x.f1.length : Int) ≤ left)) := by
  unfold okS54 at h
  obtain ⟨ha, hb, _⟩ := h
  unfold laws_szClause.f laws_szTermS.f
  rw [w64 (x := left - (x.f0.size : Int)) (by omega) (by omega)]
  by_cases hn : left - (x.f0.size : Int) < 0
  · exact ⟨-1, by rw [if_pos hn], by omega⟩
  · have hb1 := hb.1
    rw [if_neg hn, w64 (x := left - (x.f0.size : Int) - (x.f1.length : Int)) (by omega) (by omega)]
    by_cases hr0 : left - (x.f0.size : Int) - (x.f1.length : Int) < 0
    · refine ⟨-1, ?_, by omega⟩
      rw [if_pos hr0, Option.bind_some, if_pos (by omega)]
    · refine ⟨left - (x.f0.size : Int) - (x.f1.length : Int), ?_, by omega⟩
      rw [if_neg hr0, Option.bind_some, if_neg hr0]

/-- A rule as the program takes it. -/
def cvClause (x : S54) : S37 := ⟨x.f0, x.f1.map cvTerm, x.f2, x.f3⟩

theorem toClause_is (x : S54) (h : x.f1.length ≤ 1048576) (k : Nat) (hk : 1048576 < k) : laws_toClause.f k x.f0 x.f1 x.f2 x.f3 = some (x.f0, x.f1.map cvTerm, x.f2, x.f3) := by
  unfold laws_toClause.f
  rw [toTermS_is _ h k (by omega)]
  rfl

theorem eqClause_refl (x : S37) (h : x.f1.length ≤ 1048576) (k : Nat) (hk : 1048576 < k) : laws_eqClause.f k x.f0 x.f1 x.f2 x.f3 x.f0 x.f1 x.f2 x.f3 = some true := by
  unfold laws_eqClause.f
  rw [if_pos rfl, eqTermS_refl _ h k (by omega)]
  simp

end Go.Proofs.Ytbmpkggjcnmieaa
