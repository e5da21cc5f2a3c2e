/- FnExactShare is true for every amount and every row of weights: longer rows are let by by the law's own guard; both sides give the same parts and error, the weights stay as they were, and the parts lie apart from whatever else was handed out. -/
import Derived.Test.YtfccbbbejjdakaaPAllx4
import Derived.Test.YtfccbbbejjdakaaShareBoth
import Derived.Test.YtfccbbbejjdakaaMarkInt
namespace Go.Proofs.Ytfccbbbejjdakaa.Pure
open Go.RowKit Go.Proofs.Ytfccbbbejjdakaa Go.Proofs.Ytfccbbbejjdakaa.PAll Go.Proofs.YtfccbbbejjdakaaW.PrintWords Go.Proofs.YtfccbbbejjdakaaW.PrintLast

theorem toIntS_is (l : List Int) (hl : l.length ≤ 1048576) (k : Nat) (hk : l.length < k) : laws_toIntS.f k l = some l := by
  unfold laws_toIntS.f
  rw [if_pos (by omega), if_pos (by omega), Int.toNat_natCast]
  have := loop_fold (fun k s i => laws_toIntS.l0 k l s i) l.length (fun i => (l.take i).map id ++ List.replicate (l.length - i) 0) l (fun k i hi => ?_) (fun k => ?_) l.length 0 k (by omega) hk
  · simpa using this
  · have hlen : ((l.take i).map id ++ List.replicate (l.length - i) (0 : Int)).length = l.length := by
      rw [List.length_append, List.length_map, List.length_take, List.length_replicate]; omega
    rw [laws_toIntS.l0, hlen, if_pos (by omega), if_pos (by omega), if_pos (by omega), w64 (x := (i : Int) + 1) (by omega) (by omega), rd_nat, Int.toNat_natCast, ← fill_set l id 0 i hi (l.getD i 0) (by rw [List.getD_eq_getElem?_getD, List.getElem?_eq_getElem hi]; rfl)]
    rfl
  · rw [laws_toIntS.l0, if_neg (by omega)]
    simp

theorem FnExactShare (a0 : Int) (l1 : List Int) (_ : (Lit.int .i64 a0).wf = true) (_ : l1.length ≤ maxLen) (_ : l1.length * 8 ≤ 140737488351232) (_ : ∀ x ∈ l1, (Lit.int .i64 x).wf = true) : ∃ k, laws_FnExactShare.f k a0 l1 = some true := by
  refine ⟨l1.length + 20000, ?_⟩
  unfold laws_FnExactShare.f
  by_cases hn : (l1.length : Int) > 1048576
  · rw [if_pos hn]
  rw [if_neg hn]
  have hc : ∀ k, l1.length < k → laws_toIntS.f k l1 = some l1 := fun k hk => toIntS_is l1 (by omega) k hk
  obtain ⟨⟨out, code⟩, hi, hlo, hs⟩ := share_both a0 l1
  have hlo' : out.length ≤ 60 := hlo
  have hr : ∀ k, 61 ≤ k → laws_eqIntS.f k out out = some true := fun k hk => eqInt_refl out (by omega) k (by omega)
  have hq : ∀ k, l1.length < k → laws_eqIntS.f k l1 l1 = some true := fun k hk => eqInt_refl l1 (by omega) k (by omega)
  rw [hc _ (by omega)]
  simp only [Option.bind_some]
  rw [hs _ (by omega), hi]
  simp only [Option.bind_some]
  rw [hr _ (by omega)]
  simp only [Option.bind_some, if_true, eq_self, bne_self_eq_false]
  rw [show l1.length + 20000 = (l1.length + 19999) + 1 from rfl, laws_FnExactShare.j0]
  simp only [Bool.false_eq_true, if_false]
  rw [hc _ (by omega)]
  simp only [Option.bind_some]
  rw [hq _ (by omega)]
  simp only [Option.bind_some, if_true]
  rw [markInt_is l1 (by omega) _ (by omega)]
  simp only [Option.bind_some]
  rw [if_neg (by omega), hr _ (by omega)]
  simp only [Option.bind_some, if_true, eq_self, bne_self_eq_false]
  rw [show l1.length + 19999 = (l1.length + 19998) + 1 from rfl, laws_FnExactShare.j1]
  simp only [Bool.false_eq_true, if_false]
  rw [markInt_is out (by omega) _ (by omega)]
  simp only [Option.bind_some]
  rw [heldInt_is out.length (by omega) _ (by omega)]
  simp only [Option.bind_some]
  rw [if_neg (by omega)]
  simp only [if_true, eq_self]
  rw [hc _ (by omega)]
  simp only [Option.bind_some]
  rw [hi]
  simp only [Option.bind_some]
  rw [hr _ (by omega)]
  simp only [Option.bind_some, if_true, eq_self, bne_self_eq_false]
  rw [show l1.length + 19998 = (l1.length + 19997) + 1 from rfl, laws_FnExactShare.j2]
  simp only [Bool.false_eq_true, if_false]
  rw [heldInt_is out.length (by omega) _ (by omega)]
  simp only [Option.bind_some]
  rw [if_neg (by omega)]
  simp only [if_true, eq_self]

end Go.Proofs.Ytfccbbbejjdakaa.Pure
