/- FnExactPriceSteps is true for every book of prices, every two texts and every two minutes: what is too long is let by by the law's own guards; otherwise both sides give the same steps and error, the book stays as it was, and the steps lie apart from whatever else was handed out. -/
import Derived.Test.YtembklbofdgmgaaPAllx0
import Derived.Test.YtembklbofdgmgaaPAllx5
import Derived.Test.YtembklbofdgmgaaPAllx6
import Derived.Test.YtembklbofdgmgaaStepsS
import Derived.Test.YtembklbofdgmgaaPriceMark
namespace Go.Proofs.Ytembklbofdgmgaa.Pure
open Go.RowKit Go.Proofs.Ytembklbofdgmgaa Go.Proofs.Ytembklbofdgmgaa.PAll Go.Proofs.YtembklbofdgmgaaW.PrintWords Go.Proofs.YtembklbofdgmgaaW.PrintLast

theorem priceSteps_len (l : List S44) (a1 a2 : ByteArray) (f t : Int) : (priceStepsB l a1 a2 f t).1.length ≤ 161 := by
  unfold priceStepsB
  split
  · split
    · rename_i hp
      split
      · exact steps_len l a1 a2 f t (by unfold pricesB at hp; simp only [Bool.and_eq_true, decide_eq_true_eq] at hp; exact hp.1)
      · simp
    · simp
  · simp

theorem FnExactPriceSteps (l0 : List S47) (a1 a2 : ByteArray) (a3 a4 : Int) (h : l0.length ≤ 9223372036854775807 ∧ ∀ y ∈ l0, okS47 y) (_ : a1.size ≤ 9223372036854775807) (_ : a2.size ≤ 9223372036854775807) (_ : (Lit.int .i64 a3).wf = true) (_ : (Lit.int .i64 a4).wf = true) : ∃ k, laws_FnExactPriceSteps.f k l0 a1 a2 a3 a4 = some true := by
  obtain ⟨r, h1, h2⟩ := szPriceRowS_ok l0 h.1 h.2
  refine ⟨l0.length + 70184, ?_⟩
  unfold laws_FnExactPriceSteps.f
  by_cases hs1 : (a1.size : Int) > 1048576
  · rw [if_pos hs1]
  by_cases hs2 : (a2.size : Int) > 1048576
  · rw [if_neg hs1, if_pos hs2]
  rw [if_neg hs1, if_neg hs2, h1 _ (by omega)]
  simp only [Option.bind_some]
  by_cases hn : r < 0
  · rw [if_pos hn]
  rw [if_neg hn]
  have hl : l0.length ≤ 1048576 := by omega
  have hc : ∀ k, l0.length < k → laws_toPriceRowS.f k l0 = some (l0.map cvPriceRow) := fun k hk => toPriceRowS_is l0 hl k hk
  have hlen : (l0.map cvPriceRow).length = l0.length := List.length_map _
  have hq : ∀ k, l0.length < k → laws_eqPriceRowS.f k (l0.map cvPriceRow) (l0.map cvPriceRow) = some true := fun k hk => eqPriceRowS_refl _ (by omega) k (by omega)
  have hb := fun k hk => specSteps_is (l0.map cvPriceRow) a1 a2 a3 a4 k hk
  have hi := fun k hk => implSteps_is (l0.map cvPriceRow) a1 a2 a3 a4 k hk
  have hm : ∀ k, l0.length + 30 ≤ k → ∃ n l, laws_markPriceRowS.f k (l0.map cvPriceRow) 1 = some (n, l) ∧ 0 ≤ n := fun k hk => markPriceRow_any _ (by omega) k (by omega)
  have hlo := priceSteps_len (l0.map cvPriceRow) a1 a2 a3 a4
  generalize priceStepsB (l0.map cvPriceRow) a1 a2 a3 a4 = b at *
  obtain ⟨out, code⟩ := b
  have hlo' : out.length ≤ 161 := hlo
  have hr : ∀ k, 170 ≤ k → laws_eqPriceStepS.f k out out = some true := fun k hk => eqStep_refl out (by omega) k (by omega)
  rw [hc _ (by omega)]
  simp only [Option.bind_some]
  rw [hb _ (by omega), hi _ (by omega)]
  simp only [Option.bind_some]
  rw [hr _ (by omega)]
  simp only [Option.bind_some, if_true, eq_self, bne_self_eq_false]
  rw [show l0.length + 70184 = (l0.length + 70183) + 1 from rfl, laws_FnExactPriceSteps.j0]
  simp only [Bool.false_eq_true, if_false]
  rw [hc _ (by omega)]
  simp only [Option.bind_some]
  rw [hq _ (by omega)]
  obtain ⟨n, l, e1, e2⟩ := hm (l0.length + 70183) (by omega)
  simp only [Option.bind_some, if_true, e1, if_neg (show ¬ n < 0 by omega)]
  rw [hr _ (by omega)]
  simp only [Option.bind_some, if_true, eq_self, bne_self_eq_false]
  rw [show l0.length + 70183 = (l0.length + 70182) + 1 from rfl, laws_FnExactPriceSteps.j1]
  simp only [Bool.false_eq_true, if_false]
  rw [markStep_is out (by omega) _ (by omega)]
  simp only [Option.bind_some]
  rw [heldStep_is out.length (by omega) _ (by omega)]
  simp only [Option.bind_some]
  rw [if_neg (by omega)]
  simp only [if_true]
  rw [hc _ (by omega)]
  simp only [Option.bind_some]
  rw [hi _ (by omega)]
  simp only [Option.bind_some]
  rw [hr _ (by omega)]
  simp only [Option.bind_some, if_true, eq_self, bne_self_eq_false]
  rw [show l0.length + 70182 = (l0.length + 70181) + 1 from rfl, laws_FnExactPriceSteps.j2]
  simp only [Bool.false_eq_true, if_false]
  rw [heldStep_is out.length (by omega) _ (by omega)]
  simp only [Option.bind_some]
  rw [if_neg (by omega)]
  simp only [if_true]

end Go.Proofs.Ytembklbofdgmgaa.Pure
