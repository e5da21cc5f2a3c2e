/- FnExactUnpack is true for every book of packs and every number of units: longer books are let by by the law's own guard; both sides give the same counts, rest and error, the book stays as it was, and the counts lie apart from whatever else was handed out. -/
import Derived.Test.YtookjankaanhlaaPAllx0
import Derived.Test.YtookjankaanhlaaPAllx25
import Derived.Test.YtookjankaanhlaaPAllx39
import Derived.Test.YtookjankaanhlaaUnpack
namespace Go.Proofs.Ytookjankaanhlaa.Pure
open Go.RowKit Go.Proofs.Ytookjankaanhlaa Go.Proofs.Ytookjankaanhlaa.PAll Go.Proofs.YtookjankaanhlaaW.PrintWords Go.Proofs.YtookjankaanhlaaW.PrintLast

theorem FnExactUnpack (l0 : List S152) (a1 : Int) (h : l0.length ≤ 9223372036854775807 ∧ ∀ y ∈ l0, okS152 y) (_ : (Lit.int .i64 a1).wf = true) : ∃ k, laws_FnExactUnpack.f k l0 a1 = some true := by
  obtain ⟨r, h1, h2⟩ := szPackS_ok l0 h.1 h.2
  refine ⟨l0.length + 1000184, ?_⟩
  unfold laws_FnExactUnpack.f
  rw [h1 _ (by omega)]
  simp only [Option.bind_some]
  by_cases hn : r < 0
  · rw [if_pos hn]
  rw [if_neg hn]
  have hl : l0.length ≤ 1048576 := by omega
  have hc : ∀ k, l0.length < k → laws_toPackS.f k l0 = some (l0.map cvPack) := fun k hk => toPackS_is l0 hl k hk
  have hlen : (l0.map cvPack).length = l0.length := List.length_map _
  have hq : ∀ k, l0.length < k → laws_eqPackS.f k (l0.map cvPack) (l0.map cvPack) = some true := fun k hk => eqPackS_refl _ (by omega) k (by omega)
  obtain ⟨⟨out, rest, code⟩, hlo, hb⟩ := unpack_both (l0.map cvPack) a1
  have hm : ∀ k, l0.length + 30 ≤ k → ∃ n l, laws_markPackS.f k (l0.map cvPack) 1 = some (n, l) ∧ 0 ≤ n := fun k hk => markPack_any _ (by omega) k (by omega)
  rw [hc _ (by omega)]
  simp only [Option.bind_some]
  rw [(hb _ (by omega)).1, (hb _ (by omega)).2]
  have hlo' : out.length ≤ 30 := hlo
  have hr : ∀ k, 31 ≤ k → laws_eqIntS.f k out out = some true := fun k hk => eqInt_refl out (by omega) k (by omega)
  simp only [Option.bind_some]
  rw [hr _ (by omega)]
  simp only [Option.bind_some, if_true, eq_self, bne_self_eq_false]
  rw [show l0.length + 1000184 = (l0.length + 1000183) + 1 from rfl, laws_FnExactUnpack.j0]
  simp only [Bool.false_eq_true, if_false]
  rw [hc _ (by omega)]
  simp only [Option.bind_some]
  rw [hq _ (by omega)]
  obtain ⟨n, l, e1, e2⟩ := hm (l0.length + 1000183) (by omega)
  simp only [Option.bind_some, if_true, e1, if_neg (show ¬ n < 0 by omega)]
  rw [hr _ (by omega)]
  simp only [Option.bind_some, if_true, eq_self, bne_self_eq_false]
  rw [show l0.length + 1000183 = (l0.length + 1000182) + 1 from rfl, laws_FnExactUnpack.j1]
  simp only [Bool.false_eq_true, if_false]
  rw [markInt_is out (by omega) _ (by omega)]
  simp only [Option.bind_some]
  rw [heldInt_is out.length (by omega) _ (by omega)]
  simp only [Option.bind_some]
  rw [if_neg (by omega)]
  simp only [if_true, eq_self]
  rw [hc _ (by omega)]
  simp only [Option.bind_some]
  rw [(hb _ (by omega)).1]
  simp only [Option.bind_some]
  rw [hr _ (by omega)]
  simp only [Option.bind_some, if_true, eq_self, bne_self_eq_false]
  rw [show l0.length + 1000182 = (l0.length + 1000181) + 1 from rfl, laws_FnExactUnpack.j2]
  simp only [Bool.false_eq_true, if_false]
  rw [heldInt_is out.length (by omega) _ (by omega)]
  simp only [Option.bind_some]
  rw [if_neg (by omega)]
  simp only [if_true, eq_self]

end Go.Proofs.Ytookjankaanhlaa.Pure
