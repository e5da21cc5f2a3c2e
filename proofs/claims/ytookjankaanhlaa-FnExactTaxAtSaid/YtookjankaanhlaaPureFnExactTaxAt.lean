/- FnExactTaxAt is true for every book of taxes, class, place and day: what is too long is let by by the law's own guards; otherwise both sides give the same rate and error, and the program leaves its book as it was. -/
import Derived.Test.YtookjankaanhlaaPAllx0
import Derived.Test.YtookjankaanhlaaPAllx30
import Derived.Test.YtookjankaanhlaaPAllx9
import Derived.Test.YtookjankaanhlaaTaxAt
namespace Go.Proofs.Ytookjankaanhlaa.Pure
open Go.RowKit Go.Proofs.Ytookjankaanhlaa Go.Proofs.Ytookjankaanhlaa.PAll Go.Proofs.YtookjankaanhlaaW.PrintWords Go.Proofs.YtookjankaanhlaaW.PrintLast

theorem FnExactTaxAt (l0 : List S109) (a1 : Int) (a2 : ByteArray) (a3 : Int) (h : l0.length ≤ 9223372036854775807 ∧ ∀ y ∈ l0, okS109 y)
    (_ : (Lit.int .i64 a1).wf = true) (_ : a2.size ≤ 9223372036854775807) (_ : (Lit.int .i64 a3).wf = true) : ∃ k, laws_FnExactTaxAt.f k l0 a1 a2 a3 = some true := by
  obtain ⟨r, h1, h2⟩ := szTaxRowS_ok l0 h.1 h.2
  obtain ⟨⟨r1, r2, r3⟩, hr⟩ := taxAt_both (l0.map cvTaxRow) a1 a2 a3
  refine ⟨l0.length + 4500, ?_⟩
  unfold laws_FnExactTaxAt.f
  by_cases hb : (a2.size : Int) > 1048576
  · rw [if_pos hb]
  rw [if_neg hb, h1 _ (by omega)]
  simp only [Option.bind_some]
  by_cases hn : r < 0
  · rw [if_pos hn]
  · rw [if_neg hn]
    have hl : l0.length ≤ 1048576 := by omega
    rw [toTaxRowS_is l0 hl _ (by omega)]
    simp only [Option.bind_some]
    rw [(hr _ (by omega)).1, (hr _ (by omega)).2]
    unfold laws_eqRate.f
    simp only [Option.bind_some]
    rw [if_pos trivial, if_pos trivial, bne_self_eq_false, show l0.length + 4500 = (l0.length + 4499) + 1 from rfl, laws_FnExactTaxAt.j0]
    simp only [Option.bind_some]
    rw [if_pos trivial, if_neg Bool.false_ne_true, toTaxRowS_is l0 hl _ (by omega)]
    simp only [Option.bind_some]
    rw [eqTaxRowS_refl _ (by rw [List.length_map]; omega) _ (by rw [List.length_map]; omega)]
    simp

end Go.Proofs.Ytookjankaanhlaa.Pure
