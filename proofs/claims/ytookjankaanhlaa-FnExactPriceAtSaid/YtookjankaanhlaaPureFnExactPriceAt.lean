/- FnExactPriceAt is true for every book of prices, every two texts and every amount: what is too long is let by by the law's own guards; otherwise both sides give the same three results, and the program leaves its book as it was. -/
import Derived.Test.YtookjankaanhlaaPAllx0
import Derived.Test.YtookjankaanhlaaPAllx29
import Derived.Test.YtookjankaanhlaaPriceAt
namespace Go.Proofs.Ytookjankaanhlaa.Pure
open Go.RowKit Go.Proofs.Ytookjankaanhlaa Go.Proofs.Ytookjankaanhlaa.PAll Go.Proofs.YtookjankaanhlaaW.PrintWords Go.Proofs.YtookjankaanhlaaW.PrintLast

theorem FnExactPriceAt (l0 : List S99) (a1 a2 : ByteArray) (a3 : Int) (h : l0.length ≤ 9223372036854775807 ∧ ∀ y ∈ l0, okS99 y)
    (_ : a1.size ≤ 9223372036854775807) (_ : a2.size ≤ 9223372036854775807) (_ : (Lit.int .i64 a3).wf = true) : ∃ k, laws_FnExactPriceAt.f k l0 a1 a2 a3 = some true := by
  obtain ⟨r, h1, h2⟩ := szPriceRowS_ok l0 h.1 h.2
  obtain ⟨⟨r1, r2, r3⟩, hr⟩ := priceAt_both (l0.map cvPriceRow) a1 a2 a3
  refine ⟨l0.length + 200, ?_⟩
  unfold laws_FnExactPriceAt.f
  by_cases ha : (a1.size : Int) > 1048576
  · rw [if_pos ha]
  rw [if_neg ha]
  by_cases hb : (a2.size : Int) > 1048576
  · rw [if_pos hb]
  rw [if_neg hb, h1 _ (by omega)]
  simp only [Option.bind_some]
  by_cases hn : r < 0
  · rw [if_pos hn]
  · rw [if_neg hn]
    have hl : l0.length ≤ 1048576 := by omega
    rw [toPriceRowS_is l0 hl _ (by omega)]
    simp only [Option.bind_some]
    rw [(hr _ (by omega)).1, (hr _ (by omega)).2]
    simp only [Option.bind_some]
    rw [if_pos trivial, if_pos trivial, bne_self_eq_false, show l0.length + 200 = (l0.length + 199) + 1 from rfl, laws_FnExactPriceAt.j0, if_neg (by decide), toPriceRowS_is l0 hl _ (by omega)]
    simp only [Option.bind_some]
    rw [eqPriceRowS_refl _ (by rw [List.length_map]; omega) _ (by rw [List.length_map]; omega)]
    simp

end Go.Proofs.Ytookjankaanhlaa.Pure
