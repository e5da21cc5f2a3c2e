/- Rounding to the even one stays within half of the divisor. -/
import Derived.Test.YtgmohjegijndeaaPAllx0
import Derived.Test.YtgmohjegijndeaaRound
namespace Go.Proofs.Ytgmohjegijndeaa
open Go.RowKit Go.Proofs.Ytgmohjegijndeaa.PAll Go.Proofs.YtgmohjegijndeaaW.PrintWords Go.Proofs.YtgmohjegijndeaaW.PrintLast

theorem rnd_near (a b : Int) (hb : 1 ≤ b) : -b ≤ 2 * (rnd a b 3 * b - a) ∧ 2 * (rnd a b 3 * b - a) ≤ b := by
  have h1 := Int.mul_ediv_add_emod a b
  have h2 := Int.emod_nonneg a (show b ≠ 0 by omega)
  have h3 := Int.emod_lt_of_pos a (show 0 < b by omega)
  have e0 : a / b * b = b * (a / b) := Int.mul_comm _ _
  have e1 : (a / b + 1) * b = b * (a / b) + b := by rw [Int.add_mul, e0]; omega
  unfold rnd
  simp only
  rw [if_neg (by decide), if_pos (by decide)]
  generalize hp : b * (a / b) = p at *
  by_cases c1 : 2 * (a % b) > b
  · rw [if_pos c1, e1]; omega
  · rw [if_neg c1]
    by_cases c2 : 2 * (a % b) = b
    · rw [if_pos c2]
      by_cases c3 : a / b % 2 = 0
      · rw [if_pos c3, e0]; omega
      · rw [if_neg c3, e1]; omega
    · rw [if_neg c2, e0]; omega

end Go.Proofs.Ytgmohjegijndeaa
