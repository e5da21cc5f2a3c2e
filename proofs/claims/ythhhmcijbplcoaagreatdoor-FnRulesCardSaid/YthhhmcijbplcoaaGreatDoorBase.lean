/- Plain facts on whole numbers of 64 bits that the proofs of this seat share: a number in range is not wrapped, and quotients by a divisor above 0. -/
import Derived.Test.YthhhmcijbplcoaaGreatDoorWords0
namespace Go.Proofs.YthhhmcijbplcoaaGreatDoor
open Go.RowKit

theorem w64 {x : Int} (h : -9223372036854775808 ≤ x) (k : x ≤ 9223372036854775807) : wrap64 x = x := by
  unfold wrap64; omega

theorem wf64 {a : Int} (h : (Lit.int .i64 a).wf = true) : -9223372036854775808 ≤ a ∧ a ≤ 9223372036854775807 := by
  simp [Lit.wf, IntKind.min, IntKind.max, IntKind.bits, IntKind.signed] at h
  omega

theorem tdiv_mul_le {a b : Int} (h : 0 ≤ a) (k : 1 ≤ b) : 0 ≤ Int.tdiv a b ∧ 0 ≤ Int.tdiv a b * b ∧ Int.tdiv a b * b ≤ a ∧ a - Int.tdiv a b * b < b ∧ Int.tdiv a b ≤ a := by
  rw [Int.tdiv_eq_ediv_of_nonneg h]
  have h1 := Int.mul_ediv_add_emod a b
  have h2 := Int.emod_nonneg a (show b ≠ 0 by omega)
  have h3 := Int.emod_lt_of_pos a (show 0 < b by omega)
  have h4 : 0 ≤ a / b := Int.ediv_nonneg h (by omega)
  have h5 : 0 ≤ a / b * b := Int.mul_nonneg h4 (by omega)
  have h6 : b * (a / b) = a / b * b := Int.mul_comm _ _
  have h7 : a / b ≤ a := Int.ediv_le_self b h
  omega

end Go.Proofs.YthhhmcijbplcoaaGreatDoor
