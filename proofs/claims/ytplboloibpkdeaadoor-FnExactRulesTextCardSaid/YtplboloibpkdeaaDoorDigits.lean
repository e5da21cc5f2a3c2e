/- Texts as lists of bytes; the reference's digits of a number are its decimal numeral. -/
import Derived.Test.YtplboloibpkdeaaDoorPFnExactRulesTextx2
import Derived.Test.YtplboloibpkdeaaDoorBs
import Derived.Lib.ItoaNum
import Derived.Lib.ItoaLen
namespace Go.Proofs.YtplboloibpkdeaaDoor
open Go.RowKit Go.Proofs.YtplboloibpkdeaaDoor.PFnExactRulesText Go.Proofs.YtplboloibpkdeaaDoorW.PrintWords Go.Proofs.YtplboloibpkdeaaDoorW.PrintLast

theorem one_digit (a : Int) (u : Nat) (h : a = u) (h9 : u < 10) : strOfNums [(wrap64 (48 + a)) % 256] = bs [UInt8.ofNat (48 + u)] := by
  subst h
  rw [w64 (by omega) (by omega), show (48 + (u : Int)) % 256 = ((48 + u : Nat) : Int) by omega]
  rfl

theorem digits_is : ∀ (d u k : Nat), Lib.nDigits u ≤ d → d ≤ 30 → (u : Int) ≤ 9223372036854775807 → d < k → spec_l00Digits.f k (u : Int) = some (bs (Lib.decDigits u))
  | 0, u, _, h, _, _, _ => by have := nDigits_pos u; omega
  | d + 1, u, k, h, hd, hu, hk => by
    obtain ⟨k, rfl⟩ : ∃ m, k = m + 1 := ⟨k - 1, by omega⟩
    rw [spec_l00Digits.f, if_neg (by omega), if_neg (by omega), Lib.decDigits]
    by_cases h10 : u < 10
    · rw [if_pos (by omega), dif_pos h10, one_digit _ u rfl h10]
    · have hn : Lib.nDigits (u / 10) ≤ d := by
        rw [Lib.nDigits, dif_neg h10] at h; omega
      have hdiv : Int.tdiv (u : Int) 10 = ((u / 10 : Nat) : Int) := by rw [Int.tdiv_eq_ediv_of_nonneg (by omega)]; omega
      have hmod : Int.tmod (u : Int) 10 = ((u % 10 : Nat) : Int) := by rw [Int.tmod_eq_emod_of_nonneg (by omega)]; omega
      have ih := digits_is d (u / 10) k hn (by omega) (by omega) (by omega)
      have hlen : (Lib.decDigits (u / 10)).length ≤ 30 := by rw [Lib.decDigits_length]; omega
      rw [if_neg (by omega), dif_neg h10, hdiv, w64 (by omega) (by omega), ih, Option.bind_some, Option.bind_some, hmod, one_digit _ (u % 10) rfl (by omega), if_pos (by rw [bs_size, bs_size]; simp only [List.length_cons, List.length_nil]; omega), bs_app]

end Go.Proofs.YtplboloibpkdeaaDoor
