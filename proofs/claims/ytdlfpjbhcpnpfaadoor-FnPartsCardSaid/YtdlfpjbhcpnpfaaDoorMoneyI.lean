/- An amount's text, as the program writes it. -/
import Derived.Test.YtdlfpjbhcpnpfaaDoorPFnPartsx1
import Derived.Test.YtdlfpjbhcpnpfaaDoorBs
namespace Go.Proofs.YtdlfpjbhcpnpfaaDoor
open Go.RowKit Go.Proofs.YtdlfpjbhcpnpfaaDoor.PFnParts Go.Proofs.YtdlfpjbhcpnpfaaDoorW.PrintWords Go.Proofs.YtdlfpjbhcpnpfaaDoorW.PrintLast

/-- The text of an amount that is not below 0. -/
def mText (u : Nat) : List UInt8 := Lib.decDigits (u / 100) ++ [46, UInt8.ofNat (48 + u / 10 % 10), UInt8.ofNat (48 + u % 10)]
/-- The text of an amount. -/
def moneyT (a : Int) : List UInt8 := if a < 0 then 45 :: mText a.natAbs else mText a.toNat

theorem mText_len (u : Nat) (h : (u : Int) ≤ 9223372036854775807) : (mText u).length ≤ 25 := by
  unfold mText
  have := nDigits_le 20 (u / 100) (by omega) (by omega)
  rw [List.length_append, Lib.decDigits_length]
  simp only [List.length_cons, List.length_nil]; omega

theorem cents_is (r : Nat) (h : r < 100) : (Lib.decDigits (100 + r)).drop 1 = [UInt8.ofNat (48 + r / 10), UInt8.ofNat (48 + r % 10)] ∧ (Lib.decDigits (100 + r)).length = 3 := by
  rw [Lib.decDigits, dif_neg (by omega), Lib.decDigits_two (by omega) (by omega)]
  refine ⟨?_, rfl⟩
  rw [show (100 + r) / 10 % 10 = r / 10 by omega, show (100 + r) % 10 = r % 10 by omega]
  rfl

theorem itoa_at (a : Int) (u : Nat) (h : a = u) (hu : (u : Int) ≤ 9223372036854775807) : strconv_Itoa.f a = some (bs (Lib.decDigits u)) := by
  subst h
  unfold strconv_Itoa.f
  rw [if_pos ⟨by omega, hu⟩, show Lib.itoa (u : Int) = Lib.decDigits u from by unfold Lib.itoa; rw [if_neg (by omega)]; simp]
  rfl

theorem moneyText_is (a : Int) (h0 : -9223372036854775807 ≤ a) (h1 : a ≤ 9223372036854775807) : impl_moneyText.f a = some (bs (moneyT a)) := by
  unfold impl_moneyText.f impl_sizeOf.f
  rw [Option.bind_some, w64 (x := -a) (by omega) (by omega)]
  obtain ⟨u, hu⟩ : ∃ u : Nat, mx a (-a) = u := ⟨a.natAbs, by unfold mx; split <;> omega⟩
  have hab : u = a.natAbs := by unfold mx at hu; split at hu <;> omega
  have h100 : Int.tdiv (u : Int) 100 = ((u / 100 : Nat) : Int) := by rw [Int.tdiv_eq_ediv_of_nonneg (by omega)]; omega
  have hmod : Int.tmod (u : Int) 100 = ((u % 100 : Nat) : Int) := by rw [Int.tmod_eq_emod_of_nonneg (by omega)]; omega
  have hc := cents_is (u % 100) (by omega)
  have n1 := nDigits_le 20 (u / 100) (by omega) (by omega)
  have hl : (Lib.decDigits (u / 100)).length ≤ 20 := by rw [Lib.decDigits_length]; exact n1
  have e1 : strconv_Itoa.f (wrap64 (100 + Int.tmod (u : Int) 100)) = some (bs (Lib.decDigits (100 + u % 100))) := by rw [hmod, w64 (by omega) (by omega)]; exact itoa_at _ _ (by omega) (by omega)
  have e2 : strconv_Itoa.f (wrap64 (Int.tdiv (u : Int) 100)) = some (bs (Lib.decDigits (u / 100))) := by rw [h100, w64 (by omega) (by omega)]; exact itoa_at _ _ rfl (by omega)
  have hmt : mText u = Lib.decDigits (u / 100) ++ [46] ++ (Lib.decDigits (100 + u % 100)).drop 1 := by
    rw [hc.1]; unfold mText
    rw [show u % 100 / 10 = u / 10 % 10 by omega, show u % 100 % 10 = u % 10 by omega]; simp
  rw [hu, e1, e2]
  simp only [Option.bind_some]
  rw [bs_tail, show (⟨#[45]⟩ : ByteArray) = bs [45] from rfl, show (⟨#[]⟩ : ByteArray) = bs [] from rfl, show (⟨#[46]⟩ : ByteArray) = bs [46] from rfl]
  simp only [bs_app, bs_size]
  unfold moneyT
  by_cases h : a < 0
  · rw [if_pos h, if_pos h, if_pos (by omega), if_pos (by simp only [List.length_append, List.length_cons, List.length_nil]; omega), if_pos (by rw [hc.2]; decide), if_pos (by rw [hc.1]; simp only [List.length_append, List.length_cons, List.length_nil]; omega), ← hab, hmt]
    simp
  · rw [if_neg h, if_neg h, if_pos (by omega), if_pos (by simp only [List.length_append, List.length_nil]; omega), if_pos (by rw [hc.2]; decide), if_pos (by rw [hc.1]; simp only [List.length_append, List.length_cons, List.length_nil]; omega), show a.toNat = u by omega, hmt]
    simp

end Go.Proofs.YtdlfpjbhcpnpfaaDoor
