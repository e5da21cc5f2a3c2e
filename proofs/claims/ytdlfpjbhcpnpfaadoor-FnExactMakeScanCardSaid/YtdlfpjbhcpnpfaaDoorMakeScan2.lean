/- Both sides make the same code of an article and a value. -/
import Derived.Test.YtdlfpjbhcpnpfaaDoorPAllx0
import Derived.Test.YtdlfpjbhcpnpfaaDoorPAllx1
import Derived.Test.YtdlfpjbhcpnpfaaDoorPAllx2
import Derived.Test.YtdlfpjbhcpnpfaaDoorPAllx3
import Derived.Test.YtdlfpjbhcpnpfaaDoorMakeScan
namespace Go.Proofs.YtdlfpjbhcpnpfaaDoor
open Go.RowKit Go.Proofs.YtdlfpjbhcpnpfaaDoor.PAll Go.Proofs.YtdlfpjbhcpnpfaaDoorW.PrintWords Go.Proofs.YtdlfpjbhcpnpfaaDoorW.PrintLast

theorem five_of (l : List UInt8) (h : l.length = 5) : ∃ a b c d e, l = [a, b, c, d, e] :=
  match l, h with
  | [a, b, c, d, e], _ => ⟨a, b, c, d, e, rfl⟩
theorem made_same (a : Int) (ha : a = 2 ∨ a = 3) (s : ByteArray) (h5 : s.size = 5) (hd : allD s = true) (v : Int) (h0 : 0 ≤ v) (h1 : v ≤ 99999) :
    ∃ x, spec_MakeScan.j0 102 false a s v = some (x, 0) ∧ impl_MakeScan.j1 101 s false a s v = some (x, 0) := by
  obtain ⟨V, rfl⟩ : ∃ V : Nat, v = V := ⟨v.toNat, by omega⟩
  have hV : V < 100000 := by omega
  obtain ⟨s0, s1, s2, s3, s4, e⟩ := five_of s.data.toList (by rw [size_len]; exact h5)
  have es : s = bs [s0, s1, s2, s3, s4] := by rw [bs_of s, e]
  subst es
  rw [bs_allD] at hd
  obtain ⟨c, hc, hac⟩ : ∃ c : UInt8, (c = 48 ∨ c = 49) ∧ (c.toNat : Int) - 46 = a := by rcases ha with rfl | rfl; exact ⟨48, Or.inl rfl, rfl⟩; exact ⟨49, Or.inr rfl, rfl⟩
  have hcD : isD c = true := by rcases hc with rfl | rfl <;> decide
  have hw0 : allD (bs [50, c, s0, s1, s2, s3, s4, od (V / 10000), od (V / 1000 % 10), od (V / 100 % 10), od (V / 10 % 10), od (V % 10)]) = true := by
    rw [bs_allD]
    simp only [List.all_cons, List.all_nil, Bool.and_true, Bool.and_eq_true] at hd ⊢
    exact ⟨by decide, hcD, hd.1, hd.2.1, hd.2.2.1, hd.2.2.2.1, hd.2.2.2.2, od_isD _ (by omega), od_isD _ (by omega), od_isD _ (by omega), od_isD _ (by omega), od_isD _ (by omega)⟩
  obtain ⟨r, r1, r2, r0, r9⟩ := check_is _ hw0 (by rw [bs_size]; simp) 99 (by rw [bs_size]; simp)
  obtain ⟨R, rfl⟩ : ∃ R : Nat, r = R := ⟨r.toNat, by omega⟩
  have hR : R < 10 := by omega
  have q1 : spec_l02Check.f 101 _ = _ := spec_l02Check.mono _ _ _ (spec_l02Check.mono _ _ _ r1)
  have q2 : impl_checkOf.f 100 _ = _ := impl_checkOf.mono _ _ _ r2
  have hm := read_made c hc s0 s1 s2 s3 s4 hd V hV R hR r2
  have dT := digits_is 6 (100000 + V) 101 (nDigits_le 6 _ (by omega) (by omega)) (by omega) (by omega) (by omega)
  have dR := digits_is 1 R 101 (nDigits_le 1 _ (by omega) (by omega)) (by omega) (by omega) (by omega)
  have iT := itoa_of (wrap64 (100000 + (V : Int))) (100000 + V) (by rw [w64 (by omega) (by omega)]; omega) (by omega)
  have iR := itoa_of (R : Int) R rfl (by omega)
  have iC : strconv_Itoa.f (wrap64 (a - 2)) = some (bs [c]) := by
    rcases ha with rfl | rfl
    · rw [itoa_of (wrap64 (2 - 2)) 0 (by rw [w64 (by omega) (by omega)]; rfl) (by omega), one_is 0 (by omega)]
      rcases hc with rfl | rfl
      · rfl
      · exact absurd hac (by decide)
    · rw [itoa_of (wrap64 (3 - 2)) 1 (by rw [w64 (by omega) (by omega)]; rfl) (by omega), one_is 1 (by omega)]
      rcases hc with rfl | rfl
      · exact absurd hac (by decide)
      · rfl
  have wT : wrap64 (100000 + (V : Int)) = ((100000 + V : Nat) : Int) := by rw [w64 (by omega) (by omega)]; omega
  rw [six_is V hV] at dT iT
  rw [one_is R hR] at dR iR
  have tl : (bs [49, od (V / 10000), od (V / 1000 % 10), od (V / 100 % 10), od (V / 10 % 10), od (V % 10)]).extract 1 (bs [49, od (V / 10000), od (V / 1000 % 10), od (V / 100 % 10), od (V / 10 % 10), od (V % 10)]).size = bs [od (V / 10000), od (V / 1000 % 10), od (V / 100 % 10), od (V / 10 % 10), od (V % 10)] := bs_tail _
  refine ⟨bs [50, c, s0, s1, s2, s3, s4, od (V / 10000), od (V / 1000 % 10), od (V / 100 % 10), od (V / 10 % 10), od (V % 10), od R], ?_, ?_⟩
  · rw [spec_MakeScan.j0, if_neg (by decide), wT, dT]
    rcases ha with rfl | rfl
    · have ec : c = 48 := by rcases hc with rfl | rfl; rfl; exact absurd hac (by decide)
      subst ec
      rw [if_neg (by decide), Option.bind_some, tl, show (⟨#[50, 48]⟩ : ByteArray) = bs [50, 48] from rfl]
      simp only [bs_app, bs_size, List.cons_append, List.nil_append, List.length_cons, List.length_nil, q1, dR, Option.bind_some]
      rfl
    · have ec : c = 49 := by rcases hc with rfl | rfl; exact absurd hac (by decide); rfl
      subst ec
      rw [if_pos rfl, Option.bind_some, tl, show (⟨#[50, 49]⟩ : ByteArray) = bs [50, 49] from rfl]
      simp only [bs_app, bs_size, List.cons_append, List.nil_append, List.length_cons, List.length_nil, q1, dR, Option.bind_some]
      rfl
  · rw [impl_MakeScan.j1, if_neg (by decide), iC, Option.bind_some, iT, show (⟨#[50]⟩ : ByteArray) = bs [50] from rfl]
    simp only [Option.bind_some, tl, bs_app, List.cons_append, List.nil_append, q2, iR, hm, hac]
    simp only [bs_size, List.length_cons, List.length_nil]
    simp
theorem scan_wide (t : ByteArray) (h : 65536 < t.size) (hs : t.size ≤ 9223372036854775807) (k : Nat) : spec_ReadScan.f k t = some (0, (⟨#[]⟩ : ByteArray), 0, 2) ∧ impl_readScan.f (k + 1) t = some (0, (⟨#[]⟩ : ByteArray), 0, 4) := by
  constructor
  · unfold spec_ReadScan.f; rw [if_pos (by omega)]
  · unfold impl_readScan.f; rw [if_neg (by omega), if_neg (by omega), impl_readScan.j0, if_pos rfl]

end Go.Proofs.YtdlfpjbhcpnpfaaDoor
