/- FnExactMakeScan is true for every scan. -/
import Derived.Test.YtdlfpjbhcpnpfaaDoorPAllx0
import Derived.Test.YtdlfpjbhcpnpfaaDoorPAllx1
import Derived.Test.YtdlfpjbhcpnpfaaDoorPAllx2
import Derived.Test.YtdlfpjbhcpnpfaaDoorPAllx3
import Derived.Test.YtdlfpjbhcpnpfaaDoorMakeScan2
import Derived.Test.YtdlfpjbhcpnpfaaDoorTypAll
namespace Go.Proofs.YtdlfpjbhcpnpfaaDoor.Pure
open Go.RowKit Go.Proofs.YtdlfpjbhcpnpfaaDoor Go.Proofs.YtdlfpjbhcpnpfaaDoor.PAll Go.Proofs.YtdlfpjbhcpnpfaaDoorW.PrintWords Go.Proofs.YtdlfpjbhcpnpfaaDoorW.PrintLast

theorem FnExactMakeScan : ∀ (x0 : S33), okS33 x0 → ∃ k, laws_FnExactMakeScan.f k x0.f0 x0.f1 x0.f2 = some true := by
  intro x hx
  have hs := hx.2.1
  have hv := wf64 hx.2.2
  obtain ⟨a, ea⟩ : ∃ a, a = x.f0 := ⟨_, rfl⟩
  obtain ⟨s, e2⟩ : ∃ s, s = x.f1 := ⟨_, rfl⟩
  obtain ⟨v, e3⟩ : ∃ v, v = x.f2 := ⟨_, rfl⟩
  rw [← ea, ← e2, ← e3]
  rw [← e2] at hs
  rw [← e3] at hv
  clear ea e2 e3 hx
  refine ⟨102, ?_⟩
  unfold laws_FnExactMakeScan.f laws_szScan.f laws_toScan.f
  by_cases hL : (s.size : Int) > 1048576
  · rw [if_pos (by rw [w64 (by omega) (by omega)]; omega), Option.bind_some, if_pos (by decide)]
  rw [if_neg (by rw [w64 (by omega) (by omega)]; omega), Option.bind_some, if_neg (by rw [w64 (by omega) (by omega)]; omega)]
  simp only [Option.bind_some]
  have fin : ∃ y z, spec_MakeScan.f 102 a s v = some (y, z) ∧ impl_MakeScan.f 102 a s v = some (y, z) := by
    have badS : spec_MakeScan.j0 102 true a s v = some ((⟨#[]⟩ : ByteArray), 1) := by rw [spec_MakeScan.j0, if_pos rfl]
    have badI : impl_MakeScan.j1 101 s true a s v = some ((⟨#[]⟩ : ByteArray), 1) := by rw [impl_MakeScan.j1, if_pos rfl]
    have inS : spec_l01In.f v 0 99999 = some (decide (0 ≤ v ∧ v ≤ 99999)) := by
      unfold spec_l01In.f
      by_cases h : v ≥ 0
      · rw [if_pos h]; simp; omega
      · rw [if_neg h]; simp; omega
    have inI : impl_within.f v 0 99999 = some (decide (0 ≤ v ∧ v ≤ 99999)) := by
      unfold impl_within.f
      by_cases h : v ≥ 0
      · rw [if_pos h]; simp; omega
      · rw [if_neg h]; simp; omega
    have two : a = 2 ∨ a = 3 → ∃ y z, (if (s.size : Int) = 5 then ((spec_l02All.f 102 s).bind fun t => if t = true then ((spec_l01In.f v 0 99999).bind fun t2 => spec_MakeScan.j0 102 (!t2) a s v) else spec_MakeScan.j0 102 true a s v) else spec_MakeScan.j0 102 true a s v) = some (y, z) ∧ impl_MakeScan.j0 102 s true a s v = some (y, z) := by
      intro ha
      rw [impl_MakeScan.j0, if_pos rfl, badS, badI, inS, inI]
      by_cases h5 : (s.size : Int) = 5
      · rw [if_pos h5, if_pos h5, all_is s (by omega) 102 (by omega), allDigits_is s (by omega)]
        cases hd : allD s
        · exact ⟨_, _, rfl, rfl⟩
        · by_cases h : 0 ≤ v ∧ v ≤ 99999
          · obtain ⟨y, y1, y2⟩ := made_same a ha s (by omega) hd v h.1 h.2
            rw [decide_eq_true h]
            exact ⟨y, 0, y1, y2⟩
          · rw [decide_eq_false h]
            exact ⟨_, _, badS, badI⟩
      · rw [if_neg h5, if_neg h5]; exact ⟨_, _, rfl, rfl⟩
    unfold spec_MakeScan.f impl_MakeScan.f
    by_cases a2 : a = 2
    · rw [if_neg (by omega), if_pos a2, if_pos a2]; exact two (Or.inl a2)
    · by_cases a3 : a = 3
      · rw [if_neg (by omega), if_neg a2, if_pos a3, if_neg a2, show (a == 3) = true from beq_iff_eq.mpr a3]; exact two (Or.inr a3)
      · rw [if_neg a2, if_neg a3, if_neg a2, show (a == 3) = false from beq_eq_false_iff_ne.mpr a3, badS, impl_MakeScan.j0, if_neg (c := false = true) (by decide)]
        by_cases hw : s.size ≤ 65536
        · obtain ⟨r, r1, r2⟩ := scan_same s hw
          have q1 : spec_ReadScan.f 102 s = some r := spec_ReadScan.mono _ _ _ (spec_ReadScan.mono _ _ _ r1)
          have q2 : impl_readScan.f 101 s = some r := impl_readScan.mono _ _ _ r2
          rw [q1, q2]
          simp only [Option.bind_some]
          by_cases a1 : a = 1
          · rw [if_pos a1]
            by_cases z : r.2.2.2 = 0
            · rw [if_pos z]
              split
              · exact ⟨_, _, rfl, rfl⟩
              · exact ⟨_, _, rfl, rfl⟩
            · rw [if_neg z]; exact ⟨_, _, rfl, rfl⟩
          · rw [if_neg a1]
            by_cases z : r.2.2.2 = 0
            · have hk := kind_of s r (by omega) r2 z
              have ne : (r.1 == a) = false := beq_eq_false_iff_ne.mpr (by omega)
              rw [if_pos z, ne]
              exact ⟨_, _, rfl, rfl⟩
            · rw [if_neg z]; exact ⟨_, _, rfl, rfl⟩
        · have w1 := (scan_wide s (by omega) (by omega) 102).1
          have w2 := (scan_wide s (by omega) (by omega) 100).2
          rw [w1, w2]
          by_cases a1 : a = 1
          · rw [if_pos a1]; exact ⟨_, _, rfl, rfl⟩
          · rw [if_neg a1]; exact ⟨_, _, rfl, rfl⟩
  obtain ⟨y, z, y1, y2⟩ := fin
  rw [y1, y2]
  simp

end Go.Proofs.YtdlfpjbhcpnpfaaDoor.Pure
