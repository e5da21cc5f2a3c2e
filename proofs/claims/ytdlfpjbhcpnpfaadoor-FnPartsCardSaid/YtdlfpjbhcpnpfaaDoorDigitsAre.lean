/- The program's areDigits: a text that is trimmed to nothing is digits alone. -/
import Derived.Test.YtdlfpjbhcpnpfaaDoorPFnPartsx2
import Derived.Test.YtdlfpjbhcpnpfaaDoorBs
import Derived.Test.YtdlfpjbhcpnpfaaDoorNumText
namespace Go.Proofs.YtdlfpjbhcpnpfaaDoor
open Go.RowKit Go.Proofs.YtdlfpjbhcpnpfaaDoor.PFnParts Go.Proofs.YtdlfpjbhcpnpfaaDoorW.PrintWords Go.Proofs.YtdlfpjbhcpnpfaaDoorW.PrintLast

theorem contains_dg1 (b : UInt8) : ([48, 49, 50, 51, 52, 53, 54, 55, 56, 57] : List UInt8).contains b = dg1 b := by
  rw [Bool.eq_iff_iff]
  unfold dg1
  simp only [List.contains_iff_mem, List.mem_cons, ← UInt8.toNat_inj, List.not_mem_nil, or_false, decide_eq_true_eq, show (48 : UInt8).toNat = 48 from rfl, show (49 : UInt8).toNat = 49 from rfl, show (50 : UInt8).toNat = 50 from rfl, show (51 : UInt8).toNat = 51 from rfl, show (52 : UInt8).toNat = 52 from rfl, show (53 : UInt8).toNat = 53 from rfl, show (54 : UInt8).toNat = 54 from rfl, show (55 : UInt8).toNat = 55 from rfl, show (56 : UInt8).toNat = 56 from rfl, show (57 : UInt8).toNat = 57 from rfl]
  omega
theorem dropW_all (p : UInt8 → Bool) : ∀ l : List UInt8, (l.dropWhile p).all p = l.all p
  | [] => rfl
  | a :: t => by
    cases h : p a
    · rw [List.dropWhile_cons, h]; simp
    · rw [List.dropWhile_cons, h, List.all_cons, h]; simpa using dropW_all p t
theorem dropW_empty (p : UInt8 → Bool) : ∀ l : List UInt8, (l.dropWhile p).isEmpty = l.all p
  | [] => rfl
  | a :: t => by
    cases h : p a
    · rw [List.dropWhile_cons, h, List.all_cons, h]; simp
    · rw [List.dropWhile_cons, h, List.all_cons, h]; simpa using dropW_empty p t
theorem trim_dg1 (l : List UInt8) : (Lib.trimS l [48, 49, 50, 51, 52, 53, 54, 55, 56, 57]).isEmpty = l.all dg1 := by
  unfold Lib.trimS Lib.trimLeftS Lib.trimRightS
  rw [show (fun x => ([48, 49, 50, 51, 52, 53, 54, 55, 56, 57] : List UInt8).contains x) = dg1 from funext contains_dg1]
  rw [dropW_empty, List.all_reverse, dropW_all, List.all_reverse]
theorem areDigits_is (l : List UInt8) (h : l.length ≤ 9223372036854775807) : impl_areDigits.f (bs l) = some (l.all dg1) := by
  unfold impl_areDigits.f strings_Trim.f
  rw [if_pos ⟨by rw [bs_size]; exact h, by decide, by decide⟩, Option.bind_some, Lib.toList_data, bs_list]
  exact congrArg some (trim_dg1 l)

end Go.Proofs.YtdlfpjbhcpnpfaaDoor
