-- Written by wip/tools/hp.py over the kit's print (not by hand): functions and walks of FnExactReadMoney.
import Derived.Test.YtdlfpjbhcpnpfaaDoorPFnExactReadMoneyx0
import Derived.Test.YtdlfpjbhcpnpfaaDoorPFnExactReadMoneyx1
import Derived.Test.YtdlfpjbhcpnpfaaDoorPFnExactReadMoneyx2
namespace Go.Proofs.YtdlfpjbhcpnpfaaDoor.PFnExactReadMoney
open Go.RowKit Go.Proofs.YtdlfpjbhcpnpfaaDoorW.PrintWords Go.Proofs.YtdlfpjbhcpnpfaaDoorW.PrintLast Go.Proofs.YtdlfpjbhcpnpfaaDoorW.PrintMore
attribute [local go_sem] max2_int min2_int max_two min_two max_three min_three max_four min_four   -- for this text's walks alone
set_option linter.unusedVariables false
set_option linter.unusedSimpArgs false

/-! ### strings_Cut: function 43, by hand, off the shelf -/
def strings_Cut.f (a0 a1 : ByteArray) : Option (ByteArray × ByteArray × Bool) := if a0.size < 4294967281 then some (⟨(Lib.cut a0.data.toList a1.data.toList).1.toArray⟩, ⟨(Lib.cut a0.data.toList a1.data.toList).2.1.toArray⟩, (Lib.cut a0.data.toList a1.data.toList).2.2) else none
theorem strings_Cut.calls (a0 a1 : ByteArray) (r1 r2 : ByteArray) (r3 : Bool) (w : World) (h : strings_Cut.f a0 a1 = some (r1, r2, r3)) (ht_ : Tabs w := by exact tabs) :
  Calls Tryd.prog 43 #[.string a0, .string a1] w fun e w' => e = .returned (.tuple #[.string r1, .string r2, .bool r3]) ∧ Below w.heap.size w w' := by
 obtain ⟨-, m, hm⟩ := ht_; unfold strings_Cut.f at h
 split at h
 ·rename_i hs
  simp only [Option.some.injEq, Prod.mk.injEq] at h; obtain ⟨rfl, rfl, rfl⟩ := h; refine (Tryd.strings_Cut a0 a1 m w hs hm).mono ?_; rintro e w' ⟨rfl, n, rfl⟩; exact ⟨rfl, pw_below_drewN (Below.refl _ w) n⟩
 ·cases h

/-! ### strconv_Atoi: function 44, by hand, off the shelf: at 18 bytes or fewer that are a number -/
def strconv_Atoi.f (a0 : ByteArray) : Option (Int × Option Int) := if a0.size ≤ 18 then (Lib.atoi a0.data.toList).map fun n => (n, none) else none
theorem strconv_Atoi.calls (a0 : ByteArray) (r1 : Int) (r2 : Option Int) (w : World) (h : strconv_Atoi.f a0 = some (r1, r2)) :
  Calls Tryd.prog 44 #[.string a0] w fun e w' => e = .returned (.tuple #[.int .i64 r1, errW r2]) ∧ Below w.heap.size w w' := by
 unfold strconv_Atoi.f at h
 split at h
 ·rename_i hs
  obtain ⟨n, hn, e⟩ := Option.map_eq_some_iff.1 h; obtain ⟨rfl, rfl⟩ := Prod.mk.inj e; refine (Tryd.strconv_Atoi a0 n hs hn w).mono ?_; rintro e w' ⟨rfl, t, rfl⟩; exact ⟨rfl, bytes_below (Below.refl _ w) (Nat.le_refl _) _ _⟩
 ·cases h

/-! ### impl_isMoney: function 28 -/
def impl_isMoney.f (a0 : Int) : Option (Bool) := (impl_within.f a0 (-1000000000) 1000000000).bind fun t118 => (some t118)
set_option maxHeartbeats 8000000 in
set_option maxRecDepth 100000 in
theorem impl_isMoney.calls (a0 : Int) (r : Bool) (w : World) (h : impl_isMoney.f a0 = some r) :
  Calls Tryd.prog 28 #[.int .i64 a0] w fun e w' => e = .returned (.bool r) ∧ Drawn0 w w' := by
 have H : ((impl_within.f a0 (-1000000000) 1000000000).bind fun t118 => (some t118)) = some r := h; clear h; replace H := Option.bind_eq_some_iff.mp H; obtain ⟨t118, A20, H⟩ := H; replace H : (some t118) = some r := H; have A2 := Aside0.mk A20; clear A20; obtain rfl := Option.some.inj H; go_enter Tryd.func28, Tryd.ntmps28
 go_wp2_with (first | ((with_reducible refine gate_callee (f := 33) rfl ?_); refine goesL_ (some 4) rfl rfl Tryd.func33 (by kernel_rfl) rfl #[.int .i64 a0, .int .i64 (-1000000000), .int .i64 1000000000] rfl mq ?_; (with_reducible refine (impl_within.calls a0 (-1000000000) 1000000000 t118 _ A2.out).mono ?_); rintro e w' ⟨rfl, ⟨nd, rfl⟩⟩; refine ⟨_, rfl, ?_⟩))
 go_ret; exact ⟨by first | rfl | (simp; done) | (simp [*]; done), by repeat (first | exact Drawn0.refl _ | apply Drawn0.step)⟩

/-! ### impl_money: function 45 -/
def impl_money.f (a0 : Int) : Option (Int × Int) := (impl_isMoney.f a0).bind fun t119 => (if t119 = true then (some (a0, 0)) else (some (0, 11)))
set_option maxHeartbeats 8000000 in
set_option maxRecDepth 100000 in
theorem impl_money.calls (a0 : Int) (r1 : Int) (r2 : Int) (w : World) (h : impl_money.f a0 = some (r1, r2)) :
  Calls Tryd.prog 45 #[.int .i64 a0] w fun e w' => e = .returned (.tuple #[.int .i64 r1, .int .i64 r2]) ∧ Drawn0 w w' := by
 have H : ((impl_isMoney.f a0).bind fun t119 => (if t119 = true then (some (a0, 0)) else (some (0, 11)))) = some (r1, r2) := h; clear h; replace H := Option.bind_eq_some_iff.mp H; obtain ⟨t119, A20, H⟩ := H; replace H : (if t119 = true then (some (a0, 0)) else (some (0, 11))) = some (r1, r2) := H; have A2 := Aside0.mk A20; clear A20; by_cases c3 : t119 = true
 ·subst c3
  have H1 : (some (a0, 0)) = some (r1, r2) := by rw [if_pos rfl] at H; exact H
  clear H; have H := H1; clear H1; simp only [Option.some.injEq, Prod.mk.injEq] at H; obtain ⟨rfl, rfl⟩ := H; go_enter Tryd.func45, Tryd.ntmps45
  go_wp2_with (first | ((with_reducible refine gate_callee (f := 28) rfl ?_); refine goesL_ (some 5) rfl rfl Tryd.func28 (by kernel_rfl) rfl #[.int .i64 a0] rfl mq ?_; (with_reducible refine (impl_isMoney.calls a0 true _ A2.out).mono ?_); rintro e w' ⟨rfl, ⟨nd, rfl⟩⟩; refine ⟨_, rfl, ?_⟩))
  go_ret2; exact ⟨by first | rfl | (simp; done) | (simp [*]; done), by repeat (first | exact Drawn0.refl _ | apply Drawn0.step)⟩
 ·replace c3 := Bool.eq_false_iff.mpr c3; subst c3
  have H1 : (some (0, 11)) = some (r1, r2) := by rw [if_neg (show ¬ (false = true) by decide)] at H; exact H
  clear H; have H := H1; clear H1; simp only [Option.some.injEq, Prod.mk.injEq] at H; obtain ⟨rfl, rfl⟩ := H; go_enter Tryd.func45, Tryd.ntmps45
  go_wp2_with (first | ((with_reducible refine gate_callee (f := 28) rfl ?_); refine goesL_ (some 5) rfl rfl Tryd.func28 (by kernel_rfl) rfl #[.int .i64 a0] rfl mq ?_; (with_reducible refine (impl_isMoney.calls a0 false _ A2.out).mono ?_); rintro e w' ⟨rfl, ⟨nd, rfl⟩⟩; refine ⟨_, rfl, ?_⟩))
  go_ret2; exact ⟨by first | rfl | (simp; done) | (simp [*]; done), by repeat (first | exact Drawn0.refl _ | apply Drawn0.step)⟩

/-! ### impl_ReadMoney: function 21 -/
mutual
def impl_ReadMoney.j0 : Nat → ByteArray → Bool → ByteArray → ByteArray → Bool → Option (Int × Int)
 | 0, _, _, _, _, _ => none
 | k + 1, x0, x5, x6, x7, x44 => if x44 = true then (some (0, 4)) else (if x6.size + x7.size ≤ 9223372036854775807 then ((strconv_Atoi.f (x6 ++ x7)).bind fun bt132 => (if x5 = true then (impl_ReadMoney.j1 k x0 (wrap64 (-bt132.1))) else (impl_ReadMoney.j1 k x0 bt132.1))) else (none))
def impl_ReadMoney.j1 : Nat → ByteArray → Int → Option (Int × Int)
 | 0, _, _ => none
 | k + 1, x0, x9 => (impl_moneyText.f x9).bind fun t134 => (if t134.toList = x0.toList then ((impl_money.f x9).bind fun bt135 => (some (bt135.1, bt135.2))) else (some (0, 4)))
end
def impl_ReadMoney.f (k : Nat) (a0 : ByteArray) : Option (Int × Int) := (impl_areTexts.f (([a0] : List ByteArray))).bind fun t123 => (if t123 = true then ((strings_CutPrefix.f a0 (⟨#[45]⟩ : ByteArray)).bind fun bt124 => ((strings_Cut.f bt124.1 (⟨#[46]⟩ : ByteArray)).bind fun bt126 => ((impl_within.f (bt126.1.size : Int) 1 15).bind fun t129 => (if t129 = true then (if (bt126.2.1.size : Int) = 2 then ((impl_areDigits.f bt126.1).bind fun t130 => (if t130 = true then ((impl_areDigits.f bt126.2.1).bind fun t131 => (impl_ReadMoney.j0 k a0 bt124.2 bt126.1 bt126.2.1 (!t131))) else (impl_ReadMoney.j0 k a0 bt124.2 bt126.1 bt126.2.1 true))) else (impl_ReadMoney.j0 k a0 bt124.2 bt126.1 bt126.2.1 true)) else (impl_ReadMoney.j0 k a0 bt124.2 bt126.1 bt126.2.1 true))))) else (some (0, 2)))
theorem impl_ReadMoney.mono_l : ∀ k, (∀ y0 y1 y2 y3 y4, LeO (impl_ReadMoney.j0 k y0 y1 y2 y3 y4) (impl_ReadMoney.j0 (k + 1) y0 y1 y2 y3 y4)) ∧ (∀ y0 y1, LeO (impl_ReadMoney.j1 k y0 y1) (impl_ReadMoney.j1 (k + 1) y0 y1))
 | 0 => ⟨fun _ _ _ _ _ r h => by simp [impl_ReadMoney.j0] at h, fun _ _ r h => by simp [impl_ReadMoney.j1] at h⟩
 | k + 1 => by
  obtain ⟨ih0, ih1⟩ := impl_ReadMoney.mono_l k; refine ⟨?_, ?_⟩
  ·intro y0 y1 y2 y3 y4; unfold impl_ReadMoney.j0
   repeat' first
   | (with_reducible exact ih0 _ _ _ _ _)
   | (with_reducible exact ih1 _ _)
   | (with_reducible exact LeO.refl _)
   | (with_reducible exact LeO.none _)
   | (with_reducible refine LeO.ite ?_ ?_)
   | (with_reducible refine LeO.bind ?_ (fun _ => ?_))
   | exact ih0 _ _ _ _ _
   | exact ih1 _ _
   | exact LeO.none _
   | refine LeO.ite ?_ ?_
   | refine LeO.bind ?_ (fun _ => ?_)
  ·intro y0 y1; unfold impl_ReadMoney.j1
   repeat' first
   | (with_reducible exact ih0 _ _ _ _ _)
   | (with_reducible exact ih1 _ _)
   | (with_reducible exact LeO.refl _)
   | (with_reducible exact LeO.none _)
   | (with_reducible refine LeO.ite ?_ ?_)
   | (with_reducible refine LeO.bind ?_ (fun _ => ?_))
   | exact ih0 _ _ _ _ _
   | exact ih1 _ _
   | exact LeO.none _
   | refine LeO.ite ?_ ?_
   | refine LeO.bind ?_ (fun _ => ?_)
theorem impl_ReadMoney.mono : ∀ a0 k, LeO (impl_ReadMoney.f k a0) (impl_ReadMoney.f (k + 1) a0) := by
 intro a0 k; obtain ⟨ih0, ih1⟩ := impl_ReadMoney.mono_l k; unfold impl_ReadMoney.f
 repeat' first
   | (with_reducible exact ih0 _ _ _ _ _)
   | (with_reducible exact ih1 _ _)
   | (with_reducible exact LeO.refl _)
   | (with_reducible exact LeO.none _)
   | (with_reducible refine LeO.ite ?_ ?_)
   | (with_reducible refine LeO.bind ?_ (fun _ => ?_))
   | exact ih0 _ _ _ _ _
   | exact ih1 _ _
   | exact LeO.none _
   | refine LeO.ite ?_ ?_
   | refine LeO.bind ?_ (fun _ => ?_)
set_option maxHeartbeats 8000000 in
set_option maxRecDepth 100000 in
theorem impl_ReadMoney.calls (k : Nat) (a0 : ByteArray) (r1 : Int) (r2 : Int) (w : World) (h : impl_ReadMoney.f k a0 = some (r1, r2)) (ht_ : Tabs w := by exact tabs) :
  Calls Tryd.prog 21 #[.string a0] w fun e w' => e = .returned (.tuple #[.int .i64 r1, .int .i64 r2]) ∧ Below w.heap.size w w' := by
 have HT0_ := Aside0.mk ht_; clear ht_; have HB := Aside0.mk (Below.refl w.heap.size w); have H : ((impl_areTexts.f (([a0] : List ByteArray))).bind fun t123 => (if t123 = true then ((strings_CutPrefix.f a0 (⟨#[45]⟩ : ByteArray)).bind fun bt124 => ((strings_Cut.f bt124.1 (⟨#[46]⟩ : ByteArray)).bind fun bt126 => ((impl_within.f (bt126.1.size : Int) 1 15).bind fun t129 => (if t129 = true then (if (bt126.2.1.size : Int) = 2 then ((impl_areDigits.f bt126.1).bind fun t130 => (if t130 = true then ((impl_areDigits.f bt126.2.1).bind fun t131 => (impl_ReadMoney.j0 k a0 bt124.2 bt126.1 bt126.2.1 (!t131))) else (impl_ReadMoney.j0 k a0 bt124.2 bt126.1 bt126.2.1 true))) else (impl_ReadMoney.j0 k a0 bt124.2 bt126.1 bt126.2.1 true)) else (impl_ReadMoney.j0 k a0 bt124.2 bt126.1 bt126.2.1 true))))) else (some (0, 2)))) = some (r1, r2) := h; clear h; obtain ⟨y120, hy120⟩ : ∃ y_ : List ByteArray, y_ = (([a0] : List ByteArray)) := ⟨_, rfl⟩
 replace H : ((impl_areTexts.f y120).bind fun t123 => (if t123 = true then ((strings_CutPrefix.f a0 (⟨#[45]⟩ : ByteArray)).bind fun bt124 => ((strings_Cut.f bt124.1 (⟨#[46]⟩ : ByteArray)).bind fun bt126 => ((impl_within.f (bt126.1.size : Int) 1 15).bind fun t129 => (if t129 = true then (if (bt126.2.1.size : Int) = 2 then ((impl_areDigits.f bt126.1).bind fun t130 => (if t130 = true then ((impl_areDigits.f bt126.2.1).bind fun t131 => (impl_ReadMoney.j0 k a0 bt124.2 bt126.1 bt126.2.1 (!t131))) else (impl_ReadMoney.j0 k a0 bt124.2 bt126.1 bt126.2.1 true))) else (impl_ReadMoney.j0 k a0 bt124.2 bt126.1 bt126.2.1 true)) else (impl_ReadMoney.j0 k a0 bt124.2 bt126.1 bt126.2.1 true))))) else (some (0, 2)))) = some (r1, r2) := by first | (rw [hy120]; with_reducible exact H) | (have H2_ := (Option.bind_some _ _).symm.trans H; rw [hy120]; with_reducible exact H2_) | (have H2_ := (Option.bind_some _ _).symm.trans H; with_reducible exact H2_) | with_reducible exact H | (rw [hy120]; exact H) | exact H
 have Ny120 := Aside0.mk hy120; clear hy120; replace H := Option.bind_eq_some_iff.mp H; obtain ⟨t123, A20, H⟩ := H; replace H : (if t123 = true then ((strings_CutPrefix.f a0 (⟨#[45]⟩ : ByteArray)).bind fun bt124 => ((strings_Cut.f bt124.1 (⟨#[46]⟩ : ByteArray)).bind fun bt126 => ((impl_within.f (bt126.1.size : Int) 1 15).bind fun t129 => (if t129 = true then (if (bt126.2.1.size : Int) = 2 then ((impl_areDigits.f bt126.1).bind fun t130 => (if t130 = true then ((impl_areDigits.f bt126.2.1).bind fun t131 => (impl_ReadMoney.j0 k a0 bt124.2 bt126.1 bt126.2.1 (!t131))) else (impl_ReadMoney.j0 k a0 bt124.2 bt126.1 bt126.2.1 true))) else (impl_ReadMoney.j0 k a0 bt124.2 bt126.1 bt126.2.1 true)) else (impl_ReadMoney.j0 k a0 bt124.2 bt126.1 bt126.2.1 true))))) else (some (0, 2))) = some (r1, r2) := H; have A2 := Aside0.mk A20; clear A20; by_cases c3 : t123 = true
 ·subst c3
  have H1 : ((strings_CutPrefix.f a0 (⟨#[45]⟩ : ByteArray)).bind fun bt124 => ((strings_Cut.f bt124.1 (⟨#[46]⟩ : ByteArray)).bind fun bt126 => ((impl_within.f (bt126.1.size : Int) 1 15).bind fun t129 => (if t129 = true then (if (bt126.2.1.size : Int) = 2 then ((impl_areDigits.f bt126.1).bind fun t130 => (if t130 = true then ((impl_areDigits.f bt126.2.1).bind fun t131 => (impl_ReadMoney.j0 k a0 bt124.2 bt126.1 bt126.2.1 (!t131))) else (impl_ReadMoney.j0 k a0 bt124.2 bt126.1 bt126.2.1 true))) else (impl_ReadMoney.j0 k a0 bt124.2 bt126.1 bt126.2.1 true)) else (impl_ReadMoney.j0 k a0 bt124.2 bt126.1 bt126.2.1 true))))) = some (r1, r2) := by rw [if_pos rfl] at H; exact H
  clear H; have H := H1; clear H1; replace H := Option.bind_eq_some_iff.mp H; obtain ⟨⟨t124, t125⟩, A40, H⟩ := H; replace H : ((strings_Cut.f t124 (⟨#[46]⟩ : ByteArray)).bind fun bt126 => ((impl_within.f (bt126.1.size : Int) 1 15).bind fun t129 => (if t129 = true then (if (bt126.2.1.size : Int) = 2 then ((impl_areDigits.f bt126.1).bind fun t130 => (if t130 = true then ((impl_areDigits.f bt126.2.1).bind fun t131 => (impl_ReadMoney.j0 k a0 t125 bt126.1 bt126.2.1 (!t131))) else (impl_ReadMoney.j0 k a0 t125 bt126.1 bt126.2.1 true))) else (impl_ReadMoney.j0 k a0 t125 bt126.1 bt126.2.1 true)) else (impl_ReadMoney.j0 k a0 t125 bt126.1 bt126.2.1 true)))) = some (r1, r2) := H; have A4 := Aside0.mk A40; clear A40; replace H := Option.bind_eq_some_iff.mp H; obtain ⟨⟨t126, t127, t128⟩, A50, H⟩ := H; replace H : ((impl_within.f (t126.size : Int) 1 15).bind fun t129 => (if t129 = true then (if (t127.size : Int) = 2 then ((impl_areDigits.f t126).bind fun t130 => (if t130 = true then ((impl_areDigits.f t127).bind fun t131 => (impl_ReadMoney.j0 k a0 t125 t126 t127 (!t131))) else (impl_ReadMoney.j0 k a0 t125 t126 t127 true))) else (impl_ReadMoney.j0 k a0 t125 t126 t127 true)) else (impl_ReadMoney.j0 k a0 t125 t126 t127 true))) = some (r1, r2) := H; have A5 := Aside0.mk A50; clear A50; have HC6 := Aside0.mk H; clear H; go_enter Tryd.func21, Tryd.ntmps21
  go_upto_region 5 with (first | ((with_reducible refine gate_dst (N := 12) rfl ?_); (try (refine gate_guard (by rfl) ?_; dsimp only)); refine Kd.R_lit Kd.string _ 9 ?hg (N := 12) ?hd (xs := ([a0] : List ByteArray)) (inner := [.string a0]) (ok := fun _ => True) (okp := fun _ => True) ?hr ?hp (fun _ hk => hk) trivial (Below.refl _ _) (Nat.le_refl _) (by simp) ?_; (case hd => rfl); (case hg => rfl); (case hr => first | (go_simp; done) | (go_simp; rfl)); (case hp => exact (Reps.one (show Kd.M Kd.string _ _ _ a0 [.string a0] from rfl) (Reps.none _ _))); intro v121 w7 ho8 hb hg_ hnew_; clear hg_ hnew_; (first | rw [← Ny120.out] at ho8 | (simp only [Int.reduceToNat] at ho8; rw [← Ny120.out] at ho8)); have n0_ := Aside0.mk (Kd.R_lower ho8 (below_size (qb HB))); have n1_ := Aside0.mk (below_step (qb HB) hb); clear HB; have HO122 := n0_; have HB := n1_; clear n0_ n1_; clear hb ho8; obtain ⟨Ao9, co9, eo9⟩ := Kd.R_slice HO122.out; subst eo9) | ((with_reducible refine gate_callee (f := 32) rfl ?_); refine goesL_ (some 13) rfl rfl Tryd.func32 (by kernel_rfl) rfl #[.slice Ao9 y120.length co9] rfl mq ?_; (with_reducible refine (impl_areTexts.calls _ _ y120 true _ ?side1 ?side2 A2.out).mono ?_); (case side1 => repeat (first | exact (Kd.R_reads' HO122.out).2.2 | (with_reducible refine Kd.C_alloc ?_ _) | (with_reducible refine Kd.C_drewN ?_ _) | (with_reducible refine Kd.C_drew ?_))); (case side2 => exact (Kd.R_reads' HO122.out).2.1); rintro e w10 ⟨rfl, hb⟩; refine ⟨_, rfl, ?_⟩; have n0_ := Aside0.mk (Kd.R_below (qr HO122) hb); have n1_ := Aside0.mk (below_step (qb HB) hb); clear HO122; clear HB; have HO122 := n0_; have HB := n1_; clear n0_ n1_; (try clear hb); (try clear hb2); (try clear hk); (try clear hi)) | ((with_reducible refine gate_callee (f := 42) rfl ?_); refine goesL_ (some 17) rfl rfl Tryd.func42 (by kernel_rfl) rfl #[.string a0, .string (⟨#[45]⟩ : ByteArray)] rfl mq ?_; (with_reducible refine (strings_CutPrefix.calls a0 (⟨#[45]⟩ : ByteArray) t124 t125 _ A4.out).mono ?_); rintro e w11 ⟨rfl, hb⟩; refine ⟨_, rfl, ?_⟩; have n0_ := Aside0.mk (Kd.R_below (qr HO122) hb); have n1_ := Aside0.mk (below_step (qb HB) hb); clear HO122; clear HB; have HO122 := n0_; have HB := n1_; clear n0_ n1_; (try clear hb); (try clear hb2); (try clear hk); (try clear hi)) | ((with_reducible refine gate_callee (f := 43) rfl ?_); refine goesL_ (some 22) rfl rfl Tryd.func43 (by kernel_rfl) rfl #[.string t124, .string (⟨#[46]⟩ : ByteArray)] rfl mq ?_; (with_reducible refine (strings_Cut.calls t124 (⟨#[46]⟩ : ByteArray) t126 t127 t128 _ A5.out).mono ?_); rintro e w12 ⟨rfl, hb⟩; refine ⟨_, rfl, ?_⟩; have n0_ := Aside0.mk (Kd.R_below (qr HO122) hb); have n1_ := Aside0.mk (below_step (qb HB) hb); clear HO122; clear HB; have HO122 := n0_; have HB := n1_; clear n0_ n1_; (try clear hb); (try clear hb2); (try clear hk); (try clear hi)))
  (try simp only [Act.put, sA, s0, sS])
  go_cut [44] (fun v44 wc => ∃ (kq : Nat) (x44_5 : Bool), v44 = .bool x44_5 ∧ Aside0 (impl_ReadMoney.j0 kq a0 t125 t126 t127 x44_5 = some (r1, r2)) ∧ Aside0 (kq ≤ k) ∧ Aside0 (Below w.heap.size w wc))
  case first =>
   have H := HC6.out; clear HC6; replace H := Option.bind_eq_some_iff.mp H; obtain ⟨t129, A130, H⟩ := H; replace H : (if t129 = true then (if (t127.size : Int) = 2 then ((impl_areDigits.f t126).bind fun t130 => (if t130 = true then ((impl_areDigits.f t127).bind fun t131 => (impl_ReadMoney.j0 k a0 t125 t126 t127 (!t131))) else (impl_ReadMoney.j0 k a0 t125 t126 t127 true))) else (impl_ReadMoney.j0 k a0 t125 t126 t127 true)) else (impl_ReadMoney.j0 k a0 t125 t126 t127 true)) = some (r1, r2) := H; have A13 := Aside0.mk A130; clear A130; by_cases c14 : t129 = true
   ·subst c14
    have H1 : (if (t127.size : Int) = 2 then ((impl_areDigits.f t126).bind fun t130 => (if t130 = true then ((impl_areDigits.f t127).bind fun t131 => (impl_ReadMoney.j0 k a0 t125 t126 t127 (!t131))) else (impl_ReadMoney.j0 k a0 t125 t126 t127 true))) else (impl_ReadMoney.j0 k a0 t125 t126 t127 true)) = some (r1, r2) := by rw [if_pos rfl] at H; exact H
    clear H; have H := H1; clear H1; by_cases c15 : (t127.size : Int) = 2
    ·rw [if_pos c15] at H; have c15b0 : ((t127.size : Int) == 2) = true := beq_iff_eq.mpr c15; have c15b1 : ((t127.size : Int) != 2) = false := bne_eq_false_iff_eq.mpr c15; clear c15
     (first | rw [c15b0] | (simp only [i64_w, i32_w]; rw [c15b0]) | skip)
     replace H := Option.bind_eq_some_iff.mp H; obtain ⟨t130, A160, H⟩ := H; replace H : (if t130 = true then ((impl_areDigits.f t127).bind fun t131 => (impl_ReadMoney.j0 k a0 t125 t126 t127 (!t131))) else (impl_ReadMoney.j0 k a0 t125 t126 t127 true)) = some (r1, r2) := H; have A16 := Aside0.mk A160; clear A160; by_cases c17 : t130 = true
     ·subst c17
      have H1 : ((impl_areDigits.f t127).bind fun t131 => (impl_ReadMoney.j0 k a0 t125 t126 t127 (!t131))) = some (r1, r2) := by rw [if_pos rfl] at H; exact H
      clear H; have H := H1; clear H1; replace H := Option.bind_eq_some_iff.mp H; obtain ⟨t131, A180, H⟩ := H; replace H : (impl_ReadMoney.j0 k a0 t125 t126 t127 (!t131)) = some (r1, r2) := H; have A18 := Aside0.mk A180; clear A180; have H' := Aside0.mk H; clear H
      go_wp2_with (first | ((with_reducible refine gate_callee (f := 33) rfl ?_); refine goesL_ (some 28) rfl rfl Tryd.func33 (by kernel_rfl) rfl #[.int .i64 (t126.size : Int), .int .i64 1, .int .i64 15] rfl mq ?_; (with_reducible refine (impl_within.calls (t126.size : Int) 1 15 true _ A13.out).mono ?_); rintro e w' ⟨rfl, ⟨nd, rfl⟩⟩; refine ⟨_, rfl, ?_⟩) | (go_at_call 34; (with_reducible refine (impl_areDigits.calls t126 true _ A16.out).mono ?_); rintro e w19 ⟨rfl, hb⟩; have n0_ := Aside0.mk (Kd.R_below (qr HO122) hb); have n1_ := Aside0.mk (below_step (qb HB) hb); clear HO122; clear HB; have HO122 := n0_; have HB := n1_; clear n0_ n1_; (try clear hb); (try clear hb2); (try clear hk); (try clear hi)) | (go_at_call 34; (with_reducible refine (impl_areDigits.calls t127 t131 _ A18.out).mono ?_); rintro e w20 ⟨rfl, hb⟩; have n0_ := Aside0.mk (Kd.R_below (qr HO122) hb); have n1_ := Aside0.mk (below_step (qb HB) hb); clear HO122; clear HB; have HO122 := n0_; have HB := n1_; clear n0_ n1_; (try clear hb); (try clear hb2); (try clear hk); (try clear hi)))
      go_meet
      case rel => exact ⟨_, (!t131), (by first | rfl | (simp; done) | (simp [*]; done)), H', ⟨by first | omega | exact Nat.le_refl _⟩, ⟨qb HB⟩⟩
     ·replace c17 := Bool.eq_false_iff.mpr c17; subst c17
      have H1 : (impl_ReadMoney.j0 k a0 t125 t126 t127 true) = some (r1, r2) := by rw [if_neg (show ¬ (false = true) by decide)] at H; exact H
      clear H; have H := H1; clear H1; have H' := Aside0.mk H; clear H
      go_wp2_with (first | ((with_reducible refine gate_callee (f := 33) rfl ?_); refine goesL_ (some 28) rfl rfl Tryd.func33 (by kernel_rfl) rfl #[.int .i64 (t126.size : Int), .int .i64 1, .int .i64 15] rfl mq ?_; (with_reducible refine (impl_within.calls (t126.size : Int) 1 15 true _ A13.out).mono ?_); rintro e w' ⟨rfl, ⟨nd, rfl⟩⟩; refine ⟨_, rfl, ?_⟩) | (go_at_call 34; (with_reducible refine (impl_areDigits.calls t126 false _ A16.out).mono ?_); rintro e w21 ⟨rfl, hb⟩; have n0_ := Aside0.mk (Kd.R_below (qr HO122) hb); have n1_ := Aside0.mk (below_step (qb HB) hb); clear HO122; clear HB; have HO122 := n0_; have HB := n1_; clear n0_ n1_; (try clear hb); (try clear hb2); (try clear hk); (try clear hi)))
      go_meet
      case rel => exact ⟨_, (true), (by first | rfl | (simp; done) | (simp [*]; done)), H', ⟨by first | omega | exact Nat.le_refl _⟩, ⟨qb HB⟩⟩
    ·rw [if_neg c15] at H; have c15b0 : ((t127.size : Int) == 2) = false := beq_eq_false_iff_ne.mpr c15; have c15b1 : ((t127.size : Int) != 2) = true := bne_iff_ne.mpr c15
     (first | rw [c15b0] | (simp only [i64_w, i32_w]; rw [c15b0]) | skip)
     have H' := Aside0.mk H; clear H
     go_wp2_with (first | ((with_reducible refine gate_callee (f := 33) rfl ?_); refine goesL_ (some 28) rfl rfl Tryd.func33 (by kernel_rfl) rfl #[.int .i64 (t126.size : Int), .int .i64 1, .int .i64 15] rfl mq ?_; (with_reducible refine (impl_within.calls (t126.size : Int) 1 15 true _ A13.out).mono ?_); rintro e w' ⟨rfl, ⟨nd, rfl⟩⟩; refine ⟨_, rfl, ?_⟩))
     go_meet
     case rel => exact ⟨_, (true), (by first | rfl | (simp; done) | (simp [*]; done)), H', ⟨by first | omega | exact Nat.le_refl _⟩, ⟨qb HB⟩⟩
   ·replace c14 := Bool.eq_false_iff.mpr c14; subst c14
    have H1 : (impl_ReadMoney.j0 k a0 t125 t126 t127 true) = some (r1, r2) := by rw [if_neg (show ¬ (false = true) by decide)] at H; exact H
    clear H; have H := H1; clear H1; have H' := Aside0.mk H; clear H
    go_wp2_with (first | ((with_reducible refine gate_callee (f := 33) rfl ?_); refine goesL_ (some 28) rfl rfl Tryd.func33 (by kernel_rfl) rfl #[.int .i64 (t126.size : Int), .int .i64 1, .int .i64 15] rfl mq ?_; (with_reducible refine (impl_within.calls (t126.size : Int) 1 15 false _ A13.out).mono ?_); rintro e w' ⟨rfl, ⟨nd, rfl⟩⟩; refine ⟨_, rfl, ?_⟩))
    go_meet
    case rel => exact ⟨_, (true), (by first | rfl | (simp; done) | (simp [*]; done)), H', ⟨by first | omega | exact Nat.le_refl _⟩, ⟨qb HB⟩⟩
  case rest =>
   clear HC6; (try clear c1); (try clear c2); (try clear p2); (try clear c3); (try clear c4); (try clear c14); (try clear c15); (try clear c15b0); (try clear c15b1); (try clear c17); (try clear c21); obtain ⟨kq, x44_5, rfl, HA, HJ5, HB⟩ := hcut
   cases kq with
   | zero => exact absurd HA.out (by simp [impl_ReadMoney.j0])
   | succ kj5 =>
    have H := HA.out; clear HA; simp only [impl_ReadMoney.j0] at H; by_cases c22 : x44_5 = true
    ·subst c22
     have H1 : (some (0, 4)) = some (r1, r2) := by rw [if_pos rfl] at H; exact H
     clear H; have H := H1; clear H1; simp only [Option.some.injEq, Prod.mk.injEq] at H; obtain ⟨rfl, rfl⟩ := H; go_wp2; go_ret2; exact ⟨eqq, qb HB⟩
    ·replace c22 := Bool.eq_false_iff.mpr c22; subst c22
     have H1 : (if t126.size + t127.size ≤ 9223372036854775807 then ((strconv_Atoi.f (t126 ++ t127)).bind fun bt132 => (if t125 = true then (impl_ReadMoney.j1 kj5 a0 (wrap64 (-bt132.1))) else (impl_ReadMoney.j1 kj5 a0 bt132.1))) else (none)) = some (r1, r2) := by rw [if_neg (show ¬ (false = true) by decide)] at H; exact H
     clear H; have H := H1; clear H1; by_cases c23 : t126.size + t127.size ≤ 9223372036854775807
     ·rw [if_pos c23] at H; have c23b0 := eq_true c23; have c23b1 : decide (t126.size + t127.size ≤ 9223372036854775807) = true := decide_eq_true c23
      (try have c23b2 : (9223372036854775807 < t126.size + t127.size) = False := eq_false (Nat.not_lt.2 c23))
      replace H := Option.bind_eq_some_iff.mp H; obtain ⟨⟨t132, t133⟩, A240, H⟩ := H; replace H : (if t125 = true then (impl_ReadMoney.j1 kj5 a0 (wrap64 (-t132))) else (impl_ReadMoney.j1 kj5 a0 t132)) = some (r1, r2) := H; have A24 := Aside0.mk A240; clear A240; have HC25 := Aside0.mk H; clear H
      go_upto_if 52 with (first | ((with_reducible refine gate_callee (f := 44) rfl ?_); refine goesL_ (some 49) rfl rfl Tryd.func44 (by kernel_rfl) rfl #[.string (t126 ++ t127)] rfl mq ?_; (with_reducible refine (strconv_Atoi.calls (t126 ++ t127) t132 t133 _ A24.out).mono ?_); rintro e w26 ⟨rfl, hb⟩; refine ⟨_, rfl, ?_⟩; have n0_ := Aside0.mk (below_step (qb HB) hb); clear HB; have HB := n0_; clear n0_; (try clear hb); (try clear hb2); (try clear hk); (try clear hi); (try simp only [errW_none, errW_some])))
      (try simp only [Act.put, sA, s0, sS])
      go_cut [9] (fun v9 wc => ∃ (kq : Nat) (x9_24 : Int), v9 = .int .i64 x9_24 ∧ Aside0 (impl_ReadMoney.j1 kq a0 x9_24 = some (r1, r2)) ∧ Aside0 (kq ≤ kj5) ∧ Aside0 (Below w.heap.size w wc))
      case first =>
       have H := HC25.out; clear HC25; by_cases c27 : t125 = true
       ·subst c27
        have H1 : (impl_ReadMoney.j1 kj5 a0 (wrap64 (-t132))) = some (r1, r2) := by rw [if_pos rfl] at H; exact H
        clear H; have H := H1; clear H1; have H' := Aside0.mk H; clear H; go_wp2
        go_meet
        case rel => exact ⟨_, (wrap64 (-t132)), (by first | rfl | (simp; done) | (simp [*]; done)), H', ⟨by have := HJ5.out; first | omega | exact Nat.le_refl _⟩, ⟨qb HB⟩⟩
       ·replace c27 := Bool.eq_false_iff.mpr c27; subst c27
        have H1 : (impl_ReadMoney.j1 kj5 a0 t132) = some (r1, r2) := by rw [if_neg (show ¬ (false = true) by decide)] at H; exact H
        clear H; have H := H1; clear H1; have H' := Aside0.mk H; clear H; go_wp2
        go_meet
        case rel => exact ⟨_, (t132), (by first | rfl | (simp; done) | (simp [*]; done)), H', ⟨by have := HJ5.out; first | omega | exact Nat.le_refl _⟩, ⟨qb HB⟩⟩
      case rest =>
       clear HC25; (try clear c1); (try clear c2); (try clear p2); (try clear c3); (try clear c4); (try clear p6); (try clear c14); (try clear c15); (try clear c15b0); (try clear c15b1); (try clear c17); (try clear c21); (try clear c22); (try clear c23); (try clear c23b0); (try clear c23b1); (try clear c23b2); (try clear c27); (try clear p2); obtain ⟨kq, x9_24, rfl, HA, HJ24, HB⟩ := hcut
       cases kq with
       | zero => exact absurd HA.out (by simp [impl_ReadMoney.j1])
       | succ kj24 =>
        have H := HA.out; clear HA; simp only [impl_ReadMoney.j1] at H; replace H := Option.bind_eq_some_iff.mp H; obtain ⟨t134, A280, H⟩ := H; replace H : (if t134.toList = a0.toList then ((impl_money.f x9_24).bind fun bt135 => (some (bt135.1, bt135.2))) else (some (0, 4))) = some (r1, r2) := H; have A28 := Aside0.mk A280; clear A280; by_cases c29 : t134.toList = a0.toList
        ·rw [if_pos c29] at H; have c29b0 : (t134.toList == a0.toList) = true := beq_iff_eq.mpr c29; have c29b1 : (t134.toList != a0.toList) = false := bne_eq_false_iff_eq.mpr c29; clear c29; replace H := Option.bind_eq_some_iff.mp H; obtain ⟨⟨t135, t136⟩, A300, H⟩ := H; replace H : (some (t135, t136)) = some (r1, r2) := H; have A30 := Aside0.mk A300; clear A300; simp only [Option.some.injEq, Prod.mk.injEq] at H; obtain ⟨rfl, rfl⟩ := H
         go_wp2_with (first | ((with_reducible refine gate_callee (f := 29) rfl ?_); refine goesL_ (some 56) rfl rfl Tryd.func29 (by kernel_rfl) rfl #[.int .i64 x9_24] rfl mq ?_; (with_reducible refine (impl_moneyText.calls x9_24 t134 _ A28.out).mono ?_); rintro e w31 ⟨rfl, hb⟩; refine ⟨_, rfl, ?_⟩; have n0_ := Aside0.mk (below_step (qb HB) hb); clear HB; have HB := n0_; clear n0_; (try clear hb); (try clear hb2); (try clear hk); (try clear hi)) | ((with_reducible refine gate_callee (f := 45) rfl ?_); refine goesL_ (some 60) rfl rfl Tryd.func45 (by kernel_rfl) rfl #[.int .i64 x9_24] rfl mq ?_; (with_reducible refine (impl_money.calls x9_24 t135 t136 _ A30.out).mono ?_); rintro e w' ⟨rfl, ⟨nd, rfl⟩⟩; refine ⟨_, rfl, ?_⟩))
         go_ret2; exact ⟨eqq, qb HB⟩
        ·rw [if_neg c29] at H; have c29b0 : (t134.toList == a0.toList) = false := beq_eq_false_iff_ne.mpr c29; have c29b1 : (t134.toList != a0.toList) = true := bne_iff_ne.mpr c29; simp only [Option.some.injEq, Prod.mk.injEq] at H; obtain ⟨rfl, rfl⟩ := H
         go_wp2_with (first | ((with_reducible refine gate_callee (f := 29) rfl ?_); refine goesL_ (some 56) rfl rfl Tryd.func29 (by kernel_rfl) rfl #[.int .i64 x9_24] rfl mq ?_; (with_reducible refine (impl_moneyText.calls x9_24 t134 _ A28.out).mono ?_); rintro e w32 ⟨rfl, hb⟩; refine ⟨_, rfl, ?_⟩; have n0_ := Aside0.mk (below_step (qb HB) hb); clear HB; have HB := n0_; clear n0_; (try clear hb); (try clear hb2); (try clear hk); (try clear hi)))
         go_ret2; exact ⟨eqq, qb HB⟩
     ·rw [if_neg c23] at H; exact absurd H (by simp)
 ·replace c3 := Bool.eq_false_iff.mpr c3; subst c3
  have H1 : (some (0, 2)) = some (r1, r2) := by rw [if_neg (show ¬ (false = true) by decide)] at H; exact H
  clear H; have H := H1; clear H1; simp only [Option.some.injEq, Prod.mk.injEq] at H; obtain ⟨rfl, rfl⟩ := H; go_enter Tryd.func21, Tryd.ntmps21
  go_wp2_with (first | ((with_reducible refine gate_dst (N := 12) rfl ?_); (try (refine gate_guard (by rfl) ?_; dsimp only)); refine Kd.R_lit Kd.string _ 9 ?hg (N := 12) ?hd (xs := ([a0] : List ByteArray)) (inner := [.string a0]) (ok := fun _ => True) (okp := fun _ => True) ?hr ?hp (fun _ hk => hk) trivial (Below.refl _ _) (Nat.le_refl _) (by simp) ?_; (case hd => rfl); (case hg => rfl); (case hr => first | (go_simp; done) | (go_simp; rfl)); (case hp => exact (Reps.one (show Kd.M Kd.string _ _ _ a0 [.string a0] from rfl) (Reps.none _ _))); intro v121 w33 ho34 hb hg_ hnew_; clear hg_ hnew_; (first | rw [← Ny120.out] at ho34 | (simp only [Int.reduceToNat] at ho34; rw [← Ny120.out] at ho34)); have n0_ := Aside0.mk (Kd.R_lower ho34 (below_size (qb HB))); have n1_ := Aside0.mk (below_step (qb HB) hb); clear HB; have HO122 := n0_; have HB := n1_; clear n0_ n1_; clear hb ho34; obtain ⟨Ao35, co35, eo35⟩ := Kd.R_slice HO122.out; subst eo35) | ((with_reducible refine gate_callee (f := 32) rfl ?_); refine goesL_ (some 13) rfl rfl Tryd.func32 (by kernel_rfl) rfl #[.slice Ao35 y120.length co35] rfl mq ?_; (with_reducible refine (impl_areTexts.calls _ _ y120 false _ ?side1 ?side2 A2.out).mono ?_); (case side1 => repeat (first | exact (Kd.R_reads' HO122.out).2.2 | (with_reducible refine Kd.C_alloc ?_ _) | (with_reducible refine Kd.C_drewN ?_ _) | (with_reducible refine Kd.C_drew ?_))); (case side2 => exact (Kd.R_reads' HO122.out).2.1); rintro e w36 ⟨rfl, hb⟩; refine ⟨_, rfl, ?_⟩; have n0_ := Aside0.mk (Kd.R_below (qr HO122) hb); have n1_ := Aside0.mk (below_step (qb HB) hb); clear HO122; clear HB; have HO122 := n0_; have HB := n1_; clear n0_ n1_; (try clear hb); (try clear hb2); (try clear hk); (try clear hi)))
  go_ret2; exact ⟨eqq, qb HB⟩

/-! ### laws_FnExactReadMoney: function 7 -/
def laws_FnExactReadMoney.f (k : Nat) (a0 : ByteArray) : Option (Bool) := if (a0.size : Int) > 1048576 then (some true) else ((spec_ReadMoney.f k a0).bind fun bt137 => ((impl_ReadMoney.f k a0).bind fun bt139 => (if bt139.1 = bt137.1 then (if bt139.2 = bt137.2 then (some true) else (some false)) else (some false))))
theorem laws_FnExactReadMoney.mono : ∀ a0 k, LeO (laws_FnExactReadMoney.f k a0) (laws_FnExactReadMoney.f (k + 1) a0) := by
 intro a0 k; unfold laws_FnExactReadMoney.f
 repeat' first
   | (with_reducible exact impl_ReadMoney.mono _ _)
   | (with_reducible exact spec_ReadMoney.mono _ _)
   | (with_reducible exact LeO.refl _)
   | (with_reducible exact LeO.none _)
   | (with_reducible refine LeO.ite ?_ ?_)
   | (with_reducible refine LeO.bind ?_ (fun _ => ?_))
   | exact impl_ReadMoney.mono _ _
   | exact spec_ReadMoney.mono _ _
   | exact LeO.none _
   | refine LeO.ite ?_ ?_
   | refine LeO.bind ?_ (fun _ => ?_)
set_option maxHeartbeats 8000000 in
set_option maxRecDepth 100000 in
theorem laws_FnExactReadMoney.calls (k : Nat) (a0 : ByteArray) (r : Bool) (w : World) (h : laws_FnExactReadMoney.f k a0 = some r) (ht_ : Tabs w := by exact tabs) :
  Calls Tryd.prog 7 #[.string a0] w fun e w' => e = .returned (.bool r) ∧ Below w.heap.size w w' := by
 have HT0_ := Aside0.mk ht_; clear ht_; have HB := Aside0.mk (Below.refl w.heap.size w); have H : (if (a0.size : Int) > 1048576 then (some true) else ((spec_ReadMoney.f k a0).bind fun bt137 => ((impl_ReadMoney.f k a0).bind fun bt139 => (if bt139.1 = bt137.1 then (if bt139.2 = bt137.2 then (some true) else (some false)) else (some false))))) = some r := h; clear h; by_cases c2 : (a0.size : Int) > 1048576
 ·rw [if_pos c2] at H; have c2b0 : decide (1048576 < (a0.size : Int)) = true := decide_eq_true c2; have c2b1 : decide (1048576 < a0.size) = true := decide_eq_true (by omega); clear c2; obtain rfl := Option.some.inj H; go_enter Tryd.func7, Tryd.ntmps7; go_wp2; go_ret; exact ⟨eqq, qb HB⟩
 ·rw [if_neg c2] at H; have c2b0 : decide (1048576 < (a0.size : Int)) = false := decide_eq_false c2; have c2b1 : decide (1048576 < a0.size) = false := decide_eq_false (by omega); clear c2; replace H := Option.bind_eq_some_iff.mp H; obtain ⟨⟨t137, t138⟩, A30, H⟩ := H; replace H : ((impl_ReadMoney.f k a0).bind fun bt139 => (if bt139.1 = t137 then (if bt139.2 = t138 then (some true) else (some false)) else (some false))) = some r := H; have A3 := Aside0.mk A30; clear A30; replace H := Option.bind_eq_some_iff.mp H; obtain ⟨⟨t139, t140⟩, A40, H⟩ := H; replace H : (if t139 = t137 then (if t140 = t138 then (some true) else (some false)) else (some false)) = some r := H; have A4 := Aside0.mk A40; clear A40; by_cases c5 : t139 = t137
  ·rw [if_pos c5] at H; have c5b0 : (t139 == t137) = true := beq_iff_eq.mpr c5; have c5b1 : (t139 != t137) = false := bne_eq_false_iff_eq.mpr c5; clear c5; by_cases c6 : t140 = t138
   ·rw [if_pos c6] at H; have c6b0 : (t140 == t138) = true := beq_iff_eq.mpr c6; have c6b1 : (t140 != t138) = false := bne_eq_false_iff_eq.mpr c6; clear c6; obtain rfl := Option.some.inj H; go_enter Tryd.func7, Tryd.ntmps7
    go_wp2_with (first | ((with_reducible refine gate_callee (f := 20) rfl ?_); refine goesL_ (some 12) rfl rfl Tryd.func20 (by kernel_rfl) rfl #[.string a0] rfl mq ?_; (with_reducible refine (spec_ReadMoney.calls k a0 t137 t138 _ A3.out).mono ?_); rintro e w' ⟨rfl, ⟨nd, rfl⟩⟩; refine ⟨_, rfl, ?_⟩) | ((with_reducible refine gate_callee (f := 21) rfl ?_); refine goesL_ (some 17) rfl rfl Tryd.func21 (by kernel_rfl) rfl #[.string a0] rfl mq ?_; (with_reducible refine (impl_ReadMoney.calls k a0 t139 t140 _ A4.out).mono ?_); rintro e w7 ⟨rfl, hb⟩; refine ⟨_, rfl, ?_⟩; have n0_ := Aside0.mk (below_step (qb HB) hb); clear HB; have HB := n0_; clear n0_; (try clear hb); (try clear hb2); (try clear hk); (try clear hi)))
    go_ret; exact ⟨eqq, qb HB⟩
   ·rw [if_neg c6] at H; have c6b0 : (t140 == t138) = false := beq_eq_false_iff_ne.mpr c6; have c6b1 : (t140 != t138) = true := bne_iff_ne.mpr c6; obtain rfl := Option.some.inj H; go_enter Tryd.func7, Tryd.ntmps7
    go_wp2_with (first | ((with_reducible refine gate_callee (f := 20) rfl ?_); refine goesL_ (some 12) rfl rfl Tryd.func20 (by kernel_rfl) rfl #[.string a0] rfl mq ?_; (with_reducible refine (spec_ReadMoney.calls k a0 t137 t138 _ A3.out).mono ?_); rintro e w' ⟨rfl, ⟨nd, rfl⟩⟩; refine ⟨_, rfl, ?_⟩) | ((with_reducible refine gate_callee (f := 21) rfl ?_); refine goesL_ (some 17) rfl rfl Tryd.func21 (by kernel_rfl) rfl #[.string a0] rfl mq ?_; (with_reducible refine (impl_ReadMoney.calls k a0 t139 t140 _ A4.out).mono ?_); rintro e w8 ⟨rfl, hb⟩; refine ⟨_, rfl, ?_⟩; have n0_ := Aside0.mk (below_step (qb HB) hb); clear HB; have HB := n0_; clear n0_; (try clear hb); (try clear hb2); (try clear hk); (try clear hi)))
    go_ret; exact ⟨eqq, qb HB⟩
  ·rw [if_neg c5] at H; have c5b0 : (t139 == t137) = false := beq_eq_false_iff_ne.mpr c5; have c5b1 : (t139 != t137) = true := bne_iff_ne.mpr c5; obtain rfl := Option.some.inj H; go_enter Tryd.func7, Tryd.ntmps7
   go_wp2_with (first | ((with_reducible refine gate_callee (f := 20) rfl ?_); refine goesL_ (some 12) rfl rfl Tryd.func20 (by kernel_rfl) rfl #[.string a0] rfl mq ?_; (with_reducible refine (spec_ReadMoney.calls k a0 t137 t138 _ A3.out).mono ?_); rintro e w' ⟨rfl, ⟨nd, rfl⟩⟩; refine ⟨_, rfl, ?_⟩) | ((with_reducible refine gate_callee (f := 21) rfl ?_); refine goesL_ (some 17) rfl rfl Tryd.func21 (by kernel_rfl) rfl #[.string a0] rfl mq ?_; (with_reducible refine (impl_ReadMoney.calls k a0 t139 t140 _ A4.out).mono ?_); rintro e w9 ⟨rfl, hb⟩; refine ⟨_, rfl, ?_⟩; have n0_ := Aside0.mk (below_step (qb HB) hb); clear HB; have HB := n0_; clear n0_; (try clear hb); (try clear hb2); (try clear hk); (try clear hi)))
   go_ret; exact ⟨eqq, qb HB⟩

/-- THE ONE PURE STATEMENT of laws_FnExactReadMoney: yours. -/
def laws_FnExactReadMoney.Pure : Prop := ∀ (a0 : ByteArray), a0.size ≤ 140737488351232 → ∃ k, laws_FnExactReadMoney.f k a0 = some true
theorem laws_FnExactReadMoney.walk (P : laws_FnExactReadMoney.Pure) (a0 : ByteArray) (w : World) (w0 : a0.size ≤ 140737488351232) (ht_ : Tabs w) :
  Calls Tryd.prog 7 #[.string a0] w fun e w' => e = .returned (.bool true) ∧ Below w.heap.size w w' := by
 have HT0_ := Aside0.mk ht_; obtain ⟨k, h⟩ := P a0 w0; refine (laws_FnExactReadMoney.calls k a0 true w h).mono ?_; rintro e w' ⟨rfl, hd⟩; exact ⟨rfl, hd⟩

end Go.Proofs.YtdlfpjbhcpnpfaaDoor.PFnExactReadMoney
