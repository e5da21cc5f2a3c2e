-- Written by wip/tools/hp.py over the kit's print (not by hand): functions and walks of All.
import Derived.Test.YtdlfpjbhcpnpfaaDoorPAllx0
import Derived.Test.YtdlfpjbhcpnpfaaDoorPAllx1
import Derived.Test.YtdlfpjbhcpnpfaaDoorPAllx4
namespace Go.Proofs.YtdlfpjbhcpnpfaaDoor.PAll
open Go.RowKit Go.Proofs.YtdlfpjbhcpnpfaaDoorW.PrintWords Go.Proofs.YtdlfpjbhcpnpfaaDoorW.PrintLast Go.Proofs.YtdlfpjbhcpnpfaaDoorW.PrintMore
attribute [local go_sem] max2_int min2_int max_two min_two max_three min_three max_four min_four   -- for this text's walks alone
set_option linter.unusedVariables false
set_option linter.unusedSimpArgs false

/-! ### impl_areDigits: function 34 -/
def impl_areDigits.f (a0 : ByteArray) : Option (Bool) := (strings_Trim.f a0 (⟨#[48, 49, 50, 51, 52, 53, 54, 55, 56, 57]⟩ : ByteArray)).bind fun t131 => (some t131.toList.isEmpty)
set_option maxHeartbeats 8000000 in
set_option maxRecDepth 100000 in
theorem impl_areDigits.calls (a0 : ByteArray) (r : Bool) (w : World) (h : impl_areDigits.f a0 = some r) :
  Calls Tryd.prog 34 #[.string a0] w fun e w' => e = .returned (.bool r) ∧ Below w.heap.size w w' := by
 have HB := Aside0.mk (Below.refl w.heap.size w); have H : ((strings_Trim.f a0 (⟨#[48, 49, 50, 51, 52, 53, 54, 55, 56, 57]⟩ : ByteArray)).bind fun t131 => (some t131.toList.isEmpty)) = some r := h; clear h; replace H := Option.bind_eq_some_iff.mp H; obtain ⟨t131, A20, H⟩ := H; replace H : (some t131.toList.isEmpty) = some r := H; have A2 := Aside0.mk A20; clear A20; obtain rfl := Option.some.inj H; go_enter Tryd.func34, Tryd.ntmps34
 go_wp2_with (first | ((with_reducible refine gate_callee (f := 57) rfl ?_); refine goesL_ (some 4) rfl rfl Tryd.func57 (by kernel_rfl) rfl #[.string a0, .string (⟨#[48, 49, 50, 51, 52, 53, 54, 55, 56, 57]⟩ : ByteArray)] rfl mq ?_; (with_reducible refine (strings_Trim.calls a0 (⟨#[48, 49, 50, 51, 52, 53, 54, 55, 56, 57]⟩ : ByteArray) t131 _ A2.out).mono ?_); rintro e w3 ⟨rfl, hb⟩; refine ⟨_, rfl, ?_⟩; have n0_ := Aside0.mk (below_step (qb HB) hb); clear HB; have HB := n0_; clear n0_; (try clear hb); (try clear hb2); (try clear hk); (try clear hi)))
 go_ret; exact ⟨eqq, qb HB⟩

/-! ### impl_checkOf: function 35 -/
def impl_checkOf.l0 : Nat → ByteArray → Int → Int → Int → Option (Int)
 | 0, _, _, _, _ => none
 | k + 1, x0, x3, x4, x5 => if x5 ≥ 0 then (if 0 ≤ x5 then (if x5 < (x0.size : Int) then (impl_checkOf.l0 k x0 (wrap64 (x3 + (wrap64 (x4 * (((bt x0 x5) - 48) % 256))))) (wrap64 (4 - x4)) (wrap64 (x5 - 1))) else (none)) else (none)) else (some (Int.tmod (wrap64 (10 - (Int.tmod x3 10))) 10))
def impl_checkOf.f (k : Nat) (a0 : ByteArray) : Option (Int) := impl_checkOf.l0 k a0 0 3 (wrap64 ((a0.size : Int) - 1))
theorem impl_checkOf.mono_l : ∀ k, (∀ y0 y1 y2 y3, LeO (impl_checkOf.l0 k y0 y1 y2 y3) (impl_checkOf.l0 (k + 1) y0 y1 y2 y3))
 | 0 => fun _ _ _ _ r h => by simp [impl_checkOf.l0] at h
 | k + 1 => by
  have ih0 := impl_checkOf.mono_l k
  ·intro y0 y1 y2 y3; unfold impl_checkOf.l0
   repeat' first
   | (with_reducible exact ih0 _ _ _ _)
   | (with_reducible exact LeO.refl _)
   | (with_reducible exact LeO.none _)
   | (with_reducible refine LeO.ite ?_ ?_)
   | (with_reducible refine LeO.bind ?_ (fun _ => ?_))
   | exact ih0 _ _ _ _
   | exact LeO.none _
   | refine LeO.ite ?_ ?_
   | refine LeO.bind ?_ (fun _ => ?_)
theorem impl_checkOf.mono : ∀ a0 k, LeO (impl_checkOf.f k a0) (impl_checkOf.f (k + 1) a0) := by
 intro a0 k; have ih0 := impl_checkOf.mono_l k; unfold impl_checkOf.f
 repeat' first
   | (with_reducible exact ih0 _ _ _ _)
   | (with_reducible exact LeO.refl _)
   | (with_reducible exact LeO.none _)
   | (with_reducible refine LeO.ite ?_ ?_)
   | (with_reducible refine LeO.bind ?_ (fun _ => ?_))
   | exact ih0 _ _ _ _
   | exact LeO.none _
   | refine LeO.ite ?_ ?_
   | refine LeO.bind ?_ (fun _ => ?_)
set_option maxHeartbeats 8000000 in
set_option maxRecDepth 100000 in
theorem impl_checkOf.calls (k : Nat) (a0 : ByteArray) (r : Int) (w : World) (h : impl_checkOf.f k a0 = some r) :
  Calls Tryd.prog 35 #[.string a0] w fun e w' => e = .returned (.int .i64 r) ∧ Drawn0 w w' := by
 have H : (impl_checkOf.l0 k a0 0 3 (wrap64 ((a0.size : Int) - 1))) = some r := h; clear h; have H' := Aside0.mk H; clear H; go_enter Tryd.func35, Tryd.ntmps35; go_wp2
 go_loopg [3, 4, 5] k (fun kq v3 v4 v5 w' => ∃ (x3_1 : Int) (x4_1 : Int) (x5_1 : Int), v3 = .int .i64 x3_1 ∧ v4 = .int .i64 x4_1 ∧ v5 = .int .i64 x5_1 ∧ Aside0 (impl_checkOf.l0 kq a0 x3_1 x4_1 x5_1 = some r) ∧ Aside0 (kq ≤ k) ∧ Drawn0 w w')
 case atStart => exact ⟨(0), (3), (wrap64 ((a0.size : Int) - 1)), (by first | rfl | (simp; done) | (simp [*]; done)), (by first | rfl | (simp; done) | (simp [*]; done)), (by first | rfl | (simp; done) | (simp [*]; done)), H', ⟨Nat.le_refl _⟩, by repeat (first | exact Drawn0.refl _ | apply Drawn0.step)⟩
 case round =>
  clear H'; obtain ⟨x3_1, x4_1, x5_1, rfl, rfl, rfl, HA, HK1, ⟨m1, rfl⟩⟩ := hrel
  cases gk with
  | zero => exact absurd HA.out (by simp [impl_checkOf.l0])
  | succ k1 =>
   have H := HA.out; clear HA; simp only [impl_checkOf.l0] at H; by_cases c2 : x5_1 ≥ 0
   ·rw [if_pos c2] at H; have c2b0 : decide (0 ≤ x5_1) = true := decide_eq_true c2; clear c2; by_cases c3 : 0 ≤ x5_1
    ·rw [if_pos c3] at H; have c3b0 : decide (0 ≤ x5_1) = true := decide_eq_true c3; clear c3; by_cases c4 : x5_1 < (a0.size : Int)
     ·rw [if_pos c4] at H; have c4b0 : decide (x5_1 < (a0.size : Int)) = true := decide_eq_true c4; clear c4; have H' := Aside0.mk H; clear H; have p5 : 0 ≤ (x5_1 : Int) := of_decide_eq_true (by first | (with_reducible assumption) | assumption); have q5 : x5_1 < (a0.size : Int) := of_decide_eq_true (by first | (with_reducible assumption) | assumption); have hx5 := bt_at a0 x5_1; replace p5 := eq_true p5; replace q5 := eq_true q5; go_wp2
      go_roundg k1
      case measure => have := HK1.out; omega
      case rel => exact ⟨(wrap64 (x3_1 + (wrap64 (x4_1 * (((bt a0 x5_1) - 48) % 256))))), (wrap64 (4 - x4_1)), (wrap64 (x5_1 - 1)), (by first | rfl | (simp; done) | (simp [*]; done)), (by first | rfl | (simp; done) | (simp [*]; done)), (by first | rfl | (simp; done) | (simp [*]; done)), H', ⟨by have := HK1.out; omega⟩, by repeat (first | exact Drawn0.refl _ | apply Drawn0.step)⟩
     ·rw [if_neg c4] at H; exact absurd H (by simp)
    ·rw [if_neg c3] at H; exact absurd H (by simp)
   ·rw [if_neg c2] at H; have c2b0 : decide (0 ≤ x5_1) = false := decide_eq_false c2; clear c2; obtain rfl := Option.some.inj H; go_wp2; go_ret; exact ⟨by first | rfl | (simp; done) | (simp [*]; done), by repeat (first | exact Drawn0.refl _ | apply Drawn0.step)⟩

/-! ### impl_CheckDigit: function 12 -/
def impl_CheckDigit.f (k : Nat) (a0 : ByteArray) : Option (Int × Int) := (impl_areTexts.f (([a0] : List ByteArray))).bind fun t135 => (if t135 = true then ((impl_within.f (a0.size : Int) 1 17).bind fun t136 => (if t136 = true then ((impl_areDigits.f a0).bind fun t137 => (if t137 = true then ((impl_checkOf.f k a0).bind fun t138 => (some (t138, 0))) else (some (0, 4)))) else (some (0, 4)))) else (some (0, 2)))
theorem impl_CheckDigit.mono : ∀ a0 k, LeO (impl_CheckDigit.f k a0) (impl_CheckDigit.f (k + 1) a0) := by
 intro a0 k; unfold impl_CheckDigit.f
 repeat' first
   | (with_reducible exact impl_checkOf.mono _ _)
   | (with_reducible exact LeO.refl _)
   | (with_reducible exact LeO.none _)
   | (with_reducible refine LeO.ite ?_ ?_)
   | (with_reducible refine LeO.bind ?_ (fun _ => ?_))
   | exact impl_checkOf.mono _ _
   | exact LeO.none _
   | refine LeO.ite ?_ ?_
   | refine LeO.bind ?_ (fun _ => ?_)
set_option maxHeartbeats 8000000 in
set_option maxRecDepth 100000 in
theorem impl_CheckDigit.calls (k : Nat) (a0 : ByteArray) (r1 : Int) (r2 : Int) (w : World) (h : impl_CheckDigit.f k a0 = some (r1, r2)) :
  Calls Tryd.prog 12 #[.string a0] w fun e w' => e = .returned (.tuple #[.int .i64 r1, .int .i64 r2]) ∧ Below w.heap.size w w' := by
 have HB := Aside0.mk (Below.refl w.heap.size w); have H : ((impl_areTexts.f (([a0] : List ByteArray))).bind fun t135 => (if t135 = true then ((impl_within.f (a0.size : Int) 1 17).bind fun t136 => (if t136 = true then ((impl_areDigits.f a0).bind fun t137 => (if t137 = true then ((impl_checkOf.f k a0).bind fun t138 => (some (t138, 0))) else (some (0, 4)))) else (some (0, 4)))) else (some (0, 2)))) = some (r1, r2) := h; clear h; obtain ⟨y132, hy132⟩ : ∃ y_ : List ByteArray, y_ = (([a0] : List ByteArray)) := ⟨_, rfl⟩
 replace H : ((impl_areTexts.f y132).bind fun t135 => (if t135 = true then ((impl_within.f (a0.size : Int) 1 17).bind fun t136 => (if t136 = true then ((impl_areDigits.f a0).bind fun t137 => (if t137 = true then ((impl_checkOf.f k a0).bind fun t138 => (some (t138, 0))) else (some (0, 4)))) else (some (0, 4)))) else (some (0, 2)))) = some (r1, r2) := by first | (rw [hy132]; with_reducible exact H) | (have H2_ := (Option.bind_some _ _).symm.trans H; rw [hy132]; with_reducible exact H2_) | (have H2_ := (Option.bind_some _ _).symm.trans H; with_reducible exact H2_) | with_reducible exact H | (rw [hy132]; exact H) | exact H
 have Ny132 := Aside0.mk hy132; clear hy132; replace H := Option.bind_eq_some_iff.mp H; obtain ⟨t135, A20, H⟩ := H; replace H : (if t135 = true then ((impl_within.f (a0.size : Int) 1 17).bind fun t136 => (if t136 = true then ((impl_areDigits.f a0).bind fun t137 => (if t137 = true then ((impl_checkOf.f k a0).bind fun t138 => (some (t138, 0))) else (some (0, 4)))) else (some (0, 4)))) else (some (0, 2))) = some (r1, r2) := H; have A2 := Aside0.mk A20; clear A20; by_cases c3 : t135 = true
 ·subst c3
  have H1 : ((impl_within.f (a0.size : Int) 1 17).bind fun t136 => (if t136 = true then ((impl_areDigits.f a0).bind fun t137 => (if t137 = true then ((impl_checkOf.f k a0).bind fun t138 => (some (t138, 0))) else (some (0, 4)))) else (some (0, 4)))) = some (r1, r2) := by rw [if_pos rfl] at H; exact H
  clear H; have H := H1; clear H1; replace H := Option.bind_eq_some_iff.mp H; obtain ⟨t136, A40, H⟩ := H; replace H : (if t136 = true then ((impl_areDigits.f a0).bind fun t137 => (if t137 = true then ((impl_checkOf.f k a0).bind fun t138 => (some (t138, 0))) else (some (0, 4)))) else (some (0, 4))) = some (r1, r2) := H; have A4 := Aside0.mk A40; clear A40; by_cases c5 : t136 = true
  ·subst c5
   have H1 : ((impl_areDigits.f a0).bind fun t137 => (if t137 = true then ((impl_checkOf.f k a0).bind fun t138 => (some (t138, 0))) else (some (0, 4)))) = some (r1, r2) := by rw [if_pos rfl] at H; exact H
   clear H; have H := H1; clear H1; replace H := Option.bind_eq_some_iff.mp H; obtain ⟨t137, A60, H⟩ := H; replace H : (if t137 = true then ((impl_checkOf.f k a0).bind fun t138 => (some (t138, 0))) else (some (0, 4))) = some (r1, r2) := H; have A6 := Aside0.mk A60; clear A60; by_cases c7 : t137 = true
   ·subst c7
    have H1 : ((impl_checkOf.f k a0).bind fun t138 => (some (t138, 0))) = some (r1, r2) := by rw [if_pos rfl] at H; exact H
    clear H; have H := H1; clear H1; replace H := Option.bind_eq_some_iff.mp H; obtain ⟨t138, A80, H⟩ := H; replace H : (some (t138, 0)) = some (r1, r2) := H; have A8 := Aside0.mk A80; clear A80; simp only [Option.some.injEq, Prod.mk.injEq] at H; obtain ⟨rfl, rfl⟩ := H; go_enter Tryd.func12, Tryd.ntmps12
    go_wp2_with (first | ((with_reducible refine gate_dst (N := 6) rfl ?_); refine Kd.R_lit Kd.string _ 9 ?hg (N := 6) ?hd (xs := ([a0] : List ByteArray)) (inner := [.string a0]) (ok := fun _ => True) (okp := fun _ => True) ?hr ?hp (fun _ hk => hk) trivial (Below.refl _ _) (Nat.le_refl _) (by simp) ?_; (case hd => rfl); (case hg => rfl); (case hr => first | (go_simp; done) | (go_simp; rfl)); (case hp => exact (Reps.one (show Kd.M Kd.string _ _ _ a0 [.string a0] from rfl) (Reps.none _ _))); intro v133 w9 ho10 hb hg_ hnew_; clear hg_ hnew_; (first | rw [← Ny132.out] at ho10 | (simp only [Int.reduceToNat] at ho10; rw [← Ny132.out] at ho10)); have n0_ := Aside0.mk (Kd.R_lower ho10 (below_size (qb HB))); have n1_ := Aside0.mk (below_step (qb HB) hb); clear HB; have HO134 := n0_; have HB := n1_; clear n0_ n1_; clear hb ho10; obtain ⟨Ao11, co11, eo11⟩ := Kd.R_slice HO134.out; subst eo11) | ((with_reducible refine gate_callee (f := 32) rfl ?_); refine goesL_ (some 7) rfl rfl Tryd.func32 (by kernel_rfl) rfl #[.slice Ao11 y132.length co11] rfl mq ?_; (with_reducible refine (impl_areTexts.calls _ _ y132 true _ ?side1 ?side2 A2.out).mono ?_); (case side1 => repeat (first | exact (Kd.R_reads' HO134.out).2.2 | (with_reducible refine Kd.C_alloc ?_ _) | (with_reducible refine Kd.C_drewN ?_ _) | (with_reducible refine Kd.C_drew ?_))); (case side2 => exact (Kd.R_reads' HO134.out).2.1); rintro e w12 ⟨rfl, hb⟩; refine ⟨_, rfl, ?_⟩; have n0_ := Aside0.mk (Kd.R_below (qr HO134) hb); have n1_ := Aside0.mk (below_step (qb HB) hb); clear HO134; clear HB; have HO134 := n0_; have HB := n1_; clear n0_ n1_; (try clear hb); (try clear hb2); (try clear hk); (try clear hi)) | ((with_reducible refine gate_callee (f := 33) rfl ?_); refine goesL_ (some 12) rfl rfl Tryd.func33 (by kernel_rfl) rfl #[.int .i64 (a0.size : Int), .int .i64 1, .int .i64 17] rfl mq ?_; (with_reducible refine (impl_within.calls (a0.size : Int) 1 17 true _ A4.out).mono ?_); rintro e w' ⟨rfl, ⟨nd, rfl⟩⟩; refine ⟨_, rfl, ?_⟩) | (go_at_call 34; (with_reducible refine (impl_areDigits.calls a0 true _ A6.out).mono ?_); rintro e w13 ⟨rfl, hb⟩; have n0_ := Aside0.mk (Kd.R_below (qr HO134) hb); have n1_ := Aside0.mk (below_step (qb HB) hb); clear HO134; clear HB; have HO134 := n0_; have HB := n1_; clear n0_ n1_; (try clear hb); (try clear hb2); (try clear hk); (try clear hi)) | ((with_reducible refine gate_callee (f := 35) rfl ?_); refine goesL_ (some 20) rfl rfl Tryd.func35 (by kernel_rfl) rfl #[.string a0] rfl mq ?_; (with_reducible refine (impl_checkOf.calls k a0 t138 _ A8.out).mono ?_); rintro e w' ⟨rfl, ⟨nd, rfl⟩⟩; refine ⟨_, rfl, ?_⟩))
    go_ret2; exact ⟨eqq, qb HB⟩
   ·replace c7 := Bool.eq_false_iff.mpr c7; subst c7
    have H1 : (some (0, 4)) = some (r1, r2) := by rw [if_neg (show ¬ (false = true) by decide)] at H; exact H
    clear H; have H := H1; clear H1; simp only [Option.some.injEq, Prod.mk.injEq] at H; obtain ⟨rfl, rfl⟩ := H; go_enter Tryd.func12, Tryd.ntmps12
    go_wp2_with (first | ((with_reducible refine gate_dst (N := 6) rfl ?_); refine Kd.R_lit Kd.string _ 9 ?hg (N := 6) ?hd (xs := ([a0] : List ByteArray)) (inner := [.string a0]) (ok := fun _ => True) (okp := fun _ => True) ?hr ?hp (fun _ hk => hk) trivial (Below.refl _ _) (Nat.le_refl _) (by simp) ?_; (case hd => rfl); (case hg => rfl); (case hr => first | (go_simp; done) | (go_simp; rfl)); (case hp => exact (Reps.one (show Kd.M Kd.string _ _ _ a0 [.string a0] from rfl) (Reps.none _ _))); intro v133 w14 ho15 hb hg_ hnew_; clear hg_ hnew_; (first | rw [← Ny132.out] at ho15 | (simp only [Int.reduceToNat] at ho15; rw [← Ny132.out] at ho15)); have n0_ := Aside0.mk (Kd.R_lower ho15 (below_size (qb HB))); have n1_ := Aside0.mk (below_step (qb HB) hb); clear HB; have HO134 := n0_; have HB := n1_; clear n0_ n1_; clear hb ho15; obtain ⟨Ao16, co16, eo16⟩ := Kd.R_slice HO134.out; subst eo16) | ((with_reducible refine gate_callee (f := 32) rfl ?_); refine goesL_ (some 7) rfl rfl Tryd.func32 (by kernel_rfl) rfl #[.slice Ao16 y132.length co16] rfl mq ?_; (with_reducible refine (impl_areTexts.calls _ _ y132 true _ ?side1 ?side2 A2.out).mono ?_); (case side1 => repeat (first | exact (Kd.R_reads' HO134.out).2.2 | (with_reducible refine Kd.C_alloc ?_ _) | (with_reducible refine Kd.C_drewN ?_ _) | (with_reducible refine Kd.C_drew ?_))); (case side2 => exact (Kd.R_reads' HO134.out).2.1); rintro e w17 ⟨rfl, hb⟩; refine ⟨_, rfl, ?_⟩; have n0_ := Aside0.mk (Kd.R_below (qr HO134) hb); have n1_ := Aside0.mk (below_step (qb HB) hb); clear HO134; clear HB; have HO134 := n0_; have HB := n1_; clear n0_ n1_; (try clear hb); (try clear hb2); (try clear hk); (try clear hi)) | ((with_reducible refine gate_callee (f := 33) rfl ?_); refine goesL_ (some 12) rfl rfl Tryd.func33 (by kernel_rfl) rfl #[.int .i64 (a0.size : Int), .int .i64 1, .int .i64 17] rfl mq ?_; (with_reducible refine (impl_within.calls (a0.size : Int) 1 17 true _ A4.out).mono ?_); rintro e w' ⟨rfl, ⟨nd, rfl⟩⟩; refine ⟨_, rfl, ?_⟩) | (go_at_call 34; (with_reducible refine (impl_areDigits.calls a0 false _ A6.out).mono ?_); rintro e w18 ⟨rfl, hb⟩; have n0_ := Aside0.mk (Kd.R_below (qr HO134) hb); have n1_ := Aside0.mk (below_step (qb HB) hb); clear HO134; clear HB; have HO134 := n0_; have HB := n1_; clear n0_ n1_; (try clear hb); (try clear hb2); (try clear hk); (try clear hi)))
    go_ret2; exact ⟨eqq, qb HB⟩
  ·replace c5 := Bool.eq_false_iff.mpr c5; subst c5
   have H1 : (some (0, 4)) = some (r1, r2) := by rw [if_neg (show ¬ (false = true) by decide)] at H; exact H
   clear H; have H := H1; clear H1; simp only [Option.some.injEq, Prod.mk.injEq] at H; obtain ⟨rfl, rfl⟩ := H; go_enter Tryd.func12, Tryd.ntmps12
   go_wp2_with (first | ((with_reducible refine gate_dst (N := 6) rfl ?_); refine Kd.R_lit Kd.string _ 9 ?hg (N := 6) ?hd (xs := ([a0] : List ByteArray)) (inner := [.string a0]) (ok := fun _ => True) (okp := fun _ => True) ?hr ?hp (fun _ hk => hk) trivial (Below.refl _ _) (Nat.le_refl _) (by simp) ?_; (case hd => rfl); (case hg => rfl); (case hr => first | (go_simp; done) | (go_simp; rfl)); (case hp => exact (Reps.one (show Kd.M Kd.string _ _ _ a0 [.string a0] from rfl) (Reps.none _ _))); intro v133 w19 ho20 hb hg_ hnew_; clear hg_ hnew_; (first | rw [← Ny132.out] at ho20 | (simp only [Int.reduceToNat] at ho20; rw [← Ny132.out] at ho20)); have n0_ := Aside0.mk (Kd.R_lower ho20 (below_size (qb HB))); have n1_ := Aside0.mk (below_step (qb HB) hb); clear HB; have HO134 := n0_; have HB := n1_; clear n0_ n1_; clear hb ho20; obtain ⟨Ao21, co21, eo21⟩ := Kd.R_slice HO134.out; subst eo21) | ((with_reducible refine gate_callee (f := 32) rfl ?_); refine goesL_ (some 7) rfl rfl Tryd.func32 (by kernel_rfl) rfl #[.slice Ao21 y132.length co21] rfl mq ?_; (with_reducible refine (impl_areTexts.calls _ _ y132 true _ ?side1 ?side2 A2.out).mono ?_); (case side1 => repeat (first | exact (Kd.R_reads' HO134.out).2.2 | (with_reducible refine Kd.C_alloc ?_ _) | (with_reducible refine Kd.C_drewN ?_ _) | (with_reducible refine Kd.C_drew ?_))); (case side2 => exact (Kd.R_reads' HO134.out).2.1); rintro e w22 ⟨rfl, hb⟩; refine ⟨_, rfl, ?_⟩; have n0_ := Aside0.mk (Kd.R_below (qr HO134) hb); have n1_ := Aside0.mk (below_step (qb HB) hb); clear HO134; clear HB; have HO134 := n0_; have HB := n1_; clear n0_ n1_; (try clear hb); (try clear hb2); (try clear hk); (try clear hi)) | ((with_reducible refine gate_callee (f := 33) rfl ?_); refine goesL_ (some 12) rfl rfl Tryd.func33 (by kernel_rfl) rfl #[.int .i64 (a0.size : Int), .int .i64 1, .int .i64 17] rfl mq ?_; (with_reducible refine (impl_within.calls (a0.size : Int) 1 17 false _ A4.out).mono ?_); rintro e w' ⟨rfl, ⟨nd, rfl⟩⟩; refine ⟨_, rfl, ?_⟩))
   go_ret2; exact ⟨eqq, qb HB⟩
 ·replace c3 := Bool.eq_false_iff.mpr c3; subst c3
  have H1 : (some (0, 2)) = some (r1, r2) := by rw [if_neg (show ¬ (false = true) by decide)] at H; exact H
  clear H; have H := H1; clear H1; simp only [Option.some.injEq, Prod.mk.injEq] at H; obtain ⟨rfl, rfl⟩ := H; go_enter Tryd.func12, Tryd.ntmps12
  go_wp2_with (first | ((with_reducible refine gate_dst (N := 6) rfl ?_); refine Kd.R_lit Kd.string _ 9 ?hg (N := 6) ?hd (xs := ([a0] : List ByteArray)) (inner := [.string a0]) (ok := fun _ => True) (okp := fun _ => True) ?hr ?hp (fun _ hk => hk) trivial (Below.refl _ _) (Nat.le_refl _) (by simp) ?_; (case hd => rfl); (case hg => rfl); (case hr => first | (go_simp; done) | (go_simp; rfl)); (case hp => exact (Reps.one (show Kd.M Kd.string _ _ _ a0 [.string a0] from rfl) (Reps.none _ _))); intro v133 w23 ho24 hb hg_ hnew_; clear hg_ hnew_; (first | rw [← Ny132.out] at ho24 | (simp only [Int.reduceToNat] at ho24; rw [← Ny132.out] at ho24)); have n0_ := Aside0.mk (Kd.R_lower ho24 (below_size (qb HB))); have n1_ := Aside0.mk (below_step (qb HB) hb); clear HB; have HO134 := n0_; have HB := n1_; clear n0_ n1_; clear hb ho24; obtain ⟨Ao25, co25, eo25⟩ := Kd.R_slice HO134.out; subst eo25) | ((with_reducible refine gate_callee (f := 32) rfl ?_); refine goesL_ (some 7) rfl rfl Tryd.func32 (by kernel_rfl) rfl #[.slice Ao25 y132.length co25] rfl mq ?_; (with_reducible refine (impl_areTexts.calls _ _ y132 false _ ?side1 ?side2 A2.out).mono ?_); (case side1 => repeat (first | exact (Kd.R_reads' HO134.out).2.2 | (with_reducible refine Kd.C_alloc ?_ _) | (with_reducible refine Kd.C_drewN ?_ _) | (with_reducible refine Kd.C_drew ?_))); (case side2 => exact (Kd.R_reads' HO134.out).2.1); rintro e w26 ⟨rfl, hb⟩; refine ⟨_, rfl, ?_⟩; have n0_ := Aside0.mk (Kd.R_below (qr HO134) hb); have n1_ := Aside0.mk (below_step (qb HB) hb); clear HO134; clear HB; have HO134 := n0_; have HB := n1_; clear n0_ n1_; (try clear hb); (try clear hb2); (try clear hk); (try clear hi)))
  go_ret2; exact ⟨eqq, qb HB⟩

/-! ### laws_FnExactCheckDigit: function 4 -/
def laws_FnExactCheckDigit.f (k : Nat) (a0 : ByteArray) : Option (Bool) := if (a0.size : Int) > 1048576 then (some true) else ((spec_CheckDigit.f k a0).bind fun bt139 => ((impl_CheckDigit.f k a0).bind fun bt141 => (if bt141.1 = bt139.1 then (if bt141.2 = bt139.2 then (some true) else (some false)) else (some false))))
theorem laws_FnExactCheckDigit.mono : ∀ a0 k, LeO (laws_FnExactCheckDigit.f k a0) (laws_FnExactCheckDigit.f (k + 1) a0) := by
 intro a0 k; unfold laws_FnExactCheckDigit.f
 repeat' first
   | (with_reducible exact impl_CheckDigit.mono _ _)
   | (with_reducible exact spec_CheckDigit.mono _ _)
   | (with_reducible exact LeO.refl _)
   | (with_reducible exact LeO.none _)
   | (with_reducible refine LeO.ite ?_ ?_)
   | (with_reducible refine LeO.bind ?_ (fun _ => ?_))
   | exact impl_CheckDigit.mono _ _
   | exact spec_CheckDigit.mono _ _
   | exact LeO.none _
   | refine LeO.ite ?_ ?_
   | refine LeO.bind ?_ (fun _ => ?_)
set_option maxHeartbeats 8000000 in
set_option maxRecDepth 100000 in
theorem laws_FnExactCheckDigit.calls (k : Nat) (a0 : ByteArray) (r : Bool) (w : World) (h : laws_FnExactCheckDigit.f k a0 = some r) :
  Calls Tryd.prog 4 #[.string a0] w fun e w' => e = .returned (.bool r) ∧ Below w.heap.size w w' := by
 have HB := Aside0.mk (Below.refl w.heap.size w); have H : (if (a0.size : Int) > 1048576 then (some true) else ((spec_CheckDigit.f k a0).bind fun bt139 => ((impl_CheckDigit.f k a0).bind fun bt141 => (if bt141.1 = bt139.1 then (if bt141.2 = bt139.2 then (some true) else (some false)) else (some false))))) = some r := h; clear h; by_cases c2 : (a0.size : Int) > 1048576
 ·rw [if_pos c2] at H; have c2b0 : decide (1048576 < (a0.size : Int)) = true := decide_eq_true c2; have c2b1 : decide (1048576 < a0.size) = true := decide_eq_true (by omega); clear c2; obtain rfl := Option.some.inj H; go_enter Tryd.func4, Tryd.ntmps4; go_wp2; go_ret; exact ⟨eqq, qb HB⟩
 ·rw [if_neg c2] at H; have c2b0 : decide (1048576 < (a0.size : Int)) = false := decide_eq_false c2; have c2b1 : decide (1048576 < a0.size) = false := decide_eq_false (by omega); clear c2; replace H := Option.bind_eq_some_iff.mp H; obtain ⟨⟨t139, t140⟩, A30, H⟩ := H; replace H : ((impl_CheckDigit.f k a0).bind fun bt141 => (if bt141.1 = t139 then (if bt141.2 = t140 then (some true) else (some false)) else (some false))) = some r := H; have A3 := Aside0.mk A30; clear A30; replace H := Option.bind_eq_some_iff.mp H; obtain ⟨⟨t141, t142⟩, A40, H⟩ := H; replace H : (if t141 = t139 then (if t142 = t140 then (some true) else (some false)) else (some false)) = some r := H; have A4 := Aside0.mk A40; clear A40; by_cases c5 : t141 = t139
  ·rw [if_pos c5] at H; have c5b0 : (t141 == t139) = true := beq_iff_eq.mpr c5; have c5b1 : (t141 != t139) = false := bne_eq_false_iff_eq.mpr c5; clear c5; by_cases c6 : t142 = t140
   ·rw [if_pos c6] at H; have c6b0 : (t142 == t140) = true := beq_iff_eq.mpr c6; have c6b1 : (t142 != t140) = false := bne_eq_false_iff_eq.mpr c6; clear c6; obtain rfl := Option.some.inj H; go_enter Tryd.func4, Tryd.ntmps4
    go_wp2_with (first | ((with_reducible refine gate_callee (f := 11) rfl ?_); refine goesL_ (some 12) rfl rfl Tryd.func11 (by kernel_rfl) rfl #[.string a0] rfl mq ?_; (with_reducible refine (spec_CheckDigit.calls k a0 t139 t140 _ A3.out).mono ?_); rintro e w' ⟨rfl, ⟨nd, rfl⟩⟩; refine ⟨_, rfl, ?_⟩) | ((with_reducible refine gate_callee (f := 12) rfl ?_); refine goesL_ (some 17) rfl rfl Tryd.func12 (by kernel_rfl) rfl #[.string a0] rfl mq ?_; (with_reducible refine (impl_CheckDigit.calls k a0 t141 t142 _ A4.out).mono ?_); rintro e w7 ⟨rfl, hb⟩; refine ⟨_, rfl, ?_⟩; have n0_ := Aside0.mk (below_step (qb HB) hb); clear HB; have HB := n0_; clear n0_; (try clear hb); (try clear hb2); (try clear hk); (try clear hi)))
    go_ret; exact ⟨eqq, qb HB⟩
   ·rw [if_neg c6] at H; have c6b0 : (t142 == t140) = false := beq_eq_false_iff_ne.mpr c6; have c6b1 : (t142 != t140) = true := bne_iff_ne.mpr c6; obtain rfl := Option.some.inj H; go_enter Tryd.func4, Tryd.ntmps4
    go_wp2_with (first | ((with_reducible refine gate_callee (f := 11) rfl ?_); refine goesL_ (some 12) rfl rfl Tryd.func11 (by kernel_rfl) rfl #[.string a0] rfl mq ?_; (with_reducible refine (spec_CheckDigit.calls k a0 t139 t140 _ A3.out).mono ?_); rintro e w' ⟨rfl, ⟨nd, rfl⟩⟩; refine ⟨_, rfl, ?_⟩) | ((with_reducible refine gate_callee (f := 12) rfl ?_); refine goesL_ (some 17) rfl rfl Tryd.func12 (by kernel_rfl) rfl #[.string a0] rfl mq ?_; (with_reducible refine (impl_CheckDigit.calls k a0 t141 t142 _ A4.out).mono ?_); rintro e w8 ⟨rfl, hb⟩; refine ⟨_, rfl, ?_⟩; have n0_ := Aside0.mk (below_step (qb HB) hb); clear HB; have HB := n0_; clear n0_; (try clear hb); (try clear hb2); (try clear hk); (try clear hi)))
    go_ret; exact ⟨eqq, qb HB⟩
  ·rw [if_neg c5] at H; have c5b0 : (t141 == t139) = false := beq_eq_false_iff_ne.mpr c5; have c5b1 : (t141 != t139) = true := bne_iff_ne.mpr c5; obtain rfl := Option.some.inj H; go_enter Tryd.func4, Tryd.ntmps4
   go_wp2_with (first | ((with_reducible refine gate_callee (f := 11) rfl ?_); refine goesL_ (some 12) rfl rfl Tryd.func11 (by kernel_rfl) rfl #[.string a0] rfl mq ?_; (with_reducible refine (spec_CheckDigit.calls k a0 t139 t140 _ A3.out).mono ?_); rintro e w' ⟨rfl, ⟨nd, rfl⟩⟩; refine ⟨_, rfl, ?_⟩) | ((with_reducible refine gate_callee (f := 12) rfl ?_); refine goesL_ (some 17) rfl rfl Tryd.func12 (by kernel_rfl) rfl #[.string a0] rfl mq ?_; (with_reducible refine (impl_CheckDigit.calls k a0 t141 t142 _ A4.out).mono ?_); rintro e w9 ⟨rfl, hb⟩; refine ⟨_, rfl, ?_⟩; have n0_ := Aside0.mk (below_step (qb HB) hb); clear HB; have HB := n0_; clear n0_; (try clear hb); (try clear hb2); (try clear hk); (try clear hi)))
   go_ret; exact ⟨eqq, qb HB⟩

/-- THE ONE PURE STATEMENT of laws_FnExactCheckDigit: yours. -/
def laws_FnExactCheckDigit.Pure : Prop := ∀ (a0 : ByteArray), a0.size ≤ 140737488351232 → ∃ k, laws_FnExactCheckDigit.f k a0 = some true
theorem laws_FnExactCheckDigit.walk (P : laws_FnExactCheckDigit.Pure) (a0 : ByteArray) (w : World) (w0 : a0.size ≤ 140737488351232) :
  Calls Tryd.prog 4 #[.string a0] w fun e w' => e = .returned (.bool true) ∧ Below w.heap.size w w' := by
 obtain ⟨k, h⟩ := P a0 w0; refine (laws_FnExactCheckDigit.calls k a0 true w h).mono ?_; rintro e w' ⟨rfl, hd⟩; exact ⟨rfl, hd⟩

end Go.Proofs.YtdlfpjbhcpnpfaaDoor.PAll
