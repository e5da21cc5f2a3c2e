-- Written by wip/tools/hp.py over the kit's print (not by hand): functions and walks of All.
import Derived.Test.YtdlfpjbhcpnpfaaDoorPAllx0
namespace Go.Proofs.YtdlfpjbhcpnpfaaDoor.PAll
open Go.RowKit Go.Proofs.YtdlfpjbhcpnpfaaDoorW.PrintWords Go.Proofs.YtdlfpjbhcpnpfaaDoorW.PrintLast Go.Proofs.YtdlfpjbhcpnpfaaDoorW.PrintMore
attribute [local go_sem] max2_int min2_int max_two min_two max_three min_three max_four min_four   -- for this text's walks alone
set_option linter.unusedVariables false
set_option linter.unusedSimpArgs false

/-! ### spec_l02All: function 30 -/
def spec_l02All.l0 : Nat → ByteArray → Int → Option (Bool)
 | 0, _, _ => none
 | k + 1, x0, x3 => if x3 < (x0.size : Int) then (if 0 ≤ x3 then (if (bt x0 x3) < 48 then (some false) else (if (bt x0 x3) > 57 then (some false) else (spec_l02All.l0 k x0 (wrap64 (x3 + 1))))) else (none)) else (some true)
def spec_l02All.f (k : Nat) (a0 : ByteArray) : Option (Bool) := spec_l02All.l0 k a0 0
theorem spec_l02All.mono_l : ∀ k, (∀ y0 y1, LeO (spec_l02All.l0 k y0 y1) (spec_l02All.l0 (k + 1) y0 y1))
 | 0 => fun _ _ r h => by simp [spec_l02All.l0] at h
 | k + 1 => by
  have ih0 := spec_l02All.mono_l k
  ·intro y0 y1; unfold spec_l02All.l0
   repeat' first
   | (with_reducible exact ih0 _ _)
   | (with_reducible exact LeO.refl _)
   | (with_reducible exact LeO.none _)
   | (with_reducible refine LeO.ite ?_ ?_)
   | (with_reducible refine LeO.bind ?_ (fun _ => ?_))
   | exact ih0 _ _
   | exact LeO.none _
   | refine LeO.ite ?_ ?_
   | refine LeO.bind ?_ (fun _ => ?_)
theorem spec_l02All.mono : ∀ a0 k, LeO (spec_l02All.f k a0) (spec_l02All.f (k + 1) a0) := by
 intro a0 k; have ih0 := spec_l02All.mono_l k; unfold spec_l02All.f
 repeat' first
   | (with_reducible exact ih0 _ _)
   | (with_reducible exact LeO.refl _)
   | (with_reducible exact LeO.none _)
   | (with_reducible refine LeO.ite ?_ ?_)
   | (with_reducible refine LeO.bind ?_ (fun _ => ?_))
   | exact ih0 _ _
   | exact LeO.none _
   | refine LeO.ite ?_ ?_
   | refine LeO.bind ?_ (fun _ => ?_)
set_option maxHeartbeats 8000000 in
set_option maxRecDepth 100000 in
theorem spec_l02All.calls (k : Nat) (a0 : ByteArray) (r : Bool) (w : World) (h : spec_l02All.f k a0 = some r) :
  Calls Tryd.prog 30 #[.string a0] w fun e w' => e = .returned (.bool r) ∧ Drawn0 w w' := by
 have H : (spec_l02All.l0 k a0 0) = some r := h; clear h; have H' := Aside0.mk H; clear H; go_enter Tryd.func30, Tryd.ntmps30; go_wp2
 go_loopg [3] k (fun kq v3 w' => ∃ (x3_1 : Int), v3 = .int .i64 x3_1 ∧ Aside0 (spec_l02All.l0 kq a0 x3_1 = some r) ∧ Aside0 (kq ≤ k) ∧ Drawn0 w w')
 case atStart => exact ⟨(0), (by first | rfl | (simp; done) | (simp [*]; done)), H', ⟨Nat.le_refl _⟩, by repeat (first | exact Drawn0.refl _ | apply Drawn0.step)⟩
 case round =>
  clear H'; obtain ⟨x3_1, rfl, HA, HK1, ⟨m1, rfl⟩⟩ := hrel
  cases gk with
  | zero => exact absurd HA.out (by simp [spec_l02All.l0])
  | succ k1 =>
   have H := HA.out; clear HA; simp only [spec_l02All.l0] at H; by_cases c2 : x3_1 < (a0.size : Int)
   ·rw [if_pos c2] at H; have c2b0 : decide (x3_1 < (a0.size : Int)) = true := decide_eq_true c2; clear c2; by_cases c3 : 0 ≤ x3_1
    ·rw [if_pos c3] at H; have c3b0 : decide (0 ≤ x3_1) = true := decide_eq_true c3; clear c3; by_cases c5 : (bt a0 x3_1) < 48
     ·rw [if_pos c5] at H; have c5b0 : decide ((bt a0 x3_1) < 48) = true := decide_eq_true c5; clear c5; obtain rfl := Option.some.inj H; have p4 : 0 ≤ (x3_1 : Int) := of_decide_eq_true (by first | (with_reducible assumption) | assumption); have q4 : x3_1 < (a0.size : Int) := of_decide_eq_true (by first | (with_reducible assumption) | assumption); have hx4 := bt_at a0 x3_1; replace p4 := eq_true p4; replace q4 := eq_true q4; go_wp2; go_ret; exact ⟨by first | rfl | (simp; done) | (simp [*]; done), by repeat (first | exact Drawn0.refl _ | apply Drawn0.step)⟩
     ·rw [if_neg c5] at H; have c5b0 : decide ((bt a0 x3_1) < 48) = false := decide_eq_false c5; clear c5; by_cases c7 : (bt a0 x3_1) > 57
      ·rw [if_pos c7] at H; have c7b0 : decide (57 < (bt a0 x3_1)) = true := decide_eq_true c7; clear c7; obtain rfl := Option.some.inj H; have p4 : 0 ≤ (x3_1 : Int) := of_decide_eq_true (by first | (with_reducible assumption) | assumption); have q4 : x3_1 < (a0.size : Int) := of_decide_eq_true (by first | (with_reducible assumption) | assumption); have hx4 := bt_at a0 x3_1; replace p4 := eq_true p4; replace q4 := eq_true q4; have p6 : 0 ≤ (x3_1 : Int) := of_decide_eq_true (by first | (with_reducible assumption) | assumption); have q6 : x3_1 < (a0.size : Int) := of_decide_eq_true (by first | (with_reducible assumption) | assumption); have hx6 := bt_at a0 x3_1; replace p6 := eq_true p6; replace q6 := eq_true q6; go_wp2; go_ret; exact ⟨by first | rfl | (simp; done) | (simp [*]; done), by repeat (first | exact Drawn0.refl _ | apply Drawn0.step)⟩
      ·rw [if_neg c7] at H; have c7b0 : decide (57 < (bt a0 x3_1)) = false := decide_eq_false c7; clear c7; have H' := Aside0.mk H; clear H; have p4 : 0 ≤ (x3_1 : Int) := of_decide_eq_true (by first | (with_reducible assumption) | assumption); have q4 : x3_1 < (a0.size : Int) := of_decide_eq_true (by first | (with_reducible assumption) | assumption); have hx4 := bt_at a0 x3_1; replace p4 := eq_true p4; replace q4 := eq_true q4; have p6 : 0 ≤ (x3_1 : Int) := of_decide_eq_true (by first | (with_reducible assumption) | assumption); have q6 : x3_1 < (a0.size : Int) := of_decide_eq_true (by first | (with_reducible assumption) | assumption); have hx6 := bt_at a0 x3_1; replace p6 := eq_true p6; replace q6 := eq_true q6; go_wp2
       go_roundg k1
       case measure => have := HK1.out; omega
       case rel => exact ⟨(wrap64 (x3_1 + 1)), (by first | rfl | (simp; done) | (simp [*]; done)), H', ⟨by have := HK1.out; omega⟩, by repeat (first | exact Drawn0.refl _ | apply Drawn0.step)⟩
    ·rw [if_neg c3] at H; exact absurd H (by simp)
   ·rw [if_neg c2] at H; have c2b0 : decide (x3_1 < (a0.size : Int)) = false := decide_eq_false c2; clear c2; obtain rfl := Option.some.inj H; go_wp2; go_ret; exact ⟨by first | rfl | (simp; done) | (simp [*]; done), by repeat (first | exact Drawn0.refl _ | apply Drawn0.step)⟩

/-! ### spec_l02Check: function 31 -/
def spec_l02Check.l0 : Nat → ByteArray → Int → Int → Option (Int)
 | 0, _, _, _ => none
 | k + 1, x0, x3, x4 => if x4 < (x0.size : Int) then (if 0 ≤ (wrap64 ((wrap64 ((x0.size : Int) - 1)) - x4)) then (if (wrap64 ((wrap64 ((x0.size : Int) - 1)) - x4)) < (x0.size : Int) then (if (Int.tmod x4 2) = 0 then (spec_l02Check.l0 k x0 (wrap64 (x3 + (wrap64 (3 * (wrap64 ((wrap64 (bt x0 (wrap64 ((wrap64 ((x0.size : Int) - 1)) - x4)))) - 48)))))) (wrap64 (x4 + 1))) else (spec_l02Check.l0 k x0 (wrap64 (x3 + (wrap64 ((wrap64 (bt x0 (wrap64 ((wrap64 ((x0.size : Int) - 1)) - x4)))) - 48)))) (wrap64 (x4 + 1)))) else (none)) else (none)) else (some (Int.tmod (wrap64 (10 - (Int.tmod x3 10))) 10))
def spec_l02Check.f (k : Nat) (a0 : ByteArray) : Option (Int) := spec_l02Check.l0 k a0 0 0
theorem spec_l02Check.mono_l : ∀ k, (∀ y0 y1 y2, LeO (spec_l02Check.l0 k y0 y1 y2) (spec_l02Check.l0 (k + 1) y0 y1 y2))
 | 0 => fun _ _ _ r h => by simp [spec_l02Check.l0] at h
 | k + 1 => by
  have ih0 := spec_l02Check.mono_l k
  ·intro y0 y1 y2; unfold spec_l02Check.l0
   repeat' first
   | (with_reducible exact ih0 _ _ _)
   | (with_reducible exact LeO.refl _)
   | (with_reducible exact LeO.none _)
   | (with_reducible refine LeO.ite ?_ ?_)
   | (with_reducible refine LeO.bind ?_ (fun _ => ?_))
   | exact ih0 _ _ _
   | exact LeO.none _
   | refine LeO.ite ?_ ?_
   | refine LeO.bind ?_ (fun _ => ?_)
theorem spec_l02Check.mono : ∀ a0 k, LeO (spec_l02Check.f k a0) (spec_l02Check.f (k + 1) a0) := by
 intro a0 k; have ih0 := spec_l02Check.mono_l k; unfold spec_l02Check.f
 repeat' first
   | (with_reducible exact ih0 _ _ _)
   | (with_reducible exact LeO.refl _)
   | (with_reducible exact LeO.none _)
   | (with_reducible refine LeO.ite ?_ ?_)
   | (with_reducible refine LeO.bind ?_ (fun _ => ?_))
   | exact ih0 _ _ _
   | exact LeO.none _
   | refine LeO.ite ?_ ?_
   | refine LeO.bind ?_ (fun _ => ?_)
set_option maxHeartbeats 8000000 in
set_option maxRecDepth 100000 in
theorem spec_l02Check.calls (k : Nat) (a0 : ByteArray) (r : Int) (w : World) (h : spec_l02Check.f k a0 = some r) :
  Calls Tryd.prog 31 #[.string a0] w fun e w' => e = .returned (.int .i64 r) ∧ Drawn0 w w' := by
 have H : (spec_l02Check.l0 k a0 0 0) = some r := h; clear h; have H' := Aside0.mk H; clear H; go_enter Tryd.func31, Tryd.ntmps31; go_wp2
 go_loopg [3, 4] k (fun kq v3 v4 w' => ∃ (x3_1 : Int) (x4_1 : Int), v3 = .int .i64 x3_1 ∧ v4 = .int .i64 x4_1 ∧ Aside0 (spec_l02Check.l0 kq a0 x3_1 x4_1 = some r) ∧ Aside0 (kq ≤ k) ∧ Drawn0 w w')
 case atStart => exact ⟨(0), (0), (by first | rfl | (simp; done) | (simp [*]; done)), (by first | rfl | (simp; done) | (simp [*]; done)), H', ⟨Nat.le_refl _⟩, by repeat (first | exact Drawn0.refl _ | apply Drawn0.step)⟩
 case round =>
  clear H'; obtain ⟨x3_1, x4_1, rfl, rfl, HA, HK1, ⟨m1, rfl⟩⟩ := hrel
  cases gk with
  | zero => exact absurd HA.out (by simp [spec_l02Check.l0])
  | succ k1 =>
   have H := HA.out; clear HA; simp only [spec_l02Check.l0] at H; by_cases c2 : x4_1 < (a0.size : Int)
   ·rw [if_pos c2] at H; have c2b0 : decide (x4_1 < (a0.size : Int)) = true := decide_eq_true c2; clear c2; obtain ⟨ji3, hji3⟩ : ∃ j_ : Int, (wrap64 ((wrap64 ((a0.size : Int) - 1)) - x4_1)) = j_ := ⟨_, rfl⟩
    replace H : (if 0 ≤ (ji3) then (if (ji3) < (a0.size : Int) then (if (Int.tmod x4_1 2) = 0 then (spec_l02Check.l0 k1 a0 (wrap64 (x3_1 + (wrap64 (3 * (wrap64 ((wrap64 (bt a0 (ji3))) - 48)))))) (wrap64 (x4_1 + 1))) else (spec_l02Check.l0 k1 a0 (wrap64 (x3_1 + (wrap64 ((wrap64 (bt a0 (ji3))) - 48)))) (wrap64 (x4_1 + 1)))) else (none)) else (none)) = some r := by first | (rw [hji3] at H; exact H) | (simp only [hji3] at H ⊢; exact H)
    have hji3w : (IntKind.i64.wrap ((wrap64 ((a0.size : Int) - 1)) - x4_1)) = ji3 := (i64_w _).trans hji3; by_cases c4 : 0 ≤ (ji3)
    ·rw [if_pos c4] at H; have c4b0 : decide (0 ≤ (ji3)) = true := decide_eq_true c4; clear c4; by_cases c5 : (ji3) < (a0.size : Int)
     ·rw [if_pos c5] at H; have c5b0 : decide ((ji3) < (a0.size : Int)) = true := decide_eq_true c5; clear c5; by_cases c7 : (Int.tmod x4_1 2) = 0
      ·rw [if_pos c7] at H; have c7b0 : ((Int.tmod x4_1 2) == 0) = true := beq_iff_eq.mpr c7; have c7b1 : ((Int.tmod x4_1 2) != 0) = false := bne_eq_false_iff_eq.mpr c7; clear c7; have H' := Aside0.mk H; clear H; have p6 : 0 ≤ ((ji3) : Int) := of_decide_eq_true (by first | (with_reducible assumption) | assumption); have q6 : (ji3) < (a0.size : Int) := of_decide_eq_true (by first | (with_reducible assumption) | assumption); have hx6 := bt_at a0 (ji3); replace p6 := eq_true p6; replace q6 := eq_true q6; go_wp2
       go_roundg k1
       case measure => have := HK1.out; omega
       case rel => exact ⟨(wrap64 (x3_1 + (wrap64 (3 * (wrap64 ((wrap64 (bt a0 (ji3))) - 48)))))), (wrap64 (x4_1 + 1)), (by first | rfl | (simp; done) | (simp only [← hji3] <;> (first | rfl | simp)) | (simp [*]; done)), (by first | rfl | (simp; done) | (simp [*]; done)), H', ⟨by have := HK1.out; omega⟩, by repeat (first | exact Drawn0.refl _ | apply Drawn0.step)⟩
      ·rw [if_neg c7] at H; have c7b0 : ((Int.tmod x4_1 2) == 0) = false := beq_eq_false_iff_ne.mpr c7; have c7b1 : ((Int.tmod x4_1 2) != 0) = true := bne_iff_ne.mpr c7; have H' := Aside0.mk H; clear H; have p6 : 0 ≤ ((ji3) : Int) := of_decide_eq_true (by first | (with_reducible assumption) | assumption); have q6 : (ji3) < (a0.size : Int) := of_decide_eq_true (by first | (with_reducible assumption) | assumption); have hx6 := bt_at a0 (ji3); replace p6 := eq_true p6; replace q6 := eq_true q6; go_wp2
       go_roundg k1
       case measure => have := HK1.out; omega
       case rel => exact ⟨(wrap64 (x3_1 + (wrap64 ((wrap64 (bt a0 (ji3))) - 48)))), (wrap64 (x4_1 + 1)), (by first | rfl | (simp; done) | (simp only [← hji3] <;> (first | rfl | simp)) | (simp [*]; done)), (by first | rfl | (simp; done) | (simp [*]; done)), H', ⟨by have := HK1.out; omega⟩, by repeat (first | exact Drawn0.refl _ | apply Drawn0.step)⟩
     ·rw [if_neg c5] at H; exact absurd H (by simp)
    ·rw [if_neg c4] at H; exact absurd H (by simp)
   ·rw [if_neg c2] at H; have c2b0 : decide (x4_1 < (a0.size : Int)) = false := decide_eq_false c2; clear c2; obtain rfl := Option.some.inj H; go_wp2; go_ret; exact ⟨by first | rfl | (simp; done) | (simp [*]; done), by repeat (first | exact Drawn0.refl _ | apply Drawn0.step)⟩

/-! ### spec_CheckDigit: function 11 -/
def spec_CheckDigit.f (k : Nat) (a0 : ByteArray) : Option (Int × Int) := if (a0.size : Int) > 65536 then (some (0, 2)) else (if (a0.size : Int) < 1 then (some (0, 4)) else (if (a0.size : Int) > 17 then (some (0, 4)) else ((spec_l02All.f k a0).bind fun t128 => (if t128 = true then ((spec_l02Check.f k a0).bind fun t129 => (some (t129, 0))) else (some (0, 4))))))
theorem spec_CheckDigit.mono : ∀ a0 k, LeO (spec_CheckDigit.f k a0) (spec_CheckDigit.f (k + 1) a0) := by
 intro a0 k; unfold spec_CheckDigit.f
 repeat' first
   | (with_reducible exact spec_l02All.mono _ _)
   | (with_reducible exact spec_l02Check.mono _ _)
   | (with_reducible exact LeO.refl _)
   | (with_reducible exact LeO.none _)
   | (with_reducible refine LeO.ite ?_ ?_)
   | (with_reducible refine LeO.bind ?_ (fun _ => ?_))
   | exact spec_l02All.mono _ _
   | exact spec_l02Check.mono _ _
   | exact LeO.none _
   | refine LeO.ite ?_ ?_
   | refine LeO.bind ?_ (fun _ => ?_)
set_option maxHeartbeats 8000000 in
set_option maxRecDepth 100000 in
theorem spec_CheckDigit.calls (k : Nat) (a0 : ByteArray) (r1 : Int) (r2 : Int) (w : World) (h : spec_CheckDigit.f k a0 = some (r1, r2)) :
  Calls Tryd.prog 11 #[.string a0] w fun e w' => e = .returned (.tuple #[.int .i64 r1, .int .i64 r2]) ∧ Drawn0 w w' := by
 have H : (if (a0.size : Int) > 65536 then (some (0, 2)) else (if (a0.size : Int) < 1 then (some (0, 4)) else (if (a0.size : Int) > 17 then (some (0, 4)) else ((spec_l02All.f k a0).bind fun t128 => (if t128 = true then ((spec_l02Check.f k a0).bind fun t129 => (some (t129, 0))) else (some (0, 4))))))) = some (r1, r2) := h; clear h; by_cases c2 : (a0.size : Int) > 65536
 ·rw [if_pos c2] at H; have c2b0 : decide (65536 < (a0.size : Int)) = true := decide_eq_true c2; have c2b1 : decide (65536 < a0.size) = true := decide_eq_true (by omega); clear c2; simp only [Option.some.injEq, Prod.mk.injEq] at H; obtain ⟨rfl, rfl⟩ := H; go_enter Tryd.func11, Tryd.ntmps11; go_wp2; go_ret2; exact ⟨by first | rfl | (simp; done) | (simp [*]; done), by repeat (first | exact Drawn0.refl _ | apply Drawn0.step)⟩
 ·rw [if_neg c2] at H; have c2b0 : decide (65536 < (a0.size : Int)) = false := decide_eq_false c2; have c2b1 : decide (65536 < a0.size) = false := decide_eq_false (by omega); clear c2; by_cases c3 : (a0.size : Int) < 1
  ·rw [if_pos c3] at H; have c3b0 : decide ((a0.size : Int) < 1) = true := decide_eq_true c3; have c3b1 : decide (a0.size < 1) = true := decide_eq_true (by omega); clear c3; simp only [Option.some.injEq, Prod.mk.injEq] at H; obtain ⟨rfl, rfl⟩ := H; go_enter Tryd.func11, Tryd.ntmps11; go_wp2; go_ret2; exact ⟨by first | rfl | (simp; done) | (simp [*]; done), by repeat (first | exact Drawn0.refl _ | apply Drawn0.step)⟩
  ·rw [if_neg c3] at H; have c3b0 : decide ((a0.size : Int) < 1) = false := decide_eq_false c3; have c3b1 : decide (a0.size < 1) = false := decide_eq_false (by omega); clear c3; by_cases c4 : (a0.size : Int) > 17
   ·rw [if_pos c4] at H; have c4b0 : decide (17 < (a0.size : Int)) = true := decide_eq_true c4; have c4b1 : decide (17 < a0.size) = true := decide_eq_true (by omega); clear c4; simp only [Option.some.injEq, Prod.mk.injEq] at H; obtain ⟨rfl, rfl⟩ := H; go_enter Tryd.func11, Tryd.ntmps11; go_wp2; go_ret2; exact ⟨by first | rfl | (simp; done) | (simp [*]; done), by repeat (first | exact Drawn0.refl _ | apply Drawn0.step)⟩
   ·rw [if_neg c4] at H; have c4b0 : decide (17 < (a0.size : Int)) = false := decide_eq_false c4; have c4b1 : decide (17 < a0.size) = false := decide_eq_false (by omega); clear c4; replace H := Option.bind_eq_some_iff.mp H; obtain ⟨t128, A50, H⟩ := H; replace H : (if t128 = true then ((spec_l02Check.f k a0).bind fun t129 => (some (t129, 0))) else (some (0, 4))) = some (r1, r2) := H; have A5 := Aside0.mk A50; clear A50; by_cases c6 : t128 = true
    ·subst c6
     have H1 : ((spec_l02Check.f k a0).bind fun t129 => (some (t129, 0))) = some (r1, r2) := by rw [if_pos rfl] at H; exact H
     clear H; have H := H1; clear H1; replace H := Option.bind_eq_some_iff.mp H; obtain ⟨t129, A70, H⟩ := H; replace H : (some (t129, 0)) = some (r1, r2) := H; have A7 := Aside0.mk A70; clear A70; simp only [Option.some.injEq, Prod.mk.injEq] at H; obtain ⟨rfl, rfl⟩ := H; go_enter Tryd.func11, Tryd.ntmps11
     go_wp2_with (first | (go_at_call 30; (with_reducible refine (spec_l02All.calls k a0 true _ A5.out).mono ?_); rintro e w' ⟨rfl, ⟨nd, rfl⟩⟩) | ((with_reducible refine gate_callee (f := 31) rfl ?_); refine goesL_ (some 21) rfl rfl Tryd.func31 (by kernel_rfl) rfl #[.string a0] rfl mq ?_; (with_reducible refine (spec_l02Check.calls k a0 t129 _ A7.out).mono ?_); rintro e w' ⟨rfl, ⟨nd, rfl⟩⟩; refine ⟨_, rfl, ?_⟩))
     go_ret2; exact ⟨by first | rfl | (simp; done) | (simp [*]; done), by repeat (first | exact Drawn0.refl _ | apply Drawn0.step)⟩
    ·replace c6 := Bool.eq_false_iff.mpr c6; subst c6
     have H1 : (some (0, 4)) = some (r1, r2) := by rw [if_neg (show ¬ (false = true) by decide)] at H; exact H
     clear H; have H := H1; clear H1; simp only [Option.some.injEq, Prod.mk.injEq] at H; obtain ⟨rfl, rfl⟩ := H; go_enter Tryd.func11, Tryd.ntmps11
     go_wp2_with (first | (go_at_call 30; (with_reducible refine (spec_l02All.calls k a0 false _ A5.out).mono ?_); rintro e w' ⟨rfl, ⟨nd, rfl⟩⟩))
     go_ret2; exact ⟨by first | rfl | (simp; done) | (simp [*]; done), by repeat (first | exact Drawn0.refl _ | apply Drawn0.step)⟩

/-! ### slices_IndexFunc_string_string: function 67, by hand, over whatever function value -/
def slices_IndexFunc_string_string.f (p : ByteArray → Option Bool) : List ByteArray → Int → Option Int
 | [], _ => some (-1)
 | x :: xs, i => (p x).bind fun b => if b = true then some i else slices_IndexFunc_string_string.f p xs (i + 1)
theorem slices_IndexFunc_string_string.cons (p : ByteArray → Option Bool) (x : ByteArray) (xs : List ByteArray) (i : Int) : slices_IndexFunc_string_string.f p (x :: xs) i = (p x).bind fun b => if b = true then some i else slices_IndexFunc_string_string.f p xs (i + 1) := rfl
theorem slices_IndexFunc_string_string.mono (p q : ByteArray → Option Bool) (h : ∀ x, LeO (p x) (q x)) : ∀ l i, LeO (slices_IndexFunc_string_string.f p l i) (slices_IndexFunc_string_string.f q l i)
 | [], _ => LeO.refl _
 | x :: xs, i => LeO.bind (h x) (fun b => LeO.ite (LeO.refl _) (slices_IndexFunc_string_string.mono p q h xs (i + 1)))
set_option maxHeartbeats 8000000 in
set_option maxRecDepth 100000 in
theorem slices_IndexFunc_string_string.calls (p : ByteArray → Option Bool) (l0 : List ByteArray) (A0 : Option Addr) (c0 : Nat) (g : Nat) (lb : Array Value) (r : Int) (w : World) (eg : ∀ args w, (callFunc g args).run Tryd.prog w = .ok (.enter g args) w)
  (hp : ∀ (W_ : World) (x_ : ByteArray) (b_ : Bool), Below w.heap.size w W_ → p x_ = some b_ → Calls Tryd.prog g (#[.string x_] ++ lb) W_ fun e w' => e = .returned (.bool b_) ∧ Below W_.heap.size W_ w')
  (hr0 : Kd.C Kd.string w A0 l0.length l0) (hc0 : l0.length ≤ c0) (h : slices_IndexFunc_string_string.f p l0 0 = some r) :
  Calls Tryd.prog 67 #[.slice A0 l0.length c0, .func (.func g) #[] lb] w fun e w' => e = .returned (.int .i64 r) ∧ Below w.heap.size w w' := by
 have hbig : l0.length ≤ 9223372036854775807 := hr0.2.1; have HP := Aside0.mk hp; have HR := Aside0.mk hr0; have H := Aside0.mk h; clear hp hr0 h; go_enter Tryd.func67, Tryd.ntmps67; go_wp2
 go_loopg [5, 8] l0.length (fun gg _ s8 wr => ∃ kk : Nat, kk ≤ l0.length ∧ l0.length - kk ≤ gg ∧ s8 = .int .i64 kk ∧ Aside0 (Below w.heap.size w wr) ∧ Aside0 (slices_IndexFunc_string_string.f p (l0.drop kk) kk = some r))
 case atStart => exact ⟨0, Nat.zero_le _, by omega, rfl, ⟨Below.refl _ w⟩, ⟨H.out⟩⟩
 case round =>
  obtain ⟨kk, hkk, hg, rfl, BW, HF⟩ := hrel; by_cases hlt : kk < l0.length
  ·have hltz : (kk : Int) < (l0.length : Int) := by omega
   have hf := HF.out
   have hcons : l0.drop kk = rdOf ByteArray.empty l0 (kk : Int) :: l0.drop (kk + 1) := by
    rw [List.drop_eq_getElem_cons hlt]
    congr 1
    unfold rdOf; rw [Int.toNat_natCast, List.getD_eq_getElem?_getD, List.getElem?_eq_getElem hlt]; rfl
   obtain ⟨ad, rfl, hx0⟩ := Kd.at_string (Kd.C_below HR.out BW.out) (kk : Int) (by omega) hltz; rw [hcons, slices_IndexFunc_string_string.cons] at hf; clear hcons; simp only [Int.toNat_natCast] at hx0; generalize hxx : rdOf ByteArray.empty l0 (kk : Int) = x_ at *; have HX := Aside0.mk hxx; clear hxx; obtain ⟨b, hb, hf2⟩ := Option.bind_eq_some_iff.mp hf; have hcall := HP.out wr x_ b BW.out hb; have HB := Aside0.mk hb; have HF2 := Aside0.mk hf2; clear hf hb hf2
   cases b with
   | true =>
    go_wp2_with (go_at_fn g; refine hcall.mono ?_; rintro e w' ⟨rfl, hb'⟩)
    go_ret; have hr_ := HF2.out; simp only [if_true, Option.some.injEq] at hr_; exact ⟨by rw [← hr_]; rfl, BW.out.trans (hb'.mono BW.out.size)⟩
   | false =>
    go_wp2_with (go_at_fn g; refine hcall.mono ?_; rintro e w' ⟨rfl, hb'⟩)
    go_roundg (l0.length - (kk + 1))
    case measure => omega
    case rel =>
     have hr_ := HF2.out; simp only [Bool.false_eq_true, if_false] at hr_; exact ⟨kk + 1, by omega, by omega, by go_num, ⟨BW.out.trans (hb'.mono BW.out.size)⟩, ⟨by rw [show ((kk + 1 : Nat) : Int) = (kk : Int) + 1 by omega]; exact hr_⟩⟩
  ·have hltz : ¬ (kk : Int) < (l0.length : Int) := by omega
   have : kk = l0.length := by omega
   subst this; have hf := HF.out; rw [List.drop_length] at hf; have hr_ : -1 = r := Option.some.inj hf; have HX := Aside0.mk hr_; clear hf hr_; go_wp2; go_ret; exact ⟨by rw [← HX.out]; rfl, BW.out⟩

/-! ### slices_ContainsFunc_string_string: function 55, by hand, over whatever function value -/
def slices_ContainsFunc_string_string.f (p : ByteArray → Option Bool) (l : List ByteArray) : Option Bool := (slices_IndexFunc_string_string.f p l 0).bind fun i => some (decide (i ≥ 0))
theorem slices_ContainsFunc_string_string.mono (p q : ByteArray → Option Bool) (h : ∀ x, LeO (p x) (q x)) (l : List ByteArray) : LeO (slices_ContainsFunc_string_string.f p l) (slices_ContainsFunc_string_string.f q l) := LeO.bind (slices_IndexFunc_string_string.mono p q h l 0) (fun _ => LeO.refl _)
set_option maxHeartbeats 8000000 in
set_option maxRecDepth 100000 in
theorem slices_ContainsFunc_string_string.calls (p : ByteArray → Option Bool) (l0 : List ByteArray) (A0 : Option Addr) (c0 : Nat) (g : Nat) (lb : Array Value) (r : Bool) (w : World) (eg : ∀ args w, (callFunc g args).run Tryd.prog w = .ok (.enter g args) w)
  (hp : ∀ (W_ : World) (x_ : ByteArray) (b_ : Bool), Below w.heap.size w W_ → p x_ = some b_ → Calls Tryd.prog g (#[.string x_] ++ lb) W_ fun e w' => e = .returned (.bool b_) ∧ Below W_.heap.size W_ w')
  (hr0 : Kd.C Kd.string w A0 l0.length l0) (hc0 : l0.length ≤ c0) (h : slices_ContainsFunc_string_string.f p l0 = some r) :
  Calls Tryd.prog 55 #[.slice A0 l0.length c0, .func (.func g) #[] lb] w fun e w' => e = .returned (.bool r) ∧ Below w.heap.size w w' := by
 obtain ⟨i, hi, h2⟩ := Option.bind_eq_some_iff.mp h; have hr_ : decide (i ≥ 0) = r := Option.some.inj h2; have C := slices_IndexFunc_string_string.calls p l0 A0 c0 g lb i w eg hp hr0 hc0 hi; have HR_ := Aside0.mk hr_; clear h hi h2 hp hr_; by_cases hpos : 0 ≤ i
 ·have hd : decide (0 ≤ i) = true := decide_eq_true hpos; go_enter Tryd.func55, Tryd.ntmps55
  go_wp2_with (go_at_call 67; refine C.mono ?_; rintro e w' ⟨rfl, hb'⟩)
  go_ret; exact ⟨by rw [← HR_.out, decide_eq_true (show i ≥ 0 by omega)]; rfl, hb'⟩
 ·have hd : decide (0 ≤ i) = false := decide_eq_false hpos; go_enter Tryd.func55, Tryd.ntmps55
  go_wp2_with (go_at_call 67; refine C.mono ?_; rintro e w' ⟨rfl, hb'⟩)
  go_ret; exact ⟨by rw [← HR_.out, decide_eq_false (show ¬ i ≥ 0 by omega)]; rfl, hb'⟩

/-! ### impl_areTexts_1: function 56 -/
def impl_areTexts_1.f (a0 : ByteArray) : Option (Bool) := some (decide ((a0.size : Int) > 65536))
set_option maxHeartbeats 8000000 in
set_option maxRecDepth 100000 in
theorem impl_areTexts_1.calls (a0 : ByteArray) (r : Bool) (w : World) (h : impl_areTexts_1.f a0 = some r) :
  Calls Tryd.prog 56 #[.string a0] w fun e w' => e = .returned (.bool r) ∧ Drawn0 w w' := by
 have H : (some (decide ((a0.size : Int) > 65536))) = some r := h; clear h; obtain rfl := Option.some.inj H; go_enter Tryd.func56, Tryd.ntmps56; go_wp2; go_ret; exact ⟨by first | rfl | (simp; done) | (simp [*]; done), by repeat (first | exact Drawn0.refl _ | apply Drawn0.step)⟩

/-! ### slices_ContainsFunc_string_string_impl_areTexts_1: function 55 at function 56 -/
def slices_ContainsFunc_string_string_impl_areTexts_1.f (l0 : List ByteArray) : Option Bool := slices_ContainsFunc_string_string.f (fun x_ => impl_areTexts_1.f x_) l0
set_option maxHeartbeats 8000000 in
set_option maxRecDepth 100000 in
theorem slices_ContainsFunc_string_string_impl_areTexts_1.calls (A0 : Option Addr) (c0 : Nat) (l0 : List ByteArray) (r : Bool) (w : World) (hr0 : Kd.C Kd.string w A0 l0.length l0) (hc0 : l0.length ≤ c0) (h : slices_ContainsFunc_string_string_impl_areTexts_1.f l0 = some r) :
    Calls Tryd.prog 55 #[.slice A0 l0.length c0, .func (.func 56) #[] #[]] w fun e w' => e = .returned (.bool r) ∧ Below w.heap.size w w' :=
  slices_ContainsFunc_string_string.calls (fun x_ => impl_areTexts_1.f x_) l0 A0 c0 56 #[] r w (fun args w => enters_of Tryd.func56 (by kernel_rfl) rfl args w)
    (fun W_ x_ b_ hW_ hb_ => (impl_areTexts_1.calls (a0 := x_) (r := b_) (w := W_) (h := hb_)).mono fun e w' hq => ⟨hq.1, by first | exact hq.2 | exact hq.2.below⟩)
    hr0 hc0 h

/-! ### impl_areTexts: function 32 -/
def impl_areTexts.f (l0 : List ByteArray) : Option (Bool) := (slices_ContainsFunc_string_string_impl_areTexts_1.f l0).bind fun t130 => (some (!t130))
set_option maxHeartbeats 8000000 in
set_option maxRecDepth 100000 in
theorem impl_areTexts.calls (A0 : Option Addr) (c0 : Nat) (l0 : List ByteArray) (r : Bool) (w : World) (hr0 : Kd.C Kd.string w A0 l0.length l0) (hc0 : l0.length ≤ c0) (h : impl_areTexts.f l0 = some r) :
  Calls Tryd.prog 32 #[.slice A0 l0.length c0] w fun e w' => e = .returned (.bool r) ∧ Below w.heap.size w w' := by
 have HR0 := Aside0.mk hr0; have HC0 := Aside0.mk hc0; clear hr0 hc0; have HB := Aside0.mk (Below.refl w.heap.size w); have H : ((slices_ContainsFunc_string_string_impl_areTexts_1.f l0).bind fun t130 => (some (!t130))) = some r := h; clear h; replace H := Option.bind_eq_some_iff.mp H; obtain ⟨t130, A20, H⟩ := H; replace H : (some (!t130)) = some r := H; have A2 := Aside0.mk A20; clear A20; obtain rfl := Option.some.inj H; go_enter Tryd.func32, Tryd.ntmps32
 go_wp2_with (first | ((with_reducible refine gate_callee (f := 55) rfl ?_); refine goesL_ (some 4) rfl rfl Tryd.func55 (by kernel_rfl) rfl #[.slice A0 l0.length c0, .func (.func 56) #[] #[]] rfl mq ?_; (with_reducible refine (slices_ContainsFunc_string_string_impl_areTexts_1.calls _ _ l0 t130 _ ?side1 ?side2 A2.out).mono ?_); (case side1 => repeat (first | exact HR0.out | (with_reducible refine Kd.C_alloc ?_ _) | (with_reducible refine Kd.C_drewN ?_ _) | (with_reducible refine Kd.C_drew ?_))); (case side2 => exact HC0.out); rintro e w3 ⟨rfl, hb⟩; refine ⟨_, rfl, ?_⟩; have n0_ := Aside0.mk (below_step (qb HB) hb); clear HB; have HB := n0_; clear n0_; (try clear hb); (try clear hb2); (try clear hk); (try clear hi)))
 go_ret; exact ⟨eqq, qb HB⟩

/-! ### strings_Trim: function 57, by hand, off the shelf: a cutset of ASCII bytes -/
def strings_Trim.f (a0 a1 : ByteArray) : Option ByteArray := if a0.size ≤ 9223372036854775807 ∧ a1.size < 4294967281 ∧ a1.data.toList.all (fun b => decide (b.toNat < 128)) = true then some ⟨(Lib.trimS a0.data.toList a1.data.toList).toArray⟩ else none
theorem strings_Trim.calls (a0 a1 : ByteArray) (r : ByteArray) (w : World) (h : strings_Trim.f a0 a1 = some r) :
  Calls Tryd.prog 57 #[.string a0, .string a1] w fun e w' => e = .returned (.string r) ∧ Below w.heap.size w w' := by
 unfold strings_Trim.f at h
 split at h
 ·rename_i hr
  obtain rfl := Option.some.inj h; exact Any.strings_Trim_laid Tryd.lays160 (by kernel_rfl) a0 a1 w hr.1 hr.2.1 (ascii_of_all hr.2.2)
 ·cases h

end Go.Proofs.YtdlfpjbhcpnpfaaDoor.PAll
