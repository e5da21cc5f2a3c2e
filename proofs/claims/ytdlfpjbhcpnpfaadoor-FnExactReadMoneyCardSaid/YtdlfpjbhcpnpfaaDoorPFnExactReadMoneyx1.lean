-- Written by wip/tools/hp.py over the kit's print (not by hand): functions and walks of FnExactReadMoney.
import Derived.Test.YtdlfpjbhcpnpfaaDoorPFnExactReadMoneyx0
namespace Go.Proofs.YtdlfpjbhcpnpfaaDoor.PFnExactReadMoney
open Go.RowKit Go.Proofs.YtdlfpjbhcpnpfaaDoorW.PrintWords Go.Proofs.YtdlfpjbhcpnpfaaDoorW.PrintLast Go.Proofs.YtdlfpjbhcpnpfaaDoorW.PrintMore
attribute [local go_sem] max2_int min2_int max_two min_two max_three min_three max_four min_four   -- for this text's walks alone
set_option linter.unusedVariables false
set_option linter.unusedSimpArgs false

/-! ### spec_l01In: function 37 -/
def spec_l01In.f (a0 : Int) (a1 : Int) (a2 : Int) : Option (Bool) := if a0 ≥ a1 then (some (decide (a0 ≤ a2))) else (some false)
set_option maxHeartbeats 8000000 in
set_option maxRecDepth 100000 in
theorem spec_l01In.calls (a0 : Int) (a1 : Int) (a2 : Int) (r : Bool) (w : World) (h : spec_l01In.f a0 a1 a2 = some r) :
  Calls Tryd.prog 37 #[.int .i64 a0, .int .i64 a1, .int .i64 a2] w fun e w' => e = .returned (.bool r) ∧ Drawn0 w w' := by
 have H : (if a0 ≥ a1 then (some (decide (a0 ≤ a2))) else (some false)) = some r := h; clear h; by_cases c4 : a0 ≥ a1
 ·rw [if_pos c4] at H; have c4b0 : decide (a1 ≤ a0) = true := decide_eq_true c4; clear c4; obtain rfl := Option.some.inj H; go_enter Tryd.func37, Tryd.ntmps37; go_wp2; go_ret; exact ⟨by first | rfl | (simp; done) | (simp [*]; done), by repeat (first | exact Drawn0.refl _ | apply Drawn0.step)⟩
 ·rw [if_neg c4] at H; have c4b0 : decide (a1 ≤ a0) = false := decide_eq_false c4; clear c4; obtain rfl := Option.some.inj H; go_enter Tryd.func37, Tryd.ntmps37; go_wp2; go_ret; exact ⟨by first | rfl | (simp; done) | (simp [*]; done), by repeat (first | exact Drawn0.refl _ | apply Drawn0.step)⟩

/-! ### spec_l00Number: function 40 -/
mutual
def spec_l00Number.j0 : Nat → ByteArray → Int → Bool → Option (Int × Bool)
 | 0, _, _, _ => none
 | k + 1, x0, x4, x14 => if x14 = true then (if 1 ≤ (x0.size : Int) then (spec_l00Number.j1 k (x0.extract 1 x0.size) (-1)) else (none)) else (spec_l00Number.j1 k x0 x4)
def spec_l00Number.j1 : Nat → ByteArray → Int → Option (Int × Bool)
 | 0, _, _ => none
 | k + 1, x0, x4 => if (x0.size : Int) = 0 then (spec_l00Number.j2 k x0 x4 true) else (if (x0.size : Int) > 18 then (spec_l00Number.j2 k x0 x4 true) else (if 0 < (x0.size : Int) then (if (bt x0 0) = 48 then (if (x0.size : Int) > 1 then (spec_l00Number.j2 k x0 x4 true) else (spec_l00Number.j2 k x0 x4 (decide (x4 < 0)))) else (spec_l00Number.j2 k x0 x4 false)) else (none)))
def spec_l00Number.j2 : Nat → ByteArray → Int → Bool → Option (Int × Bool)
 | 0, _, _, _ => none
 | k + 1, x0, x4, x38 => if x38 = true then (some (0, false)) else (spec_l00Number.l0 k x0 x4 0 0)
def spec_l00Number.l0 : Nat → ByteArray → Int → Int → Int → Option (Int × Bool)
 | 0, _, _, _, _ => none
 | k + 1, x0, x4, x5, x6 => if x6 < (x0.size : Int) then (if 0 ≤ x6 then (if (bt x0 x6) < 48 then (some (0, false)) else (if (bt x0 x6) > 57 then (some (0, false)) else (spec_l00Number.l0 k x0 x4 (wrap64 ((wrap64 ((wrap64 (x5 * 10)) + (wrap64 (bt x0 x6)))) - 48)) (wrap64 (x6 + 1))))) else (none)) else (some (wrap64 (x4 * x5), true))
end
def spec_l00Number.f (k : Nat) (a0 : ByteArray) : Option (Int × Bool) := if (a0.size : Int) > 0 then (if 0 < (a0.size : Int) then (spec_l00Number.j0 k a0 1 ((bt a0 0) == 45)) else (none)) else (spec_l00Number.j0 k a0 1 false)
theorem spec_l00Number.mono_l : ∀ k, (∀ y0 y1 y2, LeO (spec_l00Number.j0 k y0 y1 y2) (spec_l00Number.j0 (k + 1) y0 y1 y2)) ∧ (∀ y0 y1, LeO (spec_l00Number.j1 k y0 y1) (spec_l00Number.j1 (k + 1) y0 y1)) ∧ (∀ y0 y1 y2, LeO (spec_l00Number.j2 k y0 y1 y2) (spec_l00Number.j2 (k + 1) y0 y1 y2)) ∧ (∀ y0 y1 y2 y3, LeO (spec_l00Number.l0 k y0 y1 y2 y3) (spec_l00Number.l0 (k + 1) y0 y1 y2 y3))
 | 0 => ⟨fun _ _ _ r h => by simp [spec_l00Number.j0] at h, fun _ _ r h => by simp [spec_l00Number.j1] at h, fun _ _ _ r h => by simp [spec_l00Number.j2] at h, fun _ _ _ _ r h => by simp [spec_l00Number.l0] at h⟩
 | k + 1 => by
  obtain ⟨ih0, ih1, ih2, ih3⟩ := spec_l00Number.mono_l k; refine ⟨?_, ?_, ?_, ?_⟩
  ·intro y0 y1 y2; unfold spec_l00Number.j0
   repeat' first
   | (with_reducible exact ih0 _ _ _)
   | (with_reducible exact ih1 _ _)
   | (with_reducible exact ih2 _ _ _)
   | (with_reducible exact ih3 _ _ _ _)
   | (with_reducible exact LeO.refl _)
   | (with_reducible exact LeO.none _)
   | (with_reducible refine LeO.ite ?_ ?_)
   | (with_reducible refine LeO.bind ?_ (fun _ => ?_))
   | exact ih0 _ _ _
   | exact ih1 _ _
   | exact ih2 _ _ _
   | exact ih3 _ _ _ _
   | exact LeO.none _
   | refine LeO.ite ?_ ?_
   | refine LeO.bind ?_ (fun _ => ?_)
  ·intro y0 y1; unfold spec_l00Number.j1
   repeat' first
   | (with_reducible exact ih0 _ _ _)
   | (with_reducible exact ih1 _ _)
   | (with_reducible exact ih2 _ _ _)
   | (with_reducible exact ih3 _ _ _ _)
   | (with_reducible exact LeO.refl _)
   | (with_reducible exact LeO.none _)
   | (with_reducible refine LeO.ite ?_ ?_)
   | (with_reducible refine LeO.bind ?_ (fun _ => ?_))
   | exact ih0 _ _ _
   | exact ih1 _ _
   | exact ih2 _ _ _
   | exact ih3 _ _ _ _
   | exact LeO.none _
   | refine LeO.ite ?_ ?_
   | refine LeO.bind ?_ (fun _ => ?_)
  ·intro y0 y1 y2; unfold spec_l00Number.j2
   repeat' first
   | (with_reducible exact ih0 _ _ _)
   | (with_reducible exact ih1 _ _)
   | (with_reducible exact ih2 _ _ _)
   | (with_reducible exact ih3 _ _ _ _)
   | (with_reducible exact LeO.refl _)
   | (with_reducible exact LeO.none _)
   | (with_reducible refine LeO.ite ?_ ?_)
   | (with_reducible refine LeO.bind ?_ (fun _ => ?_))
   | exact ih0 _ _ _
   | exact ih1 _ _
   | exact ih2 _ _ _
   | exact ih3 _ _ _ _
   | exact LeO.none _
   | refine LeO.ite ?_ ?_
   | refine LeO.bind ?_ (fun _ => ?_)
  ·intro y0 y1 y2 y3; unfold spec_l00Number.l0
   repeat' first
   | (with_reducible exact ih0 _ _ _)
   | (with_reducible exact ih1 _ _)
   | (with_reducible exact ih2 _ _ _)
   | (with_reducible exact ih3 _ _ _ _)
   | (with_reducible exact LeO.refl _)
   | (with_reducible exact LeO.none _)
   | (with_reducible refine LeO.ite ?_ ?_)
   | (with_reducible refine LeO.bind ?_ (fun _ => ?_))
   | exact ih0 _ _ _
   | exact ih1 _ _
   | exact ih2 _ _ _
   | exact ih3 _ _ _ _
   | exact LeO.none _
   | refine LeO.ite ?_ ?_
   | refine LeO.bind ?_ (fun _ => ?_)
theorem spec_l00Number.mono : ∀ a0 k, LeO (spec_l00Number.f k a0) (spec_l00Number.f (k + 1) a0) := by
 intro a0 k; obtain ⟨ih0, ih1, ih2, ih3⟩ := spec_l00Number.mono_l k; unfold spec_l00Number.f
 repeat' first
   | (with_reducible exact ih0 _ _ _)
   | (with_reducible exact ih1 _ _)
   | (with_reducible exact ih2 _ _ _)
   | (with_reducible exact ih3 _ _ _ _)
   | (with_reducible exact LeO.refl _)
   | (with_reducible exact LeO.none _)
   | (with_reducible refine LeO.ite ?_ ?_)
   | (with_reducible refine LeO.bind ?_ (fun _ => ?_))
   | exact ih0 _ _ _
   | exact ih1 _ _
   | exact ih2 _ _ _
   | exact ih3 _ _ _ _
   | exact LeO.none _
   | refine LeO.ite ?_ ?_
   | refine LeO.bind ?_ (fun _ => ?_)
set_option maxHeartbeats 8000000 in
set_option maxRecDepth 100000 in
theorem spec_l00Number.calls (k : Nat) (a0 : ByteArray) (r1 : Int) (r2 : Bool) (w : World) (h : spec_l00Number.f k a0 = some (r1, r2)) :
  Calls Tryd.prog 40 #[.string a0] w fun e w' => e = .returned (.tuple #[.int .i64 r1, .bool r2]) ∧ Drawn0 w w' := by
 have H : (if (a0.size : Int) > 0 then (if 0 < (a0.size : Int) then (spec_l00Number.j0 k a0 1 ((bt a0 0) == 45)) else (none)) else (spec_l00Number.j0 k a0 1 false)) = some (r1, r2) := h; clear h; have HC2 := Aside0.mk H; clear H; go_enter Tryd.func40, Tryd.ntmps40
 go_upto_region 2 with (fail)
 go_cut [14] (fun v14 wc => ∃ (kq : Nat) (x14_1 : Bool), v14 = .bool x14_1 ∧ Aside0 (spec_l00Number.j0 kq a0 1 x14_1 = some (r1, r2)) ∧ Aside0 (kq ≤ k) ∧ Drawn0 w wc)
 case first =>
  have H := HC2.out; clear HC2; by_cases c3 : (a0.size : Int) > 0
  ·rw [if_pos c3] at H; have c3b0 : decide (0 < (a0.size : Int)) = true := decide_eq_true c3; have c3b1 : decide (0 < a0.size) = true := decide_eq_true (by omega); clear c3
   (first | rw [c3b0] | (simp only [i64_w, i32_w]; rw [c3b0]) | skip)
   by_cases c4 : 0 < (a0.size : Int)
   ·rw [if_pos c4] at H; have c4b0 : decide (0 < (a0.size : Int)) = true := decide_eq_true c4; have c4b1 : decide (0 < a0.size) = true := decide_eq_true (by omega); clear c4; have H' := Aside0.mk H; clear H; have p5 : 0 ≤ (0 : Int) := (by omega); have q5 : 0 < a0.size := (by have : (0 : Int) < (a0.size : Int) := of_decide_eq_true (by first | (with_reducible assumption) | assumption); omega); have hx5 : ∀ h : 0 < a0.size, ((a0[0]'h).toNat : Int) = bt a0 0 := bt_at a0 0; clear p5; have qi5 : (0 < (a0.size : Int)) = True := eq_true (of_decide_eq_true (by first | (with_reducible assumption) | assumption)); replace q5 := eq_true q5; go_wp2
    go_meet
    case rel => exact ⟨_, (((bt a0 0) == 45)), (by first | rfl | (simp; done) | (simp [*]; done)), H', ⟨by first | omega | exact Nat.le_refl _⟩, by repeat (first | exact Drawn0.refl _ | apply Drawn0.step)⟩
   ·rw [if_neg c4] at H; exact absurd H (by simp)
  ·rw [if_neg c3] at H; have c3b0 : decide (0 < (a0.size : Int)) = false := decide_eq_false c3; have c3b1 : decide (0 < a0.size) = false := decide_eq_false (by omega); clear c3
   (first | rw [c3b0] | (simp only [i64_w, i32_w]; rw [c3b0]) | skip)
   have H' := Aside0.mk H; clear H; go_wp2
   go_meet
   case rel => exact ⟨_, (false), (by first | rfl | (simp; done) | (simp [*]; done)), H', ⟨by first | omega | exact Nat.le_refl _⟩, by repeat (first | exact Drawn0.refl _ | apply Drawn0.step)⟩
 case rest =>
  clear HC2; (try clear p2); (try clear c3); (try clear c3b0); (try clear c3b1); (try clear c4); (try clear c4b0); (try clear c4b1); (try clear p5); (try clear q5); (try clear hx5); (try clear qi5); (try clear p5); (try clear q5); obtain ⟨kq, x14_1, rfl, HA, HJ1, ⟨mc1, rfl⟩⟩ := hcut
  cases kq with
  | zero => exact absurd HA.out (by simp [spec_l00Number.j0])
  | succ kj1 =>
   have H := HA.out; clear HA; simp only [spec_l00Number.j0] at H; have HC6 := Aside0.mk H; clear H
   go_upto_if 14 with (fail)
   go_cut [0, 4] (fun v0 v4 wc => ∃ (kq : Nat) (x0_5 : ByteArray) (x4_5 : Int), v0 = .string x0_5 ∧ v4 = .int .i64 x4_5 ∧ Aside0 (spec_l00Number.j1 kq x0_5 x4_5 = some (r1, r2)) ∧ Aside0 (kq ≤ kj1) ∧ Drawn0 w wc)
   case first =>
    have H := HC6.out; clear HC6; by_cases c7 : x14_1 = true
    ·subst c7
     have H1 : (if 1 ≤ (a0.size : Int) then (spec_l00Number.j1 kj1 (a0.extract 1 a0.size) (-1)) else (none)) = some (r1, r2) := by rw [if_pos rfl] at H; exact H
     clear H; have H := H1; clear H1; by_cases c8 : 1 ≤ (a0.size : Int)
     ·rw [if_pos c8] at H; have c8b0 := eq_true c8; have c8b1 : decide (1 ≤ (a0.size : Int)) = true := decide_eq_true c8; clear c8; have H' := Aside0.mk H; clear H; go_wp2
      go_meet
      case rel => exact ⟨_, (a0.extract 1 a0.size), ((-1)), (by first | rfl | (simp; done) | (simp [*]; done)), (by first | rfl | (simp; done) | (simp [*]; done)), H', ⟨by have := HJ1.out; first | omega | exact Nat.le_refl _⟩, by repeat (first | exact Drawn0.refl _ | apply Drawn0.step)⟩
     ·rw [if_neg c8] at H; exact absurd H (by simp)
    ·replace c7 := Bool.eq_false_iff.mpr c7; subst c7
     have H1 : (spec_l00Number.j1 kj1 a0 1) = some (r1, r2) := by rw [if_neg (show ¬ (false = true) by decide)] at H; exact H
     clear H; have H := H1; clear H1; have H' := Aside0.mk H; clear H; go_wp2
     go_meet
     case rel => exact ⟨_, (a0), (1), (by first | rfl | (simp; done) | (simp [*]; done)), (by first | rfl | (simp; done) | (simp [*]; done)), H', ⟨by have := HJ1.out; first | omega | exact Nat.le_refl _⟩, by repeat (first | exact Drawn0.refl _ | apply Drawn0.step)⟩
   case rest =>
    clear HC6; (try clear c1); (try clear p2); (try clear c3); (try clear c3b0); (try clear c3b1); (try clear c4); (try clear c4b0); (try clear c4b1); (try clear p5); (try clear q5); (try clear hx5); (try clear qi5); (try clear c7); (try clear c8); (try clear c8b0); (try clear c8b1); (try clear p2); (try clear p5); (try clear q5); obtain ⟨kq, x0_5, x4_5, rfl, rfl, HA, HJ5, ⟨mc5, rfl⟩⟩ := hcut
    cases kq with
    | zero => exact absurd HA.out (by simp [spec_l00Number.j1])
    | succ kj5 =>
     have H := HA.out; clear HA; simp only [spec_l00Number.j1] at H; have HC9 := Aside0.mk H; clear H
     go_upto_region 5 with (fail)
     go_cut [38] (fun v38 wc => ∃ (kq : Nat) (x38_8 : Bool), v38 = .bool x38_8 ∧ Aside0 (spec_l00Number.j2 kq x0_5 x4_5 x38_8 = some (r1, r2)) ∧ Aside0 (kq ≤ kj5) ∧ Drawn0 w wc)
     case first =>
      have H := HC9.out; clear HC9; by_cases c10 : (x0_5.size : Int) = 0
      ·rw [if_pos c10] at H; have c10b0 : ((x0_5.size : Int) == 0) = true := beq_iff_eq.mpr c10; have c10b1 : ((x0_5.size : Int) != 0) = false := bne_eq_false_iff_eq.mpr c10; clear c10
       (first | rw [c10b0] | (simp only [i64_w, i32_w]; rw [c10b0]) | skip)
       have H' := Aside0.mk H; clear H; go_wp2
       go_meet
       case rel => exact ⟨_, (true), (by first | rfl | (simp; done) | (simp [*]; done)), H', ⟨by have := HJ1.out; have := HJ5.out; first | omega | exact Nat.le_refl _⟩, by repeat (first | exact Drawn0.refl _ | apply Drawn0.step)⟩
      ·rw [if_neg c10] at H; have c10b0 : ((x0_5.size : Int) == 0) = false := beq_eq_false_iff_ne.mpr c10; have c10b1 : ((x0_5.size : Int) != 0) = true := bne_iff_ne.mpr c10
       (first | rw [c10b0] | (simp only [i64_w, i32_w]; rw [c10b0]) | skip)
       by_cases c11 : (x0_5.size : Int) > 18
       ·rw [if_pos c11] at H; have c11b0 : decide (18 < (x0_5.size : Int)) = true := decide_eq_true c11; have c11b1 : decide (18 < x0_5.size) = true := decide_eq_true (by omega); clear c11; have H' := Aside0.mk H; clear H; go_wp2
        go_meet
        case rel => exact ⟨_, (true), (by first | rfl | (simp; done) | (simp [*]; done)), H', ⟨by have := HJ1.out; have := HJ5.out; first | omega | exact Nat.le_refl _⟩, by repeat (first | exact Drawn0.refl _ | apply Drawn0.step)⟩
       ·rw [if_neg c11] at H; have c11b0 : decide (18 < (x0_5.size : Int)) = false := decide_eq_false c11; have c11b1 : decide (18 < x0_5.size) = false := decide_eq_false (by omega); clear c11; by_cases c12 : 0 < (x0_5.size : Int)
        ·rw [if_pos c12] at H; have c12b0 : decide (0 < (x0_5.size : Int)) = true := decide_eq_true c12; have c12b1 : decide (0 < x0_5.size) = true := decide_eq_true (by omega); clear c12; by_cases c14 : (bt x0_5 0) = 48
         ·rw [if_pos c14] at H; have c14b0 : ((bt x0_5 0) == 48) = true := beq_iff_eq.mpr c14; have c14b1 : ((bt x0_5 0) != 48) = false := bne_eq_false_iff_eq.mpr c14; clear c14; by_cases c15 : (x0_5.size : Int) > 1
          ·rw [if_pos c15] at H; have c15b0 : decide (1 < (x0_5.size : Int)) = true := decide_eq_true c15; have c15b1 : decide (1 < x0_5.size) = true := decide_eq_true (by omega); clear c15; have H' := Aside0.mk H; clear H; have p13 : 0 ≤ (0 : Int) := (by omega); have q13 : 0 < x0_5.size := (by have : (0 : Int) < (x0_5.size : Int) := of_decide_eq_true (by first | (with_reducible assumption) | assumption); omega); have hx13 : ∀ h : 0 < x0_5.size, ((x0_5[0]'h).toNat : Int) = bt x0_5 0 := bt_at x0_5 0; clear p13; have qi13 : (0 < (x0_5.size : Int)) = True := eq_true (of_decide_eq_true (by first | (with_reducible assumption) | assumption)); replace q13 := eq_true q13; go_wp2
           go_meet
           case rel => exact ⟨_, (true), (by first | rfl | (simp; done) | (simp [*]; done)), H', ⟨by have := HJ1.out; have := HJ5.out; first | omega | exact Nat.le_refl _⟩, by repeat (first | exact Drawn0.refl _ | apply Drawn0.step)⟩
          ·rw [if_neg c15] at H; have c15b0 : decide (1 < (x0_5.size : Int)) = false := decide_eq_false c15; have c15b1 : decide (1 < x0_5.size) = false := decide_eq_false (by omega); clear c15; have H' := Aside0.mk H; clear H; have p13 : 0 ≤ (0 : Int) := (by omega); have q13 : 0 < x0_5.size := (by have : (0 : Int) < (x0_5.size : Int) := of_decide_eq_true (by first | (with_reducible assumption) | assumption); omega); have hx13 : ∀ h : 0 < x0_5.size, ((x0_5[0]'h).toNat : Int) = bt x0_5 0 := bt_at x0_5 0; clear p13; have qi13 : (0 < (x0_5.size : Int)) = True := eq_true (of_decide_eq_true (by first | (with_reducible assumption) | assumption)); replace q13 := eq_true q13; go_wp2
           go_meet
           case rel => exact ⟨_, (decide (x4_5 < 0)), (by first | rfl | (simp; done) | (simp [*]; done)), H', ⟨by have := HJ1.out; have := HJ5.out; first | omega | exact Nat.le_refl _⟩, by repeat (first | exact Drawn0.refl _ | apply Drawn0.step)⟩
         ·rw [if_neg c14] at H; have c14b0 : ((bt x0_5 0) == 48) = false := beq_eq_false_iff_ne.mpr c14; have c14b1 : ((bt x0_5 0) != 48) = true := bne_iff_ne.mpr c14; have H' := Aside0.mk H; clear H; have p13 : 0 ≤ (0 : Int) := (by omega); have q13 : 0 < x0_5.size := (by have : (0 : Int) < (x0_5.size : Int) := of_decide_eq_true (by first | (with_reducible assumption) | assumption); omega); have hx13 : ∀ h : 0 < x0_5.size, ((x0_5[0]'h).toNat : Int) = bt x0_5 0 := bt_at x0_5 0; clear p13; have qi13 : (0 < (x0_5.size : Int)) = True := eq_true (of_decide_eq_true (by first | (with_reducible assumption) | assumption)); replace q13 := eq_true q13; go_wp2
          go_meet
          case rel => exact ⟨_, (false), (by first | rfl | (simp; done) | (simp [*]; done)), H', ⟨by have := HJ1.out; have := HJ5.out; first | omega | exact Nat.le_refl _⟩, by repeat (first | exact Drawn0.refl _ | apply Drawn0.step)⟩
        ·rw [if_neg c12] at H; exact absurd H (by simp)
     case rest =>
      clear HC9; (try clear c1); (try clear p1); (try clear q1); (try clear hx1); (try clear qi1); (try clear p2); (try clear c3); (try clear c3b0); (try clear c3b1); (try clear c4); (try clear c4b0); (try clear c4b1); (try clear c5); (try clear p5); (try clear q5); (try clear hx5); (try clear qi5); (try clear c7); (try clear c8); (try clear c8b0); (try clear c8b1); (try clear c10); (try clear c10b0); (try clear c10b1); (try clear c11); (try clear c11b0); (try clear c11b1); (try clear c12); (try clear c12b0); (try clear c12b1); (try clear p13); (try clear q13); (try clear hx13); (try clear qi13); (try clear c14); (try clear c14b0); (try clear c14b1); (try clear c15); (try clear c15b0); (try clear c15b1); (try clear p13); (try clear p2); (try clear p5); (try clear q13); (try clear q5); obtain ⟨kq, x38_8, rfl, HA, HJ8, ⟨mc8, rfl⟩⟩ := hcut
      cases kq with
      | zero => exact absurd HA.out (by simp [spec_l00Number.j2])
      | succ kj8 =>
       have H := HA.out; clear HA; simp only [spec_l00Number.j2] at H; by_cases c16 : x38_8 = true
       ·subst c16
        have H1 : (some (0, false)) = some (r1, r2) := by rw [if_pos rfl] at H; exact H
        clear H; have H := H1; clear H1; simp only [Option.some.injEq, Prod.mk.injEq] at H; obtain ⟨rfl, rfl⟩ := H; go_wp2; go_ret2; exact ⟨by first | rfl | (simp; done) | (simp [*]; done), by repeat (first | exact Drawn0.refl _ | apply Drawn0.step)⟩
       ·replace c16 := Bool.eq_false_iff.mpr c16; subst c16
        have H1 : (spec_l00Number.l0 kj8 x0_5 x4_5 0 0) = some (r1, r2) := by rw [if_neg (show ¬ (false = true) by decide)] at H; exact H
        clear H; have H := H1; clear H1; have H' := Aside0.mk H; clear H; go_wp2
        go_loopg [5, 6] kj8 (fun kq v5 v6 w' => ∃ (x5_4 : Int) (x6_4 : Int), v5 = .int .i64 x5_4 ∧ v6 = .int .i64 x6_4 ∧ Aside0 (spec_l00Number.l0 kq x0_5 x4_5 x5_4 x6_4 = some (r1, r2)) ∧ Aside0 (kq ≤ kj8) ∧ Drawn0 w w')
        case atStart => exact ⟨(0), (0), (by first | rfl | (simp; done) | (simp [*]; done)), (by first | rfl | (simp; done) | (simp [*]; done)), H', ⟨Nat.le_refl _⟩, by repeat (first | exact Drawn0.refl _ | apply Drawn0.step)⟩
        case round =>
         clear H'; (try clear c1); (try clear p1); (try clear q1); (try clear hx1); (try clear qi1); (try clear p2); (try clear c3); (try clear c3b0); (try clear c3b1); (try clear c4); (try clear c4b0); (try clear c4b1); (try clear c5); (try clear p5); (try clear q5); (try clear hx5); (try clear qi5); (try clear c7); (try clear c8); (try clear c8b0); (try clear c8b1); (try clear c10); (try clear c10b0); (try clear c10b1); (try clear c11); (try clear c11b0); (try clear c11b1); (try clear c12); (try clear c12b0); (try clear c12b1); (try clear p13); (try clear q13); (try clear hx13); (try clear qi13); (try clear c14); (try clear c14b0); (try clear c14b1); (try clear c15); (try clear c15b0); (try clear c15b1); (try clear c16); (try clear p1); (try clear p13); (try clear p2); (try clear p5); (try clear q1); (try clear q13); (try clear q5); obtain ⟨x5_4, x6_4, rfl, rfl, HA, HK4, ⟨m4, rfl⟩⟩ := hrel
         cases gk with
         | zero => exact absurd HA.out (by simp [spec_l00Number.l0])
         | succ k4 =>
          have H := HA.out; clear HA; simp only [spec_l00Number.l0] at H; by_cases c17 : x6_4 < (x0_5.size : Int)
          ·rw [if_pos c17] at H; have c17b0 : decide (x6_4 < (x0_5.size : Int)) = true := decide_eq_true c17; clear c17; by_cases c18 : 0 ≤ x6_4
           ·rw [if_pos c18] at H; have c18b0 : decide (0 ≤ x6_4) = true := decide_eq_true c18; clear c18; by_cases c20 : (bt x0_5 x6_4) < 48
            ·rw [if_pos c20] at H; have c20b0 : decide ((bt x0_5 x6_4) < 48) = true := decide_eq_true c20; clear c20; simp only [Option.some.injEq, Prod.mk.injEq] at H; obtain ⟨rfl, rfl⟩ := H; have p19 : 0 ≤ (x6_4 : Int) := of_decide_eq_true (by first | (with_reducible assumption) | assumption); have q19 : x6_4 < (x0_5.size : Int) := of_decide_eq_true (by first | (with_reducible assumption) | assumption); have hx19 := bt_at x0_5 x6_4; replace p19 := eq_true p19; replace q19 := eq_true q19; go_wp2; go_ret2; exact ⟨by first | rfl | (simp; done) | (simp [*]; done), by repeat (first | exact Drawn0.refl _ | apply Drawn0.step)⟩
            ·rw [if_neg c20] at H; have c20b0 : decide ((bt x0_5 x6_4) < 48) = false := decide_eq_false c20; clear c20; by_cases c22 : (bt x0_5 x6_4) > 57
             ·rw [if_pos c22] at H; have c22b0 : decide (57 < (bt x0_5 x6_4)) = true := decide_eq_true c22; clear c22; simp only [Option.some.injEq, Prod.mk.injEq] at H; obtain ⟨rfl, rfl⟩ := H; have p19 : 0 ≤ (x6_4 : Int) := of_decide_eq_true (by first | (with_reducible assumption) | assumption); have q19 : x6_4 < (x0_5.size : Int) := of_decide_eq_true (by first | (with_reducible assumption) | assumption); have hx19 := bt_at x0_5 x6_4; replace p19 := eq_true p19; replace q19 := eq_true q19; have p21 : 0 ≤ (x6_4 : Int) := of_decide_eq_true (by first | (with_reducible assumption) | assumption); have q21 : x6_4 < (x0_5.size : Int) := of_decide_eq_true (by first | (with_reducible assumption) | assumption); have hx21 := bt_at x0_5 x6_4; replace p21 := eq_true p21; replace q21 := eq_true q21; go_wp2; go_ret2; exact ⟨by first | rfl | (simp; done) | (simp [*]; done), by repeat (first | exact Drawn0.refl _ | apply Drawn0.step)⟩
             ·rw [if_neg c22] at H; have c22b0 : decide (57 < (bt x0_5 x6_4)) = false := decide_eq_false c22; clear c22; have H' := Aside0.mk H; clear H; have p19 : 0 ≤ (x6_4 : Int) := of_decide_eq_true (by first | (with_reducible assumption) | assumption); have q19 : x6_4 < (x0_5.size : Int) := of_decide_eq_true (by first | (with_reducible assumption) | assumption); have hx19 := bt_at x0_5 x6_4; replace p19 := eq_true p19; replace q19 := eq_true q19; have p21 : 0 ≤ (x6_4 : Int) := of_decide_eq_true (by first | (with_reducible assumption) | assumption); have q21 : x6_4 < (x0_5.size : Int) := of_decide_eq_true (by first | (with_reducible assumption) | assumption); have hx21 := bt_at x0_5 x6_4; replace p21 := eq_true p21; replace q21 := eq_true q21; have p23 : 0 ≤ (x6_4 : Int) := of_decide_eq_true (by first | (with_reducible assumption) | assumption); have q23 : x6_4 < (x0_5.size : Int) := of_decide_eq_true (by first | (with_reducible assumption) | assumption); have hx23 := bt_at x0_5 x6_4; replace p23 := eq_true p23; replace q23 := eq_true q23; go_wp2
              go_roundg k4
              case measure => have := HJ1.out; have := HJ5.out; have := HJ8.out; have := HK4.out; omega
              case rel => exact ⟨(wrap64 ((wrap64 ((wrap64 (x5_4 * 10)) + (wrap64 (bt x0_5 x6_4)))) - 48)), (wrap64 (x6_4 + 1)), (by first | rfl | (simp; done) | (simp [*]; done)), (by first | rfl | (simp; done) | (simp [*]; done)), H', ⟨by have := HJ1.out; have := HJ5.out; have := HJ8.out; have := HK4.out; omega⟩, by repeat (first | exact Drawn0.refl _ | apply Drawn0.step)⟩
           ·rw [if_neg c18] at H; exact absurd H (by simp)
          ·rw [if_neg c17] at H; have c17b0 : decide (x6_4 < (x0_5.size : Int)) = false := decide_eq_false c17; clear c17; simp only [Option.some.injEq, Prod.mk.injEq] at H; obtain ⟨rfl, rfl⟩ := H; go_wp2; go_ret2; exact ⟨by first | rfl | (simp; done) | (simp [*]; done), by repeat (first | exact Drawn0.refl _ | apply Drawn0.step)⟩

/-! ### spec_l01Money: function 26 -/
def spec_l01Money.f (a0 : Int) : Option (Bool) := (spec_l01In.f a0 (-1000000000) 1000000000).bind fun t101 => (some t101)
set_option maxHeartbeats 8000000 in
set_option maxRecDepth 100000 in
theorem spec_l01Money.calls (a0 : Int) (r : Bool) (w : World) (h : spec_l01Money.f a0 = some r) :
  Calls Tryd.prog 26 #[.int .i64 a0] w fun e w' => e = .returned (.bool r) ∧ Drawn0 w w' := by
 have H : ((spec_l01In.f a0 (-1000000000) 1000000000).bind fun t101 => (some t101)) = some r := h; clear h; replace H := Option.bind_eq_some_iff.mp H; obtain ⟨t101, A20, H⟩ := H; replace H : (some t101) = some r := H; have A2 := Aside0.mk A20; clear A20; obtain rfl := Option.some.inj H; go_enter Tryd.func26, Tryd.ntmps26
 go_wp2_with (first | ((with_reducible refine gate_callee (f := 37) rfl ?_); refine goesL_ (some 4) rfl rfl Tryd.func37 (by kernel_rfl) rfl #[.int .i64 a0, .int .i64 (-1000000000), .int .i64 1000000000] rfl mq ?_; (with_reducible refine (spec_l01In.calls a0 (-1000000000) 1000000000 t101 _ A2.out).mono ?_); rintro e w' ⟨rfl, ⟨nd, rfl⟩⟩; refine ⟨_, rfl, ?_⟩))
 go_ret; exact ⟨by first | rfl | (simp; done) | (simp [*]; done), by repeat (first | exact Drawn0.refl _ | apply Drawn0.step)⟩

/-! ### spec_l01Told: function 41 -/
def spec_l01Told.f (a0 : Int) : Option (Int × Int) := (spec_l01Money.f a0).bind fun t102 => (if t102 = true then (some (a0, 0)) else (some (0, 11)))
set_option maxHeartbeats 8000000 in
set_option maxRecDepth 100000 in
theorem spec_l01Told.calls (a0 : Int) (r1 : Int) (r2 : Int) (w : World) (h : spec_l01Told.f a0 = some (r1, r2)) :
  Calls Tryd.prog 41 #[.int .i64 a0] w fun e w' => e = .returned (.tuple #[.int .i64 r1, .int .i64 r2]) ∧ Drawn0 w w' := by
 have H : ((spec_l01Money.f a0).bind fun t102 => (if t102 = true then (some (a0, 0)) else (some (0, 11)))) = some (r1, r2) := h; clear h; replace H := Option.bind_eq_some_iff.mp H; obtain ⟨t102, A20, H⟩ := H; replace H : (if t102 = true then (some (a0, 0)) else (some (0, 11))) = some (r1, r2) := H; have A2 := Aside0.mk A20; clear A20; by_cases c3 : t102 = true
 ·subst c3
  have H1 : (some (a0, 0)) = some (r1, r2) := by rw [if_pos rfl] at H; exact H
  clear H; have H := H1; clear H1; simp only [Option.some.injEq, Prod.mk.injEq] at H; obtain ⟨rfl, rfl⟩ := H; go_enter Tryd.func41, Tryd.ntmps41
  go_wp2_with (first | ((with_reducible refine gate_callee (f := 26) rfl ?_); refine goesL_ (some 5) rfl rfl Tryd.func26 (by kernel_rfl) rfl #[.int .i64 a0] rfl mq ?_; (with_reducible refine (spec_l01Money.calls a0 true _ A2.out).mono ?_); rintro e w' ⟨rfl, ⟨nd, rfl⟩⟩; refine ⟨_, rfl, ?_⟩))
  go_ret2; exact ⟨by first | rfl | (simp; done) | (simp [*]; done), by repeat (first | exact Drawn0.refl _ | apply Drawn0.step)⟩
 ·replace c3 := Bool.eq_false_iff.mpr c3; subst c3
  have H1 : (some (0, 11)) = some (r1, r2) := by rw [if_neg (show ¬ (false = true) by decide)] at H; exact H
  clear H; have H := H1; clear H1; simp only [Option.some.injEq, Prod.mk.injEq] at H; obtain ⟨rfl, rfl⟩ := H; go_enter Tryd.func41, Tryd.ntmps41
  go_wp2_with (first | ((with_reducible refine gate_callee (f := 26) rfl ?_); refine goesL_ (some 5) rfl rfl Tryd.func26 (by kernel_rfl) rfl #[.int .i64 a0] rfl mq ?_; (with_reducible refine (spec_l01Money.calls a0 false _ A2.out).mono ?_); rintro e w' ⟨rfl, ⟨nd, rfl⟩⟩; refine ⟨_, rfl, ?_⟩))
  go_ret2; exact ⟨by first | rfl | (simp; done) | (simp [*]; done), by repeat (first | exact Drawn0.refl _ | apply Drawn0.step)⟩

/-! ### spec_ReadMoney: function 20 -/
mutual
def spec_ReadMoney.j0 : Nat → ByteArray → Int → Bool → Option (Int × Int)
 | 0, _, _, _ => none
 | k + 1, x0, x4, x25 => if x25 = true then (some (0, 4)) else (if 0 ≤ (wrap64 (x4 - 3)) then (if (wrap64 (x4 - 3)) ≤ (x0.size : Int) then (if 0 < ((x0.extract 0 ((wrap64 (x4 - 3)) : Int).toNat).size : Int) then (if (bt (x0.extract 0 ((wrap64 (x4 - 3)) : Int).toNat) 0) = 45 then (if 1 ≤ ((x0.extract 0 ((wrap64 (x4 - 3)) : Int).toNat).size : Int) then (spec_ReadMoney.j1 k x0 x4 (-1) ((x0.extract 0 ((wrap64 (x4 - 3)) : Int).toNat).extract 1 (x0.extract 0 ((wrap64 (x4 - 3)) : Int).toNat).size)) else (none)) else (spec_ReadMoney.j1 k x0 x4 1 (x0.extract 0 ((wrap64 (x4 - 3)) : Int).toNat))) else (none)) else (none)) else (none))
def spec_ReadMoney.j1 : Nat → ByteArray → Int → Int → ByteArray → Option (Int × Int)
 | 0, _, _, _, _ => none
 | k + 1, x0, x4, x5, x6 => (spec_l00Number.f k x6).bind fun bt103 => (if bt103.2 = true then (if (x6.size : Int) > 15 then (spec_ReadMoney.j2 k x0 x4 x5 bt103.1 true) else (if 0 < (x6.size : Int) then (spec_ReadMoney.j2 k x0 x4 x5 bt103.1 ((bt x6 0) == 45)) else (none))) else (spec_ReadMoney.j2 k x0 x4 x5 bt103.1 true))
def spec_ReadMoney.j2 : Nat → ByteArray → Int → Int → Int → Bool → Option (Int × Int)
 | 0, _, _, _, _, _ => none
 | k + 1, x0, x4, x5, x7, x51 => if x51 = true then (some (0, 4)) else (if 0 ≤ (wrap64 (x4 - 2)) then (if (wrap64 (x4 - 2)) < (x0.size : Int) then (if 0 ≤ (wrap64 (x4 - 1)) then (if (wrap64 (x4 - 1)) < (x0.size : Int) then ((spec_l01In.f (wrap64 ((wrap64 (bt x0 (wrap64 (x4 - 2)))) - 48)) 0 9).bind fun t105 => (if t105 = true then ((spec_l01In.f (wrap64 ((wrap64 (bt x0 (wrap64 (x4 - 1)))) - 48)) 0 9).bind fun t106 => (spec_ReadMoney.j3 k x5 x7 (wrap64 ((wrap64 (bt x0 (wrap64 (x4 - 2)))) - 48)) (wrap64 ((wrap64 (bt x0 (wrap64 (x4 - 1)))) - 48)) (!t106))) else (spec_ReadMoney.j3 k x5 x7 (wrap64 ((wrap64 (bt x0 (wrap64 (x4 - 2)))) - 48)) (wrap64 ((wrap64 (bt x0 (wrap64 (x4 - 1)))) - 48)) true))) else (none)) else (none)) else (none)) else (none))
def spec_ReadMoney.j3 : Nat → Int → Int → Int → Int → Bool → Option (Int × Int)
 | 0, _, _, _, _, _ => none
 | k + 1, x5, x7, x9, x10, x71 => if x71 = true then (some (0, 4)) else (if (wrap64 ((wrap64 ((wrap64 (x7 * 100)) + (wrap64 (x9 * 10)))) + x10)) = 0 then (if x5 < 0 then (some (0, 4)) else ((spec_l01Told.f (wrap64 (x5 * (wrap64 ((wrap64 ((wrap64 (x7 * 100)) + (wrap64 (x9 * 10)))) + x10))))).bind fun bt107 => (some (bt107.1, bt107.2)))) else ((spec_l01Told.f (wrap64 (x5 * (wrap64 ((wrap64 ((wrap64 (x7 * 100)) + (wrap64 (x9 * 10)))) + x10))))).bind fun bt109 => (some (bt109.1, bt109.2))))
end
def spec_ReadMoney.f (k : Nat) (a0 : ByteArray) : Option (Int × Int) := if (a0.size : Int) > 65536 then (some (0, 2)) else (if (a0.size : Int) < 4 then (spec_ReadMoney.j0 k a0 (a0.size : Int) true) else (if 0 ≤ (wrap64 ((a0.size : Int) - 3)) then (if (wrap64 ((a0.size : Int) - 3)) < (a0.size : Int) then (spec_ReadMoney.j0 k a0 (a0.size : Int) ((bt a0 (wrap64 ((a0.size : Int) - 3))) != 46)) else (none)) else (none)))
theorem spec_ReadMoney.mono_l : ∀ k, (∀ y0 y1 y2, LeO (spec_ReadMoney.j0 k y0 y1 y2) (spec_ReadMoney.j0 (k + 1) y0 y1 y2)) ∧ (∀ y0 y1 y2 y3, LeO (spec_ReadMoney.j1 k y0 y1 y2 y3) (spec_ReadMoney.j1 (k + 1) y0 y1 y2 y3)) ∧ (∀ y0 y1 y2 y3 y4, LeO (spec_ReadMoney.j2 k y0 y1 y2 y3 y4) (spec_ReadMoney.j2 (k + 1) y0 y1 y2 y3 y4)) ∧ (∀ y0 y1 y2 y3 y4, LeO (spec_ReadMoney.j3 k y0 y1 y2 y3 y4) (spec_ReadMoney.j3 (k + 1) y0 y1 y2 y3 y4))
 | 0 => ⟨fun _ _ _ r h => by simp [spec_ReadMoney.j0] at h, fun _ _ _ _ r h => by simp [spec_ReadMoney.j1] at h, fun _ _ _ _ _ r h => by simp [spec_ReadMoney.j2] at h, fun _ _ _ _ _ r h => by simp [spec_ReadMoney.j3] at h⟩
 | k + 1 => by
  obtain ⟨ih0, ih1, ih2, ih3⟩ := spec_ReadMoney.mono_l k; refine ⟨?_, ?_, ?_, ?_⟩
  ·intro y0 y1 y2; unfold spec_ReadMoney.j0
   repeat' first
   | (with_reducible exact ih0 _ _ _)
   | (with_reducible exact ih1 _ _ _ _)
   | (with_reducible exact ih2 _ _ _ _ _)
   | (with_reducible exact ih3 _ _ _ _ _)
   | (with_reducible exact spec_l00Number.mono _ _)
   | (with_reducible exact LeO.refl _)
   | (with_reducible exact LeO.none _)
   | (with_reducible refine LeO.ite ?_ ?_)
   | (with_reducible refine LeO.bind ?_ (fun _ => ?_))
   | exact ih0 _ _ _
   | exact ih1 _ _ _ _
   | exact ih2 _ _ _ _ _
   | exact ih3 _ _ _ _ _
   | exact spec_l00Number.mono _ _
   | exact LeO.none _
   | refine LeO.ite ?_ ?_
   | refine LeO.bind ?_ (fun _ => ?_)
  ·intro y0 y1 y2 y3; unfold spec_ReadMoney.j1
   repeat' first
   | (with_reducible exact ih0 _ _ _)
   | (with_reducible exact ih1 _ _ _ _)
   | (with_reducible exact ih2 _ _ _ _ _)
   | (with_reducible exact ih3 _ _ _ _ _)
   | (with_reducible exact spec_l00Number.mono _ _)
   | (with_reducible exact LeO.refl _)
   | (with_reducible exact LeO.none _)
   | (with_reducible refine LeO.ite ?_ ?_)
   | (with_reducible refine LeO.bind ?_ (fun _ => ?_))
   | exact ih0 _ _ _
   | exact ih1 _ _ _ _
   | exact ih2 _ _ _ _ _
   | exact ih3 _ _ _ _ _
   | exact spec_l00Number.mono _ _
   | exact LeO.none _
   | refine LeO.ite ?_ ?_
   | refine LeO.bind ?_ (fun _ => ?_)
  ·intro y0 y1 y2 y3 y4; unfold spec_ReadMoney.j2
   repeat' first
   | (with_reducible exact ih0 _ _ _)
   | (with_reducible exact ih1 _ _ _ _)
   | (with_reducible exact ih2 _ _ _ _ _)
   | (with_reducible exact ih3 _ _ _ _ _)
   | (with_reducible exact spec_l00Number.mono _ _)
   | (with_reducible exact LeO.refl _)
   | (with_reducible exact LeO.none _)
   | (with_reducible refine LeO.ite ?_ ?_)
   | (with_reducible refine LeO.bind ?_ (fun _ => ?_))
   | exact ih0 _ _ _
   | exact ih1 _ _ _ _
   | exact ih2 _ _ _ _ _
   | exact ih3 _ _ _ _ _
   | exact spec_l00Number.mono _ _
   | exact LeO.none _
   | refine LeO.ite ?_ ?_
   | refine LeO.bind ?_ (fun _ => ?_)
  ·intro y0 y1 y2 y3 y4; unfold spec_ReadMoney.j3
   repeat' first
   | (with_reducible exact ih0 _ _ _)
   | (with_reducible exact ih1 _ _ _ _)
   | (with_reducible exact ih2 _ _ _ _ _)
   | (with_reducible exact ih3 _ _ _ _ _)
   | (with_reducible exact spec_l00Number.mono _ _)
   | (with_reducible exact LeO.refl _)
   | (with_reducible exact LeO.none _)
   | (with_reducible refine LeO.ite ?_ ?_)
   | (with_reducible refine LeO.bind ?_ (fun _ => ?_))
   | exact ih0 _ _ _
   | exact ih1 _ _ _ _
   | exact ih2 _ _ _ _ _
   | exact ih3 _ _ _ _ _
   | exact spec_l00Number.mono _ _
   | exact LeO.none _
   | refine LeO.ite ?_ ?_
   | refine LeO.bind ?_ (fun _ => ?_)
theorem spec_ReadMoney.mono : ∀ a0 k, LeO (spec_ReadMoney.f k a0) (spec_ReadMoney.f (k + 1) a0) := by
 intro a0 k; obtain ⟨ih0, ih1, ih2, ih3⟩ := spec_ReadMoney.mono_l k; unfold spec_ReadMoney.f
 repeat' first
   | (with_reducible exact ih0 _ _ _)
   | (with_reducible exact ih1 _ _ _ _)
   | (with_reducible exact ih2 _ _ _ _ _)
   | (with_reducible exact ih3 _ _ _ _ _)
   | (with_reducible exact spec_l00Number.mono _ _)
   | (with_reducible exact LeO.refl _)
   | (with_reducible exact LeO.none _)
   | (with_reducible refine LeO.ite ?_ ?_)
   | (with_reducible refine LeO.bind ?_ (fun _ => ?_))
   | exact ih0 _ _ _
   | exact ih1 _ _ _ _
   | exact ih2 _ _ _ _ _
   | exact ih3 _ _ _ _ _
   | exact spec_l00Number.mono _ _
   | exact LeO.none _
   | refine LeO.ite ?_ ?_
   | refine LeO.bind ?_ (fun _ => ?_)
set_option maxHeartbeats 8000000 in
set_option maxRecDepth 100000 in
theorem spec_ReadMoney.calls (k : Nat) (a0 : ByteArray) (r1 : Int) (r2 : Int) (w : World) (h : spec_ReadMoney.f k a0 = some (r1, r2)) :
  Calls Tryd.prog 20 #[.string a0] w fun e w' => e = .returned (.tuple #[.int .i64 r1, .int .i64 r2]) ∧ Drawn0 w w' := by
 have H : (if (a0.size : Int) > 65536 then (some (0, 2)) else (if (a0.size : Int) < 4 then (spec_ReadMoney.j0 k a0 (a0.size : Int) true) else (if 0 ≤ (wrap64 ((a0.size : Int) - 3)) then (if (wrap64 ((a0.size : Int) - 3)) < (a0.size : Int) then (spec_ReadMoney.j0 k a0 (a0.size : Int) ((bt a0 (wrap64 ((a0.size : Int) - 3))) != 46)) else (none)) else (none)))) = some (r1, r2) := h; clear h; by_cases c2 : (a0.size : Int) > 65536
 ·rw [if_pos c2] at H; have c2b0 : decide (65536 < (a0.size : Int)) = true := decide_eq_true c2; have c2b1 : decide (65536 < a0.size) = true := decide_eq_true (by omega); clear c2; simp only [Option.some.injEq, Prod.mk.injEq] at H; obtain ⟨rfl, rfl⟩ := H; go_enter Tryd.func20, Tryd.ntmps20; go_wp2; go_ret2; exact ⟨by first | rfl | (simp; done) | (simp [*]; done), by repeat (first | exact Drawn0.refl _ | apply Drawn0.step)⟩
 ·rw [if_neg c2] at H; have c2b0 : decide (65536 < (a0.size : Int)) = false := decide_eq_false c2; have c2b1 : decide (65536 < a0.size) = false := decide_eq_false (by omega); clear c2; have HC3 := Aside0.mk H; clear H; go_enter Tryd.func20, Tryd.ntmps20
  go_upto_region 4 with (fail)
  go_cut [25] (fun v25 wc => ∃ (kq : Nat) (x25_2 : Bool), v25 = .bool x25_2 ∧ Aside0 (spec_ReadMoney.j0 kq a0 (a0.size : Int) x25_2 = some (r1, r2)) ∧ Aside0 (kq ≤ k) ∧ Drawn0 w wc)
  case first =>
   have H := HC3.out; clear HC3; by_cases c4 : (a0.size : Int) < 4
   ·rw [if_pos c4] at H; have c4b0 : decide ((a0.size : Int) < 4) = true := decide_eq_true c4; have c4b1 : decide (a0.size < 4) = true := decide_eq_true (by omega); clear c4
    (first | rw [c4b0] | (simp only [i64_w, i32_w]; rw [c4b0]) | skip)
    have H' := Aside0.mk H; clear H; go_wp2
    go_meet
    case rel => exact ⟨_, (true), (by first | rfl | (simp; done) | (simp [*]; done)), H', ⟨by first | omega | exact Nat.le_refl _⟩, by repeat (first | exact Drawn0.refl _ | apply Drawn0.step)⟩
   ·rw [if_neg c4] at H; have c4b0 : decide ((a0.size : Int) < 4) = false := decide_eq_false c4; have c4b1 : decide (a0.size < 4) = false := decide_eq_false (by omega); clear c4
    (first | rw [c4b0] | (simp only [i64_w, i32_w]; rw [c4b0]) | skip)
    obtain ⟨ji5, hji5⟩ : ∃ j_ : Int, (wrap64 ((a0.size : Int) - 3)) = j_ := ⟨_, rfl⟩
    replace H : (if 0 ≤ (ji5) then (if (ji5) < (a0.size : Int) then (spec_ReadMoney.j0 k a0 (a0.size : Int) ((bt a0 (ji5)) != 46)) else (none)) else (none)) = some (r1, r2) := by first | (rw [hji5] at H; exact H) | (simp only [hji5] at H ⊢; exact H)
    have hji5w : (IntKind.i64.wrap ((a0.size : Int) - 3)) = ji5 := (i64_w _).trans hji5; by_cases c6 : 0 ≤ (ji5)
    ·rw [if_pos c6] at H; have c6b0 : decide (0 ≤ (ji5)) = true := decide_eq_true c6; clear c6; by_cases c7 : (ji5) < (a0.size : Int)
     ·rw [if_pos c7] at H; have c7b0 : decide ((ji5) < (a0.size : Int)) = true := decide_eq_true c7; clear c7; have H' := Aside0.mk H; clear H; have p8 : 0 ≤ ((ji5) : Int) := of_decide_eq_true (by first | (with_reducible assumption) | assumption); have q8 : (ji5) < (a0.size : Int) := of_decide_eq_true (by first | (with_reducible assumption) | assumption); have hx8 := bt_at a0 (ji5); replace p8 := eq_true p8; replace q8 := eq_true q8; go_wp2
      go_meet
      case rel => exact ⟨_, (((bt a0 (ji5)) != 46)), (by first | rfl | (simp; done) | (simp only [← hji5] <;> (first | rfl | simp)) | (simp [*]; done)), H', ⟨by first | omega | exact Nat.le_refl _⟩, by repeat (first | exact Drawn0.refl _ | apply Drawn0.step)⟩
     ·rw [if_neg c7] at H; exact absurd H (by simp)
    ·rw [if_neg c6] at H; exact absurd H (by simp)
  case rest =>
   clear HC3; (try clear c2); (try clear c2b0); (try clear c2b1); (try clear p2); (try clear c4); (try clear c4b0); (try clear c4b1); (try clear c6); (try clear c6b0); (try clear p6); (try clear c7); (try clear c7b0); (try clear p8); (try clear q8); (try clear hx8); (try clear p8); (try clear q8); obtain ⟨kq, x25_2, rfl, HA, HJ2, ⟨mc2, rfl⟩⟩ := hcut
   cases kq with
   | zero => exact absurd HA.out (by simp [spec_ReadMoney.j0])
   | succ kj2 =>
    have H := HA.out; clear HA; simp only [spec_ReadMoney.j0] at H; by_cases c9 : x25_2 = true
    ·subst c9
     have H1 : (some (0, 4)) = some (r1, r2) := by rw [if_pos rfl] at H; exact H
     clear H; have H := H1; clear H1; simp only [Option.some.injEq, Prod.mk.injEq] at H; obtain ⟨rfl, rfl⟩ := H; go_wp2; go_ret2; exact ⟨by first | rfl | (simp; done) | (simp [*]; done), by repeat (first | exact Drawn0.refl _ | apply Drawn0.step)⟩
    ·replace c9 := Bool.eq_false_iff.mpr c9; subst c9
     have H1 : (if 0 ≤ (wrap64 ((a0.size : Int) - 3)) then (if (wrap64 ((a0.size : Int) - 3)) ≤ (a0.size : Int) then (if 0 < ((a0.extract 0 ((wrap64 ((a0.size : Int) - 3)) : Int).toNat).size : Int) then (if (bt (a0.extract 0 ((wrap64 ((a0.size : Int) - 3)) : Int).toNat) 0) = 45 then (if 1 ≤ ((a0.extract 0 ((wrap64 ((a0.size : Int) - 3)) : Int).toNat).size : Int) then (spec_ReadMoney.j1 kj2 a0 (a0.size : Int) (-1) ((a0.extract 0 ((wrap64 ((a0.size : Int) - 3)) : Int).toNat).extract 1 (a0.extract 0 ((wrap64 ((a0.size : Int) - 3)) : Int).toNat).size)) else (none)) else (spec_ReadMoney.j1 kj2 a0 (a0.size : Int) 1 (a0.extract 0 ((wrap64 ((a0.size : Int) - 3)) : Int).toNat))) else (none)) else (none)) else (none)) = some (r1, r2) := by rw [if_neg (show ¬ (false = true) by decide)] at H; exact H
     clear H; have H := H1; clear H1; obtain ⟨ji10, hji10⟩ : ∃ j_ : Int, (wrap64 ((a0.size : Int) - 3)) = j_ := ⟨_, rfl⟩
     replace H : (if 0 ≤ (ji10) then (if (ji10) ≤ (a0.size : Int) then (if 0 < ((a0.extract 0 ((ji10) : Int).toNat).size : Int) then (if (bt (a0.extract 0 ((ji10) : Int).toNat) 0) = 45 then (if 1 ≤ ((a0.extract 0 ((ji10) : Int).toNat).size : Int) then (spec_ReadMoney.j1 kj2 a0 (a0.size : Int) (-1) ((a0.extract 0 ((ji10) : Int).toNat).extract 1 (a0.extract 0 ((ji10) : Int).toNat).size)) else (none)) else (spec_ReadMoney.j1 kj2 a0 (a0.size : Int) 1 (a0.extract 0 ((ji10) : Int).toNat))) else (none)) else (none)) else (none)) = some (r1, r2) := by first | (rw [hji10] at H; exact H) | (simp only [hji10] at H ⊢; exact H)
     have hji10w : (IntKind.i64.wrap ((a0.size : Int) - 3)) = ji10 := (i64_w _).trans hji10; by_cases c11 : 0 ≤ (ji10)
     ·rw [if_pos c11] at H; have c11b0 := eq_true c11; have c11b1 : decide (0 ≤ (ji10)) = true := decide_eq_true c11; clear c11; by_cases c12 : (ji10) ≤ (a0.size : Int)
      ·rw [if_pos c12] at H; have c12b0 := eq_true c12; have c12b1 : decide ((ji10) ≤ (a0.size : Int)) = true := decide_eq_true c12; clear c12; obtain ⟨xh_ji10, hxh_ji10⟩ : ∃ x_, a0.extract 0 ((ji10) : Int).toNat = x_ := ⟨_, rfl⟩; simp only [hxh_ji10] at H; by_cases c13 : 0 < (xh_ji10.size : Int)
       ·rw [if_pos c13] at H; have c13b0 : decide (0 < (xh_ji10.size : Int)) = true := decide_eq_true c13; have c13b1 : decide (0 < xh_ji10.size) = true := decide_eq_true (by omega); clear c13; have HC15 := Aside0.mk H; clear H; have p14 : 0 ≤ (0 : Int) := (by omega); have q14 : 0 < xh_ji10.size := (by have : (0 : Int) < (xh_ji10.size : Int) := of_decide_eq_true (by first | (with_reducible assumption) | assumption); omega); have hx14 : ∀ h : 0 < xh_ji10.size, ((xh_ji10[0]'h).toNat : Int) = bt xh_ji10 0 := bt_at xh_ji10 0; clear p14; have qi14 : (0 < (xh_ji10.size : Int)) = True := eq_true (of_decide_eq_true (by first | (with_reducible assumption) | assumption)); replace q14 := eq_true q14
        go_upto_if 32 with (fail)
        go_cut [5, 6] (fun v5 v6 wc => ∃ (kq : Nat) (x5_14 : Int) (x6_14 : ByteArray), v5 = .int .i64 x5_14 ∧ v6 = .string x6_14 ∧ Aside0 (spec_ReadMoney.j1 kq a0 (a0.size : Int) x5_14 x6_14 = some (r1, r2)) ∧ Aside0 (kq ≤ kj2) ∧ Drawn0 w wc)
        case first =>
         have H := HC15.out; clear HC15; by_cases c16 : (bt xh_ji10 0) = 45
         ·rw [if_pos c16] at H; have c16b0 : ((bt xh_ji10 0) == 45) = true := beq_iff_eq.mpr c16; have c16b1 : ((bt xh_ji10 0) != 45) = false := bne_eq_false_iff_eq.mpr c16; clear c16
          (first | rw [c16b0] | (simp only [i64_w, i32_w]; rw [c16b0]) | skip)
          by_cases c17 : 1 ≤ (xh_ji10.size : Int)
          ·rw [if_pos c17] at H; have c17b0 := eq_true c17; have c17b1 : decide (1 ≤ (xh_ji10.size : Int)) = true := decide_eq_true c17; clear c17; have H' := Aside0.mk H; clear H; go_wp2
           go_meet
           case rel => exact ⟨_, ((-1)), (xh_ji10.extract 1 xh_ji10.size), (by first | rfl | (simp; done) | (simp [*]; done)), (by first | rfl | (simp; done) | (simp only [← hji10] <;> (first | rfl | simp)) | (simp [*]; done)), H', ⟨by have := HJ2.out; first | omega | exact Nat.le_refl _⟩, by repeat (first | exact Drawn0.refl _ | apply Drawn0.step)⟩
          ·rw [if_neg c17] at H; exact absurd H (by simp)
         ·rw [if_neg c16] at H; have c16b0 : ((bt xh_ji10 0) == 45) = false := beq_eq_false_iff_ne.mpr c16; have c16b1 : ((bt xh_ji10 0) != 45) = true := bne_iff_ne.mpr c16
          (first | rw [c16b0] | (simp only [i64_w, i32_w]; rw [c16b0]) | skip)
          have H' := Aside0.mk H; clear H; go_wp2
          go_meet
          case rel => exact ⟨_, (1), xh_ji10, (by first | rfl | (simp; done) | (simp [*]; done)), (by first | rfl | (simp; done) | (simp only [← hji10] <;> (first | rfl | simp)) | (simp [*]; done)), H', ⟨by have := HJ2.out; first | omega | exact Nat.le_refl _⟩, by repeat (first | exact Drawn0.refl _ | apply Drawn0.step)⟩
        case rest =>
         clear HC15; (try clear c1); (try clear p1); (try clear q1); (try clear hx1); (try clear qi1); (try clear c2); (try clear c2b0); (try clear c2b1); (try clear p2); (try clear c4); (try clear c4b0); (try clear c4b1); (try clear c6); (try clear c6b0); (try clear p6); (try clear c7); (try clear c7b0); (try clear p8); (try clear q8); (try clear hx8); (try clear c9); (try clear c11); (try clear c11b0); (try clear c11b1); (try clear c12); (try clear c12b0); (try clear c12b1); (try clear c13); (try clear c13b0); (try clear c13b1); (try clear p14); (try clear q14); (try clear hx14); (try clear qi14); (try clear c16); (try clear c16b0); (try clear c16b1); (try clear c17); (try clear c17b0); (try clear c17b1); (try clear p14); (try clear p2); (try clear p6); (try clear p8); (try clear q14); (try clear q8); obtain ⟨kq, x5_14, x6_14, rfl, rfl, HA, HJ14, ⟨mc14, rfl⟩⟩ := hcut
         cases kq with
         | zero => exact absurd HA.out (by simp [spec_ReadMoney.j1])
         | succ kj14 =>
          have H := HA.out; clear HA; simp only [spec_ReadMoney.j1] at H; replace H := Option.bind_eq_some_iff.mp H; obtain ⟨⟨t103, t104⟩, A180, H⟩ := H; replace H : (if t104 = true then (if (x6_14.size : Int) > 15 then (spec_ReadMoney.j2 kj14 a0 (a0.size : Int) x5_14 t103 true) else (if 0 < (x6_14.size : Int) then (spec_ReadMoney.j2 kj14 a0 (a0.size : Int) x5_14 t103 ((bt x6_14 0) == 45)) else (none))) else (spec_ReadMoney.j2 kj14 a0 (a0.size : Int) x5_14 t103 true)) = some (r1, r2) := H; have A18 := Aside0.mk A180; clear A180; have HC19 := Aside0.mk H; clear H
          go_upto_region 12 with (first | ((with_reducible refine gate_callee (f := 40) rfl ?_); refine goesL_ (some 37) rfl rfl Tryd.func40 (by kernel_rfl) rfl #[.string x6_14] rfl mq ?_; (with_reducible refine (spec_l00Number.calls kj14 x6_14 t103 t104 _ A18.out).mono ?_); rintro e w' ⟨rfl, ⟨nd, rfl⟩⟩; refine ⟨_, rfl, ?_⟩))
          (try simp only [Act.put, sA, s0, sS])
          go_cut [51] (fun v51 wc => ∃ (kq : Nat) (x51_18 : Bool), v51 = .bool x51_18 ∧ Aside0 (spec_ReadMoney.j2 kq a0 (a0.size : Int) x5_14 t103 x51_18 = some (r1, r2)) ∧ Aside0 (kq ≤ kj14) ∧ Drawn0 w wc)
          case first =>
           have H := HC19.out; clear HC19; by_cases c20 : t104 = true
           ·subst c20
            have H1 : (if (x6_14.size : Int) > 15 then (spec_ReadMoney.j2 kj14 a0 (a0.size : Int) x5_14 t103 true) else (if 0 < (x6_14.size : Int) then (spec_ReadMoney.j2 kj14 a0 (a0.size : Int) x5_14 t103 ((bt x6_14 0) == 45)) else (none))) = some (r1, r2) := by rw [if_pos rfl] at H; exact H
            clear H; have H := H1; clear H1; by_cases c21 : (x6_14.size : Int) > 15
            ·rw [if_pos c21] at H; have c21b0 : decide (15 < (x6_14.size : Int)) = true := decide_eq_true c21; have c21b1 : decide (15 < x6_14.size) = true := decide_eq_true (by omega); clear c21
             (first | rw [c21b0] | (simp only [i64_w, i32_w]; rw [c21b0]) | skip)
             have H' := Aside0.mk H; clear H; go_wp2
             go_meet
             case rel => exact ⟨_, (true), (by first | rfl | (simp; done) | (simp [*]; done)), H', ⟨by have := HJ2.out; have := HJ14.out; first | omega | exact Nat.le_refl _⟩, by repeat (first | exact Drawn0.refl _ | apply Drawn0.step)⟩
            ·rw [if_neg c21] at H; have c21b0 : decide (15 < (x6_14.size : Int)) = false := decide_eq_false c21; have c21b1 : decide (15 < x6_14.size) = false := decide_eq_false (by omega); clear c21
             (first | rw [c21b0] | (simp only [i64_w, i32_w]; rw [c21b0]) | skip)
             by_cases c22 : 0 < (x6_14.size : Int)
             ·rw [if_pos c22] at H; have c22b0 : decide (0 < (x6_14.size : Int)) = true := decide_eq_true c22; have c22b1 : decide (0 < x6_14.size) = true := decide_eq_true (by omega); clear c22; have H' := Aside0.mk H; clear H; have p23 : 0 ≤ (0 : Int) := (by omega); have q23 : 0 < x6_14.size := (by have : (0 : Int) < (x6_14.size : Int) := of_decide_eq_true (by first | (with_reducible assumption) | assumption); omega); have hx23 : ∀ h : 0 < x6_14.size, ((x6_14[0]'h).toNat : Int) = bt x6_14 0 := bt_at x6_14 0; clear p23; have qi23 : (0 < (x6_14.size : Int)) = True := eq_true (of_decide_eq_true (by first | (with_reducible assumption) | assumption)); replace q23 := eq_true q23; go_wp2
              go_meet
              case rel => exact ⟨_, (((bt x6_14 0) == 45)), (by first | rfl | (simp; done) | (simp [*]; done)), H', ⟨by have := HJ2.out; have := HJ14.out; first | omega | exact Nat.le_refl _⟩, by repeat (first | exact Drawn0.refl _ | apply Drawn0.step)⟩
             ·rw [if_neg c22] at H; exact absurd H (by simp)
           ·replace c20 := Bool.eq_false_iff.mpr c20; subst c20
            have H1 : (spec_ReadMoney.j2 kj14 a0 (a0.size : Int) x5_14 t103 true) = some (r1, r2) := by rw [if_neg (show ¬ (false = true) by decide)] at H; exact H
            clear H; have H := H1; clear H1; have H' := Aside0.mk H; clear H; go_wp2
            go_meet
            case rel => exact ⟨_, (true), (by first | rfl | (simp; done) | (simp [*]; done)), H', ⟨by have := HJ2.out; have := HJ14.out; first | omega | exact Nat.le_refl _⟩, by repeat (first | exact Drawn0.refl _ | apply Drawn0.step)⟩
          case rest =>
           clear HC19; (try clear c1); (try clear p1); (try clear q1); (try clear hx1); (try clear qi1); (try clear c2); (try clear c2b0); (try clear c2b1); (try clear p2); (try clear q2); (try clear hx2); (try clear qi2); (try clear c4); (try clear c4b0); (try clear c4b1); (try clear c6); (try clear c6b0); (try clear p6); (try clear c7); (try clear c7b0); (try clear p8); (try clear q8); (try clear hx8); (try clear c9); (try clear c11); (try clear c11b0); (try clear c11b1); (try clear c12); (try clear c12b0); (try clear c12b1); (try clear c13); (try clear c13b0); (try clear c13b1); (try clear c14); (try clear p14); (try clear q14); (try clear hx14); (try clear qi14); (try clear c16); (try clear c16b0); (try clear c16b1); (try clear c17); (try clear c17b0); (try clear c17b1); (try clear c20); (try clear c21); (try clear c21b0); (try clear c21b1); (try clear c22); (try clear c22b0); (try clear c22b1); (try clear p23); (try clear q23); (try clear hx23); (try clear qi23); (try clear p1); (try clear p14); (try clear p2); (try clear p23); (try clear p6); (try clear p8); (try clear q1); (try clear q14); (try clear q23); (try clear q8); obtain ⟨kq, x51_18, rfl, HA, HJ18, ⟨mc18, rfl⟩⟩ := hcut
           cases kq with
           | zero => exact absurd HA.out (by simp [spec_ReadMoney.j2])
           | succ kj18 =>
            have H := HA.out; clear HA; simp only [spec_ReadMoney.j2] at H; by_cases c24 : x51_18 = true
            ·subst c24
             have H1 : (some (0, 4)) = some (r1, r2) := by rw [if_pos rfl] at H; exact H
             clear H; have H := H1; clear H1; simp only [Option.some.injEq, Prod.mk.injEq] at H; obtain ⟨rfl, rfl⟩ := H; go_wp2; go_ret2; exact ⟨by first | rfl | (simp; done) | (simp only [← hji10] <;> (first | rfl | simp)) | (simp [*]; done), by repeat (first | exact Drawn0.refl _ | apply Drawn0.step)⟩
            ·replace c24 := Bool.eq_false_iff.mpr c24; subst c24
             have H1 : (if 0 ≤ (wrap64 ((a0.size : Int) - 2)) then (if (wrap64 ((a0.size : Int) - 2)) < (a0.size : Int) then (if 0 ≤ (wrap64 ((a0.size : Int) - 1)) then (if (wrap64 ((a0.size : Int) - 1)) < (a0.size : Int) then ((spec_l01In.f (wrap64 ((wrap64 (bt a0 (wrap64 ((a0.size : Int) - 2)))) - 48)) 0 9).bind fun t105 => (if t105 = true then ((spec_l01In.f (wrap64 ((wrap64 (bt a0 (wrap64 ((a0.size : Int) - 1)))) - 48)) 0 9).bind fun t106 => (spec_ReadMoney.j3 kj18 x5_14 t103 (wrap64 ((wrap64 (bt a0 (wrap64 ((a0.size : Int) - 2)))) - 48)) (wrap64 ((wrap64 (bt a0 (wrap64 ((a0.size : Int) - 1)))) - 48)) (!t106))) else (spec_ReadMoney.j3 kj18 x5_14 t103 (wrap64 ((wrap64 (bt a0 (wrap64 ((a0.size : Int) - 2)))) - 48)) (wrap64 ((wrap64 (bt a0 (wrap64 ((a0.size : Int) - 1)))) - 48)) true))) else (none)) else (none)) else (none)) else (none)) = some (r1, r2) := by rw [if_neg (show ¬ (false = true) by decide)] at H; exact H
             clear H; have H := H1; clear H1; obtain ⟨ji25, hji25⟩ : ∃ j_ : Int, (wrap64 ((a0.size : Int) - 2)) = j_ := ⟨_, rfl⟩
             replace H : (if 0 ≤ (ji25) then (if (ji25) < (a0.size : Int) then (if 0 ≤ (wrap64 ((a0.size : Int) - 1)) then (if (wrap64 ((a0.size : Int) - 1)) < (a0.size : Int) then ((spec_l01In.f (wrap64 ((wrap64 (bt a0 (ji25))) - 48)) 0 9).bind fun t105 => (if t105 = true then ((spec_l01In.f (wrap64 ((wrap64 (bt a0 (wrap64 ((a0.size : Int) - 1)))) - 48)) 0 9).bind fun t106 => (spec_ReadMoney.j3 kj18 x5_14 t103 (wrap64 ((wrap64 (bt a0 (ji25))) - 48)) (wrap64 ((wrap64 (bt a0 (wrap64 ((a0.size : Int) - 1)))) - 48)) (!t106))) else (spec_ReadMoney.j3 kj18 x5_14 t103 (wrap64 ((wrap64 (bt a0 (ji25))) - 48)) (wrap64 ((wrap64 (bt a0 (wrap64 ((a0.size : Int) - 1)))) - 48)) true))) else (none)) else (none)) else (none)) else (none)) = some (r1, r2) := by first | (rw [hji25] at H; exact H) | (simp only [hji25] at H ⊢; exact H)
             have hji25w : (IntKind.i64.wrap ((a0.size : Int) - 2)) = ji25 := (i64_w _).trans hji25; by_cases c26 : 0 ≤ (ji25)
             ·rw [if_pos c26] at H; have c26b0 : decide (0 ≤ (ji25)) = true := decide_eq_true c26; clear c26; by_cases c27 : (ji25) < (a0.size : Int)
              ·rw [if_pos c27] at H; have c27b0 : decide ((ji25) < (a0.size : Int)) = true := decide_eq_true c27; clear c27; obtain ⟨ji29, hji29⟩ : ∃ j_ : Int, (wrap64 ((a0.size : Int) - 1)) = j_ := ⟨_, rfl⟩
               replace H : (if 0 ≤ (ji29) then (if (ji29) < (a0.size : Int) then ((spec_l01In.f (wrap64 ((wrap64 (bt a0 (ji25))) - 48)) 0 9).bind fun t105 => (if t105 = true then ((spec_l01In.f (wrap64 ((wrap64 (bt a0 (ji29))) - 48)) 0 9).bind fun t106 => (spec_ReadMoney.j3 kj18 x5_14 t103 (wrap64 ((wrap64 (bt a0 (ji25))) - 48)) (wrap64 ((wrap64 (bt a0 (ji29))) - 48)) (!t106))) else (spec_ReadMoney.j3 kj18 x5_14 t103 (wrap64 ((wrap64 (bt a0 (ji25))) - 48)) (wrap64 ((wrap64 (bt a0 (ji29))) - 48)) true))) else (none)) else (none)) = some (r1, r2) := by first | (rw [hji29] at H; exact H) | (simp only [hji29] at H ⊢; exact H)
               have hji29w : (IntKind.i64.wrap ((a0.size : Int) - 1)) = ji29 := (i64_w _).trans hji29; by_cases c30 : 0 ≤ (ji29)
               ·rw [if_pos c30] at H; have c30b0 : decide (0 ≤ (ji29)) = true := decide_eq_true c30; clear c30; by_cases c31 : (ji29) < (a0.size : Int)
                ·rw [if_pos c31] at H; have c31b0 : decide ((ji29) < (a0.size : Int)) = true := decide_eq_true c31; clear c31; have HC33 := Aside0.mk H; clear H; have p28 : 0 ≤ ((ji25) : Int) := of_decide_eq_true (by first | (with_reducible assumption) | assumption); have q28 : (ji25) < (a0.size : Int) := of_decide_eq_true (by first | (with_reducible assumption) | assumption); have hx28 := bt_at a0 (ji25); replace p28 := eq_true p28; replace q28 := eq_true q28; have p32 : 0 ≤ ((ji29) : Int) := of_decide_eq_true (by first | (with_reducible assumption) | assumption); have q32 : (ji29) < (a0.size : Int) := of_decide_eq_true (by first | (with_reducible assumption) | assumption); have hx32 := bt_at a0 (ji29); replace p32 := eq_true p32; replace q32 := eq_true q32
                 go_upto_region 16 with (fail)
                 go_cut [71] (fun v71 wc => ∃ (kq : Nat) (x71_32 : Bool), v71 = .bool x71_32 ∧ Aside0 (spec_ReadMoney.j3 kq x5_14 t103 (wrap64 ((wrap64 (bt a0 (ji25))) - 48)) (wrap64 ((wrap64 (bt a0 (ji29))) - 48)) x71_32 = some (r1, r2)) ∧ Aside0 (kq ≤ kj18) ∧ Drawn0 w wc)
                 case first =>
                  have H := HC33.out; clear HC33; replace H := Option.bind_eq_some_iff.mp H; obtain ⟨t105, A340, H⟩ := H; replace H : (if t105 = true then ((spec_l01In.f (wrap64 ((wrap64 (bt a0 (ji29))) - 48)) 0 9).bind fun t106 => (spec_ReadMoney.j3 kj18 x5_14 t103 (wrap64 ((wrap64 (bt a0 (ji25))) - 48)) (wrap64 ((wrap64 (bt a0 (ji29))) - 48)) (!t106))) else (spec_ReadMoney.j3 kj18 x5_14 t103 (wrap64 ((wrap64 (bt a0 (ji25))) - 48)) (wrap64 ((wrap64 (bt a0 (ji29))) - 48)) true)) = some (r1, r2) := H; have A34 := Aside0.mk A340; clear A340; by_cases c35 : t105 = true
                  ·subst c35
                   have H1 : ((spec_l01In.f (wrap64 ((wrap64 (bt a0 (ji29))) - 48)) 0 9).bind fun t106 => (spec_ReadMoney.j3 kj18 x5_14 t103 (wrap64 ((wrap64 (bt a0 (ji25))) - 48)) (wrap64 ((wrap64 (bt a0 (ji29))) - 48)) (!t106))) = some (r1, r2) := by rw [if_pos rfl] at H; exact H
                   clear H; have H := H1; clear H1; replace H := Option.bind_eq_some_iff.mp H; obtain ⟨t106, A360, H⟩ := H; replace H : (spec_ReadMoney.j3 kj18 x5_14 t103 (wrap64 ((wrap64 (bt a0 (ji25))) - 48)) (wrap64 ((wrap64 (bt a0 (ji29))) - 48)) (!t106)) = some (r1, r2) := H; have A36 := Aside0.mk A360; clear A360; have H' := Aside0.mk H; clear H
                   go_wp2_with (first | ((with_reducible refine gate_callee (f := 37) rfl ?_); refine goesL_ (some 65) rfl rfl Tryd.func37 (by kernel_rfl) rfl #[.int .i64 (wrap64 ((wrap64 (bt a0 (ji25))) - 48)), .int .i64 0, .int .i64 9] rfl (by (try simp only [List.map_toArray, List.map_cons, List.map_nil]); first | done | (simp only [hji25]; rfl) | rfl | (simp only [List.length_drop, List.length_take]; rfl)) ?_; (with_reducible refine (spec_l01In.calls (wrap64 ((wrap64 (bt a0 (ji25))) - 48)) 0 9 true _ A34.out).mono ?_); rintro e w' ⟨rfl, ⟨nd, rfl⟩⟩; refine ⟨_, rfl, ?_⟩) | (go_at_call 37; (with_reducible refine (spec_l01In.calls (wrap64 ((wrap64 (bt a0 (ji29))) - 48)) 0 9 t106 _ A36.out).mono ?_); rintro e w' ⟨rfl, ⟨nd, rfl⟩⟩))
                   go_meet
                   case rel => exact ⟨_, (!t106), (by first | rfl | (simp; done) | (simp [*]; done)), H', ⟨by have := HJ2.out; have := HJ14.out; have := HJ18.out; first | omega | exact Nat.le_refl _⟩, by repeat (first | exact Drawn0.refl _ | apply Drawn0.step)⟩
                  ·replace c35 := Bool.eq_false_iff.mpr c35; subst c35
                   have H1 : (spec_ReadMoney.j3 kj18 x5_14 t103 (wrap64 ((wrap64 (bt a0 (ji25))) - 48)) (wrap64 ((wrap64 (bt a0 (ji29))) - 48)) true) = some (r1, r2) := by rw [if_neg (show ¬ (false = true) by decide)] at H; exact H
                   clear H; have H := H1; clear H1; have H' := Aside0.mk H; clear H
                   go_wp2_with (first | ((with_reducible refine gate_callee (f := 37) rfl ?_); refine goesL_ (some 65) rfl rfl Tryd.func37 (by kernel_rfl) rfl #[.int .i64 (wrap64 ((wrap64 (bt a0 (ji25))) - 48)), .int .i64 0, .int .i64 9] rfl (by (try simp only [List.map_toArray, List.map_cons, List.map_nil]); first | done | (simp only [hji25]; rfl) | rfl | (simp only [List.length_drop, List.length_take]; rfl)) ?_; (with_reducible refine (spec_l01In.calls (wrap64 ((wrap64 (bt a0 (ji25))) - 48)) 0 9 false _ A34.out).mono ?_); rintro e w' ⟨rfl, ⟨nd, rfl⟩⟩; refine ⟨_, rfl, ?_⟩))
                   go_meet
                   case rel => exact ⟨_, (true), (by first | rfl | (simp; done) | (simp [*]; done)), H', ⟨by have := HJ2.out; have := HJ14.out; have := HJ18.out; first | omega | exact Nat.le_refl _⟩, by repeat (first | exact Drawn0.refl _ | apply Drawn0.step)⟩
                 case rest =>
                  clear HC33; (try clear c1); (try clear p1); (try clear q1); (try clear hx1); (try clear qi1); (try clear c2); (try clear c2b0); (try clear c2b1); (try clear p2); (try clear q2); (try clear hx2); (try clear qi2); (try clear c3); (try clear p3); (try clear q3); (try clear hx3); (try clear c4); (try clear c4b0); (try clear c4b1); (try clear c6); (try clear c6b0); (try clear p6); (try clear c7); (try clear c7b0); (try clear p8); (try clear q8); (try clear hx8); (try clear c9); (try clear c11); (try clear c11b0); (try clear c11b1); (try clear c12); (try clear c12b0); (try clear c12b1); (try clear c13); (try clear c13b0); (try clear c13b1); (try clear c14); (try clear p14); (try clear q14); (try clear hx14); (try clear qi14); (try clear c16); (try clear c16b0); (try clear c16b1); (try clear c17); (try clear c17b0); (try clear c17b1); (try clear c18); (try clear c20); (try clear c21); (try clear c21b0); (try clear c21b1); (try clear c22); (try clear c22b0); (try clear c22b1); (try clear p23); (try clear q23); (try clear hx23); (try clear qi23); (try clear c24); (try clear c26); (try clear c26b0); (try clear c27); (try clear c27b0); (try clear p28); (try clear q28); (try clear hx28); (try clear c30); (try clear c30b0); (try clear c31); (try clear c31b0); (try clear p32); (try clear q32); (try clear hx32); (try clear c35); (try clear p1); (try clear p14); (try clear p2); (try clear p23); (try clear p28); (try clear p32); (try clear p6); (try clear p8); (try clear q1); (try clear q14); (try clear q2); (try clear q23); (try clear q28); (try clear q32); (try clear q8); obtain ⟨kq, x71_32, rfl, HA, HJ32, ⟨mc32, rfl⟩⟩ := hcut
                  cases kq with
                  | zero => exact absurd HA.out (by simp [spec_ReadMoney.j3])
                  | succ kj32 =>
                   have H := HA.out; clear HA; simp only [spec_ReadMoney.j3] at H; by_cases c37 : x71_32 = true
                   ·subst c37
                    have H1 : (some (0, 4)) = some (r1, r2) := by rw [if_pos rfl] at H; exact H
                    clear H; have H := H1; clear H1; simp only [Option.some.injEq, Prod.mk.injEq] at H; obtain ⟨rfl, rfl⟩ := H; go_wp2; go_ret2; exact ⟨by first | rfl | (simp; done) | (simp only [← hji10, ← hji25, ← hji29] <;> (first | rfl | simp)) | (simp [*]; done), by repeat (first | exact Drawn0.refl _ | apply Drawn0.step)⟩
                   ·replace c37 := Bool.eq_false_iff.mpr c37; subst c37
                    have H1 : (if (wrap64 ((wrap64 ((wrap64 (t103 * 100)) + (wrap64 ((wrap64 ((wrap64 (bt a0 (ji25))) - 48)) * 10)))) + (wrap64 ((wrap64 (bt a0 (ji29))) - 48)))) = 0 then (if x5_14 < 0 then (some (0, 4)) else ((spec_l01Told.f (wrap64 (x5_14 * (wrap64 ((wrap64 ((wrap64 (t103 * 100)) + (wrap64 ((wrap64 ((wrap64 (bt a0 (ji25))) - 48)) * 10)))) + (wrap64 ((wrap64 (bt a0 (ji29))) - 48))))))).bind fun bt107 => (some (bt107.1, bt107.2)))) else ((spec_l01Told.f (wrap64 (x5_14 * (wrap64 ((wrap64 ((wrap64 (t103 * 100)) + (wrap64 ((wrap64 ((wrap64 (bt a0 (ji25))) - 48)) * 10)))) + (wrap64 ((wrap64 (bt a0 (ji29))) - 48))))))).bind fun bt109 => (some (bt109.1, bt109.2)))) = some (r1, r2) := by rw [if_neg (show ¬ (false = true) by decide)] at H; exact H
                    clear H; have H := H1; clear H1; by_cases c38 : (wrap64 ((wrap64 ((wrap64 (t103 * 100)) + (wrap64 ((wrap64 ((wrap64 (bt a0 (ji25))) - 48)) * 10)))) + (wrap64 ((wrap64 (bt a0 (ji29))) - 48)))) = 0
                    ·rw [if_pos c38] at H; have c38b0 : ((wrap64 ((wrap64 ((wrap64 (t103 * 100)) + (wrap64 ((wrap64 ((wrap64 (bt a0 (ji25))) - 48)) * 10)))) + (wrap64 ((wrap64 (bt a0 (ji29))) - 48)))) == 0) = true := beq_iff_eq.mpr c38; have c38b1 : ((wrap64 ((wrap64 ((wrap64 (t103 * 100)) + (wrap64 ((wrap64 ((wrap64 (bt a0 (ji25))) - 48)) * 10)))) + (wrap64 ((wrap64 (bt a0 (ji29))) - 48)))) != 0) = false := bne_eq_false_iff_eq.mpr c38; clear c38; by_cases c39 : x5_14 < 0
                     ·rw [if_pos c39] at H; have c39b0 : decide (x5_14 < 0) = true := decide_eq_true c39; clear c39; simp only [Option.some.injEq, Prod.mk.injEq] at H; obtain ⟨rfl, rfl⟩ := H; go_wp2; go_ret2; exact ⟨by first | rfl | (simp; done) | (simp only [← hji10, ← hji25, ← hji29] <;> (first | rfl | simp)) | (simp [*]; done), by repeat (first | exact Drawn0.refl _ | apply Drawn0.step)⟩
                     ·rw [if_neg c39] at H; have c39b0 : decide (x5_14 < 0) = false := decide_eq_false c39; clear c39; replace H := Option.bind_eq_some_iff.mp H; obtain ⟨⟨t107, t108⟩, A400, H⟩ := H; replace H : (some (t107, t108)) = some (r1, r2) := H; have A40 := Aside0.mk A400; clear A400; simp only [Option.some.injEq, Prod.mk.injEq] at H; obtain ⟨rfl, rfl⟩ := H
                      go_wp2_with (first | ((with_reducible refine gate_callee (f := 41) rfl ?_); refine goesL_ (some 88) rfl rfl Tryd.func41 (by kernel_rfl) rfl #[.int .i64 (wrap64 (x5_14 * (wrap64 ((wrap64 ((wrap64 (t103 * 100)) + (wrap64 ((wrap64 ((wrap64 (bt a0 (ji25))) - 48)) * 10)))) + (wrap64 ((wrap64 (bt a0 (ji29))) - 48))))))] rfl (by (try simp only [List.map_toArray, List.map_cons, List.map_nil]); first | done | (simp only [hji25, hji29]; rfl) | rfl | (simp only [List.length_drop, List.length_take]; rfl)) ?_; (with_reducible refine (spec_l01Told.calls (wrap64 (x5_14 * (wrap64 ((wrap64 ((wrap64 (t103 * 100)) + (wrap64 ((wrap64 ((wrap64 (bt a0 (ji25))) - 48)) * 10)))) + (wrap64 ((wrap64 (bt a0 (ji29))) - 48)))))) t107 t108 _ A40.out).mono ?_); rintro e w' ⟨rfl, ⟨nd, rfl⟩⟩; refine ⟨_, rfl, ?_⟩))
                      go_ret2; exact ⟨by first | rfl | (simp; done) | (simp only [← hji10, ← hji25, ← hji29] <;> (first | rfl | simp)) | (simp [*]; done), by repeat (first | exact Drawn0.refl _ | apply Drawn0.step)⟩
                    ·rw [if_neg c38] at H; have c38b0 : ((wrap64 ((wrap64 ((wrap64 (t103 * 100)) + (wrap64 ((wrap64 ((wrap64 (bt a0 (ji25))) - 48)) * 10)))) + (wrap64 ((wrap64 (bt a0 (ji29))) - 48)))) == 0) = false := beq_eq_false_iff_ne.mpr c38; have c38b1 : ((wrap64 ((wrap64 ((wrap64 (t103 * 100)) + (wrap64 ((wrap64 ((wrap64 (bt a0 (ji25))) - 48)) * 10)))) + (wrap64 ((wrap64 (bt a0 (ji29))) - 48)))) != 0) = true := bne_iff_ne.mpr c38; replace H := Option.bind_eq_some_iff.mp H; obtain ⟨⟨t109, t110⟩, A410, H⟩ := H; replace H : (some (t109, t110)) = some (r1, r2) := H; have A41 := Aside0.mk A410; clear A410; simp only [Option.some.injEq, Prod.mk.injEq] at H; obtain ⟨rfl, rfl⟩ := H
                     go_wp2_with (first | ((with_reducible refine gate_callee (f := 41) rfl ?_); refine goesL_ (some 88) rfl rfl Tryd.func41 (by kernel_rfl) rfl #[.int .i64 (wrap64 (x5_14 * (wrap64 ((wrap64 ((wrap64 (t103 * 100)) + (wrap64 ((wrap64 ((wrap64 (bt a0 (ji25))) - 48)) * 10)))) + (wrap64 ((wrap64 (bt a0 (ji29))) - 48))))))] rfl (by (try simp only [List.map_toArray, List.map_cons, List.map_nil]); first | done | (simp only [hji25, hji29]; rfl) | rfl | (simp only [List.length_drop, List.length_take]; rfl)) ?_; (with_reducible refine (spec_l01Told.calls (wrap64 (x5_14 * (wrap64 ((wrap64 ((wrap64 (t103 * 100)) + (wrap64 ((wrap64 ((wrap64 (bt a0 (ji25))) - 48)) * 10)))) + (wrap64 ((wrap64 (bt a0 (ji29))) - 48)))))) t109 t110 _ A41.out).mono ?_); rintro e w' ⟨rfl, ⟨nd, rfl⟩⟩; refine ⟨_, rfl, ?_⟩))
                     go_ret2; exact ⟨by first | rfl | (simp; done) | (simp only [← hji10, ← hji25, ← hji29] <;> (first | rfl | simp)) | (simp [*]; done), by repeat (first | exact Drawn0.refl _ | apply Drawn0.step)⟩
                ·rw [if_neg c31] at H; exact absurd H (by simp)
               ·rw [if_neg c30] at H; exact absurd H (by simp)
              ·rw [if_neg c27] at H; exact absurd H (by simp)
             ·rw [if_neg c26] at H; exact absurd H (by simp)
       ·rw [if_neg c13] at H; exact absurd H (by simp)
      ·rw [if_neg c12] at H; exact absurd H (by simp)
     ·rw [if_neg c11] at H; exact absurd H (by simp)

/-! ### strconv_Itoa: function 39, by hand, off the shelf -/
/-- The library's table of powers of ten lies as its text lays it. -/
def Tabs (w : World) : Prop := Lib.TabIs Tryd.prog w "internal/strconv.uint64pow10" .u64 Lib.pow10Tab ∧ ∃ m : Int, w.cell? ⟨0, 0, none⟩ = some (.int .i64 m)
theorem Tabs.below {w w' : World} (h : Tabs w) (hb : Below w.heap.size w w') : Tabs w' := by
 refine ⟨?_, by first | trivial | (obtain ⟨m, hm⟩ := h.2; exact ⟨m, (hb.cell (World.block_lt_of_cell? w _ hm)).trans hm⟩)⟩; replace h := h.1; unfold Lib.TabIs World.var? at h ⊢
 cases e : Tryd.prog.globalNamed "internal/strconv.uint64pow10" with
 | none => rw [e] at h; cases h
 | some g =>
  rw [e] at h; simp only [Option.bind_some] at h ⊢
  have hg : g < w.heap.size := by
   rcases Nat.lt_or_ge g w.heap.size with q | q
   ·exact q
   ·rw [Array.getElem?_eq_none q] at h; cases h
  rw [hb.block g hg]; exact h
theorem tabs {w : World} (k : Tabs w := by first | exact Aside0.out (by with_reducible assumption) | exact Tabs.below (Aside0.out (by with_reducible assumption)) (by repeat (first | (with_reducible first | exact Aside0.out (by with_reducible assumption) | exact Below.refl _ _ | apply below_alloc | apply pw_below_drewN | apply below_drew1 | refine below_set ?_ (Aside0.out (by with_reducible assumption))) | exact Aside0.out (by assumption)))) : Tabs w := k
theorem below_grow (w : World) (k : Nat) (os : Array Obj) : Below w.heap.size w (Go.Sort.grow (w.drewN k) os) :=
 ⟨rfl, rfl, rfl, by show w.heap.size ≤ (w.heap ++ os).size; rw [Array.size_append]; omega, fun i hi => by show (w.heap ++ os)[i]? = w.heap[i]?; rw [Array.getElem?_append_left hi]⟩
def strconv_Itoa.f (a0 : Int) : Option ByteArray := if -9223372036854775808 ≤ a0 ∧ a0 ≤ 9223372036854775807 then some ⟨(Lib.itoa a0).toArray⟩ else none
theorem strconv_Itoa.calls (a0 : Int) (r : ByteArray) (w : World) (h : strconv_Itoa.f a0 = some r) (ht_ : Tabs w := by exact tabs) :
  Calls Tryd.prog 39 #[.int .i64 a0] w fun e w' => e = .returned (.string r) ∧ Below w.heap.size w w' := by
 unfold strconv_Itoa.f at h; by_cases hr : -9223372036854775808 ≤ a0 ∧ a0 ≤ 9223372036854775807
 ·rw [if_pos hr] at h; obtain rfl := Option.some.inj h; refine (Tryd.strconv_Itoa a0 hr.1 hr.2 w ht_.1).mono ?_; rintro e w' ⟨rfl, k, os, rfl⟩; exact ⟨rfl, below_grow w k os⟩
 ·rw [if_neg hr] at h; cases h

/-! ### impl_sizeOf: function 54 -/
def impl_sizeOf.f (a0 : Int) : Option (Int) := some (mx a0 (wrap64 (-a0)))
set_option maxHeartbeats 8000000 in
set_option maxRecDepth 100000 in
theorem impl_sizeOf.calls (a0 : Int) (r : Int) (w : World) (h : impl_sizeOf.f a0 = some r) :
  Calls Tryd.prog 54 #[.int .i64 a0] w fun e w' => e = .returned (.int .i64 r) ∧ Below w.heap.size w w' := by
 have HB := Aside0.mk (Below.refl w.heap.size w); have H : (some (mx a0 (wrap64 (-a0)))) = some r := h; clear h; obtain ⟨ji2, hji2⟩ : ∃ j_ : Int, (mx a0 (wrap64 (-a0))) = j_ := ⟨_, rfl⟩
 replace H : (some ji2) = some r := by first | (rw [hji2] at H; exact H) | (simp only [hji2] at H ⊢; exact H)
 have hji2_ : (if a0 < (wrap64 (-a0)) then (wrap64 (-a0)) else a0) = ji2 := hji2; obtain rfl := Option.some.inj H; go_enter Tryd.func54, Tryd.ntmps54; go_wp2; go_ret; exact ⟨by first | rfl | (simp [errW_none, errW_some] <;> rfl) | (simp only [← hji2]; first | rfl | (simp [errW_none, errW_some] <;> rfl)) | (simp [*, errW_none, errW_some] <;> rfl), qb HB⟩

/-! ### impl_moneyText: function 29 -/
def impl_moneyText.f (a0 : Int) : Option (ByteArray) := (impl_sizeOf.f a0).bind fun t111 => (if a0 < 0 then ((strconv_Itoa.f (wrap64 (100 + (Int.tmod t111 100)))).bind fun t112 => ((strconv_Itoa.f (wrap64 (Int.tdiv t111 100))).bind fun t113 => (if 1 + t113.size ≤ 9223372036854775807 then (if ((⟨#[45]⟩ : ByteArray) ++ t113).size + 1 ≤ 9223372036854775807 then (if 1 ≤ (t112.size : Int) then (if (((⟨#[45]⟩ : ByteArray) ++ t113) ++ (⟨#[46]⟩ : ByteArray)).size + (t112.extract 1 t112.size).size ≤ 9223372036854775807 then (some ((((⟨#[45]⟩ : ByteArray) ++ t113) ++ (⟨#[46]⟩ : ByteArray)) ++ (t112.extract 1 t112.size))) else (none)) else (none)) else (none)) else (none)))) else ((strconv_Itoa.f (wrap64 (100 + (Int.tmod t111 100)))).bind fun t114 => ((strconv_Itoa.f (wrap64 (Int.tdiv t111 100))).bind fun t115 => (if 0 + t115.size ≤ 9223372036854775807 then (if ((⟨#[]⟩ : ByteArray) ++ t115).size + 1 ≤ 9223372036854775807 then (if 1 ≤ (t114.size : Int) then (if (((⟨#[]⟩ : ByteArray) ++ t115) ++ (⟨#[46]⟩ : ByteArray)).size + (t114.extract 1 t114.size).size ≤ 9223372036854775807 then (some ((((⟨#[]⟩ : ByteArray) ++ t115) ++ (⟨#[46]⟩ : ByteArray)) ++ (t114.extract 1 t114.size))) else (none)) else (none)) else (none)) else (none)))))
def impl_moneyText.T5 : Bool × List (List Nat × List Nat) := (true, [([], []), ([], []), ([1], [1]), ([2], [2]), ([0, 3], [0, 3]), ([4], [4]), ([], []), ([6], [6]), ([5, 7], [5, 7]), ([8, 3, 0, 1, 2, 3, 4, 5, 6, 7, 8], [8])])
def impl_moneyText.B5 : List Nat := [0, 0, 2, 6, 15, 31, 0, 64, 255, 511]
theorem impl_moneyText.tab5 : rtab .any (opsOf Tryd.f29 5) = impl_moneyText.T5 := by kernel_rfl
theorem impl_moneyText.bits5 : waitsOk impl_moneyText.T5.2 impl_moneyText.B5 = true := by kernel_rfl
set_option maxHeartbeats 8000000 in
set_option maxRecDepth 100000 in
theorem impl_moneyText.calls (a0 : Int) (r : ByteArray) (w : World) (h : impl_moneyText.f a0 = some r) (ht_ : Tabs w := by exact tabs) :
  Calls Tryd.prog 29 #[.int .i64 a0] w fun e w' => e = .returned (.string r) ∧ Below w.heap.size w w' := by
 have HT0_ := Aside0.mk ht_; clear ht_; have HB := Aside0.mk (Below.refl w.heap.size w); have H : ((impl_sizeOf.f a0).bind fun t111 => (if a0 < 0 then ((strconv_Itoa.f (wrap64 (100 + (Int.tmod t111 100)))).bind fun t112 => ((strconv_Itoa.f (wrap64 (Int.tdiv t111 100))).bind fun t113 => (if 1 + t113.size ≤ 9223372036854775807 then (if ((⟨#[45]⟩ : ByteArray) ++ t113).size + 1 ≤ 9223372036854775807 then (if 1 ≤ (t112.size : Int) then (if (((⟨#[45]⟩ : ByteArray) ++ t113) ++ (⟨#[46]⟩ : ByteArray)).size + (t112.extract 1 t112.size).size ≤ 9223372036854775807 then (some ((((⟨#[45]⟩ : ByteArray) ++ t113) ++ (⟨#[46]⟩ : ByteArray)) ++ (t112.extract 1 t112.size))) else (none)) else (none)) else (none)) else (none)))) else ((strconv_Itoa.f (wrap64 (100 + (Int.tmod t111 100)))).bind fun t114 => ((strconv_Itoa.f (wrap64 (Int.tdiv t111 100))).bind fun t115 => (if 0 + t115.size ≤ 9223372036854775807 then (if ((⟨#[]⟩ : ByteArray) ++ t115).size + 1 ≤ 9223372036854775807 then (if 1 ≤ (t114.size : Int) then (if (((⟨#[]⟩ : ByteArray) ++ t115) ++ (⟨#[46]⟩ : ByteArray)).size + (t114.extract 1 t114.size).size ≤ 9223372036854775807 then (some ((((⟨#[]⟩ : ByteArray) ++ t115) ++ (⟨#[46]⟩ : ByteArray)) ++ (t114.extract 1 t114.size))) else (none)) else (none)) else (none)) else (none)))))) = some r := h; clear h; replace H := Option.bind_eq_some_iff.mp H; obtain ⟨t111, A20, H⟩ := H; replace H : (if a0 < 0 then ((strconv_Itoa.f (wrap64 (100 + (Int.tmod t111 100)))).bind fun t112 => ((strconv_Itoa.f (wrap64 (Int.tdiv t111 100))).bind fun t113 => (if 1 + t113.size ≤ 9223372036854775807 then (if ((⟨#[45]⟩ : ByteArray) ++ t113).size + 1 ≤ 9223372036854775807 then (if 1 ≤ (t112.size : Int) then (if (((⟨#[45]⟩ : ByteArray) ++ t113) ++ (⟨#[46]⟩ : ByteArray)).size + (t112.extract 1 t112.size).size ≤ 9223372036854775807 then (some ((((⟨#[45]⟩ : ByteArray) ++ t113) ++ (⟨#[46]⟩ : ByteArray)) ++ (t112.extract 1 t112.size))) else (none)) else (none)) else (none)) else (none)))) else ((strconv_Itoa.f (wrap64 (100 + (Int.tmod t111 100)))).bind fun t114 => ((strconv_Itoa.f (wrap64 (Int.tdiv t111 100))).bind fun t115 => (if 0 + t115.size ≤ 9223372036854775807 then (if ((⟨#[]⟩ : ByteArray) ++ t115).size + 1 ≤ 9223372036854775807 then (if 1 ≤ (t114.size : Int) then (if (((⟨#[]⟩ : ByteArray) ++ t115) ++ (⟨#[46]⟩ : ByteArray)).size + (t114.extract 1 t114.size).size ≤ 9223372036854775807 then (some ((((⟨#[]⟩ : ByteArray) ++ t115) ++ (⟨#[46]⟩ : ByteArray)) ++ (t114.extract 1 t114.size))) else (none)) else (none)) else (none)) else (none))))) = some r := H; have A2 := Aside0.mk A20; clear A20; by_cases c3 : a0 < 0
 ·rw [if_pos c3] at H; have c3b0 : decide (a0 < 0) = true := decide_eq_true c3; clear c3; replace H := Option.bind_eq_some_iff.mp H; obtain ⟨t112, A40, H⟩ := H; replace H : ((strconv_Itoa.f (wrap64 (Int.tdiv t111 100))).bind fun t113 => (if 1 + t113.size ≤ 9223372036854775807 then (if ((⟨#[45]⟩ : ByteArray) ++ t113).size + 1 ≤ 9223372036854775807 then (if 1 ≤ (t112.size : Int) then (if (((⟨#[45]⟩ : ByteArray) ++ t113) ++ (⟨#[46]⟩ : ByteArray)).size + (t112.extract 1 t112.size).size ≤ 9223372036854775807 then (some ((((⟨#[45]⟩ : ByteArray) ++ t113) ++ (⟨#[46]⟩ : ByteArray)) ++ (t112.extract 1 t112.size))) else (none)) else (none)) else (none)) else (none))) = some r := H; have A4 := Aside0.mk A40; clear A40; replace H := Option.bind_eq_some_iff.mp H; obtain ⟨t113, A50, H⟩ := H; replace H : (if 1 + t113.size ≤ 9223372036854775807 then (if ((⟨#[45]⟩ : ByteArray) ++ t113).size + 1 ≤ 9223372036854775807 then (if 1 ≤ (t112.size : Int) then (if (((⟨#[45]⟩ : ByteArray) ++ t113) ++ (⟨#[46]⟩ : ByteArray)).size + (t112.extract 1 t112.size).size ≤ 9223372036854775807 then (some ((((⟨#[45]⟩ : ByteArray) ++ t113) ++ (⟨#[46]⟩ : ByteArray)) ++ (t112.extract 1 t112.size))) else (none)) else (none)) else (none)) else (none)) = some r := H; have A5 := Aside0.mk A50; clear A50; by_cases c6 : 1 + t113.size ≤ 9223372036854775807
  ·rw [if_pos c6] at H; have c6b0 := eq_true c6; have c6b1 : decide (1 + t113.size ≤ 9223372036854775807) = true := decide_eq_true c6
   (try have c6b2 : (9223372036854775807 < 1 + t113.size) = False := eq_false (Nat.not_lt.2 c6))
   by_cases c7 : ((⟨#[45]⟩ : ByteArray) ++ t113).size + 1 ≤ 9223372036854775807
   ·rw [if_pos c7] at H; have c7b0 := eq_true c7; have c7b1 : decide (((⟨#[45]⟩ : ByteArray) ++ t113).size + 1 ≤ 9223372036854775807) = true := decide_eq_true c7
    (try have c7b2 : (9223372036854775807 < ((⟨#[45]⟩ : ByteArray) ++ t113).size + 1) = False := eq_false (Nat.not_lt.2 c7)); (try have c7b3 : (9223372036854775807 < 1 + t113.size + 1) = False := eq_false (by have q_ := Nat.not_lt.2 c7; simp only [ByteArray.size_append, ByteArray.size_extract, Nat.min_self, show (⟨#[]⟩ : ByteArray).size = 0 from rfl, Nat.zero_add] at q_; exact q_))
    by_cases c8 : 1 ≤ (t112.size : Int)
    ·rw [if_pos c8] at H; have c8b0 := eq_true c8; have c8b1 : decide (1 ≤ (t112.size : Int)) = true := decide_eq_true c8; clear c8; by_cases c9 : (((⟨#[45]⟩ : ByteArray) ++ t113) ++ (⟨#[46]⟩ : ByteArray)).size + (t112.extract 1 t112.size).size ≤ 9223372036854775807
     ·rw [if_pos c9] at H; have c9b0 := eq_true c9; have c9b1 : decide ((((⟨#[45]⟩ : ByteArray) ++ t113) ++ (⟨#[46]⟩ : ByteArray)).size + (t112.extract 1 t112.size).size ≤ 9223372036854775807) = true := decide_eq_true c9
      (try have c9b2 : (9223372036854775807 < (((⟨#[45]⟩ : ByteArray) ++ t113) ++ (⟨#[46]⟩ : ByteArray)).size + (t112.extract 1 t112.size).size) = False := eq_false (Nat.not_lt.2 c9)); (try have c9b3 : (9223372036854775807 < 1 + t113.size + 1 + (t112.size - 1)) = False := eq_false (by have q_ := Nat.not_lt.2 c9; simp only [ByteArray.size_append, ByteArray.size_extract, Nat.min_self, show (⟨#[]⟩ : ByteArray).size = 0 from rfl, Nat.zero_add] at q_; exact q_))
      obtain rfl := Option.some.inj H; go_enter Tryd.func29, Tryd.ntmps29
      try go_wp2_with (first | ((with_reducible refine gate_callee (f := 54) rfl ?_); refine goesL_ (some 7) rfl rfl Tryd.func54 (by kernel_rfl) rfl #[.int .i64 a0] rfl mq ?_; (with_reducible refine (impl_sizeOf.calls a0 t111 _ A2.out).mono ?_); rintro e w10 ⟨rfl, hb⟩; refine ⟨_, rfl, ?_⟩; have n0_ := Aside0.mk (below_step (qb HB) hb); clear HB; have HB := n0_; clear n0_; (try clear hb); (try clear hb2); (try clear hk); (try clear hi)) | ((with_reducible refine gate_callee (f := 39) rfl ?_); refine goesL_ (some 13) rfl rfl Tryd.func39 (by kernel_rfl) rfl #[.int .i64 (wrap64 (100 + (Int.tmod t111 100)))] rfl mq ?_; (with_reducible refine (strconv_Itoa.calls (wrap64 (100 + (Int.tmod t111 100))) t112 _ A4.out).mono ?_); rintro e w11 ⟨rfl, hb⟩; refine ⟨_, rfl, ?_⟩; have n0_ := Aside0.mk (below_step (qb HB) hb); clear HB; have HB := n0_; clear n0_; (try clear hb); (try clear hb2); (try clear hk); (try clear hi)))
      have n0_ := Aside0.mk (below_drew1 HB.out); clear HB; have HB := n0_; clear n0_; refine start_ (n := 10) (S := fun w' => True) (ds := []) #[false, false, false, false, false, false, false, false, false, false] (by kernel_rfl) rfl rfl trivial (fun hHeld => ?_); refine with_tabW impl_moneyText.tab5 impl_moneyText.bits5 (fun HT_ HW_ => ?_); generalize w11.drew = w12 at HB hHeld ⊢; refine pure_ (i := 0) (N := some 14) (v := ?_) (a' := ?_) #[true, false, false, false, false, false, false, false, false, false] rfl rfl (any_of HT_.out (by kernel_rfl)) (fun _ _ _ h => h) (Or.inl ⟨by rfl, ?_⟩) ?_ ?_; rotate_left
      ·intro w'; go_simp; (with_reducible rfl)
      rotate_left
      ·simp only [Act.put, sA, s0, sS, i64_w, i32_w]; rfl
      refine pure_ (i := 1) (N := some 15) (v := ?_) (a' := ?_) #[true, true, false, false, false, false, false, false, false, false] rfl rfl (any_of HT_.out (by kernel_rfl)) (fun _ _ _ h => h) (Or.inl ⟨by rfl, ?_⟩) ?_ ?_; rotate_left
      ·intro w'; go_simp; (with_reducible rfl)
      rotate_left
      ·simp only [Act.put, sA, s0, sS, i64_w, i32_w]; rfl
      refine pure_ (i := 2) (N := some 16) (v := ?_) (a' := ?_) #[true, true, true, false, false, false, false, false, false, false] rfl rfl (any_of HT_.out (by kernel_rfl)) (fun _ _ _ h => h) (Or.inl ⟨by rfl, ?_⟩) ?_ ?_; rotate_left
      ·intro w'; go_simp; (with_reducible rfl)
      rotate_left
      ·simp only [Act.put, sA, s0, sS, i64_w, i32_w]; rfl
      refine pure_ (i := 6) (N := some 20) (v := ?_) (a' := ?_) #[true, true, true, false, false, false, true, false, false, false] rfl rfl (any_of HT_.out (by kernel_rfl)) (fun _ _ _ h => h) (Or.inl ⟨by rfl, ?_⟩) ?_ ?_; rotate_left
      ·intro w'; go_simp; (with_reducible rfl)
      rotate_left
      ·simp only [Act.put, sA, s0, sS, i64_w, i32_w]; rfl
      refine pure_ (i := 7) (N := some 21) (v := ?_) (a' := ?_) #[true, true, true, false, false, false, true, true, false, false] rfl rfl (any_of HT_.out (by kernel_rfl)) (fun _ _ _ h => h) (Or.inl ⟨by rfl, ?_⟩) ?_ ?_; rotate_left
      ·intro w'; go_simp; (with_reducible rfl)
      rotate_left
      ·simp only [Act.put, sA, s0, sS, i64_w, i32_w]; rfl
      refine one_ (i := 3) (N := some 17) #[true, true, true, true, false, false, true, true, false, false] rfl rfl (one_of HT_.out (by kernel_rfl)) (by decide) (fun K hK => ?_); refine goes_ Tryd.func39 (by kernel_rfl) rfl #[.int .i64 (wrap64 (Int.tdiv t111 100))] (by rfl) rfl rfl mq ?_; (with_reducible refine (strconv_Itoa.calls (wrap64 (Int.tdiv t111 100)) t113 _ A5.out).mono ?_); rintro e w13 ⟨rfl, hb⟩; refine ⟨_, rfl, ?_⟩; have n0_ := Aside0.mk (below_step (qb HB) hb); clear HB; have HB := n0_; clear n0_; (try clear hb); (try clear hb2); (try clear hk); (try clear hi); refine hK.out _ _ trivial (fun hHeld => ?_); clear hK K; refine norm_ (a' := ?_) ?_ ?_; rotate_left
      ·show Act.put _ (some 17) _ = _; simp only [Act.put, sA, s0, sS, i64_w, i32_w]; rfl
      refine pure_ (i := 4) (N := some 18) (v := ?_) (a' := ?_) #[true, true, true, true, true, false, true, true, false, false] rfl rfl (any_of HT_.out (by kernel_rfl)) (fun _ _ _ h => h) (Or.inl ⟨by rfl, ?_⟩) ?_ ?_; rotate_left
      ·intro w'; go_simp; (with_reducible rfl)
      rotate_left
      ·simp only [Act.put, sA, s0, sS, i64_w, i32_w]; rfl
      refine pure_ (i := 5) (N := some 19) (v := ?_) (a' := ?_) #[true, true, true, true, true, true, true, true, false, false] rfl rfl (any_of HT_.out (by kernel_rfl)) (fun _ _ _ h => h) (Or.inl ⟨by rfl, ?_⟩) ?_ ?_; rotate_left
      ·intro w'; go_simp; (with_reducible rfl)
      rotate_left
      ·simp only [Act.put, sA, s0, sS, i64_w, i32_w]; rfl
      refine pure_ (i := 8) (N := some 22) (v := ?_) (a' := ?_) #[true, true, true, true, true, true, true, true, true, false] rfl rfl (any_of HT_.out (by kernel_rfl)) (fun _ _ _ h => h) (Or.inl ⟨by rfl, ?_⟩) ?_ ?_; rotate_left
      ·intro w'; go_simp; (with_reducible rfl)
      rotate_left
      ·simp only [Act.put, sA, s0, sS, i64_w, i32_w]; rfl
      refine pure_ (i := 9) (N := some 2) (v := ?_) (a' := ?_) #[true, true, true, true, true, true, true, true, true, true] rfl rfl (any_of HT_.out (by kernel_rfl)) (fun _ _ _ h => h) (Or.inl ⟨by rfl, ?_⟩) ?_ ?_; rotate_left
      ·intro w'; go_simp; (with_reducible rfl)
      rotate_left
      ·simp only [Act.put, sA, s0, sS, i64_w, i32_w]; rfl
      refine done_ (done_of HT_.out (by kernel_rfl)) ?_
      try go_wp2
      go_ret; exact ⟨eqq, qb HB⟩
     ·rw [if_neg c9] at H; exact absurd H (by simp)
    ·rw [if_neg c8] at H; exact absurd H (by simp)
   ·rw [if_neg c7] at H; exact absurd H (by simp)
  ·rw [if_neg c6] at H; exact absurd H (by simp)
 ·rw [if_neg c3] at H; have c3b0 : decide (a0 < 0) = false := decide_eq_false c3; clear c3; replace H := Option.bind_eq_some_iff.mp H; obtain ⟨t114, A140, H⟩ := H; replace H : ((strconv_Itoa.f (wrap64 (Int.tdiv t111 100))).bind fun t115 => (if 0 + t115.size ≤ 9223372036854775807 then (if ((⟨#[]⟩ : ByteArray) ++ t115).size + 1 ≤ 9223372036854775807 then (if 1 ≤ (t114.size : Int) then (if (((⟨#[]⟩ : ByteArray) ++ t115) ++ (⟨#[46]⟩ : ByteArray)).size + (t114.extract 1 t114.size).size ≤ 9223372036854775807 then (some ((((⟨#[]⟩ : ByteArray) ++ t115) ++ (⟨#[46]⟩ : ByteArray)) ++ (t114.extract 1 t114.size))) else (none)) else (none)) else (none)) else (none))) = some r := H; have A14 := Aside0.mk A140; clear A140; replace H := Option.bind_eq_some_iff.mp H; obtain ⟨t115, A150, H⟩ := H; replace H : (if 0 + t115.size ≤ 9223372036854775807 then (if ((⟨#[]⟩ : ByteArray) ++ t115).size + 1 ≤ 9223372036854775807 then (if 1 ≤ (t114.size : Int) then (if (((⟨#[]⟩ : ByteArray) ++ t115) ++ (⟨#[46]⟩ : ByteArray)).size + (t114.extract 1 t114.size).size ≤ 9223372036854775807 then (some ((((⟨#[]⟩ : ByteArray) ++ t115) ++ (⟨#[46]⟩ : ByteArray)) ++ (t114.extract 1 t114.size))) else (none)) else (none)) else (none)) else (none)) = some r := H; have A15 := Aside0.mk A150; clear A150; by_cases c16 : 0 + t115.size ≤ 9223372036854775807
  ·rw [if_pos c16] at H; have c16b0 := eq_true c16; have c16b1 : decide (0 + t115.size ≤ 9223372036854775807) = true := decide_eq_true c16
   (try have c16b2 : (9223372036854775807 < 0 + t115.size) = False := eq_false (Nat.not_lt.2 c16)); (try have c16b3 : (9223372036854775807 < t115.size) = False := eq_false (by have q_ := Nat.not_lt.2 c16; simp only [ByteArray.size_append, ByteArray.size_extract, Nat.min_self, show (⟨#[]⟩ : ByteArray).size = 0 from rfl, Nat.zero_add] at q_; exact q_))
   by_cases c17 : ((⟨#[]⟩ : ByteArray) ++ t115).size + 1 ≤ 9223372036854775807
   ·rw [if_pos c17] at H; have c17b0 := eq_true c17; have c17b1 : decide (((⟨#[]⟩ : ByteArray) ++ t115).size + 1 ≤ 9223372036854775807) = true := decide_eq_true c17
    (try have c17b2 : (9223372036854775807 < ((⟨#[]⟩ : ByteArray) ++ t115).size + 1) = False := eq_false (Nat.not_lt.2 c17)); (try have c17b3 : (9223372036854775807 < t115.size + 1) = False := eq_false (by have q_ := Nat.not_lt.2 c17; simp only [ByteArray.size_append, ByteArray.size_extract, Nat.min_self, show (⟨#[]⟩ : ByteArray).size = 0 from rfl, Nat.zero_add] at q_; exact q_))
    by_cases c18 : 1 ≤ (t114.size : Int)
    ·rw [if_pos c18] at H; have c18b0 := eq_true c18; have c18b1 : decide (1 ≤ (t114.size : Int)) = true := decide_eq_true c18; clear c18; by_cases c19 : (((⟨#[]⟩ : ByteArray) ++ t115) ++ (⟨#[46]⟩ : ByteArray)).size + (t114.extract 1 t114.size).size ≤ 9223372036854775807
     ·rw [if_pos c19] at H; have c19b0 := eq_true c19; have c19b1 : decide ((((⟨#[]⟩ : ByteArray) ++ t115) ++ (⟨#[46]⟩ : ByteArray)).size + (t114.extract 1 t114.size).size ≤ 9223372036854775807) = true := decide_eq_true c19
      (try have c19b2 : (9223372036854775807 < (((⟨#[]⟩ : ByteArray) ++ t115) ++ (⟨#[46]⟩ : ByteArray)).size + (t114.extract 1 t114.size).size) = False := eq_false (Nat.not_lt.2 c19)); (try have c19b3 : (9223372036854775807 < t115.size + 1 + (t114.size - 1)) = False := eq_false (by have q_ := Nat.not_lt.2 c19; simp only [ByteArray.size_append, ByteArray.size_extract, Nat.min_self, show (⟨#[]⟩ : ByteArray).size = 0 from rfl, Nat.zero_add] at q_; exact q_))
      obtain rfl := Option.some.inj H; go_enter Tryd.func29, Tryd.ntmps29
      try go_wp2_with (first | ((with_reducible refine gate_callee (f := 54) rfl ?_); refine goesL_ (some 7) rfl rfl Tryd.func54 (by kernel_rfl) rfl #[.int .i64 a0] rfl mq ?_; (with_reducible refine (impl_sizeOf.calls a0 t111 _ A2.out).mono ?_); rintro e w20 ⟨rfl, hb⟩; refine ⟨_, rfl, ?_⟩; have n0_ := Aside0.mk (below_step (qb HB) hb); clear HB; have HB := n0_; clear n0_; (try clear hb); (try clear hb2); (try clear hk); (try clear hi)) | ((with_reducible refine gate_callee (f := 39) rfl ?_); refine goesL_ (some 13) rfl rfl Tryd.func39 (by kernel_rfl) rfl #[.int .i64 (wrap64 (100 + (Int.tmod t111 100)))] rfl mq ?_; (with_reducible refine (strconv_Itoa.calls (wrap64 (100 + (Int.tmod t111 100))) t114 _ A14.out).mono ?_); rintro e w21 ⟨rfl, hb⟩; refine ⟨_, rfl, ?_⟩; have n0_ := Aside0.mk (below_step (qb HB) hb); clear HB; have HB := n0_; clear n0_; (try clear hb); (try clear hb2); (try clear hk); (try clear hi)))
      have n0_ := Aside0.mk (below_drew1 HB.out); clear HB; have HB := n0_; clear n0_; refine start_ (n := 10) (S := fun w' => True) (ds := []) #[false, false, false, false, false, false, false, false, false, false] (by kernel_rfl) rfl rfl trivial (fun hHeld => ?_); refine with_tabW impl_moneyText.tab5 impl_moneyText.bits5 (fun HT_ HW_ => ?_); generalize w21.drew = w22 at HB hHeld ⊢; refine pure_ (i := 0) (N := some 14) (v := ?_) (a' := ?_) #[true, false, false, false, false, false, false, false, false, false] rfl rfl (any_of HT_.out (by kernel_rfl)) (fun _ _ _ h => h) (Or.inl ⟨by rfl, ?_⟩) ?_ ?_; rotate_left
      ·intro w'; go_simp; (with_reducible rfl)
      rotate_left
      ·simp only [Act.put, sA, s0, sS, i64_w, i32_w]; rfl
      refine pure_ (i := 1) (N := some 15) (v := ?_) (a' := ?_) #[true, true, false, false, false, false, false, false, false, false] rfl rfl (any_of HT_.out (by kernel_rfl)) (fun _ _ _ h => h) (Or.inl ⟨by rfl, ?_⟩) ?_ ?_; rotate_left
      ·intro w'; go_simp; (with_reducible rfl)
      rotate_left
      ·simp only [Act.put, sA, s0, sS, i64_w, i32_w]; rfl
      refine pure_ (i := 2) (N := some 16) (v := ?_) (a' := ?_) #[true, true, true, false, false, false, false, false, false, false] rfl rfl (any_of HT_.out (by kernel_rfl)) (fun _ _ _ h => h) (Or.inl ⟨by rfl, ?_⟩) ?_ ?_; rotate_left
      ·intro w'; go_simp; (with_reducible rfl)
      rotate_left
      ·simp only [Act.put, sA, s0, sS, i64_w, i32_w]; rfl
      refine pure_ (i := 6) (N := some 20) (v := ?_) (a' := ?_) #[true, true, true, false, false, false, true, false, false, false] rfl rfl (any_of HT_.out (by kernel_rfl)) (fun _ _ _ h => h) (Or.inl ⟨by rfl, ?_⟩) ?_ ?_; rotate_left
      ·intro w'; go_simp; (with_reducible rfl)
      rotate_left
      ·simp only [Act.put, sA, s0, sS, i64_w, i32_w]; rfl
      refine pure_ (i := 7) (N := some 21) (v := ?_) (a' := ?_) #[true, true, true, false, false, false, true, true, false, false] rfl rfl (any_of HT_.out (by kernel_rfl)) (fun _ _ _ h => h) (Or.inl ⟨by rfl, ?_⟩) ?_ ?_; rotate_left
      ·intro w'; go_simp; (with_reducible rfl)
      rotate_left
      ·simp only [Act.put, sA, s0, sS, i64_w, i32_w]; rfl
      refine one_ (i := 3) (N := some 17) #[true, true, true, true, false, false, true, true, false, false] rfl rfl (one_of HT_.out (by kernel_rfl)) (by decide) (fun K hK => ?_); refine goes_ Tryd.func39 (by kernel_rfl) rfl #[.int .i64 (wrap64 (Int.tdiv t111 100))] (by rfl) rfl rfl mq ?_; (with_reducible refine (strconv_Itoa.calls (wrap64 (Int.tdiv t111 100)) t115 _ A15.out).mono ?_); rintro e w23 ⟨rfl, hb⟩; refine ⟨_, rfl, ?_⟩; have n0_ := Aside0.mk (below_step (qb HB) hb); clear HB; have HB := n0_; clear n0_; (try clear hb); (try clear hb2); (try clear hk); (try clear hi); refine hK.out _ _ trivial (fun hHeld => ?_); clear hK K; refine norm_ (a' := ?_) ?_ ?_; rotate_left
      ·show Act.put _ (some 17) _ = _; simp only [Act.put, sA, s0, sS, i64_w, i32_w]; rfl
      refine pure_ (i := 4) (N := some 18) (v := ?_) (a' := ?_) #[true, true, true, true, true, false, true, true, false, false] rfl rfl (any_of HT_.out (by kernel_rfl)) (fun _ _ _ h => h) (Or.inl ⟨by rfl, ?_⟩) ?_ ?_; rotate_left
      ·intro w'; go_simp; (with_reducible rfl)
      rotate_left
      ·simp only [Act.put, sA, s0, sS, i64_w, i32_w]; rfl
      refine pure_ (i := 5) (N := some 19) (v := ?_) (a' := ?_) #[true, true, true, true, true, true, true, true, false, false] rfl rfl (any_of HT_.out (by kernel_rfl)) (fun _ _ _ h => h) (Or.inl ⟨by rfl, ?_⟩) ?_ ?_; rotate_left
      ·intro w'; go_simp; (with_reducible rfl)
      rotate_left
      ·simp only [Act.put, sA, s0, sS, i64_w, i32_w]; rfl
      refine pure_ (i := 8) (N := some 22) (v := ?_) (a' := ?_) #[true, true, true, true, true, true, true, true, true, false] rfl rfl (any_of HT_.out (by kernel_rfl)) (fun _ _ _ h => h) (Or.inl ⟨by rfl, ?_⟩) ?_ ?_; rotate_left
      ·intro w'; go_simp; (with_reducible rfl)
      rotate_left
      ·simp only [Act.put, sA, s0, sS, i64_w, i32_w]; rfl
      refine pure_ (i := 9) (N := some 2) (v := ?_) (a' := ?_) #[true, true, true, true, true, true, true, true, true, true] rfl rfl (any_of HT_.out (by kernel_rfl)) (fun _ _ _ h => h) (Or.inl ⟨by rfl, ?_⟩) ?_ ?_; rotate_left
      ·intro w'; go_simp; (with_reducible rfl)
      rotate_left
      ·simp only [Act.put, sA, s0, sS, i64_w, i32_w]; rfl
      refine done_ (done_of HT_.out (by kernel_rfl)) ?_
      try go_wp2
      go_ret; exact ⟨eqq, qb HB⟩
     ·rw [if_neg c19] at H; exact absurd H (by simp)
    ·rw [if_neg c18] at H; exact absurd H (by simp)
   ·rw [if_neg c17] at H; exact absurd H (by simp)
  ·rw [if_neg c16] at H; exact absurd H (by simp)

end Go.Proofs.YtdlfpjbhcpnpfaaDoor.PFnExactReadMoney
