-- Written by wip/tools/hp.py over the kit's print (not by hand): functions and walks of All.
import Derived.Test.YtaablbglkfpbpaaPAllx0
import Derived.Test.YtaablbglkfpbpaaPAllx1
namespace Go.Proofs.Ytaablbglkfpbpaa.PAll
open Go.RowKit Go.Proofs.YtaablbglkfpbpaaW.PrintWords Go.Proofs.YtaablbglkfpbpaaW.PrintLast Go.Proofs.YtaablbglkfpbpaaW.PrintMore
attribute [local go_sem] max2_int min2_int max_two min_two max_three min_three max_four min_four   -- for this text's walks alone
set_option linter.unusedVariables false
set_option linter.unusedSimpArgs false

/-! ### spec_l00Letter: function 96 -/
mutual
def spec_l00Letter.j0 : Nat → ByteArray → Int → Int → Bool → Option (Int)
 | 0, _, _, _, _ => none
 | k + 1, x0, x1, x5, x27 => if x27 = true then (some 1) else (if x5 < 194 then (spec_l00Letter.j1 k x0 x1 x5 true) else (if x5 > 223 then (spec_l00Letter.j1 k x0 x1 x5 true) else (if (wrap64 (x1 + 1)) ≥ (x0.size : Int) then (spec_l00Letter.j1 k x0 x1 x5 true) else (if 0 ≤ (wrap64 (x1 + 1)) then (if (wrap64 (x1 + 1)) < (x0.size : Int) then (if (bt x0 (wrap64 (x1 + 1))) < 128 then (spec_l00Letter.j1 k x0 x1 x5 true) else (spec_l00Letter.j1 k x0 x1 x5 (decide ((bt x0 (wrap64 (x1 + 1))) > 191)))) else (none)) else (none)))))
def spec_l00Letter.j1 : Nat → ByteArray → Int → Int → Bool → Option (Int)
 | 0, _, _, _, _ => none
 | k + 1, x0, x1, x5, x54 => if x54 = true then (some 0) else (if 0 ≤ (wrap64 (x1 + 1)) then (if (wrap64 (x1 + 1)) < (x0.size : Int) then (if (wrap64 ((wrap64 ((wrap64 ((wrap64 ((wrap64 (x5)) - 192)) * 64)) + (wrap64 (bt x0 (wrap64 (x1 + 1)))))) - 128)) ≥ 192 then (if (wrap64 ((wrap64 ((wrap64 ((wrap64 ((wrap64 (x5)) - 192)) * 64)) + (wrap64 (bt x0 (wrap64 (x1 + 1)))))) - 128)) ≤ 591 then (if (wrap64 ((wrap64 ((wrap64 ((wrap64 ((wrap64 (x5)) - 192)) * 64)) + (wrap64 (bt x0 (wrap64 (x1 + 1)))))) - 128)) = 215 then (if (wrap64 ((wrap64 ((wrap64 ((wrap64 ((wrap64 (x5)) - 192)) * 64)) + (wrap64 (bt x0 (wrap64 (x1 + 1)))))) - 128)) ≥ 913 then (if (wrap64 ((wrap64 ((wrap64 ((wrap64 ((wrap64 (x5)) - 192)) * 64)) + (wrap64 (bt x0 (wrap64 (x1 + 1)))))) - 128)) ≤ 969 then (some 2) else (if (wrap64 ((wrap64 ((wrap64 ((wrap64 ((wrap64 (x5)) - 192)) * 64)) + (wrap64 (bt x0 (wrap64 (x1 + 1)))))) - 128)) ≥ 1040 then (if (wrap64 ((wrap64 ((wrap64 ((wrap64 ((wrap64 (x5)) - 192)) * 64)) + (wrap64 (bt x0 (wrap64 (x1 + 1)))))) - 128)) ≤ 1103 then (some 2) else (some 0)) else (some 0))) else (if (wrap64 ((wrap64 ((wrap64 ((wrap64 ((wrap64 (x5)) - 192)) * 64)) + (wrap64 (bt x0 (wrap64 (x1 + 1)))))) - 128)) ≥ 1040 then (if (wrap64 ((wrap64 ((wrap64 ((wrap64 ((wrap64 (x5)) - 192)) * 64)) + (wrap64 (bt x0 (wrap64 (x1 + 1)))))) - 128)) ≤ 1103 then (some 2) else (some 0)) else (some 0))) else (if (wrap64 ((wrap64 ((wrap64 ((wrap64 ((wrap64 (x5)) - 192)) * 64)) + (wrap64 (bt x0 (wrap64 (x1 + 1)))))) - 128)) = 247 then (if (wrap64 ((wrap64 ((wrap64 ((wrap64 ((wrap64 (x5)) - 192)) * 64)) + (wrap64 (bt x0 (wrap64 (x1 + 1)))))) - 128)) ≥ 913 then (if (wrap64 ((wrap64 ((wrap64 ((wrap64 ((wrap64 (x5)) - 192)) * 64)) + (wrap64 (bt x0 (wrap64 (x1 + 1)))))) - 128)) ≤ 969 then (some 2) else (if (wrap64 ((wrap64 ((wrap64 ((wrap64 ((wrap64 (x5)) - 192)) * 64)) + (wrap64 (bt x0 (wrap64 (x1 + 1)))))) - 128)) ≥ 1040 then (if (wrap64 ((wrap64 ((wrap64 ((wrap64 ((wrap64 (x5)) - 192)) * 64)) + (wrap64 (bt x0 (wrap64 (x1 + 1)))))) - 128)) ≤ 1103 then (some 2) else (some 0)) else (some 0))) else (if (wrap64 ((wrap64 ((wrap64 ((wrap64 ((wrap64 (x5)) - 192)) * 64)) + (wrap64 (bt x0 (wrap64 (x1 + 1)))))) - 128)) ≥ 1040 then (if (wrap64 ((wrap64 ((wrap64 ((wrap64 ((wrap64 (x5)) - 192)) * 64)) + (wrap64 (bt x0 (wrap64 (x1 + 1)))))) - 128)) ≤ 1103 then (some 2) else (some 0)) else (some 0))) else (some 2))) else (if (wrap64 ((wrap64 ((wrap64 ((wrap64 ((wrap64 (x5)) - 192)) * 64)) + (wrap64 (bt x0 (wrap64 (x1 + 1)))))) - 128)) ≥ 913 then (if (wrap64 ((wrap64 ((wrap64 ((wrap64 ((wrap64 (x5)) - 192)) * 64)) + (wrap64 (bt x0 (wrap64 (x1 + 1)))))) - 128)) ≤ 969 then (some 2) else (if (wrap64 ((wrap64 ((wrap64 ((wrap64 ((wrap64 (x5)) - 192)) * 64)) + (wrap64 (bt x0 (wrap64 (x1 + 1)))))) - 128)) ≥ 1040 then (if (wrap64 ((wrap64 ((wrap64 ((wrap64 ((wrap64 (x5)) - 192)) * 64)) + (wrap64 (bt x0 (wrap64 (x1 + 1)))))) - 128)) ≤ 1103 then (some 2) else (some 0)) else (some 0))) else (if (wrap64 ((wrap64 ((wrap64 ((wrap64 ((wrap64 (x5)) - 192)) * 64)) + (wrap64 (bt x0 (wrap64 (x1 + 1)))))) - 128)) ≥ 1040 then (if (wrap64 ((wrap64 ((wrap64 ((wrap64 ((wrap64 (x5)) - 192)) * 64)) + (wrap64 (bt x0 (wrap64 (x1 + 1)))))) - 128)) ≤ 1103 then (some 2) else (some 0)) else (some 0)))) else (if (wrap64 ((wrap64 ((wrap64 ((wrap64 ((wrap64 (x5)) - 192)) * 64)) + (wrap64 (bt x0 (wrap64 (x1 + 1)))))) - 128)) ≥ 913 then (if (wrap64 ((wrap64 ((wrap64 ((wrap64 ((wrap64 (x5)) - 192)) * 64)) + (wrap64 (bt x0 (wrap64 (x1 + 1)))))) - 128)) ≤ 969 then (some 2) else (if (wrap64 ((wrap64 ((wrap64 ((wrap64 ((wrap64 (x5)) - 192)) * 64)) + (wrap64 (bt x0 (wrap64 (x1 + 1)))))) - 128)) ≥ 1040 then (if (wrap64 ((wrap64 ((wrap64 ((wrap64 ((wrap64 (x5)) - 192)) * 64)) + (wrap64 (bt x0 (wrap64 (x1 + 1)))))) - 128)) ≤ 1103 then (some 2) else (some 0)) else (some 0))) else (if (wrap64 ((wrap64 ((wrap64 ((wrap64 ((wrap64 (x5)) - 192)) * 64)) + (wrap64 (bt x0 (wrap64 (x1 + 1)))))) - 128)) ≥ 1040 then (if (wrap64 ((wrap64 ((wrap64 ((wrap64 ((wrap64 (x5)) - 192)) * 64)) + (wrap64 (bt x0 (wrap64 (x1 + 1)))))) - 128)) ≤ 1103 then (some 2) else (some 0)) else (some 0)))) else (none)) else (none))
end
def spec_l00Letter.f (k : Nat) (a0 : ByteArray) (a1 : Int) : Option (Int) := if 0 ≤ a1 then (if a1 < (a0.size : Int) then (if (bt a0 a1) ≥ 97 then (if (bt a0 a1) ≤ 122 then (spec_l00Letter.j0 k a0 a1 (bt a0 a1) true) else (if (bt a0 a1) ≥ 65 then (if (bt a0 a1) ≤ 90 then (spec_l00Letter.j0 k a0 a1 (bt a0 a1) true) else (spec_l00Letter.j0 k a0 a1 (bt a0 a1) ((bt a0 a1) == 95))) else (spec_l00Letter.j0 k a0 a1 (bt a0 a1) ((bt a0 a1) == 95)))) else (if (bt a0 a1) ≥ 65 then (if (bt a0 a1) ≤ 90 then (spec_l00Letter.j0 k a0 a1 (bt a0 a1) true) else (spec_l00Letter.j0 k a0 a1 (bt a0 a1) ((bt a0 a1) == 95))) else (spec_l00Letter.j0 k a0 a1 (bt a0 a1) ((bt a0 a1) == 95)))) else (none)) else (none)
theorem spec_l00Letter.mono_l : ∀ k, (∀ y0 y1 y2 y3, LeO (spec_l00Letter.j0 k y0 y1 y2 y3) (spec_l00Letter.j0 (k + 1) y0 y1 y2 y3)) ∧ (∀ y0 y1 y2 y3, LeO (spec_l00Letter.j1 k y0 y1 y2 y3) (spec_l00Letter.j1 (k + 1) y0 y1 y2 y3))
 | 0 => ⟨fun _ _ _ _ r h => by simp [spec_l00Letter.j0] at h, fun _ _ _ _ r h => by simp [spec_l00Letter.j1] at h⟩
 | k + 1 => by
  obtain ⟨ih0, ih1⟩ := spec_l00Letter.mono_l k; refine ⟨?_, ?_⟩
  ·intro y0 y1 y2 y3; unfold spec_l00Letter.j0
   repeat' first
   | (with_reducible exact ih0 _ _ _ _)
   | (with_reducible exact ih1 _ _ _ _)
   | (with_reducible exact LeO.refl _)
   | (with_reducible exact LeO.none _)
   | (with_reducible refine LeO.ite ?_ ?_)
   | (with_reducible refine LeO.bind ?_ (fun _ => ?_))
   | exact ih0 _ _ _ _
   | exact ih1 _ _ _ _
   | exact LeO.none _
   | refine LeO.ite ?_ ?_
   | refine LeO.bind ?_ (fun _ => ?_)
  ·intro y0 y1 y2 y3; unfold spec_l00Letter.j1
   repeat' first
   | (with_reducible exact ih0 _ _ _ _)
   | (with_reducible exact ih1 _ _ _ _)
   | (with_reducible exact LeO.refl _)
   | (with_reducible exact LeO.none _)
   | (with_reducible refine LeO.ite ?_ ?_)
   | (with_reducible refine LeO.bind ?_ (fun _ => ?_))
   | exact ih0 _ _ _ _
   | exact ih1 _ _ _ _
   | exact LeO.none _
   | refine LeO.ite ?_ ?_
   | refine LeO.bind ?_ (fun _ => ?_)
theorem spec_l00Letter.mono : ∀ a0 a1 k, LeO (spec_l00Letter.f k a0 a1) (spec_l00Letter.f (k + 1) a0 a1) := by
 intro a0 a1 k; obtain ⟨ih0, ih1⟩ := spec_l00Letter.mono_l k; unfold spec_l00Letter.f
 repeat' first
   | (with_reducible exact ih0 _ _ _ _)
   | (with_reducible exact ih1 _ _ _ _)
   | (with_reducible exact LeO.refl _)
   | (with_reducible exact LeO.none _)
   | (with_reducible refine LeO.ite ?_ ?_)
   | (with_reducible refine LeO.bind ?_ (fun _ => ?_))
   | exact ih0 _ _ _ _
   | exact ih1 _ _ _ _
   | exact LeO.none _
   | refine LeO.ite ?_ ?_
   | refine LeO.bind ?_ (fun _ => ?_)
set_option maxHeartbeats 8000000 in
set_option maxRecDepth 100000 in
theorem spec_l00Letter.calls (k : Nat) (a0 : ByteArray) (a1 : Int) (r : Int) (w : World) (h : spec_l00Letter.f k a0 a1 = some r) :
  Calls Try.prog 96 #[.string a0, .int .i64 a1] w fun e w' => e = .returned (.int .i64 r) ∧ Drawn0 w w' := by
 have H : (if 0 ≤ a1 then (if a1 < (a0.size : Int) then (if (bt a0 a1) ≥ 97 then (if (bt a0 a1) ≤ 122 then (spec_l00Letter.j0 k a0 a1 (bt a0 a1) true) else (if (bt a0 a1) ≥ 65 then (if (bt a0 a1) ≤ 90 then (spec_l00Letter.j0 k a0 a1 (bt a0 a1) true) else (spec_l00Letter.j0 k a0 a1 (bt a0 a1) ((bt a0 a1) == 95))) else (spec_l00Letter.j0 k a0 a1 (bt a0 a1) ((bt a0 a1) == 95)))) else (if (bt a0 a1) ≥ 65 then (if (bt a0 a1) ≤ 90 then (spec_l00Letter.j0 k a0 a1 (bt a0 a1) true) else (spec_l00Letter.j0 k a0 a1 (bt a0 a1) ((bt a0 a1) == 95))) else (spec_l00Letter.j0 k a0 a1 (bt a0 a1) ((bt a0 a1) == 95)))) else (none)) else (none)) = some r := h; clear h; by_cases c3 : 0 ≤ a1
 ·rw [if_pos c3] at H; have c3b0 : decide (0 ≤ a1) = true := decide_eq_true c3; clear c3; by_cases c4 : a1 < (a0.size : Int)
  ·rw [if_pos c4] at H; have c4b0 : decide (a1 < (a0.size : Int)) = true := decide_eq_true c4; clear c4; have HC6 := Aside0.mk H; clear H; have p5 : 0 ≤ (a1 : Int) := of_decide_eq_true (by first | (with_reducible assumption) | assumption); have q5 : a1 < (a0.size : Int) := of_decide_eq_true (by first | (with_reducible assumption) | assumption); have hx5 := bt_at a0 a1; replace p5 := eq_true p5; replace q5 := eq_true q5; go_enter Try.func96, Try.ntmps96
   go_upto_region 2 with (fail)
   go_cut [27] (fun v27 wc => ∃ (kq : Nat) (x27_5 : Bool), v27 = .bool x27_5 ∧ Aside0 (spec_l00Letter.j0 kq a0 a1 (bt a0 a1) x27_5 = some r) ∧ Aside0 (kq ≤ k) ∧ Drawn0 w wc)
   case first =>
    have H := HC6.out; clear HC6; by_cases c7 : (bt a0 a1) ≥ 97
    ·rw [if_pos c7] at H; have c7b0 : decide (97 ≤ (bt a0 a1)) = true := decide_eq_true c7; clear c7
     (first | rw [c7b0] | (simp only [i64_w, i32_w]; rw [c7b0]) | skip)
     by_cases c8 : (bt a0 a1) ≤ 122
     ·rw [if_pos c8] at H; have c8b0 : decide ((bt a0 a1) ≤ 122) = true := decide_eq_true c8; clear c8; have H' := Aside0.mk H; clear H; go_wp2
      go_meet
      case rel => exact ⟨_, (true), (by first | rfl | (simp; done) | (simp [*]; done)), H', ⟨by first | omega | exact Nat.le_refl _⟩, by repeat (first | exact Drawn0.refl _ | apply Drawn0.step)⟩
     ·rw [if_neg c8] at H; have c8b0 : decide ((bt a0 a1) ≤ 122) = false := decide_eq_false c8; clear c8; by_cases c9 : (bt a0 a1) ≥ 65
      ·rw [if_pos c9] at H; have c9b0 : decide (65 ≤ (bt a0 a1)) = true := decide_eq_true c9; clear c9; by_cases c10 : (bt a0 a1) ≤ 90
       ·rw [if_pos c10] at H; have c10b0 : decide ((bt a0 a1) ≤ 90) = true := decide_eq_true c10; clear c10; have H' := Aside0.mk H; clear H; go_wp2
        go_meet
        case rel => exact ⟨_, (true), (by first | rfl | (simp; done) | (simp [*]; done)), H', ⟨by first | omega | exact Nat.le_refl _⟩, by repeat (first | exact Drawn0.refl _ | apply Drawn0.step)⟩
       ·rw [if_neg c10] at H; have c10b0 : decide ((bt a0 a1) ≤ 90) = false := decide_eq_false c10; clear c10; have H' := Aside0.mk H; clear H; go_wp2
        go_meet
        case rel => exact ⟨_, (((bt a0 a1) == 95)), (by first | rfl | (simp; done) | (simp [*]; done)), H', ⟨by first | omega | exact Nat.le_refl _⟩, by repeat (first | exact Drawn0.refl _ | apply Drawn0.step)⟩
      ·rw [if_neg c9] at H; have c9b0 : decide (65 ≤ (bt a0 a1)) = false := decide_eq_false c9; clear c9; have H' := Aside0.mk H; clear H; go_wp2
       go_meet
       case rel => exact ⟨_, (((bt a0 a1) == 95)), (by first | rfl | (simp; done) | (simp [*]; done)), H', ⟨by first | omega | exact Nat.le_refl _⟩, by repeat (first | exact Drawn0.refl _ | apply Drawn0.step)⟩
    ·rw [if_neg c7] at H; have c7b0 : decide (97 ≤ (bt a0 a1)) = false := decide_eq_false c7; clear c7
     (first | rw [c7b0] | (simp only [i64_w, i32_w]; rw [c7b0]) | skip)
     by_cases c11 : (bt a0 a1) ≥ 65
     ·rw [if_pos c11] at H; have c11b0 : decide (65 ≤ (bt a0 a1)) = true := decide_eq_true c11; clear c11; by_cases c12 : (bt a0 a1) ≤ 90
      ·rw [if_pos c12] at H; have c12b0 : decide ((bt a0 a1) ≤ 90) = true := decide_eq_true c12; clear c12; have H' := Aside0.mk H; clear H; go_wp2
       go_meet
       case rel => exact ⟨_, (true), (by first | rfl | (simp; done) | (simp [*]; done)), H', ⟨by first | omega | exact Nat.le_refl _⟩, by repeat (first | exact Drawn0.refl _ | apply Drawn0.step)⟩
      ·rw [if_neg c12] at H; have c12b0 : decide ((bt a0 a1) ≤ 90) = false := decide_eq_false c12; clear c12; have H' := Aside0.mk H; clear H; go_wp2
       go_meet
       case rel => exact ⟨_, (((bt a0 a1) == 95)), (by first | rfl | (simp; done) | (simp [*]; done)), H', ⟨by first | omega | exact Nat.le_refl _⟩, by repeat (first | exact Drawn0.refl _ | apply Drawn0.step)⟩
     ·rw [if_neg c11] at H; have c11b0 : decide (65 ≤ (bt a0 a1)) = false := decide_eq_false c11; clear c11; have H' := Aside0.mk H; clear H; go_wp2
      go_meet
      case rel => exact ⟨_, (((bt a0 a1) == 95)), (by first | rfl | (simp; done) | (simp [*]; done)), H', ⟨by first | omega | exact Nat.le_refl _⟩, by repeat (first | exact Drawn0.refl _ | apply Drawn0.step)⟩
   case rest =>
    clear HC6; (try clear c1); (try clear p2); (try clear c3); (try clear c3b0); (try clear c4); (try clear c4b0); (try clear p5); (try clear q5); (try clear hx5); (try clear c7); (try clear c7b0); (try clear c8); (try clear c8b0); (try clear c9); (try clear c9b0); (try clear c10); (try clear c10b0); (try clear c11); (try clear c11b0); (try clear c12); (try clear c12b0); (try clear p5); (try clear q5); obtain ⟨kq, x27_5, rfl, HA, HJ5, ⟨mc5, rfl⟩⟩ := hcut
    cases kq with
    | zero => exact absurd HA.out (by simp [spec_l00Letter.j0])
    | succ kj5 =>
     have H := HA.out; clear HA; simp only [spec_l00Letter.j0] at H; by_cases c13 : x27_5 = true
     ·subst c13
      have H1 : (some 1) = some r := by rw [if_pos rfl] at H; exact H
      clear H; have H := H1; clear H1; obtain rfl := Option.some.inj H; go_wp2; go_ret; exact ⟨by first | rfl | (simp; done) | (simp [*]; done), by repeat (first | exact Drawn0.refl _ | apply Drawn0.step)⟩
     ·replace c13 := Bool.eq_false_iff.mpr c13; subst c13
      have H1 : (if (bt a0 a1) < 194 then (spec_l00Letter.j1 kj5 a0 a1 (bt a0 a1) true) else (if (bt a0 a1) > 223 then (spec_l00Letter.j1 kj5 a0 a1 (bt a0 a1) true) else (if (wrap64 (a1 + 1)) ≥ (a0.size : Int) then (spec_l00Letter.j1 kj5 a0 a1 (bt a0 a1) true) else (if 0 ≤ (wrap64 (a1 + 1)) then (if (wrap64 (a1 + 1)) < (a0.size : Int) then (if (bt a0 (wrap64 (a1 + 1))) < 128 then (spec_l00Letter.j1 kj5 a0 a1 (bt a0 a1) true) else (spec_l00Letter.j1 kj5 a0 a1 (bt a0 a1) (decide ((bt a0 (wrap64 (a1 + 1))) > 191)))) else (none)) else (none))))) = some r := by rw [if_neg (show ¬ (false = true) by decide)] at H; exact H
      clear H; have H := H1; clear H1; have HC14 := Aside0.mk H; clear H
      go_upto_region 4 with (fail)
      go_cut [54] (fun v54 wc => ∃ (kq : Nat) (x54_13 : Bool), v54 = .bool x54_13 ∧ Aside0 (spec_l00Letter.j1 kq a0 a1 (bt a0 a1) x54_13 = some r) ∧ Aside0 (kq ≤ kj5) ∧ Drawn0 w wc)
      case first =>
       have H := HC14.out; clear HC14; by_cases c15 : (bt a0 a1) < 194
       ·rw [if_pos c15] at H; have c15b0 : decide ((bt a0 a1) < 194) = true := decide_eq_true c15; clear c15
        (first | rw [c15b0] | (simp only [i64_w, i32_w]; rw [c15b0]) | skip)
        have H' := Aside0.mk H; clear H; go_wp2
        go_meet
        case rel => exact ⟨_, (true), (by first | rfl | (simp; done) | (simp [*]; done)), H', ⟨by have := HJ5.out; first | omega | exact Nat.le_refl _⟩, by repeat (first | exact Drawn0.refl _ | apply Drawn0.step)⟩
       ·rw [if_neg c15] at H; have c15b0 : decide ((bt a0 a1) < 194) = false := decide_eq_false c15; clear c15
        (first | rw [c15b0] | (simp only [i64_w, i32_w]; rw [c15b0]) | skip)
        by_cases c16 : (bt a0 a1) > 223
        ·rw [if_pos c16] at H; have c16b0 : decide (223 < (bt a0 a1)) = true := decide_eq_true c16; clear c16; have H' := Aside0.mk H; clear H; go_wp2
         go_meet
         case rel => exact ⟨_, (true), (by first | rfl | (simp; done) | (simp [*]; done)), H', ⟨by have := HJ5.out; first | omega | exact Nat.le_refl _⟩, by repeat (first | exact Drawn0.refl _ | apply Drawn0.step)⟩
        ·rw [if_neg c16] at H; have c16b0 : decide (223 < (bt a0 a1)) = false := decide_eq_false c16; clear c16; by_cases c17 : (wrap64 (a1 + 1)) ≥ (a0.size : Int)
         ·rw [if_pos c17] at H; have c17b0 : decide ((a0.size : Int) ≤ (wrap64 (a1 + 1))) = true := decide_eq_true c17; clear c17; have H' := Aside0.mk H; clear H; go_wp2
          go_meet
          case rel => exact ⟨_, (true), (by first | rfl | (simp; done) | (simp [*]; done)), H', ⟨by have := HJ5.out; first | omega | exact Nat.le_refl _⟩, by repeat (first | exact Drawn0.refl _ | apply Drawn0.step)⟩
         ·rw [if_neg c17] at H; have c17b0 : decide ((a0.size : Int) ≤ (wrap64 (a1 + 1))) = false := decide_eq_false c17; clear c17; obtain ⟨ji18, hji18⟩ : ∃ j_ : Int, (wrap64 (a1 + 1)) = j_ := ⟨_, rfl⟩
          replace H : (if 0 ≤ (ji18) then (if (ji18) < (a0.size : Int) then (if (bt a0 (ji18)) < 128 then (spec_l00Letter.j1 kj5 a0 a1 (bt a0 a1) true) else (spec_l00Letter.j1 kj5 a0 a1 (bt a0 a1) (decide ((bt a0 (ji18)) > 191)))) else (none)) else (none)) = some r := by first | (rw [hji18] at H; exact H) | (simp only [hji18] at H ⊢; exact H)
          (try rw [hji18] at c17b0)
          have hji18w : (IntKind.i64.wrap (a1 + 1)) = ji18 := (i64_w _).trans hji18; by_cases c19 : 0 ≤ (ji18)
          ·rw [if_pos c19] at H; have c19b0 : decide (0 ≤ (ji18)) = true := decide_eq_true c19; clear c19; by_cases c20 : (ji18) < (a0.size : Int)
           ·rw [if_pos c20] at H; have c20b0 : decide ((ji18) < (a0.size : Int)) = true := decide_eq_true c20; clear c20; by_cases c22 : (bt a0 (ji18)) < 128
            ·rw [if_pos c22] at H; have c22b0 : decide ((bt a0 (ji18)) < 128) = true := decide_eq_true c22; clear c22; have H' := Aside0.mk H; clear H; have p21 : 0 ≤ ((ji18) : Int) := of_decide_eq_true (by first | (with_reducible assumption) | assumption); have q21 : (ji18) < (a0.size : Int) := of_decide_eq_true (by first | (with_reducible assumption) | assumption); have hx21 := bt_at a0 (ji18); replace p21 := eq_true p21; replace q21 := eq_true q21; go_wp2
             go_meet
             case rel => exact ⟨_, (true), (by first | rfl | (simp; done) | (simp [*]; done)), H', ⟨by have := HJ5.out; first | omega | exact Nat.le_refl _⟩, by repeat (first | exact Drawn0.refl _ | apply Drawn0.step)⟩
            ·rw [if_neg c22] at H; have c22b0 : decide ((bt a0 (ji18)) < 128) = false := decide_eq_false c22; clear c22; have H' := Aside0.mk H; clear H; have p21 : 0 ≤ ((ji18) : Int) := of_decide_eq_true (by first | (with_reducible assumption) | assumption); have q21 : (ji18) < (a0.size : Int) := of_decide_eq_true (by first | (with_reducible assumption) | assumption); have hx21 := bt_at a0 (ji18); replace p21 := eq_true p21; replace q21 := eq_true q21; have p23 : 0 ≤ ((ji18) : Int) := of_decide_eq_true (by first | (with_reducible assumption) | assumption); have q23 : (ji18) < (a0.size : Int) := of_decide_eq_true (by first | (with_reducible assumption) | assumption); have hx23 := bt_at a0 (ji18); replace p23 := eq_true p23; replace q23 := eq_true q23; go_wp2
             go_meet
             case rel => exact ⟨_, (decide ((bt a0 (ji18)) > 191)), (by first | rfl | (simp; done) | (simp only [← hji18] <;> (first | rfl | simp)) | (simp [*]; done)), H', ⟨by have := HJ5.out; first | omega | exact Nat.le_refl _⟩, by repeat (first | exact Drawn0.refl _ | apply Drawn0.step)⟩
           ·rw [if_neg c20] at H; exact absurd H (by simp)
          ·rw [if_neg c19] at H; exact absurd H (by simp)
      case rest =>
       clear HC14; (try clear c1); (try clear c2); (try clear p2); (try clear q2); (try clear hx2); (try clear c3); (try clear c3b0); (try clear c4); (try clear c4b0); (try clear c5); (try clear p5); (try clear q5); (try clear hx5); (try clear p6); (try clear c7); (try clear c7b0); (try clear c8); (try clear c8b0); (try clear c9); (try clear c9b0); (try clear c10); (try clear c10b0); (try clear c11); (try clear c11b0); (try clear c12); (try clear c12b0); (try clear c13); (try clear c15); (try clear c15b0); (try clear c16); (try clear c16b0); (try clear c17); (try clear c17b0); (try clear c19); (try clear c19b0); (try clear c20); (try clear c20b0); (try clear p21); (try clear q21); (try clear hx21); (try clear c22); (try clear c22b0); (try clear p23); (try clear q23); (try clear hx23); (try clear p2); (try clear p21); (try clear p23); (try clear p5); (try clear q21); (try clear q23); (try clear q5); obtain ⟨kq, x54_13, rfl, HA, HJ13, ⟨mc13, rfl⟩⟩ := hcut
       cases kq with
       | zero => exact absurd HA.out (by simp [spec_l00Letter.j1])
       | succ kj13 =>
        have H := HA.out; clear HA; simp only [spec_l00Letter.j1] at H; by_cases c24 : x54_13 = true
        ·subst c24
         have H1 : (some 0) = some r := by rw [if_pos rfl] at H; exact H
         clear H; have H := H1; clear H1; obtain rfl := Option.some.inj H; go_wp2; go_ret; exact ⟨by first | rfl | (simp; done) | (simp [*]; done), by repeat (first | exact Drawn0.refl _ | apply Drawn0.step)⟩
        ·replace c24 := Bool.eq_false_iff.mpr c24; subst c24
         have H1 : (if 0 ≤ (wrap64 (a1 + 1)) then (if (wrap64 (a1 + 1)) < (a0.size : Int) then (if (wrap64 ((wrap64 ((wrap64 ((wrap64 ((wrap64 ((bt a0 a1))) - 192)) * 64)) + (wrap64 (bt a0 (wrap64 (a1 + 1)))))) - 128)) ≥ 192 then (if (wrap64 ((wrap64 ((wrap64 ((wrap64 ((wrap64 ((bt a0 a1))) - 192)) * 64)) + (wrap64 (bt a0 (wrap64 (a1 + 1)))))) - 128)) ≤ 591 then (if (wrap64 ((wrap64 ((wrap64 ((wrap64 ((wrap64 ((bt a0 a1))) - 192)) * 64)) + (wrap64 (bt a0 (wrap64 (a1 + 1)))))) - 128)) = 215 then (if (wrap64 ((wrap64 ((wrap64 ((wrap64 ((wrap64 ((bt a0 a1))) - 192)) * 64)) + (wrap64 (bt a0 (wrap64 (a1 + 1)))))) - 128)) ≥ 913 then (if (wrap64 ((wrap64 ((wrap64 ((wrap64 ((wrap64 ((bt a0 a1))) - 192)) * 64)) + (wrap64 (bt a0 (wrap64 (a1 + 1)))))) - 128)) ≤ 969 then (some 2) else (if (wrap64 ((wrap64 ((wrap64 ((wrap64 ((wrap64 ((bt a0 a1))) - 192)) * 64)) + (wrap64 (bt a0 (wrap64 (a1 + 1)))))) - 128)) ≥ 1040 then (if (wrap64 ((wrap64 ((wrap64 ((wrap64 ((wrap64 ((bt a0 a1))) - 192)) * 64)) + (wrap64 (bt a0 (wrap64 (a1 + 1)))))) - 128)) ≤ 1103 then (some 2) else (some 0)) else (some 0))) else (if (wrap64 ((wrap64 ((wrap64 ((wrap64 ((wrap64 ((bt a0 a1))) - 192)) * 64)) + (wrap64 (bt a0 (wrap64 (a1 + 1)))))) - 128)) ≥ 1040 then (if (wrap64 ((wrap64 ((wrap64 ((wrap64 ((wrap64 ((bt a0 a1))) - 192)) * 64)) + (wrap64 (bt a0 (wrap64 (a1 + 1)))))) - 128)) ≤ 1103 then (some 2) else (some 0)) else (some 0))) else (if (wrap64 ((wrap64 ((wrap64 ((wrap64 ((wrap64 ((bt a0 a1))) - 192)) * 64)) + (wrap64 (bt a0 (wrap64 (a1 + 1)))))) - 128)) = 247 then (if (wrap64 ((wrap64 ((wrap64 ((wrap64 ((wrap64 ((bt a0 a1))) - 192)) * 64)) + (wrap64 (bt a0 (wrap64 (a1 + 1)))))) - 128)) ≥ 913 then (if (wrap64 ((wrap64 ((wrap64 ((wrap64 ((wrap64 ((bt a0 a1))) - 192)) * 64)) + (wrap64 (bt a0 (wrap64 (a1 + 1)))))) - 128)) ≤ 969 then (some 2) else (if (wrap64 ((wrap64 ((wrap64 ((wrap64 ((wrap64 ((bt a0 a1))) - 192)) * 64)) + (wrap64 (bt a0 (wrap64 (a1 + 1)))))) - 128)) ≥ 1040 then (if (wrap64 ((wrap64 ((wrap64 ((wrap64 ((wrap64 ((bt a0 a1))) - 192)) * 64)) + (wrap64 (bt a0 (wrap64 (a1 + 1)))))) - 128)) ≤ 1103 then (some 2) else (some 0)) else (some 0))) else (if (wrap64 ((wrap64 ((wrap64 ((wrap64 ((wrap64 ((bt a0 a1))) - 192)) * 64)) + (wrap64 (bt a0 (wrap64 (a1 + 1)))))) - 128)) ≥ 1040 then (if (wrap64 ((wrap64 ((wrap64 ((wrap64 ((wrap64 ((bt a0 a1))) - 192)) * 64)) + (wrap64 (bt a0 (wrap64 (a1 + 1)))))) - 128)) ≤ 1103 then (some 2) else (some 0)) else (some 0))) else (some 2))) else (if (wrap64 ((wrap64 ((wrap64 ((wrap64 ((wrap64 ((bt a0 a1))) - 192)) * 64)) + (wrap64 (bt a0 (wrap64 (a1 + 1)))))) - 128)) ≥ 913 then (if (wrap64 ((wrap64 ((wrap64 ((wrap64 ((wrap64 ((bt a0 a1))) - 192)) * 64)) + (wrap64 (bt a0 (wrap64 (a1 + 1)))))) - 128)) ≤ 969 then (some 2) else (if (wrap64 ((wrap64 ((wrap64 ((wrap64 ((wrap64 ((bt a0 a1))) - 192)) * 64)) + (wrap64 (bt a0 (wrap64 (a1 + 1)))))) - 128)) ≥ 1040 then (if (wrap64 ((wrap64 ((wrap64 ((wrap64 ((wrap64 ((bt a0 a1))) - 192)) * 64)) + (wrap64 (bt a0 (wrap64 (a1 + 1)))))) - 128)) ≤ 1103 then (some 2) else (some 0)) else (some 0))) else (if (wrap64 ((wrap64 ((wrap64 ((wrap64 ((wrap64 ((bt a0 a1))) - 192)) * 64)) + (wrap64 (bt a0 (wrap64 (a1 + 1)))))) - 128)) ≥ 1040 then (if (wrap64 ((wrap64 ((wrap64 ((wrap64 ((wrap64 ((bt a0 a1))) - 192)) * 64)) + (wrap64 (bt a0 (wrap64 (a1 + 1)))))) - 128)) ≤ 1103 then (some 2) else (some 0)) else (some 0)))) else (if (wrap64 ((wrap64 ((wrap64 ((wrap64 ((wrap64 ((bt a0 a1))) - 192)) * 64)) + (wrap64 (bt a0 (wrap64 (a1 + 1)))))) - 128)) ≥ 913 then (if (wrap64 ((wrap64 ((wrap64 ((wrap64 ((wrap64 ((bt a0 a1))) - 192)) * 64)) + (wrap64 (bt a0 (wrap64 (a1 + 1)))))) - 128)) ≤ 969 then (some 2) else (if (wrap64 ((wrap64 ((wrap64 ((wrap64 ((wrap64 ((bt a0 a1))) - 192)) * 64)) + (wrap64 (bt a0 (wrap64 (a1 + 1)))))) - 128)) ≥ 1040 then (if (wrap64 ((wrap64 ((wrap64 ((wrap64 ((wrap64 ((bt a0 a1))) - 192)) * 64)) + (wrap64 (bt a0 (wrap64 (a1 + 1)))))) - 128)) ≤ 1103 then (some 2) else (some 0)) else (some 0))) else (if (wrap64 ((wrap64 ((wrap64 ((wrap64 ((wrap64 ((bt a0 a1))) - 192)) * 64)) + (wrap64 (bt a0 (wrap64 (a1 + 1)))))) - 128)) ≥ 1040 then (if (wrap64 ((wrap64 ((wrap64 ((wrap64 ((wrap64 ((bt a0 a1))) - 192)) * 64)) + (wrap64 (bt a0 (wrap64 (a1 + 1)))))) - 128)) ≤ 1103 then (some 2) else (some 0)) else (some 0)))) else (none)) else (none)) = some r := by rw [if_neg (show ¬ (false = true) by decide)] at H; exact H
         clear H; have H := H1; clear H1; obtain ⟨ji25, hji25⟩ : ∃ j_ : Int, (wrap64 (a1 + 1)) = j_ := ⟨_, rfl⟩
         replace H : (if 0 ≤ (ji25) then (if (ji25) < (a0.size : Int) then (if (wrap64 ((wrap64 ((wrap64 ((wrap64 ((wrap64 ((bt a0 a1))) - 192)) * 64)) + (wrap64 (bt a0 (ji25))))) - 128)) ≥ 192 then (if (wrap64 ((wrap64 ((wrap64 ((wrap64 ((wrap64 ((bt a0 a1))) - 192)) * 64)) + (wrap64 (bt a0 (ji25))))) - 128)) ≤ 591 then (if (wrap64 ((wrap64 ((wrap64 ((wrap64 ((wrap64 ((bt a0 a1))) - 192)) * 64)) + (wrap64 (bt a0 (ji25))))) - 128)) = 215 then (if (wrap64 ((wrap64 ((wrap64 ((wrap64 ((wrap64 ((bt a0 a1))) - 192)) * 64)) + (wrap64 (bt a0 (ji25))))) - 128)) ≥ 913 then (if (wrap64 ((wrap64 ((wrap64 ((wrap64 ((wrap64 ((bt a0 a1))) - 192)) * 64)) + (wrap64 (bt a0 (ji25))))) - 128)) ≤ 969 then (some 2) else (if (wrap64 ((wrap64 ((wrap64 ((wrap64 ((wrap64 ((bt a0 a1))) - 192)) * 64)) + (wrap64 (bt a0 (ji25))))) - 128)) ≥ 1040 then (if (wrap64 ((wrap64 ((wrap64 ((wrap64 ((wrap64 ((bt a0 a1))) - 192)) * 64)) + (wrap64 (bt a0 (ji25))))) - 128)) ≤ 1103 then (some 2) else (some 0)) else (some 0))) else (if (wrap64 ((wrap64 ((wrap64 ((wrap64 ((wrap64 ((bt a0 a1))) - 192)) * 64)) + (wrap64 (bt a0 (ji25))))) - 128)) ≥ 1040 then (if (wrap64 ((wrap64 ((wrap64 ((wrap64 ((wrap64 ((bt a0 a1))) - 192)) * 64)) + (wrap64 (bt a0 (ji25))))) - 128)) ≤ 1103 then (some 2) else (some 0)) else (some 0))) else (if (wrap64 ((wrap64 ((wrap64 ((wrap64 ((wrap64 ((bt a0 a1))) - 192)) * 64)) + (wrap64 (bt a0 (ji25))))) - 128)) = 247 then (if (wrap64 ((wrap64 ((wrap64 ((wrap64 ((wrap64 ((bt a0 a1))) - 192)) * 64)) + (wrap64 (bt a0 (ji25))))) - 128)) ≥ 913 then (if (wrap64 ((wrap64 ((wrap64 ((wrap64 ((wrap64 ((bt a0 a1))) - 192)) * 64)) + (wrap64 (bt a0 (ji25))))) - 128)) ≤ 969 then (some 2) else (if (wrap64 ((wrap64 ((wrap64 ((wrap64 ((wrap64 ((bt a0 a1))) - 192)) * 64)) + (wrap64 (bt a0 (ji25))))) - 128)) ≥ 1040 then (if (wrap64 ((wrap64 ((wrap64 ((wrap64 ((wrap64 ((bt a0 a1))) - 192)) * 64)) + (wrap64 (bt a0 (ji25))))) - 128)) ≤ 1103 then (some 2) else (some 0)) else (some 0))) else (if (wrap64 ((wrap64 ((wrap64 ((wrap64 ((wrap64 ((bt a0 a1))) - 192)) * 64)) + (wrap64 (bt a0 (ji25))))) - 128)) ≥ 1040 then (if (wrap64 ((wrap64 ((wrap64 ((wrap64 ((wrap64 ((bt a0 a1))) - 192)) * 64)) + (wrap64 (bt a0 (ji25))))) - 128)) ≤ 1103 then (some 2) else (some 0)) else (some 0))) else (some 2))) else (if (wrap64 ((wrap64 ((wrap64 ((wrap64 ((wrap64 ((bt a0 a1))) - 192)) * 64)) + (wrap64 (bt a0 (ji25))))) - 128)) ≥ 913 then (if (wrap64 ((wrap64 ((wrap64 ((wrap64 ((wrap64 ((bt a0 a1))) - 192)) * 64)) + (wrap64 (bt a0 (ji25))))) - 128)) ≤ 969 then (some 2) else (if (wrap64 ((wrap64 ((wrap64 ((wrap64 ((wrap64 ((bt a0 a1))) - 192)) * 64)) + (wrap64 (bt a0 (ji25))))) - 128)) ≥ 1040 then (if (wrap64 ((wrap64 ((wrap64 ((wrap64 ((wrap64 ((bt a0 a1))) - 192)) * 64)) + (wrap64 (bt a0 (ji25))))) - 128)) ≤ 1103 then (some 2) else (some 0)) else (some 0))) else (if (wrap64 ((wrap64 ((wrap64 ((wrap64 ((wrap64 ((bt a0 a1))) - 192)) * 64)) + (wrap64 (bt a0 (ji25))))) - 128)) ≥ 1040 then (if (wrap64 ((wrap64 ((wrap64 ((wrap64 ((wrap64 ((bt a0 a1))) - 192)) * 64)) + (wrap64 (bt a0 (ji25))))) - 128)) ≤ 1103 then (some 2) else (some 0)) else (some 0)))) else (if (wrap64 ((wrap64 ((wrap64 ((wrap64 ((wrap64 ((bt a0 a1))) - 192)) * 64)) + (wrap64 (bt a0 (ji25))))) - 128)) ≥ 913 then (if (wrap64 ((wrap64 ((wrap64 ((wrap64 ((wrap64 ((bt a0 a1))) - 192)) * 64)) + (wrap64 (bt a0 (ji25))))) - 128)) ≤ 969 then (some 2) else (if (wrap64 ((wrap64 ((wrap64 ((wrap64 ((wrap64 ((bt a0 a1))) - 192)) * 64)) + (wrap64 (bt a0 (ji25))))) - 128)) ≥ 1040 then (if (wrap64 ((wrap64 ((wrap64 ((wrap64 ((wrap64 ((bt a0 a1))) - 192)) * 64)) + (wrap64 (bt a0 (ji25))))) - 128)) ≤ 1103 then (some 2) else (some 0)) else (some 0))) else (if (wrap64 ((wrap64 ((wrap64 ((wrap64 ((wrap64 ((bt a0 a1))) - 192)) * 64)) + (wrap64 (bt a0 (ji25))))) - 128)) ≥ 1040 then (if (wrap64 ((wrap64 ((wrap64 ((wrap64 ((wrap64 ((bt a0 a1))) - 192)) * 64)) + (wrap64 (bt a0 (ji25))))) - 128)) ≤ 1103 then (some 2) else (some 0)) else (some 0)))) else (none)) else (none)) = some r := by first | (rw [hji25] at H; exact H) | (simp only [hji25] at H ⊢; exact H)
         have hji25w : (IntKind.i64.wrap (a1 + 1)) = ji25 := (i64_w _).trans hji25; by_cases c26 : 0 ≤ (ji25)
         ·rw [if_pos c26] at H; have c26b0 : decide (0 ≤ (ji25)) = true := decide_eq_true c26; clear c26; by_cases c27 : (ji25) < (a0.size : Int)
          ·rw [if_pos c27] at H; have c27b0 : decide ((ji25) < (a0.size : Int)) = true := decide_eq_true c27; clear c27; by_cases c29 : (wrap64 ((wrap64 ((wrap64 ((wrap64 ((wrap64 ((bt a0 a1))) - 192)) * 64)) + (wrap64 (bt a0 (ji25))))) - 128)) ≥ 192
           ·rw [if_pos c29] at H; have c29b0 : decide (192 ≤ (wrap64 ((wrap64 ((wrap64 ((wrap64 ((wrap64 ((bt a0 a1))) - 192)) * 64)) + (wrap64 (bt a0 (ji25))))) - 128))) = true := decide_eq_true c29; clear c29; by_cases c30 : (wrap64 ((wrap64 ((wrap64 ((wrap64 ((wrap64 ((bt a0 a1))) - 192)) * 64)) + (wrap64 (bt a0 (ji25))))) - 128)) ≤ 591
            ·rw [if_pos c30] at H; have c30b0 : decide ((wrap64 ((wrap64 ((wrap64 ((wrap64 ((wrap64 ((bt a0 a1))) - 192)) * 64)) + (wrap64 (bt a0 (ji25))))) - 128)) ≤ 591) = true := decide_eq_true c30; clear c30; by_cases c31 : (wrap64 ((wrap64 ((wrap64 ((wrap64 ((wrap64 ((bt a0 a1))) - 192)) * 64)) + (wrap64 (bt a0 (ji25))))) - 128)) = 215
             ·rw [if_pos c31] at H; have c31b0 : ((wrap64 ((wrap64 ((wrap64 ((wrap64 ((wrap64 ((bt a0 a1))) - 192)) * 64)) + (wrap64 (bt a0 (ji25))))) - 128)) == 215) = true := beq_iff_eq.mpr c31; have c31b1 : ((wrap64 ((wrap64 ((wrap64 ((wrap64 ((wrap64 ((bt a0 a1))) - 192)) * 64)) + (wrap64 (bt a0 (ji25))))) - 128)) != 215) = false := bne_eq_false_iff_eq.mpr c31; clear c31; by_cases c32 : (wrap64 ((wrap64 ((wrap64 ((wrap64 ((wrap64 ((bt a0 a1))) - 192)) * 64)) + (wrap64 (bt a0 (ji25))))) - 128)) ≥ 913
              ·rw [if_pos c32] at H; have c32b0 : decide (913 ≤ (wrap64 ((wrap64 ((wrap64 ((wrap64 ((wrap64 ((bt a0 a1))) - 192)) * 64)) + (wrap64 (bt a0 (ji25))))) - 128))) = true := decide_eq_true c32; clear c32; by_cases c33 : (wrap64 ((wrap64 ((wrap64 ((wrap64 ((wrap64 ((bt a0 a1))) - 192)) * 64)) + (wrap64 (bt a0 (ji25))))) - 128)) ≤ 969
               ·rw [if_pos c33] at H; have c33b0 : decide ((wrap64 ((wrap64 ((wrap64 ((wrap64 ((wrap64 ((bt a0 a1))) - 192)) * 64)) + (wrap64 (bt a0 (ji25))))) - 128)) ≤ 969) = true := decide_eq_true c33; clear c33; obtain rfl := Option.some.inj H; have p28 : 0 ≤ ((ji25) : Int) := of_decide_eq_true (by first | (with_reducible assumption) | assumption); have q28 : (ji25) < (a0.size : Int) := of_decide_eq_true (by first | (with_reducible assumption) | assumption); have hx28 := bt_at a0 (ji25); replace p28 := eq_true p28; replace q28 := eq_true q28; go_wp2; go_ret; exact ⟨by first | rfl | (simp; done) | (simp only [← hji25] <;> (first | rfl | simp)) | (simp [*]; done), by repeat (first | exact Drawn0.refl _ | apply Drawn0.step)⟩
               ·rw [if_neg c33] at H; have c33b0 : decide ((wrap64 ((wrap64 ((wrap64 ((wrap64 ((wrap64 ((bt a0 a1))) - 192)) * 64)) + (wrap64 (bt a0 (ji25))))) - 128)) ≤ 969) = false := decide_eq_false c33; clear c33; by_cases c34 : (wrap64 ((wrap64 ((wrap64 ((wrap64 ((wrap64 ((bt a0 a1))) - 192)) * 64)) + (wrap64 (bt a0 (ji25))))) - 128)) ≥ 1040
                ·rw [if_pos c34] at H; have c34b0 : decide (1040 ≤ (wrap64 ((wrap64 ((wrap64 ((wrap64 ((wrap64 ((bt a0 a1))) - 192)) * 64)) + (wrap64 (bt a0 (ji25))))) - 128))) = true := decide_eq_true c34; clear c34; by_cases c35 : (wrap64 ((wrap64 ((wrap64 ((wrap64 ((wrap64 ((bt a0 a1))) - 192)) * 64)) + (wrap64 (bt a0 (ji25))))) - 128)) ≤ 1103
                 ·rw [if_pos c35] at H; have c35b0 : decide ((wrap64 ((wrap64 ((wrap64 ((wrap64 ((wrap64 ((bt a0 a1))) - 192)) * 64)) + (wrap64 (bt a0 (ji25))))) - 128)) ≤ 1103) = true := decide_eq_true c35; clear c35; obtain rfl := Option.some.inj H; have p28 : 0 ≤ ((ji25) : Int) := of_decide_eq_true (by first | (with_reducible assumption) | assumption); have q28 : (ji25) < (a0.size : Int) := of_decide_eq_true (by first | (with_reducible assumption) | assumption); have hx28 := bt_at a0 (ji25); replace p28 := eq_true p28; replace q28 := eq_true q28; go_wp2; go_ret; exact ⟨by first | rfl | (simp; done) | (simp only [← hji25] <;> (first | rfl | simp)) | (simp [*]; done), by repeat (first | exact Drawn0.refl _ | apply Drawn0.step)⟩
                 ·rw [if_neg c35] at H; have c35b0 : decide ((wrap64 ((wrap64 ((wrap64 ((wrap64 ((wrap64 ((bt a0 a1))) - 192)) * 64)) + (wrap64 (bt a0 (ji25))))) - 128)) ≤ 1103) = false := decide_eq_false c35; clear c35; obtain rfl := Option.some.inj H; have p28 : 0 ≤ ((ji25) : Int) := of_decide_eq_true (by first | (with_reducible assumption) | assumption); have q28 : (ji25) < (a0.size : Int) := of_decide_eq_true (by first | (with_reducible assumption) | assumption); have hx28 := bt_at a0 (ji25); replace p28 := eq_true p28; replace q28 := eq_true q28; go_wp2; go_ret; exact ⟨by first | rfl | (simp; done) | (simp only [← hji25] <;> (first | rfl | simp)) | (simp [*]; done), by repeat (first | exact Drawn0.refl _ | apply Drawn0.step)⟩
                ·rw [if_neg c34] at H; have c34b0 : decide (1040 ≤ (wrap64 ((wrap64 ((wrap64 ((wrap64 ((wrap64 ((bt a0 a1))) - 192)) * 64)) + (wrap64 (bt a0 (ji25))))) - 128))) = false := decide_eq_false c34; clear c34; obtain rfl := Option.some.inj H; have p28 : 0 ≤ ((ji25) : Int) := of_decide_eq_true (by first | (with_reducible assumption) | assumption); have q28 : (ji25) < (a0.size : Int) := of_decide_eq_true (by first | (with_reducible assumption) | assumption); have hx28 := bt_at a0 (ji25); replace p28 := eq_true p28; replace q28 := eq_true q28; go_wp2; go_ret; exact ⟨by first | rfl | (simp; done) | (simp only [← hji25] <;> (first | rfl | simp)) | (simp [*]; done), by repeat (first | exact Drawn0.refl _ | apply Drawn0.step)⟩
              ·rw [if_neg c32] at H; have c32b0 : decide (913 ≤ (wrap64 ((wrap64 ((wrap64 ((wrap64 ((wrap64 ((bt a0 a1))) - 192)) * 64)) + (wrap64 (bt a0 (ji25))))) - 128))) = false := decide_eq_false c32; clear c32; by_cases c36 : (wrap64 ((wrap64 ((wrap64 ((wrap64 ((wrap64 ((bt a0 a1))) - 192)) * 64)) + (wrap64 (bt a0 (ji25))))) - 128)) ≥ 1040
               ·rw [if_pos c36] at H; have c36b0 : decide (1040 ≤ (wrap64 ((wrap64 ((wrap64 ((wrap64 ((wrap64 ((bt a0 a1))) - 192)) * 64)) + (wrap64 (bt a0 (ji25))))) - 128))) = true := decide_eq_true c36; clear c36; by_cases c37 : (wrap64 ((wrap64 ((wrap64 ((wrap64 ((wrap64 ((bt a0 a1))) - 192)) * 64)) + (wrap64 (bt a0 (ji25))))) - 128)) ≤ 1103
                ·rw [if_pos c37] at H; have c37b0 : decide ((wrap64 ((wrap64 ((wrap64 ((wrap64 ((wrap64 ((bt a0 a1))) - 192)) * 64)) + (wrap64 (bt a0 (ji25))))) - 128)) ≤ 1103) = true := decide_eq_true c37; clear c37; obtain rfl := Option.some.inj H; have p28 : 0 ≤ ((ji25) : Int) := of_decide_eq_true (by first | (with_reducible assumption) | assumption); have q28 : (ji25) < (a0.size : Int) := of_decide_eq_true (by first | (with_reducible assumption) | assumption); have hx28 := bt_at a0 (ji25); replace p28 := eq_true p28; replace q28 := eq_true q28; go_wp2; go_ret; exact ⟨by first | rfl | (simp; done) | (simp only [← hji25] <;> (first | rfl | simp)) | (simp [*]; done), by repeat (first | exact Drawn0.refl _ | apply Drawn0.step)⟩
                ·rw [if_neg c37] at H; have c37b0 : decide ((wrap64 ((wrap64 ((wrap64 ((wrap64 ((wrap64 ((bt a0 a1))) - 192)) * 64)) + (wrap64 (bt a0 (ji25))))) - 128)) ≤ 1103) = false := decide_eq_false c37; clear c37; obtain rfl := Option.some.inj H; have p28 : 0 ≤ ((ji25) : Int) := of_decide_eq_true (by first | (with_reducible assumption) | assumption); have q28 : (ji25) < (a0.size : Int) := of_decide_eq_true (by first | (with_reducible assumption) | assumption); have hx28 := bt_at a0 (ji25); replace p28 := eq_true p28; replace q28 := eq_true q28; go_wp2; go_ret; exact ⟨by first | rfl | (simp; done) | (simp only [← hji25] <;> (first | rfl | simp)) | (simp [*]; done), by repeat (first | exact Drawn0.refl _ | apply Drawn0.step)⟩
               ·rw [if_neg c36] at H; have c36b0 : decide (1040 ≤ (wrap64 ((wrap64 ((wrap64 ((wrap64 ((wrap64 ((bt a0 a1))) - 192)) * 64)) + (wrap64 (bt a0 (ji25))))) - 128))) = false := decide_eq_false c36; clear c36; obtain rfl := Option.some.inj H; have p28 : 0 ≤ ((ji25) : Int) := of_decide_eq_true (by first | (with_reducible assumption) | assumption); have q28 : (ji25) < (a0.size : Int) := of_decide_eq_true (by first | (with_reducible assumption) | assumption); have hx28 := bt_at a0 (ji25); replace p28 := eq_true p28; replace q28 := eq_true q28; go_wp2; go_ret; exact ⟨by first | rfl | (simp; done) | (simp only [← hji25] <;> (first | rfl | simp)) | (simp [*]; done), by repeat (first | exact Drawn0.refl _ | apply Drawn0.step)⟩
             ·rw [if_neg c31] at H; have c31b0 : ((wrap64 ((wrap64 ((wrap64 ((wrap64 ((wrap64 ((bt a0 a1))) - 192)) * 64)) + (wrap64 (bt a0 (ji25))))) - 128)) == 215) = false := beq_eq_false_iff_ne.mpr c31; have c31b1 : ((wrap64 ((wrap64 ((wrap64 ((wrap64 ((wrap64 ((bt a0 a1))) - 192)) * 64)) + (wrap64 (bt a0 (ji25))))) - 128)) != 215) = true := bne_iff_ne.mpr c31; by_cases c38 : (wrap64 ((wrap64 ((wrap64 ((wrap64 ((wrap64 ((bt a0 a1))) - 192)) * 64)) + (wrap64 (bt a0 (ji25))))) - 128)) = 247
              ·rw [if_pos c38] at H; have c38b0 : ((wrap64 ((wrap64 ((wrap64 ((wrap64 ((wrap64 ((bt a0 a1))) - 192)) * 64)) + (wrap64 (bt a0 (ji25))))) - 128)) == 247) = true := beq_iff_eq.mpr c38; have c38b1 : ((wrap64 ((wrap64 ((wrap64 ((wrap64 ((wrap64 ((bt a0 a1))) - 192)) * 64)) + (wrap64 (bt a0 (ji25))))) - 128)) != 247) = false := bne_eq_false_iff_eq.mpr c38; clear c38; by_cases c39 : (wrap64 ((wrap64 ((wrap64 ((wrap64 ((wrap64 ((bt a0 a1))) - 192)) * 64)) + (wrap64 (bt a0 (ji25))))) - 128)) ≥ 913
               ·rw [if_pos c39] at H; have c39b0 : decide (913 ≤ (wrap64 ((wrap64 ((wrap64 ((wrap64 ((wrap64 ((bt a0 a1))) - 192)) * 64)) + (wrap64 (bt a0 (ji25))))) - 128))) = true := decide_eq_true c39; clear c39; by_cases c40 : (wrap64 ((wrap64 ((wrap64 ((wrap64 ((wrap64 ((bt a0 a1))) - 192)) * 64)) + (wrap64 (bt a0 (ji25))))) - 128)) ≤ 969
                ·rw [if_pos c40] at H; have c40b0 : decide ((wrap64 ((wrap64 ((wrap64 ((wrap64 ((wrap64 ((bt a0 a1))) - 192)) * 64)) + (wrap64 (bt a0 (ji25))))) - 128)) ≤ 969) = true := decide_eq_true c40; clear c40; obtain rfl := Option.some.inj H; have p28 : 0 ≤ ((ji25) : Int) := of_decide_eq_true (by first | (with_reducible assumption) | assumption); have q28 : (ji25) < (a0.size : Int) := of_decide_eq_true (by first | (with_reducible assumption) | assumption); have hx28 := bt_at a0 (ji25); replace p28 := eq_true p28; replace q28 := eq_true q28; go_wp2; go_ret; exact ⟨by first | rfl | (simp; done) | (simp only [← hji25] <;> (first | rfl | simp)) | (simp [*]; done), by repeat (first | exact Drawn0.refl _ | apply Drawn0.step)⟩
                ·rw [if_neg c40] at H; have c40b0 : decide ((wrap64 ((wrap64 ((wrap64 ((wrap64 ((wrap64 ((bt a0 a1))) - 192)) * 64)) + (wrap64 (bt a0 (ji25))))) - 128)) ≤ 969) = false := decide_eq_false c40; clear c40; by_cases c41 : (wrap64 ((wrap64 ((wrap64 ((wrap64 ((wrap64 ((bt a0 a1))) - 192)) * 64)) + (wrap64 (bt a0 (ji25))))) - 128)) ≥ 1040
                 ·rw [if_pos c41] at H; have c41b0 : decide (1040 ≤ (wrap64 ((wrap64 ((wrap64 ((wrap64 ((wrap64 ((bt a0 a1))) - 192)) * 64)) + (wrap64 (bt a0 (ji25))))) - 128))) = true := decide_eq_true c41; clear c41; by_cases c42 : (wrap64 ((wrap64 ((wrap64 ((wrap64 ((wrap64 ((bt a0 a1))) - 192)) * 64)) + (wrap64 (bt a0 (ji25))))) - 128)) ≤ 1103
                  ·rw [if_pos c42] at H; have c42b0 : decide ((wrap64 ((wrap64 ((wrap64 ((wrap64 ((wrap64 ((bt a0 a1))) - 192)) * 64)) + (wrap64 (bt a0 (ji25))))) - 128)) ≤ 1103) = true := decide_eq_true c42; clear c42; obtain rfl := Option.some.inj H; have p28 : 0 ≤ ((ji25) : Int) := of_decide_eq_true (by first | (with_reducible assumption) | assumption); have q28 : (ji25) < (a0.size : Int) := of_decide_eq_true (by first | (with_reducible assumption) | assumption); have hx28 := bt_at a0 (ji25); replace p28 := eq_true p28; replace q28 := eq_true q28; go_wp2; go_ret; exact ⟨by first | rfl | (simp; done) | (simp only [← hji25] <;> (first | rfl | simp)) | (simp [*]; done), by repeat (first | exact Drawn0.refl _ | apply Drawn0.step)⟩
                  ·rw [if_neg c42] at H; have c42b0 : decide ((wrap64 ((wrap64 ((wrap64 ((wrap64 ((wrap64 ((bt a0 a1))) - 192)) * 64)) + (wrap64 (bt a0 (ji25))))) - 128)) ≤ 1103) = false := decide_eq_false c42; clear c42; obtain rfl := Option.some.inj H; have p28 : 0 ≤ ((ji25) : Int) := of_decide_eq_true (by first | (with_reducible assumption) | assumption); have q28 : (ji25) < (a0.size : Int) := of_decide_eq_true (by first | (with_reducible assumption) | assumption); have hx28 := bt_at a0 (ji25); replace p28 := eq_true p28; replace q28 := eq_true q28; go_wp2; go_ret; exact ⟨by first | rfl | (simp; done) | (simp only [← hji25] <;> (first | rfl | simp)) | (simp [*]; done), by repeat (first | exact Drawn0.refl _ | apply Drawn0.step)⟩
                 ·rw [if_neg c41] at H; have c41b0 : decide (1040 ≤ (wrap64 ((wrap64 ((wrap64 ((wrap64 ((wrap64 ((bt a0 a1))) - 192)) * 64)) + (wrap64 (bt a0 (ji25))))) - 128))) = false := decide_eq_false c41; clear c41; obtain rfl := Option.some.inj H; have p28 : 0 ≤ ((ji25) : Int) := of_decide_eq_true (by first | (with_reducible assumption) | assumption); have q28 : (ji25) < (a0.size : Int) := of_decide_eq_true (by first | (with_reducible assumption) | assumption); have hx28 := bt_at a0 (ji25); replace p28 := eq_true p28; replace q28 := eq_true q28; go_wp2; go_ret; exact ⟨by first | rfl | (simp; done) | (simp only [← hji25] <;> (first | rfl | simp)) | (simp [*]; done), by repeat (first | exact Drawn0.refl _ | apply Drawn0.step)⟩
               ·rw [if_neg c39] at H; have c39b0 : decide (913 ≤ (wrap64 ((wrap64 ((wrap64 ((wrap64 ((wrap64 ((bt a0 a1))) - 192)) * 64)) + (wrap64 (bt a0 (ji25))))) - 128))) = false := decide_eq_false c39; clear c39; by_cases c43 : (wrap64 ((wrap64 ((wrap64 ((wrap64 ((wrap64 ((bt a0 a1))) - 192)) * 64)) + (wrap64 (bt a0 (ji25))))) - 128)) ≥ 1040
                ·rw [if_pos c43] at H; have c43b0 : decide (1040 ≤ (wrap64 ((wrap64 ((wrap64 ((wrap64 ((wrap64 ((bt a0 a1))) - 192)) * 64)) + (wrap64 (bt a0 (ji25))))) - 128))) = true := decide_eq_true c43; clear c43; by_cases c44 : (wrap64 ((wrap64 ((wrap64 ((wrap64 ((wrap64 ((bt a0 a1))) - 192)) * 64)) + (wrap64 (bt a0 (ji25))))) - 128)) ≤ 1103
                 ·rw [if_pos c44] at H; have c44b0 : decide ((wrap64 ((wrap64 ((wrap64 ((wrap64 ((wrap64 ((bt a0 a1))) - 192)) * 64)) + (wrap64 (bt a0 (ji25))))) - 128)) ≤ 1103) = true := decide_eq_true c44; clear c44; obtain rfl := Option.some.inj H; have p28 : 0 ≤ ((ji25) : Int) := of_decide_eq_true (by first | (with_reducible assumption) | assumption); have q28 : (ji25) < (a0.size : Int) := of_decide_eq_true (by first | (with_reducible assumption) | assumption); have hx28 := bt_at a0 (ji25); replace p28 := eq_true p28; replace q28 := eq_true q28; go_wp2; go_ret; exact ⟨by first | rfl | (simp; done) | (simp only [← hji25] <;> (first | rfl | simp)) | (simp [*]; done), by repeat (first | exact Drawn0.refl _ | apply Drawn0.step)⟩
                 ·rw [if_neg c44] at H; have c44b0 : decide ((wrap64 ((wrap64 ((wrap64 ((wrap64 ((wrap64 ((bt a0 a1))) - 192)) * 64)) + (wrap64 (bt a0 (ji25))))) - 128)) ≤ 1103) = false := decide_eq_false c44; clear c44; obtain rfl := Option.some.inj H; have p28 : 0 ≤ ((ji25) : Int) := of_decide_eq_true (by first | (with_reducible assumption) | assumption); have q28 : (ji25) < (a0.size : Int) := of_decide_eq_true (by first | (with_reducible assumption) | assumption); have hx28 := bt_at a0 (ji25); replace p28 := eq_true p28; replace q28 := eq_true q28; go_wp2; go_ret; exact ⟨by first | rfl | (simp; done) | (simp only [← hji25] <;> (first | rfl | simp)) | (simp [*]; done), by repeat (first | exact Drawn0.refl _ | apply Drawn0.step)⟩
                ·rw [if_neg c43] at H; have c43b0 : decide (1040 ≤ (wrap64 ((wrap64 ((wrap64 ((wrap64 ((wrap64 ((bt a0 a1))) - 192)) * 64)) + (wrap64 (bt a0 (ji25))))) - 128))) = false := decide_eq_false c43; clear c43; obtain rfl := Option.some.inj H; have p28 : 0 ≤ ((ji25) : Int) := of_decide_eq_true (by first | (with_reducible assumption) | assumption); have q28 : (ji25) < (a0.size : Int) := of_decide_eq_true (by first | (with_reducible assumption) | assumption); have hx28 := bt_at a0 (ji25); replace p28 := eq_true p28; replace q28 := eq_true q28; go_wp2; go_ret; exact ⟨by first | rfl | (simp; done) | (simp only [← hji25] <;> (first | rfl | simp)) | (simp [*]; done), by repeat (first | exact Drawn0.refl _ | apply Drawn0.step)⟩
              ·rw [if_neg c38] at H; have c38b0 : ((wrap64 ((wrap64 ((wrap64 ((wrap64 ((wrap64 ((bt a0 a1))) - 192)) * 64)) + (wrap64 (bt a0 (ji25))))) - 128)) == 247) = false := beq_eq_false_iff_ne.mpr c38; have c38b1 : ((wrap64 ((wrap64 ((wrap64 ((wrap64 ((wrap64 ((bt a0 a1))) - 192)) * 64)) + (wrap64 (bt a0 (ji25))))) - 128)) != 247) = true := bne_iff_ne.mpr c38; obtain rfl := Option.some.inj H; have p28 : 0 ≤ ((ji25) : Int) := of_decide_eq_true (by first | (with_reducible assumption) | assumption); have q28 : (ji25) < (a0.size : Int) := of_decide_eq_true (by first | (with_reducible assumption) | assumption); have hx28 := bt_at a0 (ji25); replace p28 := eq_true p28; replace q28 := eq_true q28; go_wp2; go_ret; exact ⟨by first | rfl | (simp; done) | (simp only [← hji25] <;> (first | rfl | simp)) | (simp [*]; done), by repeat (first | exact Drawn0.refl _ | apply Drawn0.step)⟩
            ·rw [if_neg c30] at H; have c30b0 : decide ((wrap64 ((wrap64 ((wrap64 ((wrap64 ((wrap64 ((bt a0 a1))) - 192)) * 64)) + (wrap64 (bt a0 (ji25))))) - 128)) ≤ 591) = false := decide_eq_false c30; clear c30; by_cases c45 : (wrap64 ((wrap64 ((wrap64 ((wrap64 ((wrap64 ((bt a0 a1))) - 192)) * 64)) + (wrap64 (bt a0 (ji25))))) - 128)) ≥ 913
             ·rw [if_pos c45] at H; have c45b0 : decide (913 ≤ (wrap64 ((wrap64 ((wrap64 ((wrap64 ((wrap64 ((bt a0 a1))) - 192)) * 64)) + (wrap64 (bt a0 (ji25))))) - 128))) = true := decide_eq_true c45; clear c45; by_cases c46 : (wrap64 ((wrap64 ((wrap64 ((wrap64 ((wrap64 ((bt a0 a1))) - 192)) * 64)) + (wrap64 (bt a0 (ji25))))) - 128)) ≤ 969
              ·rw [if_pos c46] at H; have c46b0 : decide ((wrap64 ((wrap64 ((wrap64 ((wrap64 ((wrap64 ((bt a0 a1))) - 192)) * 64)) + (wrap64 (bt a0 (ji25))))) - 128)) ≤ 969) = true := decide_eq_true c46; clear c46; obtain rfl := Option.some.inj H; have p28 : 0 ≤ ((ji25) : Int) := of_decide_eq_true (by first | (with_reducible assumption) | assumption); have q28 : (ji25) < (a0.size : Int) := of_decide_eq_true (by first | (with_reducible assumption) | assumption); have hx28 := bt_at a0 (ji25); replace p28 := eq_true p28; replace q28 := eq_true q28; go_wp2; go_ret; exact ⟨by first | rfl | (simp; done) | (simp only [← hji25] <;> (first | rfl | simp)) | (simp [*]; done), by repeat (first | exact Drawn0.refl _ | apply Drawn0.step)⟩
              ·rw [if_neg c46] at H; have c46b0 : decide ((wrap64 ((wrap64 ((wrap64 ((wrap64 ((wrap64 ((bt a0 a1))) - 192)) * 64)) + (wrap64 (bt a0 (ji25))))) - 128)) ≤ 969) = false := decide_eq_false c46; clear c46; by_cases c47 : (wrap64 ((wrap64 ((wrap64 ((wrap64 ((wrap64 ((bt a0 a1))) - 192)) * 64)) + (wrap64 (bt a0 (ji25))))) - 128)) ≥ 1040
               ·rw [if_pos c47] at H; have c47b0 : decide (1040 ≤ (wrap64 ((wrap64 ((wrap64 ((wrap64 ((wrap64 ((bt a0 a1))) - 192)) * 64)) + (wrap64 (bt a0 (ji25))))) - 128))) = true := decide_eq_true c47; clear c47; by_cases c48 : (wrap64 ((wrap64 ((wrap64 ((wrap64 ((wrap64 ((bt a0 a1))) - 192)) * 64)) + (wrap64 (bt a0 (ji25))))) - 128)) ≤ 1103
                ·rw [if_pos c48] at H; have c48b0 : decide ((wrap64 ((wrap64 ((wrap64 ((wrap64 ((wrap64 ((bt a0 a1))) - 192)) * 64)) + (wrap64 (bt a0 (ji25))))) - 128)) ≤ 1103) = true := decide_eq_true c48; clear c48; obtain rfl := Option.some.inj H; have p28 : 0 ≤ ((ji25) : Int) := of_decide_eq_true (by first | (with_reducible assumption) | assumption); have q28 : (ji25) < (a0.size : Int) := of_decide_eq_true (by first | (with_reducible assumption) | assumption); have hx28 := bt_at a0 (ji25); replace p28 := eq_true p28; replace q28 := eq_true q28; go_wp2; go_ret; exact ⟨by first | rfl | (simp; done) | (simp only [← hji25] <;> (first | rfl | simp)) | (simp [*]; done), by repeat (first | exact Drawn0.refl _ | apply Drawn0.step)⟩
                ·rw [if_neg c48] at H; have c48b0 : decide ((wrap64 ((wrap64 ((wrap64 ((wrap64 ((wrap64 ((bt a0 a1))) - 192)) * 64)) + (wrap64 (bt a0 (ji25))))) - 128)) ≤ 1103) = false := decide_eq_false c48; clear c48; obtain rfl := Option.some.inj H; have p28 : 0 ≤ ((ji25) : Int) := of_decide_eq_true (by first | (with_reducible assumption) | assumption); have q28 : (ji25) < (a0.size : Int) := of_decide_eq_true (by first | (with_reducible assumption) | assumption); have hx28 := bt_at a0 (ji25); replace p28 := eq_true p28; replace q28 := eq_true q28; go_wp2; go_ret; exact ⟨by first | rfl | (simp; done) | (simp only [← hji25] <;> (first | rfl | simp)) | (simp [*]; done), by repeat (first | exact Drawn0.refl _ | apply Drawn0.step)⟩
               ·rw [if_neg c47] at H; have c47b0 : decide (1040 ≤ (wrap64 ((wrap64 ((wrap64 ((wrap64 ((wrap64 ((bt a0 a1))) - 192)) * 64)) + (wrap64 (bt a0 (ji25))))) - 128))) = false := decide_eq_false c47; clear c47; obtain rfl := Option.some.inj H; have p28 : 0 ≤ ((ji25) : Int) := of_decide_eq_true (by first | (with_reducible assumption) | assumption); have q28 : (ji25) < (a0.size : Int) := of_decide_eq_true (by first | (with_reducible assumption) | assumption); have hx28 := bt_at a0 (ji25); replace p28 := eq_true p28; replace q28 := eq_true q28; go_wp2; go_ret; exact ⟨by first | rfl | (simp; done) | (simp only [← hji25] <;> (first | rfl | simp)) | (simp [*]; done), by repeat (first | exact Drawn0.refl _ | apply Drawn0.step)⟩
             ·rw [if_neg c45] at H; have c45b0 : decide (913 ≤ (wrap64 ((wrap64 ((wrap64 ((wrap64 ((wrap64 ((bt a0 a1))) - 192)) * 64)) + (wrap64 (bt a0 (ji25))))) - 128))) = false := decide_eq_false c45; clear c45; by_cases c49 : (wrap64 ((wrap64 ((wrap64 ((wrap64 ((wrap64 ((bt a0 a1))) - 192)) * 64)) + (wrap64 (bt a0 (ji25))))) - 128)) ≥ 1040
              ·rw [if_pos c49] at H; have c49b0 : decide (1040 ≤ (wrap64 ((wrap64 ((wrap64 ((wrap64 ((wrap64 ((bt a0 a1))) - 192)) * 64)) + (wrap64 (bt a0 (ji25))))) - 128))) = true := decide_eq_true c49; clear c49; by_cases c50 : (wrap64 ((wrap64 ((wrap64 ((wrap64 ((wrap64 ((bt a0 a1))) - 192)) * 64)) + (wrap64 (bt a0 (ji25))))) - 128)) ≤ 1103
               ·rw [if_pos c50] at H; have c50b0 : decide ((wrap64 ((wrap64 ((wrap64 ((wrap64 ((wrap64 ((bt a0 a1))) - 192)) * 64)) + (wrap64 (bt a0 (ji25))))) - 128)) ≤ 1103) = true := decide_eq_true c50; clear c50; obtain rfl := Option.some.inj H; have p28 : 0 ≤ ((ji25) : Int) := of_decide_eq_true (by first | (with_reducible assumption) | assumption); have q28 : (ji25) < (a0.size : Int) := of_decide_eq_true (by first | (with_reducible assumption) | assumption); have hx28 := bt_at a0 (ji25); replace p28 := eq_true p28; replace q28 := eq_true q28; go_wp2; go_ret; exact ⟨by first | rfl | (simp; done) | (simp only [← hji25] <;> (first | rfl | simp)) | (simp [*]; done), by repeat (first | exact Drawn0.refl _ | apply Drawn0.step)⟩
               ·rw [if_neg c50] at H; have c50b0 : decide ((wrap64 ((wrap64 ((wrap64 ((wrap64 ((wrap64 ((bt a0 a1))) - 192)) * 64)) + (wrap64 (bt a0 (ji25))))) - 128)) ≤ 1103) = false := decide_eq_false c50; clear c50; obtain rfl := Option.some.inj H; have p28 : 0 ≤ ((ji25) : Int) := of_decide_eq_true (by first | (with_reducible assumption) | assumption); have q28 : (ji25) < (a0.size : Int) := of_decide_eq_true (by first | (with_reducible assumption) | assumption); have hx28 := bt_at a0 (ji25); replace p28 := eq_true p28; replace q28 := eq_true q28; go_wp2; go_ret; exact ⟨by first | rfl | (simp; done) | (simp only [← hji25] <;> (first | rfl | simp)) | (simp [*]; done), by repeat (first | exact Drawn0.refl _ | apply Drawn0.step)⟩
              ·rw [if_neg c49] at H; have c49b0 : decide (1040 ≤ (wrap64 ((wrap64 ((wrap64 ((wrap64 ((wrap64 ((bt a0 a1))) - 192)) * 64)) + (wrap64 (bt a0 (ji25))))) - 128))) = false := decide_eq_false c49; clear c49; obtain rfl := Option.some.inj H; have p28 : 0 ≤ ((ji25) : Int) := of_decide_eq_true (by first | (with_reducible assumption) | assumption); have q28 : (ji25) < (a0.size : Int) := of_decide_eq_true (by first | (with_reducible assumption) | assumption); have hx28 := bt_at a0 (ji25); replace p28 := eq_true p28; replace q28 := eq_true q28; go_wp2; go_ret; exact ⟨by first | rfl | (simp; done) | (simp only [← hji25] <;> (first | rfl | simp)) | (simp [*]; done), by repeat (first | exact Drawn0.refl _ | apply Drawn0.step)⟩
           ·rw [if_neg c29] at H; have c29b0 : decide (192 ≤ (wrap64 ((wrap64 ((wrap64 ((wrap64 ((wrap64 ((bt a0 a1))) - 192)) * 64)) + (wrap64 (bt a0 (ji25))))) - 128))) = false := decide_eq_false c29; clear c29; by_cases c51 : (wrap64 ((wrap64 ((wrap64 ((wrap64 ((wrap64 ((bt a0 a1))) - 192)) * 64)) + (wrap64 (bt a0 (ji25))))) - 128)) ≥ 913
            ·rw [if_pos c51] at H; have c51b0 : decide (913 ≤ (wrap64 ((wrap64 ((wrap64 ((wrap64 ((wrap64 ((bt a0 a1))) - 192)) * 64)) + (wrap64 (bt a0 (ji25))))) - 128))) = true := decide_eq_true c51; clear c51; by_cases c52 : (wrap64 ((wrap64 ((wrap64 ((wrap64 ((wrap64 ((bt a0 a1))) - 192)) * 64)) + (wrap64 (bt a0 (ji25))))) - 128)) ≤ 969
             ·rw [if_pos c52] at H; have c52b0 : decide ((wrap64 ((wrap64 ((wrap64 ((wrap64 ((wrap64 ((bt a0 a1))) - 192)) * 64)) + (wrap64 (bt a0 (ji25))))) - 128)) ≤ 969) = true := decide_eq_true c52; clear c52; obtain rfl := Option.some.inj H; have p28 : 0 ≤ ((ji25) : Int) := of_decide_eq_true (by first | (with_reducible assumption) | assumption); have q28 : (ji25) < (a0.size : Int) := of_decide_eq_true (by first | (with_reducible assumption) | assumption); have hx28 := bt_at a0 (ji25); replace p28 := eq_true p28; replace q28 := eq_true q28; go_wp2; go_ret; exact ⟨by first | rfl | (simp; done) | (simp only [← hji25] <;> (first | rfl | simp)) | (simp [*]; done), by repeat (first | exact Drawn0.refl _ | apply Drawn0.step)⟩
             ·rw [if_neg c52] at H; have c52b0 : decide ((wrap64 ((wrap64 ((wrap64 ((wrap64 ((wrap64 ((bt a0 a1))) - 192)) * 64)) + (wrap64 (bt a0 (ji25))))) - 128)) ≤ 969) = false := decide_eq_false c52; clear c52; by_cases c53 : (wrap64 ((wrap64 ((wrap64 ((wrap64 ((wrap64 ((bt a0 a1))) - 192)) * 64)) + (wrap64 (bt a0 (ji25))))) - 128)) ≥ 1040
              ·rw [if_pos c53] at H; have c53b0 : decide (1040 ≤ (wrap64 ((wrap64 ((wrap64 ((wrap64 ((wrap64 ((bt a0 a1))) - 192)) * 64)) + (wrap64 (bt a0 (ji25))))) - 128))) = true := decide_eq_true c53; clear c53; by_cases c54 : (wrap64 ((wrap64 ((wrap64 ((wrap64 ((wrap64 ((bt a0 a1))) - 192)) * 64)) + (wrap64 (bt a0 (ji25))))) - 128)) ≤ 1103
               ·rw [if_pos c54] at H; have c54b0 : decide ((wrap64 ((wrap64 ((wrap64 ((wrap64 ((wrap64 ((bt a0 a1))) - 192)) * 64)) + (wrap64 (bt a0 (ji25))))) - 128)) ≤ 1103) = true := decide_eq_true c54; clear c54; obtain rfl := Option.some.inj H; have p28 : 0 ≤ ((ji25) : Int) := of_decide_eq_true (by first | (with_reducible assumption) | assumption); have q28 : (ji25) < (a0.size : Int) := of_decide_eq_true (by first | (with_reducible assumption) | assumption); have hx28 := bt_at a0 (ji25); replace p28 := eq_true p28; replace q28 := eq_true q28; go_wp2; go_ret; exact ⟨by first | rfl | (simp; done) | (simp only [← hji25] <;> (first | rfl | simp)) | (simp [*]; done), by repeat (first | exact Drawn0.refl _ | apply Drawn0.step)⟩
               ·rw [if_neg c54] at H; have c54b0 : decide ((wrap64 ((wrap64 ((wrap64 ((wrap64 ((wrap64 ((bt a0 a1))) - 192)) * 64)) + (wrap64 (bt a0 (ji25))))) - 128)) ≤ 1103) = false := decide_eq_false c54; clear c54; obtain rfl := Option.some.inj H; have p28 : 0 ≤ ((ji25) : Int) := of_decide_eq_true (by first | (with_reducible assumption) | assumption); have q28 : (ji25) < (a0.size : Int) := of_decide_eq_true (by first | (with_reducible assumption) | assumption); have hx28 := bt_at a0 (ji25); replace p28 := eq_true p28; replace q28 := eq_true q28; go_wp2; go_ret; exact ⟨by first | rfl | (simp; done) | (simp only [← hji25] <;> (first | rfl | simp)) | (simp [*]; done), by repeat (first | exact Drawn0.refl _ | apply Drawn0.step)⟩
              ·rw [if_neg c53] at H; have c53b0 : decide (1040 ≤ (wrap64 ((wrap64 ((wrap64 ((wrap64 ((wrap64 ((bt a0 a1))) - 192)) * 64)) + (wrap64 (bt a0 (ji25))))) - 128))) = false := decide_eq_false c53; clear c53; obtain rfl := Option.some.inj H; have p28 : 0 ≤ ((ji25) : Int) := of_decide_eq_true (by first | (with_reducible assumption) | assumption); have q28 : (ji25) < (a0.size : Int) := of_decide_eq_true (by first | (with_reducible assumption) | assumption); have hx28 := bt_at a0 (ji25); replace p28 := eq_true p28; replace q28 := eq_true q28; go_wp2; go_ret; exact ⟨by first | rfl | (simp; done) | (simp only [← hji25] <;> (first | rfl | simp)) | (simp [*]; done), by repeat (first | exact Drawn0.refl _ | apply Drawn0.step)⟩
            ·rw [if_neg c51] at H; have c51b0 : decide (913 ≤ (wrap64 ((wrap64 ((wrap64 ((wrap64 ((wrap64 ((bt a0 a1))) - 192)) * 64)) + (wrap64 (bt a0 (ji25))))) - 128))) = false := decide_eq_false c51; clear c51; by_cases c55 : (wrap64 ((wrap64 ((wrap64 ((wrap64 ((wrap64 ((bt a0 a1))) - 192)) * 64)) + (wrap64 (bt a0 (ji25))))) - 128)) ≥ 1040
             ·rw [if_pos c55] at H; have c55b0 : decide (1040 ≤ (wrap64 ((wrap64 ((wrap64 ((wrap64 ((wrap64 ((bt a0 a1))) - 192)) * 64)) + (wrap64 (bt a0 (ji25))))) - 128))) = true := decide_eq_true c55; clear c55; by_cases c56 : (wrap64 ((wrap64 ((wrap64 ((wrap64 ((wrap64 ((bt a0 a1))) - 192)) * 64)) + (wrap64 (bt a0 (ji25))))) - 128)) ≤ 1103
              ·rw [if_pos c56] at H; have c56b0 : decide ((wrap64 ((wrap64 ((wrap64 ((wrap64 ((wrap64 ((bt a0 a1))) - 192)) * 64)) + (wrap64 (bt a0 (ji25))))) - 128)) ≤ 1103) = true := decide_eq_true c56; clear c56; obtain rfl := Option.some.inj H; have p28 : 0 ≤ ((ji25) : Int) := of_decide_eq_true (by first | (with_reducible assumption) | assumption); have q28 : (ji25) < (a0.size : Int) := of_decide_eq_true (by first | (with_reducible assumption) | assumption); have hx28 := bt_at a0 (ji25); replace p28 := eq_true p28; replace q28 := eq_true q28; go_wp2; go_ret; exact ⟨by first | rfl | (simp; done) | (simp only [← hji25] <;> (first | rfl | simp)) | (simp [*]; done), by repeat (first | exact Drawn0.refl _ | apply Drawn0.step)⟩
              ·rw [if_neg c56] at H; have c56b0 : decide ((wrap64 ((wrap64 ((wrap64 ((wrap64 ((wrap64 ((bt a0 a1))) - 192)) * 64)) + (wrap64 (bt a0 (ji25))))) - 128)) ≤ 1103) = false := decide_eq_false c56; clear c56; obtain rfl := Option.some.inj H; have p28 : 0 ≤ ((ji25) : Int) := of_decide_eq_true (by first | (with_reducible assumption) | assumption); have q28 : (ji25) < (a0.size : Int) := of_decide_eq_true (by first | (with_reducible assumption) | assumption); have hx28 := bt_at a0 (ji25); replace p28 := eq_true p28; replace q28 := eq_true q28; go_wp2; go_ret; exact ⟨by first | rfl | (simp; done) | (simp only [← hji25] <;> (first | rfl | simp)) | (simp [*]; done), by repeat (first | exact Drawn0.refl _ | apply Drawn0.step)⟩
             ·rw [if_neg c55] at H; have c55b0 : decide (1040 ≤ (wrap64 ((wrap64 ((wrap64 ((wrap64 ((wrap64 ((bt a0 a1))) - 192)) * 64)) + (wrap64 (bt a0 (ji25))))) - 128))) = false := decide_eq_false c55; clear c55; obtain rfl := Option.some.inj H; have p28 : 0 ≤ ((ji25) : Int) := of_decide_eq_true (by first | (with_reducible assumption) | assumption); have q28 : (ji25) < (a0.size : Int) := of_decide_eq_true (by first | (with_reducible assumption) | assumption); have hx28 := bt_at a0 (ji25); replace p28 := eq_true p28; replace q28 := eq_true q28; go_wp2; go_ret; exact ⟨by first | rfl | (simp; done) | (simp only [← hji25] <;> (first | rfl | simp)) | (simp [*]; done), by repeat (first | exact Drawn0.refl _ | apply Drawn0.step)⟩
          ·rw [if_neg c27] at H; exact absurd H (by simp)
         ·rw [if_neg c26] at H; exact absurd H (by simp)
  ·rw [if_neg c4] at H; exact absurd H (by simp)
 ·rw [if_neg c3] at H; exact absurd H (by simp)

/-! ### spec_l00Word: function 86 -/
mutual
def spec_l00Word.l0 : Nat → ByteArray → Int → Int → Option (Int)
 | 0, _, _, _ => none
 | k + 1, x0, x1, x5 => if x5 < (x0.size : Int) then ((spec_l00Letter.f k x0 x5).bind fun t103 => (if t103 = 0 then (if x5 > x1 then (if 0 ≤ x5 then (if (bt x0 x5) ≥ 48 then (spec_l00Word.j1 k x0 x1 x5 t103 (decide ((bt x0 x5) ≤ 57))) else (spec_l00Word.j1 k x0 x1 x5 t103 false)) else (none)) else (spec_l00Word.j1 k x0 x1 x5 t103 false)) else (spec_l00Word.j1 k x0 x1 x5 t103 false))) else (some (wrap64 (x5 - x1)))
def spec_l00Word.j1 : Nat → ByteArray → Int → Int → Int → Bool → Option (Int)
 | 0, _, _, _, _, _ => none
 | k + 1, x0, x1, x5, x6, x33 => if x33 = true then (spec_l00Word.l0 k x0 x1 (wrap64 (x5 + 1))) else (if x6 = 0 then (some (wrap64 (x5 - x1))) else (spec_l00Word.l0 k x0 x1 (wrap64 (x5 + x6))))
end
def spec_l00Word.f (k : Nat) (a0 : ByteArray) (a1 : Int) : Option (Int) := spec_l00Word.l0 k a0 a1 a1
theorem spec_l00Word.mono_l : ∀ k, (∀ y0 y1 y2, LeO (spec_l00Word.l0 k y0 y1 y2) (spec_l00Word.l0 (k + 1) y0 y1 y2)) ∧ (∀ y0 y1 y2 y3 y4, LeO (spec_l00Word.j1 k y0 y1 y2 y3 y4) (spec_l00Word.j1 (k + 1) y0 y1 y2 y3 y4))
 | 0 => ⟨fun _ _ _ r h => by simp [spec_l00Word.l0] at h, fun _ _ _ _ _ r h => by simp [spec_l00Word.j1] at h⟩
 | k + 1 => by
  obtain ⟨ih0, ih1⟩ := spec_l00Word.mono_l k; refine ⟨?_, ?_⟩
  ·intro y0 y1 y2; unfold spec_l00Word.l0
   repeat' first
   | (with_reducible exact ih0 _ _ _)
   | (with_reducible exact ih1 _ _ _ _ _)
   | (with_reducible exact spec_l00Letter.mono _ _ _)
   | (with_reducible exact LeO.refl _)
   | (with_reducible exact LeO.none _)
   | (with_reducible refine LeO.ite ?_ ?_)
   | (with_reducible refine LeO.bind ?_ (fun _ => ?_))
   | exact ih0 _ _ _
   | exact ih1 _ _ _ _ _
   | exact spec_l00Letter.mono _ _ _
   | exact LeO.none _
   | refine LeO.ite ?_ ?_
   | refine LeO.bind ?_ (fun _ => ?_)
  ·intro y0 y1 y2 y3 y4; unfold spec_l00Word.j1
   repeat' first
   | (with_reducible exact ih0 _ _ _)
   | (with_reducible exact ih1 _ _ _ _ _)
   | (with_reducible exact spec_l00Letter.mono _ _ _)
   | (with_reducible exact LeO.refl _)
   | (with_reducible exact LeO.none _)
   | (with_reducible refine LeO.ite ?_ ?_)
   | (with_reducible refine LeO.bind ?_ (fun _ => ?_))
   | exact ih0 _ _ _
   | exact ih1 _ _ _ _ _
   | exact spec_l00Letter.mono _ _ _
   | exact LeO.none _
   | refine LeO.ite ?_ ?_
   | refine LeO.bind ?_ (fun _ => ?_)
theorem spec_l00Word.mono : ∀ a0 a1 k, LeO (spec_l00Word.f k a0 a1) (spec_l00Word.f (k + 1) a0 a1) := by
 intro a0 a1 k; obtain ⟨ih0, ih1⟩ := spec_l00Word.mono_l k; unfold spec_l00Word.f
 repeat' first
   | (with_reducible exact ih0 _ _ _)
   | (with_reducible exact ih1 _ _ _ _ _)
   | (with_reducible exact spec_l00Letter.mono _ _ _)
   | (with_reducible exact LeO.refl _)
   | (with_reducible exact LeO.none _)
   | (with_reducible refine LeO.ite ?_ ?_)
   | (with_reducible refine LeO.bind ?_ (fun _ => ?_))
   | exact ih0 _ _ _
   | exact ih1 _ _ _ _ _
   | exact spec_l00Letter.mono _ _ _
   | exact LeO.none _
   | refine LeO.ite ?_ ?_
   | refine LeO.bind ?_ (fun _ => ?_)
set_option maxHeartbeats 8000000 in
set_option maxRecDepth 100000 in
theorem spec_l00Word.calls (k : Nat) (a0 : ByteArray) (a1 : Int) (r : Int) (w : World) (h : spec_l00Word.f k a0 a1 = some r) :
  Calls Try.prog 86 #[.string a0, .int .i64 a1] w fun e w' => e = .returned (.int .i64 r) ∧ Drawn0 w w' := by
 have H : (spec_l00Word.l0 k a0 a1 a1) = some r := h; clear h; have H' := Aside0.mk H; clear H; go_enter Try.func86, Try.ntmps86; go_wp2
 go_loopg [5] k (fun kq v5 w' => ∃ (x5_1 : Int), v5 = .int .i64 x5_1 ∧ Aside0 (spec_l00Word.l0 kq a0 a1 x5_1 = some r) ∧ Aside0 (kq ≤ k) ∧ Drawn0 w w')
 case atStart => exact ⟨(a1), (by first | rfl | (simp; done) | (simp [*]; done)), H', ⟨Nat.le_refl _⟩, by repeat (first | exact Drawn0.refl _ | apply Drawn0.step)⟩
 case round =>
  clear H'; (try clear p2); obtain ⟨x5_1, rfl, HA, HK1, ⟨m1, rfl⟩⟩ := hrel
  cases gk with
  | zero => exact absurd HA.out (by simp [spec_l00Word.l0])
  | succ k1 =>
   have H := HA.out; clear HA; simp only [spec_l00Word.l0] at H; by_cases c3 : x5_1 < (a0.size : Int)
   ·rw [if_pos c3] at H; have c3b0 : decide (x5_1 < (a0.size : Int)) = true := decide_eq_true c3; clear c3; replace H := Option.bind_eq_some_iff.mp H; obtain ⟨t103, A40, H⟩ := H; replace H : (if t103 = 0 then (if x5_1 > a1 then (if 0 ≤ x5_1 then (if (bt a0 x5_1) ≥ 48 then (spec_l00Word.j1 k1 a0 a1 x5_1 t103 (decide ((bt a0 x5_1) ≤ 57))) else (spec_l00Word.j1 k1 a0 a1 x5_1 t103 false)) else (none)) else (spec_l00Word.j1 k1 a0 a1 x5_1 t103 false)) else (spec_l00Word.j1 k1 a0 a1 x5_1 t103 false)) = some r := H; have A4 := Aside0.mk A40; clear A40; have HC5 := Aside0.mk H; clear H
    go_upto_region 4 with (first | ((with_reducible refine gate_callee (f := 96) rfl ?_); refine goesL_ (some 14) rfl rfl Try.func96 (by kernel_rfl) rfl #[.string a0, .int .i64 x5_1] rfl mq ?_; (with_reducible refine (spec_l00Letter.calls k1 a0 x5_1 t103 _ A4.out).mono ?_); rintro e w' ⟨rfl, ⟨nd, rfl⟩⟩; refine ⟨_, rfl, ?_⟩))
    (try simp only [Act.put, sA, s0, sS])
    go_cut [33] (fun v33 wc => ∃ (kq : Nat) (x33_4 : Bool), v33 = .bool x33_4 ∧ Aside0 (spec_l00Word.j1 kq a0 a1 x5_1 t103 x33_4 = some r) ∧ Aside0 (kq ≤ k1) ∧ Drawn0 w wc)
    case first =>
     have H := HC5.out; clear HC5; by_cases c6 : t103 = 0
     ·rw [if_pos c6] at H; have c6b0 : (t103 == 0) = true := beq_iff_eq.mpr c6; have c6b1 : (t103 != 0) = false := bne_eq_false_iff_eq.mpr c6; clear c6
      (first | rw [c6b0] | (simp only [i64_w, i32_w]; rw [c6b0]) | skip)
      by_cases c7 : x5_1 > a1
      ·rw [if_pos c7] at H; have c7b0 : decide (a1 < x5_1) = true := decide_eq_true c7; clear c7; by_cases c8 : 0 ≤ x5_1
       ·rw [if_pos c8] at H; have c8b0 : decide (0 ≤ x5_1) = true := decide_eq_true c8; clear c8; by_cases c10 : (bt a0 x5_1) ≥ 48
        ·rw [if_pos c10] at H; have c10b0 : decide (48 ≤ (bt a0 x5_1)) = true := decide_eq_true c10; clear c10; have H' := Aside0.mk H; clear H; have p9 : 0 ≤ (x5_1 : Int) := of_decide_eq_true (by first | (with_reducible assumption) | assumption); have q9 : x5_1 < (a0.size : Int) := of_decide_eq_true (by first | (with_reducible assumption) | assumption); have hx9 := bt_at a0 x5_1; replace p9 := eq_true p9; replace q9 := eq_true q9; have p11 : 0 ≤ (x5_1 : Int) := of_decide_eq_true (by first | (with_reducible assumption) | assumption); have q11 : x5_1 < (a0.size : Int) := of_decide_eq_true (by first | (with_reducible assumption) | assumption); have hx11 := bt_at a0 x5_1; replace p11 := eq_true p11; replace q11 := eq_true q11; go_wp2
         go_meet
         case rel => exact ⟨_, (decide ((bt a0 x5_1) ≤ 57)), (by first | rfl | (simp; done) | (simp [*]; done)), H', ⟨by have := HK1.out; first | omega | exact Nat.le_refl _⟩, by repeat (first | exact Drawn0.refl _ | apply Drawn0.step)⟩
        ·rw [if_neg c10] at H; have c10b0 : decide (48 ≤ (bt a0 x5_1)) = false := decide_eq_false c10; clear c10; have H' := Aside0.mk H; clear H; have p9 : 0 ≤ (x5_1 : Int) := of_decide_eq_true (by first | (with_reducible assumption) | assumption); have q9 : x5_1 < (a0.size : Int) := of_decide_eq_true (by first | (with_reducible assumption) | assumption); have hx9 := bt_at a0 x5_1; replace p9 := eq_true p9; replace q9 := eq_true q9; go_wp2
         go_meet
         case rel => exact ⟨_, (false), (by first | rfl | (simp; done) | (simp [*]; done)), H', ⟨by have := HK1.out; first | omega | exact Nat.le_refl _⟩, by repeat (first | exact Drawn0.refl _ | apply Drawn0.step)⟩
       ·rw [if_neg c8] at H; exact absurd H (by simp)
      ·rw [if_neg c7] at H; have c7b0 : decide (a1 < x5_1) = false := decide_eq_false c7; clear c7; have H' := Aside0.mk H; clear H; go_wp2
       go_meet
       case rel => exact ⟨_, (false), (by first | rfl | (simp; done) | (simp [*]; done)), H', ⟨by have := HK1.out; first | omega | exact Nat.le_refl _⟩, by repeat (first | exact Drawn0.refl _ | apply Drawn0.step)⟩
     ·rw [if_neg c6] at H; have c6b0 : (t103 == 0) = false := beq_eq_false_iff_ne.mpr c6; have c6b1 : (t103 != 0) = true := bne_iff_ne.mpr c6
      (first | rw [c6b0] | (simp only [i64_w, i32_w]; rw [c6b0]) | skip)
      have H' := Aside0.mk H; clear H; go_wp2
      go_meet
      case rel => exact ⟨_, (false), (by first | rfl | (simp; done) | (simp [*]; done)), H', ⟨by have := HK1.out; first | omega | exact Nat.le_refl _⟩, by repeat (first | exact Drawn0.refl _ | apply Drawn0.step)⟩
    case rest =>
     clear HC5; (try clear c1); (try clear p1); (try clear q1); (try clear hx1); (try clear p2); (try clear c3); (try clear c3b0); (try clear c6); (try clear c6b0); (try clear c6b1); (try clear c7); (try clear c7b0); (try clear c8); (try clear c8b0); (try clear c9); (try clear p9); (try clear q9); (try clear hx9); (try clear c10); (try clear c10b0); (try clear p11); (try clear q11); (try clear hx11); (try clear p11); (try clear p2); (try clear p9); (try clear q11); (try clear q9); obtain ⟨kq, x33_4, rfl, HA, HJ4, ⟨mc4, rfl⟩⟩ := hcut
     cases kq with
     | zero => exact absurd HA.out (by simp [spec_l00Word.j1])
     | succ kj4 =>
      have H := HA.out; clear HA; simp only [spec_l00Word.j1] at H; by_cases c12 : x33_4 = true
      ·subst c12
       have H1 : (spec_l00Word.l0 kj4 a0 a1 (wrap64 (x5_1 + 1))) = some r := by rw [if_pos rfl] at H; exact H
       clear H; have H := H1; clear H1; have H' := Aside0.mk H; clear H; go_wp2
       go_roundg kj4
       case measure => have := HK1.out; have := HJ4.out; omega
       case rel => exact ⟨(wrap64 (x5_1 + 1)), (by first | rfl | (simp; done) | (simp [*]; done)), H', ⟨by have := HK1.out; have := HJ4.out; omega⟩, by repeat (first | exact Drawn0.refl _ | apply Drawn0.step)⟩
      ·replace c12 := Bool.eq_false_iff.mpr c12; subst c12
       have H1 : (if t103 = 0 then (some (wrap64 (x5_1 - a1))) else (spec_l00Word.l0 kj4 a0 a1 (wrap64 (x5_1 + t103)))) = some r := by rw [if_neg (show ¬ (false = true) by decide)] at H; exact H
       clear H; have H := H1; clear H1; by_cases c13 : t103 = 0
       ·rw [if_pos c13] at H; have c13b0 : (t103 == 0) = true := beq_iff_eq.mpr c13; have c13b1 : (t103 != 0) = false := bne_eq_false_iff_eq.mpr c13; clear c13; obtain rfl := Option.some.inj H; go_wp2; go_ret; exact ⟨by first | rfl | (simp; done) | (simp [*]; done), by repeat (first | exact Drawn0.refl _ | apply Drawn0.step)⟩
       ·rw [if_neg c13] at H; have c13b0 : (t103 == 0) = false := beq_eq_false_iff_ne.mpr c13; have c13b1 : (t103 != 0) = true := bne_iff_ne.mpr c13; have H' := Aside0.mk H; clear H; go_wp2
        go_roundg kj4
        case measure => have := HK1.out; have := HJ4.out; omega
        case rel => exact ⟨(wrap64 (x5_1 + t103)), (by first | rfl | (simp; done) | (simp [*]; done)), H', ⟨by have := HK1.out; have := HJ4.out; omega⟩, by repeat (first | exact Drawn0.refl _ | apply Drawn0.step)⟩
   ·rw [if_neg c3] at H; have c3b0 : decide (x5_1 < (a0.size : Int)) = false := decide_eq_false c3; clear c3; obtain rfl := Option.some.inj H; go_wp2; go_ret; exact ⟨by first | rfl | (simp; done) | (simp [*]; done), by repeat (first | exact Drawn0.refl _ | apply Drawn0.step)⟩

/-! ### spec_NameOK: function 60 -/
def spec_NameOK.f (k : Nat) (a0 : ByteArray) : Option (Bool) := if (a0.size : Int) > 0 then (if (a0.size : Int) ≤ 40 then ((spec_l00Word.f k a0 0).bind fun t104 => (some (t104 == (a0.size : Int)))) else (some false)) else (some false)
theorem spec_NameOK.mono : ∀ a0 k, LeO (spec_NameOK.f k a0) (spec_NameOK.f (k + 1) a0) := by
 intro a0 k; unfold spec_NameOK.f
 repeat' first
   | (with_reducible exact spec_l00Word.mono _ _ _)
   | (with_reducible exact LeO.refl _)
   | (with_reducible exact LeO.none _)
   | (with_reducible refine LeO.ite ?_ ?_)
   | (with_reducible refine LeO.bind ?_ (fun _ => ?_))
   | exact spec_l00Word.mono _ _ _
   | exact LeO.none _
   | refine LeO.ite ?_ ?_
   | refine LeO.bind ?_ (fun _ => ?_)
set_option maxHeartbeats 8000000 in
set_option maxRecDepth 100000 in
theorem spec_NameOK.calls (k : Nat) (a0 : ByteArray) (r : Bool) (w : World) (h : spec_NameOK.f k a0 = some r) :
  Calls Try.prog 60 #[.string a0] w fun e w' => e = .returned (.bool r) ∧ Drawn0 w w' := by
 have H : (if (a0.size : Int) > 0 then (if (a0.size : Int) ≤ 40 then ((spec_l00Word.f k a0 0).bind fun t104 => (some (t104 == (a0.size : Int)))) else (some false)) else (some false)) = some r := h; clear h; by_cases c2 : (a0.size : Int) > 0
 ·rw [if_pos c2] at H; have c2b0 : decide (0 < (a0.size : Int)) = true := decide_eq_true c2; have c2b1 : decide (0 < a0.size) = true := decide_eq_true (by omega); clear c2; by_cases c3 : (a0.size : Int) ≤ 40
  ·rw [if_pos c3] at H; have c3b0 : decide ((a0.size : Int) ≤ 40) = true := decide_eq_true c3; have c3b1 : decide (a0.size ≤ 40) = true := decide_eq_true (by omega); clear c3; replace H := Option.bind_eq_some_iff.mp H; obtain ⟨t104, A40, H⟩ := H; replace H : (some (t104 == (a0.size : Int))) = some r := H; have A4 := Aside0.mk A40; clear A40; obtain rfl := Option.some.inj H; go_enter Try.func60, Try.ntmps60
   go_wp2_with (first | (go_at_call 86; (with_reducible refine (spec_l00Word.calls k a0 0 t104 _ A4.out).mono ?_); rintro e w' ⟨rfl, ⟨nd, rfl⟩⟩))
   go_ret; exact ⟨by first | rfl | (simp; done) | (simp [*]; done), by repeat (first | exact Drawn0.refl _ | apply Drawn0.step)⟩
  ·rw [if_neg c3] at H; have c3b0 : decide ((a0.size : Int) ≤ 40) = false := decide_eq_false c3; have c3b1 : decide (a0.size ≤ 40) = false := decide_eq_false (by omega); clear c3; obtain rfl := Option.some.inj H; go_enter Try.func60, Try.ntmps60; go_wp2; go_ret; exact ⟨by first | rfl | (simp; done) | (simp [*]; done), by repeat (first | exact Drawn0.refl _ | apply Drawn0.step)⟩
 ·rw [if_neg c2] at H; have c2b0 : decide (0 < (a0.size : Int)) = false := decide_eq_false c2; have c2b1 : decide (0 < a0.size) = false := decide_eq_false (by omega); clear c2; obtain rfl := Option.some.inj H; go_enter Try.func60, Try.ntmps60; go_wp2; go_ret; exact ⟨by first | rfl | (simp; done) | (simp [*]; done), by repeat (first | exact Drawn0.refl _ | apply Drawn0.step)⟩

/-! ### spec_l01In: function 61 -/
def spec_l01In.f (a0 : Int) (a1 : Int) (a2 : Int) : Option (Bool) := if a0 ≥ a1 then (some (decide (a0 ≤ a2))) else (some false)
set_option maxHeartbeats 8000000 in
set_option maxRecDepth 100000 in
theorem spec_l01In.calls (a0 : Int) (a1 : Int) (a2 : Int) (r : Bool) (w : World) (h : spec_l01In.f a0 a1 a2 = some r) :
  Calls Try.prog 61 #[.int .i64 a0, .int .i64 a1, .int .i64 a2] w fun e w' => e = .returned (.bool r) ∧ Drawn0 w w' := by
 have H : (if a0 ≥ a1 then (some (decide (a0 ≤ a2))) else (some false)) = some r := h; clear h; by_cases c4 : a0 ≥ a1
 ·rw [if_pos c4] at H; have c4b0 : decide (a1 ≤ a0) = true := decide_eq_true c4; clear c4; obtain rfl := Option.some.inj H; go_enter Try.func61, Try.ntmps61; go_wp2; go_ret; exact ⟨by first | rfl | (simp; done) | (simp [*]; done), by repeat (first | exact Drawn0.refl _ | apply Drawn0.step)⟩
 ·rw [if_neg c4] at H; have c4b0 : decide (a1 ≤ a0) = false := decide_eq_false c4; clear c4; obtain rfl := Option.some.inj H; go_enter Try.func61, Try.ntmps61; go_wp2; go_ret; exact ⟨by first | rfl | (simp; done) | (simp [*]; done), by repeat (first | exact Drawn0.refl _ | apply Drawn0.step)⟩

/-! ### spec_l06Act: function 64 -/
def spec_l06Act.f (a0 : Int) (a1 : Int) : Option (Bool) := if a0 = 1 then ((spec_l01In.f a1 0 100).bind fun t113 => (some t113)) else (if a0 = 2 then ((spec_l01In.f a1 0 1000000000).bind fun t114 => (some t114)) else (if a0 = 3 then (some (a1 == 0)) else (some false)))
set_option maxHeartbeats 8000000 in
set_option maxRecDepth 100000 in
theorem spec_l06Act.calls (a0 : Int) (a1 : Int) (r : Bool) (w : World) (h : spec_l06Act.f a0 a1 = some r) :
  Calls Try.prog 64 #[.int .i64 a0, .int .i64 a1] w fun e w' => e = .returned (.bool r) ∧ Drawn0 w w' := by
 have H : (if a0 = 1 then ((spec_l01In.f a1 0 100).bind fun t113 => (some t113)) else (if a0 = 2 then ((spec_l01In.f a1 0 1000000000).bind fun t114 => (some t114)) else (if a0 = 3 then (some (a1 == 0)) else (some false)))) = some r := h; clear h; by_cases c3 : a0 = 1
 ·rw [if_pos c3] at H; have c3b0 : (a0 == 1) = true := beq_iff_eq.mpr c3; have c3b1 : (a0 != 1) = false := bne_eq_false_iff_eq.mpr c3; clear c3; replace H := Option.bind_eq_some_iff.mp H; obtain ⟨t113, A40, H⟩ := H; replace H : (some t113) = some r := H; have A4 := Aside0.mk A40; clear A40; obtain rfl := Option.some.inj H; go_enter Try.func64, Try.ntmps64
  go_wp2_with (first | ((with_reducible refine gate_callee (f := 61) rfl ?_); refine goesL_ (some 9) rfl rfl Try.func61 (by kernel_rfl) rfl #[.int .i64 a1, .int .i64 0, .int .i64 100] rfl mq ?_; (with_reducible refine (spec_l01In.calls a1 0 100 t113 _ A4.out).mono ?_); rintro e w' ⟨rfl, ⟨nd, rfl⟩⟩; refine ⟨_, rfl, ?_⟩))
  go_ret; exact ⟨by first | rfl | (simp; done) | (simp [*]; done), by repeat (first | exact Drawn0.refl _ | apply Drawn0.step)⟩
 ·rw [if_neg c3] at H; have c3b0 : (a0 == 1) = false := beq_eq_false_iff_ne.mpr c3; have c3b1 : (a0 != 1) = true := bne_iff_ne.mpr c3; by_cases c5 : a0 = 2
  ·rw [if_pos c5] at H; have c5b0 : (a0 == 2) = true := beq_iff_eq.mpr c5; have c5b1 : (a0 != 2) = false := bne_eq_false_iff_eq.mpr c5; clear c5; replace H := Option.bind_eq_some_iff.mp H; obtain ⟨t114, A60, H⟩ := H; replace H : (some t114) = some r := H; have A6 := Aside0.mk A60; clear A60; obtain rfl := Option.some.inj H; go_enter Try.func64, Try.ntmps64
   go_wp2_with (first | ((with_reducible refine gate_callee (f := 61) rfl ?_); refine goesL_ (some 13) rfl rfl Try.func61 (by kernel_rfl) rfl #[.int .i64 a1, .int .i64 0, .int .i64 1000000000] rfl mq ?_; (with_reducible refine (spec_l01In.calls a1 0 1000000000 t114 _ A6.out).mono ?_); rintro e w' ⟨rfl, ⟨nd, rfl⟩⟩; refine ⟨_, rfl, ?_⟩))
   go_ret; exact ⟨by first | rfl | (simp; done) | (simp [*]; done), by repeat (first | exact Drawn0.refl _ | apply Drawn0.step)⟩
  ·rw [if_neg c5] at H; have c5b0 : (a0 == 2) = false := beq_eq_false_iff_ne.mpr c5; have c5b1 : (a0 != 2) = true := bne_iff_ne.mpr c5; by_cases c7 : a0 = 3
   ·rw [if_pos c7] at H; have c7b0 : (a0 == 3) = true := beq_iff_eq.mpr c7; have c7b1 : (a0 != 3) = false := bne_eq_false_iff_eq.mpr c7; clear c7; obtain rfl := Option.some.inj H; go_enter Try.func64, Try.ntmps64; go_wp2; go_ret; exact ⟨by first | rfl | (simp; done) | (simp [*]; done), by repeat (first | exact Drawn0.refl _ | apply Drawn0.step)⟩
   ·rw [if_neg c7] at H; have c7b0 : (a0 == 3) = false := beq_eq_false_iff_ne.mpr c7; have c7b1 : (a0 != 3) = true := bne_iff_ne.mpr c7; obtain rfl := Option.some.inj H; go_enter Try.func64, Try.ntmps64; go_wp2; go_ret; exact ⟨by first | rfl | (simp; done) | (simp [*]; done), by repeat (first | exact Drawn0.refl _ | apply Drawn0.step)⟩

/-! ### spec_l06Clause: function 33 -/
mutual
def spec_l06Clause.j0 : Nat → Bool → ByteArray → List (S59) → Int → Int → Option (Bool)
 | 0, _, _, _, _, _ => none
 | k + 1, x14, x116000, x116001, x116002, x116003 => if x14 = true then (some false) else (spec_l06Clause.l0 k 0 x116000 x116001 x116002 x116003)
def spec_l06Clause.l0 : Nat → Int → ByteArray → List (S59) → Int → Int → Option (Bool)
 | 0, _, _, _, _, _ => none
 | k + 1, x3, x116000, x116001, x116002, x116003 => if x3 < (x116001.length : Int) then (if 0 ≤ x3 then ((spec_l01In.f ((rd_T59 x116001 x3).f0) 1 5).bind fun t120 => (if t120 = true then ((spec_l01In.f ((rd_T59 x116001 x3).f1) 1 3).bind fun t121 => (if t121 = true then ((spec_l06Low.f ((rd_T59 x116001 x3).f0)).bind fun t122 => ((spec_l06High.f ((rd_T59 x116001 x3).f0)).bind fun t123 => ((spec_l01In.f ((rd_T59 x116001 x3).f2) t122 t123).bind fun t124 => (spec_l06Clause.j2 k x3 (!t124) x116000 x116001 x116002 x116003)))) else (spec_l06Clause.j2 k x3 true x116000 x116001 x116002 x116003))) else (spec_l06Clause.j2 k x3 true x116000 x116001 x116002 x116003))) else (none)) else ((spec_l06Act.f x116002 x116003).bind fun t117 => (some t117))
def spec_l06Clause.j2 : Nat → Int → Bool → ByteArray → List (S59) → Int → Int → Option (Bool)
 | 0, _, _, _, _, _, _ => none
 | k + 1, x3, x48, x116000, x116001, x116002, x116003 => if x48 = true then (some false) else (spec_l06Clause.l0 k (wrap64 (x3 + 1)) x116000 x116001 x116002 x116003)
end
def spec_l06Clause.f (k : Nat) (a0_0 : ByteArray) (l0_1 : List (S59)) (a0_2 : Int) (a0_3 : Int) : Option (Bool) := (spec_NameOK.f k a0_0).bind fun t116 => (if t116 = true then (spec_l06Clause.j0 k (decide ((l0_1.length : Int) > 8)) a0_0 l0_1 a0_2 a0_3) else (spec_l06Clause.j0 k true a0_0 l0_1 a0_2 a0_3))
theorem spec_l06Clause.mono_l : ∀ k, (∀ y0 y1 y2 y3 y4, LeO (spec_l06Clause.j0 k y0 y1 y2 y3 y4) (spec_l06Clause.j0 (k + 1) y0 y1 y2 y3 y4)) ∧ (∀ y0 y1 y2 y3 y4, LeO (spec_l06Clause.l0 k y0 y1 y2 y3 y4) (spec_l06Clause.l0 (k + 1) y0 y1 y2 y3 y4)) ∧ (∀ y0 y1 y2 y3 y4 y5, LeO (spec_l06Clause.j2 k y0 y1 y2 y3 y4 y5) (spec_l06Clause.j2 (k + 1) y0 y1 y2 y3 y4 y5))
 | 0 => ⟨fun _ _ _ _ _ r h => by simp [spec_l06Clause.j0] at h, fun _ _ _ _ _ r h => by simp [spec_l06Clause.l0] at h, fun _ _ _ _ _ _ r h => by simp [spec_l06Clause.j2] at h⟩
 | k + 1 => by
  obtain ⟨ih0, ih1, ih2⟩ := spec_l06Clause.mono_l k; refine ⟨?_, ?_, ?_⟩
  ·intro y0 y1 y2 y3 y4; unfold spec_l06Clause.j0
   repeat' first
   | (with_reducible exact ih0 _ _ _ _ _)
   | (with_reducible exact ih1 _ _ _ _ _)
   | (with_reducible exact ih2 _ _ _ _ _ _)
   | (with_reducible exact spec_NameOK.mono _ _)
   | (with_reducible exact LeO.refl _)
   | (with_reducible exact LeO.none _)
   | (with_reducible refine LeO.ite ?_ ?_)
   | (with_reducible refine LeO.bind ?_ (fun _ => ?_))
   | exact ih0 _ _ _ _ _
   | exact ih1 _ _ _ _ _
   | exact ih2 _ _ _ _ _ _
   | exact spec_NameOK.mono _ _
   | exact LeO.none _
   | refine LeO.ite ?_ ?_
   | refine LeO.bind ?_ (fun _ => ?_)
  ·intro y0 y1 y2 y3 y4; unfold spec_l06Clause.l0
   repeat' first
   | (with_reducible exact ih0 _ _ _ _ _)
   | (with_reducible exact ih1 _ _ _ _ _)
   | (with_reducible exact ih2 _ _ _ _ _ _)
   | (with_reducible exact spec_NameOK.mono _ _)
   | (with_reducible exact LeO.refl _)
   | (with_reducible exact LeO.none _)
   | (with_reducible refine LeO.ite ?_ ?_)
   | (with_reducible refine LeO.bind ?_ (fun _ => ?_))
   | exact ih0 _ _ _ _ _
   | exact ih1 _ _ _ _ _
   | exact ih2 _ _ _ _ _ _
   | exact spec_NameOK.mono _ _
   | exact LeO.none _
   | refine LeO.ite ?_ ?_
   | refine LeO.bind ?_ (fun _ => ?_)
  ·intro y0 y1 y2 y3 y4 y5; unfold spec_l06Clause.j2
   repeat' first
   | (with_reducible exact ih0 _ _ _ _ _)
   | (with_reducible exact ih1 _ _ _ _ _)
   | (with_reducible exact ih2 _ _ _ _ _ _)
   | (with_reducible exact spec_NameOK.mono _ _)
   | (with_reducible exact LeO.refl _)
   | (with_reducible exact LeO.none _)
   | (with_reducible refine LeO.ite ?_ ?_)
   | (with_reducible refine LeO.bind ?_ (fun _ => ?_))
   | exact ih0 _ _ _ _ _
   | exact ih1 _ _ _ _ _
   | exact ih2 _ _ _ _ _ _
   | exact spec_NameOK.mono _ _
   | exact LeO.none _
   | refine LeO.ite ?_ ?_
   | refine LeO.bind ?_ (fun _ => ?_)
theorem spec_l06Clause.mono : ∀ a0 a1 a2 a3 k, LeO (spec_l06Clause.f k a0 a1 a2 a3) (spec_l06Clause.f (k + 1) a0 a1 a2 a3) := by
 intro a0 a1 a2 a3 k; obtain ⟨ih0, ih1, ih2⟩ := spec_l06Clause.mono_l k; unfold spec_l06Clause.f
 repeat' first
   | (with_reducible exact ih0 _ _ _ _ _)
   | (with_reducible exact ih1 _ _ _ _ _)
   | (with_reducible exact ih2 _ _ _ _ _ _)
   | (with_reducible exact spec_NameOK.mono _ _)
   | (with_reducible exact LeO.refl _)
   | (with_reducible exact LeO.none _)
   | (with_reducible refine LeO.ite ?_ ?_)
   | (with_reducible refine LeO.bind ?_ (fun _ => ?_))
   | exact ih0 _ _ _ _ _
   | exact ih1 _ _ _ _ _
   | exact ih2 _ _ _ _ _ _
   | exact spec_NameOK.mono _ _
   | exact LeO.none _
   | refine LeO.ite ?_ ?_
   | refine LeO.bind ?_ (fun _ => ?_)
def spec_l06Clause.T7 : Bool × List (List Nat × List Nat) := (true, [([], []), ([0], [0]), ([1], [1]), ([2], [2]), ([3, 2], [3]), ([4], [4]), ([5, 4], [4, 5]), ([6, 4, 4], [4, 6]), ([7, 4], [4, 7]), ([4, 8], [4, 8]), ([9, 7], [9]), ([10], [10]), ([11, 10], [10, 11]), ([10], [10]), ([13, 10], [10, 13]), ([14, 10, 10], [10, 14]), ([10], [10]), ([16, 10], [10, 16]), ([17, 15, 10], [10, 17]), ([12, 15, 18, 18, 10], [10, 12, 15, 18]), ([19, 10], [10, 19]), ([10, 20], [10, 20])])
def spec_l06Clause.B7 : List Nat := [0, 1, 3, 7, 15, 31, 63, 127, 255, 511, 1023, 2047, 4095, 2047, 10239, 26623, 2047, 67583, 255999, 524287, 1048575, 2097151]
theorem spec_l06Clause.tab7 : rtab .any (opsOf Try.f33 7) = spec_l06Clause.T7 := by kernel_rfl
theorem spec_l06Clause.bits7 : waitsOk spec_l06Clause.T7.2 spec_l06Clause.B7 = true := by kernel_rfl
set_option maxHeartbeats 8000000 in
set_option maxRecDepth 100000 in
theorem spec_l06Clause.calls (k : Nat) (a0_0 : ByteArray) (A0_1 : Option Addr) (c0_1 : Nat) (l0_1 : List (S59)) (a0_2 : Int) (a0_3 : Int) (r : Bool) (w : World) (hr0_1 : Kd.C k59 w A0_1 l0_1.length l0_1) (hc0_1 : l0_1.length ≤ c0_1) (h : spec_l06Clause.f k a0_0 l0_1 a0_2 a0_3 = some r) :
  Calls Try.prog 33 #[.agg #[.string a0_0, .slice A0_1 l0_1.length c0_1, .int .i64 a0_2, .int .i64 a0_3]] w fun e w' => e = .returned (.bool r) ∧ Below w.heap.size w w' := by
 have hu32 := Try.underlying32; have hu59 := Try.underlying59; have HR0_1 := Aside0.mk hr0_1; have HC0_1 := Aside0.mk hc0_1; clear hr0_1 hc0_1; have HB := Aside0.mk (Below.refl w.heap.size w); have H : ((spec_NameOK.f k a0_0).bind fun t116 => (if t116 = true then (spec_l06Clause.j0 k (decide ((l0_1.length : Int) > 8)) a0_0 l0_1 a0_2 a0_3) else (spec_l06Clause.j0 k true a0_0 l0_1 a0_2 a0_3))) = some r := h; clear h; have HC2 := Aside0.mk H; clear H; go_enter Try.func33, Try.ntmps33
 go_upto_region 1 with (first | ((with_reducible refine gate_dst (N := 1) rfl ?_); (try (refine gate_guard (by rfl) ?_; dsimp only)); refine box_event ?hg (N := 1) ?hd (cs := #[.string a0_0, .slice A0_1 l0_1.length c0_1, .int .i64 a0_2, .int .i64 a0_3]) (t := 32) ?hr ?_; (case hd => rfl); (case hg => rfl); (case hr => first | (go_simp; done) | (go_simp; rfl)); intro gb115 hg w3 hbox hb; have n0_ := Aside0.mk (below_step (qb HB) hb); have n1_ := Aside0.mk (hbox); have n2_ := Aside0.mk ((by rw [hg]; exact (below_size (qb HB)) : w.heap.size ≤ gb115)); have n3_ := Aside0.mk ((by rw [hg]; exact (below_size (qb HB)) : w.heap.size ≤ gb115)); clear HB; have HB := n0_; have BK115 := n1_; have GW115 := n2_; have GE115 := n3_; clear n0_ n1_ n2_ n3_; clear hb hbox hg))
 (try simp only [Act.put, sA, s0, sS])
 go_cut [14] (fun v14 wc => ∃ (kq : Nat) (x14_1 : Bool), v14 = .bool x14_1 ∧ Aside0 (spec_l06Clause.j0 kq x14_1 a0_0 l0_1 a0_2 a0_3 = some r) ∧ Aside0 (kq ≤ k) ∧ Aside0 (wc.heap[gb115]? = some (.cells #[.string a0_0, (.slice A0_1 l0_1.length c0_1), .int .i64 a0_2, .int .i64 a0_3] 32 (0, 0))) ∧ Aside0 (Below w.heap.size w wc))
 case first =>
  have H := HC2.out; clear HC2; replace H := Option.bind_eq_some_iff.mp H; obtain ⟨t116, A40, H⟩ := H; replace H : (if t116 = true then (spec_l06Clause.j0 k (decide ((l0_1.length : Int) > 8)) a0_0 l0_1 a0_2 a0_3) else (spec_l06Clause.j0 k true a0_0 l0_1 a0_2 a0_3)) = some r := H; have A4 := Aside0.mk A40; clear A40; by_cases c5 : t116 = true
  ·subst c5
   have H1 : (spec_l06Clause.j0 k (decide ((l0_1.length : Int) > 8)) a0_0 l0_1 a0_2 a0_3) = some r := by rw [if_pos rfl] at H; exact H
   clear H; have H := H1; clear H1; have H' := Aside0.mk H; clear H; obtain ⟨hcz6_0, hcz6_1, hcz6_2, hcz6_3, hfz6_0, hfz6_1, hfz6_2, hfz6_3⟩ := bz4 BK115
   go_wp2_with (first | ((with_reducible refine gate_callee (f := 60) rfl ?_); refine goesL_ (some 7) rfl rfl Try.func60 (by kernel_rfl) rfl #[.string a0_0] rfl mq ?_; (with_reducible refine (spec_NameOK.calls k a0_0 true _ A4.out).mono ?_); rintro e w' ⟨rfl, ⟨nd, rfl⟩⟩; refine ⟨_, rfl, ?_⟩))
   go_meet
   case rel => exact ⟨_, (decide ((l0_1.length : Int) > 8)), (by first | rfl | (simp; done) | (simp [*]; done)), H', ⟨by first | omega | exact Nat.le_refl _⟩, ⟨bq BK115⟩, ⟨qb HB⟩⟩
  ·replace c5 := Bool.eq_false_iff.mpr c5; subst c5
   have H1 : (spec_l06Clause.j0 k true a0_0 l0_1 a0_2 a0_3) = some r := by rw [if_neg (show ¬ (false = true) by decide)] at H; exact H
   clear H; have H := H1; clear H1; have H' := Aside0.mk H; clear H; obtain ⟨hcz7_0, hcz7_1, hcz7_2, hcz7_3, hfz7_0, hfz7_1, hfz7_2, hfz7_3⟩ := bz4 BK115
   go_wp2_with (first | ((with_reducible refine gate_callee (f := 60) rfl ?_); refine goesL_ (some 7) rfl rfl Try.func60 (by kernel_rfl) rfl #[.string a0_0] rfl mq ?_; (with_reducible refine (spec_NameOK.calls k a0_0 false _ A4.out).mono ?_); rintro e w' ⟨rfl, ⟨nd, rfl⟩⟩; refine ⟨_, rfl, ?_⟩))
   go_meet
   case rel => exact ⟨_, (true), (by first | rfl | (simp; done) | (simp [*]; done)), H', ⟨by first | omega | exact Nat.le_refl _⟩, ⟨bq BK115⟩, ⟨qb HB⟩⟩
 case rest =>
  clear HC2; (try clear p2); (try clear c3); (try clear c5); (try clear c6); (try clear hcz6_0); (try clear hcz6_1); (try clear hcz6_2); (try clear hcz6_3); (try clear hcz7_0); (try clear hcz7_1); (try clear hcz7_2); (try clear hcz7_3); (try clear hfz6_0); (try clear hfz6_1); (try clear hfz6_2); (try clear hfz6_3); (try clear hfz7_0); (try clear hfz7_1); (try clear hfz7_2); (try clear hfz7_3); obtain ⟨kq, x14_1, rfl, HA, HJ1, BK115, HB⟩ := hcut
  cases kq with
  | zero => exact absurd HA.out (by simp [spec_l06Clause.j0])
  | succ kj1 =>
   have H := HA.out; clear HA; simp only [spec_l06Clause.j0] at H; by_cases c8 : x14_1 = true
   ·subst c8
    have H1 : (some false) = some r := by rw [if_pos rfl] at H; exact H
    clear H; have H := H1; clear H1; obtain rfl := Option.some.inj H; go_wp2; go_ret; exact ⟨eqq, qb HB⟩
   ·replace c8 := Bool.eq_false_iff.mpr c8; subst c8
    have H1 : (spec_l06Clause.l0 kj1 0 a0_0 l0_1 a0_2 a0_3) = some r := by rw [if_neg (show ¬ (false = true) by decide)] at H; exact H
    clear H; have H := H1; clear H1; have H' := Aside0.mk H; clear H; go_wp2
    go_loopg [3] kj1 (fun kq v3 w' => ∃ (x3_2 : Int), v3 = .int .i64 x3_2 ∧ Aside0 (spec_l06Clause.l0 kq x3_2 a0_0 l0_1 a0_2 a0_3 = some r) ∧ Aside0 (kq ≤ kj1) ∧ Aside0 (w'.heap[gb115]? = some (.cells #[.string a0_0, (.slice A0_1 l0_1.length c0_1), .int .i64 a0_2, .int .i64 a0_3] 32 (0, 0))) ∧ Aside0 (Below w.heap.size w w'))
    case atStart => exact ⟨(0), (by first | rfl | (simp; done) | (simp [*]; done)), H', ⟨Nat.le_refl _⟩, ⟨bq BK115⟩, ⟨qb HB⟩⟩
    case round =>
     clear H'; (try clear p2); (try clear c3); (try clear c5); (try clear c6); (try clear c8); (try clear hcz6_0); (try clear hcz6_1); (try clear hcz6_2); (try clear hcz6_3); (try clear hcz7_0); (try clear hcz7_1); (try clear hcz7_2); (try clear hcz7_3); (try clear hfz6_0); (try clear hfz6_1); (try clear hfz6_2); (try clear hfz6_3); (try clear hfz7_0); (try clear hfz7_1); (try clear hfz7_2); (try clear hfz7_3); (try clear p2); obtain ⟨x3_2, rfl, HA, HK2, BK115, HB⟩ := hrel
     cases gk with
     | zero => exact absurd HA.out (by simp [spec_l06Clause.l0])
     | succ k2 =>
      have H := HA.out; clear HA; simp only [spec_l06Clause.l0] at H; by_cases c9 : x3_2 < (l0_1.length : Int)
      ·rw [if_pos c9] at H; have c9b0 : decide (x3_2 < (l0_1.length : Int)) = true := decide_eq_true c9; clear c9; by_cases c10 : 0 ≤ x3_2
       ·rw [if_pos c10] at H; have c10b0 : decide (0 ≤ x3_2) = true := decide_eq_true c10; clear c10; have HC11 := Aside0.mk H; clear H; obtain ⟨hcz12_0, hcz12_1, hcz12_2, hcz12_3, hfz12_0, hfz12_1, hfz12_2, hfz12_3⟩ := bz4 BK115; have p118 : 0 ≤ (x3_2 : Int) := of_decide_eq_true (by first | (with_reducible assumption) | assumption); have q118 : x3_2 < (l0_1.length : Int) := of_decide_eq_true (by first | (with_reducible assumption) | assumption); obtain ⟨ad118, e118, hx118_0, hx118_1, hx118_2⟩ := at_T59 HR0_1.out x3_2 p118 q118
        cases e118
        replace hx118_0 := (HB.out.cell (World.block_lt_of_cell? w _ hx118_0)).trans hx118_0; replace hx118_1 := (HB.out.cell (World.block_lt_of_cell? w _ hx118_1)).trans hx118_1; replace hx118_2 := (HB.out.cell (World.block_lt_of_cell? w _ hx118_2)).trans hx118_2; replace p118 := eq_true p118; replace q118 := eq_true q118
        go_upto_region 7 with (first | ((with_reducible refine gate_dst (N := 4) rfl ?_); (try (refine gate_guard (by rfl) ?_; dsimp only)); refine box_event ?hg (N := 4) ?hd (cs := #[.int .i64 0, .int .i64 0, .int .i64 0]) (t := 59) ?hr ?_; (case hd => rfl); (case hg => rfl); (case hr => first | (go_simp; done) | (go_simp; rfl)); intro gb119 hg w13 hbox hb; have n0_ := Aside0.mk (blk_below (bq BK115) hb); have n1_ := Aside0.mk (below_step (qb HB) hb); have n2_ := Aside0.mk (hbox); have n3_ := Aside0.mk ((by rw [hg]; exact (below_size (qb HB)) : w.heap.size ≤ gb119)); have n4_ := Aside0.mk ((by rw [hg]; exact (below_size (qb HB)) : w.heap.size ≤ gb119)); have n5_ := Aside0.mk ((by rw [hg]; exact Nat.ne_of_lt (blk_lt (bq BK115)) : gb115 ≠ gb119)); have n6_ := Aside0.mk ((by rw [hg]; exact Nat.ne_of_gt (blk_lt (bq BK115)) : gb119 ≠ gb115)); clear BK115; clear HB; have BK115 := n0_; have HB := n1_; have BK119 := n2_; have GW119 := n3_; have GE119 := n4_; have NB115_119 := n5_; have NB119_115 := n6_; clear n0_ n1_ n2_ n3_ n4_ n5_ n6_; clear hb hbox hg; have hnb14 := NB119_115.out; have hnc14 := NB115_119.out; obtain ⟨hcz15_0, hcz15_1, hcz15_2, hfz15_0, hfz15_1, hfz15_2⟩ := bz3 BK119))
        (try simp only [Act.put, sA, s0, sS])
        go_cut [48] (fun v48 wc => ∃ (kq : Nat) (x48_10 : Bool), v48 = .bool x48_10 ∧ Aside0 (spec_l06Clause.j2 kq x3_2 x48_10 a0_0 l0_1 a0_2 a0_3 = some r) ∧ Aside0 (kq ≤ k2) ∧ Aside0 (wc.heap[gb115]? = some (.cells #[.string a0_0, (.slice (some ad118) l0_1.length c0_1), .int .i64 a0_2, .int .i64 a0_3] 32 (0, 0))) ∧ Aside0 (wc.heap[gb119]? = some (.cells #[.int .i64 ((rd_T59 l0_1 x3_2).f0), .int .i64 ((rd_T59 l0_1 x3_2).f1), .int .i64 ((rd_T59 l0_1 x3_2).f2)] 59 (0, 0))) ∧ Aside0 (Below w.heap.size w wc))
        case first =>
         have H := HC11.out; clear HC11; replace H := Option.bind_eq_some_iff.mp H; obtain ⟨t120, A160, H⟩ := H; replace H : (if t120 = true then ((spec_l01In.f ((rd_T59 l0_1 x3_2).f1) 1 3).bind fun t121 => (if t121 = true then ((spec_l06Low.f ((rd_T59 l0_1 x3_2).f0)).bind fun t122 => ((spec_l06High.f ((rd_T59 l0_1 x3_2).f0)).bind fun t123 => ((spec_l01In.f ((rd_T59 l0_1 x3_2).f2) t122 t123).bind fun t124 => (spec_l06Clause.j2 k2 x3_2 (!t124) a0_0 l0_1 a0_2 a0_3)))) else (spec_l06Clause.j2 k2 x3_2 true a0_0 l0_1 a0_2 a0_3))) else (spec_l06Clause.j2 k2 x3_2 true a0_0 l0_1 a0_2 a0_3)) = some r := H; have A16 := Aside0.mk A160; clear A160; by_cases c17 : t120 = true
         ·subst c17
          have H1 : ((spec_l01In.f ((rd_T59 l0_1 x3_2).f1) 1 3).bind fun t121 => (if t121 = true then ((spec_l06Low.f ((rd_T59 l0_1 x3_2).f0)).bind fun t122 => ((spec_l06High.f ((rd_T59 l0_1 x3_2).f0)).bind fun t123 => ((spec_l01In.f ((rd_T59 l0_1 x3_2).f2) t122 t123).bind fun t124 => (spec_l06Clause.j2 k2 x3_2 (!t124) a0_0 l0_1 a0_2 a0_3)))) else (spec_l06Clause.j2 k2 x3_2 true a0_0 l0_1 a0_2 a0_3))) = some r := by rw [if_pos rfl] at H; exact H
          clear H; have H := H1; clear H1; replace H := Option.bind_eq_some_iff.mp H; obtain ⟨t121, A180, H⟩ := H; replace H : (if t121 = true then ((spec_l06Low.f ((rd_T59 l0_1 x3_2).f0)).bind fun t122 => ((spec_l06High.f ((rd_T59 l0_1 x3_2).f0)).bind fun t123 => ((spec_l01In.f ((rd_T59 l0_1 x3_2).f2) t122 t123).bind fun t124 => (spec_l06Clause.j2 k2 x3_2 (!t124) a0_0 l0_1 a0_2 a0_3)))) else (spec_l06Clause.j2 k2 x3_2 true a0_0 l0_1 a0_2 a0_3)) = some r := H; have A18 := Aside0.mk A180; clear A180; by_cases c19 : t121 = true
          ·subst c19
           have H1 : ((spec_l06Low.f ((rd_T59 l0_1 x3_2).f0)).bind fun t122 => ((spec_l06High.f ((rd_T59 l0_1 x3_2).f0)).bind fun t123 => ((spec_l01In.f ((rd_T59 l0_1 x3_2).f2) t122 t123).bind fun t124 => (spec_l06Clause.j2 k2 x3_2 (!t124) a0_0 l0_1 a0_2 a0_3)))) = some r := by rw [if_pos rfl] at H; exact H
           clear H; have H := H1; clear H1; replace H := Option.bind_eq_some_iff.mp H; obtain ⟨t122, A200, H⟩ := H; replace H : ((spec_l06High.f ((rd_T59 l0_1 x3_2).f0)).bind fun t123 => ((spec_l01In.f ((rd_T59 l0_1 x3_2).f2) t122 t123).bind fun t124 => (spec_l06Clause.j2 k2 x3_2 (!t124) a0_0 l0_1 a0_2 a0_3))) = some r := H; have A20 := Aside0.mk A200; clear A200; replace H := Option.bind_eq_some_iff.mp H; obtain ⟨t123, A210, H⟩ := H; replace H : ((spec_l01In.f ((rd_T59 l0_1 x3_2).f2) t122 t123).bind fun t124 => (spec_l06Clause.j2 k2 x3_2 (!t124) a0_0 l0_1 a0_2 a0_3)) = some r := H; have A21 := Aside0.mk A210; clear A210; replace H := Option.bind_eq_some_iff.mp H; obtain ⟨t124, A220, H⟩ := H; replace H : (spec_l06Clause.j2 k2 x3_2 (!t124) a0_0 l0_1 a0_2 a0_3) = some r := H; have A22 := Aside0.mk A220; clear A220; have H' := Aside0.mk H; clear H
           try go_wp2
           have n0_ : Aside0 ((((w13.setCell ⟨gb119, 0, none⟩ (.int .i64 ((rd_T59 l0_1 x3_2).f0))).setCell ⟨gb119, 1, none⟩ (.int .i64 ((rd_T59 l0_1 x3_2).f1))).setCell ⟨gb119, 2, none⟩ (.int .i64 ((rd_T59 l0_1 x3_2).f2))).heap[gb115]? = some (.cells #[.string a0_0, .slice (some ad118) l0_1.length c0_1, .int .i64 a0_2, .int .i64 a0_3] 32 (0, 0))) := ⟨bf BK115⟩; have n1_ : Aside0 ((((w13.setCell ⟨gb119, 0, none⟩ (.int .i64 ((rd_T59 l0_1 x3_2).f0))).setCell ⟨gb119, 1, none⟩ (.int .i64 ((rd_T59 l0_1 x3_2).f1))).setCell ⟨gb119, 2, none⟩ (.int .i64 ((rd_T59 l0_1 x3_2).f2))).heap[gb119]? = some (.cells #[.int .i64 ((rd_T59 l0_1 x3_2).f0), .int .i64 ((rd_T59 l0_1 x3_2).f1), .int .i64 ((rd_T59 l0_1 x3_2).f2)] 59 (0, 0))) := ⟨by (with_reducible repeat (first | refine blk_drewN ?_ _ | refine blk_drew ?_ | refine blk_alloc ?_ _)); refine blk_put (cs := #[.int .i64 ((rd_T59 l0_1 x3_2).f0), .int .i64 ((rd_T59 l0_1 x3_2).f1), .int .i64 0]) ?_ 2 _ rfl; (with_reducible repeat (first | refine blk_drewN ?_ _ | refine blk_drew ?_ | refine blk_alloc ?_ _)); refine blk_put (cs := #[.int .i64 ((rd_T59 l0_1 x3_2).f0), .int .i64 0, .int .i64 0]) ?_ 1 _ rfl; (with_reducible repeat (first | refine blk_drewN ?_ _ | refine blk_drew ?_ | refine blk_alloc ?_ _)); refine blk_put (cs := #[.int .i64 0, .int .i64 0, .int .i64 0]) ?_ 0 _ rfl; (with_reducible repeat (first | refine blk_drewN ?_ _ | refine blk_drew ?_ | refine blk_alloc ?_ _)); exact BK119.out⟩; have n2_ : Aside0 (Below w.heap.size w (((w13.setCell ⟨gb119, 0, none⟩ (.int .i64 ((rd_T59 l0_1 x3_2).f0))).setCell ⟨gb119, 1, none⟩ (.int .i64 ((rd_T59 l0_1 x3_2).f1))).setCell ⟨gb119, 2, none⟩ (.int .i64 ((rd_T59 l0_1 x3_2).f2)))) := ⟨qb HB⟩; (try clear BK115); (try clear BK119); (try clear HB); generalize (((w13.setCell ⟨gb119, 0, none⟩ (.int .i64 ((rd_T59 l0_1 x3_2).f0))).setCell ⟨gb119, 1, none⟩ (.int .i64 ((rd_T59 l0_1 x3_2).f1))).setCell ⟨gb119, 2, none⟩ (.int .i64 ((rd_T59 l0_1 x3_2).f2))) = w23 at n0_ n1_ n2_ ⊢; have BK115 := n0_; have BK119 := n1_; have HB := n2_; clear n0_ n1_ n2_; have n0_ := Aside0.mk (blk_drew BK115.out); have n1_ := Aside0.mk (blk_drew BK119.out); have n2_ := Aside0.mk (below_drew1 HB.out); clear BK115; clear BK119; clear HB; have BK115 := n0_; have BK119 := n1_; have HB := n2_; clear n0_ n1_ n2_; refine start_ (n := 22) (S := fun w' => w'.cell? ⟨gb119, 0, none⟩ = some (.int .i64 ((rd_T59 l0_1 x3_2).f0)) ∧ w'.cell? ⟨gb119, 1, none⟩ = some (.int .i64 ((rd_T59 l0_1 x3_2).f1)) ∧ w'.cell? ⟨gb119, 2, none⟩ = some (.int .i64 ((rd_T59 l0_1 x3_2).f2))) (ds := []) (rl_ true [0, 22]).toArray (by kernel_rfl) rfl rfl ⟨(blk_cell BK119.out 0).trans rfl, (blk_cell BK119.out 1).trans rfl, (blk_cell BK119.out 2).trans rfl⟩ (fun hHeld => ?_); refine with_tabW spec_l06Clause.tab7 spec_l06Clause.bits7 (fun HT_ HW_ => ?_); generalize w23.drew = w24 at BK115 BK119 HB hHeld ⊢; refine pure_ (i := 0) (N := some 27) (v := ?_) (a' := ?_) (rl_ true [1, 21]).toArray rfl rfl (any_of HT_.out (by kernel_rfl)) (fun _ _ _ h => h) (Or.inl ⟨by rfl, ?_⟩) ?_ ?_; rotate_left
           ·intro w'; go_simp; (with_reducible rfl)
           rotate_left
           ·simp only [Act.put, sA, s0, sS, i64_w, i32_w]; rfl
           refine take_ (i := 1) (N := some 28) (v := ?_) (a' := ?_) (rl_ true [2, 20]).toArray rfl rfl (take_ofW HT_.out HW_.out (by kernel_rfl)) (fun _ _ _ h => h) (Or.inl ⟨by rfl, ?_⟩) hHeld ?_ ?_; rotate_left
           ·rintro w' ⟨s0, s1, s2⟩; go_simp; (with_reducible rfl)
           rotate_left
           ·simp only [Act.put, sA, s0, sS, i64_w, i32_w]; rfl
           refine one_ (i := 2) (N := some 29) (rl_ true [3, 19]).toArray rfl rfl (one_of HT_.out (by kernel_rfl)) (by decide) (fun K hK => ?_); refine goes_ Try.func61 (by kernel_rfl) rfl #[.int .i64 ((rd_T59 l0_1 x3_2).f0), .int .i64 1, .int .i64 5] (by rfl) rfl rfl mq ?_; (with_reducible refine (spec_l01In.calls ((rd_T59 l0_1 x3_2).f0) 1 5 true _ A16.out).mono ?_); rintro e w' ⟨rfl, ⟨nd, rfl⟩⟩; refine ⟨_, rfl, ?_⟩; refine hK.out _ _ ⟨(blk_cell BK119.out 0).trans rfl, (blk_cell BK119.out 1).trans rfl, (blk_cell BK119.out 2).trans rfl⟩ (fun hHeld => ?_); clear hK K; refine norm_ (a' := ?_) ?_ ?_; rotate_left
           ·show Act.put _ (some 29) _ = _; simp only [Act.put, sA, s0, sS, i64_w, i32_w]; rfl
           refine pure_ (i := 3) (N := some 30) (v := ?_) (a' := ?_) (rl_ true [4, 18]).toArray rfl rfl (any_of HT_.out (by kernel_rfl)) (fun _ _ _ h => h) (Or.inl ⟨by rfl, ?_⟩) ?_ ?_; rotate_left
           ·intro w'; go_simp; (with_reducible rfl)
           rotate_left
           ·simp only [Act.put, sA, s0, sS, i64_w, i32_w]; rfl
           refine pure_ (i := 4) (N := some 31) (v := ?_) (a' := ?_) (rl_ true [5, 17]).toArray rfl rfl (any_of HT_.out (by kernel_rfl)) (fun _ _ _ h => h) (Or.inl ⟨by rfl, ?_⟩) ?_ ?_; rotate_left
           ·intro w'; go_simp; (with_reducible rfl)
           rotate_left
           ·simp only [Act.put, sA, s0, sS, i64_w, i32_w]; rfl
           refine pure_ (i := 5) (N := some 32) (v := ?_) (a' := ?_) (rl_ true [6, 16]).toArray rfl rfl (any_of HT_.out (by kernel_rfl)) (fun _ _ _ h => h) (Or.inl ⟨by rfl, ?_⟩) ?_ ?_; rotate_left
           ·intro w'; go_simp; (with_reducible rfl)
           rotate_left
           ·simp only [Act.put, sA, s0, sS, i64_w, i32_w]; rfl
           refine take_ (i := 6) (N := some 33) (v := ?_) (a' := ?_) (rl_ true [7, 15]).toArray rfl rfl (take_ofW HT_.out HW_.out (by kernel_rfl)) (fun _ _ _ h => h) (Or.inl ⟨by rfl, ?_⟩) hHeld ?_ ?_; rotate_left
           ·rintro w' ⟨s0, s1, s2⟩; go_simp; (with_reducible rfl)
           rotate_left
           ·simp only [Act.put, sA, s0, sS, i64_w, i32_w]; rfl
           refine one_ (i := 7) (N := some 34) (rl_ true [8, 14]).toArray rfl rfl (one_of HT_.out (by kernel_rfl)) (by decide) (fun K hK => ?_); refine goes_ Try.func61 (by kernel_rfl) rfl #[.int .i64 ((rd_T59 l0_1 x3_2).f1), .int .i64 1, .int .i64 3] (by rfl) rfl rfl mq ?_; (with_reducible refine (spec_l01In.calls ((rd_T59 l0_1 x3_2).f1) 1 3 true _ A18.out).mono ?_); rintro e w' ⟨rfl, ⟨nd, rfl⟩⟩; refine ⟨_, rfl, ?_⟩; refine hK.out _ _ ⟨(blk_cell BK119.out 0).trans rfl, (blk_cell BK119.out 1).trans rfl, (blk_cell BK119.out 2).trans rfl⟩ (fun hHeld => ?_); clear hK K; refine norm_ (a' := ?_) ?_ ?_; rotate_left
           ·show Act.put _ (some 34) _ = _; simp only [Act.put, sA, s0, sS, i64_w, i32_w]; rfl
           refine pure_ (i := 8) (N := some 35) (v := ?_) (a' := ?_) (rl_ true [9, 13]).toArray rfl rfl (any_of HT_.out (by kernel_rfl)) (fun _ _ _ h => h) (Or.inl ⟨by rfl, ?_⟩) ?_ ?_; rotate_left
           ·intro w'; go_simp; (with_reducible rfl)
           rotate_left
           ·simp only [Act.put, sA, s0, sS, i64_w, i32_w]; rfl
           refine pure_ (i := 9) (N := some 36) (v := ?_) (a' := ?_) (rl_ true [10, 12]).toArray rfl rfl (any_of HT_.out (by kernel_rfl)) (fun _ _ _ h => h) (Or.inl ⟨by rfl, ?_⟩) ?_ ?_; rotate_left
           ·intro w'; go_simp; (with_reducible rfl)
           rotate_left
           ·simp only [Act.put, sA, s0, sS, i64_w, i32_w]; rfl
           refine pure_ (i := 10) (N := some 37) (v := ?_) (a' := ?_) (rl_ true [11, 11]).toArray rfl rfl (any_of HT_.out (by kernel_rfl)) (fun _ _ _ h => h) (Or.inl ⟨by rfl, ?_⟩) ?_ ?_; rotate_left
           ·intro w'; go_simp; (with_reducible rfl)
           rotate_left
           ·simp only [Act.put, sA, s0, sS, i64_w, i32_w]; rfl
           refine pure_ (i := 11) (N := some 38) (v := ?_) (a' := ?_) (rl_ true [12, 10]).toArray rfl rfl (any_of HT_.out (by kernel_rfl)) (fun _ _ _ h => h) (Or.inl ⟨by rfl, ?_⟩) ?_ ?_; rotate_left
           ·intro w'; go_simp; (with_reducible rfl)
           rotate_left
           ·simp only [Act.put, sA, s0, sS, i64_w, i32_w]; rfl
           refine pure_ (i := 13) (N := some 40) (v := ?_) (a' := ?_) (rl_ true [12, 1, 1, 8]).toArray rfl rfl (any_of HT_.out (by kernel_rfl)) (fun _ _ _ h => h) (Or.inl ⟨by rfl, ?_⟩) ?_ ?_; rotate_left
           ·intro w'; go_simp; (with_reducible rfl)
           rotate_left
           ·simp only [Act.put, sA, s0, sS, i64_w, i32_w]; rfl
           refine pure_ (i := 16) (N := some 43) (v := ?_) (a' := ?_) (rl_ true [12, 1, 1, 2, 1, 5]).toArray rfl rfl (any_of HT_.out (by kernel_rfl)) (fun _ _ _ h => h) (Or.inl ⟨by rfl, ?_⟩) ?_ ?_; rotate_left
           ·intro w'; go_simp; (with_reducible rfl)
           rotate_left
           ·simp only [Act.put, sA, s0, sS, i64_w, i32_w]; rfl
           refine take_ (i := 12) (N := some 39) (v := ?_) (a' := ?_) (rl_ true [14, 2, 1, 5]).toArray rfl rfl (take_ofW HT_.out HW_.out (by kernel_rfl)) (fun _ _ _ h => h) (Or.inl ⟨by rfl, ?_⟩) hHeld ?_ ?_; rotate_left
           ·rintro w' ⟨s0, s1, s2⟩; go_simp; (with_reducible rfl)
           rotate_left
           ·simp only [Act.put, sA, s0, sS, i64_w, i32_w]; rfl
           refine take_ (i := 14) (N := some 41) (v := ?_) (a' := ?_) (rl_ true [15, 1, 1, 5]).toArray rfl rfl (take_ofW HT_.out HW_.out (by kernel_rfl)) (fun _ _ _ h => h) (Or.inl ⟨by rfl, ?_⟩) hHeld ?_ ?_; rotate_left
           ·rintro w' ⟨s0, s1, s2⟩; go_simp; (with_reducible rfl)
           rotate_left
           ·simp only [Act.put, sA, s0, sS, i64_w, i32_w]; rfl
           refine take_ (i := 17) (N := some 44) (v := ?_) (a' := ?_) (rl_ true [15, 1, 2, 4]).toArray rfl rfl (take_ofW HT_.out HW_.out (by kernel_rfl)) (fun _ _ _ h => h) (Or.inl ⟨by rfl, ?_⟩) hHeld ?_ ?_; rotate_left
           ·rintro w' ⟨s0, s1, s2⟩; go_simp; (with_reducible rfl)
           rotate_left
           ·simp only [Act.put, sA, s0, sS, i64_w, i32_w]; rfl
           refine one_ (i := 15) (N := some 42) (rl_ true [18, 4]).toArray rfl rfl (one_of HT_.out (by kernel_rfl)) (by decide) (fun K hK => ?_); refine goes_ Try.func62 (by kernel_rfl) rfl #[.int .i64 ((rd_T59 l0_1 x3_2).f0)] (by rfl) rfl rfl mq ?_; (with_reducible refine (spec_l06Low.calls ((rd_T59 l0_1 x3_2).f0) t122 _ A20.out).mono ?_); rintro e w25 ⟨rfl, hb⟩; refine ⟨_, rfl, ?_⟩; have n0_ := Aside0.mk (blk_below (bq BK115) hb); have n1_ := Aside0.mk (blk_below (bq BK119) hb); have n2_ := Aside0.mk (below_step (qb HB) hb); clear BK115; clear BK119; clear HB; have BK115 := n0_; have BK119 := n1_; have HB := n2_; clear n0_ n1_ n2_; (try clear hb); (try clear hb2); (try clear hk); (try clear hi); refine hK.out _ _ ⟨(blk_cell BK119.out 0).trans rfl, (blk_cell BK119.out 1).trans rfl, (blk_cell BK119.out 2).trans rfl⟩ (fun hHeld => ?_); clear hK K; refine norm_ (a' := ?_) ?_ ?_; rotate_left
           ·show Act.put _ (some 42) _ = _; simp only [Act.put, sA, s0, sS, i64_w, i32_w]; rfl
           refine one_ (i := 18) (N := some 45) (rl_ true [19, 3]).toArray rfl rfl (one_of HT_.out (by kernel_rfl)) (by decide) (fun K hK => ?_); refine goes_ Try.func63 (by kernel_rfl) rfl #[.int .i64 ((rd_T59 l0_1 x3_2).f0)] (by rfl) rfl rfl mq ?_; (with_reducible refine (spec_l06High.calls ((rd_T59 l0_1 x3_2).f0) t123 _ A21.out).mono ?_); rintro e w26 ⟨rfl, hb⟩; refine ⟨_, rfl, ?_⟩; have n0_ := Aside0.mk (blk_below (bq BK115) hb); have n1_ := Aside0.mk (blk_below (bq BK119) hb); have n2_ := Aside0.mk (below_step (qb HB) hb); clear BK115; clear BK119; clear HB; have BK115 := n0_; have BK119 := n1_; have HB := n2_; clear n0_ n1_ n2_; (try clear hb); (try clear hb2); (try clear hk); (try clear hi); refine hK.out _ _ ⟨(blk_cell BK119.out 0).trans rfl, (blk_cell BK119.out 1).trans rfl, (blk_cell BK119.out 2).trans rfl⟩ (fun hHeld => ?_); clear hK K; refine norm_ (a' := ?_) ?_ ?_; rotate_left
           ·show Act.put _ (some 45) _ = _; simp only [Act.put, sA, s0, sS, i64_w, i32_w]; rfl
           refine one_ (i := 19) (N := some 46) (rl_ true [20, 2]).toArray rfl rfl (one_of HT_.out (by kernel_rfl)) (by decide) (fun K hK => ?_); refine goes_ Try.func61 (by kernel_rfl) rfl #[.int .i64 ((rd_T59 l0_1 x3_2).f2), .int .i64 t122, .int .i64 t123] (by rfl) rfl rfl mq ?_; (with_reducible refine (spec_l01In.calls ((rd_T59 l0_1 x3_2).f2) t122 t123 t124 _ A22.out).mono ?_); rintro e w' ⟨rfl, ⟨nd, rfl⟩⟩; refine ⟨_, rfl, ?_⟩; refine hK.out _ _ ⟨(blk_cell BK119.out 0).trans rfl, (blk_cell BK119.out 1).trans rfl, (blk_cell BK119.out 2).trans rfl⟩ (fun hHeld => ?_); clear hK K; refine norm_ (a' := ?_) ?_ ?_; rotate_left
           ·show Act.put _ (some 46) _ = _; simp only [Act.put, sA, s0, sS, i64_w, i32_w]; rfl
           refine pure_ (i := 20) (N := some 47) (v := ?_) (a' := ?_) (rl_ true [21, 1]).toArray rfl rfl (any_of HT_.out (by kernel_rfl)) (fun _ _ _ h => h) (Or.inl ⟨by rfl, ?_⟩) ?_ ?_; rotate_left
           ·intro w'; go_simp; (with_reducible rfl)
           rotate_left
           ·simp only [Act.put, sA, s0, sS, i64_w, i32_w]; rfl
           refine pure_ (i := 21) (N := some 48) (v := ?_) (a' := ?_) (rl_ true [22]).toArray rfl rfl (any_of HT_.out (by kernel_rfl)) (fun _ _ _ h => h) (Or.inl ⟨by rfl, ?_⟩) ?_ ?_; rotate_left
           ·intro w'; go_simp; (with_reducible rfl)
           rotate_left
           ·simp only [Act.put, sA, s0, sS, i64_w, i32_w]; rfl
           refine done_ (done_of HT_.out (by kernel_rfl)) ?_
           try go_wp2
           go_meet
           case rel => exact ⟨_, (!t124), (by first | rfl | (simp; done) | (simp [*]; done)), H', ⟨by have := HJ1.out; have := HK2.out; first | omega | exact Nat.le_refl _⟩, ⟨bq BK115⟩, ⟨bq BK119⟩, ⟨qb HB⟩⟩
          ·replace c19 := Bool.eq_false_iff.mpr c19; subst c19
           have H1 : (spec_l06Clause.j2 k2 x3_2 true a0_0 l0_1 a0_2 a0_3) = some r := by rw [if_neg (show ¬ (false = true) by decide)] at H; exact H
           clear H; have H := H1; clear H1; have H' := Aside0.mk H; clear H
           try go_wp2
           have n0_ : Aside0 ((((w13.setCell ⟨gb119, 0, none⟩ (.int .i64 ((rd_T59 l0_1 x3_2).f0))).setCell ⟨gb119, 1, none⟩ (.int .i64 ((rd_T59 l0_1 x3_2).f1))).setCell ⟨gb119, 2, none⟩ (.int .i64 ((rd_T59 l0_1 x3_2).f2))).heap[gb115]? = some (.cells #[.string a0_0, .slice (some ad118) l0_1.length c0_1, .int .i64 a0_2, .int .i64 a0_3] 32 (0, 0))) := ⟨bf BK115⟩; have n1_ : Aside0 ((((w13.setCell ⟨gb119, 0, none⟩ (.int .i64 ((rd_T59 l0_1 x3_2).f0))).setCell ⟨gb119, 1, none⟩ (.int .i64 ((rd_T59 l0_1 x3_2).f1))).setCell ⟨gb119, 2, none⟩ (.int .i64 ((rd_T59 l0_1 x3_2).f2))).heap[gb119]? = some (.cells #[.int .i64 ((rd_T59 l0_1 x3_2).f0), .int .i64 ((rd_T59 l0_1 x3_2).f1), .int .i64 ((rd_T59 l0_1 x3_2).f2)] 59 (0, 0))) := ⟨by (with_reducible repeat (first | refine blk_drewN ?_ _ | refine blk_drew ?_ | refine blk_alloc ?_ _)); refine blk_put (cs := #[.int .i64 ((rd_T59 l0_1 x3_2).f0), .int .i64 ((rd_T59 l0_1 x3_2).f1), .int .i64 0]) ?_ 2 _ rfl; (with_reducible repeat (first | refine blk_drewN ?_ _ | refine blk_drew ?_ | refine blk_alloc ?_ _)); refine blk_put (cs := #[.int .i64 ((rd_T59 l0_1 x3_2).f0), .int .i64 0, .int .i64 0]) ?_ 1 _ rfl; (with_reducible repeat (first | refine blk_drewN ?_ _ | refine blk_drew ?_ | refine blk_alloc ?_ _)); refine blk_put (cs := #[.int .i64 0, .int .i64 0, .int .i64 0]) ?_ 0 _ rfl; (with_reducible repeat (first | refine blk_drewN ?_ _ | refine blk_drew ?_ | refine blk_alloc ?_ _)); exact BK119.out⟩; have n2_ : Aside0 (Below w.heap.size w (((w13.setCell ⟨gb119, 0, none⟩ (.int .i64 ((rd_T59 l0_1 x3_2).f0))).setCell ⟨gb119, 1, none⟩ (.int .i64 ((rd_T59 l0_1 x3_2).f1))).setCell ⟨gb119, 2, none⟩ (.int .i64 ((rd_T59 l0_1 x3_2).f2)))) := ⟨qb HB⟩; (try clear BK115); (try clear BK119); (try clear HB); generalize (((w13.setCell ⟨gb119, 0, none⟩ (.int .i64 ((rd_T59 l0_1 x3_2).f0))).setCell ⟨gb119, 1, none⟩ (.int .i64 ((rd_T59 l0_1 x3_2).f1))).setCell ⟨gb119, 2, none⟩ (.int .i64 ((rd_T59 l0_1 x3_2).f2))) = w27 at n0_ n1_ n2_ ⊢; have BK115 := n0_; have BK119 := n1_; have HB := n2_; clear n0_ n1_ n2_; have n0_ := Aside0.mk (blk_drew BK115.out); have n1_ := Aside0.mk (blk_drew BK119.out); have n2_ := Aside0.mk (below_drew1 HB.out); clear BK115; clear BK119; clear HB; have BK115 := n0_; have BK119 := n1_; have HB := n2_; clear n0_ n1_ n2_; refine start_ (n := 22) (S := fun w' => w'.cell? ⟨gb119, 0, none⟩ = some (.int .i64 ((rd_T59 l0_1 x3_2).f0)) ∧ w'.cell? ⟨gb119, 1, none⟩ = some (.int .i64 ((rd_T59 l0_1 x3_2).f1)) ∧ w'.cell? ⟨gb119, 2, none⟩ = some (.int .i64 ((rd_T59 l0_1 x3_2).f2))) (ds := []) (rl_ true [0, 22]).toArray (by kernel_rfl) rfl rfl ⟨(blk_cell BK119.out 0).trans rfl, (blk_cell BK119.out 1).trans rfl, (blk_cell BK119.out 2).trans rfl⟩ (fun hHeld => ?_); refine with_tabW spec_l06Clause.tab7 spec_l06Clause.bits7 (fun HT_ HW_ => ?_); generalize w27.drew = w28 at BK115 BK119 HB hHeld ⊢; refine pure_ (i := 0) (N := some 27) (v := ?_) (a' := ?_) (rl_ true [1, 21]).toArray rfl rfl (any_of HT_.out (by kernel_rfl)) (fun _ _ _ h => h) (Or.inl ⟨by rfl, ?_⟩) ?_ ?_; rotate_left
           ·intro w'; go_simp; (with_reducible rfl)
           rotate_left
           ·simp only [Act.put, sA, s0, sS, i64_w, i32_w]; rfl
           refine take_ (i := 1) (N := some 28) (v := ?_) (a' := ?_) (rl_ true [2, 20]).toArray rfl rfl (take_ofW HT_.out HW_.out (by kernel_rfl)) (fun _ _ _ h => h) (Or.inl ⟨by rfl, ?_⟩) hHeld ?_ ?_; rotate_left
           ·rintro w' ⟨s0, s1, s2⟩; go_simp; (with_reducible rfl)
           rotate_left
           ·simp only [Act.put, sA, s0, sS, i64_w, i32_w]; rfl
           refine one_ (i := 2) (N := some 29) (rl_ true [3, 19]).toArray rfl rfl (one_of HT_.out (by kernel_rfl)) (by decide) (fun K hK => ?_); refine goes_ Try.func61 (by kernel_rfl) rfl #[.int .i64 ((rd_T59 l0_1 x3_2).f0), .int .i64 1, .int .i64 5] (by rfl) rfl rfl mq ?_; (with_reducible refine (spec_l01In.calls ((rd_T59 l0_1 x3_2).f0) 1 5 true _ A16.out).mono ?_); rintro e w' ⟨rfl, ⟨nd, rfl⟩⟩; refine ⟨_, rfl, ?_⟩; refine hK.out _ _ ⟨(blk_cell BK119.out 0).trans rfl, (blk_cell BK119.out 1).trans rfl, (blk_cell BK119.out 2).trans rfl⟩ (fun hHeld => ?_); clear hK K; refine norm_ (a' := ?_) ?_ ?_; rotate_left
           ·show Act.put _ (some 29) _ = _; simp only [Act.put, sA, s0, sS, i64_w, i32_w]; rfl
           refine pure_ (i := 3) (N := some 30) (v := ?_) (a' := ?_) (rl_ true [4, 18]).toArray rfl rfl (any_of HT_.out (by kernel_rfl)) (fun _ _ _ h => h) (Or.inl ⟨by rfl, ?_⟩) ?_ ?_; rotate_left
           ·intro w'; go_simp; (with_reducible rfl)
           rotate_left
           ·simp only [Act.put, sA, s0, sS, i64_w, i32_w]; rfl
           refine pure_ (i := 4) (N := some 31) (v := ?_) (a' := ?_) (rl_ true [5, 17]).toArray rfl rfl (any_of HT_.out (by kernel_rfl)) (fun _ _ _ h => h) (Or.inl ⟨by rfl, ?_⟩) ?_ ?_; rotate_left
           ·intro w'; go_simp; (with_reducible rfl)
           rotate_left
           ·simp only [Act.put, sA, s0, sS, i64_w, i32_w]; rfl
           refine pure_ (i := 5) (N := some 32) (v := ?_) (a' := ?_) (rl_ true [6, 16]).toArray rfl rfl (any_of HT_.out (by kernel_rfl)) (fun _ _ _ h => h) (Or.inl ⟨by rfl, ?_⟩) ?_ ?_; rotate_left
           ·intro w'; go_simp; (with_reducible rfl)
           rotate_left
           ·simp only [Act.put, sA, s0, sS, i64_w, i32_w]; rfl
           refine take_ (i := 6) (N := some 33) (v := ?_) (a' := ?_) (rl_ true [7, 15]).toArray rfl rfl (take_ofW HT_.out HW_.out (by kernel_rfl)) (fun _ _ _ h => h) (Or.inl ⟨by rfl, ?_⟩) hHeld ?_ ?_; rotate_left
           ·rintro w' ⟨s0, s1, s2⟩; go_simp; (with_reducible rfl)
           rotate_left
           ·simp only [Act.put, sA, s0, sS, i64_w, i32_w]; rfl
           refine one_ (i := 7) (N := some 34) (rl_ true [8, 14]).toArray rfl rfl (one_of HT_.out (by kernel_rfl)) (by decide) (fun K hK => ?_); refine goes_ Try.func61 (by kernel_rfl) rfl #[.int .i64 ((rd_T59 l0_1 x3_2).f1), .int .i64 1, .int .i64 3] (by rfl) rfl rfl mq ?_; (with_reducible refine (spec_l01In.calls ((rd_T59 l0_1 x3_2).f1) 1 3 false _ A18.out).mono ?_); rintro e w' ⟨rfl, ⟨nd, rfl⟩⟩; refine ⟨_, rfl, ?_⟩; refine hK.out _ _ ⟨(blk_cell BK119.out 0).trans rfl, (blk_cell BK119.out 1).trans rfl, (blk_cell BK119.out 2).trans rfl⟩ (fun hHeld => ?_); clear hK K; refine norm_ (a' := ?_) ?_ ?_; rotate_left
           ·show Act.put _ (some 34) _ = _; simp only [Act.put, sA, s0, sS, i64_w, i32_w]; rfl
           refine pure_ (i := 8) (N := some 35) (v := ?_) (a' := ?_) (rl_ true [9, 13]).toArray rfl rfl (any_of HT_.out (by kernel_rfl)) (fun _ _ _ h => h) (Or.inl ⟨by rfl, ?_⟩) ?_ ?_; rotate_left
           ·intro w'; go_simp; (with_reducible rfl)
           rotate_left
           ·simp only [Act.put, sA, s0, sS, i64_w, i32_w]; rfl
           refine pure_ (i := 9) (N := some 36) (v := ?_) (a' := ?_) (rl_ true [10, 12]).toArray rfl rfl (any_of HT_.out (by kernel_rfl)) (fun _ _ _ h => h) (Or.inl ⟨by rfl, ?_⟩) ?_ ?_; rotate_left
           ·intro w'; go_simp; (with_reducible rfl)
           rotate_left
           ·simp only [Act.put, sA, s0, sS, i64_w, i32_w]; rfl
           refine pure_ (i := 10) (N := some 37) (v := ?_) (a' := ?_) (rl_ true [11, 11]).toArray rfl rfl (any_of HT_.out (by kernel_rfl)) (fun _ _ _ h => h) (Or.inl ⟨by rfl, ?_⟩) ?_ ?_; rotate_left
           ·intro w'; go_simp; (with_reducible rfl)
           rotate_left
           ·simp only [Act.put, sA, s0, sS, i64_w, i32_w]; rfl
           refine pure_ (i := 11) (N := some 38) (v := undef) (a' := ?_) (rl_ true [12, 10]).toArray rfl rfl (any_of HT_.out (by kernel_rfl)) (fun _ _ _ h => h) (Or.inr ⟨by rfl, rfl⟩) ?_ ?_; rotate_left
           ·simp only [Act.put, sA, s0, sS, i64_w, i32_w]; rfl
           refine pure_ (i := 12) (N := some 39) (v := undef) (a' := ?_) (rl_ true [13, 9]).toArray rfl rfl (any_of HT_.out (by kernel_rfl)) (fun _ _ _ h => h) (Or.inr ⟨by rfl, rfl⟩) ?_ ?_; rotate_left
           ·simp only [Act.put, sA, s0, sS, i64_w, i32_w]; rfl
           refine pure_ (i := 13) (N := some 40) (v := undef) (a' := ?_) (rl_ true [14, 8]).toArray rfl rfl (any_of HT_.out (by kernel_rfl)) (fun _ _ _ h => h) (Or.inr ⟨by rfl, rfl⟩) ?_ ?_; rotate_left
           ·simp only [Act.put, sA, s0, sS, i64_w, i32_w]; rfl
           refine pure_ (i := 14) (N := some 41) (v := undef) (a' := ?_) (rl_ true [15, 7]).toArray rfl rfl (any_of HT_.out (by kernel_rfl)) (fun _ _ _ h => h) (Or.inr ⟨by rfl, rfl⟩) ?_ ?_; rotate_left
           ·simp only [Act.put, sA, s0, sS, i64_w, i32_w]; rfl
           refine pure_ (i := 15) (N := some 42) (v := undef) (a' := ?_) (rl_ true [16, 6]).toArray rfl rfl (any_of HT_.out (by kernel_rfl)) (fun _ _ _ h => h) (Or.inr ⟨by rfl, rfl⟩) ?_ ?_; rotate_left
           ·simp only [Act.put, sA, s0, sS, i64_w, i32_w]; rfl
           refine pure_ (i := 16) (N := some 43) (v := undef) (a' := ?_) (rl_ true [17, 5]).toArray rfl rfl (any_of HT_.out (by kernel_rfl)) (fun _ _ _ h => h) (Or.inr ⟨by rfl, rfl⟩) ?_ ?_; rotate_left
           ·simp only [Act.put, sA, s0, sS, i64_w, i32_w]; rfl
           refine pure_ (i := 17) (N := some 44) (v := undef) (a' := ?_) (rl_ true [18, 4]).toArray rfl rfl (any_of HT_.out (by kernel_rfl)) (fun _ _ _ h => h) (Or.inr ⟨by rfl, rfl⟩) ?_ ?_; rotate_left
           ·simp only [Act.put, sA, s0, sS, i64_w, i32_w]; rfl
           refine pure_ (i := 18) (N := some 45) (v := undef) (a' := ?_) (rl_ true [19, 3]).toArray rfl rfl (any_of HT_.out (by kernel_rfl)) (fun _ _ _ h => h) (Or.inr ⟨by rfl, rfl⟩) ?_ ?_; rotate_left
           ·simp only [Act.put, sA, s0, sS, i64_w, i32_w]; rfl
           refine pure_ (i := 19) (N := some 46) (v := undef) (a' := ?_) (rl_ true [20, 2]).toArray rfl rfl (any_of HT_.out (by kernel_rfl)) (fun _ _ _ h => h) (Or.inr ⟨by rfl, rfl⟩) ?_ ?_; rotate_left
           ·simp only [Act.put, sA, s0, sS, i64_w, i32_w]; rfl
           refine pure_ (i := 20) (N := some 47) (v := undef) (a' := ?_) (rl_ true [21, 1]).toArray rfl rfl (any_of HT_.out (by kernel_rfl)) (fun _ _ _ h => h) (Or.inr ⟨by rfl, rfl⟩) ?_ ?_; rotate_left
           ·simp only [Act.put, sA, s0, sS, i64_w, i32_w]; rfl
           refine pure_ (i := 21) (N := some 48) (v := ?_) (a' := ?_) (rl_ true [22]).toArray rfl rfl (any_of HT_.out (by kernel_rfl)) (fun _ _ _ h => h) (Or.inl ⟨by rfl, ?_⟩) ?_ ?_; rotate_left
           ·intro w'; go_simp; (with_reducible rfl)
           rotate_left
           ·simp only [Act.put, sA, s0, sS, i64_w, i32_w]; rfl
           refine done_ (done_of HT_.out (by kernel_rfl)) ?_
           try go_wp2
           go_meet
           case rel => exact ⟨_, (true), (by first | rfl | (simp; done) | (simp [*]; done)), H', ⟨by have := HJ1.out; have := HK2.out; first | omega | exact Nat.le_refl _⟩, ⟨bq BK115⟩, ⟨bq BK119⟩, ⟨qb HB⟩⟩
         ·replace c17 := Bool.eq_false_iff.mpr c17; subst c17
          have H1 : (spec_l06Clause.j2 k2 x3_2 true a0_0 l0_1 a0_2 a0_3) = some r := by rw [if_neg (show ¬ (false = true) by decide)] at H; exact H
          clear H; have H := H1; clear H1; have H' := Aside0.mk H; clear H
          try go_wp2
          have n0_ : Aside0 ((((w13.setCell ⟨gb119, 0, none⟩ (.int .i64 ((rd_T59 l0_1 x3_2).f0))).setCell ⟨gb119, 1, none⟩ (.int .i64 ((rd_T59 l0_1 x3_2).f1))).setCell ⟨gb119, 2, none⟩ (.int .i64 ((rd_T59 l0_1 x3_2).f2))).heap[gb115]? = some (.cells #[.string a0_0, .slice (some ad118) l0_1.length c0_1, .int .i64 a0_2, .int .i64 a0_3] 32 (0, 0))) := ⟨bf BK115⟩; have n1_ : Aside0 ((((w13.setCell ⟨gb119, 0, none⟩ (.int .i64 ((rd_T59 l0_1 x3_2).f0))).setCell ⟨gb119, 1, none⟩ (.int .i64 ((rd_T59 l0_1 x3_2).f1))).setCell ⟨gb119, 2, none⟩ (.int .i64 ((rd_T59 l0_1 x3_2).f2))).heap[gb119]? = some (.cells #[.int .i64 ((rd_T59 l0_1 x3_2).f0), .int .i64 ((rd_T59 l0_1 x3_2).f1), .int .i64 ((rd_T59 l0_1 x3_2).f2)] 59 (0, 0))) := ⟨by (with_reducible repeat (first | refine blk_drewN ?_ _ | refine blk_drew ?_ | refine blk_alloc ?_ _)); refine blk_put (cs := #[.int .i64 ((rd_T59 l0_1 x3_2).f0), .int .i64 ((rd_T59 l0_1 x3_2).f1), .int .i64 0]) ?_ 2 _ rfl; (with_reducible repeat (first | refine blk_drewN ?_ _ | refine blk_drew ?_ | refine blk_alloc ?_ _)); refine blk_put (cs := #[.int .i64 ((rd_T59 l0_1 x3_2).f0), .int .i64 0, .int .i64 0]) ?_ 1 _ rfl; (with_reducible repeat (first | refine blk_drewN ?_ _ | refine blk_drew ?_ | refine blk_alloc ?_ _)); refine blk_put (cs := #[.int .i64 0, .int .i64 0, .int .i64 0]) ?_ 0 _ rfl; (with_reducible repeat (first | refine blk_drewN ?_ _ | refine blk_drew ?_ | refine blk_alloc ?_ _)); exact BK119.out⟩; have n2_ : Aside0 (Below w.heap.size w (((w13.setCell ⟨gb119, 0, none⟩ (.int .i64 ((rd_T59 l0_1 x3_2).f0))).setCell ⟨gb119, 1, none⟩ (.int .i64 ((rd_T59 l0_1 x3_2).f1))).setCell ⟨gb119, 2, none⟩ (.int .i64 ((rd_T59 l0_1 x3_2).f2)))) := ⟨qb HB⟩; (try clear BK115); (try clear BK119); (try clear HB); generalize (((w13.setCell ⟨gb119, 0, none⟩ (.int .i64 ((rd_T59 l0_1 x3_2).f0))).setCell ⟨gb119, 1, none⟩ (.int .i64 ((rd_T59 l0_1 x3_2).f1))).setCell ⟨gb119, 2, none⟩ (.int .i64 ((rd_T59 l0_1 x3_2).f2))) = w29 at n0_ n1_ n2_ ⊢; have BK115 := n0_; have BK119 := n1_; have HB := n2_; clear n0_ n1_ n2_; have n0_ := Aside0.mk (blk_drew BK115.out); have n1_ := Aside0.mk (blk_drew BK119.out); have n2_ := Aside0.mk (below_drew1 HB.out); clear BK115; clear BK119; clear HB; have BK115 := n0_; have BK119 := n1_; have HB := n2_; clear n0_ n1_ n2_; refine start_ (n := 22) (S := fun w' => w'.cell? ⟨gb119, 0, none⟩ = some (.int .i64 ((rd_T59 l0_1 x3_2).f0)) ∧ w'.cell? ⟨gb119, 1, none⟩ = some (.int .i64 ((rd_T59 l0_1 x3_2).f1)) ∧ w'.cell? ⟨gb119, 2, none⟩ = some (.int .i64 ((rd_T59 l0_1 x3_2).f2))) (ds := []) (rl_ true [0, 22]).toArray (by kernel_rfl) rfl rfl ⟨(blk_cell BK119.out 0).trans rfl, (blk_cell BK119.out 1).trans rfl, (blk_cell BK119.out 2).trans rfl⟩ (fun hHeld => ?_); refine with_tabW spec_l06Clause.tab7 spec_l06Clause.bits7 (fun HT_ HW_ => ?_); generalize w29.drew = w30 at BK115 BK119 HB hHeld ⊢; refine pure_ (i := 0) (N := some 27) (v := ?_) (a' := ?_) (rl_ true [1, 21]).toArray rfl rfl (any_of HT_.out (by kernel_rfl)) (fun _ _ _ h => h) (Or.inl ⟨by rfl, ?_⟩) ?_ ?_; rotate_left
          ·intro w'; go_simp; (with_reducible rfl)
          rotate_left
          ·simp only [Act.put, sA, s0, sS, i64_w, i32_w]; rfl
          refine take_ (i := 1) (N := some 28) (v := ?_) (a' := ?_) (rl_ true [2, 20]).toArray rfl rfl (take_ofW HT_.out HW_.out (by kernel_rfl)) (fun _ _ _ h => h) (Or.inl ⟨by rfl, ?_⟩) hHeld ?_ ?_; rotate_left
          ·rintro w' ⟨s0, s1, s2⟩; go_simp; (with_reducible rfl)
          rotate_left
          ·simp only [Act.put, sA, s0, sS, i64_w, i32_w]; rfl
          refine one_ (i := 2) (N := some 29) (rl_ true [3, 19]).toArray rfl rfl (one_of HT_.out (by kernel_rfl)) (by decide) (fun K hK => ?_); refine goes_ Try.func61 (by kernel_rfl) rfl #[.int .i64 ((rd_T59 l0_1 x3_2).f0), .int .i64 1, .int .i64 5] (by rfl) rfl rfl mq ?_; (with_reducible refine (spec_l01In.calls ((rd_T59 l0_1 x3_2).f0) 1 5 false _ A16.out).mono ?_); rintro e w' ⟨rfl, ⟨nd, rfl⟩⟩; refine ⟨_, rfl, ?_⟩; refine hK.out _ _ ⟨(blk_cell BK119.out 0).trans rfl, (blk_cell BK119.out 1).trans rfl, (blk_cell BK119.out 2).trans rfl⟩ (fun hHeld => ?_); clear hK K; refine norm_ (a' := ?_) ?_ ?_; rotate_left
          ·show Act.put _ (some 29) _ = _; simp only [Act.put, sA, s0, sS, i64_w, i32_w]; rfl
          refine pure_ (i := 3) (N := some 30) (v := ?_) (a' := ?_) (rl_ true [4, 18]).toArray rfl rfl (any_of HT_.out (by kernel_rfl)) (fun _ _ _ h => h) (Or.inl ⟨by rfl, ?_⟩) ?_ ?_; rotate_left
          ·intro w'; go_simp; (with_reducible rfl)
          rotate_left
          ·simp only [Act.put, sA, s0, sS, i64_w, i32_w]; rfl
          refine pure_ (i := 4) (N := some 31) (v := ?_) (a' := ?_) (rl_ true [5, 17]).toArray rfl rfl (any_of HT_.out (by kernel_rfl)) (fun _ _ _ h => h) (Or.inl ⟨by rfl, ?_⟩) ?_ ?_; rotate_left
          ·intro w'; go_simp; (with_reducible rfl)
          rotate_left
          ·simp only [Act.put, sA, s0, sS, i64_w, i32_w]; rfl
          refine pure_ (i := 5) (N := some 32) (v := undef) (a' := ?_) (rl_ true [6, 16]).toArray rfl rfl (any_of HT_.out (by kernel_rfl)) (fun _ _ _ h => h) (Or.inr ⟨by rfl, rfl⟩) ?_ ?_; rotate_left
          ·simp only [Act.put, sA, s0, sS, i64_w, i32_w]; rfl
          refine pure_ (i := 6) (N := some 33) (v := undef) (a' := ?_) (rl_ true [7, 15]).toArray rfl rfl (any_of HT_.out (by kernel_rfl)) (fun _ _ _ h => h) (Or.inr ⟨by rfl, rfl⟩) ?_ ?_; rotate_left
          ·simp only [Act.put, sA, s0, sS, i64_w, i32_w]; rfl
          refine pure_ (i := 7) (N := some 34) (v := undef) (a' := ?_) (rl_ true [8, 14]).toArray rfl rfl (any_of HT_.out (by kernel_rfl)) (fun _ _ _ h => h) (Or.inr ⟨by rfl, rfl⟩) ?_ ?_; rotate_left
          ·simp only [Act.put, sA, s0, sS, i64_w, i32_w]; rfl
          refine pure_ (i := 8) (N := some 35) (v := undef) (a' := ?_) (rl_ true [9, 13]).toArray rfl rfl (any_of HT_.out (by kernel_rfl)) (fun _ _ _ h => h) (Or.inr ⟨by rfl, rfl⟩) ?_ ?_; rotate_left
          ·simp only [Act.put, sA, s0, sS, i64_w, i32_w]; rfl
          refine pure_ (i := 9) (N := some 36) (v := ?_) (a' := ?_) (rl_ true [10, 12]).toArray rfl rfl (any_of HT_.out (by kernel_rfl)) (fun _ _ _ h => h) (Or.inl ⟨by rfl, ?_⟩) ?_ ?_; rotate_left
          ·intro w'; go_simp; (with_reducible rfl)
          rotate_left
          ·simp only [Act.put, sA, s0, sS, i64_w, i32_w]; rfl
          refine pure_ (i := 10) (N := some 37) (v := ?_) (a' := ?_) (rl_ true [11, 11]).toArray rfl rfl (any_of HT_.out (by kernel_rfl)) (fun _ _ _ h => h) (Or.inl ⟨by rfl, ?_⟩) ?_ ?_; rotate_left
          ·intro w'; go_simp; (with_reducible rfl)
          rotate_left
          ·simp only [Act.put, sA, s0, sS, i64_w, i32_w]; rfl
          refine pure_ (i := 11) (N := some 38) (v := undef) (a' := ?_) (rl_ true [12, 10]).toArray rfl rfl (any_of HT_.out (by kernel_rfl)) (fun _ _ _ h => h) (Or.inr ⟨by rfl, rfl⟩) ?_ ?_; rotate_left
          ·simp only [Act.put, sA, s0, sS, i64_w, i32_w]; rfl
          refine pure_ (i := 12) (N := some 39) (v := undef) (a' := ?_) (rl_ true [13, 9]).toArray rfl rfl (any_of HT_.out (by kernel_rfl)) (fun _ _ _ h => h) (Or.inr ⟨by rfl, rfl⟩) ?_ ?_; rotate_left
          ·simp only [Act.put, sA, s0, sS, i64_w, i32_w]; rfl
          refine pure_ (i := 13) (N := some 40) (v := undef) (a' := ?_) (rl_ true [14, 8]).toArray rfl rfl (any_of HT_.out (by kernel_rfl)) (fun _ _ _ h => h) (Or.inr ⟨by rfl, rfl⟩) ?_ ?_; rotate_left
          ·simp only [Act.put, sA, s0, sS, i64_w, i32_w]; rfl
          refine pure_ (i := 14) (N := some 41) (v := undef) (a' := ?_) (rl_ true [15, 7]).toArray rfl rfl (any_of HT_.out (by kernel_rfl)) (fun _ _ _ h => h) (Or.inr ⟨by rfl, rfl⟩) ?_ ?_; rotate_left
          ·simp only [Act.put, sA, s0, sS, i64_w, i32_w]; rfl
          refine pure_ (i := 15) (N := some 42) (v := undef) (a' := ?_) (rl_ true [16, 6]).toArray rfl rfl (any_of HT_.out (by kernel_rfl)) (fun _ _ _ h => h) (Or.inr ⟨by rfl, rfl⟩) ?_ ?_; rotate_left
          ·simp only [Act.put, sA, s0, sS, i64_w, i32_w]; rfl
          refine pure_ (i := 16) (N := some 43) (v := undef) (a' := ?_) (rl_ true [17, 5]).toArray rfl rfl (any_of HT_.out (by kernel_rfl)) (fun _ _ _ h => h) (Or.inr ⟨by rfl, rfl⟩) ?_ ?_; rotate_left
          ·simp only [Act.put, sA, s0, sS, i64_w, i32_w]; rfl
          refine pure_ (i := 17) (N := some 44) (v := undef) (a' := ?_) (rl_ true [18, 4]).toArray rfl rfl (any_of HT_.out (by kernel_rfl)) (fun _ _ _ h => h) (Or.inr ⟨by rfl, rfl⟩) ?_ ?_; rotate_left
          ·simp only [Act.put, sA, s0, sS, i64_w, i32_w]; rfl
          refine pure_ (i := 18) (N := some 45) (v := undef) (a' := ?_) (rl_ true [19, 3]).toArray rfl rfl (any_of HT_.out (by kernel_rfl)) (fun _ _ _ h => h) (Or.inr ⟨by rfl, rfl⟩) ?_ ?_; rotate_left
          ·simp only [Act.put, sA, s0, sS, i64_w, i32_w]; rfl
          refine pure_ (i := 19) (N := some 46) (v := undef) (a' := ?_) (rl_ true [20, 2]).toArray rfl rfl (any_of HT_.out (by kernel_rfl)) (fun _ _ _ h => h) (Or.inr ⟨by rfl, rfl⟩) ?_ ?_; rotate_left
          ·simp only [Act.put, sA, s0, sS, i64_w, i32_w]; rfl
          refine pure_ (i := 20) (N := some 47) (v := undef) (a' := ?_) (rl_ true [21, 1]).toArray rfl rfl (any_of HT_.out (by kernel_rfl)) (fun _ _ _ h => h) (Or.inr ⟨by rfl, rfl⟩) ?_ ?_; rotate_left
          ·simp only [Act.put, sA, s0, sS, i64_w, i32_w]; rfl
          refine pure_ (i := 21) (N := some 48) (v := ?_) (a' := ?_) (rl_ true [22]).toArray rfl rfl (any_of HT_.out (by kernel_rfl)) (fun _ _ _ h => h) (Or.inl ⟨by rfl, ?_⟩) ?_ ?_; rotate_left
          ·intro w'; go_simp; (with_reducible rfl)
          rotate_left
          ·simp only [Act.put, sA, s0, sS, i64_w, i32_w]; rfl
          refine done_ (done_of HT_.out (by kernel_rfl)) ?_
          try go_wp2
          go_meet
          case rel => exact ⟨_, (true), (by first | rfl | (simp; done) | (simp [*]; done)), H', ⟨by have := HJ1.out; have := HK2.out; first | omega | exact Nat.le_refl _⟩, ⟨bq BK115⟩, ⟨bq BK119⟩, ⟨qb HB⟩⟩
        case rest =>
         clear HC11; (try clear c1); (try clear p2); (try clear c6); (try clear c17); (try clear c19); obtain ⟨kq, x48_10, rfl, HA, HJ10, BK115, BK119, HB⟩ := hcut
         cases kq with
         | zero => exact absurd HA.out (by simp [spec_l06Clause.j2])
         | succ kj10 =>
          have H := HA.out; clear HA; simp only [spec_l06Clause.j2] at H; by_cases c31 : x48_10 = true
          ·subst c31
           have H1 : (some false) = some r := by rw [if_pos rfl] at H; exact H
           clear H; have H := H1; clear H1; obtain rfl := Option.some.inj H; go_wp2; go_ret; exact ⟨eqq, qb HB⟩
          ·replace c31 := Bool.eq_false_iff.mpr c31; subst c31
           have H1 : (spec_l06Clause.l0 kj10 (wrap64 (x3_2 + 1)) a0_0 l0_1 a0_2 a0_3) = some r := by rw [if_neg (show ¬ (false = true) by decide)] at H; exact H
           clear H; have H := H1; clear H1; have H' := Aside0.mk H; clear H; go_wp2
           go_roundg kj10
           case measure => have := HJ1.out; have := HK2.out; have := HJ10.out; omega
           case rel => exact ⟨(wrap64 (x3_2 + 1)), (by first | rfl | (simp; done) | (simp [*]; done)), H', ⟨by have := HJ1.out; have := HK2.out; have := HJ10.out; omega⟩, ⟨bq BK115⟩, ⟨qb HB⟩⟩
       ·rw [if_neg c10] at H; exact absurd H (by simp)
      ·rw [if_neg c9] at H; have c9b0 : decide (x3_2 < (l0_1.length : Int)) = false := decide_eq_false c9; clear c9; replace H := Option.bind_eq_some_iff.mp H; obtain ⟨t117, A320, H⟩ := H; replace H : (some t117) = some r := H; have A32 := Aside0.mk A320; clear A320; obtain rfl := Option.some.inj H; obtain ⟨hcz33_0, hcz33_1, hcz33_2, hcz33_3, hfz33_0, hfz33_1, hfz33_2, hfz33_3⟩ := bz4 BK115
       go_wp2_with (first | ((with_reducible refine gate_callee (f := 64) rfl ?_); refine goesL_ (some 53) rfl rfl Try.func64 (by kernel_rfl) rfl #[.int .i64 a0_2, .int .i64 a0_3] rfl mq ?_; (with_reducible refine (spec_l06Act.calls a0_2 a0_3 t117 _ A32.out).mono ?_); rintro e w' ⟨rfl, ⟨nd, rfl⟩⟩; refine ⟨_, rfl, ?_⟩))
       go_ret; exact ⟨eqq, qb HB⟩

/-! ### spec_l06Bounds: function 65 -/
def spec_l06Bounds.l0 : Nat → List (S59) → Int → Int → Int → Int → Option (Int × Int)
 | 0, _, _, _, _, _ => none
 | k + 1, x0, x1, x6, x7, x8 => if x8 < (x0.length : Int) then (if 0 ≤ x8 then (if ((rd_T59 x0 x8).f0) = x1 then (if ((rd_T59 x0 x8).f1) = 2 then (if ((rd_T59 x0 x8).f1) = 1 then (spec_l06Bounds.l0 k x0 x1 x6 x7 (wrap64 (x8 + 1))) else (spec_l06Bounds.l0 k x0 x1 x6 (mn x7 ((rd_T59 x0 x8).f2)) (wrap64 (x8 + 1)))) else (if ((rd_T59 x0 x8).f1) = 1 then (spec_l06Bounds.l0 k x0 x1 (mx x6 ((rd_T59 x0 x8).f2)) x7 (wrap64 (x8 + 1))) else (spec_l06Bounds.l0 k x0 x1 (mx x6 ((rd_T59 x0 x8).f2)) (mn x7 ((rd_T59 x0 x8).f2)) (wrap64 (x8 + 1))))) else (spec_l06Bounds.l0 k x0 x1 x6 x7 (wrap64 (x8 + 1)))) else (none)) else (some (x6, x7))
def spec_l06Bounds.f (k : Nat) (l0 : List (S59)) (a1 : Int) : Option (Int × Int) := (spec_l06Low.f a1).bind fun t125 => ((spec_l06High.f a1).bind fun t126 => (spec_l06Bounds.l0 k l0 a1 t125 t126 0))
theorem spec_l06Bounds.mono_l : ∀ k, (∀ y0 y1 y2 y3 y4, LeO (spec_l06Bounds.l0 k y0 y1 y2 y3 y4) (spec_l06Bounds.l0 (k + 1) y0 y1 y2 y3 y4))
 | 0 => fun _ _ _ _ _ r h => by simp [spec_l06Bounds.l0] at h
 | k + 1 => by
  have ih0 := spec_l06Bounds.mono_l k
  ·intro y0 y1 y2 y3 y4; unfold spec_l06Bounds.l0
   repeat' first
   | (with_reducible exact ih0 _ _ _ _ _)
   | (with_reducible exact LeO.refl _)
   | (with_reducible exact LeO.none _)
   | (with_reducible refine LeO.ite ?_ ?_)
   | (with_reducible refine LeO.bind ?_ (fun _ => ?_))
   | exact ih0 _ _ _ _ _
   | exact LeO.none _
   | refine LeO.ite ?_ ?_
   | refine LeO.bind ?_ (fun _ => ?_)
theorem spec_l06Bounds.mono : ∀ a0 a1 k, LeO (spec_l06Bounds.f k a0 a1) (spec_l06Bounds.f (k + 1) a0 a1) := by
 intro a0 a1 k; have ih0 := spec_l06Bounds.mono_l k; unfold spec_l06Bounds.f
 repeat' first
   | (with_reducible exact ih0 _ _ _ _ _)
   | (with_reducible exact LeO.refl _)
   | (with_reducible exact LeO.none _)
   | (with_reducible refine LeO.ite ?_ ?_)
   | (with_reducible refine LeO.bind ?_ (fun _ => ?_))
   | exact ih0 _ _ _ _ _
   | exact LeO.none _
   | refine LeO.ite ?_ ?_
   | refine LeO.bind ?_ (fun _ => ?_)
set_option maxHeartbeats 8000000 in
set_option maxRecDepth 100000 in
theorem spec_l06Bounds.calls (k : Nat) (A0 : Option Addr) (c0 : Nat) (l0 : List (S59)) (a1 : Int) (r1 : Int) (r2 : Int) (w : World) (hr0 : Kd.C k59 w A0 l0.length l0) (hc0 : l0.length ≤ c0) (h : spec_l06Bounds.f k l0 a1 = some (r1, r2)) :
  Calls Try.prog 65 #[.slice A0 l0.length c0, .int .i64 a1] w fun e w' => e = .returned (.tuple #[.int .i64 r1, .int .i64 r2]) ∧ Below w.heap.size w w' := by
 have hu59 := Try.underlying59; have HR0 := Aside0.mk hr0; have HC0 := Aside0.mk hc0; clear hr0 hc0; have HB := Aside0.mk (Below.refl w.heap.size w); have H : ((spec_l06Low.f a1).bind fun t125 => ((spec_l06High.f a1).bind fun t126 => (spec_l06Bounds.l0 k l0 a1 t125 t126 0))) = some (r1, r2) := h; clear h; replace H := Option.bind_eq_some_iff.mp H; obtain ⟨t125, A30, H⟩ := H; replace H : ((spec_l06High.f a1).bind fun t126 => (spec_l06Bounds.l0 k l0 a1 t125 t126 0)) = some (r1, r2) := H; have A3 := Aside0.mk A30; clear A30; replace H := Option.bind_eq_some_iff.mp H; obtain ⟨t126, A40, H⟩ := H; replace H : (spec_l06Bounds.l0 k l0 a1 t125 t126 0) = some (r1, r2) := H; have A4 := Aside0.mk A40; clear A40; have H' := Aside0.mk H; clear H; go_enter Try.func65, Try.ntmps65
 go_wp2_with (first | ((with_reducible refine gate_callee (f := 62) rfl ?_); refine goesL_ (some 11) rfl rfl Try.func62 (by kernel_rfl) rfl #[.int .i64 a1] rfl mq ?_; (with_reducible refine (spec_l06Low.calls a1 t125 _ A3.out).mono ?_); rintro e w5 ⟨rfl, hb⟩; refine ⟨_, rfl, ?_⟩; have n0_ := Aside0.mk (below_step (qb HB) hb); clear HB; have HB := n0_; clear n0_; (try clear hb); (try clear hb2); (try clear hk); (try clear hi)) | ((with_reducible refine gate_callee (f := 63) rfl ?_); refine goesL_ (some 13) rfl rfl Try.func63 (by kernel_rfl) rfl #[.int .i64 a1] rfl mq ?_; (with_reducible refine (spec_l06High.calls a1 t126 _ A4.out).mono ?_); rintro e w6 ⟨rfl, hb⟩; refine ⟨_, rfl, ?_⟩; have n0_ := Aside0.mk (below_step (qb HB) hb); clear HB; have HB := n0_; clear n0_; (try clear hb); (try clear hb2); (try clear hk); (try clear hi)))
 go_loopg [6, 7, 8] k (fun kq v6 v7 v8 w' => ∃ (x6_1 : Int) (x7_1 : Int) (x8_1 : Int), v6 = .int .i64 x6_1 ∧ v7 = .int .i64 x7_1 ∧ v8 = .int .i64 x8_1 ∧ Aside0 (spec_l06Bounds.l0 kq l0 a1 x6_1 x7_1 x8_1 = some (r1, r2)) ∧ Aside0 (kq ≤ k) ∧ Aside0 (Below w.heap.size w w'))
 case atStart => exact ⟨(t125), (t126), (0), (by first | rfl | (simp; done) | (simp [*]; done)), (by first | rfl | (simp; done) | (simp [*]; done)), (by first | rfl | (simp; done) | (simp [*]; done)), H', ⟨Nat.le_refl _⟩, ⟨qb HB⟩⟩
 case round =>
  clear H'; (try clear p2); (try clear c6); obtain ⟨x6_1, x7_1, x8_1, rfl, rfl, rfl, HA, HK1, HB⟩ := hrel
  cases gk with
  | zero => exact absurd HA.out (by simp [spec_l06Bounds.l0])
  | succ k1 =>
   have H := HA.out; clear HA; simp only [spec_l06Bounds.l0] at H; by_cases c7 : x8_1 < (l0.length : Int)
   ·rw [if_pos c7] at H; have c7b0 : decide (x8_1 < (l0.length : Int)) = true := decide_eq_true c7; clear c7; by_cases c8 : 0 ≤ x8_1
    ·rw [if_pos c8] at H; have c8b0 : decide (0 ≤ x8_1) = true := decide_eq_true c8; clear c8; by_cases c9 : ((rd_T59 l0 x8_1).f0) = a1
     ·rw [if_pos c9] at H; have c9b0 : (((rd_T59 l0 x8_1).f0) == a1) = true := beq_iff_eq.mpr c9; have c9b1 : (((rd_T59 l0 x8_1).f0) != a1) = false := bne_eq_false_iff_eq.mpr c9; clear c9; by_cases c10 : ((rd_T59 l0 x8_1).f1) = 2
      ·rw [if_pos c10] at H; have c10b0 : (((rd_T59 l0 x8_1).f1) == 2) = true := beq_iff_eq.mpr c10; have c10b1 : (((rd_T59 l0 x8_1).f1) != 2) = false := bne_eq_false_iff_eq.mpr c10; clear c10; by_cases c11 : ((rd_T59 l0 x8_1).f1) = 1
       ·rw [if_pos c11] at H; have c11b0 : (((rd_T59 l0 x8_1).f1) == 1) = true := beq_iff_eq.mpr c11; have c11b1 : (((rd_T59 l0 x8_1).f1) != 1) = false := bne_eq_false_iff_eq.mpr c11; clear c11; have H' := Aside0.mk H; clear H; have p127 : 0 ≤ (x8_1 : Int) := of_decide_eq_true (by first | (with_reducible assumption) | assumption); have q127 : x8_1 < (l0.length : Int) := of_decide_eq_true (by first | (with_reducible assumption) | assumption); obtain ⟨ad127, e127, hx127_0, hx127_1, hx127_2⟩ := at_T59 HR0.out x8_1 p127 q127
        cases e127
        replace hx127_0 := (HB.out.cell (World.block_lt_of_cell? w _ hx127_0)).trans hx127_0; replace hx127_1 := (HB.out.cell (World.block_lt_of_cell? w _ hx127_1)).trans hx127_1; replace hx127_2 := (HB.out.cell (World.block_lt_of_cell? w _ hx127_2)).trans hx127_2; replace p127 := eq_true p127; replace q127 := eq_true q127
        go_wp2_with (first | ((with_reducible refine gate_dst (N := 9) rfl ?_); refine box_event ?hg (N := 9) ?hd (cs := #[.int .i64 0, .int .i64 0, .int .i64 0]) (t := 59) ?hr ?_; (case hd => rfl); (case hg => rfl); (case hr => first | (go_simp; done) | (go_simp; rfl)); intro gb128 hg w12 hbox hb; have n0_ := Aside0.mk (below_step (qb HB) hb); have n1_ := Aside0.mk (hbox); have n2_ := Aside0.mk ((by rw [hg]; exact (below_size (qb HB)) : w.heap.size ≤ gb128)); have n3_ := Aside0.mk ((by rw [hg]; exact (below_size (qb HB)) : w.heap.size ≤ gb128)); clear HB; have HB := n0_; have BK128 := n1_; have GW128 := n2_; have GE128 := n3_; clear n0_ n1_ n2_ n3_; clear hb hbox hg; obtain ⟨hcz13_0, hcz13_1, hcz13_2, hfz13_0, hfz13_1, hfz13_2⟩ := bz3 BK128))
        go_roundg k1
        case measure => have := HK1.out; omega
        case rel => exact ⟨(x6_1), (x7_1), (wrap64 (x8_1 + 1)), (by first | rfl | (simp; done) | (simp [*]; done)), (by first | rfl | (simp; done) | (simp [*]; done)), (by first | rfl | (simp; done) | (simp [*]; done)), H', ⟨by have := HK1.out; omega⟩, ⟨qb HB⟩⟩
       ·rw [if_neg c11] at H; have c11b0 : (((rd_T59 l0 x8_1).f1) == 1) = false := beq_eq_false_iff_ne.mpr c11; have c11b1 : (((rd_T59 l0 x8_1).f1) != 1) = true := bne_iff_ne.mpr c11; obtain ⟨ji14, hji14⟩ : ∃ j_ : Int, (mn x7_1 ((rd_T59 l0 x8_1).f2)) = j_ := ⟨_, rfl⟩
        replace H : (spec_l06Bounds.l0 k1 l0 a1 x6_1 ji14 (wrap64 (x8_1 + 1))) = some (r1, r2) := by first | (rw [hji14] at H; exact H) | (simp only [hji14] at H ⊢; exact H)
        have hji14_ : (if ((rd_T59 l0 x8_1).f2) < x7_1 then ((rd_T59 l0 x8_1).f2) else x7_1) = ji14 := hji14; have H' := Aside0.mk H; clear H; have p127 : 0 ≤ (x8_1 : Int) := of_decide_eq_true (by first | (with_reducible assumption) | assumption); have q127 : x8_1 < (l0.length : Int) := of_decide_eq_true (by first | (with_reducible assumption) | assumption); obtain ⟨ad127, e127, hx127_0, hx127_1, hx127_2⟩ := at_T59 HR0.out x8_1 p127 q127
        cases e127
        replace hx127_0 := (HB.out.cell (World.block_lt_of_cell? w _ hx127_0)).trans hx127_0; replace hx127_1 := (HB.out.cell (World.block_lt_of_cell? w _ hx127_1)).trans hx127_1; replace hx127_2 := (HB.out.cell (World.block_lt_of_cell? w _ hx127_2)).trans hx127_2; replace p127 := eq_true p127; replace q127 := eq_true q127
        go_wp2_with (first | ((with_reducible refine gate_dst (N := 9) rfl ?_); refine box_event ?hg (N := 9) ?hd (cs := #[.int .i64 0, .int .i64 0, .int .i64 0]) (t := 59) ?hr ?_; (case hd => rfl); (case hg => rfl); (case hr => first | (go_simp; done) | (go_simp; rfl)); intro gb128 hg w15 hbox hb; have n0_ := Aside0.mk (below_step (qb HB) hb); have n1_ := Aside0.mk (hbox); have n2_ := Aside0.mk ((by rw [hg]; exact (below_size (qb HB)) : w.heap.size ≤ gb128)); have n3_ := Aside0.mk ((by rw [hg]; exact (below_size (qb HB)) : w.heap.size ≤ gb128)); clear HB; have HB := n0_; have BK128 := n1_; have GW128 := n2_; have GE128 := n3_; clear n0_ n1_ n2_ n3_; clear hb hbox hg; obtain ⟨hcz16_0, hcz16_1, hcz16_2, hfz16_0, hfz16_1, hfz16_2⟩ := bz3 BK128))
        go_roundg k1
        case measure => have := HK1.out; omega
        case rel => exact ⟨(x6_1), (ji14), (wrap64 (x8_1 + 1)), (by first | rfl | (simp; done) | (simp [*]; done)), (by first | rfl | (simp; done) | (simp only [← hji14] <;> (first | rfl | simp)) | (simp [*]; done)), (by first | rfl | (simp; done) | (simp [*]; done)), H', ⟨by have := HK1.out; omega⟩, ⟨qb HB⟩⟩
      ·rw [if_neg c10] at H; have c10b0 : (((rd_T59 l0 x8_1).f1) == 2) = false := beq_eq_false_iff_ne.mpr c10; have c10b1 : (((rd_T59 l0 x8_1).f1) != 2) = true := bne_iff_ne.mpr c10; obtain ⟨ji17, hji17⟩ : ∃ j_ : Int, (mx x6_1 ((rd_T59 l0 x8_1).f2)) = j_ := ⟨_, rfl⟩
       replace H : (if ((rd_T59 l0 x8_1).f1) = 1 then (spec_l06Bounds.l0 k1 l0 a1 ji17 x7_1 (wrap64 (x8_1 + 1))) else (spec_l06Bounds.l0 k1 l0 a1 ji17 (mn x7_1 ((rd_T59 l0 x8_1).f2)) (wrap64 (x8_1 + 1)))) = some (r1, r2) := by first | (rw [hji17] at H; exact H) | (simp only [hji17] at H ⊢; exact H)
       have hji17_ : (if x6_1 < ((rd_T59 l0 x8_1).f2) then ((rd_T59 l0 x8_1).f2) else x6_1) = ji17 := hji17; by_cases c18 : ((rd_T59 l0 x8_1).f1) = 1
       ·rw [if_pos c18] at H; have c18b0 : (((rd_T59 l0 x8_1).f1) == 1) = true := beq_iff_eq.mpr c18; have c18b1 : (((rd_T59 l0 x8_1).f1) != 1) = false := bne_eq_false_iff_eq.mpr c18; clear c18; have H' := Aside0.mk H; clear H; have p127 : 0 ≤ (x8_1 : Int) := of_decide_eq_true (by first | (with_reducible assumption) | assumption); have q127 : x8_1 < (l0.length : Int) := of_decide_eq_true (by first | (with_reducible assumption) | assumption); obtain ⟨ad127, e127, hx127_0, hx127_1, hx127_2⟩ := at_T59 HR0.out x8_1 p127 q127
        cases e127
        replace hx127_0 := (HB.out.cell (World.block_lt_of_cell? w _ hx127_0)).trans hx127_0; replace hx127_1 := (HB.out.cell (World.block_lt_of_cell? w _ hx127_1)).trans hx127_1; replace hx127_2 := (HB.out.cell (World.block_lt_of_cell? w _ hx127_2)).trans hx127_2; replace p127 := eq_true p127; replace q127 := eq_true q127
        go_wp2_with (first | ((with_reducible refine gate_dst (N := 9) rfl ?_); refine box_event ?hg (N := 9) ?hd (cs := #[.int .i64 0, .int .i64 0, .int .i64 0]) (t := 59) ?hr ?_; (case hd => rfl); (case hg => rfl); (case hr => first | (go_simp; done) | (go_simp; rfl)); intro gb128 hg w19 hbox hb; have n0_ := Aside0.mk (below_step (qb HB) hb); have n1_ := Aside0.mk (hbox); have n2_ := Aside0.mk ((by rw [hg]; exact (below_size (qb HB)) : w.heap.size ≤ gb128)); have n3_ := Aside0.mk ((by rw [hg]; exact (below_size (qb HB)) : w.heap.size ≤ gb128)); clear HB; have HB := n0_; have BK128 := n1_; have GW128 := n2_; have GE128 := n3_; clear n0_ n1_ n2_ n3_; clear hb hbox hg; obtain ⟨hcz20_0, hcz20_1, hcz20_2, hfz20_0, hfz20_1, hfz20_2⟩ := bz3 BK128))
        go_roundg k1
        case measure => have := HK1.out; omega
        case rel => exact ⟨(ji17), (x7_1), (wrap64 (x8_1 + 1)), (by first | rfl | (simp; done) | (simp only [← hji17] <;> (first | rfl | simp)) | (simp [*]; done)), (by first | rfl | (simp; done) | (simp [*]; done)), (by first | rfl | (simp; done) | (simp [*]; done)), H', ⟨by have := HK1.out; omega⟩, ⟨qb HB⟩⟩
       ·rw [if_neg c18] at H; have c18b0 : (((rd_T59 l0 x8_1).f1) == 1) = false := beq_eq_false_iff_ne.mpr c18; have c18b1 : (((rd_T59 l0 x8_1).f1) != 1) = true := bne_iff_ne.mpr c18; obtain ⟨ji21, hji21⟩ : ∃ j_ : Int, (mn x7_1 ((rd_T59 l0 x8_1).f2)) = j_ := ⟨_, rfl⟩
        replace H : (spec_l06Bounds.l0 k1 l0 a1 ji17 ji21 (wrap64 (x8_1 + 1))) = some (r1, r2) := by first | (rw [hji21] at H; exact H) | (simp only [hji21] at H ⊢; exact H)
        have hji21_ : (if ((rd_T59 l0 x8_1).f2) < x7_1 then ((rd_T59 l0 x8_1).f2) else x7_1) = ji21 := hji21; have H' := Aside0.mk H; clear H; have p127 : 0 ≤ (x8_1 : Int) := of_decide_eq_true (by first | (with_reducible assumption) | assumption); have q127 : x8_1 < (l0.length : Int) := of_decide_eq_true (by first | (with_reducible assumption) | assumption); obtain ⟨ad127, e127, hx127_0, hx127_1, hx127_2⟩ := at_T59 HR0.out x8_1 p127 q127
        cases e127
        replace hx127_0 := (HB.out.cell (World.block_lt_of_cell? w _ hx127_0)).trans hx127_0; replace hx127_1 := (HB.out.cell (World.block_lt_of_cell? w _ hx127_1)).trans hx127_1; replace hx127_2 := (HB.out.cell (World.block_lt_of_cell? w _ hx127_2)).trans hx127_2; replace p127 := eq_true p127; replace q127 := eq_true q127
        go_wp2_with (first | ((with_reducible refine gate_dst (N := 9) rfl ?_); refine box_event ?hg (N := 9) ?hd (cs := #[.int .i64 0, .int .i64 0, .int .i64 0]) (t := 59) ?hr ?_; (case hd => rfl); (case hg => rfl); (case hr => first | (go_simp; done) | (go_simp; rfl)); intro gb128 hg w22 hbox hb; have n0_ := Aside0.mk (below_step (qb HB) hb); have n1_ := Aside0.mk (hbox); have n2_ := Aside0.mk ((by rw [hg]; exact (below_size (qb HB)) : w.heap.size ≤ gb128)); have n3_ := Aside0.mk ((by rw [hg]; exact (below_size (qb HB)) : w.heap.size ≤ gb128)); clear HB; have HB := n0_; have BK128 := n1_; have GW128 := n2_; have GE128 := n3_; clear n0_ n1_ n2_ n3_; clear hb hbox hg; obtain ⟨hcz23_0, hcz23_1, hcz23_2, hfz23_0, hfz23_1, hfz23_2⟩ := bz3 BK128))
        go_roundg k1
        case measure => have := HK1.out; omega
        case rel => exact ⟨(ji17), (ji21), (wrap64 (x8_1 + 1)), (by first | rfl | (simp; done) | (simp only [← hji17] <;> (first | rfl | simp)) | (simp [*]; done)), (by first | rfl | (simp; done) | (simp only [← hji21] <;> (first | rfl | simp)) | (simp [*]; done)), (by first | rfl | (simp; done) | (simp [*]; done)), H', ⟨by have := HK1.out; omega⟩, ⟨qb HB⟩⟩
     ·rw [if_neg c9] at H; have c9b0 : (((rd_T59 l0 x8_1).f0) == a1) = false := beq_eq_false_iff_ne.mpr c9; have c9b1 : (((rd_T59 l0 x8_1).f0) != a1) = true := bne_iff_ne.mpr c9; have H' := Aside0.mk H; clear H; have p127 : 0 ≤ (x8_1 : Int) := of_decide_eq_true (by first | (with_reducible assumption) | assumption); have q127 : x8_1 < (l0.length : Int) := of_decide_eq_true (by first | (with_reducible assumption) | assumption); obtain ⟨ad127, e127, hx127_0, hx127_1, hx127_2⟩ := at_T59 HR0.out x8_1 p127 q127
      cases e127
      replace hx127_0 := (HB.out.cell (World.block_lt_of_cell? w _ hx127_0)).trans hx127_0; replace hx127_1 := (HB.out.cell (World.block_lt_of_cell? w _ hx127_1)).trans hx127_1; replace hx127_2 := (HB.out.cell (World.block_lt_of_cell? w _ hx127_2)).trans hx127_2; replace p127 := eq_true p127; replace q127 := eq_true q127
      go_wp2_with (first | ((with_reducible refine gate_dst (N := 9) rfl ?_); refine box_event ?hg (N := 9) ?hd (cs := #[.int .i64 0, .int .i64 0, .int .i64 0]) (t := 59) ?hr ?_; (case hd => rfl); (case hg => rfl); (case hr => first | (go_simp; done) | (go_simp; rfl)); intro gb128 hg w24 hbox hb; have n0_ := Aside0.mk (below_step (qb HB) hb); have n1_ := Aside0.mk (hbox); have n2_ := Aside0.mk ((by rw [hg]; exact (below_size (qb HB)) : w.heap.size ≤ gb128)); have n3_ := Aside0.mk ((by rw [hg]; exact (below_size (qb HB)) : w.heap.size ≤ gb128)); clear HB; have HB := n0_; have BK128 := n1_; have GW128 := n2_; have GE128 := n3_; clear n0_ n1_ n2_ n3_; clear hb hbox hg; obtain ⟨hcz25_0, hcz25_1, hcz25_2, hfz25_0, hfz25_1, hfz25_2⟩ := bz3 BK128))
      go_roundg k1
      case measure => have := HK1.out; omega
      case rel => exact ⟨(x6_1), (x7_1), (wrap64 (x8_1 + 1)), (by first | rfl | (simp; done) | (simp [*]; done)), (by first | rfl | (simp; done) | (simp [*]; done)), (by first | rfl | (simp; done) | (simp [*]; done)), H', ⟨by have := HK1.out; omega⟩, ⟨qb HB⟩⟩
    ·rw [if_neg c8] at H; exact absurd H (by simp)
   ·rw [if_neg c7] at H; have c7b0 : decide (x8_1 < (l0.length : Int)) = false := decide_eq_false c7; clear c7; simp only [Option.some.injEq, Prod.mk.injEq] at H; obtain ⟨rfl, rfl⟩ := H; go_wp2; go_ret2; exact ⟨eqq, qb HB⟩

/-! ### spec_l06Least: function 34 -/
def spec_l06Least.l0 : Nat → List (S59) → List Int → Int → Option (Int × Int × Int × Int × Int × Bool)
 | 0, _, _, _ => none
 | k + 1, x0, x4, x5 => if x5 ≤ 5 then ((spec_l06Bounds.f k x0 x5).bind fun bt133 => (if bt133.1 > bt133.2 then (some (0, 0, 0, 0, 0, false)) else (if x4.length < 17592186044416 then (spec_l06Least.l0 k x0 (x4 ++ [bt133.1]) (wrap64 (x5 + 1))) else (none)))) else (if 1 < (x4.length : Int) then (if 2 < (x4.length : Int) then (if 3 < (x4.length : Int) then (if 4 < (x4.length : Int) then (if 5 < (x4.length : Int) then (some (rd x4 1, rd x4 2, rd x4 3, rd x4 4, rd x4 5, true)) else (none)) else (none)) else (none)) else (none)) else (none))
def spec_l06Least.f (k : Nat) (l0 : List (S59)) : Option (Int × Int × Int × Int × Int × Bool) := spec_l06Least.l0 k l0 (([0] : List Int)) 1
theorem spec_l06Least.mono_l : ∀ k, (∀ y0 y1 y2, LeO (spec_l06Least.l0 k y0 y1 y2) (spec_l06Least.l0 (k + 1) y0 y1 y2))
 | 0 => fun _ _ _ r h => by simp [spec_l06Least.l0] at h
 | k + 1 => by
  have ih0 := spec_l06Least.mono_l k
  ·intro y0 y1 y2; unfold spec_l06Least.l0
   repeat' first
   | (with_reducible exact ih0 _ _ _)
   | (with_reducible exact spec_l06Bounds.mono _ _ _)
   | (with_reducible exact LeO.refl _)
   | (with_reducible exact LeO.none _)
   | (with_reducible refine LeO.ite ?_ ?_)
   | (with_reducible refine LeO.bind ?_ (fun _ => ?_))
   | exact ih0 _ _ _
   | exact spec_l06Bounds.mono _ _ _
   | exact LeO.none _
   | refine LeO.ite ?_ ?_
   | refine LeO.bind ?_ (fun _ => ?_)
theorem spec_l06Least.mono : ∀ a0 k, LeO (spec_l06Least.f k a0) (spec_l06Least.f (k + 1) a0) := by
 intro a0 k; have ih0 := spec_l06Least.mono_l k; unfold spec_l06Least.f
 repeat' first
   | (with_reducible exact ih0 _ _ _)
   | (with_reducible exact spec_l06Bounds.mono _ _ _)
   | (with_reducible exact LeO.refl _)
   | (with_reducible exact LeO.none _)
   | (with_reducible refine LeO.ite ?_ ?_)
   | (with_reducible refine LeO.bind ?_ (fun _ => ?_))
   | exact ih0 _ _ _
   | exact spec_l06Bounds.mono _ _ _
   | exact LeO.none _
   | refine LeO.ite ?_ ?_
   | refine LeO.bind ?_ (fun _ => ?_)
def spec_l06Least.T9 : Bool × List (List Nat × List Nat) := (true, [([], []), ([0], [0]), ([1], [1]), ([], []), ([3], [3]), ([4], [4]), ([], []), ([6], [6]), ([7], [7]), ([], []), ([9], [9]), ([10], [10]), ([], []), ([12], [12]), ([13], [13]), ([2, 5, 8, 11, 14], [2, 5, 8, 11, 14]), ([15, 0, 1, 2, 3, 4, 5, 6, 7, 8, 9, 10, 11, 12, 13, 14, 15], [15]), ([16, 0, 1, 2, 3, 4, 5, 6, 7, 8, 9, 10, 11, 12, 13, 14, 15, 16], [])])
def spec_l06Least.B9 : List Nat := [0, 1, 3, 0, 8, 24, 0, 64, 192, 0, 512, 1536, 0, 4096, 12288, 32767, 65535, 131071]
theorem spec_l06Least.tab9 : rtab .any (opsOf Try.f34 9) = spec_l06Least.T9 := by kernel_rfl
theorem spec_l06Least.bits9 : waitsOk spec_l06Least.T9.2 spec_l06Least.B9 = true := by kernel_rfl
set_option maxHeartbeats 8000000 in
set_option maxRecDepth 100000 in
theorem spec_l06Least.calls (k : Nat) (A0 : Option Addr) (c0 : Nat) (l0 : List (S59)) (r1 : Int) (r2 : Int) (r3 : Int) (r4 : Int) (r5 : Int) (r6 : Bool) (w : World) (hr0 : Kd.C k59 w A0 l0.length l0) (hc0 : l0.length ≤ c0) (h : spec_l06Least.f k l0 = some (r1, r2, r3, r4, r5, r6)) :
  Calls Try.prog 34 #[.slice A0 l0.length c0] w fun e w' => e = .returned (.tuple #[.agg #[.int .i64 r1, .int .i64 r2, .int .i64 r3, .int .i64 r4, .int .i64 r5], .bool r6]) ∧ Below w.heap.size w w' := by
 have hu27 := Try.underlying27; have HR0 := Aside0.mk hr0; have HC0 := Aside0.mk hc0; clear hr0 hc0; have HB := Aside0.mk (Below.refl w.heap.size w); have H : (spec_l06Least.l0 k l0 (([0] : List Int)) 1) = some (r1, r2, r3, r4, r5, r6) := h; clear h; obtain ⟨y130, hy130⟩ : ∃ y_ : List Int, y_ = (([0] : List Int)) := ⟨_, rfl⟩
 replace H : (spec_l06Least.l0 k l0 y130 1) = some (r1, r2, r3, r4, r5, r6) := by first | (rw [hy130]; with_reducible exact H) | (have H2_ := (Option.bind_some _ _).symm.trans H; rw [hy130]; with_reducible exact H2_) | (have H2_ := (Option.bind_some _ _).symm.trans H; with_reducible exact H2_) | with_reducible exact H | (rw [hy130]; exact H) | exact H
 have Ny130 := Aside0.mk hy130; clear hy130; have H' := Aside0.mk H; clear H; go_enter Try.func34, Try.ntmps34
 go_wp2_with (first | ((with_reducible refine gate_dst (N := 2) rfl ?_); refine box_event ?hg (N := 2) ?hd (cs := #[.int .i64 0, .int .i64 0, .int .i64 0, .int .i64 0, .int .i64 0]) (t := 27) ?hr ?_; (case hd => rfl); (case hg => rfl); (case hr => first | (go_simp; done) | (go_simp; rfl)); intro gb129 hg w2 hbox hb; have n0_ := Aside0.mk (below_step (qb HB) hb); have n1_ := Aside0.mk (hbox); have n2_ := Aside0.mk ((by rw [hg]; exact (below_size (qb HB)) : w.heap.size ≤ gb129)); have n3_ := Aside0.mk ((by rw [hg]; exact (below_size (qb HB)) : w.heap.size ≤ gb129)); clear HB; have HB := n0_; have BK129 := n1_; have GW129 := n2_; have GE129 := n3_; clear n0_ n1_ n2_ n3_; clear hb hbox hg) | ((with_reducible refine gate_dst (N := 8) rfl ?_); refine Kd.R_lit (Kd.int .i64) _ 3 ?hg (N := 8) ?hd (xs := ([0] : List Int)) (inner := [.int .i64 0]) (ok := fun _ => True) (okp := fun _ => True) ?hr ?hp (fun _ hk => hk) trivial (Below.refl _ _) (Nat.le_refl _) (by simp) ?_; (case hd => rfl); (case hg => rfl); (case hr => first | (go_simp; done) | (go_simp; rfl)); (case hp => exact (Reps.one (show Kd.M (Kd.int .i64) _ _ _ 0 [.int .i64 0] from rfl) (Reps.none _ _))); intro v131 w3 ho4 hb hg_ hnew_; clear hg_ hnew_; (first | rw [← Ny130.out] at ho4 | (simp only [Int.reduceToNat] at ho4; rw [← Ny130.out] at ho4)); have n0_ := Aside0.mk (Kd.R_lower ho4 (below_size (qb HB))); have n1_ := Aside0.mk (blk_below (bq BK129) hb); have n2_ := Aside0.mk (below_step (qb HB) hb); clear BK129; clear HB; have HO132 := n0_; have BK129 := n1_; have HB := n2_; clear n0_ n1_ n2_; clear hb ho4))
 go_loopg [4, 5] k (fun kq v4 v5 w' => ∃ (x4_1 : List Int) (x5_1 : Int) (x130000_1 : Int) (x130001_1 : Int) (x130002_1 : Int) (x130003_1 : Int) (x130004_1 : Int), v5 = .int .i64 x5_1 ∧ Aside0 (spec_l06Least.l0 kq l0 x4_1 x5_1 = some (r1, r2, r3, r4, r5, r6)) ∧ Aside0 (kq ≤ k) ∧ Aside0 (Kd.R (Kd.int .i64) 3 w' w.heap.size (fun _ => True) v4 x4_1) ∧ Aside0 (w'.heap[gb129]? = some (.cells #[.int .i64 x130000_1, .int .i64 x130001_1, .int .i64 x130002_1, .int .i64 x130003_1, .int .i64 x130004_1] 27 (0, 0))) ∧ Aside0 (Below w.heap.size w w'))
 case atStart => exact ⟨(y130), (1), (0), (0), (0), (0), (0), (by first | rfl | (simp; done) | (simp [*]; done)), H', ⟨Nat.le_refl _⟩, ⟨by (with_reducible repeat (first | apply Kd.R_alloc | apply Kd.R_drewN | apply Kd.R_drew)); exact HO132.out⟩, ⟨bq BK129⟩, ⟨qb HB⟩⟩
 case round =>
  clear H'; (try clear p2); (try clear c3); obtain ⟨x4_1, x5_1, x130000_1, x130001_1, x130002_1, x130003_1, x130004_1, rfl, HA, HK1, HO_4, BK129, HB⟩ := hrel
  cases gk with
  | zero => exact absurd HA.out (by simp [spec_l06Least.l0])
  | succ k1 =>
   have H := HA.out; clear HA; simp only [spec_l06Least.l0] at H; by_cases c5 : x5_1 ≤ 5
   ·rw [if_pos c5] at H; have c5b0 : decide (x5_1 ≤ 5) = true := decide_eq_true c5; clear c5; replace H := Option.bind_eq_some_iff.mp H; obtain ⟨⟨t133, t134⟩, A60, H⟩ := H; replace H : (if t133 > t134 then (some (0, 0, 0, 0, 0, false)) else (if x4_1.length < 17592186044416 then (spec_l06Least.l0 k1 l0 (x4_1 ++ [t133]) (wrap64 (x5_1 + 1))) else (none))) = some (r1, r2, r3, r4, r5, r6) := H; have A6 := Aside0.mk A60; clear A60; by_cases c7 : t133 > t134
    ·rw [if_pos c7] at H; have c7b0 : decide (t134 < t133) = true := decide_eq_true c7; clear c7; simp only [Option.some.injEq, Prod.mk.injEq] at H; obtain ⟨rfl, rfl, rfl, rfl, rfl, rfl⟩ := H
     go_wp2_with (first | ((with_reducible refine gate_callee (f := 65) rfl ?_); refine goesL_ (some 16) rfl rfl Try.func65 (by kernel_rfl) rfl #[.slice A0 l0.length c0, .int .i64 x5_1] rfl mq ?_; (with_reducible refine (spec_l06Bounds.calls k1 _ _ l0 x5_1 t133 t134 _ ?side1 ?side2 A6.out).mono ?_); (case side1 => repeat (first | exact (Kd.C_below HR0.out HB.out) | (with_reducible refine Kd.C_alloc ?_ _) | (with_reducible refine Kd.C_drewN ?_ _) | (with_reducible refine Kd.C_drew ?_))); (case side2 => exact HC0.out); rintro e w8 ⟨rfl, hb⟩; refine ⟨_, rfl, ?_⟩; have n0_ := Aside0.mk (Kd.R_below (qr HO_4) hb); have n1_ := Aside0.mk (blk_below (bq BK129) hb); have n2_ := Aside0.mk (below_step (qb HB) hb); clear HO_4; clear BK129; clear HB; have HO_4 := n0_; have BK129 := n1_; have HB := n2_; clear n0_ n1_ n2_; (try clear hb); (try clear hb2); (try clear hk); (try clear hi); obtain ⟨hcz9_0, hcz9_1, hcz9_2, hcz9_3, hcz9_4, hfz9_0, hfz9_1, hfz9_2, hfz9_3, hfz9_4⟩ := bz5 BK129))
     refine bodyPost_ret (results_ct rfl _ _ gb129 27 #[.int .i64 0, .int .i64 0, .int .i64 0, .int .i64 0, .int .i64 0] (0, 0) _ rfl (by (with_reducible repeat (first | refine blk_drewN ?_ _ | refine blk_drew ?_ | refine blk_alloc ?_ _)); refine blk_put (cs := #[.int .i64 0, .int .i64 0, .int .i64 0, .int .i64 0, .int .i64 x130004_1]) ?_ 4 _ rfl; (with_reducible repeat (first | refine blk_drewN ?_ _ | refine blk_drew ?_ | refine blk_alloc ?_ _)); refine blk_put (cs := #[.int .i64 0, .int .i64 0, .int .i64 0, .int .i64 x130003_1, .int .i64 x130004_1]) ?_ 3 _ rfl; (with_reducible repeat (first | refine blk_drewN ?_ _ | refine blk_drew ?_ | refine blk_alloc ?_ _)); refine blk_put (cs := #[.int .i64 0, .int .i64 0, .int .i64 x130002_1, .int .i64 x130003_1, .int .i64 x130004_1]) ?_ 2 _ rfl; (with_reducible repeat (first | refine blk_drewN ?_ _ | refine blk_drew ?_ | refine blk_alloc ?_ _)); refine blk_put (cs := #[.int .i64 0, .int .i64 x130001_1, .int .i64 x130002_1, .int .i64 x130003_1, .int .i64 x130004_1]) ?_ 1 _ rfl; (with_reducible repeat (first | refine blk_drewN ?_ _ | refine blk_drew ?_ | refine blk_alloc ?_ _)); refine blk_put (cs := #[.int .i64 x130000_1, .int .i64 x130001_1, .int .i64 x130002_1, .int .i64 x130003_1, .int .i64 x130004_1]) ?_ 0 _ rfl; (with_reducible repeat (first | refine blk_drewN ?_ _ | refine blk_drew ?_ | refine blk_alloc ?_ _)); exact BK129.out) Try.underlying27 rfl (by kernel_rfl)) rfl ?_; exact ⟨eqq, qb HB⟩
    ·rw [if_neg c7] at H; have c7b0 : decide (t134 < t133) = false := decide_eq_false c7; clear c7; by_cases c10 : x4_1.length < 17592186044416
     ·rw [if_pos c10] at H; have LMc10 := Aside0.mk c10; clear c10; obtain ⟨y135, hy135⟩ : ∃ y_ : List Int, y_ = (x4_1 ++ [t133]) := ⟨_, rfl⟩
      replace H : (spec_l06Least.l0 k1 l0 y135 (wrap64 (x5_1 + 1))) = some (r1, r2, r3, r4, r5, r6) := by first | (rw [hy135]; with_reducible exact H) | (have H2_ := (Option.bind_some _ _).symm.trans H; rw [hy135]; with_reducible exact H2_) | (have H2_ := (Option.bind_some _ _).symm.trans H; with_reducible exact H2_) | with_reducible exact H | (rw [hy135]; exact H) | exact H
      have Ny135 := Aside0.mk hy135; clear hy135; have H' := Aside0.mk H; clear H
      go_wp2_with (first | ((with_reducible refine gate_callee (f := 65) rfl ?_); refine goesL_ (some 16) rfl rfl Try.func65 (by kernel_rfl) rfl #[.slice A0 l0.length c0, .int .i64 x5_1] rfl mq ?_; (with_reducible refine (spec_l06Bounds.calls k1 _ _ l0 x5_1 t133 t134 _ ?side1 ?side2 A6.out).mono ?_); (case side1 => repeat (first | exact (Kd.C_below HR0.out HB.out) | (with_reducible refine Kd.C_alloc ?_ _) | (with_reducible refine Kd.C_drewN ?_ _) | (with_reducible refine Kd.C_drew ?_))); (case side2 => exact HC0.out); rintro e w11 ⟨rfl, hb⟩; refine ⟨_, rfl, ?_⟩; have n0_ := Aside0.mk (Kd.R_below (qr HO_4) hb); have n1_ := Aside0.mk (blk_below (bq BK129) hb); have n2_ := Aside0.mk (below_step (qb HB) hb); clear HO_4; clear BK129; clear HB; have HO_4 := n0_; have BK129 := n1_; have HB := n2_; clear n0_ n1_ n2_; (try clear hb); (try clear hb2); (try clear hk); (try clear hi)) | ((with_reducible refine gate_builtin (b := .append) (xs := #[.tmp 23, .tmp 25]) rfl ?_); at_builtin; refine Kd.R_append (Kd.int .i64) (w0 := w) w.heap.size rfl (.tmp 23) (.tmp 25) 37 3 (.int .i64 0) 8 rfl Try.underlying37 info3 rfl (by decide) (by omega) u4 x4_1 t133 [.int .i64 t133] (fun _ => True) (fun _ => False) rfl rfl ?aP (fun _ hk => hk.elim) ?aF ?aO ?aB ?aS ?aL ?_; (case aP => exact rfl); (case aB => exact (qb HB)); (case aF => exact (fun _ _ => trivial)); (case aO => exact (qr HO_4)); (case aS => exact (below_size (qb HB))); (case aL => have := LMc10.out; omega); intro v136 w12 ho hb hg hat; rw [← Ny135.out] at ho; have n0_ := Aside0.mk (blk_grown (bq BK129) hg (Kd.R_ne HO_4.out BK129.out (by decide))); have n1_ := Aside0.mk (hb); have n2_ := Aside0.mk (ho); clear BK129; clear HB; clear HO_4; have BK129 := n0_; have HB := n1_; have HO137 := n2_; clear n0_ n1_ n2_; clear ho hb hg hat))
      go_roundg k1
      case measure => have := HK1.out; omega
      case rel => exact ⟨(y135), (wrap64 (x5_1 + 1)), (x130000_1), (x130001_1), (x130002_1), (x130003_1), (x130004_1), (by first | rfl | (simp; done) | (simp [*]; done)), H', ⟨by have := HK1.out; omega⟩, ⟨by (with_reducible repeat (first | apply Kd.R_alloc | apply Kd.R_drewN | apply Kd.R_drew)); exact HO137.out⟩, ⟨bq BK129⟩, ⟨qb HB⟩⟩
     ·rw [if_neg c10] at H; exact absurd H (by simp)
   ·rw [if_neg c5] at H; have c5b0 : decide (x5_1 ≤ 5) = false := decide_eq_false c5; clear c5; by_cases c13 : 1 < (x4_1.length : Int)
    ·rw [if_pos c13] at H; have c13b0 : decide (1 < (x4_1.length : Int)) = true := decide_eq_true c13; have c13b1 : decide (1 < x4_1.length) = true := decide_eq_true (by omega); clear c13; by_cases c14 : 2 < (x4_1.length : Int)
     ·rw [if_pos c14] at H; have c14b0 : decide (2 < (x4_1.length : Int)) = true := decide_eq_true c14; have c14b1 : decide (2 < x4_1.length) = true := decide_eq_true (by omega); clear c14; by_cases c15 : 3 < (x4_1.length : Int)
      ·rw [if_pos c15] at H; have c15b0 : decide (3 < (x4_1.length : Int)) = true := decide_eq_true c15; have c15b1 : decide (3 < x4_1.length) = true := decide_eq_true (by omega); clear c15; by_cases c16 : 4 < (x4_1.length : Int)
       ·rw [if_pos c16] at H; have c16b0 : decide (4 < (x4_1.length : Int)) = true := decide_eq_true c16; have c16b1 : decide (4 < x4_1.length) = true := decide_eq_true (by omega); clear c16; by_cases c17 : 5 < (x4_1.length : Int)
        ·rw [if_pos c17] at H; have c17b0 : decide (5 < (x4_1.length : Int)) = true := decide_eq_true c17; have c17b1 : decide (5 < x4_1.length) = true := decide_eq_true (by omega); clear c17; simp only [Option.some.injEq, Prod.mk.injEq] at H; obtain ⟨rfl, rfl, rfl, rfl, rfl, rfl⟩ := H
         try go_wp2
         have n0_ := Aside0.mk (Kd.R_drew HO_4.out); have n1_ := Aside0.mk (blk_drew BK129.out); have n2_ := Aside0.mk (below_drew1 HB.out); clear HO_4; clear BK129; clear HB; have HO_4 := n0_; have BK129 := n1_; have HB := n2_; clear n0_ n1_ n2_; obtain ⟨Ao19, co19, eo19⟩ := Kd.R_slice HO_4.out
         (first | subst eo19 | (injection eo19 with f1_ f2_ f3_; have f4_ := f1_.symm; have f5_ := f3_.symm; clear f1_ f2_ f3_; subst f4_; subst f5_))
         have p138 : 0 ≤ (1 : Int) := (by omega); have q138 : 1 < (x4_1.length : Int) := of_decide_eq_true (by first | (with_reducible assumption) | assumption); obtain ⟨ad138, e138, hx138_0⟩ := Kd.at_int (Kd.R_reads' HO_4.out).2.2 1 p138 q138
         cases e138
         (try simp only [show (1 : Int).toNat = 1 from rfl, Nat.reduceMul, Nat.reduceEqDiff, Go.Addr.add, ↓reduceIte] at hx138_0)
         have qi138 : (1 < x4_1.length) = True := eq_true (by omega)
         (try rw [show ((1 : Int)).toNat = 1 from rfl] at hx138_0)
         replace p138 := eq_true p138; replace q138 := eq_true q138; have p139 : 0 ≤ (2 : Int) := (by omega); have q139 : 2 < (x4_1.length : Int) := of_decide_eq_true (by first | (with_reducible assumption) | assumption); obtain ⟨ad139, e139, hx139_0⟩ := Kd.at_int (Kd.R_reads' HO_4.out).2.2 2 p139 q139; obtain rfl : ad138 = ad139 := (by injection e139)
         (try simp only [show (2 : Int).toNat = 2 from rfl, Nat.reduceMul, Nat.reduceEqDiff, Go.Addr.add, ↓reduceIte] at hx139_0)
         have qi139 : (2 < x4_1.length) = True := eq_true (by omega)
         (try rw [show ((2 : Int)).toNat = 2 from rfl] at hx139_0)
         replace p139 := eq_true p139; replace q139 := eq_true q139; have p140 : 0 ≤ (3 : Int) := (by omega); have q140 : 3 < (x4_1.length : Int) := of_decide_eq_true (by first | (with_reducible assumption) | assumption); obtain ⟨ad140, e140, hx140_0⟩ := Kd.at_int (Kd.R_reads' HO_4.out).2.2 3 p140 q140; obtain rfl : ad138 = ad140 := (by injection e140)
         (try simp only [show (3 : Int).toNat = 3 from rfl, Nat.reduceMul, Nat.reduceEqDiff, Go.Addr.add, ↓reduceIte] at hx140_0)
         have qi140 : (3 < x4_1.length) = True := eq_true (by omega)
         (try rw [show ((3 : Int)).toNat = 3 from rfl] at hx140_0)
         replace p140 := eq_true p140; replace q140 := eq_true q140; have p141 : 0 ≤ (4 : Int) := (by omega); have q141 : 4 < (x4_1.length : Int) := of_decide_eq_true (by first | (with_reducible assumption) | assumption); obtain ⟨ad141, e141, hx141_0⟩ := Kd.at_int (Kd.R_reads' HO_4.out).2.2 4 p141 q141; obtain rfl : ad138 = ad141 := (by injection e141)
         (try simp only [show (4 : Int).toNat = 4 from rfl, Nat.reduceMul, Nat.reduceEqDiff, Go.Addr.add, ↓reduceIte] at hx141_0)
         have qi141 : (4 < x4_1.length) = True := eq_true (by omega)
         (try rw [show ((4 : Int)).toNat = 4 from rfl] at hx141_0)
         replace p141 := eq_true p141; replace q141 := eq_true q141; have p142 : 0 ≤ (5 : Int) := (by omega); have q142 : 5 < (x4_1.length : Int) := of_decide_eq_true (by first | (with_reducible assumption) | assumption); obtain ⟨ad142, e142, hx142_0⟩ := Kd.at_int (Kd.R_reads' HO_4.out).2.2 5 p142 q142; obtain rfl : ad138 = ad142 := (by injection e142)
         (try simp only [show (5 : Int).toNat = 5 from rfl, Nat.reduceMul, Nat.reduceEqDiff, Go.Addr.add, ↓reduceIte] at hx142_0)
         have qi142 : (5 < x4_1.length) = True := eq_true (by omega)
         (try rw [show ((5 : Int)).toNat = 5 from rfl] at hx142_0)
         replace p142 := eq_true p142; replace q142 := eq_true q142; refine start_ (n := 18) (S := fun w' => w'.cell? ⟨ad138.block, ad138.off + 1, none⟩ = some (.int .i64 (rd x4_1 1)) ∧ w'.cell? ⟨ad138.block, ad138.off + 2, none⟩ = some (.int .i64 (rd x4_1 2)) ∧ w'.cell? ⟨ad138.block, ad138.off + 3, none⟩ = some (.int .i64 (rd x4_1 3)) ∧ w'.cell? ⟨ad138.block, ad138.off + 4, none⟩ = some (.int .i64 (rd x4_1 4)) ∧ w'.cell? ⟨ad138.block, ad138.off + 5, none⟩ = some (.int .i64 (rd x4_1 5))) (ds := []) #[false, false, false, false, false, false, false, false, false, false, false, false, false, false, false, false, false, false] (by kernel_rfl) rfl rfl ⟨hx138_0, hx139_0, hx140_0, hx141_0, hx142_0⟩ (fun hHeld => ?_); refine with_tabW spec_l06Least.tab9 spec_l06Least.bits9 (fun HT_ HW_ => ?_); generalize wr.drew = w18 at HO_4 BK129 HB hx138_0 hx139_0 hx140_0 hx141_0 hx142_0 hHeld ⊢; refine pure_ (i := 0) (N := some 27) (v := ?_) (a' := ?_) #[true, false, false, false, false, false, false, false, false, false, false, false, false, false, false, false, false, false] rfl rfl (any_of HT_.out (by kernel_rfl)) (fun _ _ _ h => h) (Or.inl ⟨by rfl, ?_⟩) ?_ ?_; rotate_left
         ·intro w'; go_simp; (with_reducible rfl)
         rotate_left
         ·simp only [Act.put, sA, s0, sS, i64_w, i32_w]; rfl
         refine pure_ (i := 1) (N := some 28) (v := ?_) (a' := ?_) #[true, true, false, false, false, false, false, false, false, false, false, false, false, false, false, false, false, false] rfl rfl (any_of HT_.out (by kernel_rfl)) (fun _ _ _ h => h) (Or.inl ⟨by rfl, ?_⟩) ?_ ?_; rotate_left
         ·intro w'; go_simp; (with_reducible rfl)
         rotate_left
         ·simp only [Act.put, sA, s0, sS, i64_w, i32_w]; rfl
         refine pure_ (i := 3) (N := some 30) (v := ?_) (a' := ?_) #[true, true, false, true, false, false, false, false, false, false, false, false, false, false, false, false, false, false] rfl rfl (any_of HT_.out (by kernel_rfl)) (fun _ _ _ h => h) (Or.inl ⟨by rfl, ?_⟩) ?_ ?_; rotate_left
         ·intro w'; go_simp; (with_reducible rfl)
         rotate_left
         ·simp only [Act.put, sA, s0, sS, i64_w, i32_w]; rfl
         refine pure_ (i := 4) (N := some 31) (v := ?_) (a' := ?_) #[true, true, false, true, true, false, false, false, false, false, false, false, false, false, false, false, false, false] rfl rfl (any_of HT_.out (by kernel_rfl)) (fun _ _ _ h => h) (Or.inl ⟨by rfl, ?_⟩) ?_ ?_; rotate_left
         ·intro w'; go_simp; (with_reducible rfl)
         rotate_left
         ·simp only [Act.put, sA, s0, sS, i64_w, i32_w]; rfl
         refine pure_ (i := 6) (N := some 33) (v := ?_) (a' := ?_) #[true, true, false, true, true, false, true, false, false, false, false, false, false, false, false, false, false, false] rfl rfl (any_of HT_.out (by kernel_rfl)) (fun _ _ _ h => h) (Or.inl ⟨by rfl, ?_⟩) ?_ ?_; rotate_left
         ·intro w'; go_simp; (with_reducible rfl)
         rotate_left
         ·simp only [Act.put, sA, s0, sS, i64_w, i32_w]; rfl
         refine pure_ (i := 7) (N := some 34) (v := ?_) (a' := ?_) #[true, true, false, true, true, false, true, true, false, false, false, false, false, false, false, false, false, false] rfl rfl (any_of HT_.out (by kernel_rfl)) (fun _ _ _ h => h) (Or.inl ⟨by rfl, ?_⟩) ?_ ?_; rotate_left
         ·intro w'; go_simp; (with_reducible rfl)
         rotate_left
         ·simp only [Act.put, sA, s0, sS, i64_w, i32_w]; rfl
         refine pure_ (i := 9) (N := some 36) (v := ?_) (a' := ?_) #[true, true, false, true, true, false, true, true, false, true, false, false, false, false, false, false, false, false] rfl rfl (any_of HT_.out (by kernel_rfl)) (fun _ _ _ h => h) (Or.inl ⟨by rfl, ?_⟩) ?_ ?_; rotate_left
         ·intro w'; go_simp; (with_reducible rfl)
         rotate_left
         ·simp only [Act.put, sA, s0, sS, i64_w, i32_w]; rfl
         refine pure_ (i := 10) (N := some 37) (v := ?_) (a' := ?_) #[true, true, false, true, true, false, true, true, false, true, true, false, false, false, false, false, false, false] rfl rfl (any_of HT_.out (by kernel_rfl)) (fun _ _ _ h => h) (Or.inl ⟨by rfl, ?_⟩) ?_ ?_; rotate_left
         ·intro w'; go_simp; (with_reducible rfl)
         rotate_left
         ·simp only [Act.put, sA, s0, sS, i64_w, i32_w]; rfl
         refine pure_ (i := 12) (N := some 39) (v := ?_) (a' := ?_) #[true, true, false, true, true, false, true, true, false, true, true, false, true, false, false, false, false, false] rfl rfl (any_of HT_.out (by kernel_rfl)) (fun _ _ _ h => h) (Or.inl ⟨by rfl, ?_⟩) ?_ ?_; rotate_left
         ·intro w'; go_simp; (with_reducible rfl)
         rotate_left
         ·simp only [Act.put, sA, s0, sS, i64_w, i32_w]; rfl
         refine pure_ (i := 13) (N := some 40) (v := ?_) (a' := ?_) #[true, true, false, true, true, false, true, true, false, true, true, false, true, true, false, false, false, false] rfl rfl (any_of HT_.out (by kernel_rfl)) (fun _ _ _ h => h) (Or.inl ⟨by rfl, ?_⟩) ?_ ?_; rotate_left
         ·intro w'; go_simp; (with_reducible rfl)
         rotate_left
         ·simp only [Act.put, sA, s0, sS, i64_w, i32_w]; rfl
         refine take_ (i := 2) (N := some 29) (v := ?_) (a' := ?_) #[true, true, true, true, true, false, true, true, false, true, true, false, true, true, false, false, false, false] rfl rfl (take_ofW HT_.out HW_.out (by kernel_rfl)) (fun _ _ _ h => h) (Or.inl ⟨by rfl, ?_⟩) hHeld ?_ ?_; rotate_left
         ·rintro w' ⟨s0, s1, s2, s3, s4⟩; go_simp; (with_reducible rfl)
         rotate_left
         ·simp only [Act.put, sA, s0, sS, i64_w, i32_w]; rfl
         refine take_ (i := 5) (N := some 32) (v := ?_) (a' := ?_) #[true, true, true, true, true, true, true, true, false, true, true, false, true, true, false, false, false, false] rfl rfl (take_ofW HT_.out HW_.out (by kernel_rfl)) (fun _ _ _ h => h) (Or.inl ⟨by rfl, ?_⟩) hHeld ?_ ?_; rotate_left
         ·rintro w' ⟨s0, s1, s2, s3, s4⟩; go_simp; (with_reducible rfl)
         rotate_left
         ·simp only [Act.put, sA, s0, sS, i64_w, i32_w]; rfl
         refine take_ (i := 8) (N := some 35) (v := ?_) (a' := ?_) #[true, true, true, true, true, true, true, true, true, true, true, false, true, true, false, false, false, false] rfl rfl (take_ofW HT_.out HW_.out (by kernel_rfl)) (fun _ _ _ h => h) (Or.inl ⟨by rfl, ?_⟩) hHeld ?_ ?_; rotate_left
         ·rintro w' ⟨s0, s1, s2, s3, s4⟩; go_simp; (with_reducible rfl)
         rotate_left
         ·simp only [Act.put, sA, s0, sS, i64_w, i32_w]; rfl
         refine take_ (i := 11) (N := some 38) (v := ?_) (a' := ?_) #[true, true, true, true, true, true, true, true, true, true, true, true, true, true, false, false, false, false] rfl rfl (take_ofW HT_.out HW_.out (by kernel_rfl)) (fun _ _ _ h => h) (Or.inl ⟨by rfl, ?_⟩) hHeld ?_ ?_; rotate_left
         ·rintro w' ⟨s0, s1, s2, s3, s4⟩; go_simp; (with_reducible rfl)
         rotate_left
         ·simp only [Act.put, sA, s0, sS, i64_w, i32_w]; rfl
         refine take_ (i := 14) (N := some 41) (v := ?_) (a' := ?_) #[true, true, true, true, true, true, true, true, true, true, true, true, true, true, true, false, false, false] rfl rfl (take_ofW HT_.out HW_.out (by kernel_rfl)) (fun _ _ _ h => h) (Or.inl ⟨by rfl, ?_⟩) hHeld ?_ ?_; rotate_left
         ·rintro w' ⟨s0, s1, s2, s3, s4⟩; go_simp; (with_reducible rfl)
         rotate_left
         ·simp only [Act.put, sA, s0, sS, i64_w, i32_w]; rfl
         refine pure_ (i := 15) (N := some 42) (v := ?_) (a' := ?_) #[true, true, true, true, true, true, true, true, true, true, true, true, true, true, true, true, false, false] rfl rfl (any_of HT_.out (by kernel_rfl)) (fun _ _ _ h => h) (Or.inl ⟨by rfl, ?_⟩) ?_ ?_; rotate_left
         ·intro w'; go_simp; (with_reducible rfl)
         rotate_left
         ·simp only [Act.put, sA, s0, sS, i64_w, i32_w]; rfl
         refine one_ (i := 16) (N := none) #[true, true, true, true, true, true, true, true, true, true, true, true, true, true, true, true, true, false] rfl rfl (one_of HT_.out (by kernel_rfl)) (by decide) (fun K hK => ?_); have hs20 : w18.cell? ⟨gb129, 0, none⟩ = some (.int .i64 x130000_1) := (blk_cell BK129.out 0).trans rfl; have hfs20 := blk_frozen BK129.out 0; have hs21 : w18.cell? ⟨gb129, 1, none⟩ = some (.int .i64 x130001_1) := (blk_cell BK129.out 1).trans rfl; have hfs21 := blk_frozen BK129.out 1; have hs22 : w18.cell? ⟨gb129, 2, none⟩ = some (.int .i64 x130002_1) := (blk_cell BK129.out 2).trans rfl; have hfs22 := blk_frozen BK129.out 2; have hs23 : w18.cell? ⟨gb129, 3, none⟩ = some (.int .i64 x130003_1) := (blk_cell BK129.out 3).trans rfl; have hfs23 := blk_frozen BK129.out 3; have hs24 : w18.cell? ⟨gb129, 4, none⟩ = some (.int .i64 x130004_1) := (blk_cell BK129.out 4).trans rfl; have hfs24 := blk_frozen BK129.out 4; refine skip_ (w1 := ?_) (by rfl) rfl ?_ ?_; rotate_left
         ·go_simp; rfl
         refine hK.out _ _ ⟨((cell_far (p := ⟨gb129, _, none⟩) (by first | exact Kd.own_blk (Kd.R_ne HO_4.out BK129.out (by decide)) | (rw [add_block]; exact Kd.own_blk (Kd.R_ne HO_4.out BK129.out (by decide))) | (show (Addr.add _ _).block ≠ _; rw [add_block]; exact Kd.own_blk (Kd.R_ne HO_4.out BK129.out (by decide))) | (dsimp only; exact Kd.own_blk (Kd.R_ne HO_4.out BK129.out (by decide)))) _).trans (((cell_far (p := ⟨gb129, _, none⟩) (by first | exact Kd.own_blk (Kd.R_ne HO_4.out BK129.out (by decide)) | (rw [add_block]; exact Kd.own_blk (Kd.R_ne HO_4.out BK129.out (by decide))) | (show (Addr.add _ _).block ≠ _; rw [add_block]; exact Kd.own_blk (Kd.R_ne HO_4.out BK129.out (by decide))) | (dsimp only; exact Kd.own_blk (Kd.R_ne HO_4.out BK129.out (by decide)))) _).trans (((cell_far (p := ⟨gb129, _, none⟩) (by first | exact Kd.own_blk (Kd.R_ne HO_4.out BK129.out (by decide)) | (rw [add_block]; exact Kd.own_blk (Kd.R_ne HO_4.out BK129.out (by decide))) | (show (Addr.add _ _).block ≠ _; rw [add_block]; exact Kd.own_blk (Kd.R_ne HO_4.out BK129.out (by decide))) | (dsimp only; exact Kd.own_blk (Kd.R_ne HO_4.out BK129.out (by decide)))) _).trans (((cell_far (p := ⟨gb129, _, none⟩) (by first | exact Kd.own_blk (Kd.R_ne HO_4.out BK129.out (by decide)) | (rw [add_block]; exact Kd.own_blk (Kd.R_ne HO_4.out BK129.out (by decide))) | (show (Addr.add _ _).block ≠ _; rw [add_block]; exact Kd.own_blk (Kd.R_ne HO_4.out BK129.out (by decide))) | (dsimp only; exact Kd.own_blk (Kd.R_ne HO_4.out BK129.out (by decide)))) _).trans (((cell_far (p := ⟨gb129, _, none⟩) (by first | exact Kd.own_blk (Kd.R_ne HO_4.out BK129.out (by decide)) | (rw [add_block]; exact Kd.own_blk (Kd.R_ne HO_4.out BK129.out (by decide))) | (show (Addr.add _ _).block ≠ _; rw [add_block]; exact Kd.own_blk (Kd.R_ne HO_4.out BK129.out (by decide))) | (dsimp only; exact Kd.own_blk (Kd.R_ne HO_4.out BK129.out (by decide)))) _).trans (hHeld.1)))))))))), ((cell_far (p := ⟨gb129, _, none⟩) (by first | exact Kd.own_blk (Kd.R_ne HO_4.out BK129.out (by decide)) | (rw [add_block]; exact Kd.own_blk (Kd.R_ne HO_4.out BK129.out (by decide))) | (show (Addr.add _ _).block ≠ _; rw [add_block]; exact Kd.own_blk (Kd.R_ne HO_4.out BK129.out (by decide))) | (dsimp only; exact Kd.own_blk (Kd.R_ne HO_4.out BK129.out (by decide)))) _).trans (((cell_far (p := ⟨gb129, _, none⟩) (by first | exact Kd.own_blk (Kd.R_ne HO_4.out BK129.out (by decide)) | (rw [add_block]; exact Kd.own_blk (Kd.R_ne HO_4.out BK129.out (by decide))) | (show (Addr.add _ _).block ≠ _; rw [add_block]; exact Kd.own_blk (Kd.R_ne HO_4.out BK129.out (by decide))) | (dsimp only; exact Kd.own_blk (Kd.R_ne HO_4.out BK129.out (by decide)))) _).trans (((cell_far (p := ⟨gb129, _, none⟩) (by first | exact Kd.own_blk (Kd.R_ne HO_4.out BK129.out (by decide)) | (rw [add_block]; exact Kd.own_blk (Kd.R_ne HO_4.out BK129.out (by decide))) | (show (Addr.add _ _).block ≠ _; rw [add_block]; exact Kd.own_blk (Kd.R_ne HO_4.out BK129.out (by decide))) | (dsimp only; exact Kd.own_blk (Kd.R_ne HO_4.out BK129.out (by decide)))) _).trans (((cell_far (p := ⟨gb129, _, none⟩) (by first | exact Kd.own_blk (Kd.R_ne HO_4.out BK129.out (by decide)) | (rw [add_block]; exact Kd.own_blk (Kd.R_ne HO_4.out BK129.out (by decide))) | (show (Addr.add _ _).block ≠ _; rw [add_block]; exact Kd.own_blk (Kd.R_ne HO_4.out BK129.out (by decide))) | (dsimp only; exact Kd.own_blk (Kd.R_ne HO_4.out BK129.out (by decide)))) _).trans (((cell_far (p := ⟨gb129, _, none⟩) (by first | exact Kd.own_blk (Kd.R_ne HO_4.out BK129.out (by decide)) | (rw [add_block]; exact Kd.own_blk (Kd.R_ne HO_4.out BK129.out (by decide))) | (show (Addr.add _ _).block ≠ _; rw [add_block]; exact Kd.own_blk (Kd.R_ne HO_4.out BK129.out (by decide))) | (dsimp only; exact Kd.own_blk (Kd.R_ne HO_4.out BK129.out (by decide)))) _).trans (hHeld.2.1)))))))))), ((cell_far (p := ⟨gb129, _, none⟩) (by first | exact Kd.own_blk (Kd.R_ne HO_4.out BK129.out (by decide)) | (rw [add_block]; exact Kd.own_blk (Kd.R_ne HO_4.out BK129.out (by decide))) | (show (Addr.add _ _).block ≠ _; rw [add_block]; exact Kd.own_blk (Kd.R_ne HO_4.out BK129.out (by decide))) | (dsimp only; exact Kd.own_blk (Kd.R_ne HO_4.out BK129.out (by decide)))) _).trans (((cell_far (p := ⟨gb129, _, none⟩) (by first | exact Kd.own_blk (Kd.R_ne HO_4.out BK129.out (by decide)) | (rw [add_block]; exact Kd.own_blk (Kd.R_ne HO_4.out BK129.out (by decide))) | (show (Addr.add _ _).block ≠ _; rw [add_block]; exact Kd.own_blk (Kd.R_ne HO_4.out BK129.out (by decide))) | (dsimp only; exact Kd.own_blk (Kd.R_ne HO_4.out BK129.out (by decide)))) _).trans (((cell_far (p := ⟨gb129, _, none⟩) (by first | exact Kd.own_blk (Kd.R_ne HO_4.out BK129.out (by decide)) | (rw [add_block]; exact Kd.own_blk (Kd.R_ne HO_4.out BK129.out (by decide))) | (show (Addr.add _ _).block ≠ _; rw [add_block]; exact Kd.own_blk (Kd.R_ne HO_4.out BK129.out (by decide))) | (dsimp only; exact Kd.own_blk (Kd.R_ne HO_4.out BK129.out (by decide)))) _).trans (((cell_far (p := ⟨gb129, _, none⟩) (by first | exact Kd.own_blk (Kd.R_ne HO_4.out BK129.out (by decide)) | (rw [add_block]; exact Kd.own_blk (Kd.R_ne HO_4.out BK129.out (by decide))) | (show (Addr.add _ _).block ≠ _; rw [add_block]; exact Kd.own_blk (Kd.R_ne HO_4.out BK129.out (by decide))) | (dsimp only; exact Kd.own_blk (Kd.R_ne HO_4.out BK129.out (by decide)))) _).trans (((cell_far (p := ⟨gb129, _, none⟩) (by first | exact Kd.own_blk (Kd.R_ne HO_4.out BK129.out (by decide)) | (rw [add_block]; exact Kd.own_blk (Kd.R_ne HO_4.out BK129.out (by decide))) | (show (Addr.add _ _).block ≠ _; rw [add_block]; exact Kd.own_blk (Kd.R_ne HO_4.out BK129.out (by decide))) | (dsimp only; exact Kd.own_blk (Kd.R_ne HO_4.out BK129.out (by decide)))) _).trans (hHeld.2.2.1)))))))))), ((cell_far (p := ⟨gb129, _, none⟩) (by first | exact Kd.own_blk (Kd.R_ne HO_4.out BK129.out (by decide)) | (rw [add_block]; exact Kd.own_blk (Kd.R_ne HO_4.out BK129.out (by decide))) | (show (Addr.add _ _).block ≠ _; rw [add_block]; exact Kd.own_blk (Kd.R_ne HO_4.out BK129.out (by decide))) | (dsimp only; exact Kd.own_blk (Kd.R_ne HO_4.out BK129.out (by decide)))) _).trans (((cell_far (p := ⟨gb129, _, none⟩) (by first | exact Kd.own_blk (Kd.R_ne HO_4.out BK129.out (by decide)) | (rw [add_block]; exact Kd.own_blk (Kd.R_ne HO_4.out BK129.out (by decide))) | (show (Addr.add _ _).block ≠ _; rw [add_block]; exact Kd.own_blk (Kd.R_ne HO_4.out BK129.out (by decide))) | (dsimp only; exact Kd.own_blk (Kd.R_ne HO_4.out BK129.out (by decide)))) _).trans (((cell_far (p := ⟨gb129, _, none⟩) (by first | exact Kd.own_blk (Kd.R_ne HO_4.out BK129.out (by decide)) | (rw [add_block]; exact Kd.own_blk (Kd.R_ne HO_4.out BK129.out (by decide))) | (show (Addr.add _ _).block ≠ _; rw [add_block]; exact Kd.own_blk (Kd.R_ne HO_4.out BK129.out (by decide))) | (dsimp only; exact Kd.own_blk (Kd.R_ne HO_4.out BK129.out (by decide)))) _).trans (((cell_far (p := ⟨gb129, _, none⟩) (by first | exact Kd.own_blk (Kd.R_ne HO_4.out BK129.out (by decide)) | (rw [add_block]; exact Kd.own_blk (Kd.R_ne HO_4.out BK129.out (by decide))) | (show (Addr.add _ _).block ≠ _; rw [add_block]; exact Kd.own_blk (Kd.R_ne HO_4.out BK129.out (by decide))) | (dsimp only; exact Kd.own_blk (Kd.R_ne HO_4.out BK129.out (by decide)))) _).trans (((cell_far (p := ⟨gb129, _, none⟩) (by first | exact Kd.own_blk (Kd.R_ne HO_4.out BK129.out (by decide)) | (rw [add_block]; exact Kd.own_blk (Kd.R_ne HO_4.out BK129.out (by decide))) | (show (Addr.add _ _).block ≠ _; rw [add_block]; exact Kd.own_blk (Kd.R_ne HO_4.out BK129.out (by decide))) | (dsimp only; exact Kd.own_blk (Kd.R_ne HO_4.out BK129.out (by decide)))) _).trans (hHeld.2.2.2.1)))))))))), ((cell_far (p := ⟨gb129, _, none⟩) (by first | exact Kd.own_blk (Kd.R_ne HO_4.out BK129.out (by decide)) | (rw [add_block]; exact Kd.own_blk (Kd.R_ne HO_4.out BK129.out (by decide))) | (show (Addr.add _ _).block ≠ _; rw [add_block]; exact Kd.own_blk (Kd.R_ne HO_4.out BK129.out (by decide))) | (dsimp only; exact Kd.own_blk (Kd.R_ne HO_4.out BK129.out (by decide)))) _).trans (((cell_far (p := ⟨gb129, _, none⟩) (by first | exact Kd.own_blk (Kd.R_ne HO_4.out BK129.out (by decide)) | (rw [add_block]; exact Kd.own_blk (Kd.R_ne HO_4.out BK129.out (by decide))) | (show (Addr.add _ _).block ≠ _; rw [add_block]; exact Kd.own_blk (Kd.R_ne HO_4.out BK129.out (by decide))) | (dsimp only; exact Kd.own_blk (Kd.R_ne HO_4.out BK129.out (by decide)))) _).trans (((cell_far (p := ⟨gb129, _, none⟩) (by first | exact Kd.own_blk (Kd.R_ne HO_4.out BK129.out (by decide)) | (rw [add_block]; exact Kd.own_blk (Kd.R_ne HO_4.out BK129.out (by decide))) | (show (Addr.add _ _).block ≠ _; rw [add_block]; exact Kd.own_blk (Kd.R_ne HO_4.out BK129.out (by decide))) | (dsimp only; exact Kd.own_blk (Kd.R_ne HO_4.out BK129.out (by decide)))) _).trans (((cell_far (p := ⟨gb129, _, none⟩) (by first | exact Kd.own_blk (Kd.R_ne HO_4.out BK129.out (by decide)) | (rw [add_block]; exact Kd.own_blk (Kd.R_ne HO_4.out BK129.out (by decide))) | (show (Addr.add _ _).block ≠ _; rw [add_block]; exact Kd.own_blk (Kd.R_ne HO_4.out BK129.out (by decide))) | (dsimp only; exact Kd.own_blk (Kd.R_ne HO_4.out BK129.out (by decide)))) _).trans (((cell_far (p := ⟨gb129, _, none⟩) (by first | exact Kd.own_blk (Kd.R_ne HO_4.out BK129.out (by decide)) | (rw [add_block]; exact Kd.own_blk (Kd.R_ne HO_4.out BK129.out (by decide))) | (show (Addr.add _ _).block ≠ _; rw [add_block]; exact Kd.own_blk (Kd.R_ne HO_4.out BK129.out (by decide))) | (dsimp only; exact Kd.own_blk (Kd.R_ne HO_4.out BK129.out (by decide)))) _).trans (hHeld.2.2.2.2))))))))))⟩ (fun hHeld => ?_); clear hK K; refine pure_ (i := 17) (N := some 3) (v := ?_) (a' := ?_) #[true, true, true, true, true, true, true, true, true, true, true, true, true, true, true, true, true, true] rfl rfl (any_of HT_.out (by kernel_rfl)) (fun _ _ _ h => h) (Or.inl ⟨by rfl, ?_⟩) ?_ ?_; rotate_left
         ·intro w'; go_simp; (with_reducible rfl)
         rotate_left
         ·simp only [Act.put, sA, s0, sS, i64_w, i32_w]; rfl
         refine done_ (done_of HT_.out (by kernel_rfl)) ?_
         try go_wp2
         refine bodyPost_ret (results_ct rfl _ _ gb129 27 #[.int .i64 (rd x4_1 1), .int .i64 (rd x4_1 2), .int .i64 (rd x4_1 3), .int .i64 (rd x4_1 4), .int .i64 (rd x4_1 5)] (0, 0) _ rfl (by (with_reducible repeat (first | refine blk_drewN ?_ _ | refine blk_drew ?_ | refine blk_alloc ?_ _)); refine blk_put (cs := #[.int .i64 (rd x4_1 1), .int .i64 (rd x4_1 2), .int .i64 (rd x4_1 3), .int .i64 (rd x4_1 4), .int .i64 x130004_1]) ?_ 4 _ rfl; (with_reducible repeat (first | refine blk_drewN ?_ _ | refine blk_drew ?_ | refine blk_alloc ?_ _)); refine blk_put (cs := #[.int .i64 (rd x4_1 1), .int .i64 (rd x4_1 2), .int .i64 (rd x4_1 3), .int .i64 x130003_1, .int .i64 x130004_1]) ?_ 3 _ rfl; (with_reducible repeat (first | refine blk_drewN ?_ _ | refine blk_drew ?_ | refine blk_alloc ?_ _)); refine blk_put (cs := #[.int .i64 (rd x4_1 1), .int .i64 (rd x4_1 2), .int .i64 x130002_1, .int .i64 x130003_1, .int .i64 x130004_1]) ?_ 2 _ rfl; (with_reducible repeat (first | refine blk_drewN ?_ _ | refine blk_drew ?_ | refine blk_alloc ?_ _)); refine blk_put (cs := #[.int .i64 (rd x4_1 1), .int .i64 x130001_1, .int .i64 x130002_1, .int .i64 x130003_1, .int .i64 x130004_1]) ?_ 1 _ rfl; (with_reducible repeat (first | refine blk_drewN ?_ _ | refine blk_drew ?_ | refine blk_alloc ?_ _)); refine blk_put (cs := #[.int .i64 x130000_1, .int .i64 x130001_1, .int .i64 x130002_1, .int .i64 x130003_1, .int .i64 x130004_1]) ?_ 0 _ rfl; (with_reducible repeat (first | refine blk_drewN ?_ _ | refine blk_drew ?_ | refine blk_alloc ?_ _)); exact BK129.out) Try.underlying27 rfl (by kernel_rfl)) rfl ?_; exact ⟨eqq, qb HB⟩
        ·rw [if_neg c17] at H; exact absurd H (by simp)
       ·rw [if_neg c16] at H; exact absurd H (by simp)
      ·rw [if_neg c15] at H; exact absurd H (by simp)
     ·rw [if_neg c14] at H; exact absurd H (by simp)
    ·rw [if_neg c13] at H; exact absurd H (by simp)

end Go.Proofs.Ytaablbglkfpbpaa.PAll
