-- Written by wip/tools/hp.py over the kit's print (not by hand): functions and walks of All.
import Derived.Test.YtaablbglkfpbpaaPAllx0
import Derived.Test.YtaablbglkfpbpaaPAllx3
namespace Go.Proofs.Ytaablbglkfpbpaa.PAll
open Go.RowKit Go.Proofs.YtaablbglkfpbpaaW.PrintWords Go.Proofs.YtaablbglkfpbpaaW.PrintLast Go.Proofs.YtaablbglkfpbpaaW.PrintMore
attribute [local go_sem] max2_int min2_int max_two min_two max_three min_three max_four min_four   -- for this text's walks alone
set_option linter.unusedVariables false
set_option linter.unusedSimpArgs false

/-! ### impl_NameOK: function 67 -/
mutual
def impl_NameOK.l0 : Nat → ByteArray → Int → Option (Bool)
 | 0, _, _ => none
 | k + 1, x0, x3 => if x3 < (x0.size : Int) then (if 0 ≤ x3 then ((impl_isLetter.f (bt x0 x3)).bind fun t232 => (if t232 = true then (impl_NameOK.j1 k x0 x3 true) else (if x3 > 0 then ((impl_isDigit.f (bt x0 x3)).bind fun t233 => (impl_NameOK.j1 k x0 x3 t233)) else (impl_NameOK.j1 k x0 x3 false)))) else (none)) else (some true)
def impl_NameOK.j1 : Nat → ByteArray → Int → Bool → Option (Bool)
 | 0, _, _, _ => none
 | k + 1, x0, x3, x14 => if x14 = true then (impl_NameOK.l0 k x0 (wrap64 (x3 + 1))) else (if (wrap64 (x3 + 1)) < (x0.size : Int) then (if 0 ≤ x3 then (if x3 ≤ (wrap64 (x3 + 2)) then (if (wrap64 (x3 + 2)) ≤ (x0.size : Int) then ((impl_isWideLetter.f k (x0.extract (x3 : Int).toNat ((wrap64 (x3 + 2)) : Int).toNat)).bind fun t234 => (if t234 = true then (impl_NameOK.l0 k x0 (wrap64 ((wrap64 (x3 + 1)) + 1))) else (some false))) else (none)) else (none)) else (none)) else (some false))
end
def impl_NameOK.f (k : Nat) (a0 : ByteArray) : Option (Bool) := (impl_within.f (a0.size : Int) 1 40).bind fun t231 => (if t231 = true then (impl_NameOK.l0 k a0 0) else (some false))
theorem impl_NameOK.mono_l : ∀ k, (∀ y0 y1, LeO (impl_NameOK.l0 k y0 y1) (impl_NameOK.l0 (k + 1) y0 y1)) ∧ (∀ y0 y1 y2, LeO (impl_NameOK.j1 k y0 y1 y2) (impl_NameOK.j1 (k + 1) y0 y1 y2))
 | 0 => ⟨fun _ _ r h => by simp [impl_NameOK.l0] at h, fun _ _ _ r h => by simp [impl_NameOK.j1] at h⟩
 | k + 1 => by
  obtain ⟨ih0, ih1⟩ := impl_NameOK.mono_l k; refine ⟨?_, ?_⟩
  ·intro y0 y1; unfold impl_NameOK.l0
   repeat' first
   | (with_reducible exact ih0 _ _)
   | (with_reducible exact ih1 _ _ _)
   | (with_reducible exact impl_isWideLetter.mono _ _)
   | (with_reducible exact LeO.refl _)
   | (with_reducible exact LeO.none _)
   | (with_reducible refine LeO.ite ?_ ?_)
   | (with_reducible refine LeO.bind ?_ (fun _ => ?_))
   | exact ih0 _ _
   | exact ih1 _ _ _
   | exact impl_isWideLetter.mono _ _
   | exact LeO.none _
   | refine LeO.ite ?_ ?_
   | refine LeO.bind ?_ (fun _ => ?_)
  ·intro y0 y1 y2; unfold impl_NameOK.j1
   repeat' first
   | (with_reducible exact ih0 _ _)
   | (with_reducible exact ih1 _ _ _)
   | (with_reducible exact impl_isWideLetter.mono _ _)
   | (with_reducible exact LeO.refl _)
   | (with_reducible exact LeO.none _)
   | (with_reducible refine LeO.ite ?_ ?_)
   | (with_reducible refine LeO.bind ?_ (fun _ => ?_))
   | exact ih0 _ _
   | exact ih1 _ _ _
   | exact impl_isWideLetter.mono _ _
   | exact LeO.none _
   | refine LeO.ite ?_ ?_
   | refine LeO.bind ?_ (fun _ => ?_)
theorem impl_NameOK.mono : ∀ a0 k, LeO (impl_NameOK.f k a0) (impl_NameOK.f (k + 1) a0) := by
 intro a0 k; obtain ⟨ih0, ih1⟩ := impl_NameOK.mono_l k; unfold impl_NameOK.f
 repeat' first
   | (with_reducible exact ih0 _ _)
   | (with_reducible exact ih1 _ _ _)
   | (with_reducible exact impl_isWideLetter.mono _ _)
   | (with_reducible exact LeO.refl _)
   | (with_reducible exact LeO.none _)
   | (with_reducible refine LeO.ite ?_ ?_)
   | (with_reducible refine LeO.bind ?_ (fun _ => ?_))
   | exact ih0 _ _
   | exact ih1 _ _ _
   | exact impl_isWideLetter.mono _ _
   | exact LeO.none _
   | refine LeO.ite ?_ ?_
   | refine LeO.bind ?_ (fun _ => ?_)
set_option maxHeartbeats 8000000 in
set_option maxRecDepth 100000 in
theorem impl_NameOK.calls (k : Nat) (a0 : ByteArray) (r : Bool) (w : World) (h : impl_NameOK.f k a0 = some r) :
  Calls Try.prog 67 #[.string a0] w fun e w' => e = .returned (.bool r) ∧ Drawn0 w w' := by
 have H : ((impl_within.f (a0.size : Int) 1 40).bind fun t231 => (if t231 = true then (impl_NameOK.l0 k a0 0) else (some false))) = some r := h; clear h; replace H := Option.bind_eq_some_iff.mp H; obtain ⟨t231, A20, H⟩ := H; replace H : (if t231 = true then (impl_NameOK.l0 k a0 0) else (some false)) = some r := H; have A2 := Aside0.mk A20; clear A20; by_cases c3 : t231 = true
 ·subst c3
  have H1 : (impl_NameOK.l0 k a0 0) = some r := by rw [if_pos rfl] at H; exact H
  clear H; have H := H1; clear H1; have H' := Aside0.mk H; clear H; go_enter Try.func67, Try.ntmps67
  go_wp2_with (first | ((with_reducible refine gate_callee (f := 83) rfl ?_); refine goesL_ (some 6) rfl rfl Try.func83 (by kernel_rfl) rfl #[.int .i64 (a0.size : Int), .int .i64 1, .int .i64 40] rfl mq ?_; (with_reducible refine (impl_within.calls (a0.size : Int) 1 40 true _ A2.out).mono ?_); rintro e w' ⟨rfl, ⟨nd, rfl⟩⟩; refine ⟨_, rfl, ?_⟩))
  go_loopg [3] k (fun kq v3 w' => ∃ (x3_1 : Int), v3 = .int .i64 x3_1 ∧ Aside0 (impl_NameOK.l0 kq a0 x3_1 = some r) ∧ Aside0 (kq ≤ k) ∧ Drawn0 w w')
  case atStart => exact ⟨(0), (by first | rfl | (simp; done) | (simp [*]; done)), H', ⟨Nat.le_refl _⟩, by repeat (first | exact Drawn0.refl _ | apply Drawn0.step)⟩
  case round =>
   clear H'; (try clear p2); (try clear c3); obtain ⟨x3_1, rfl, HA, HK1, ⟨m1, rfl⟩⟩ := hrel
   cases gk with
   | zero => exact absurd HA.out (by simp [impl_NameOK.l0])
   | succ k1 =>
    have H := HA.out; clear HA; simp only [impl_NameOK.l0] at H; by_cases c4 : x3_1 < (a0.size : Int)
    ·rw [if_pos c4] at H; have c4b0 : decide (x3_1 < (a0.size : Int)) = true := decide_eq_true c4; clear c4; have HC5 := Aside0.mk H; clear H
     go_upto_region 7 with (fail)
     go_cut [14] (fun v14 wc => ∃ (kq : Nat) (x14_4 : Bool), v14 = .bool x14_4 ∧ Aside0 (impl_NameOK.j1 kq a0 x3_1 x14_4 = some r) ∧ Aside0 (kq ≤ k1) ∧ Drawn0 w wc)
     case first =>
      have H := HC5.out; clear HC5; by_cases c6 : 0 ≤ x3_1
      ·rw [if_pos c6] at H; have c6b0 : decide (0 ≤ x3_1) = true := decide_eq_true c6; clear c6
       (first | rw [c6b0] | (simp only [i64_w, i32_w]; rw [c6b0]) | skip)
       replace H := Option.bind_eq_some_iff.mp H; obtain ⟨t232, A80, H⟩ := H; replace H : (if t232 = true then (impl_NameOK.j1 k1 a0 x3_1 true) else (if x3_1 > 0 then ((impl_isDigit.f (bt a0 x3_1)).bind fun t233 => (impl_NameOK.j1 k1 a0 x3_1 t233)) else (impl_NameOK.j1 k1 a0 x3_1 false))) = some r := H; have A8 := Aside0.mk A80; clear A80; by_cases c9 : t232 = true
       ·subst c9
        have H1 : (impl_NameOK.j1 k1 a0 x3_1 true) = some r := by rw [if_pos rfl] at H; exact H
        clear H; have H := H1; clear H1; have H' := Aside0.mk H; clear H; have p7 : 0 ≤ (x3_1 : Int) := of_decide_eq_true (by first | (with_reducible assumption) | assumption); have q7 : x3_1 < (a0.size : Int) := of_decide_eq_true (by first | (with_reducible assumption) | assumption); have hx7 := bt_at a0 x3_1; replace p7 := eq_true p7; replace q7 := eq_true q7
        go_wp2_with (first | ((with_reducible refine gate_callee (f := 87) rfl ?_); refine goesL_ (some 18) rfl rfl Try.func87 (by kernel_rfl) rfl #[.int .u8 (bt a0 x3_1)] rfl mq ?_; (with_reducible refine (impl_isLetter.calls (bt a0 x3_1) true _ A8.out).mono ?_); rintro e w' ⟨rfl, ⟨nd, rfl⟩⟩; refine ⟨_, rfl, ?_⟩))
        go_meet
        case rel => exact ⟨_, (true), (by first | rfl | (simp; done) | (simp [*]; done)), H', ⟨by have := HK1.out; first | omega | exact Nat.le_refl _⟩, by repeat (first | exact Drawn0.refl _ | apply Drawn0.step)⟩
       ·replace c9 := Bool.eq_false_iff.mpr c9; subst c9
        have H1 : (if x3_1 > 0 then ((impl_isDigit.f (bt a0 x3_1)).bind fun t233 => (impl_NameOK.j1 k1 a0 x3_1 t233)) else (impl_NameOK.j1 k1 a0 x3_1 false)) = some r := by rw [if_neg (show ¬ (false = true) by decide)] at H; exact H
        clear H; have H := H1; clear H1; by_cases c10 : x3_1 > 0
        ·rw [if_pos c10] at H; have c10b0 : decide (0 < x3_1) = true := decide_eq_true c10; clear c10; replace H := Option.bind_eq_some_iff.mp H; obtain ⟨t233, A120, H⟩ := H; replace H : (impl_NameOK.j1 k1 a0 x3_1 t233) = some r := H; have A12 := Aside0.mk A120; clear A120; have H' := Aside0.mk H; clear H; have p7 : 0 ≤ (x3_1 : Int) := of_decide_eq_true (by first | (with_reducible assumption) | assumption); have q7 : x3_1 < (a0.size : Int) := of_decide_eq_true (by first | (with_reducible assumption) | assumption); have hx7 := bt_at a0 x3_1; replace p7 := eq_true p7; replace q7 := eq_true q7
         go_wp2_with (first | ((with_reducible refine gate_callee (f := 87) rfl ?_); refine goesL_ (some 18) rfl rfl Try.func87 (by kernel_rfl) rfl #[.int .u8 (bt a0 x3_1)] rfl mq ?_; (with_reducible refine (impl_isLetter.calls (bt a0 x3_1) false _ A8.out).mono ?_); rintro e w' ⟨rfl, ⟨nd, rfl⟩⟩; refine ⟨_, rfl, ?_⟩; have p11 : 0 ≤ (x3_1 : Int) := of_decide_eq_true (by first | (with_reducible assumption) | assumption); have q11 : x3_1 < (a0.size : Int) := of_decide_eq_true (by first | (with_reducible assumption) | assumption); have hx11 := bt_at a0 x3_1; replace p11 := eq_true p11; replace q11 := eq_true q11) | (go_at_call 88; (with_reducible refine (impl_isDigit.calls (bt a0 x3_1) t233 _ A12.out).mono ?_); rintro e w' ⟨rfl, ⟨nd, rfl⟩⟩))
         go_meet
         case rel => exact ⟨_, (t233), (by first | rfl | (simp; done) | (simp [*]; done)), H', ⟨by have := HK1.out; first | omega | exact Nat.le_refl _⟩, by repeat (first | exact Drawn0.refl _ | apply Drawn0.step)⟩
        ·rw [if_neg c10] at H; have c10b0 : decide (0 < x3_1) = false := decide_eq_false c10; clear c10; have H' := Aside0.mk H; clear H; have p7 : 0 ≤ (x3_1 : Int) := of_decide_eq_true (by first | (with_reducible assumption) | assumption); have q7 : x3_1 < (a0.size : Int) := of_decide_eq_true (by first | (with_reducible assumption) | assumption); have hx7 := bt_at a0 x3_1; replace p7 := eq_true p7; replace q7 := eq_true q7
         go_wp2_with (first | ((with_reducible refine gate_callee (f := 87) rfl ?_); refine goesL_ (some 18) rfl rfl Try.func87 (by kernel_rfl) rfl #[.int .u8 (bt a0 x3_1)] rfl mq ?_; (with_reducible refine (impl_isLetter.calls (bt a0 x3_1) false _ A8.out).mono ?_); rintro e w' ⟨rfl, ⟨nd, rfl⟩⟩; refine ⟨_, rfl, ?_⟩))
         go_meet
         case rel => exact ⟨_, (false), (by first | rfl | (simp; done) | (simp [*]; done)), H', ⟨by have := HK1.out; first | omega | exact Nat.le_refl _⟩, by repeat (first | exact Drawn0.refl _ | apply Drawn0.step)⟩
      ·rw [if_neg c6] at H; exact absurd H (by simp)
     case rest =>
      clear HC5; (try clear c1); (try clear p1); (try clear q1); (try clear hx1); (try clear p2); (try clear c3); (try clear c4); (try clear c4b0); (try clear c6); (try clear c6b0); (try clear p7); (try clear q7); (try clear hx7); (try clear c8); (try clear c9); (try clear c10); (try clear c10b0); (try clear p11); (try clear q11); (try clear hx11); (try clear p11); (try clear p2); (try clear p7); (try clear q11); (try clear q7); obtain ⟨kq, x14_4, rfl, HA, HJ4, ⟨mc4, rfl⟩⟩ := hcut
      cases kq with
      | zero => exact absurd HA.out (by simp [impl_NameOK.j1])
      | succ kj4 =>
       have H := HA.out; clear HA; simp only [impl_NameOK.j1] at H; by_cases c13 : x14_4 = true
       ·subst c13
        have H1 : (impl_NameOK.l0 kj4 a0 (wrap64 (x3_1 + 1))) = some r := by rw [if_pos rfl] at H; exact H
        clear H; have H := H1; clear H1; have H' := Aside0.mk H; clear H; go_wp2
        go_roundg kj4
        case measure => have := HK1.out; have := HJ4.out; omega
        case rel => exact ⟨(wrap64 (x3_1 + 1)), (by first | rfl | (simp; done) | (simp [*]; done)), H', ⟨by have := HK1.out; have := HJ4.out; omega⟩, by repeat (first | exact Drawn0.refl _ | apply Drawn0.step)⟩
       ·replace c13 := Bool.eq_false_iff.mpr c13; subst c13
        have H1 : (if (wrap64 (x3_1 + 1)) < (a0.size : Int) then (if 0 ≤ x3_1 then (if x3_1 ≤ (wrap64 (x3_1 + 2)) then (if (wrap64 (x3_1 + 2)) ≤ (a0.size : Int) then ((impl_isWideLetter.f kj4 (a0.extract (x3_1 : Int).toNat ((wrap64 (x3_1 + 2)) : Int).toNat)).bind fun t234 => (if t234 = true then (impl_NameOK.l0 kj4 a0 (wrap64 ((wrap64 (x3_1 + 1)) + 1))) else (some false))) else (none)) else (none)) else (none)) else (some false)) = some r := by rw [if_neg (show ¬ (false = true) by decide)] at H; exact H
        clear H; have H := H1; clear H1; by_cases c14 : (wrap64 (x3_1 + 1)) < (a0.size : Int)
        ·rw [if_pos c14] at H; have c14b0 : decide ((wrap64 (x3_1 + 1)) < (a0.size : Int)) = true := decide_eq_true c14; clear c14; by_cases c15 : 0 ≤ x3_1
         ·rw [if_pos c15] at H; have c15b0 := eq_true c15; have c15b1 : decide (0 ≤ x3_1) = true := decide_eq_true c15; clear c15; by_cases c16 : x3_1 ≤ (wrap64 (x3_1 + 2))
          ·rw [if_pos c16] at H; have c16b0 := eq_true c16; have c16b1 : decide (x3_1 ≤ (wrap64 (x3_1 + 2))) = true := decide_eq_true c16; by_cases c17 : (wrap64 (x3_1 + 2)) ≤ (a0.size : Int)
           ·rw [if_pos c17] at H; have c17b0 := eq_true c17; have c17b1 : decide ((wrap64 (x3_1 + 2)) ≤ (a0.size : Int)) = true := decide_eq_true c17; replace H := Option.bind_eq_some_iff.mp H; obtain ⟨t234, A180, H⟩ := H; replace H : (if t234 = true then (impl_NameOK.l0 kj4 a0 (wrap64 ((wrap64 (x3_1 + 1)) + 1))) else (some false)) = some r := H; have A18 := Aside0.mk A180; clear A180; by_cases c19 : t234 = true
            ·subst c19
             have H1 : (impl_NameOK.l0 kj4 a0 (wrap64 ((wrap64 (x3_1 + 1)) + 1))) = some r := by rw [if_pos rfl] at H; exact H
             clear H; have H := H1; clear H1; have H' := Aside0.mk H; clear H
             go_wp2_with (first | (go_at_call 89; (with_reducible refine (impl_isWideLetter.calls kj4 (a0.extract (x3_1 : Int).toNat ((wrap64 (x3_1 + 2)) : Int).toNat) true _ A18.out).mono ?_); rintro e w' ⟨rfl, ⟨nd, rfl⟩⟩))
             go_roundg kj4
             case measure => have := HK1.out; have := HJ4.out; omega
             case rel => exact ⟨(wrap64 ((wrap64 (x3_1 + 1)) + 1)), (by first | rfl | (simp; done) | (simp [*]; done)), H', ⟨by have := HK1.out; have := HJ4.out; omega⟩, by repeat (first | exact Drawn0.refl _ | apply Drawn0.step)⟩
            ·replace c19 := Bool.eq_false_iff.mpr c19; subst c19
             have H1 : (some false) = some r := by rw [if_neg (show ¬ (false = true) by decide)] at H; exact H
             clear H; have H := H1; clear H1; obtain rfl := Option.some.inj H
             go_wp2_with (first | (go_at_call 89; (with_reducible refine (impl_isWideLetter.calls kj4 (a0.extract (x3_1 : Int).toNat ((wrap64 (x3_1 + 2)) : Int).toNat) false _ A18.out).mono ?_); rintro e w' ⟨rfl, ⟨nd, rfl⟩⟩))
             go_ret; exact ⟨by first | rfl | (simp; done) | (simp [*]; done), by repeat (first | exact Drawn0.refl _ | apply Drawn0.step)⟩
           ·rw [if_neg c17] at H; exact absurd H (by simp)
          ·rw [if_neg c16] at H; exact absurd H (by simp)
         ·rw [if_neg c15] at H; exact absurd H (by simp)
        ·rw [if_neg c14] at H; have c14b0 : decide ((wrap64 (x3_1 + 1)) < (a0.size : Int)) = false := decide_eq_false c14; clear c14; obtain rfl := Option.some.inj H; go_wp2; go_ret; exact ⟨by first | rfl | (simp; done) | (simp [*]; done), by repeat (first | exact Drawn0.refl _ | apply Drawn0.step)⟩
    ·rw [if_neg c4] at H; have c4b0 : decide (x3_1 < (a0.size : Int)) = false := decide_eq_false c4; clear c4; obtain rfl := Option.some.inj H; go_wp2; go_ret; exact ⟨by first | rfl | (simp; done) | (simp [*]; done), by repeat (first | exact Drawn0.refl _ | apply Drawn0.step)⟩
 ·replace c3 := Bool.eq_false_iff.mpr c3; subst c3
  have H1 : (some false) = some r := by rw [if_neg (show ¬ (false = true) by decide)] at H; exact H
  clear H; have H := H1; clear H1; obtain rfl := Option.some.inj H; go_enter Try.func67, Try.ntmps67
  go_wp2_with (first | ((with_reducible refine gate_callee (f := 83) rfl ?_); refine goesL_ (some 6) rfl rfl Try.func83 (by kernel_rfl) rfl #[.int .i64 (a0.size : Int), .int .i64 1, .int .i64 40] rfl mq ?_; (with_reducible refine (impl_within.calls (a0.size : Int) 1 40 false _ A2.out).mono ?_); rintro e w' ⟨rfl, ⟨nd, rfl⟩⟩; refine ⟨_, rfl, ?_⟩))
  go_ret; exact ⟨by first | rfl | (simp; done) | (simp [*]; done), by repeat (first | exact Drawn0.refl _ | apply Drawn0.step)⟩

/-! ### impl_isAct: function 68 -/
def impl_isAct.f (a0 : Int) (a1 : Int) : Option (Bool) := if a0 = 1 then ((impl_within.f a1 0 100).bind fun t235 => (some t235)) else (if a0 = 2 then ((impl_within.f a1 0 1000000000).bind fun t236 => (some t236)) else (if a0 = 3 then (some (a1 == 0)) else (some false)))
set_option maxHeartbeats 8000000 in
set_option maxRecDepth 100000 in
theorem impl_isAct.calls (a0 : Int) (a1 : Int) (r : Bool) (w : World) (h : impl_isAct.f a0 a1 = some r) :
  Calls Try.prog 68 #[.int .i64 a0, .int .i64 a1] w fun e w' => e = .returned (.bool r) ∧ Drawn0 w w' := by
 have H : (if a0 = 1 then ((impl_within.f a1 0 100).bind fun t235 => (some t235)) else (if a0 = 2 then ((impl_within.f a1 0 1000000000).bind fun t236 => (some t236)) else (if a0 = 3 then (some (a1 == 0)) else (some false)))) = some r := h; clear h; by_cases c3 : a0 = 1
 ·rw [if_pos c3] at H; have c3b0 : (a0 == 1) = true := beq_iff_eq.mpr c3; have c3b1 : (a0 != 1) = false := bne_eq_false_iff_eq.mpr c3; clear c3; replace H := Option.bind_eq_some_iff.mp H; obtain ⟨t235, A40, H⟩ := H; replace H : (some t235) = some r := H; have A4 := Aside0.mk A40; clear A40; obtain rfl := Option.some.inj H; go_enter Try.func68, Try.ntmps68
  go_wp2_with (first | ((with_reducible refine gate_callee (f := 83) rfl ?_); refine goesL_ (some 9) rfl rfl Try.func83 (by kernel_rfl) rfl #[.int .i64 a1, .int .i64 0, .int .i64 100] rfl mq ?_; (with_reducible refine (impl_within.calls a1 0 100 t235 _ A4.out).mono ?_); rintro e w' ⟨rfl, ⟨nd, rfl⟩⟩; refine ⟨_, rfl, ?_⟩))
  go_ret; exact ⟨by first | rfl | (simp; done) | (simp [*]; done), by repeat (first | exact Drawn0.refl _ | apply Drawn0.step)⟩
 ·rw [if_neg c3] at H; have c3b0 : (a0 == 1) = false := beq_eq_false_iff_ne.mpr c3; have c3b1 : (a0 != 1) = true := bne_iff_ne.mpr c3; by_cases c5 : a0 = 2
  ·rw [if_pos c5] at H; have c5b0 : (a0 == 2) = true := beq_iff_eq.mpr c5; have c5b1 : (a0 != 2) = false := bne_eq_false_iff_eq.mpr c5; clear c5; replace H := Option.bind_eq_some_iff.mp H; obtain ⟨t236, A60, H⟩ := H; replace H : (some t236) = some r := H; have A6 := Aside0.mk A60; clear A60; obtain rfl := Option.some.inj H; go_enter Try.func68, Try.ntmps68
   go_wp2_with (first | ((with_reducible refine gate_callee (f := 83) rfl ?_); refine goesL_ (some 13) rfl rfl Try.func83 (by kernel_rfl) rfl #[.int .i64 a1, .int .i64 0, .int .i64 1000000000] rfl mq ?_; (with_reducible refine (impl_within.calls a1 0 1000000000 t236 _ A6.out).mono ?_); rintro e w' ⟨rfl, ⟨nd, rfl⟩⟩; refine ⟨_, rfl, ?_⟩))
   go_ret; exact ⟨by first | rfl | (simp; done) | (simp [*]; done), by repeat (first | exact Drawn0.refl _ | apply Drawn0.step)⟩
  ·rw [if_neg c5] at H; have c5b0 : (a0 == 2) = false := beq_eq_false_iff_ne.mpr c5; have c5b1 : (a0 != 2) = true := bne_iff_ne.mpr c5; by_cases c7 : a0 = 3
   ·rw [if_pos c7] at H; have c7b0 : (a0 == 3) = true := beq_iff_eq.mpr c7; have c7b1 : (a0 != 3) = false := bne_eq_false_iff_eq.mpr c7; clear c7; obtain rfl := Option.some.inj H; go_enter Try.func68, Try.ntmps68; go_wp2; go_ret; exact ⟨by first | rfl | (simp; done) | (simp [*]; done), by repeat (first | exact Drawn0.refl _ | apply Drawn0.step)⟩
   ·rw [if_neg c7] at H; have c7b0 : (a0 == 3) = false := beq_eq_false_iff_ne.mpr c7; have c7b1 : (a0 != 3) = true := bne_iff_ne.mpr c7; obtain rfl := Option.some.inj H; go_enter Try.func68, Try.ntmps68; go_wp2; go_ret; exact ⟨by first | rfl | (simp; done) | (simp [*]; done), by repeat (first | exact Drawn0.refl _ | apply Drawn0.step)⟩

/-! ### impl_Term_90: function 90, by hand, over whatever function value -/
def impl_Term_90.f (p : S59 → Option Bool) : List S59 → Int → Option Int
 | [], _ => some (-1)
 | x :: xs, i => (p x).bind fun b => if b = true then some i else impl_Term_90.f p xs (i + 1)
theorem impl_Term_90.cons (p : S59 → Option Bool) (x : S59) (xs : List S59) (i : Int) : impl_Term_90.f p (x :: xs) i = (p x).bind fun b => if b = true then some i else impl_Term_90.f p xs (i + 1) := rfl
theorem impl_Term_90.mono (p q : S59 → Option Bool) (h : ∀ x, LeO (p x) (q x)) : ∀ l i, LeO (impl_Term_90.f p l i) (impl_Term_90.f q l i)
 | [], _ => LeO.refl _
 | x :: xs, i => LeO.bind (h x) (fun b => LeO.ite (LeO.refl _) (impl_Term_90.mono p q h xs (i + 1)))
set_option maxHeartbeats 8000000 in
set_option maxRecDepth 100000 in
theorem impl_Term_90.calls (p : S59 → Option Bool) (l0 : List S59) (A0 : Option Addr) (c0 : Nat) (g : Nat) (lb : Array Value) (r : Int) (w : World) (eg : ∀ args w, (callFunc g args).run Try.prog w = .ok (.enter g args) w)
  (hp : ∀ (W_ : World) (x_ : S59) (b_ : Bool), Below w.heap.size w W_ → p x_ = some b_ → Calls Try.prog g (#[.agg #[.int .i64 x_.f0, .int .i64 x_.f1, .int .i64 x_.f2]] ++ lb) W_ fun e w' => e = .returned (.bool b_) ∧ Below W_.heap.size W_ w')
  (hr0 : Kd.C k59 w A0 l0.length l0) (hc0 : l0.length ≤ c0) (h : impl_Term_90.f p l0 0 = some r) :
  Calls Try.prog 90 #[.slice A0 l0.length c0, .func (.func g) #[] lb] w fun e w' => e = .returned (.int .i64 r) ∧ Below w.heap.size w w' := by
 have hbig : l0.length ≤ 9223372036854775807 := hr0.2.1; have HP := Aside0.mk hp; have HR := Aside0.mk hr0; have H := Aside0.mk h; clear hp hr0 h; go_enter Try.func90, Try.ntmps90; go_wp2
 go_loopg [5, 8] l0.length (fun gg _ s8 wr => ∃ kk : Nat, kk ≤ l0.length ∧ l0.length - kk ≤ gg ∧ s8 = .int .i64 kk ∧ Aside0 (Below w.heap.size w wr) ∧ Aside0 (impl_Term_90.f p (l0.drop kk) kk = some r))
 case atStart => exact ⟨0, Nat.zero_le _, by omega, rfl, ⟨Below.refl _ w⟩, ⟨H.out⟩⟩
 case round =>
  obtain ⟨kk, hkk, hg, rfl, BW, HF⟩ := hrel; by_cases hlt : kk < l0.length
  ·have hltz : (kk : Int) < (l0.length : Int) := by omega
   have hf := HF.out
   have hcons : l0.drop kk = rd_T59 l0 (kk : Int) :: l0.drop (kk + 1) := by
    rw [List.drop_eq_getElem_cons hlt]
    congr 1
    unfold rd_T59; rw [Int.toNat_natCast, List.getD_eq_getElem?_getD, List.getElem?_eq_getElem hlt]; rfl
   obtain ⟨ad, rfl, hx0, hx1, hx2⟩ := at_T59 (Kd.C_below HR.out BW.out) (kk : Int) (by omega) hltz; rw [hcons, impl_Term_90.cons] at hf; clear hcons; simp only [Int.toNat_natCast] at hx0 hx1 hx2; generalize hxx : rd_T59 l0 (kk : Int) = x_ at *; have HX := Aside0.mk hxx; clear hxx; obtain ⟨b, hb, hf2⟩ := Option.bind_eq_some_iff.mp hf; have hcall := HP.out wr x_ b BW.out hb; have HB := Aside0.mk hb; have HF2 := Aside0.mk hf2; clear hf hb hf2
   cases b with
   | true =>
    go_wp2_with (go_at_fn g; refine hcall.mono ?_; rintro e w' ⟨rfl, hb'⟩)
    go_ret; have hr_ := HF2.out; simp only [if_true, Option.some.injEq] at hr_; exact ⟨by rw [← hr_]; rfl, BW.out.trans (hb'.mono BW.out.size)⟩
   | false =>
    go_wp2_with (go_at_fn g; refine hcall.mono ?_; rintro e w' ⟨rfl, hb'⟩)
    go_roundg (l0.length - (kk + 1))
    case measure => omega
    case rel =>
     have hr_ := HF2.out; simp only [Bool.false_eq_true, if_false] at hr_; exact ⟨kk + 1, by omega, by omega, by go_num, ⟨BW.out.trans (hb'.mono BW.out.size)⟩, ⟨by rw [show ((kk + 1 : Nat) : Int) = (kk : Int) + 1 by omega]; exact hr_⟩⟩
  ·have hltz : ¬ (kk : Int) < (l0.length : Int) := by omega
   have : kk = l0.length := by omega
   subst this; have hf := HF.out; rw [List.drop_length] at hf; have hr_ : -1 = r := Option.some.inj hf; have HX := Aside0.mk hr_; clear hf hr_; go_wp2; go_ret; exact ⟨by rw [← HX.out]; rfl, BW.out⟩

/-! ### impl_Term_69: function 69, by hand, over whatever function value -/
def impl_Term_69.f (p : S59 → Option Bool) (l : List S59) : Option Bool := (impl_Term_90.f p l 0).bind fun i => some (decide (i ≥ 0))
theorem impl_Term_69.mono (p q : S59 → Option Bool) (h : ∀ x, LeO (p x) (q x)) (l : List S59) : LeO (impl_Term_69.f p l) (impl_Term_69.f q l) := LeO.bind (impl_Term_90.mono p q h l 0) (fun _ => LeO.refl _)
set_option maxHeartbeats 8000000 in
set_option maxRecDepth 100000 in
theorem impl_Term_69.calls (p : S59 → Option Bool) (l0 : List S59) (A0 : Option Addr) (c0 : Nat) (g : Nat) (lb : Array Value) (r : Bool) (w : World) (eg : ∀ args w, (callFunc g args).run Try.prog w = .ok (.enter g args) w)
  (hp : ∀ (W_ : World) (x_ : S59) (b_ : Bool), Below w.heap.size w W_ → p x_ = some b_ → Calls Try.prog g (#[.agg #[.int .i64 x_.f0, .int .i64 x_.f1, .int .i64 x_.f2]] ++ lb) W_ fun e w' => e = .returned (.bool b_) ∧ Below W_.heap.size W_ w')
  (hr0 : Kd.C k59 w A0 l0.length l0) (hc0 : l0.length ≤ c0) (h : impl_Term_69.f p l0 = some r) :
  Calls Try.prog 69 #[.slice A0 l0.length c0, .func (.func g) #[] lb] w fun e w' => e = .returned (.bool r) ∧ Below w.heap.size w w' := by
 obtain ⟨i, hi, h2⟩ := Option.bind_eq_some_iff.mp h; have hr_ : decide (i ≥ 0) = r := Option.some.inj h2; have C := impl_Term_90.calls p l0 A0 c0 g lb i w eg hp hr0 hc0 hi; have HR_ := Aside0.mk hr_; clear h hi h2 hp hr_; by_cases hpos : 0 ≤ i
 ·have hd : decide (0 ≤ i) = true := decide_eq_true hpos; go_enter Try.func69, Try.ntmps69
  go_wp2_with (go_at_call 90; refine C.mono ?_; rintro e w' ⟨rfl, hb'⟩)
  go_ret; exact ⟨by rw [← HR_.out, decide_eq_true (show i ≥ 0 by omega)]; rfl, hb'⟩
 ·have hd : decide (0 ≤ i) = false := decide_eq_false hpos; go_enter Try.func69, Try.ntmps69
  go_wp2_with (go_at_call 90; refine C.mono ?_; rintro e w' ⟨rfl, hb'⟩)
  go_ret; exact ⟨by rw [← HR_.out, decide_eq_false (show ¬ i ≥ 0 by omega)]; rfl, hb'⟩

-- NOT PRINTED: function 55 (impl_allBounds)

/-! ### impl_isTermNum: function 91, by hand -/
theorem impl_allBounds.calls (w : World) : Calls Try.prog 55 #[] w fun e w' => e = .returned (.agg #[.int .i64 0, .int .i64 0, .int .i64 1, .int .i64 999, .int .i64 0, .int .i64 1000000, .int .i64 0, .int .i64 23, .int .i64 1, .int .i64 7, .int .i64 0, .int .i64 120] : Value) ∧ Below w.heap.size w w' := by
 go_enter Try.func55, Try.ntmps55; go_wp2; refine bodyPost_ret (results_single rfl (.cell w.heap.size 71 #[.int .i64 0, .int .i64 0, .int .i64 1, .int .i64 999, .int .i64 0, .int .i64 1000000, .int .i64 0, .int .i64 23, .int .i64 1, .int .i64 7, .int .i64 0, .int .i64 120] (0, 0) _ rfl (by simpa using blk_new w _) Try.underlying71 rfl (by kernel_rfl) .nil)) rfl ?_; exact ⟨rfl, (Below.refl _ w).alloc (Nat.le_refl _) _⟩
def impl_isTermNum.f (a0_0 : Int) (a0_1 : Int) (a0_2 : Int) : Option Bool :=
 if a0_0 = 1 then impl_within.f a0_2 1 999
 else if a0_0 = 2 then impl_within.f a0_2 0 1000000
 else if a0_0 = 3 then impl_within.f a0_2 0 23
 else if a0_0 = 4 then impl_within.f a0_2 1 7
 else if a0_0 = 5 then impl_within.f a0_2 0 120
 else none
theorem impl_isTermNum.drawn {w w1 : World} (h : Drawn0 w w1) : Below w.heap.size w w1 := by
 obtain ⟨n, rfl⟩ := h; exact pw_below_drewN (Below.refl _ _) _
theorem impl_isTermNum.keepS {w1 w2 w3 : World} {g : Nat} {a b c : Value} {t : TypeId} (hblk : w1.heap[g]? = some (.cells #[a, b, c] t (0, 0))) (hS : Below w1.heap.size w1 w2 ∧ w2.cell? ⟨g, 0, none⟩ = some a ∧ w2.cell? ⟨g, 2, none⟩ = some c) (hb : Below w2.heap.size w2 w3) :
  Below w1.heap.size w1 w3 ∧ w3.cell? ⟨g, 0, none⟩ = some a ∧ w3.cell? ⟨g, 2, none⟩ = some c :=
 have h := hS.1.trans (hb.mono hS.1.size)
 ⟨h, (blk_cell (blk_below hblk h) 0).trans rfl, (blk_cell (blk_below hblk h) 2).trans rfl⟩
set_option maxHeartbeats 8000000 in
set_option maxRecDepth 100000 in
theorem impl_isTermNum.at1 (a0_1 a0_2 : Int) (r : Bool) (w : World) (h : impl_within.f a0_2 1 999 = some r) :
  Calls Try.prog 91 #[.agg #[.int .i64 1, .int .i64 a0_1, .int .i64 a0_2]] w fun e w' => e = .returned (.bool r) ∧ Below w.heap.size w w' := by
 have H := Aside0.mk h; clear h
 have e1 : ∀ w : World, Sem.run Try.prog (Instr.index 71 (.agg #[.int .i64 0, .int .i64 0, .int .i64 1, .int .i64 999, .int .i64 0, .int .i64 1000000, .int .i64 0, .int .i64 23, .int .i64 1, .int .i64 7, .int .i64 0, .int .i64 120] : Value) (.int .i64 1)) w = .ok (.agg #[.int .i64 1, .int .i64 999]) w := fun w => by kernel_rfl
 have e2 : ∀ w : World, Sem.run Try.prog (Instr.index 69 (.agg #[.int .i64 1, .int .i64 999]) (.int .i64 0)) w = .ok (.int .i64 1) w := fun w => by kernel_rfl
 have e3 : ∀ w : World, Sem.run Try.prog (Instr.index 69 (.agg #[.int .i64 1, .int .i64 999]) (.int .i64 1)) w = .ok (.int .i64 999) w := fun w => by kernel_rfl
 have hblk := blk_new w (.cells #[.int .i64 1, .int .i64 a0_1, .int .i64 a0_2] 59); have h0 : (w.alloc (.cells #[.int .i64 1, .int .i64 a0_1, .int .i64 a0_2] 59)).cell? ⟨w.heap.size, 0, none⟩ = some (.int .i64 1) := (blk_cell hblk 0).trans rfl; have h2 : (w.alloc (.cells #[.int .i64 1, .int .i64 a0_1, .int .i64 a0_2] 59)).cell? ⟨w.heap.size, 2, none⟩ = some (.int .i64 a0_2) := (blk_cell hblk 2).trans rfl; have HB := Aside0.mk ((Below.refl _ w).alloc (Nat.le_refl _) (.cells #[.int .i64 1, .int .i64 a0_1, .int .i64 a0_2] 59)); go_enter Try.func91, Try.ntmps91; go_wp2; have HBLK := Aside0.mk hblk; clear hblk; generalize w.alloc (.cells #[.int .i64 1, .int .i64 a0_1, .int .i64 a0_2] 59) = w1 at *
 go_region_held3 (fun w' => Below w1.heap.size w1 w' ∧ w'.cell? ⟨w.heap.size, 0, none⟩ = some (.int .i64 1) ∧ w'.cell? ⟨w.heap.size, 2, none⟩ = some (.int .i64 a0_2))
  (first
   | exact impl_isTermNum.keepS HBLK.out ⟨Below.refl _ _, h0, h2⟩ (below_drew1 (Below.refl _ _))
   | assumption
   | (refine impl_isTermNum.keepS HBLK.out ?_ hb_; assumption))
  (first
   | (go_at_call 55; refine (impl_allBounds.calls _).mono ?_; rintro e w' ⟨rfl, hb_⟩)
   | (go_at_call 83; refine (impl_within.calls a0_2 1 999 r _ H.out).mono ?_; rintro e w' ⟨rfl, hd_⟩; have hb_ := impl_isTermNum.drawn hd_; clear hd_))
 all_goals go_wp2
 all_goals go_ret
 all_goals exact ⟨rfl, HB.out.trans (Below.mono (And.left (by assumption)) HB.out.size)⟩
set_option maxHeartbeats 8000000 in
set_option maxRecDepth 100000 in
theorem impl_isTermNum.at2 (a0_1 a0_2 : Int) (r : Bool) (w : World) (h : impl_within.f a0_2 0 1000000 = some r) :
  Calls Try.prog 91 #[.agg #[.int .i64 2, .int .i64 a0_1, .int .i64 a0_2]] w fun e w' => e = .returned (.bool r) ∧ Below w.heap.size w w' := by
 have H := Aside0.mk h; clear h
 have e1 : ∀ w : World, Sem.run Try.prog (Instr.index 71 (.agg #[.int .i64 0, .int .i64 0, .int .i64 1, .int .i64 999, .int .i64 0, .int .i64 1000000, .int .i64 0, .int .i64 23, .int .i64 1, .int .i64 7, .int .i64 0, .int .i64 120] : Value) (.int .i64 2)) w = .ok (.agg #[.int .i64 0, .int .i64 1000000]) w := fun w => by kernel_rfl
 have e2 : ∀ w : World, Sem.run Try.prog (Instr.index 69 (.agg #[.int .i64 0, .int .i64 1000000]) (.int .i64 0)) w = .ok (.int .i64 0) w := fun w => by kernel_rfl
 have e3 : ∀ w : World, Sem.run Try.prog (Instr.index 69 (.agg #[.int .i64 0, .int .i64 1000000]) (.int .i64 1)) w = .ok (.int .i64 1000000) w := fun w => by kernel_rfl
 have hblk := blk_new w (.cells #[.int .i64 2, .int .i64 a0_1, .int .i64 a0_2] 59); have h0 : (w.alloc (.cells #[.int .i64 2, .int .i64 a0_1, .int .i64 a0_2] 59)).cell? ⟨w.heap.size, 0, none⟩ = some (.int .i64 2) := (blk_cell hblk 0).trans rfl; have h2 : (w.alloc (.cells #[.int .i64 2, .int .i64 a0_1, .int .i64 a0_2] 59)).cell? ⟨w.heap.size, 2, none⟩ = some (.int .i64 a0_2) := (blk_cell hblk 2).trans rfl; have HB := Aside0.mk ((Below.refl _ w).alloc (Nat.le_refl _) (.cells #[.int .i64 2, .int .i64 a0_1, .int .i64 a0_2] 59)); go_enter Try.func91, Try.ntmps91; go_wp2; have HBLK := Aside0.mk hblk; clear hblk; generalize w.alloc (.cells #[.int .i64 2, .int .i64 a0_1, .int .i64 a0_2] 59) = w1 at *
 go_region_held3 (fun w' => Below w1.heap.size w1 w' ∧ w'.cell? ⟨w.heap.size, 0, none⟩ = some (.int .i64 2) ∧ w'.cell? ⟨w.heap.size, 2, none⟩ = some (.int .i64 a0_2))
  (first
   | exact impl_isTermNum.keepS HBLK.out ⟨Below.refl _ _, h0, h2⟩ (below_drew1 (Below.refl _ _))
   | assumption
   | (refine impl_isTermNum.keepS HBLK.out ?_ hb_; assumption))
  (first
   | (go_at_call 55; refine (impl_allBounds.calls _).mono ?_; rintro e w' ⟨rfl, hb_⟩)
   | (go_at_call 83; refine (impl_within.calls a0_2 0 1000000 r _ H.out).mono ?_; rintro e w' ⟨rfl, hd_⟩; have hb_ := impl_isTermNum.drawn hd_; clear hd_))
 all_goals go_wp2
 all_goals go_ret
 all_goals exact ⟨rfl, HB.out.trans (Below.mono (And.left (by assumption)) HB.out.size)⟩
set_option maxHeartbeats 8000000 in
set_option maxRecDepth 100000 in
theorem impl_isTermNum.at3 (a0_1 a0_2 : Int) (r : Bool) (w : World) (h : impl_within.f a0_2 0 23 = some r) :
  Calls Try.prog 91 #[.agg #[.int .i64 3, .int .i64 a0_1, .int .i64 a0_2]] w fun e w' => e = .returned (.bool r) ∧ Below w.heap.size w w' := by
 have H := Aside0.mk h; clear h
 have e1 : ∀ w : World, Sem.run Try.prog (Instr.index 71 (.agg #[.int .i64 0, .int .i64 0, .int .i64 1, .int .i64 999, .int .i64 0, .int .i64 1000000, .int .i64 0, .int .i64 23, .int .i64 1, .int .i64 7, .int .i64 0, .int .i64 120] : Value) (.int .i64 3)) w = .ok (.agg #[.int .i64 0, .int .i64 23]) w := fun w => by kernel_rfl
 have e2 : ∀ w : World, Sem.run Try.prog (Instr.index 69 (.agg #[.int .i64 0, .int .i64 23]) (.int .i64 0)) w = .ok (.int .i64 0) w := fun w => by kernel_rfl
 have e3 : ∀ w : World, Sem.run Try.prog (Instr.index 69 (.agg #[.int .i64 0, .int .i64 23]) (.int .i64 1)) w = .ok (.int .i64 23) w := fun w => by kernel_rfl
 have hblk := blk_new w (.cells #[.int .i64 3, .int .i64 a0_1, .int .i64 a0_2] 59); have h0 : (w.alloc (.cells #[.int .i64 3, .int .i64 a0_1, .int .i64 a0_2] 59)).cell? ⟨w.heap.size, 0, none⟩ = some (.int .i64 3) := (blk_cell hblk 0).trans rfl; have h2 : (w.alloc (.cells #[.int .i64 3, .int .i64 a0_1, .int .i64 a0_2] 59)).cell? ⟨w.heap.size, 2, none⟩ = some (.int .i64 a0_2) := (blk_cell hblk 2).trans rfl; have HB := Aside0.mk ((Below.refl _ w).alloc (Nat.le_refl _) (.cells #[.int .i64 3, .int .i64 a0_1, .int .i64 a0_2] 59)); go_enter Try.func91, Try.ntmps91; go_wp2; have HBLK := Aside0.mk hblk; clear hblk; generalize w.alloc (.cells #[.int .i64 3, .int .i64 a0_1, .int .i64 a0_2] 59) = w1 at *
 go_region_held3 (fun w' => Below w1.heap.size w1 w' ∧ w'.cell? ⟨w.heap.size, 0, none⟩ = some (.int .i64 3) ∧ w'.cell? ⟨w.heap.size, 2, none⟩ = some (.int .i64 a0_2))
  (first
   | exact impl_isTermNum.keepS HBLK.out ⟨Below.refl _ _, h0, h2⟩ (below_drew1 (Below.refl _ _))
   | assumption
   | (refine impl_isTermNum.keepS HBLK.out ?_ hb_; assumption))
  (first
   | (go_at_call 55; refine (impl_allBounds.calls _).mono ?_; rintro e w' ⟨rfl, hb_⟩)
   | (go_at_call 83; refine (impl_within.calls a0_2 0 23 r _ H.out).mono ?_; rintro e w' ⟨rfl, hd_⟩; have hb_ := impl_isTermNum.drawn hd_; clear hd_))
 all_goals go_wp2
 all_goals go_ret
 all_goals exact ⟨rfl, HB.out.trans (Below.mono (And.left (by assumption)) HB.out.size)⟩
set_option maxHeartbeats 8000000 in
set_option maxRecDepth 100000 in
theorem impl_isTermNum.at4 (a0_1 a0_2 : Int) (r : Bool) (w : World) (h : impl_within.f a0_2 1 7 = some r) :
  Calls Try.prog 91 #[.agg #[.int .i64 4, .int .i64 a0_1, .int .i64 a0_2]] w fun e w' => e = .returned (.bool r) ∧ Below w.heap.size w w' := by
 have H := Aside0.mk h; clear h
 have e1 : ∀ w : World, Sem.run Try.prog (Instr.index 71 (.agg #[.int .i64 0, .int .i64 0, .int .i64 1, .int .i64 999, .int .i64 0, .int .i64 1000000, .int .i64 0, .int .i64 23, .int .i64 1, .int .i64 7, .int .i64 0, .int .i64 120] : Value) (.int .i64 4)) w = .ok (.agg #[.int .i64 1, .int .i64 7]) w := fun w => by kernel_rfl
 have e2 : ∀ w : World, Sem.run Try.prog (Instr.index 69 (.agg #[.int .i64 1, .int .i64 7]) (.int .i64 0)) w = .ok (.int .i64 1) w := fun w => by kernel_rfl
 have e3 : ∀ w : World, Sem.run Try.prog (Instr.index 69 (.agg #[.int .i64 1, .int .i64 7]) (.int .i64 1)) w = .ok (.int .i64 7) w := fun w => by kernel_rfl
 have hblk := blk_new w (.cells #[.int .i64 4, .int .i64 a0_1, .int .i64 a0_2] 59); have h0 : (w.alloc (.cells #[.int .i64 4, .int .i64 a0_1, .int .i64 a0_2] 59)).cell? ⟨w.heap.size, 0, none⟩ = some (.int .i64 4) := (blk_cell hblk 0).trans rfl; have h2 : (w.alloc (.cells #[.int .i64 4, .int .i64 a0_1, .int .i64 a0_2] 59)).cell? ⟨w.heap.size, 2, none⟩ = some (.int .i64 a0_2) := (blk_cell hblk 2).trans rfl; have HB := Aside0.mk ((Below.refl _ w).alloc (Nat.le_refl _) (.cells #[.int .i64 4, .int .i64 a0_1, .int .i64 a0_2] 59)); go_enter Try.func91, Try.ntmps91; go_wp2; have HBLK := Aside0.mk hblk; clear hblk; generalize w.alloc (.cells #[.int .i64 4, .int .i64 a0_1, .int .i64 a0_2] 59) = w1 at *
 go_region_held3 (fun w' => Below w1.heap.size w1 w' ∧ w'.cell? ⟨w.heap.size, 0, none⟩ = some (.int .i64 4) ∧ w'.cell? ⟨w.heap.size, 2, none⟩ = some (.int .i64 a0_2))
  (first
   | exact impl_isTermNum.keepS HBLK.out ⟨Below.refl _ _, h0, h2⟩ (below_drew1 (Below.refl _ _))
   | assumption
   | (refine impl_isTermNum.keepS HBLK.out ?_ hb_; assumption))
  (first
   | (go_at_call 55; refine (impl_allBounds.calls _).mono ?_; rintro e w' ⟨rfl, hb_⟩)
   | (go_at_call 83; refine (impl_within.calls a0_2 1 7 r _ H.out).mono ?_; rintro e w' ⟨rfl, hd_⟩; have hb_ := impl_isTermNum.drawn hd_; clear hd_))
 all_goals go_wp2
 all_goals go_ret
 all_goals exact ⟨rfl, HB.out.trans (Below.mono (And.left (by assumption)) HB.out.size)⟩
set_option maxHeartbeats 8000000 in
set_option maxRecDepth 100000 in
theorem impl_isTermNum.at5 (a0_1 a0_2 : Int) (r : Bool) (w : World) (h : impl_within.f a0_2 0 120 = some r) :
  Calls Try.prog 91 #[.agg #[.int .i64 5, .int .i64 a0_1, .int .i64 a0_2]] w fun e w' => e = .returned (.bool r) ∧ Below w.heap.size w w' := by
 have H := Aside0.mk h; clear h
 have e1 : ∀ w : World, Sem.run Try.prog (Instr.index 71 (.agg #[.int .i64 0, .int .i64 0, .int .i64 1, .int .i64 999, .int .i64 0, .int .i64 1000000, .int .i64 0, .int .i64 23, .int .i64 1, .int .i64 7, .int .i64 0, .int .i64 120] : Value) (.int .i64 5)) w = .ok (.agg #[.int .i64 0, .int .i64 120]) w := fun w => by kernel_rfl
 have e2 : ∀ w : World, Sem.run Try.prog (Instr.index 69 (.agg #[.int .i64 0, .int .i64 120]) (.int .i64 0)) w = .ok (.int .i64 0) w := fun w => by kernel_rfl
 have e3 : ∀ w : World, Sem.run Try.prog (Instr.index 69 (.agg #[.int .i64 0, .int .i64 120]) (.int .i64 1)) w = .ok (.int .i64 120) w := fun w => by kernel_rfl
 have hblk := blk_new w (.cells #[.int .i64 5, .int .i64 a0_1, .int .i64 a0_2] 59); have h0 : (w.alloc (.cells #[.int .i64 5, .int .i64 a0_1, .int .i64 a0_2] 59)).cell? ⟨w.heap.size, 0, none⟩ = some (.int .i64 5) := (blk_cell hblk 0).trans rfl; have h2 : (w.alloc (.cells #[.int .i64 5, .int .i64 a0_1, .int .i64 a0_2] 59)).cell? ⟨w.heap.size, 2, none⟩ = some (.int .i64 a0_2) := (blk_cell hblk 2).trans rfl; have HB := Aside0.mk ((Below.refl _ w).alloc (Nat.le_refl _) (.cells #[.int .i64 5, .int .i64 a0_1, .int .i64 a0_2] 59)); go_enter Try.func91, Try.ntmps91; go_wp2; have HBLK := Aside0.mk hblk; clear hblk; generalize w.alloc (.cells #[.int .i64 5, .int .i64 a0_1, .int .i64 a0_2] 59) = w1 at *
 go_region_held3 (fun w' => Below w1.heap.size w1 w' ∧ w'.cell? ⟨w.heap.size, 0, none⟩ = some (.int .i64 5) ∧ w'.cell? ⟨w.heap.size, 2, none⟩ = some (.int .i64 a0_2))
  (first
   | exact impl_isTermNum.keepS HBLK.out ⟨Below.refl _ _, h0, h2⟩ (below_drew1 (Below.refl _ _))
   | assumption
   | (refine impl_isTermNum.keepS HBLK.out ?_ hb_; assumption))
  (first
   | (go_at_call 55; refine (impl_allBounds.calls _).mono ?_; rintro e w' ⟨rfl, hb_⟩)
   | (go_at_call 83; refine (impl_within.calls a0_2 0 120 r _ H.out).mono ?_; rintro e w' ⟨rfl, hd_⟩; have hb_ := impl_isTermNum.drawn hd_; clear hd_))
 all_goals go_wp2
 all_goals go_ret
 all_goals exact ⟨rfl, HB.out.trans (Below.mono (And.left (by assumption)) HB.out.size)⟩
theorem impl_isTermNum.calls (a0_0 : Int) (a0_1 : Int) (a0_2 : Int) (r : Bool) (w : World) (h : impl_isTermNum.f a0_0 a0_1 a0_2 = some r) :
  Calls Try.prog 91 #[.agg #[.int .i64 a0_0, .int .i64 a0_1, .int .i64 a0_2]] w fun e w' => e = .returned (.bool r) ∧ Below w.heap.size w w' := by
 unfold impl_isTermNum.f at h; by_cases c1 : a0_0 = 1
 ·subst c1; rw [if_pos rfl] at h; exact impl_isTermNum.at1 a0_1 a0_2 r w h
 rw [if_neg c1] at h; by_cases c2 : a0_0 = 2
 ·subst c2; rw [if_pos rfl] at h; exact impl_isTermNum.at2 a0_1 a0_2 r w h
 rw [if_neg c2] at h; by_cases c3 : a0_0 = 3
 ·subst c3; rw [if_pos rfl] at h; exact impl_isTermNum.at3 a0_1 a0_2 r w h
 rw [if_neg c3] at h; by_cases c4 : a0_0 = 4
 ·subst c4; rw [if_pos rfl] at h; exact impl_isTermNum.at4 a0_1 a0_2 r w h
 rw [if_neg c4] at h; by_cases c5 : a0_0 = 5
 ·subst c5; rw [if_pos rfl] at h; exact impl_isTermNum.at5 a0_1 a0_2 r w h
 rw [if_neg c5] at h
 cases h

/-! ### impl_isTerm: function 71 -/
def impl_isTerm.f (a0_0 : Int) (a0_1 : Int) (a0_2 : Int) : Option (Bool) := (impl_within.f a0_0 1 5).bind fun t238 => (if t238 = true then ((impl_within.f a0_1 1 3).bind fun t239 => (if t239 = true then ((impl_isTermNum.f a0_0 a0_1 a0_2).bind fun t240 => (some t240)) else (some false))) else (some false))
set_option maxHeartbeats 8000000 in
set_option maxRecDepth 100000 in
theorem impl_isTerm.calls (a0_0 : Int) (a0_1 : Int) (a0_2 : Int) (r : Bool) (w : World) (h : impl_isTerm.f a0_0 a0_1 a0_2 = some r) :
  Calls Try.prog 71 #[.agg #[.int .i64 a0_0, .int .i64 a0_1, .int .i64 a0_2]] w fun e w' => e = .returned (.bool r) ∧ Below w.heap.size w w' := by
 have hu59 := Try.underlying59; have HB := Aside0.mk (Below.refl w.heap.size w); have H : ((impl_within.f a0_0 1 5).bind fun t238 => (if t238 = true then ((impl_within.f a0_1 1 3).bind fun t239 => (if t239 = true then ((impl_isTermNum.f a0_0 a0_1 a0_2).bind fun t240 => (some t240)) else (some false))) else (some false))) = some r := h; clear h; replace H := Option.bind_eq_some_iff.mp H; obtain ⟨t238, A20, H⟩ := H; replace H : (if t238 = true then ((impl_within.f a0_1 1 3).bind fun t239 => (if t239 = true then ((impl_isTermNum.f a0_0 a0_1 a0_2).bind fun t240 => (some t240)) else (some false))) else (some false)) = some r := H; have A2 := Aside0.mk A20; clear A20; by_cases c3 : t238 = true
 ·subst c3
  have H1 : ((impl_within.f a0_1 1 3).bind fun t239 => (if t239 = true then ((impl_isTermNum.f a0_0 a0_1 a0_2).bind fun t240 => (some t240)) else (some false))) = some r := by rw [if_pos rfl] at H; exact H
  clear H; have H := H1; clear H1; replace H := Option.bind_eq_some_iff.mp H; obtain ⟨t239, A40, H⟩ := H; replace H : (if t239 = true then ((impl_isTermNum.f a0_0 a0_1 a0_2).bind fun t240 => (some t240)) else (some false)) = some r := H; have A4 := Aside0.mk A40; clear A40; by_cases c5 : t239 = true
  ·subst c5
   have H1 : ((impl_isTermNum.f a0_0 a0_1 a0_2).bind fun t240 => (some t240)) = some r := by rw [if_pos rfl] at H; exact H
   clear H; have H := H1; clear H1; replace H := Option.bind_eq_some_iff.mp H; obtain ⟨t240, A60, H⟩ := H; replace H : (some t240) = some r := H; have A6 := Aside0.mk A60; clear A60; obtain rfl := Option.some.inj H; go_enter Try.func71, Try.ntmps71
   go_wp2_with (first | ((with_reducible refine gate_dst (N := 1) rfl ?_); refine box_event ?hg (N := 1) ?hd (cs := #[.int .i64 a0_0, .int .i64 a0_1, .int .i64 a0_2]) (t := 59) ?hr ?_; (case hd => rfl); (case hg => rfl); (case hr => first | (go_simp; done) | (go_simp; rfl)); intro gb237 hg w7 hbox hb; have n0_ := Aside0.mk (below_step (qb HB) hb); have n1_ := Aside0.mk (hbox); have n2_ := Aside0.mk ((by rw [hg]; exact (below_size (qb HB)) : w.heap.size ≤ gb237)); have n3_ := Aside0.mk ((by rw [hg]; exact (below_size (qb HB)) : w.heap.size ≤ gb237)); clear HB; have HB := n0_; have BK237 := n1_; have GW237 := n2_; have GE237 := n3_; clear n0_ n1_ n2_ n3_; clear hb hbox hg; obtain ⟨hcz8_0, hcz8_1, hcz8_2, hfz8_0, hfz8_1, hfz8_2⟩ := bz3 BK237) | ((with_reducible refine gate_callee (f := 83) rfl ?_); refine goesL_ (some 5) rfl rfl Try.func83 (by kernel_rfl) rfl #[.int .i64 a0_0, .int .i64 1, .int .i64 5] rfl mq ?_; (with_reducible refine (impl_within.calls a0_0 1 5 true _ A2.out).mono ?_); rintro e w' ⟨rfl, ⟨nd, rfl⟩⟩; refine ⟨_, rfl, ?_⟩) | (go_at_call 83; (with_reducible refine (impl_within.calls a0_1 1 3 true _ A4.out).mono ?_); rintro e w' ⟨rfl, ⟨nd, rfl⟩⟩) | (go_at_call 91; (with_reducible refine (impl_isTermNum.calls a0_0 a0_1 a0_2 t240 _ A6.out).mono ?_); rintro e w9 ⟨rfl, hb⟩; have n0_ := Aside0.mk (blk_below (bq BK237) hb); have n1_ := Aside0.mk (below_step (qb HB) hb); clear BK237; clear HB; have BK237 := n0_; have HB := n1_; clear n0_ n1_; (try clear hb); (try clear hb2); (try clear hk); (try clear hi)))
   go_ret; exact ⟨eqq, qb HB⟩
  ·replace c5 := Bool.eq_false_iff.mpr c5; subst c5
   have H1 : (some false) = some r := by rw [if_neg (show ¬ (false = true) by decide)] at H; exact H
   clear H; have H := H1; clear H1; obtain rfl := Option.some.inj H; go_enter Try.func71, Try.ntmps71
   go_wp2_with (first | ((with_reducible refine gate_dst (N := 1) rfl ?_); refine box_event ?hg (N := 1) ?hd (cs := #[.int .i64 a0_0, .int .i64 a0_1, .int .i64 a0_2]) (t := 59) ?hr ?_; (case hd => rfl); (case hg => rfl); (case hr => first | (go_simp; done) | (go_simp; rfl)); intro gb237 hg w10 hbox hb; have n0_ := Aside0.mk (below_step (qb HB) hb); have n1_ := Aside0.mk (hbox); have n2_ := Aside0.mk ((by rw [hg]; exact (below_size (qb HB)) : w.heap.size ≤ gb237)); have n3_ := Aside0.mk ((by rw [hg]; exact (below_size (qb HB)) : w.heap.size ≤ gb237)); clear HB; have HB := n0_; have BK237 := n1_; have GW237 := n2_; have GE237 := n3_; clear n0_ n1_ n2_ n3_; clear hb hbox hg; obtain ⟨hcz11_0, hcz11_1, hcz11_2, hfz11_0, hfz11_1, hfz11_2⟩ := bz3 BK237) | ((with_reducible refine gate_callee (f := 83) rfl ?_); refine goesL_ (some 5) rfl rfl Try.func83 (by kernel_rfl) rfl #[.int .i64 a0_0, .int .i64 1, .int .i64 5] rfl mq ?_; (with_reducible refine (impl_within.calls a0_0 1 5 true _ A2.out).mono ?_); rintro e w' ⟨rfl, ⟨nd, rfl⟩⟩; refine ⟨_, rfl, ?_⟩) | (go_at_call 83; (with_reducible refine (impl_within.calls a0_1 1 3 false _ A4.out).mono ?_); rintro e w' ⟨rfl, ⟨nd, rfl⟩⟩))
   go_ret; exact ⟨eqq, qb HB⟩
 ·replace c3 := Bool.eq_false_iff.mpr c3; subst c3
  have H1 : (some false) = some r := by rw [if_neg (show ¬ (false = true) by decide)] at H; exact H
  clear H; have H := H1; clear H1; obtain rfl := Option.some.inj H; go_enter Try.func71, Try.ntmps71
  go_wp2_with (first | ((with_reducible refine gate_dst (N := 1) rfl ?_); refine box_event ?hg (N := 1) ?hd (cs := #[.int .i64 a0_0, .int .i64 a0_1, .int .i64 a0_2]) (t := 59) ?hr ?_; (case hd => rfl); (case hg => rfl); (case hr => first | (go_simp; done) | (go_simp; rfl)); intro gb237 hg w12 hbox hb; have n0_ := Aside0.mk (below_step (qb HB) hb); have n1_ := Aside0.mk (hbox); have n2_ := Aside0.mk ((by rw [hg]; exact (below_size (qb HB)) : w.heap.size ≤ gb237)); have n3_ := Aside0.mk ((by rw [hg]; exact (below_size (qb HB)) : w.heap.size ≤ gb237)); clear HB; have HB := n0_; have BK237 := n1_; have GW237 := n2_; have GE237 := n3_; clear n0_ n1_ n2_ n3_; clear hb hbox hg; obtain ⟨hcz13_0, hcz13_1, hcz13_2, hfz13_0, hfz13_1, hfz13_2⟩ := bz3 BK237) | ((with_reducible refine gate_callee (f := 83) rfl ?_); refine goesL_ (some 5) rfl rfl Try.func83 (by kernel_rfl) rfl #[.int .i64 a0_0, .int .i64 1, .int .i64 5] rfl mq ?_; (with_reducible refine (impl_within.calls a0_0 1 5 false _ A2.out).mono ?_); rintro e w' ⟨rfl, ⟨nd, rfl⟩⟩; refine ⟨_, rfl, ?_⟩))
  go_ret; exact ⟨eqq, qb HB⟩

/-! ### impl_isClause_1: function 70 -/
def impl_isClause_1.f (a0_0 : Int) (a0_1 : Int) (a0_2 : Int) : Option (Bool) := (impl_isTerm.f a0_0 a0_1 a0_2).bind fun t242 => (some (!t242))
set_option maxHeartbeats 8000000 in
set_option maxRecDepth 100000 in
theorem impl_isClause_1.calls (a0_0 : Int) (a0_1 : Int) (a0_2 : Int) (r : Bool) (w : World) (h : impl_isClause_1.f a0_0 a0_1 a0_2 = some r) :
  Calls Try.prog 70 #[.agg #[.int .i64 a0_0, .int .i64 a0_1, .int .i64 a0_2]] w fun e w' => e = .returned (.bool r) ∧ Below w.heap.size w w' := by
 have hu59 := Try.underlying59; have HB := Aside0.mk (Below.refl w.heap.size w); have H : ((impl_isTerm.f a0_0 a0_1 a0_2).bind fun t242 => (some (!t242))) = some r := h; clear h; replace H := Option.bind_eq_some_iff.mp H; obtain ⟨t242, A20, H⟩ := H; replace H : (some (!t242)) = some r := H; have A2 := Aside0.mk A20; clear A20; obtain rfl := Option.some.inj H; go_enter Try.func70, Try.ntmps70
 go_wp2_with (first | ((with_reducible refine gate_dst (N := 1) rfl ?_); refine box_event ?hg (N := 1) ?hd (cs := #[.int .i64 a0_0, .int .i64 a0_1, .int .i64 a0_2]) (t := 59) ?hr ?_; (case hd => rfl); (case hg => rfl); (case hr => first | (go_simp; done) | (go_simp; rfl)); intro gb241 hg w3 hbox hb; have n0_ := Aside0.mk (below_step (qb HB) hb); have n1_ := Aside0.mk (hbox); have n2_ := Aside0.mk ((by rw [hg]; exact (below_size (qb HB)) : w.heap.size ≤ gb241)); have n3_ := Aside0.mk ((by rw [hg]; exact (below_size (qb HB)) : w.heap.size ≤ gb241)); clear HB; have HB := n0_; have BK241 := n1_; have GW241 := n2_; have GE241 := n3_; clear n0_ n1_ n2_ n3_; clear hb hbox hg; obtain ⟨hcz4_0, hcz4_1, hcz4_2, hfz4_0, hfz4_1, hfz4_2⟩ := bz3 BK241) | ((with_reducible refine gate_callee (f := 71) rfl ?_); refine goesL_ (some 4) rfl rfl Try.func71 (by kernel_rfl) rfl #[.agg #[.int .i64 a0_0, .int .i64 a0_1, .int .i64 a0_2]] rfl mq ?_; (with_reducible refine (impl_isTerm.calls a0_0 a0_1 a0_2 t242 _ A2.out).mono ?_); rintro e w5 ⟨rfl, hb⟩; refine ⟨_, rfl, ?_⟩; have n0_ := Aside0.mk (blk_below (bq BK241) hb); have n1_ := Aside0.mk (below_step (qb HB) hb); clear BK241; clear HB; have BK241 := n0_; have HB := n1_; clear n0_ n1_; (try clear hb); (try clear hb2); (try clear hk); (try clear hi)))
 go_ret; exact ⟨eqq, qb HB⟩

end Go.Proofs.Ytaablbglkfpbpaa.PAll
