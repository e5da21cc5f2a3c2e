-- Written by wip/tools/hp.py over the kit's print (not by hand): functions and walks of All.
import Derived.Test.YtaablbglkfpbpaaPAllx0
import Derived.Test.YtaablbglkfpbpaaPAllx2
import Derived.Test.YtaablbglkfpbpaaPAllx8
import Derived.Test.YtaablbglkfpbpaaPAllx12
import Derived.Test.YtaablbglkfpbpaaPAllx14
namespace Go.Proofs.Ytaablbglkfpbpaa.PAll
open Go.RowKit Go.Proofs.YtaablbglkfpbpaaW.PrintWords Go.Proofs.YtaablbglkfpbpaaW.PrintLast Go.Proofs.YtaablbglkfpbpaaW.PrintMore
attribute [local go_sem] max2_int min2_int max_two min_two max_three min_three max_four min_four   -- for this text's walks alone
set_option linter.unusedVariables false
set_option linter.unusedSimpArgs false

/-! ### laws_sameInts: function 30 -/
def laws_sameInts.l0 : Nat → List Int → List Int → Int → Option (Bool)
 | 0, _, _, _ => none
 | k + 1, x0, x1, x5 => if x5 < (x0.length : Int) then (if 0 ≤ x5 then (if x5 < (x1.length : Int) then (if (rd x0 x5) = (rd x1 x5) then (laws_sameInts.l0 k x0 x1 (wrap64 (x5 + 1))) else (some false)) else (none)) else (none)) else (some true)
def laws_sameInts.f (k : Nat) (l0 : List Int) (l1 : List Int) : Option (Bool) := if (l0.length : Int) = (l1.length : Int) then (laws_sameInts.l0 k l0 l1 0) else (some false)
theorem laws_sameInts.mono_l : ∀ k, (∀ y0 y1 y2, LeO (laws_sameInts.l0 k y0 y1 y2) (laws_sameInts.l0 (k + 1) y0 y1 y2))
 | 0 => fun _ _ _ r h => by simp [laws_sameInts.l0] at h
 | k + 1 => by
  have ih0 := laws_sameInts.mono_l k
  ·intro y0 y1 y2; unfold laws_sameInts.l0
   repeat' first
   | (with_reducible exact ih0 _ _ _)
   | (with_reducible exact LeO.refl _)
   | (with_reducible exact LeO.none _)
   | (with_reducible refine LeO.ite ?_ ?_)
   | (with_reducible refine LeO.bind ?_ (fun _ => ?_))
   | exact ih0 _ _ _
   | exact LeO.none _
   | refine LeO.ite ?_ ?_
   | refine LeO.bind ?_ (fun _ => ?_)
theorem laws_sameInts.mono : ∀ a0 a1 k, LeO (laws_sameInts.f k a0 a1) (laws_sameInts.f (k + 1) a0 a1) := by
 intro a0 a1 k; have ih0 := laws_sameInts.mono_l k; unfold laws_sameInts.f
 repeat' first
   | (with_reducible exact ih0 _ _ _)
   | (with_reducible exact LeO.refl _)
   | (with_reducible exact LeO.none _)
   | (with_reducible refine LeO.ite ?_ ?_)
   | (with_reducible refine LeO.bind ?_ (fun _ => ?_))
   | exact ih0 _ _ _
   | exact LeO.none _
   | refine LeO.ite ?_ ?_
   | refine LeO.bind ?_ (fun _ => ?_)
set_option maxHeartbeats 8000000 in
set_option maxRecDepth 100000 in
theorem laws_sameInts.calls (k : Nat) (A0 : Option Addr) (c0 : Nat) (l0 : List Int) (A1 : Option Addr) (c1 : Nat) (l1 : List Int) (r : Bool) (w : World) (hr0 : Kd.C (Kd.int .i64) w A0 l0.length l0) (hc0 : l0.length ≤ c0) (hr1 : Kd.C (Kd.int .i64) w A1 l1.length l1) (hc1 : l1.length ≤ c1) (h : laws_sameInts.f k l0 l1 = some r) :
  Calls Try.prog 30 #[.slice A0 l0.length c0, .slice A1 l1.length c1] w fun e w' => e = .returned (.bool r) ∧ Drawn0 w w' := by
 have HR0 := Aside0.mk hr0; have HC0 := Aside0.mk hc0; clear hr0 hc0; have HR1 := Aside0.mk hr1; have HC1 := Aside0.mk hc1; clear hr1 hc1; have H : (if (l0.length : Int) = (l1.length : Int) then (laws_sameInts.l0 k l0 l1 0) else (some false)) = some r := h; clear h; by_cases c3 : (l0.length : Int) = (l1.length : Int)
 ·rw [if_pos c3] at H; have c3b0 : ((l0.length : Int) == (l1.length : Int)) = true := beq_iff_eq.mpr c3; have c3b1 : ((l0.length : Int) != (l1.length : Int)) = false := bne_eq_false_iff_eq.mpr c3
  have c3b2 : (l0.length == l1.length) = true := by first | simpa using c3 | (simp at c3 ⊢; omega)
  clear c3; have H' := Aside0.mk H; clear H; go_enter Try.func30, Try.ntmps30; go_wp2
  repeat (go_quiet (fail); try go_wp2)
  go_loopg [5] k (fun kq v5 w' => ∃ (x5_1 : Int), v5 = .int .i64 x5_1 ∧ Aside0 (laws_sameInts.l0 kq l0 l1 x5_1 = some r) ∧ Aside0 (kq ≤ k) ∧ Drawn0 w w')
  case atStart => exact ⟨(0), (by first | rfl | (simp; done) | (simp [*]; done)), H', ⟨Nat.le_refl _⟩, by repeat (first | exact Drawn0.refl _ | apply Drawn0.step)⟩
  case round =>
   clear H'; (try clear c1); (try clear p2); (try clear c3); (try clear c3b0); (try clear c3b1); (try clear c3b2); obtain ⟨x5_1, rfl, HA, HK1, ⟨m1, rfl⟩⟩ := hrel
   cases gk with
   | zero => exact absurd HA.out (by simp [laws_sameInts.l0])
   | succ k1 =>
    have H := HA.out; clear HA; simp only [laws_sameInts.l0] at H; by_cases c4 : x5_1 < (l0.length : Int)
    ·rw [if_pos c4] at H; have c4b0 : decide (x5_1 < (l0.length : Int)) = true := decide_eq_true c4; clear c4; by_cases c5 : 0 ≤ x5_1
     ·rw [if_pos c5] at H; have c5b0 : decide (0 ≤ x5_1) = true := decide_eq_true c5; clear c5; by_cases c6 : x5_1 < (l1.length : Int)
      ·rw [if_pos c6] at H; have c6b0 : decide (x5_1 < (l1.length : Int)) = true := decide_eq_true c6; clear c6; by_cases c7 : (rd l0 x5_1) = (rd l1 x5_1)
       ·rw [if_pos c7] at H; have c7b0 : ((rd l0 x5_1) == (rd l1 x5_1)) = true := beq_iff_eq.mpr c7; have c7b1 : ((rd l0 x5_1) != (rd l1 x5_1)) = false := bne_eq_false_iff_eq.mpr c7; clear c7; have H' := Aside0.mk H; clear H; have p594 : 0 ≤ (x5_1 : Int) := of_decide_eq_true (by first | (with_reducible assumption) | assumption); have q594 : x5_1 < (l0.length : Int) := of_decide_eq_true (by first | (with_reducible assumption) | assumption); obtain ⟨ad594, e594, hx594_0⟩ := Kd.at_int HR0.out x5_1 p594 q594
        cases e594
        replace p594 := eq_true p594; replace q594 := eq_true q594; have p595 : 0 ≤ (x5_1 : Int) := of_decide_eq_true (by first | (with_reducible assumption) | assumption); have q595 : x5_1 < (l1.length : Int) := of_decide_eq_true (by first | (with_reducible assumption) | assumption); obtain ⟨ad595, e595, hx595_0⟩ := Kd.at_int HR1.out x5_1 p595 q595
        cases e595
        replace p595 := eq_true p595; replace q595 := eq_true q595; go_wp2
        repeat (go_quiet (fail); try go_wp2)
        go_roundg k1
        case measure => have := HK1.out; omega
        case rel => exact ⟨(wrap64 (x5_1 + 1)), (by first | rfl | (simp; done) | (simp [*]; done)), H', ⟨by have := HK1.out; omega⟩, by repeat (first | exact Drawn0.refl _ | apply Drawn0.step)⟩
       ·rw [if_neg c7] at H; have c7b0 : ((rd l0 x5_1) == (rd l1 x5_1)) = false := beq_eq_false_iff_ne.mpr c7; have c7b1 : ((rd l0 x5_1) != (rd l1 x5_1)) = true := bne_iff_ne.mpr c7; obtain rfl := Option.some.inj H; have p594 : 0 ≤ (x5_1 : Int) := of_decide_eq_true (by first | (with_reducible assumption) | assumption); have q594 : x5_1 < (l0.length : Int) := of_decide_eq_true (by first | (with_reducible assumption) | assumption); obtain ⟨ad594, e594, hx594_0⟩ := Kd.at_int HR0.out x5_1 p594 q594
        cases e594
        replace p594 := eq_true p594; replace q594 := eq_true q594; have p595 : 0 ≤ (x5_1 : Int) := of_decide_eq_true (by first | (with_reducible assumption) | assumption); have q595 : x5_1 < (l1.length : Int) := of_decide_eq_true (by first | (with_reducible assumption) | assumption); obtain ⟨ad595, e595, hx595_0⟩ := Kd.at_int HR1.out x5_1 p595 q595
        cases e595
        replace p595 := eq_true p595; replace q595 := eq_true q595; go_wp2
        repeat (go_quiet (fail); try go_wp2)
        go_ret; exact ⟨by first | rfl | (simp; done) | (simp [*]; done), by repeat (first | exact Drawn0.refl _ | apply Drawn0.step)⟩
      ·rw [if_neg c6] at H; exact absurd H (by simp)
     ·rw [if_neg c5] at H; exact absurd H (by simp)
    ·rw [if_neg c4] at H; have c4b0 : decide (x5_1 < (l0.length : Int)) = false := decide_eq_false c4; clear c4; obtain rfl := Option.some.inj H; go_wp2
     repeat (go_quiet (fail); try go_wp2)
     go_ret; exact ⟨by first | rfl | (simp; done) | (simp [*]; done), by repeat (first | exact Drawn0.refl _ | apply Drawn0.step)⟩
 ·rw [if_neg c3] at H; have c3b0 : ((l0.length : Int) == (l1.length : Int)) = false := beq_eq_false_iff_ne.mpr c3; have c3b1 : ((l0.length : Int) != (l1.length : Int)) = true := bne_iff_ne.mpr c3
  have c3b2 : (l0.length == l1.length) = false := by first | simpa using c3 | (simp at c3 ⊢; omega)
  obtain rfl := Option.some.inj H; go_enter Try.func30, Try.ntmps30; go_wp2
  repeat (go_quiet (fail); try go_wp2)
  go_ret; exact ⟨by first | rfl | (simp; done) | (simp [*]; done), by repeat (first | exact Drawn0.refl _ | apply Drawn0.step)⟩

/-! ### laws_at: function 31 -/
def laws_at.f (l0 : List Int) (a1 : Int) (a2 : Int) : Option (Int) := if a2 ≤ 1 then (some 0) else (if (l0.length : Int) = 0 then (if a2 = 0 then (none) else (some (Int.tmod (wrap64 (a1 * 7)) a2))) else (if 0 ≤ (Int.tmod a1 (l0.length : Int)) then (if (Int.tmod a1 (l0.length : Int)) < (l0.length : Int) then (if 0 ≤ (Int.tmod (wrap64 (a1 + 1)) (l0.length : Int)) then (if (Int.tmod (wrap64 (a1 + 1)) (l0.length : Int)) < (l0.length : Int) then (if a2 = 0 then (none) else (some (Int.tmod (wrap64 ((wrap64 ((wrap64 ((wrap64 (rd l0 (Int.tmod a1 (l0.length : Int)))) * 31)) + (wrap64 (rd l0 (Int.tmod (wrap64 (a1 + 1)) (l0.length : Int)))))) + (wrap64 (Int.tdiv a1 (l0.length : Int))))) a2))) else (none)) else (none)) else (none)) else (none)))
set_option maxHeartbeats 8000000 in
set_option maxRecDepth 100000 in
theorem laws_at.calls (A0 : Option Addr) (c0 : Nat) (l0 : List Int) (a1 : Int) (a2 : Int) (r : Int) (w : World) (hr0 : Kd.C (Kd.int .u8) w A0 l0.length l0) (hc0 : l0.length ≤ c0) (h : laws_at.f l0 a1 a2 = some r) :
  Calls Try.prog 31 #[.slice A0 l0.length c0, .int .i64 a1, .int .i64 a2] w fun e w' => e = .returned (.int .i64 r) ∧ Drawn0 w w' := by
 have HR0 := Aside0.mk hr0; have HC0 := Aside0.mk hc0; clear hr0 hc0; have H : (if a2 ≤ 1 then (some 0) else (if (l0.length : Int) = 0 then (if a2 = 0 then (none) else (some (Int.tmod (wrap64 (a1 * 7)) a2))) else (if 0 ≤ (Int.tmod a1 (l0.length : Int)) then (if (Int.tmod a1 (l0.length : Int)) < (l0.length : Int) then (if 0 ≤ (Int.tmod (wrap64 (a1 + 1)) (l0.length : Int)) then (if (Int.tmod (wrap64 (a1 + 1)) (l0.length : Int)) < (l0.length : Int) then (if a2 = 0 then (none) else (some (Int.tmod (wrap64 ((wrap64 ((wrap64 ((wrap64 (rd l0 (Int.tmod a1 (l0.length : Int)))) * 31)) + (wrap64 (rd l0 (Int.tmod (wrap64 (a1 + 1)) (l0.length : Int)))))) + (wrap64 (Int.tdiv a1 (l0.length : Int))))) a2))) else (none)) else (none)) else (none)) else (none)))) = some r := h; clear h; by_cases c4 : a2 ≤ 1
 ·rw [if_pos c4] at H; have c4b0 : decide (a2 ≤ 1) = true := decide_eq_true c4; clear c4; obtain rfl := Option.some.inj H; go_enter Try.func31, Try.ntmps31; go_wp2
  repeat (go_quiet (fail); try go_wp2)
  go_ret; exact ⟨by first | rfl | (simp; done) | (simp [*]; done), by repeat (first | exact Drawn0.refl _ | apply Drawn0.step)⟩
 ·rw [if_neg c4] at H; have c4b0 : decide (a2 ≤ 1) = false := decide_eq_false c4; clear c4; by_cases c5 : (l0.length : Int) = 0
  ·rw [if_pos c5] at H; have c5b0 : ((l0.length : Int) == 0) = true := beq_iff_eq.mpr c5; have c5b1 : ((l0.length : Int) != 0) = false := bne_eq_false_iff_eq.mpr c5; clear c5; by_cases c6 : a2 = 0
   ·rw [if_pos c6] at H; exact absurd H (by simp)
   ·rw [if_neg c6] at H; have c6b0 : (a2 == 0) = false := beq_eq_false_iff_ne.mpr c6; have c6b1 : (a2 != 0) = true := bne_iff_ne.mpr c6; obtain rfl := Option.some.inj H; go_enter Try.func31, Try.ntmps31; go_wp2
    repeat (go_quiet (fail); try go_wp2)
    go_ret; exact ⟨by first | rfl | (simp; done) | (simp [*]; done), by repeat (first | exact Drawn0.refl _ | apply Drawn0.step)⟩
  ·rw [if_neg c5] at H; have c5b0 : ((l0.length : Int) == 0) = false := beq_eq_false_iff_ne.mpr c5; have c5b1 : ((l0.length : Int) != 0) = true := bne_iff_ne.mpr c5
   have c5b2 : ¬ (l0 = []) := fun h_ => c5 (by rw [h_]; rfl)
   obtain ⟨ji7, hji7⟩ : ∃ j_ : Int, (Int.tmod a1 (l0.length : Int)) = j_ := ⟨_, rfl⟩
   replace H : (if 0 ≤ (ji7) then (if (ji7) < (l0.length : Int) then (if 0 ≤ (Int.tmod (wrap64 (a1 + 1)) (l0.length : Int)) then (if (Int.tmod (wrap64 (a1 + 1)) (l0.length : Int)) < (l0.length : Int) then (if a2 = 0 then (none) else (some (Int.tmod (wrap64 ((wrap64 ((wrap64 ((wrap64 (rd l0 (ji7))) * 31)) + (wrap64 (rd l0 (Int.tmod (wrap64 (a1 + 1)) (l0.length : Int)))))) + (wrap64 (Int.tdiv a1 (l0.length : Int))))) a2))) else (none)) else (none)) else (none)) else (none)) = some r := by first | (rw [hji7] at H; exact H) | (simp only [hji7] at H ⊢; exact H)
   by_cases c8 : 0 ≤ (ji7)
   ·rw [if_pos c8] at H; have c8b0 : decide (0 ≤ (ji7)) = true := decide_eq_true c8; clear c8; by_cases c9 : (ji7) < (l0.length : Int)
    ·rw [if_pos c9] at H; have c9b0 : decide ((ji7) < (l0.length : Int)) = true := decide_eq_true c9; clear c9; obtain ⟨ji10, hji10⟩ : ∃ j_ : Int, (Int.tmod (wrap64 (a1 + 1)) (l0.length : Int)) = j_ := ⟨_, rfl⟩
     replace H : (if 0 ≤ (ji10) then (if (ji10) < (l0.length : Int) then (if a2 = 0 then (none) else (some (Int.tmod (wrap64 ((wrap64 ((wrap64 ((wrap64 (rd l0 (ji7))) * 31)) + (wrap64 (rd l0 (ji10))))) + (wrap64 (Int.tdiv a1 (l0.length : Int))))) a2))) else (none)) else (none)) = some r := by first | (rw [hji10] at H; exact H) | (simp only [hji10] at H ⊢; exact H)
     by_cases c11 : 0 ≤ (ji10)
     ·rw [if_pos c11] at H; have c11b0 : decide (0 ≤ (ji10)) = true := decide_eq_true c11; clear c11; by_cases c12 : (ji10) < (l0.length : Int)
      ·rw [if_pos c12] at H; have c12b0 : decide ((ji10) < (l0.length : Int)) = true := decide_eq_true c12; clear c12; by_cases c13 : a2 = 0
       ·rw [if_pos c13] at H; exact absurd H (by simp)
       ·rw [if_neg c13] at H; have c13b0 : (a2 == 0) = false := beq_eq_false_iff_ne.mpr c13; have c13b1 : (a2 != 0) = true := bne_iff_ne.mpr c13; obtain rfl := Option.some.inj H; have p596 : 0 ≤ ((ji7) : Int) := of_decide_eq_true (by first | (with_reducible assumption) | assumption); have q596 : (ji7) < (l0.length : Int) := of_decide_eq_true (by first | (with_reducible assumption) | assumption); obtain ⟨ad596, e596, hx596_0⟩ := Kd.at_int HR0.out (ji7) p596 q596
        cases e596
        replace p596 := eq_true p596; replace q596 := eq_true q596; have p597 : 0 ≤ ((ji10) : Int) := of_decide_eq_true (by first | (with_reducible assumption) | assumption); have q597 : (ji10) < (l0.length : Int) := of_decide_eq_true (by first | (with_reducible assumption) | assumption); obtain ⟨ad597, e597, hx597_0⟩ := Kd.at_int HR0.out (ji10) p597 q597; obtain rfl : ad596 = ad597 := (by injection e597); replace p597 := eq_true p597; replace q597 := eq_true q597; go_enter Try.func31, Try.ntmps31; go_wp2
        repeat (go_quiet (fail); try go_wp2)
        go_ret; exact ⟨by first | rfl | (simp; done) | (simp only [← hji7, ← hji10] <;> (first | rfl | simp)) | (simp [*]; done), by repeat (first | exact Drawn0.refl _ | apply Drawn0.step)⟩
      ·rw [if_neg c12] at H; exact absurd H (by simp)
     ·rw [if_neg c11] at H; exact absurd H (by simp)
    ·rw [if_neg c9] at H; exact absurd H (by simp)
   ·rw [if_neg c8] at H; exact absurd H (by simp)

/-! ### laws_FnClash: function 7, by hand -/
theorem laws_FnClash.eqA (d : Nat) (w : World) (x0 y0 x1 y1 x2 y2 x3 y3 x4 y4 : Int) :
    (Op.equalIn (d + 2) 27 (.agg #[.int .i64 x0, .int .i64 x1, .int .i64 x2, .int .i64 x3, .int .i64 x4]) (.agg #[.int .i64 y0, .int .i64 y1, .int .i64 y2, .int .i64 y3, .int .i64 y4])).run Try.prog w = .ok (x0 == y0 && (x1 == y1 && (x2 == y2 && (x3 == y3 && (x4 == y4))))) w := by
  refine eqA_of Try.underlying27 (by kernel_rfl) ?_
  refine eqf_cons (by rfl) (by go_simp; rfl) (by go_simp; rfl) (by go_simp) ?_
  refine eqf_cons (by rfl) (by go_simp; rfl) (by go_simp; rfl) (by go_simp) ?_
  refine eqf_cons (by rfl) (by go_simp; rfl) (by go_simp; rfl) (by go_simp) ?_
  refine eqf_cons (by rfl) (by go_simp; rfl) (by go_simp; rfl) (by go_simp) ?_
  exact eqf_last (by rfl) (by go_simp; rfl) (by go_simp; rfl) (by go_simp)
attribute [local go_sem high] laws_FnClash.eqA
def laws_FnClash.same (a b : Int × Int × Int × Int × Int × Bool × Int) : Bool := a.1 == b.1 && (a.2.1 == b.2.1 && (a.2.2.1 == b.2.2.1 && (a.2.2.2.1 == b.2.2.2.1 && (a.2.2.2.2.1 == b.2.2.2.2.1 && (a.2.2.2.2.2.1 == b.2.2.2.2.2.1 && a.2.2.2.2.2.2 == b.2.2.2.2.2.2)))))
theorem laws_FnClash.same_eq {a b : Int × Int × Int × Int × Int × Bool × Int} (h : laws_FnClash.same a b = true) : a = b := by
  obtain ⟨a0, a1, a2, a3, a4, a5, a6⟩ := a
  obtain ⟨b0, b1, b2, b3, b4, b5, b6⟩ := b
  simp only [laws_FnClash.same, Bool.and_eq_true, beq_iff_eq] at h
  obtain ⟨rfl, rfl, rfl, rfl, rfl, rfl, rfl⟩ := h
  rfl
theorem laws_FnClash.same_refl (a : Int × Int × Int × Int × Int × Bool × Int) : laws_FnClash.same a a = true := by simp [laws_FnClash.same]
/-- What follows behind the hidden ones: two rules, told one way and the other; 'none' where the law would be false. -/
def laws_FnClash.two (k : Nat) (x y : S32) (f0 f1 f2 f3 f4 : Int) : Option Bool :=
  (impl_Clash.f k x.f0 x.f1 x.f2 x.f3 y.f0 y.f1 y.f2 y.f3).bind fun g => (impl_Clash.f k y.f0 y.f1 y.f2 y.f3 x.f0 x.f1 x.f2 x.f3).bind fun h => (spec_Clash.f k x.f0 x.f1 x.f2 x.f3 y.f0 y.f1 y.f2 y.f3).bind fun q =>
    if laws_FnClash.same h g = true ∧ laws_FnClash.same q g = true ∧ g.2.2.2.2.2.2 = 0 then
      (if x.f2 = y.f2 ∧ x.f3 = y.f3 then (if g.2.2.2.2.2.1 = true then none else some true)
       else if g.2.2.2.2.2.1 = true then (laws_fires.f k x.f0 x.f1 x.f2 x.f3 g.1 g.2.1 g.2.2.1 g.2.2.2.1 g.2.2.2.2.1).bind fun t => if t = true then (laws_fires.f k y.f0 y.f1 y.f2 y.f3 g.1 g.2.1 g.2.2.1 g.2.2.2.1 g.2.2.2.2.1).bind fun t => if t = true then some true else none else none
       else (laws_fires.f k x.f0 x.f1 x.f2 x.f3 f0 f1 f2 f3 f4).bind fun t => if t = true then (laws_fires.f k y.f0 y.f1 y.f2 y.f3 f0 f1 f2 f3 f4).bind fun t => if t = true then none else some true else some true)
    else none
def laws_FnClash.rest (k : Nat) (l1 : List Int) (L : List S32) (f0 f1 f2 f3 f4 : Int) : Option Bool :=
  if (L.length : Int) < 2 then some true else (laws_at.f l1 0 (L.length : Int)).bind fun i => (laws_at.f l1 1 (L.length : Int)).bind fun j =>
    if (0 ≤ i ∧ i < L.length) ∧ 0 ≤ j ∧ j < L.length then laws_FnClash.two k (rd_T32 L i) (rd_T32 L j) f0 f1 f2 f3 f4 else none
def laws_FnClash.f (k : Nat) (l0 l1 : List Int) : Option Bool :=
  if (l0.length : Int) > 1048576 then some true else if (l1.length : Int) > 1048576 then some true else
  (spec_ClausesOf.f k l0).bind fun b => (impl_Hidden.f k b.1).bind fun h => (spec_Hidden.f k b.1).bind fun q =>
    if h.2 = 0 then (laws_sameInts.f k h.1 q.1).bind fun t => if t = true then
      (impl_Decide.f k b.1 b.2.1 b.2.2.1 b.2.2.2.1 b.2.2.2.2.1 b.2.2.2.2.2).bind fun d => if d.2 = 0 ∧ d.1 ∈ h.1 then none else laws_FnClash.rest k l1 b.1 b.2.1 b.2.2.1 b.2.2.2.1 b.2.2.2.2.1 b.2.2.2.2.2
      else none else none
set_option maxHeartbeats 16000000 in
set_option maxRecDepth 100000 in
theorem laws_FnClash.calls (k : Nat) (A0 : Option Addr) (c0 : Nat) (l0 : List Int) (A1 : Option Addr) (c1 : Nat) (l1 : List Int) (r : Bool) (w : World) (hr0 : Kd.C (Kd.int .u8) w A0 l0.length l0) (hc0 : l0.length ≤ c0) (hr1 : Kd.C (Kd.int .u8) w A1 l1.length l1) (hc1 : l1.length ≤ c1) (h : laws_FnClash.f k l0 l1 = some r) :
    Calls Try.prog 7 #[.slice A0 l0.length c0, .slice A1 l1.length c1] w fun e w' => e = .returned (.bool r) ∧ Below w.heap.size w w' := by
  have HR0 := Aside0.mk hr0
  have HC0 := Aside0.mk hc0
  have HR1 := Aside0.mk hr1
  have HC1 := Aside0.mk hc1
  clear hr0 hc0 hr1 hc1
  unfold laws_FnClash.f at h
  by_cases a0 : (l0.length : Int) > 1048576
  · rw [if_pos a0] at h
    obtain rfl := Option.some.inj h
    have b0 : decide (1048576 < (l0.length : Int)) = true := decide_eq_true a0
    have n0 : decide (1048576 < l0.length) = true := decide_eq_true (by omega)
    clear a0 h
    go_enter Try.func7, Try.ntmps7
    go_wp2
    go_ret
    exact ⟨rfl, Below.refl _ _⟩
  rw [if_neg a0] at h
  have b0 : decide (1048576 < (l0.length : Int)) = false := decide_eq_false a0
  have n0 : decide (1048576 < l0.length) = false := decide_eq_false (by omega)
  clear a0
  by_cases a1 : (l1.length : Int) > 1048576
  · rw [if_pos a1] at h
    obtain rfl := Option.some.inj h
    have b1 : decide (1048576 < (l1.length : Int)) = true := decide_eq_true a1
    have n1 : decide (1048576 < l1.length) = true := decide_eq_true (by omega)
    clear a1 h
    go_enter Try.func7, Try.ntmps7
    go_wp2
    go_ret
    exact ⟨rfl, Below.refl _ _⟩
  rw [if_neg a1] at h
  have b1 : decide (1048576 < (l1.length : Int)) = false := decide_eq_false a1
  have n1 : decide (1048576 < l1.length) = false := decide_eq_false (by omega)
  clear a1
  obtain ⟨⟨L, f0, f1, f2, f3, f4⟩, h1, h⟩ := Option.bind_eq_some_iff.mp h
  have H1 := Aside0.mk h1
  have HH := Aside0.mk h
  clear h1 h
  go_enter Try.func7, Try.ntmps7
  go_wp2_with fail
  refine (spec_ClausesOf.calls k A0 c0 l0 L f0 f1 f2 f3 f4 _ HR0.out HC0.out H1.out).mono ?_
  rintro e w1 ⟨v1, rfl, hs, hb⟩
  obtain ⟨AL, cL, rfl, hcl, hrl⟩ := Kd.S_reads hs
  have B1 := Aside0.mk hb
  have HLC := Aside0.mk hcl
  have HL := Aside0.mk hrl
  clear hs hb hcl hrl H1 b0 n0 b1 n1
  obtain ⟨⟨H, hc⟩, h2, h⟩ := Option.bind_eq_some_iff.mp (show (impl_Hidden.f k L).bind _ = some r from HH.out)
  obtain ⟨⟨W, wc⟩, h3, h⟩ := Option.bind_eq_some_iff.mp (show (spec_Hidden.f k L).bind _ = some r from h)
  have H2 := Aside0.mk h2
  have H3 := Aside0.mk h3
  clear h2 h3 HH
  by_cases e0 : hc = 0
  rotate_left
  · rw [if_neg (show ¬ (H, hc).2 = 0 from e0)] at h; cases h
  rw [if_pos (show (H, hc).2 = 0 from e0)] at h
  subst e0
  obtain ⟨t, h4, h⟩ := Option.bind_eq_some_iff.mp (show (laws_sameInts.f k H W).bind _ = some r from h)
  cases t
  · rw [if_neg (by decide)] at h; cases h
  rw [if_pos rfl] at h
  obtain ⟨⟨dk, de⟩, h5, h⟩ := Option.bind_eq_some_iff.mp (show (impl_Decide.f k L f0 f1 f2 f3 f4).bind _ = some r from h)
  have h' : (if de = 0 ∧ dk ∈ H then none else laws_FnClash.rest k l1 L f0 f1 f2 f3 f4) = some r := h
  have H4 := Aside0.mk h4
  have H5 := Aside0.mk h5
  by_cases hm : de = 0 ∧ dk ∈ H
  · rw [if_pos hm] at h'; cases h'
  rw [if_neg hm] at h'
  have HR := Aside0.mk h'
  have HM := Aside0.mk hm
  clear h h' h4 h5 hm
  have D6 := Aside0.mk (blk_new w1 (.cells #[.int .i64 f0, .int .i64 f1, .int .i64 f2, .int .i64 f3, .int .i64 f4] 27))
  have B2 := Aside0.mk (B1.out.alloc B1.out.size (.cells #[.int .i64 f0, .int .i64 f1, .int .i64 f2, .int .i64 f3, .int .i64 f4] 27))
  replace HL := Aside0.mk (Kd.C_alloc HL.out (.cells #[.int .i64 f0, .int .i64 f1, .int .i64 f2, .int .i64 f3, .int .i64 f4] 27))
  go_wp2_with fail
  generalize w1.alloc (.cells #[.int .i64 f0, .int .i64 f1, .int .i64 f2, .int .i64 f3, .int .i64 f4] 27) = w2 at *
  generalize w1.heap.size = g6 at *
  refine (impl_Hidden.calls k AL cL L H 0 _ HL.out HLC.out H2.out).mono ?_
  rintro e w3 ⟨v3, rfl, ho, hb⟩
  obtain ⟨AH, cH, rfl, hch, hrh⟩ := Kd.R_reads ho
  replace D6 := Aside0.mk (blk_below D6.out hb)
  replace B2 := Aside0.mk (B2.out.trans (hb.mono B2.out.size))
  replace HL := Aside0.mk (Kd.C_below HL.out hb)
  have HHC := Aside0.mk hch
  have HHR := Aside0.mk hrh
  clear ho hb hch hrh H2 B1
  go_wp2_with fail
  refine (spec_Hidden.calls k AL cL L W wc _ HL.out HLC.out H3.out).mono ?_
  rintro e w4 ⟨v4, rfl, ho, hb⟩
  obtain ⟨AW, cW, rfl, hcw, hrw⟩ := Kd.R_reads ho
  replace D6 := Aside0.mk (blk_below D6.out hb)
  replace B2 := Aside0.mk (B2.out.trans (hb.mono B2.out.size))
  replace HL := Aside0.mk (Kd.C_below HL.out hb)
  replace HHR := Aside0.mk (Kd.C_below HHR.out hb)
  have HWC := Aside0.mk hcw
  have HWR := Aside0.mk hrw
  clear ho hb hcw hrw H3
  go_wp2_with fail
  refine (laws_sameInts.calls k AH cH H AW cW W true _ HHR.out HHC.out HWR.out HWC.out H4.out).mono ?_
  rintro e w5 ⟨rfl, hd⟩
  have hb := impl_isTermNum.drawn hd
  replace D6 := Aside0.mk (blk_below D6.out hb)
  replace B2 := Aside0.mk (B2.out.trans (hb.mono B2.out.size))
  replace HL := Aside0.mk (Kd.C_below HL.out hb)
  replace HHR := Aside0.mk (Kd.C_below HHR.out hb)
  clear hd hb H4 HWC HWR
  have z0 := (blk_cell D6.out 0).trans rfl
  have z1 := (blk_cell D6.out 1).trans rfl
  have z2 := (blk_cell D6.out 2).trans rfl
  have z3 := (blk_cell D6.out 3).trans rfl
  have z4 := (blk_cell D6.out 4).trans rfl
  go_wp2_with fail
  clear z0 z1 z2 z3 z4
  refine (impl_Decide.calls k AL cL L f0 f1 f2 f3 f4 dk de _ HL.out HLC.out H5.out).mono ?_
  rintro e w6 ⟨rfl, hb⟩
  replace D6 := Aside0.mk (blk_below D6.out hb)
  replace B2 := Aside0.mk (B2.out.trans (hb.mono B2.out.size))
  replace HL := Aside0.mk (Kd.C_below HL.out hb)
  replace HHR := Aside0.mk (Kd.C_below HHR.out hb)
  clear hb H5
  go_upto_if 64 with (fail)
  go_cut [] from 63 (fun wx => Aside0 (Below w6.heap.size w6 wx))
  case first =>
    by_cases e0 : de = 0
    · have hnm := HM.out
      have hno : dk ∉ H := fun q => hnm ⟨e0, q⟩
      have HNO := Aside0.mk hno
      subst e0
      clear hnm hno HM
      go_wp2
      go_loopg [13] H.length (fun gg s13 wr => ∃ kk : Nat, kk ≤ H.length ∧ H.length - kk ≤ gg ∧ s13 = .int .i64 kk ∧ Aside0 (Below w6.heap.size w6 wr))
      case atStart => exact ⟨0, Nat.zero_le _, by omega, rfl, ⟨Below.refl _ _⟩⟩
      case round =>
        obtain ⟨kk, hkk, hg, rfl, BW⟩ := hrel
        by_cases hlt : kk < H.length
        · have hltz : (kk : Int) < (H.length : Int) := by omega
          obtain ⟨ad, rfl, hx⟩ := Kd.at_int (Kd.C_below HHR.out BW.out) (kk : Int) (by omega) hltz
          have hne : rd H (kk : Int) ≠ dk := fun q => HNO.out (by
            rw [← q]
            unfold rd
            rw [Int.toNat_natCast, List.getD_eq_getElem?_getD, List.getElem?_eq_getElem hlt]
            exact List.getElem_mem hlt)
          simp only [Int.toNat_natCast] at hx
          have hne' : (rd H (kk : Int) == dk) = false := beq_eq_false_iff_ne.mpr hne
          have hw : wrap64 ((kk : Int) + 1) = ((kk + 1 : Nat) : Int) := by
            have := HHR.out.2.1
            unfold wrap64; omega
          clear hne
          go_wp2
          go_roundg (H.length - (kk + 1))
          case measure => omega
          case rel => exact ⟨kk + 1, by omega, by omega, congrArg (Value.int .i64) hw, BW⟩
        · have : kk = H.length := by omega
          subst this
          have hltz : ¬ (H.length : Int) < (H.length : Int) := by omega
          go_wp2
          go_meet
          case rel => exact BW
    · have f0 : (de == 0) = false := beq_eq_false_iff_ne.mpr e0
      go_wp2
      go_meet
      case rel => exact ⟨Below.refl _ _⟩
  case rest =>
  have hb := hcut.out
  replace D6 := Aside0.mk (blk_below D6.out hb)
  replace B2 := Aside0.mk (B2.out.trans (hb.mono B2.out.size))
  replace HL := Aside0.mk (Kd.C_below HL.out hb)
  clear hb hcut HM HHR HHC
  generalize wc = w7 at *
  have h := HR.out
  clear HR
  unfold laws_FnClash.rest at h
  by_cases a2 : (L.length : Int) < 2
  · rw [if_pos a2] at h
    obtain rfl := Option.some.inj h
    have b2 : decide ((L.length : Int) < 2) = true := decide_eq_true a2
    have n2 : decide (L.length < 2) = true := decide_eq_true (by omega)
    clear a2 h
    go_wp2
    go_ret
    exact ⟨rfl, B2.out⟩
  rw [if_neg a2] at h
  have b2 : decide ((L.length : Int) < 2) = false := decide_eq_false a2
  have n2 : decide (L.length < 2) = false := decide_eq_false (by omega)
  obtain ⟨i, hi, h⟩ := Option.bind_eq_some_iff.mp h
  obtain ⟨j, hj, h⟩ := Option.bind_eq_some_iff.mp h
  by_cases hij : (0 ≤ i ∧ i < (L.length : Int)) ∧ 0 ≤ j ∧ j < (L.length : Int)
  rotate_left
  · rw [if_neg hij] at h; cases h
  rw [if_pos hij] at h
  have H1 := Aside0.mk hi
  have H2 := Aside0.mk hj
  have HT := Aside0.mk h
  obtain ⟨⟨i0, i1⟩, j0, j1⟩ := hij
  clear a2 hi hj h
  go_wp2_with fail
  clear b2 n2
  refine (laws_at.calls A1 c1 l1 0 (L.length : Int) i _ (Kd.C_below HR1.out B2.out) HC1.out H1.out).mono ?_
  rintro e w8 ⟨rfl, hd⟩
  have hb := impl_isTermNum.drawn hd
  replace D6 := Aside0.mk (blk_below D6.out hb)
  replace B2 := Aside0.mk (B2.out.trans (hb.mono B2.out.size))
  replace HL := Aside0.mk (Kd.C_below HL.out hb)
  clear hd hb H1
  obtain ⟨adL, Ax, cx, rfl, hx0, hx1, hx2, hx3, hlx, hix⟩ := at_T32 HL.out i i0 i1
  generalize (rd_T32 L i) = x at *
  have HIX := Aside0.mk hix
  have HLX := Aside0.mk hlx
  have DX := Aside0.mk (blk_new w8 (.cells #[.string x.f0, .slice Ax x.f1.length cx, .int .i64 x.f2, .int .i64 x.f3] 32))
  clear hix hlx
  have i1b : decide (i < (L.length : Int)) = true := decide_eq_true i1
  go_wp2_with fail
  clear hx0 hx1 hx2 hx3 i1b
  have hb := (Below.refl w8.heap.size w8).alloc (Nat.le_refl _) (.cells #[.string x.f0, .slice Ax x.f1.length cx, .int .i64 x.f2, .int .i64 x.f3] 32)
  replace D6 := Aside0.mk (blk_below D6.out hb)
  replace B2 := Aside0.mk (B2.out.trans (hb.mono B2.out.size))
  replace HL := Aside0.mk (Kd.C_below HL.out hb)
  replace HIX := Aside0.mk (Kd.C_below HIX.out hb)
  clear hb
  generalize w8.alloc (.cells #[.string x.f0, .slice Ax x.f1.length cx, .int .i64 x.f2, .int .i64 x.f3] 32) = w9 at *
  generalize w8.heap.size = gx at *
  refine (laws_at.calls A1 c1 l1 1 (L.length : Int) j _ (Kd.C_below HR1.out B2.out) HC1.out H2.out).mono ?_
  rintro e w10 ⟨rfl, hd⟩
  have hb := impl_isTermNum.drawn hd
  replace D6 := Aside0.mk (blk_below D6.out hb)
  replace DX := Aside0.mk (blk_below DX.out hb)
  replace B2 := Aside0.mk (B2.out.trans (hb.mono B2.out.size))
  replace HL := Aside0.mk (Kd.C_below HL.out hb)
  replace HIX := Aside0.mk (Kd.C_below HIX.out hb)
  clear hd hb H2
  obtain ⟨adL', Ay, cy, hadL, hx0, hx1, hx2, hx3, hly, hiy⟩ := at_T32 HL.out j j0 j1
  obtain rfl := Option.some.inj hadL
  clear hadL
  generalize (rd_T32 L j) = y at *
  have HIY := Aside0.mk hiy
  have HLY := Aside0.mk hly
  have DY := Aside0.mk (blk_new w10 (.cells #[.string y.f0, .slice Ay y.f1.length cy, .int .i64 y.f2, .int .i64 y.f3] 32))
  clear hiy hly
  have hb := (Below.refl w10.heap.size w10).alloc (Nat.le_refl _) (.cells #[.string y.f0, .slice Ay y.f1.length cy, .int .i64 y.f2, .int .i64 y.f3] 32)
  replace D6 := Aside0.mk (blk_below D6.out hb)
  replace DX := Aside0.mk (blk_below DX.out hb)
  replace B2 := Aside0.mk (B2.out.trans (hb.mono B2.out.size))
  replace HIX := Aside0.mk (Kd.C_below HIX.out hb)
  replace HIY := Aside0.mk (Kd.C_below HIY.out hb)
  clear hb
  have xa0 := (blk_cell DX.out 0).trans rfl
  have xa1 := (blk_cell DX.out 1).trans rfl
  have xa2 := (blk_cell DX.out 2).trans rfl
  have xa3 := (blk_cell DX.out 3).trans rfl
  have ya0 := (blk_cell DY.out 0).trans rfl
  have ya1 := (blk_cell DY.out 1).trans rfl
  have ya2 := (blk_cell DY.out 2).trans rfl
  have ya3 := (blk_cell DY.out 3).trans rfl
  have j1b : decide (j < (L.length : Int)) = true := decide_eq_true j1
  have ht : laws_FnClash.two k x y f0 f1 f2 f3 f4 = some r := HT.out
  unfold laws_FnClash.two at ht
  obtain ⟨⟨g0, g1, g2, g3, g4, cl, gc⟩, h1, ht1⟩ := Option.bind_eq_some_iff.mp ht
  obtain ⟨q, h2, ht2⟩ := Option.bind_eq_some_iff.mp ht1
  obtain ⟨q', h3, ht3⟩ := Option.bind_eq_some_iff.mp ht2
  clear HT ht ht1 ht2
  by_cases hq : laws_FnClash.same q (g0, g1, g2, g3, g4, cl, gc) = true ∧ laws_FnClash.same q' (g0, g1, g2, g3, g4, cl, gc) = true ∧ gc = 0
  rotate_left
  · rw [if_neg hq] at ht3; cases ht3
  rw [if_pos hq] at ht3
  obtain ⟨hq1, hq2, rfl⟩ := hq
  obtain rfl := laws_FnClash.same_eq hq1
  obtain rfl := laws_FnClash.same_eq hq2
  simp only at ht3
  clear hq1 hq2
  have HT := Aside0.mk ht3
  have H1 := Aside0.mk h1
  have H2 := Aside0.mk h2
  have H3 := Aside0.mk h3
  clear ht3 h1 h2 h3
  go_wp2_with fail
  clear xa0 xa1 xa2 xa3 ya0 ya1 ya2 ya3 hx0 hx1 hx2 hx3 j1b
  generalize w10.alloc (.cells #[.string y.f0, .slice Ay y.f1.length cy, .int .i64 y.f2, .int .i64 y.f3] 32) = w11 at *
  generalize w10.heap.size = gy at *
  refine (impl_Clash.calls k x.f0 Ax cx x.f1 x.f2 x.f3 y.f0 Ay cy y.f1 y.f2 y.f3 g0 g1 g2 g3 g4 cl 0 _ HIX.out HLX.out HIY.out HLY.out H1.out).mono ?_
  rintro e w12 ⟨rfl, hb⟩
  replace D6 := Aside0.mk (blk_below D6.out hb)
  replace DX := Aside0.mk (blk_below DX.out hb)
  replace DY := Aside0.mk (blk_below DY.out hb)
  replace B2 := Aside0.mk (B2.out.trans (hb.mono B2.out.size))
  replace HIX := Aside0.mk (Kd.C_below HIX.out hb)
  replace HIY := Aside0.mk (Kd.C_below HIY.out hb)
  clear hb H1
  have hb := (Below.refl w12.heap.size w12).alloc (Nat.le_refl _) (.cells #[.int .i64 g0, .int .i64 g1, .int .i64 g2, .int .i64 g3, .int .i64 g4] 27)
  have DG := Aside0.mk (blk_new w12 (.cells #[.int .i64 g0, .int .i64 g1, .int .i64 g2, .int .i64 g3, .int .i64 g4] 27))
  replace D6 := Aside0.mk (blk_below D6.out hb)
  replace DX := Aside0.mk (blk_below DX.out hb)
  replace DY := Aside0.mk (blk_below DY.out hb)
  replace B2 := Aside0.mk (B2.out.trans (hb.mono B2.out.size))
  replace HIX := Aside0.mk (Kd.C_below HIX.out hb)
  replace HIY := Aside0.mk (Kd.C_below HIY.out hb)
  clear hb
  have xa0 := (blk_cell DX.out 0).trans rfl
  have xa1 := (blk_cell DX.out 1).trans rfl
  have xa2 := (blk_cell DX.out 2).trans rfl
  have xa3 := (blk_cell DX.out 3).trans rfl
  have ya0 := (blk_cell DY.out 0).trans rfl
  have ya1 := (blk_cell DY.out 1).trans rfl
  have ya2 := (blk_cell DY.out 2).trans rfl
  have ya3 := (blk_cell DY.out 3).trans rfl
  go_wp2_with fail
  clear xa0 xa1 xa2 xa3 ya0 ya1 ya2 ya3
  generalize w12.alloc (.cells #[.int .i64 g0, .int .i64 g1, .int .i64 g2, .int .i64 g3, .int .i64 g4] 27) = w13 at *
  generalize w12.heap.size = gg at *
  refine (impl_Clash.calls k y.f0 Ay cy y.f1 y.f2 y.f3 x.f0 Ax cx x.f1 x.f2 x.f3 g0 g1 g2 g3 g4 cl 0 _ HIY.out HLY.out HIX.out HLX.out H2.out).mono ?_
  rintro e w14 ⟨rfl, hb⟩
  replace D6 := Aside0.mk (blk_below D6.out hb)
  replace DX := Aside0.mk (blk_below DX.out hb)
  replace DY := Aside0.mk (blk_below DY.out hb)
  replace DG := Aside0.mk (blk_below DG.out hb)
  replace B2 := Aside0.mk (B2.out.trans (hb.mono B2.out.size))
  replace HIX := Aside0.mk (Kd.C_below HIX.out hb)
  replace HIY := Aside0.mk (Kd.C_below HIY.out hb)
  clear hb H2
  have hb := (Below.refl w14.heap.size w14).alloc (Nat.le_refl _) (.cells #[.int .i64 g0, .int .i64 g1, .int .i64 g2, .int .i64 g3, .int .i64 g4] 27)
  have DH := Aside0.mk (blk_new w14 (.cells #[.int .i64 g0, .int .i64 g1, .int .i64 g2, .int .i64 g3, .int .i64 g4] 27))
  replace D6 := Aside0.mk (blk_below D6.out hb)
  replace DX := Aside0.mk (blk_below DX.out hb)
  replace DY := Aside0.mk (blk_below DY.out hb)
  replace DG := Aside0.mk (blk_below DG.out hb)
  replace B2 := Aside0.mk (B2.out.trans (hb.mono B2.out.size))
  replace HIX := Aside0.mk (Kd.C_below HIX.out hb)
  replace HIY := Aside0.mk (Kd.C_below HIY.out hb)
  clear hb
  have xa0 := (blk_cell DX.out 0).trans rfl
  have xa1 := (blk_cell DX.out 1).trans rfl
  have xa2 := (blk_cell DX.out 2).trans rfl
  have xa3 := (blk_cell DX.out 3).trans rfl
  have ya0 := (blk_cell DY.out 0).trans rfl
  have ya1 := (blk_cell DY.out 1).trans rfl
  have ya2 := (blk_cell DY.out 2).trans rfl
  have ya3 := (blk_cell DY.out 3).trans rfl
  go_wp2_with fail
  clear xa0 xa1 xa2 xa3 ya0 ya1 ya2 ya3
  generalize w14.alloc (.cells #[.int .i64 g0, .int .i64 g1, .int .i64 g2, .int .i64 g3, .int .i64 g4] 27) = w15 at *
  generalize w14.heap.size = gh at *
  refine (spec_Clash.calls k x.f0 Ax cx x.f1 x.f2 x.f3 y.f0 Ay cy y.f1 y.f2 y.f3 g0 g1 g2 g3 g4 cl 0 _ HIX.out HLX.out HIY.out HLY.out H3.out).mono ?_
  rintro e w16 ⟨rfl, hb⟩
  replace D6 := Aside0.mk (blk_below D6.out hb)
  replace DX := Aside0.mk (blk_below DX.out hb)
  replace DY := Aside0.mk (blk_below DY.out hb)
  replace DG := Aside0.mk (blk_below DG.out hb)
  replace DH := Aside0.mk (blk_below DH.out hb)
  replace B2 := Aside0.mk (B2.out.trans (hb.mono B2.out.size))
  replace HIX := Aside0.mk (Kd.C_below HIX.out hb)
  replace HIY := Aside0.mk (Kd.C_below HIY.out hb)
  clear hb H3
  have hb := (Below.refl w16.heap.size w16).alloc (Nat.le_refl _) (.cells #[.int .i64 g0, .int .i64 g1, .int .i64 g2, .int .i64 g3, .int .i64 g4] 27)
  have DQ := Aside0.mk (blk_new w16 (.cells #[.int .i64 g0, .int .i64 g1, .int .i64 g2, .int .i64 g3, .int .i64 g4] 27))
  replace D6 := Aside0.mk (blk_below D6.out hb)
  replace DX := Aside0.mk (blk_below DX.out hb)
  replace DY := Aside0.mk (blk_below DY.out hb)
  replace DG := Aside0.mk (blk_below DG.out hb)
  replace DH := Aside0.mk (blk_below DH.out hb)
  replace B2 := Aside0.mk (B2.out.trans (hb.mono B2.out.size))
  replace HIX := Aside0.mk (Kd.C_below HIX.out hb)
  replace HIY := Aside0.mk (Kd.C_below HIY.out hb)
  clear hb
  go_upto_region 22 with (fail)
  generalize w16.alloc (.cells #[.int .i64 g0, .int .i64 g1, .int .i64 g2, .int .i64 g3, .int .i64 g4] 27) = w17 at *
  generalize w16.heap.size = gq at *
  have xa0 := (blk_cell DX.out 0).trans rfl
  have xa1 := (blk_cell DX.out 1).trans rfl
  have xa2 := (blk_cell DX.out 2).trans rfl
  have xa3 := (blk_cell DX.out 3).trans rfl
  have ya0 := (blk_cell DY.out 0).trans rfl
  have ya1 := (blk_cell DY.out 1).trans rfl
  have ya2 := (blk_cell DY.out 2).trans rfl
  have ya3 := (blk_cell DY.out 3).trans rfl
  have u0 := (blk_cell DG.out 0).trans rfl
  have u1 := (blk_cell DG.out 1).trans rfl
  have u2 := (blk_cell DG.out 2).trans rfl
  have u3 := (blk_cell DG.out 3).trans rfl
  have u4 := (blk_cell DG.out 4).trans rfl
  have v0 := (blk_cell DH.out 0).trans rfl
  have v1 := (blk_cell DH.out 1).trans rfl
  have v2 := (blk_cell DH.out 2).trans rfl
  have v3 := (blk_cell DH.out 3).trans rfl
  have v4 := (blk_cell DH.out 4).trans rfl
  have t0 := (blk_cell DQ.out 0).trans rfl
  have t1 := (blk_cell DQ.out 1).trans rfl
  have t2 := (blk_cell DQ.out 2).trans rfl
  have t3 := (blk_cell DQ.out 3).trans rfl
  have t4 := (blk_cell DQ.out 4).trans rfl
  have s0 := (blk_cell D6.out 0).trans rfl
  have s1 := (blk_cell D6.out 1).trans rfl
  have s2 := (blk_cell D6.out 2).trans rfl
  have s3 := (blk_cell D6.out 3).trans rfl
  have s4 := (blk_cell D6.out 4).trans rfl
  have hcc : (cl != cl) = false := bne_self_eq_false' cl
  have ht := HT.out
  clear HT
  by_cases same : x.f2 = y.f2 ∧ x.f3 = y.f3
  · rw [if_pos same] at ht
    cases cl
    · obtain rfl : true = r := Option.some.inj (show some true = some r from ht)
      have s2 : (x.f2 != y.f2) = false := by rw [same.1]; exact bne_self_eq_false' _
      have s3 : (x.f3 != y.f3) = false := by rw [same.2]; exact bne_self_eq_false' _
      clear same ht
      go_wp2
      go_ret
      exact ⟨rfl, B2.out⟩
    · cases ht
  rw [if_neg same] at ht
  have HT := Aside0.mk ht
  clear ht
  by_cases s2 : x.f2 = y.f2
  · have s3' : ¬ x.f3 = y.f3 := fun q => same ⟨s2, q⟩
    have s2b : (x.f2 != y.f2) = false := by rw [s2]; exact bne_self_eq_false' _
    have s3b : (x.f3 != y.f3) = true := bne_iff_ne.mpr s3'
    clear s2 s3' same
    cases cl
    · obtain ⟨t1, h1, ht⟩ := Option.bind_eq_some_iff.mp (show ((laws_fires.f k x.f0 x.f1 x.f2 x.f3 f0 f1 f2 f3 f4).bind fun t => if t = true then ((laws_fires.f k y.f0 y.f1 y.f2 y.f3 f0 f1 f2 f3 f4).bind fun t => if t = true then none else some true) else some true) = some r from HT.out)
      have H1 := Aside0.mk h1
      have HK := Aside0.mk ht
      clear h1 ht HT
      go_wp2_with fail
      refine (laws_fires.calls k x.f0 Ax cx x.f1 x.f2 x.f3 f0 f1 f2 f3 f4 t1 _ HIX.out HLX.out H1.out).mono ?_
      rintro e w18 ⟨rfl, hb⟩
      replace DX := Aside0.mk (blk_below DX.out hb)
      replace DY := Aside0.mk (blk_below DY.out hb)
      replace DG := Aside0.mk (blk_below DG.out hb)
      replace D6 := Aside0.mk (blk_below D6.out hb)
      replace B2 := Aside0.mk (B2.out.trans (hb.mono B2.out.size))
      replace HIY := Aside0.mk (Kd.C_below HIY.out hb)
      clear hb
      cases t1
      · obtain rfl : true = r := Option.some.inj (show some true = some r from HK.out)
        go_wp2
        go_ret
        exact ⟨rfl, B2.out⟩
      · obtain ⟨t2, h2, ht⟩ := Option.bind_eq_some_iff.mp (show ((laws_fires.f k y.f0 y.f1 y.f2 y.f3 f0 f1 f2 f3 f4).bind fun t => if t = true then none else some true) = some r from HK.out)
        have H2 := Aside0.mk h2
        have HJ := Aside0.mk ht
        clear h2 ht HK
        have ya0 := (blk_cell DY.out 0).trans rfl
        have ya1 := (blk_cell DY.out 1).trans rfl
        have ya2 := (blk_cell DY.out 2).trans rfl
        have ya3 := (blk_cell DY.out 3).trans rfl
        have u0 := (blk_cell D6.out 0).trans rfl
        have u1 := (blk_cell D6.out 1).trans rfl
        have u2 := (blk_cell D6.out 2).trans rfl
        have u3 := (blk_cell D6.out 3).trans rfl
        have u4 := (blk_cell D6.out 4).trans rfl
        go_wp2_with fail
        refine (laws_fires.calls k y.f0 Ay cy y.f1 y.f2 y.f3 f0 f1 f2 f3 f4 t2 _ HIY.out HLY.out H2.out).mono ?_
        rintro e w19 ⟨rfl, hb⟩
        replace B2 := Aside0.mk (B2.out.trans (hb.mono B2.out.size))
        clear hb
        cases t2
        · obtain rfl : true = r := Option.some.inj (show some true = some r from HJ.out)
          go_wp2
          go_ret
          exact ⟨rfl, B2.out⟩
        · cases (show (none : Option Bool) = some r from HJ.out)
    · obtain ⟨t1, h1, ht⟩ := Option.bind_eq_some_iff.mp (show ((laws_fires.f k x.f0 x.f1 x.f2 x.f3 g0 g1 g2 g3 g4).bind fun t => if t = true then ((laws_fires.f k y.f0 y.f1 y.f2 y.f3 g0 g1 g2 g3 g4).bind fun t => if t = true then some true else none) else none) = some r from HT.out)
      have H1 := Aside0.mk h1
      have HK := Aside0.mk ht
      clear h1 ht HT
      go_wp2_with fail
      refine (laws_fires.calls k x.f0 Ax cx x.f1 x.f2 x.f3 g0 g1 g2 g3 g4 t1 _ HIX.out HLX.out H1.out).mono ?_
      rintro e w18 ⟨rfl, hb⟩
      replace DX := Aside0.mk (blk_below DX.out hb)
      replace DY := Aside0.mk (blk_below DY.out hb)
      replace DG := Aside0.mk (blk_below DG.out hb)
      replace D6 := Aside0.mk (blk_below D6.out hb)
      replace B2 := Aside0.mk (B2.out.trans (hb.mono B2.out.size))
      replace HIY := Aside0.mk (Kd.C_below HIY.out hb)
      clear hb
      cases t1
      · cases (show (none : Option Bool) = some r from HK.out)
      · obtain ⟨t2, h2, ht⟩ := Option.bind_eq_some_iff.mp (show ((laws_fires.f k y.f0 y.f1 y.f2 y.f3 g0 g1 g2 g3 g4).bind fun t => if t = true then some true else none) = some r from HK.out)
        have H2 := Aside0.mk h2
        have HJ := Aside0.mk ht
        clear h2 ht HK
        have ya0 := (blk_cell DY.out 0).trans rfl
        have ya1 := (blk_cell DY.out 1).trans rfl
        have ya2 := (blk_cell DY.out 2).trans rfl
        have ya3 := (blk_cell DY.out 3).trans rfl
        have u0 := (blk_cell DG.out 0).trans rfl
        have u1 := (blk_cell DG.out 1).trans rfl
        have u2 := (blk_cell DG.out 2).trans rfl
        have u3 := (blk_cell DG.out 3).trans rfl
        have u4 := (blk_cell DG.out 4).trans rfl
        go_wp2_with fail
        refine (laws_fires.calls k y.f0 Ay cy y.f1 y.f2 y.f3 g0 g1 g2 g3 g4 t2 _ HIY.out HLY.out H2.out).mono ?_
        rintro e w19 ⟨rfl, hb⟩
        replace B2 := Aside0.mk (B2.out.trans (hb.mono B2.out.size))
        clear hb
        cases t2
        · cases (show (none : Option Bool) = some r from HJ.out)
        · obtain rfl : true = r := Option.some.inj (show some true = some r from HJ.out)
          go_wp2
          go_ret
          exact ⟨rfl, B2.out⟩
  · have s2b : (x.f2 != y.f2) = true := bne_iff_ne.mpr s2
    clear s2 same
    cases cl
    · obtain ⟨t1, h1, ht⟩ := Option.bind_eq_some_iff.mp (show ((laws_fires.f k x.f0 x.f1 x.f2 x.f3 f0 f1 f2 f3 f4).bind fun t => if t = true then ((laws_fires.f k y.f0 y.f1 y.f2 y.f3 f0 f1 f2 f3 f4).bind fun t => if t = true then none else some true) else some true) = some r from HT.out)
      have H1 := Aside0.mk h1
      have HK := Aside0.mk ht
      clear h1 ht HT
      go_wp2_with fail
      refine (laws_fires.calls k x.f0 Ax cx x.f1 x.f2 x.f3 f0 f1 f2 f3 f4 t1 _ HIX.out HLX.out H1.out).mono ?_
      rintro e w18 ⟨rfl, hb⟩
      replace DX := Aside0.mk (blk_below DX.out hb)
      replace DY := Aside0.mk (blk_below DY.out hb)
      replace DG := Aside0.mk (blk_below DG.out hb)
      replace D6 := Aside0.mk (blk_below D6.out hb)
      replace B2 := Aside0.mk (B2.out.trans (hb.mono B2.out.size))
      replace HIY := Aside0.mk (Kd.C_below HIY.out hb)
      clear hb
      cases t1
      · obtain rfl : true = r := Option.some.inj (show some true = some r from HK.out)
        go_wp2
        go_ret
        exact ⟨rfl, B2.out⟩
      · obtain ⟨t2, h2, ht⟩ := Option.bind_eq_some_iff.mp (show ((laws_fires.f k y.f0 y.f1 y.f2 y.f3 f0 f1 f2 f3 f4).bind fun t => if t = true then none else some true) = some r from HK.out)
        have H2 := Aside0.mk h2
        have HJ := Aside0.mk ht
        clear h2 ht HK
        have ya0 := (blk_cell DY.out 0).trans rfl
        have ya1 := (blk_cell DY.out 1).trans rfl
        have ya2 := (blk_cell DY.out 2).trans rfl
        have ya3 := (blk_cell DY.out 3).trans rfl
        have u0 := (blk_cell D6.out 0).trans rfl
        have u1 := (blk_cell D6.out 1).trans rfl
        have u2 := (blk_cell D6.out 2).trans rfl
        have u3 := (blk_cell D6.out 3).trans rfl
        have u4 := (blk_cell D6.out 4).trans rfl
        go_wp2_with fail
        refine (laws_fires.calls k y.f0 Ay cy y.f1 y.f2 y.f3 f0 f1 f2 f3 f4 t2 _ HIY.out HLY.out H2.out).mono ?_
        rintro e w19 ⟨rfl, hb⟩
        replace B2 := Aside0.mk (B2.out.trans (hb.mono B2.out.size))
        clear hb
        cases t2
        · obtain rfl : true = r := Option.some.inj (show some true = some r from HJ.out)
          go_wp2
          go_ret
          exact ⟨rfl, B2.out⟩
        · cases (show (none : Option Bool) = some r from HJ.out)
    · obtain ⟨t1, h1, ht⟩ := Option.bind_eq_some_iff.mp (show ((laws_fires.f k x.f0 x.f1 x.f2 x.f3 g0 g1 g2 g3 g4).bind fun t => if t = true then ((laws_fires.f k y.f0 y.f1 y.f2 y.f3 g0 g1 g2 g3 g4).bind fun t => if t = true then some true else none) else none) = some r from HT.out)
      have H1 := Aside0.mk h1
      have HK := Aside0.mk ht
      clear h1 ht HT
      go_wp2_with fail
      refine (laws_fires.calls k x.f0 Ax cx x.f1 x.f2 x.f3 g0 g1 g2 g3 g4 t1 _ HIX.out HLX.out H1.out).mono ?_
      rintro e w18 ⟨rfl, hb⟩
      replace DX := Aside0.mk (blk_below DX.out hb)
      replace DY := Aside0.mk (blk_below DY.out hb)
      replace DG := Aside0.mk (blk_below DG.out hb)
      replace D6 := Aside0.mk (blk_below D6.out hb)
      replace B2 := Aside0.mk (B2.out.trans (hb.mono B2.out.size))
      replace HIY := Aside0.mk (Kd.C_below HIY.out hb)
      clear hb
      cases t1
      · cases (show (none : Option Bool) = some r from HK.out)
      · obtain ⟨t2, h2, ht⟩ := Option.bind_eq_some_iff.mp (show ((laws_fires.f k y.f0 y.f1 y.f2 y.f3 g0 g1 g2 g3 g4).bind fun t => if t = true then some true else none) = some r from HK.out)
        have H2 := Aside0.mk h2
        have HJ := Aside0.mk ht
        clear h2 ht HK
        have ya0 := (blk_cell DY.out 0).trans rfl
        have ya1 := (blk_cell DY.out 1).trans rfl
        have ya2 := (blk_cell DY.out 2).trans rfl
        have ya3 := (blk_cell DY.out 3).trans rfl
        have u0 := (blk_cell DG.out 0).trans rfl
        have u1 := (blk_cell DG.out 1).trans rfl
        have u2 := (blk_cell DG.out 2).trans rfl
        have u3 := (blk_cell DG.out 3).trans rfl
        have u4 := (blk_cell DG.out 4).trans rfl
        go_wp2_with fail
        refine (laws_fires.calls k y.f0 Ay cy y.f1 y.f2 y.f3 g0 g1 g2 g3 g4 t2 _ HIY.out HLY.out H2.out).mono ?_
        rintro e w19 ⟨rfl, hb⟩
        replace B2 := Aside0.mk (B2.out.trans (hb.mono B2.out.size))
        clear hb
        cases t2
        · cases (show (none : Option Bool) = some r from HJ.out)
        · obtain rfl : true = r := Option.some.inj (show some true = some r from HJ.out)
          go_wp2
          go_ret
          exact ⟨rfl, B2.out⟩

end Go.Proofs.Ytaablbglkfpbpaa.PAll
