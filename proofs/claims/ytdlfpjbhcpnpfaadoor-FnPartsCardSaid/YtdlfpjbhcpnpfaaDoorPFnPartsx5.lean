-- Written by wip/tools/hp.py over the kit's print (not by hand): functions and walks of FnParts.
import Derived.Test.YtdlfpjbhcpnpfaaDoorPFnPartsx0
import Derived.Test.YtdlfpjbhcpnpfaaDoorPFnPartsx1
import Derived.Test.YtdlfpjbhcpnpfaaDoorPFnPartsx2
import Derived.Test.YtdlfpjbhcpnpfaaDoorPFnPartsx3
import Derived.Test.YtdlfpjbhcpnpfaaDoorPFnPartsx4
namespace Go.Proofs.YtdlfpjbhcpnpfaaDoor.PFnParts
open Go.RowKit Go.Proofs.YtdlfpjbhcpnpfaaDoorW.PrintWords Go.Proofs.YtdlfpjbhcpnpfaaDoorW.PrintLast Go.Proofs.YtdlfpjbhcpnpfaaDoorW.PrintMore
attribute [local go_sem] max2_int min2_int max_two min_two max_three min_three max_four min_four   -- for this text's walks alone
set_option linter.unusedVariables false
set_option linter.unusedSimpArgs false

/-! ### spec_l01Round: function 53 -/
mutual
def spec_l01Round.j0 : Nat → Int → Int → Int → Int → Int → Bool → Option (Int)
 | 0, _, _, _, _, _, _ => none
 | k + 1, x0, x1, x2, x7, x8, x17 => if x17 = true then (some x7) else (if x2 = 2 then (spec_l01Round.j1 k x0 x1 x2 x7 x8 true) else (spec_l01Round.j1 k x0 x1 x2 x7 x8 (decide ((wrap64 (2 * x8)) > x1))))
def spec_l01Round.j1 : Nat → Int → Int → Int → Int → Int → Bool → Option (Int)
 | 0, _, _, _, _, _, _ => none
 | k + 1, x0, x1, x2, x7, x8, x25 => if x25 = true then (some (wrap64 (x7 + 1))) else (if (wrap64 (2 * x8)) < x1 then (some x7) else (if x2 = 3 then (some (wrap64 (x7 + (Go.bits .and .i64 x7 1)))) else (if x0 < 0 then (some x7) else (some (wrap64 (x7 + 1))))))
end
def spec_l01Round.f (k : Nat) (a0 : Int) (a1 : Int) (a2 : Int) : Option (Int) := (spec_l01Floor.f a0 a1).bind fun t175 => (if (wrap64 (a0 - (wrap64 (t175 * a1)))) = 0 then (spec_l01Round.j0 k a0 a1 a2 t175 (wrap64 (a0 - (wrap64 (t175 * a1)))) true) else (spec_l01Round.j0 k a0 a1 a2 t175 (wrap64 (a0 - (wrap64 (t175 * a1)))) (a2 == 1)))
theorem spec_l01Round.mono_l : ∀ k, (∀ y0 y1 y2 y3 y4 y5, LeO (spec_l01Round.j0 k y0 y1 y2 y3 y4 y5) (spec_l01Round.j0 (k + 1) y0 y1 y2 y3 y4 y5)) ∧ (∀ y0 y1 y2 y3 y4 y5, LeO (spec_l01Round.j1 k y0 y1 y2 y3 y4 y5) (spec_l01Round.j1 (k + 1) y0 y1 y2 y3 y4 y5))
 | 0 => ⟨fun _ _ _ _ _ _ r h => by simp [spec_l01Round.j0] at h, fun _ _ _ _ _ _ r h => by simp [spec_l01Round.j1] at h⟩
 | k + 1 => by
  obtain ⟨ih0, ih1⟩ := spec_l01Round.mono_l k; refine ⟨?_, ?_⟩
  ·intro y0 y1 y2 y3 y4 y5; unfold spec_l01Round.j0
   repeat' first
   | (with_reducible exact ih0 _ _ _ _ _ _)
   | (with_reducible exact ih1 _ _ _ _ _ _)
   | (with_reducible exact LeO.refl _)
   | (with_reducible exact LeO.none _)
   | (with_reducible refine LeO.ite ?_ ?_)
   | (with_reducible refine LeO.bind ?_ (fun _ => ?_))
   | exact ih0 _ _ _ _ _ _
   | exact ih1 _ _ _ _ _ _
   | exact LeO.none _
   | refine LeO.ite ?_ ?_
   | refine LeO.bind ?_ (fun _ => ?_)
  ·intro y0 y1 y2 y3 y4 y5; unfold spec_l01Round.j1
   repeat' first
   | (with_reducible exact ih0 _ _ _ _ _ _)
   | (with_reducible exact ih1 _ _ _ _ _ _)
   | (with_reducible exact LeO.refl _)
   | (with_reducible exact LeO.none _)
   | (with_reducible refine LeO.ite ?_ ?_)
   | (with_reducible refine LeO.bind ?_ (fun _ => ?_))
   | exact ih0 _ _ _ _ _ _
   | exact ih1 _ _ _ _ _ _
   | exact LeO.none _
   | refine LeO.ite ?_ ?_
   | refine LeO.bind ?_ (fun _ => ?_)
theorem spec_l01Round.mono : ∀ a0 a1 a2 k, LeO (spec_l01Round.f k a0 a1 a2) (spec_l01Round.f (k + 1) a0 a1 a2) := by
 intro a0 a1 a2 k; obtain ⟨ih0, ih1⟩ := spec_l01Round.mono_l k; unfold spec_l01Round.f
 repeat' first
   | (with_reducible exact ih0 _ _ _ _ _ _)
   | (with_reducible exact ih1 _ _ _ _ _ _)
   | (with_reducible exact LeO.refl _)
   | (with_reducible exact LeO.none _)
   | (with_reducible refine LeO.ite ?_ ?_)
   | (with_reducible refine LeO.bind ?_ (fun _ => ?_))
   | exact ih0 _ _ _ _ _ _
   | exact ih1 _ _ _ _ _ _
   | exact LeO.none _
   | refine LeO.ite ?_ ?_
   | refine LeO.bind ?_ (fun _ => ?_)
set_option maxHeartbeats 8000000 in
set_option maxRecDepth 100000 in
theorem spec_l01Round.calls (k : Nat) (a0 : Int) (a1 : Int) (a2 : Int) (r : Int) (w : World) (h : spec_l01Round.f k a0 a1 a2 = some r) :
  Calls Tryd.prog 53 #[.int .i64 a0, .int .i64 a1, .int .i64 a2] w fun e w' => e = .returned (.int .i64 r) ∧ Drawn0 w w' := by
 have H : ((spec_l01Floor.f a0 a1).bind fun t175 => (if (wrap64 (a0 - (wrap64 (t175 * a1)))) = 0 then (spec_l01Round.j0 k a0 a1 a2 t175 (wrap64 (a0 - (wrap64 (t175 * a1)))) true) else (spec_l01Round.j0 k a0 a1 a2 t175 (wrap64 (a0 - (wrap64 (t175 * a1)))) (a2 == 1)))) = some r := h; clear h; replace H := Option.bind_eq_some_iff.mp H; obtain ⟨t175, A40, H⟩ := H; replace H : (if (wrap64 (a0 - (wrap64 (t175 * a1)))) = 0 then (spec_l01Round.j0 k a0 a1 a2 t175 (wrap64 (a0 - (wrap64 (t175 * a1)))) true) else (spec_l01Round.j0 k a0 a1 a2 t175 (wrap64 (a0 - (wrap64 (t175 * a1)))) (a2 == 1))) = some r := H; have A4 := Aside0.mk A40; clear A40; have HC5 := Aside0.mk H; clear H; go_enter Tryd.func53, Tryd.ntmps53
 go_upto_region 3 with (first | ((with_reducible refine gate_callee (f := 66) rfl ?_); refine goesL_ (some 11) rfl rfl Tryd.func66 (by kernel_rfl) rfl #[.int .i64 a0, .int .i64 a1] rfl mq ?_; (with_reducible refine (spec_l01Floor.calls a0 a1 t175 _ A4.out).mono ?_); rintro e w' ⟨rfl, ⟨nd, rfl⟩⟩; refine ⟨_, rfl, ?_⟩))
 (try simp only [Act.put, sA, s0, sS])
 go_cut [17] (fun v17 wc => ∃ (kq : Nat) (x17_4 : Bool), v17 = .bool x17_4 ∧ Aside0 (spec_l01Round.j0 kq a0 a1 a2 t175 (wrap64 (a0 - (wrap64 (t175 * a1)))) x17_4 = some r) ∧ Aside0 (kq ≤ k) ∧ Drawn0 w wc)
 case first =>
  have H := HC5.out; clear HC5; by_cases c6 : (wrap64 (a0 - (wrap64 (t175 * a1)))) = 0
  ·rw [if_pos c6] at H; have c6b0 : ((wrap64 (a0 - (wrap64 (t175 * a1)))) == 0) = true := beq_iff_eq.mpr c6; have c6b1 : ((wrap64 (a0 - (wrap64 (t175 * a1)))) != 0) = false := bne_eq_false_iff_eq.mpr c6; clear c6
   (first | rw [c6b0] | (simp only [i64_w, i32_w]; rw [c6b0]) | skip)
   have H' := Aside0.mk H; clear H; go_wp2
   go_meet
   case rel => exact ⟨_, (true), (by first | rfl | (simp; done) | (simp [*]; done)), H', ⟨by first | omega | exact Nat.le_refl _⟩, by repeat (first | exact Drawn0.refl _ | apply Drawn0.step)⟩
  ·rw [if_neg c6] at H; have c6b0 : ((wrap64 (a0 - (wrap64 (t175 * a1)))) == 0) = false := beq_eq_false_iff_ne.mpr c6; have c6b1 : ((wrap64 (a0 - (wrap64 (t175 * a1)))) != 0) = true := bne_iff_ne.mpr c6
   (first | rw [c6b0] | (simp only [i64_w, i32_w]; rw [c6b0]) | skip)
   have H' := Aside0.mk H; clear H; go_wp2
   go_meet
   case rel => exact ⟨_, ((a2 == 1)), (by first | rfl | (simp; done) | (simp [*]; done)), H', ⟨by first | omega | exact Nat.le_refl _⟩, by repeat (first | exact Drawn0.refl _ | apply Drawn0.step)⟩
 case rest =>
  clear HC5; (try clear p2); (try clear c5); (try clear c6); (try clear c6b0); (try clear c6b1); (try clear p6); obtain ⟨kq, x17_4, rfl, HA, HJ4, ⟨mc4, rfl⟩⟩ := hcut
  cases kq with
  | zero => exact absurd HA.out (by simp [spec_l01Round.j0])
  | succ kj4 =>
   have H := HA.out; clear HA; simp only [spec_l01Round.j0] at H; by_cases c7 : x17_4 = true
   ·subst c7
    have H1 : (some t175) = some r := by rw [if_pos rfl] at H; exact H
    clear H; have H := H1; clear H1; obtain rfl := Option.some.inj H; go_wp2; go_ret; exact ⟨by first | rfl | (simp; done) | (simp [*]; done), by repeat (first | exact Drawn0.refl _ | apply Drawn0.step)⟩
   ·replace c7 := Bool.eq_false_iff.mpr c7; subst c7
    have H1 : (if a2 = 2 then (spec_l01Round.j1 kj4 a0 a1 a2 t175 (wrap64 (a0 - (wrap64 (t175 * a1)))) true) else (spec_l01Round.j1 kj4 a0 a1 a2 t175 (wrap64 (a0 - (wrap64 (t175 * a1)))) (decide ((wrap64 (2 * (wrap64 (a0 - (wrap64 (t175 * a1)))))) > a1)))) = some r := by rw [if_neg (show ¬ (false = true) by decide)] at H; exact H
    clear H; have H := H1; clear H1; have HC8 := Aside0.mk H; clear H
    go_upto_region 5 with (fail)
    go_cut [25] (fun v25 wc => ∃ (kq : Nat) (x25_7 : Bool), v25 = .bool x25_7 ∧ Aside0 (spec_l01Round.j1 kq a0 a1 a2 t175 (wrap64 (a0 - (wrap64 (t175 * a1)))) x25_7 = some r) ∧ Aside0 (kq ≤ kj4) ∧ Drawn0 w wc)
    case first =>
     have H := HC8.out; clear HC8; by_cases c9 : a2 = 2
     ·rw [if_pos c9] at H; have c9b0 : (a2 == 2) = true := beq_iff_eq.mpr c9; have c9b1 : (a2 != 2) = false := bne_eq_false_iff_eq.mpr c9; clear c9
      (first | rw [c9b0] | (simp only [i64_w, i32_w]; rw [c9b0]) | skip)
      have H' := Aside0.mk H; clear H; go_wp2
      go_meet
      case rel => exact ⟨_, (true), (by first | rfl | (simp; done) | (simp [*]; done)), H', ⟨by have := HJ4.out; first | omega | exact Nat.le_refl _⟩, by repeat (first | exact Drawn0.refl _ | apply Drawn0.step)⟩
     ·rw [if_neg c9] at H; have c9b0 : (a2 == 2) = false := beq_eq_false_iff_ne.mpr c9; have c9b1 : (a2 != 2) = true := bne_iff_ne.mpr c9
      (first | rw [c9b0] | (simp only [i64_w, i32_w]; rw [c9b0]) | skip)
      have H' := Aside0.mk H; clear H; go_wp2
      go_meet
      case rel => exact ⟨_, (decide ((wrap64 (2 * (wrap64 (a0 - (wrap64 (t175 * a1)))))) > a1)), (by first | rfl | (simp; done) | (simp [*]; done)), H', ⟨by have := HJ4.out; first | omega | exact Nat.le_refl _⟩, by repeat (first | exact Drawn0.refl _ | apply Drawn0.step)⟩
    case rest =>
     clear HC8; (try clear p2); (try clear c4); (try clear c5); (try clear c6); (try clear c6b0); (try clear c6b1); (try clear p6); (try clear c7); (try clear c9); (try clear c9b0); (try clear c9b1); (try clear p2); (try clear p6); obtain ⟨kq, x25_7, rfl, HA, HJ7, ⟨mc7, rfl⟩⟩ := hcut
     cases kq with
     | zero => exact absurd HA.out (by simp [spec_l01Round.j1])
     | succ kj7 =>
      have H := HA.out; clear HA; simp only [spec_l01Round.j1] at H; by_cases c10 : x25_7 = true
      ·subst c10
       have H1 : (some (wrap64 (t175 + 1))) = some r := by rw [if_pos rfl] at H; exact H
       clear H; have H := H1; clear H1; obtain rfl := Option.some.inj H; go_wp2; go_ret; exact ⟨by first | rfl | (simp; done) | (simp [*]; done), by repeat (first | exact Drawn0.refl _ | apply Drawn0.step)⟩
      ·replace c10 := Bool.eq_false_iff.mpr c10; subst c10
       have H1 : (if (wrap64 (2 * (wrap64 (a0 - (wrap64 (t175 * a1)))))) < a1 then (some t175) else (if a2 = 3 then (some (wrap64 (t175 + (Go.bits .and .i64 t175 1)))) else (if a0 < 0 then (some t175) else (some (wrap64 (t175 + 1)))))) = some r := by rw [if_neg (show ¬ (false = true) by decide)] at H; exact H
       clear H; have H := H1; clear H1; by_cases c11 : (wrap64 (2 * (wrap64 (a0 - (wrap64 (t175 * a1)))))) < a1
       ·rw [if_pos c11] at H; have c11b0 : decide ((wrap64 (2 * (wrap64 (a0 - (wrap64 (t175 * a1)))))) < a1) = true := decide_eq_true c11; clear c11; obtain rfl := Option.some.inj H; go_wp2; go_ret; exact ⟨by first | rfl | (simp; done) | (simp [*]; done), by repeat (first | exact Drawn0.refl _ | apply Drawn0.step)⟩
       ·rw [if_neg c11] at H; have c11b0 : decide ((wrap64 (2 * (wrap64 (a0 - (wrap64 (t175 * a1)))))) < a1) = false := decide_eq_false c11; clear c11; by_cases c12 : a2 = 3
        ·rw [if_pos c12] at H; have c12b0 : (a2 == 3) = true := beq_iff_eq.mpr c12; have c12b1 : (a2 != 3) = false := bne_eq_false_iff_eq.mpr c12; clear c12; obtain rfl := Option.some.inj H; go_wp2; go_ret; exact ⟨by first | rfl | (simp; done) | (simp [*]; done), by repeat (first | exact Drawn0.refl _ | apply Drawn0.step)⟩
        ·rw [if_neg c12] at H; have c12b0 : (a2 == 3) = false := beq_eq_false_iff_ne.mpr c12; have c12b1 : (a2 != 3) = true := bne_iff_ne.mpr c12; by_cases c13 : a0 < 0
         ·rw [if_pos c13] at H; have c13b0 : decide (a0 < 0) = true := decide_eq_true c13; clear c13; obtain rfl := Option.some.inj H; go_wp2; go_ret; exact ⟨by first | rfl | (simp; done) | (simp [*]; done), by repeat (first | exact Drawn0.refl _ | apply Drawn0.step)⟩
         ·rw [if_neg c13] at H; have c13b0 : decide (a0 < 0) = false := decide_eq_false c13; clear c13; obtain rfl := Option.some.inj H; go_wp2; go_ret; exact ⟨by first | rfl | (simp; done) | (simp [*]; done), by repeat (first | exact Drawn0.refl _ | apply Drawn0.step)⟩

/-! ### spec_Part: function 24 -/
def spec_Part.j0 : Nat → Int → Int → Bool → Int → Int → Option (Int × Int)
 | 0, _, _, _, _, _ => none
 | k + 1, x0, x2, x15, x177000, x177001 => if x15 = true then (some (0, 1)) else ((spec_l01Mode.f x2).bind fun t179 => (if t179 = true then ((spec_l01Round.f k (wrap64 (x0 * x177000)) x177001 x2).bind fun t180 => ((spec_l01Told.f t180).bind fun bt181 => (some (bt181.1, bt181.2)))) else (some (0, 13))))
def spec_Part.f (k : Nat) (a0 : Int) (a1_0 : Int) (a1_1 : Int) (a2 : Int) : Option (Int × Int) := (spec_l01Money.f a0).bind fun t177 => (if t177 = true then ((spec_RateOK.f a1_0 a1_1).bind fun t178 => (spec_Part.j0 k a0 a2 (!t178) a1_0 a1_1)) else (spec_Part.j0 k a0 a2 true a1_0 a1_1))
theorem spec_Part.mono_l : ∀ k, (∀ y0 y1 y2 y3 y4, LeO (spec_Part.j0 k y0 y1 y2 y3 y4) (spec_Part.j0 (k + 1) y0 y1 y2 y3 y4))
 | 0 => fun _ _ _ _ _ r h => by simp [spec_Part.j0] at h
 | k + 1 => by
  have ih0 := spec_Part.mono_l k
  ·intro y0 y1 y2 y3 y4; unfold spec_Part.j0
   repeat' first
   | (with_reducible exact ih0 _ _ _ _ _)
   | (with_reducible exact spec_l01Round.mono _ _ _ _)
   | (with_reducible exact LeO.refl _)
   | (with_reducible exact LeO.none _)
   | (with_reducible refine LeO.ite ?_ ?_)
   | (with_reducible refine LeO.bind ?_ (fun _ => ?_))
   | exact ih0 _ _ _ _ _
   | exact spec_l01Round.mono _ _ _ _
   | exact LeO.none _
   | refine LeO.ite ?_ ?_
   | refine LeO.bind ?_ (fun _ => ?_)
theorem spec_Part.mono : ∀ a0 a1 a2 a3 k, LeO (spec_Part.f k a0 a1 a2 a3) (spec_Part.f (k + 1) a0 a1 a2 a3) := by
 intro a0 a1 a2 a3 k; have ih0 := spec_Part.mono_l k; unfold spec_Part.f
 repeat' first
   | (with_reducible exact ih0 _ _ _ _ _)
   | (with_reducible exact spec_l01Round.mono _ _ _ _)
   | (with_reducible exact LeO.refl _)
   | (with_reducible exact LeO.none _)
   | (with_reducible refine LeO.ite ?_ ?_)
   | (with_reducible refine LeO.bind ?_ (fun _ => ?_))
   | exact ih0 _ _ _ _ _
   | exact spec_l01Round.mono _ _ _ _
   | exact LeO.none _
   | refine LeO.ite ?_ ?_
   | refine LeO.bind ?_ (fun _ => ?_)
set_option maxHeartbeats 8000000 in
set_option maxRecDepth 100000 in
theorem spec_Part.calls (k : Nat) (a0 : Int) (a1_0 : Int) (a1_1 : Int) (a2 : Int) (r1 : Int) (r2 : Int) (w : World) (h : spec_Part.f k a0 a1_0 a1_1 a2 = some (r1, r2)) :
  Calls Tryd.prog 24 #[.int .i64 a0, .agg #[.int .i64 a1_0, .int .i64 a1_1], .int .i64 a2] w fun e w' => e = .returned (.tuple #[.int .i64 r1, .int .i64 r2]) ∧ Below w.heap.size w w' := by
 have hu40 := Tryd.underlying40; have HB := Aside0.mk (Below.refl w.heap.size w); have H : ((spec_l01Money.f a0).bind fun t177 => (if t177 = true then ((spec_RateOK.f a1_0 a1_1).bind fun t178 => (spec_Part.j0 k a0 a2 (!t178) a1_0 a1_1)) else (spec_Part.j0 k a0 a2 true a1_0 a1_1))) = some (r1, r2) := h; clear h; have HC4 := Aside0.mk H; clear H; go_enter Tryd.func24, Tryd.ntmps24
 go_upto_region 1 with (first | ((with_reducible refine gate_dst (N := 4) rfl ?_); refine box_event ?hg (N := 4) ?hd (cs := #[.int .i64 a1_0, .int .i64 a1_1]) (t := 40) ?hr ?_; (case hd => rfl); (case hg => rfl); (case hr => first | (go_simp; done) | (go_simp; rfl)); intro gb176 hg w5 hbox hb; have n0_ := Aside0.mk (below_step (qb HB) hb); have n1_ := Aside0.mk (hbox); have n2_ := Aside0.mk ((by rw [hg]; exact (below_size (qb HB)) : w.heap.size ≤ gb176)); have n3_ := Aside0.mk ((by rw [hg]; exact (below_size (qb HB)) : w.heap.size ≤ gb176)); clear HB; have HB := n0_; have BK176 := n1_; have GW176 := n2_; have GE176 := n3_; clear n0_ n1_ n2_ n3_; clear hb hbox hg))
 (try simp only [Act.put, sA, s0, sS])
 go_cut [15] (fun v15 wc => ∃ (kq : Nat) (x15_3 : Bool), v15 = .bool x15_3 ∧ Aside0 (spec_Part.j0 kq a0 a2 x15_3 a1_0 a1_1 = some (r1, r2)) ∧ Aside0 (kq ≤ k) ∧ Aside0 (wc.heap[gb176]? = some (.cells #[.int .i64 a1_0, .int .i64 a1_1] 40 (0, 0))) ∧ Aside0 (Below w.heap.size w wc))
 case first =>
  have H := HC4.out; clear HC4; replace H := Option.bind_eq_some_iff.mp H; obtain ⟨t177, A60, H⟩ := H; replace H : (if t177 = true then ((spec_RateOK.f a1_0 a1_1).bind fun t178 => (spec_Part.j0 k a0 a2 (!t178) a1_0 a1_1)) else (spec_Part.j0 k a0 a2 true a1_0 a1_1)) = some (r1, r2) := H; have A6 := Aside0.mk A60; clear A60; by_cases c7 : t177 = true
  ·subst c7
   have H1 : ((spec_RateOK.f a1_0 a1_1).bind fun t178 => (spec_Part.j0 k a0 a2 (!t178) a1_0 a1_1)) = some (r1, r2) := by rw [if_pos rfl] at H; exact H
   clear H; have H := H1; clear H1; replace H := Option.bind_eq_some_iff.mp H; obtain ⟨t178, A80, H⟩ := H; replace H : (spec_Part.j0 k a0 a2 (!t178) a1_0 a1_1) = some (r1, r2) := H; have A8 := Aside0.mk A80; clear A80; have H' := Aside0.mk H; clear H
   go_wp2_with (first | ((with_reducible refine gate_callee (f := 26) rfl ?_); refine goesL_ (some 9) rfl rfl Tryd.func26 (by kernel_rfl) rfl #[.int .i64 a0] rfl mq ?_; (with_reducible refine (spec_l01Money.calls a0 true _ A6.out).mono ?_); rintro e w' ⟨rfl, ⟨nd, rfl⟩⟩; refine ⟨_, rfl, ?_⟩; obtain ⟨hcz9_0, hcz9_1, hfz9_0, hfz9_1⟩ := bz2 BK176) | (go_at_call 51; (with_reducible refine (spec_RateOK.calls a1_0 a1_1 t178 _ A8.out).mono ?_); rintro e w10 ⟨rfl, hb⟩; have n0_ := Aside0.mk (blk_below (bq BK176) hb); have n1_ := Aside0.mk (below_step (qb HB) hb); clear BK176; clear HB; have BK176 := n0_; have HB := n1_; clear n0_ n1_; (try clear hb); (try clear hb2); (try clear hk); (try clear hi)))
   go_meet
   case rel => exact ⟨_, (!t178), (by first | rfl | (simp; done) | (simp [*]; done)), H', ⟨by first | omega | exact Nat.le_refl _⟩, ⟨bq BK176⟩, ⟨qb HB⟩⟩
  ·replace c7 := Bool.eq_false_iff.mpr c7; subst c7
   have H1 : (spec_Part.j0 k a0 a2 true a1_0 a1_1) = some (r1, r2) := by rw [if_neg (show ¬ (false = true) by decide)] at H; exact H
   clear H; have H := H1; clear H1; have H' := Aside0.mk H; clear H
   go_wp2_with (first | ((with_reducible refine gate_callee (f := 26) rfl ?_); refine goesL_ (some 9) rfl rfl Tryd.func26 (by kernel_rfl) rfl #[.int .i64 a0] rfl mq ?_; (with_reducible refine (spec_l01Money.calls a0 false _ A6.out).mono ?_); rintro e w' ⟨rfl, ⟨nd, rfl⟩⟩; refine ⟨_, rfl, ?_⟩))
   go_meet
   case rel => exact ⟨_, (true), (by first | rfl | (simp; done) | (simp [*]; done)), H', ⟨by first | omega | exact Nat.le_refl _⟩, ⟨bq BK176⟩, ⟨qb HB⟩⟩
 case rest =>
  clear HC4; (try clear c2); (try clear p2); (try clear c7); (try clear hcz9_0); (try clear hcz9_1); (try clear hfz9_0); (try clear hfz9_1); obtain ⟨kq, x15_3, rfl, HA, HJ3, BK176, HB⟩ := hcut
  cases kq with
  | zero => exact absurd HA.out (by simp [spec_Part.j0])
  | succ kj3 =>
   have H := HA.out; clear HA; simp only [spec_Part.j0] at H; by_cases c11 : x15_3 = true
   ·subst c11
    have H1 : (some (0, 1)) = some (r1, r2) := by rw [if_pos rfl] at H; exact H
    clear H; have H := H1; clear H1; simp only [Option.some.injEq, Prod.mk.injEq] at H; obtain ⟨rfl, rfl⟩ := H; go_wp2; go_ret2; exact ⟨eqq, qb HB⟩
   ·replace c11 := Bool.eq_false_iff.mpr c11; subst c11
    have H1 : ((spec_l01Mode.f a2).bind fun t179 => (if t179 = true then ((spec_l01Round.f kj3 (wrap64 (a0 * a1_0)) a1_1 a2).bind fun t180 => ((spec_l01Told.f t180).bind fun bt181 => (some (bt181.1, bt181.2)))) else (some (0, 13)))) = some (r1, r2) := by rw [if_neg (show ¬ (false = true) by decide)] at H; exact H
    clear H; have H := H1; clear H1; replace H := Option.bind_eq_some_iff.mp H; obtain ⟨t179, A120, H⟩ := H; replace H : (if t179 = true then ((spec_l01Round.f kj3 (wrap64 (a0 * a1_0)) a1_1 a2).bind fun t180 => ((spec_l01Told.f t180).bind fun bt181 => (some (bt181.1, bt181.2)))) else (some (0, 13))) = some (r1, r2) := H; have A12 := Aside0.mk A120; clear A120; by_cases c13 : t179 = true
    ·subst c13
     have H1 : ((spec_l01Round.f kj3 (wrap64 (a0 * a1_0)) a1_1 a2).bind fun t180 => ((spec_l01Told.f t180).bind fun bt181 => (some (bt181.1, bt181.2)))) = some (r1, r2) := by rw [if_pos rfl] at H; exact H
     clear H; have H := H1; clear H1; replace H := Option.bind_eq_some_iff.mp H; obtain ⟨t180, A140, H⟩ := H; replace H : ((spec_l01Told.f t180).bind fun bt181 => (some (bt181.1, bt181.2))) = some (r1, r2) := H; have A14 := Aside0.mk A140; clear A140; replace H := Option.bind_eq_some_iff.mp H; obtain ⟨⟨t181, t182⟩, A150, H⟩ := H; replace H : (some (t181, t182)) = some (r1, r2) := H; have A15 := Aside0.mk A150; clear A150; simp only [Option.some.injEq, Prod.mk.injEq] at H; obtain ⟨rfl, rfl⟩ := H
     go_wp2_with (first | ((with_reducible refine gate_callee (f := 52) rfl ?_); refine goesL_ (some 17) rfl rfl Tryd.func52 (by kernel_rfl) rfl #[.int .i64 a2] rfl mq ?_; (with_reducible refine (spec_l01Mode.calls a2 true _ A12.out).mono ?_); rintro e w' ⟨rfl, ⟨nd, rfl⟩⟩; refine ⟨_, rfl, ?_⟩; obtain ⟨hcz16_0, hcz16_1, hfz16_0, hfz16_1⟩ := bz2 BK176) | ((with_reducible refine gate_callee (f := 53) rfl ?_); refine goesL_ (some 26) rfl rfl Tryd.func53 (by kernel_rfl) rfl #[.int .i64 (wrap64 (a0 * a1_0)), .int .i64 a1_1, .int .i64 a2] rfl mq ?_; (with_reducible refine (spec_l01Round.calls kj3 (wrap64 (a0 * a1_0)) a1_1 a2 t180 _ A14.out).mono ?_); rintro e w' ⟨rfl, ⟨nd, rfl⟩⟩; refine ⟨_, rfl, ?_⟩) | ((with_reducible refine gate_callee (f := 41) rfl ?_); refine goesL_ (some 27) rfl rfl Tryd.func41 (by kernel_rfl) rfl #[.int .i64 t180] rfl mq ?_; (with_reducible refine (spec_l01Told.calls t180 t181 t182 _ A15.out).mono ?_); rintro e w' ⟨rfl, ⟨nd, rfl⟩⟩; refine ⟨_, rfl, ?_⟩))
     go_ret2; exact ⟨eqq, qb HB⟩
    ·replace c13 := Bool.eq_false_iff.mpr c13; subst c13
     have H1 : (some (0, 13)) = some (r1, r2) := by rw [if_neg (show ¬ (false = true) by decide)] at H; exact H
     clear H; have H := H1; clear H1; simp only [Option.some.injEq, Prod.mk.injEq] at H; obtain ⟨rfl, rfl⟩ := H
     go_wp2_with (first | ((with_reducible refine gate_callee (f := 52) rfl ?_); refine goesL_ (some 17) rfl rfl Tryd.func52 (by kernel_rfl) rfl #[.int .i64 a2] rfl mq ?_; (with_reducible refine (spec_l01Mode.calls a2 false _ A12.out).mono ?_); rintro e w' ⟨rfl, ⟨nd, rfl⟩⟩; refine ⟨_, rfl, ?_⟩))
     go_ret2; exact ⟨eqq, qb HB⟩

/-! ### impl_Exchange: function 25 -/
def impl_Exchange.j0 : Nat → Int → Int → Bool → Int → Int → Int → Int → Option (Int × Int)
 | 0, _, _, _, _, _, _, _ => none
 | k + 1, x0, x3, x10, x184000, x184001, x185000, x185001 => if x10 = true then (some (0, 1)) else ((impl_isMode.f x3).bind fun t188 => (if t188 = true then (if x185000 = 0 then (some (0, 10)) else ((impl_round.f (wrap64 ((wrap64 (x0 * x184000)) * x185001)) (wrap64 (x184001 * x185000)) x3).bind fun t189 => ((impl_money.f t189).bind fun bt190 => (some (bt190.1, bt190.2))))) else (some (0, 13))))
def impl_Exchange.f (k : Nat) (a0 : Int) (a1_0 : Int) (a1_1 : Int) (a2_0 : Int) (a2_1 : Int) (a3 : Int) : Option (Int × Int) := (impl_isMoney.f a0).bind fun t185 => (if t185 = true then ((impl_RateOK.f a1_0 a1_1).bind fun t186 => (if t186 = true then ((impl_RateOK.f a2_0 a2_1).bind fun t187 => (impl_Exchange.j0 k a0 a3 (!t187) a1_0 a1_1 a2_0 a2_1)) else (impl_Exchange.j0 k a0 a3 true a1_0 a1_1 a2_0 a2_1))) else (impl_Exchange.j0 k a0 a3 true a1_0 a1_1 a2_0 a2_1))
theorem impl_Exchange.mono_l : ∀ k, (∀ y0 y1 y2 y3 y4 y5 y6, LeO (impl_Exchange.j0 k y0 y1 y2 y3 y4 y5 y6) (impl_Exchange.j0 (k + 1) y0 y1 y2 y3 y4 y5 y6))
 | 0 => fun _ _ _ _ _ _ _ r h => by simp [impl_Exchange.j0] at h
 | k + 1 => by
  have ih0 := impl_Exchange.mono_l k
  ·intro y0 y1 y2 y3 y4 y5 y6; unfold impl_Exchange.j0
   repeat' first
   | (with_reducible exact ih0 _ _ _ _ _ _ _)
   | (with_reducible exact LeO.refl _)
   | (with_reducible exact LeO.none _)
   | (with_reducible refine LeO.ite ?_ ?_)
   | (with_reducible refine LeO.bind ?_ (fun _ => ?_))
   | exact ih0 _ _ _ _ _ _ _
   | exact LeO.none _
   | refine LeO.ite ?_ ?_
   | refine LeO.bind ?_ (fun _ => ?_)
theorem impl_Exchange.mono : ∀ a0 a1 a2 a3 a4 a5 k, LeO (impl_Exchange.f k a0 a1 a2 a3 a4 a5) (impl_Exchange.f (k + 1) a0 a1 a2 a3 a4 a5) := by
 intro a0 a1 a2 a3 a4 a5 k; have ih0 := impl_Exchange.mono_l k; unfold impl_Exchange.f
 repeat' first
   | (with_reducible exact ih0 _ _ _ _ _ _ _)
   | (with_reducible exact LeO.refl _)
   | (with_reducible exact LeO.none _)
   | (with_reducible refine LeO.ite ?_ ?_)
   | (with_reducible refine LeO.bind ?_ (fun _ => ?_))
   | exact ih0 _ _ _ _ _ _ _
   | exact LeO.none _
   | refine LeO.ite ?_ ?_
   | refine LeO.bind ?_ (fun _ => ?_)
set_option maxHeartbeats 8000000 in
set_option maxRecDepth 100000 in
theorem impl_Exchange.calls (k : Nat) (a0 : Int) (a1_0 : Int) (a1_1 : Int) (a2_0 : Int) (a2_1 : Int) (a3 : Int) (r1 : Int) (r2 : Int) (w : World) (h : impl_Exchange.f k a0 a1_0 a1_1 a2_0 a2_1 a3 = some (r1, r2)) :
  Calls Tryd.prog 25 #[.int .i64 a0, .agg #[.int .i64 a1_0, .int .i64 a1_1], .agg #[.int .i64 a2_0, .int .i64 a2_1], .int .i64 a3] w fun e w' => e = .returned (.tuple #[.int .i64 r1, .int .i64 r2]) ∧ Below w.heap.size w w' := by
 have hu40 := Tryd.underlying40; have HB := Aside0.mk (Below.refl w.heap.size w); have H : ((impl_isMoney.f a0).bind fun t185 => (if t185 = true then ((impl_RateOK.f a1_0 a1_1).bind fun t186 => (if t186 = true then ((impl_RateOK.f a2_0 a2_1).bind fun t187 => (impl_Exchange.j0 k a0 a3 (!t187) a1_0 a1_1 a2_0 a2_1)) else (impl_Exchange.j0 k a0 a3 true a1_0 a1_1 a2_0 a2_1))) else (impl_Exchange.j0 k a0 a3 true a1_0 a1_1 a2_0 a2_1))) = some (r1, r2) := h; clear h; have HC5 := Aside0.mk H; clear H; go_enter Tryd.func25, Tryd.ntmps25
 go_upto_region 1 with (first | ((with_reducible refine gate_dst (N := 5) rfl ?_); refine box_event ?hg (N := 5) ?hd (cs := #[.int .i64 a1_0, .int .i64 a1_1]) (t := 40) ?hr ?_; (case hd => rfl); (case hg => rfl); (case hr => first | (go_simp; done) | (go_simp; rfl)); intro gb183 hg w6 hbox hb; have n0_ := Aside0.mk (below_step (qb HB) hb); have n1_ := Aside0.mk (hbox); have n2_ := Aside0.mk ((by rw [hg]; exact (below_size (qb HB)) : w.heap.size ≤ gb183)); have n3_ := Aside0.mk ((by rw [hg]; exact (below_size (qb HB)) : w.heap.size ≤ gb183)); clear HB; have HB := n0_; have BK183 := n1_; have GW183 := n2_; have GE183 := n3_; clear n0_ n1_ n2_ n3_; clear hb hbox hg) | ((with_reducible refine gate_dst (N := 6) rfl ?_); refine box_event ?hg (N := 6) ?hd (cs := #[.int .i64 a2_0, .int .i64 a2_1]) (t := 40) ?hr ?_; (case hd => rfl); (case hg => rfl); (case hr => first | (go_simp; done) | (go_simp; rfl)); intro gb184 hg w7 hbox hb; have n0_ := Aside0.mk (blk_below (bq BK183) hb); have n1_ := Aside0.mk (below_step (qb HB) hb); have n2_ := Aside0.mk (hbox); have n3_ := Aside0.mk ((by rw [hg]; exact (below_size (qb HB)) : w.heap.size ≤ gb184)); have n4_ := Aside0.mk ((by rw [hg]; exact (below_size (qb HB)) : w.heap.size ≤ gb184)); have n5_ := Aside0.mk ((by rw [hg]; exact Nat.ne_of_lt (blk_lt (bq BK183)) : gb183 ≠ gb184)); have n6_ := Aside0.mk ((by rw [hg]; exact Nat.ne_of_gt (blk_lt (bq BK183)) : gb184 ≠ gb183)); clear BK183; clear HB; have BK183 := n0_; have HB := n1_; have BK184 := n2_; have GW184 := n3_; have GE184 := n4_; have NB183_184 := n5_; have NB184_183 := n6_; clear n0_ n1_ n2_ n3_ n4_ n5_ n6_; clear hb hbox hg))
 (try simp only [Act.put, sA, s0, sS])
 go_cut [10] (fun v10 wc => ∃ (kq : Nat) (x10_4 : Bool), v10 = .bool x10_4 ∧ Aside0 (impl_Exchange.j0 kq a0 a3 x10_4 a1_0 a1_1 a2_0 a2_1 = some (r1, r2)) ∧ Aside0 (kq ≤ k) ∧ Aside0 (wc.heap[gb183]? = some (.cells #[.int .i64 a1_0, .int .i64 a1_1] 40 (0, 0))) ∧ Aside0 (wc.heap[gb184]? = some (.cells #[.int .i64 a2_0, .int .i64 a2_1] 40 (0, 0))) ∧ Aside0 (Below w.heap.size w wc))
 case first =>
  have H := HC5.out; clear HC5; replace H := Option.bind_eq_some_iff.mp H; obtain ⟨t185, A80, H⟩ := H; replace H : (if t185 = true then ((impl_RateOK.f a1_0 a1_1).bind fun t186 => (if t186 = true then ((impl_RateOK.f a2_0 a2_1).bind fun t187 => (impl_Exchange.j0 k a0 a3 (!t187) a1_0 a1_1 a2_0 a2_1)) else (impl_Exchange.j0 k a0 a3 true a1_0 a1_1 a2_0 a2_1))) else (impl_Exchange.j0 k a0 a3 true a1_0 a1_1 a2_0 a2_1)) = some (r1, r2) := H; have A8 := Aside0.mk A80; clear A80; by_cases c9 : t185 = true
  ·subst c9
   have H1 : ((impl_RateOK.f a1_0 a1_1).bind fun t186 => (if t186 = true then ((impl_RateOK.f a2_0 a2_1).bind fun t187 => (impl_Exchange.j0 k a0 a3 (!t187) a1_0 a1_1 a2_0 a2_1)) else (impl_Exchange.j0 k a0 a3 true a1_0 a1_1 a2_0 a2_1))) = some (r1, r2) := by rw [if_pos rfl] at H; exact H
   clear H; have H := H1; clear H1; replace H := Option.bind_eq_some_iff.mp H; obtain ⟨t186, A100, H⟩ := H; replace H : (if t186 = true then ((impl_RateOK.f a2_0 a2_1).bind fun t187 => (impl_Exchange.j0 k a0 a3 (!t187) a1_0 a1_1 a2_0 a2_1)) else (impl_Exchange.j0 k a0 a3 true a1_0 a1_1 a2_0 a2_1)) = some (r1, r2) := H; have A10 := Aside0.mk A100; clear A100; by_cases c11 : t186 = true
   ·subst c11
    have H1 : ((impl_RateOK.f a2_0 a2_1).bind fun t187 => (impl_Exchange.j0 k a0 a3 (!t187) a1_0 a1_1 a2_0 a2_1)) = some (r1, r2) := by rw [if_pos rfl] at H; exact H
    clear H; have H := H1; clear H1; replace H := Option.bind_eq_some_iff.mp H; obtain ⟨t187, A120, H⟩ := H; replace H : (impl_Exchange.j0 k a0 a3 (!t187) a1_0 a1_1 a2_0 a2_1) = some (r1, r2) := H; have A12 := Aside0.mk A120; clear A120; have H' := Aside0.mk H; clear H
    go_wp2_with (first | ((with_reducible refine gate_callee (f := 28) rfl ?_); refine goesL_ (some 12) rfl rfl Tryd.func28 (by kernel_rfl) rfl #[.int .i64 a0] rfl mq ?_; (with_reducible refine (impl_isMoney.calls a0 true _ A8.out).mono ?_); rintro e w' ⟨rfl, ⟨nd, rfl⟩⟩; refine ⟨_, rfl, ?_⟩; have hnb13 := NB183_184.out; have hnc13 := NB184_183.out; obtain ⟨hcz14_0, hcz14_1, hfz14_0, hfz14_1⟩ := bz2 BK183) | (go_at_call 48; (with_reducible refine (impl_RateOK.calls a1_0 a1_1 true _ A10.out).mono ?_); rintro e w15 ⟨rfl, hb⟩; have n0_ := Aside0.mk (blk_below (bq BK183) hb); have n1_ := Aside0.mk (blk_below (bq BK184) hb); have n2_ := Aside0.mk (below_step (qb HB) hb); clear BK183; clear BK184; clear HB; have BK183 := n0_; have BK184 := n1_; have HB := n2_; clear n0_ n1_ n2_; (try clear hb); (try clear hb2); (try clear hk); (try clear hi); obtain ⟨hcz16_0, hcz16_1, hfz16_0, hfz16_1⟩ := bz2 BK184) | (go_at_call 48; (with_reducible refine (impl_RateOK.calls a2_0 a2_1 t187 _ A12.out).mono ?_); rintro e w17 ⟨rfl, hb⟩; have n0_ := Aside0.mk (blk_below (bq BK183) hb); have n1_ := Aside0.mk (blk_below (bq BK184) hb); have n2_ := Aside0.mk (below_step (qb HB) hb); clear BK183; clear BK184; clear HB; have BK183 := n0_; have BK184 := n1_; have HB := n2_; clear n0_ n1_ n2_; (try clear hb); (try clear hb2); (try clear hk); (try clear hi)))
    go_meet
    case rel => exact ⟨_, (!t187), (by first | rfl | (simp; done) | (simp [*]; done)), H', ⟨by first | omega | exact Nat.le_refl _⟩, ⟨bq BK183⟩, ⟨bq BK184⟩, ⟨qb HB⟩⟩
   ·replace c11 := Bool.eq_false_iff.mpr c11; subst c11
    have H1 : (impl_Exchange.j0 k a0 a3 true a1_0 a1_1 a2_0 a2_1) = some (r1, r2) := by rw [if_neg (show ¬ (false = true) by decide)] at H; exact H
    clear H; have H := H1; clear H1; have H' := Aside0.mk H; clear H
    go_wp2_with (first | ((with_reducible refine gate_callee (f := 28) rfl ?_); refine goesL_ (some 12) rfl rfl Tryd.func28 (by kernel_rfl) rfl #[.int .i64 a0] rfl mq ?_; (with_reducible refine (impl_isMoney.calls a0 true _ A8.out).mono ?_); rintro e w' ⟨rfl, ⟨nd, rfl⟩⟩; refine ⟨_, rfl, ?_⟩; have hnb18 := NB183_184.out; have hnc18 := NB184_183.out; obtain ⟨hcz19_0, hcz19_1, hfz19_0, hfz19_1⟩ := bz2 BK183) | (go_at_call 48; (with_reducible refine (impl_RateOK.calls a1_0 a1_1 false _ A10.out).mono ?_); rintro e w20 ⟨rfl, hb⟩; have n0_ := Aside0.mk (blk_below (bq BK183) hb); have n1_ := Aside0.mk (blk_below (bq BK184) hb); have n2_ := Aside0.mk (below_step (qb HB) hb); clear BK183; clear BK184; clear HB; have BK183 := n0_; have BK184 := n1_; have HB := n2_; clear n0_ n1_ n2_; (try clear hb); (try clear hb2); (try clear hk); (try clear hi)))
    go_meet
    case rel => exact ⟨_, (true), (by first | rfl | (simp; done) | (simp [*]; done)), H', ⟨by first | omega | exact Nat.le_refl _⟩, ⟨bq BK183⟩, ⟨bq BK184⟩, ⟨qb HB⟩⟩
  ·replace c9 := Bool.eq_false_iff.mpr c9; subst c9
   have H1 : (impl_Exchange.j0 k a0 a3 true a1_0 a1_1 a2_0 a2_1) = some (r1, r2) := by rw [if_neg (show ¬ (false = true) by decide)] at H; exact H
   clear H; have H := H1; clear H1; have H' := Aside0.mk H; clear H
   go_wp2_with (first | ((with_reducible refine gate_callee (f := 28) rfl ?_); refine goesL_ (some 12) rfl rfl Tryd.func28 (by kernel_rfl) rfl #[.int .i64 a0] rfl mq ?_; (with_reducible refine (impl_isMoney.calls a0 false _ A8.out).mono ?_); rintro e w' ⟨rfl, ⟨nd, rfl⟩⟩; refine ⟨_, rfl, ?_⟩))
   go_meet
   case rel => exact ⟨_, (true), (by first | rfl | (simp; done) | (simp [*]; done)), H', ⟨by first | omega | exact Nat.le_refl _⟩, ⟨bq BK183⟩, ⟨bq BK184⟩, ⟨qb HB⟩⟩
 case rest =>
  clear HC5; (try clear c1); (try clear c2); (try clear p2); (try clear c9); (try clear c11); (try clear c13); (try clear c18); (try clear hcz14_0); (try clear hcz14_1); (try clear hcz16_0); (try clear hcz16_1); (try clear hcz19_0); (try clear hcz19_1); (try clear hfz14_0); (try clear hfz14_1); (try clear hfz16_0); (try clear hfz16_1); (try clear hfz19_0); (try clear hfz19_1); obtain ⟨kq, x10_4, rfl, HA, HJ4, BK183, BK184, HB⟩ := hcut
  cases kq with
  | zero => exact absurd HA.out (by simp [impl_Exchange.j0])
  | succ kj4 =>
   have H := HA.out; clear HA; simp only [impl_Exchange.j0] at H; by_cases c21 : x10_4 = true
   ·subst c21
    have H1 : (some (0, 1)) = some (r1, r2) := by rw [if_pos rfl] at H; exact H
    clear H; have H := H1; clear H1; simp only [Option.some.injEq, Prod.mk.injEq] at H; obtain ⟨rfl, rfl⟩ := H; go_wp2; go_ret2; exact ⟨eqq, qb HB⟩
   ·replace c21 := Bool.eq_false_iff.mpr c21; subst c21
    have H1 : ((impl_isMode.f a3).bind fun t188 => (if t188 = true then (if a2_0 = 0 then (some (0, 10)) else ((impl_round.f (wrap64 ((wrap64 (a0 * a1_0)) * a2_1)) (wrap64 (a1_1 * a2_0)) a3).bind fun t189 => ((impl_money.f t189).bind fun bt190 => (some (bt190.1, bt190.2))))) else (some (0, 13)))) = some (r1, r2) := by rw [if_neg (show ¬ (false = true) by decide)] at H; exact H
    clear H; have H := H1; clear H1; replace H := Option.bind_eq_some_iff.mp H; obtain ⟨t188, A220, H⟩ := H; replace H : (if t188 = true then (if a2_0 = 0 then (some (0, 10)) else ((impl_round.f (wrap64 ((wrap64 (a0 * a1_0)) * a2_1)) (wrap64 (a1_1 * a2_0)) a3).bind fun t189 => ((impl_money.f t189).bind fun bt190 => (some (bt190.1, bt190.2))))) else (some (0, 13))) = some (r1, r2) := H; have A22 := Aside0.mk A220; clear A220; by_cases c23 : t188 = true
    ·subst c23
     have H1 : (if a2_0 = 0 then (some (0, 10)) else ((impl_round.f (wrap64 ((wrap64 (a0 * a1_0)) * a2_1)) (wrap64 (a1_1 * a2_0)) a3).bind fun t189 => ((impl_money.f t189).bind fun bt190 => (some (bt190.1, bt190.2))))) = some (r1, r2) := by rw [if_pos rfl] at H; exact H
     clear H; have H := H1; clear H1; by_cases c24 : a2_0 = 0
     ·rw [if_pos c24] at H; have c24b0 : (a2_0 == 0) = true := beq_iff_eq.mpr c24; have c24b1 : (a2_0 != 0) = false := bne_eq_false_iff_eq.mpr c24; clear c24; simp only [Option.some.injEq, Prod.mk.injEq] at H; obtain ⟨rfl, rfl⟩ := H
      go_wp2_with (first | ((with_reducible refine gate_callee (f := 49) rfl ?_); refine goesL_ (some 26) rfl rfl Tryd.func49 (by kernel_rfl) rfl #[.int .i64 a3] rfl mq ?_; (with_reducible refine (impl_isMode.calls a3 true _ A22.out).mono ?_); rintro e w' ⟨rfl, ⟨nd, rfl⟩⟩; refine ⟨_, rfl, ?_⟩; have hnb25 := NB184_183.out; have hnc25 := NB183_184.out; obtain ⟨hcz26_0, hcz26_1, hfz26_0, hfz26_1⟩ := bz2 BK184))
      go_ret2; exact ⟨eqq, qb HB⟩
     ·rw [if_neg c24] at H; have c24b0 : (a2_0 == 0) = false := beq_eq_false_iff_ne.mpr c24; have c24b1 : (a2_0 != 0) = true := bne_iff_ne.mpr c24; replace H := Option.bind_eq_some_iff.mp H; obtain ⟨t189, A270, H⟩ := H; replace H : ((impl_money.f t189).bind fun bt190 => (some (bt190.1, bt190.2))) = some (r1, r2) := H; have A27 := Aside0.mk A270; clear A270; replace H := Option.bind_eq_some_iff.mp H; obtain ⟨⟨t190, t191⟩, A280, H⟩ := H; replace H : (some (t190, t191)) = some (r1, r2) := H; have A28 := Aside0.mk A280; clear A280; simp only [Option.some.injEq, Prod.mk.injEq] at H; obtain ⟨rfl, rfl⟩ := H
      go_wp2_with (first | ((with_reducible refine gate_callee (f := 49) rfl ?_); refine goesL_ (some 26) rfl rfl Tryd.func49 (by kernel_rfl) rfl #[.int .i64 a3] rfl mq ?_; (with_reducible refine (impl_isMode.calls a3 true _ A22.out).mono ?_); rintro e w' ⟨rfl, ⟨nd, rfl⟩⟩; refine ⟨_, rfl, ?_⟩; have hnb29 := NB184_183.out; have hnc29 := NB183_184.out; obtain ⟨hcz30_0, hcz30_1, hfz30_0, hfz30_1⟩ := bz2 BK184; obtain ⟨hcz31_0, hcz31_1, hfz31_0, hfz31_1⟩ := bz2 BK183) | ((with_reducible refine gate_callee (f := 50) rfl ?_); refine goesL_ (some 45) rfl rfl Tryd.func50 (by kernel_rfl) rfl #[.int .i64 (wrap64 ((wrap64 (a0 * a1_0)) * a2_1)), .int .i64 (wrap64 (a1_1 * a2_0)), .int .i64 a3] rfl mq ?_; (with_reducible refine (impl_round.calls (wrap64 ((wrap64 (a0 * a1_0)) * a2_1)) (wrap64 (a1_1 * a2_0)) a3 t189 _ A27.out).mono ?_); rintro e w' ⟨rfl, ⟨nd, rfl⟩⟩; refine ⟨_, rfl, ?_⟩) | ((with_reducible refine gate_callee (f := 45) rfl ?_); refine goesL_ (some 46) rfl rfl Tryd.func45 (by kernel_rfl) rfl #[.int .i64 t189] rfl mq ?_; (with_reducible refine (impl_money.calls t189 t190 t191 _ A28.out).mono ?_); rintro e w' ⟨rfl, ⟨nd, rfl⟩⟩; refine ⟨_, rfl, ?_⟩))
      go_ret2; exact ⟨eqq, qb HB⟩
    ·replace c23 := Bool.eq_false_iff.mpr c23; subst c23
     have H1 : (some (0, 13)) = some (r1, r2) := by rw [if_neg (show ¬ (false = true) by decide)] at H; exact H
     clear H; have H := H1; clear H1; simp only [Option.some.injEq, Prod.mk.injEq] at H; obtain ⟨rfl, rfl⟩ := H
     go_wp2_with (first | ((with_reducible refine gate_callee (f := 49) rfl ?_); refine goesL_ (some 26) rfl rfl Tryd.func49 (by kernel_rfl) rfl #[.int .i64 a3] rfl mq ?_; (with_reducible refine (impl_isMode.calls a3 false _ A22.out).mono ?_); rintro e w' ⟨rfl, ⟨nd, rfl⟩⟩; refine ⟨_, rfl, ?_⟩))
     go_ret2; exact ⟨eqq, qb HB⟩

/-! ### laws_FnParts: function 8 -/
mutual
def laws_FnParts.l0 : Nat → Int → List Int → Int → Int → Int → Option (Bool)
 | 0, _, _, _, _, _ => none
 | k + 1, x3, x5, x6, x196000, x196001 => if x6 ≤ 4 then ((impl_Part.f k x3 x196000 x196001 x6).bind fun bt199 => ((spec_Part.f k x3 x196000 x196001 x6).bind fun bt201 => (if bt199.2 = bt201.2 then (laws_FnParts.j1 k x3 x5 x6 bt199.1 bt199.2 (bt199.1 != bt201.1) x196000 x196001) else (laws_FnParts.j1 k x3 x5 x6 bt199.1 bt199.2 true x196000 x196001)))) else (if 0 < (x5.length : Int) then (if 1 < (x5.length : Int) then (if (wrap64 ((rd x5 1) - (rd x5 0))) > 1 then (laws_FnParts.j2 k x3 x5 (rd x5 0) (rd x5 1) true x196000 x196001) else (if (rd x5 1) < (rd x5 0) then (laws_FnParts.j2 k x3 x5 (rd x5 0) (rd x5 1) true x196000 x196001) else (if (wrap64 ((rd x5 0) * x196001)) > (wrap64 (x3 * x196000)) then (laws_FnParts.j2 k x3 x5 (rd x5 0) (rd x5 1) true x196000 x196001) else (laws_FnParts.j2 k x3 x5 (rd x5 0) (rd x5 1) (decide ((wrap64 ((rd x5 1) * x196001)) < (wrap64 (x3 * x196000)))) x196000 x196001)))) else (none)) else (none))
def laws_FnParts.j1 : Nat → Int → List Int → Int → Int → Int → Bool → Int → Int → Option (Bool)
 | 0, _, _, _, _, _, _, _, _ => none
 | k + 1, x3, x5, x6, x7, x8, x55, x196000, x196001 => if x55 = true then (some false) else (if x8 = 0 then (if x5.length < 17592186044416 then (laws_FnParts.l0 k x3 (x5 ++ [x7]) (wrap64 (x6 + 1)) x196000 x196001) else (none)) else (some true))
def laws_FnParts.j2 : Nat → Int → List Int → Int → Int → Bool → Int → Int → Option (Bool)
 | 0, _, _, _, _, _, _, _ => none
 | k + 1, x3, x5, x11, x12, x98, x196000, x196001 => if x98 = true then (some false) else (laws_FnParts.l1 k x3 x5 x11 x12 2 x196000 x196001)
def laws_FnParts.l1 : Nat → Int → List Int → Int → Int → Int → Int → Int → Option (Bool)
 | 0, _, _, _, _, _, _, _ => none
 | k + 1, x3, x5, x11, x12, x13, x196000, x196001 => if x13 < 4 then (if 0 ≤ x13 then (if x13 < (x5.length : Int) then (if (rd x5 x13) = x11 then (if (wrap64 (2 * (wrap64 ((wrap64 ((rd x5 x13) * x196001)) - (wrap64 (x3 * x196000)))))) > x196001 then (some false) else (if (wrap64 (-(wrap64 (2 * (wrap64 ((wrap64 ((rd x5 x13) * x196001)) - (wrap64 (x3 * x196000)))))))) > x196001 then (some false) else (laws_FnParts.l1 k x3 x5 x11 x12 (wrap64 (x13 + 1)) x196000 x196001))) else (if (rd x5 x13) = x12 then (if (wrap64 (2 * (wrap64 ((wrap64 ((rd x5 x13) * x196001)) - (wrap64 (x3 * x196000)))))) > x196001 then (some false) else (if (wrap64 (-(wrap64 (2 * (wrap64 ((wrap64 ((rd x5 x13) * x196001)) - (wrap64 (x3 * x196000)))))))) > x196001 then (some false) else (laws_FnParts.l1 k x3 x5 x11 x12 (wrap64 (x13 + 1)) x196000 x196001))) else (some false))) else (none)) else (none)) else (if x196000 > 0 then ((impl_Exchange.f k x3 x196000 x196001 x196000 x196001 3).bind fun bt211 => (if bt211.2 = 0 then (laws_FnParts.j4 k x3 (bt211.1 != x3)) else (laws_FnParts.j4 k x3 true))) else ((impl_MoneyText.f x3).bind fun bt217 => ((impl_ReadMoney.f k bt217.1).bind fun bt219 => (if bt217.2 = 0 then (if bt219.2 = 0 then (some (bt219.1 == x3)) else (some false)) else (some false)))))
def laws_FnParts.j4 : Nat → Int → Bool → Option (Bool)
 | 0, _, _ => none
 | k + 1, x3, x159 => if x159 = true then (some false) else ((impl_MoneyText.f x3).bind fun bt213 => ((impl_ReadMoney.f k bt213.1).bind fun bt215 => (if bt213.2 = 0 then (if bt215.2 = 0 then (some (bt215.1 == x3)) else (some false)) else (some false))))
end
def laws_FnParts.f (k : Nat) (l0 : List Int) : Option (Bool) := if (l0.length : Int) > 1048576 then (some true) else ((spec_AmountOf.f l0).bind fun bt192 => (laws_FnParts.l0 k bt192.1 (([] : List Int)) 1 bt192.2.1 bt192.2.2))
theorem laws_FnParts.mono_l : ∀ k, (∀ y0 y1 y2 y3 y4, LeO (laws_FnParts.l0 k y0 y1 y2 y3 y4) (laws_FnParts.l0 (k + 1) y0 y1 y2 y3 y4)) ∧ (∀ y0 y1 y2 y3 y4 y5 y6 y7, LeO (laws_FnParts.j1 k y0 y1 y2 y3 y4 y5 y6 y7) (laws_FnParts.j1 (k + 1) y0 y1 y2 y3 y4 y5 y6 y7)) ∧ (∀ y0 y1 y2 y3 y4 y5 y6, LeO (laws_FnParts.j2 k y0 y1 y2 y3 y4 y5 y6) (laws_FnParts.j2 (k + 1) y0 y1 y2 y3 y4 y5 y6)) ∧ (∀ y0 y1 y2 y3 y4 y5 y6, LeO (laws_FnParts.l1 k y0 y1 y2 y3 y4 y5 y6) (laws_FnParts.l1 (k + 1) y0 y1 y2 y3 y4 y5 y6)) ∧ (∀ y0 y1, LeO (laws_FnParts.j4 k y0 y1) (laws_FnParts.j4 (k + 1) y0 y1))
 | 0 => ⟨fun _ _ _ _ _ r h => by simp [laws_FnParts.l0] at h, fun _ _ _ _ _ _ _ _ r h => by simp [laws_FnParts.j1] at h, fun _ _ _ _ _ _ _ r h => by simp [laws_FnParts.j2] at h, fun _ _ _ _ _ _ _ r h => by simp [laws_FnParts.l1] at h, fun _ _ r h => by simp [laws_FnParts.j4] at h⟩
 | k + 1 => by
  obtain ⟨ih0, ih1, ih2, ih3, ih4⟩ := laws_FnParts.mono_l k; refine ⟨?_, ?_, ?_, ?_, ?_⟩
  ·intro y0 y1 y2 y3 y4; unfold laws_FnParts.l0
   repeat' first
   | (with_reducible exact ih0 _ _ _ _ _)
   | (with_reducible exact ih1 _ _ _ _ _ _ _ _)
   | (with_reducible exact ih2 _ _ _ _ _ _ _)
   | (with_reducible exact ih3 _ _ _ _ _ _ _)
   | (with_reducible exact ih4 _ _)
   | (with_reducible exact impl_Exchange.mono _ _ _ _ _ _ _)
   | (with_reducible exact impl_Part.mono _ _ _ _ _)
   | (with_reducible exact impl_ReadMoney.mono _ _)
   | (with_reducible exact spec_Part.mono _ _ _ _ _)
   | (with_reducible exact LeO.refl _)
   | (with_reducible exact LeO.none _)
   | (with_reducible refine LeO.ite ?_ ?_)
   | (with_reducible refine LeO.bind ?_ (fun _ => ?_))
   | exact ih0 _ _ _ _ _
   | exact ih1 _ _ _ _ _ _ _ _
   | exact ih2 _ _ _ _ _ _ _
   | exact ih3 _ _ _ _ _ _ _
   | exact ih4 _ _
   | exact impl_Exchange.mono _ _ _ _ _ _ _
   | exact impl_Part.mono _ _ _ _ _
   | exact impl_ReadMoney.mono _ _
   | exact spec_Part.mono _ _ _ _ _
   | exact LeO.none _
   | refine LeO.ite ?_ ?_
   | refine LeO.bind ?_ (fun _ => ?_)
  ·intro y0 y1 y2 y3 y4 y5 y6 y7; unfold laws_FnParts.j1
   repeat' first
   | (with_reducible exact ih0 _ _ _ _ _)
   | (with_reducible exact ih1 _ _ _ _ _ _ _ _)
   | (with_reducible exact ih2 _ _ _ _ _ _ _)
   | (with_reducible exact ih3 _ _ _ _ _ _ _)
   | (with_reducible exact ih4 _ _)
   | (with_reducible exact impl_Exchange.mono _ _ _ _ _ _ _)
   | (with_reducible exact impl_Part.mono _ _ _ _ _)
   | (with_reducible exact impl_ReadMoney.mono _ _)
   | (with_reducible exact spec_Part.mono _ _ _ _ _)
   | (with_reducible exact LeO.refl _)
   | (with_reducible exact LeO.none _)
   | (with_reducible refine LeO.ite ?_ ?_)
   | (with_reducible refine LeO.bind ?_ (fun _ => ?_))
   | exact ih0 _ _ _ _ _
   | exact ih1 _ _ _ _ _ _ _ _
   | exact ih2 _ _ _ _ _ _ _
   | exact ih3 _ _ _ _ _ _ _
   | exact ih4 _ _
   | exact impl_Exchange.mono _ _ _ _ _ _ _
   | exact impl_Part.mono _ _ _ _ _
   | exact impl_ReadMoney.mono _ _
   | exact spec_Part.mono _ _ _ _ _
   | exact LeO.none _
   | refine LeO.ite ?_ ?_
   | refine LeO.bind ?_ (fun _ => ?_)
  ·intro y0 y1 y2 y3 y4 y5 y6; unfold laws_FnParts.j2
   repeat' first
   | (with_reducible exact ih0 _ _ _ _ _)
   | (with_reducible exact ih1 _ _ _ _ _ _ _ _)
   | (with_reducible exact ih2 _ _ _ _ _ _ _)
   | (with_reducible exact ih3 _ _ _ _ _ _ _)
   | (with_reducible exact ih4 _ _)
   | (with_reducible exact impl_Exchange.mono _ _ _ _ _ _ _)
   | (with_reducible exact impl_Part.mono _ _ _ _ _)
   | (with_reducible exact impl_ReadMoney.mono _ _)
   | (with_reducible exact spec_Part.mono _ _ _ _ _)
   | (with_reducible exact LeO.refl _)
   | (with_reducible exact LeO.none _)
   | (with_reducible refine LeO.ite ?_ ?_)
   | (with_reducible refine LeO.bind ?_ (fun _ => ?_))
   | exact ih0 _ _ _ _ _
   | exact ih1 _ _ _ _ _ _ _ _
   | exact ih2 _ _ _ _ _ _ _
   | exact ih3 _ _ _ _ _ _ _
   | exact ih4 _ _
   | exact impl_Exchange.mono _ _ _ _ _ _ _
   | exact impl_Part.mono _ _ _ _ _
   | exact impl_ReadMoney.mono _ _
   | exact spec_Part.mono _ _ _ _ _
   | exact LeO.none _
   | refine LeO.ite ?_ ?_
   | refine LeO.bind ?_ (fun _ => ?_)
  ·intro y0 y1 y2 y3 y4 y5 y6; unfold laws_FnParts.l1
   repeat' first
   | (with_reducible exact ih0 _ _ _ _ _)
   | (with_reducible exact ih1 _ _ _ _ _ _ _ _)
   | (with_reducible exact ih2 _ _ _ _ _ _ _)
   | (with_reducible exact ih3 _ _ _ _ _ _ _)
   | (with_reducible exact ih4 _ _)
   | (with_reducible exact impl_Exchange.mono _ _ _ _ _ _ _)
   | (with_reducible exact impl_Part.mono _ _ _ _ _)
   | (with_reducible exact impl_ReadMoney.mono _ _)
   | (with_reducible exact spec_Part.mono _ _ _ _ _)
   | (with_reducible exact LeO.refl _)
   | (with_reducible exact LeO.none _)
   | (with_reducible refine LeO.ite ?_ ?_)
   | (with_reducible refine LeO.bind ?_ (fun _ => ?_))
   | exact ih0 _ _ _ _ _
   | exact ih1 _ _ _ _ _ _ _ _
   | exact ih2 _ _ _ _ _ _ _
   | exact ih3 _ _ _ _ _ _ _
   | exact ih4 _ _
   | exact impl_Exchange.mono _ _ _ _ _ _ _
   | exact impl_Part.mono _ _ _ _ _
   | exact impl_ReadMoney.mono _ _
   | exact spec_Part.mono _ _ _ _ _
   | exact LeO.none _
   | refine LeO.ite ?_ ?_
   | refine LeO.bind ?_ (fun _ => ?_)
  ·intro y0 y1; unfold laws_FnParts.j4
   repeat' first
   | (with_reducible exact ih0 _ _ _ _ _)
   | (with_reducible exact ih1 _ _ _ _ _ _ _ _)
   | (with_reducible exact ih2 _ _ _ _ _ _ _)
   | (with_reducible exact ih3 _ _ _ _ _ _ _)
   | (with_reducible exact ih4 _ _)
   | (with_reducible exact impl_Exchange.mono _ _ _ _ _ _ _)
   | (with_reducible exact impl_Part.mono _ _ _ _ _)
   | (with_reducible exact impl_ReadMoney.mono _ _)
   | (with_reducible exact spec_Part.mono _ _ _ _ _)
   | (with_reducible exact LeO.refl _)
   | (with_reducible exact LeO.none _)
   | (with_reducible refine LeO.ite ?_ ?_)
   | (with_reducible refine LeO.bind ?_ (fun _ => ?_))
   | exact ih0 _ _ _ _ _
   | exact ih1 _ _ _ _ _ _ _ _
   | exact ih2 _ _ _ _ _ _ _
   | exact ih3 _ _ _ _ _ _ _
   | exact ih4 _ _
   | exact impl_Exchange.mono _ _ _ _ _ _ _
   | exact impl_Part.mono _ _ _ _ _
   | exact impl_ReadMoney.mono _ _
   | exact spec_Part.mono _ _ _ _ _
   | exact LeO.none _
   | refine LeO.ite ?_ ?_
   | refine LeO.bind ?_ (fun _ => ?_)
theorem laws_FnParts.mono : ∀ a0 k, LeO (laws_FnParts.f k a0) (laws_FnParts.f (k + 1) a0) := by
 intro a0 k; obtain ⟨ih0, ih1, ih2, ih3, ih4⟩ := laws_FnParts.mono_l k; unfold laws_FnParts.f
 repeat' first
   | (with_reducible exact ih0 _ _ _ _ _)
   | (with_reducible exact ih1 _ _ _ _ _ _ _ _)
   | (with_reducible exact ih2 _ _ _ _ _ _ _)
   | (with_reducible exact ih3 _ _ _ _ _ _ _)
   | (with_reducible exact ih4 _ _)
   | (with_reducible exact impl_Exchange.mono _ _ _ _ _ _ _)
   | (with_reducible exact impl_Part.mono _ _ _ _ _)
   | (with_reducible exact impl_ReadMoney.mono _ _)
   | (with_reducible exact spec_Part.mono _ _ _ _ _)
   | (with_reducible exact LeO.refl _)
   | (with_reducible exact LeO.none _)
   | (with_reducible refine LeO.ite ?_ ?_)
   | (with_reducible refine LeO.bind ?_ (fun _ => ?_))
   | exact ih0 _ _ _ _ _
   | exact ih1 _ _ _ _ _ _ _ _
   | exact ih2 _ _ _ _ _ _ _
   | exact ih3 _ _ _ _ _ _ _
   | exact ih4 _ _
   | exact impl_Exchange.mono _ _ _ _ _ _ _
   | exact impl_Part.mono _ _ _ _ _
   | exact impl_ReadMoney.mono _ _
   | exact spec_Part.mono _ _ _ _ _
   | exact LeO.none _
   | refine LeO.ite ?_ ?_
   | refine LeO.bind ?_ (fun _ => ?_)
set_option maxHeartbeats 8000000 in
set_option maxRecDepth 100000 in
theorem laws_FnParts.calls (k : Nat) (A0 : Option Addr) (c0 : Nat) (l0 : List Int) (r : Bool) (w : World) (hr0 : Kd.C (Kd.int .u8) w A0 l0.length l0) (hc0 : l0.length ≤ c0) (h : laws_FnParts.f k l0 = some r) (ht_ : Tabs w := by exact tabs) :
  Calls Tryd.prog 8 #[.slice A0 l0.length c0] w fun e w' => e = .returned (.bool r) ∧ Below w.heap.size w w' := by
 have HT0_ := Aside0.mk ht_; clear ht_; have hu40 := Tryd.underlying40; have HR0 := Aside0.mk hr0; have HC0 := Aside0.mk hc0; clear hr0 hc0; have HB := Aside0.mk (Below.refl w.heap.size w); have H : (if (l0.length : Int) > 1048576 then (some true) else ((spec_AmountOf.f l0).bind fun bt192 => (laws_FnParts.l0 k bt192.1 (([] : List Int)) 1 bt192.2.1 bt192.2.2))) = some r := h; clear h; by_cases c2 : (l0.length : Int) > 1048576
 ·rw [if_pos c2] at H; have c2b0 : decide (1048576 < (l0.length : Int)) = true := decide_eq_true c2; have c2b1 : decide (1048576 < l0.length) = true := decide_eq_true (by omega); clear c2; obtain rfl := Option.some.inj H; go_enter Tryd.func8, Tryd.ntmps8; go_wp2
  repeat (go_quiet (fail); try go_wp2)
  go_ret; exact ⟨eqq, qb HB⟩
 ·rw [if_neg c2] at H; have c2b0 : decide (1048576 < (l0.length : Int)) = false := decide_eq_false c2; have c2b1 : decide (1048576 < l0.length) = false := decide_eq_false (by omega); clear c2; replace H := Option.bind_eq_some_iff.mp H; obtain ⟨⟨t192, t193, t194⟩, A30, H⟩ := H; replace H : (laws_FnParts.l0 k t192 (([] : List Int)) 1 t193 t194) = some r := H; have A3 := Aside0.mk A30; clear A30; obtain ⟨y196, hy196⟩ : ∃ y_ : List Int, y_ = (([] : List Int)) := ⟨_, rfl⟩
  replace H : (laws_FnParts.l0 k t192 y196 1 t193 t194) = some r := by first | (rw [hy196]; with_reducible exact H) | (have H2_ := (Option.bind_some _ _).symm.trans H; rw [hy196]; with_reducible exact H2_) | (have H2_ := (Option.bind_some _ _).symm.trans H; with_reducible exact H2_) | with_reducible exact H | (rw [hy196]; exact H) | exact H
  have Ny196 := Aside0.mk hy196; clear hy196; have H' := Aside0.mk H; clear H; go_enter Tryd.func8, Tryd.ntmps8
  go_wp2_with (first | (go_at_call 22; (with_reducible refine (spec_AmountOf.calls _ _ l0 t192 t193 t194 _ ?side1 ?side2 A3.out).mono ?_); (case side1 => repeat (first | exact HR0.out | (with_reducible refine Kd.C_alloc ?_ _) | (with_reducible refine Kd.C_drewN ?_ _) | (with_reducible refine Kd.C_drew ?_))); (case side2 => exact HC0.out); rintro e w4 ⟨rfl, hb⟩; have n0_ := Aside0.mk (below_step (qb HB) hb); clear HB; have HB := n0_; clear n0_; (try clear hb); (try clear hb2); (try clear hk); (try clear hi)) | ((with_reducible refine gate_dst (N := 4) rfl ?_); refine box_event ?hg (N := 4) ?hd (cs := #[.int .i64 0, .int .i64 0]) (t := 40) ?hr ?_; (case hd => rfl); (case hg => rfl); (case hr => first | (go_simp; done) | (go_simp; rfl)); intro gb195 hg w5 hbox hb; have n0_ := Aside0.mk (below_step (qb HB) hb); have n1_ := Aside0.mk (hbox); have n2_ := Aside0.mk ((by rw [hg]; exact (below_size (qb HB)) : w.heap.size ≤ gb195)); have n3_ := Aside0.mk ((by rw [hg]; exact (below_size (qb HB)) : w.heap.size ≤ gb195)); clear HB; have HB := n0_; have BK195 := n1_; have GW195 := n2_; have GE195 := n3_; clear n0_ n1_ n2_ n3_; clear hb hbox hg; obtain ⟨hcz6_0, hcz6_1, hfz6_0, hfz6_1⟩ := bz2 BK195) | ((with_reducible refine gate_dst (N := 29) rfl ?_); refine Kd.R_lit (Kd.int .i64) _ 3 ?hg (N := 29) ?hd (xs := ([] : List Int)) (inner := []) (ok := fun _ => True) (okp := fun _ => True) ?hr ?hp (fun _ hk => hk) trivial (Below.refl _ _) (Nat.le_refl _) (by simp) ?_; (case hd => rfl); (case hg => rfl); (case hr => first | (go_simp; done) | (go_simp; rfl)); (case hp => exact (Reps.none _ _)); intro v197 w7 ho8 hb hg_ hnew_; clear hg_ hnew_; (first | rw [← Ny196.out] at ho8 | (simp only [Int.reduceToNat] at ho8; rw [← Ny196.out] at ho8)); have n0_ := Aside0.mk (Kd.R_lower ho8 (below_size (qb HB))); have n1_ := Aside0.mk (blk_below (g := gb195) (o := .cells #[.int .i64 t193, .int .i64 t194] 40 (0, 0)) (by (with_reducible repeat (first | refine blk_drewN ?_ _ | refine blk_drew ?_ | refine blk_alloc ?_ _)); refine blk_put (cs := #[.int .i64 t193, .int .i64 0]) ?_ 1 _ rfl; (with_reducible repeat (first | refine blk_drewN ?_ _ | refine blk_drew ?_ | refine blk_alloc ?_ _)); refine blk_put (cs := #[.int .i64 0, .int .i64 0]) ?_ 0 _ rfl; (with_reducible repeat (first | refine blk_drewN ?_ _ | refine blk_drew ?_ | refine blk_alloc ?_ _)); exact BK195.out) hb); have n2_ := Aside0.mk (below_step (qb HB) hb); clear BK195; clear HB; have HO198 := n0_; have BK195 := n1_; have HB := n2_; clear n0_ n1_ n2_; clear hb ho8))
  repeat (go_quiet (first | (go_at_call 22; (with_reducible refine (spec_AmountOf.calls _ _ l0 t192 t193 t194 _ ?side1 ?side2 A3.out).mono ?_); (case side1 => repeat (first | exact HR0.out | (with_reducible refine Kd.C_alloc ?_ _) | (with_reducible refine Kd.C_drewN ?_ _) | (with_reducible refine Kd.C_drew ?_))); (case side2 => exact HC0.out); rintro e w4 ⟨rfl, hb⟩; have n0_ := Aside0.mk (below_step (qb HB) hb); clear HB; have HB := n0_; clear n0_; (try clear hb); (try clear hb2); (try clear hk); (try clear hi)) | ((with_reducible refine gate_dst (N := 4) rfl ?_); refine box_event ?hg (N := 4) ?hd (cs := #[.int .i64 0, .int .i64 0]) (t := 40) ?hr ?_; (case hd => rfl); (case hg => rfl); (case hr => first | (go_simp; done) | (go_simp; rfl)); intro gb195 hg w5 hbox hb; have n0_ := Aside0.mk (below_step (qb HB) hb); have n1_ := Aside0.mk (hbox); have n2_ := Aside0.mk ((by rw [hg]; exact (below_size (qb HB)) : w.heap.size ≤ gb195)); have n3_ := Aside0.mk ((by rw [hg]; exact (below_size (qb HB)) : w.heap.size ≤ gb195)); clear HB; have HB := n0_; have BK195 := n1_; have GW195 := n2_; have GE195 := n3_; clear n0_ n1_ n2_ n3_; clear hb hbox hg; obtain ⟨hcz6_0, hcz6_1, hfz6_0, hfz6_1⟩ := bz2 BK195) | ((with_reducible refine gate_dst (N := 29) rfl ?_); refine Kd.R_lit (Kd.int .i64) _ 3 ?hg (N := 29) ?hd (xs := ([] : List Int)) (inner := []) (ok := fun _ => True) (okp := fun _ => True) ?hr ?hp (fun _ hk => hk) trivial (Below.refl _ _) (Nat.le_refl _) (by simp) ?_; (case hd => rfl); (case hg => rfl); (case hr => first | (go_simp; done) | (go_simp; rfl)); (case hp => exact (Reps.none _ _)); intro v197 w7 ho8 hb hg_ hnew_; clear hg_ hnew_; (first | rw [← Ny196.out] at ho8 | (simp only [Int.reduceToNat] at ho8; rw [← Ny196.out] at ho8)); have n0_ := Aside0.mk (Kd.R_lower ho8 (below_size (qb HB))); have n1_ := Aside0.mk (blk_below (g := gb195) (o := .cells #[.int .i64 t193, .int .i64 t194] 40 (0, 0)) (by (with_reducible repeat (first | refine blk_drewN ?_ _ | refine blk_drew ?_ | refine blk_alloc ?_ _)); refine blk_put (cs := #[.int .i64 t193, .int .i64 0]) ?_ 1 _ rfl; (with_reducible repeat (first | refine blk_drewN ?_ _ | refine blk_drew ?_ | refine blk_alloc ?_ _)); refine blk_put (cs := #[.int .i64 0, .int .i64 0]) ?_ 0 _ rfl; (with_reducible repeat (first | refine blk_drewN ?_ _ | refine blk_drew ?_ | refine blk_alloc ?_ _)); exact BK195.out) hb); have n2_ := Aside0.mk (below_step (qb HB) hb); clear BK195; clear HB; have HO198 := n0_; have BK195 := n1_; have HB := n2_; clear n0_ n1_ n2_; clear hb ho8)); try go_wp2_with (first | (go_at_call 22; (with_reducible refine (spec_AmountOf.calls _ _ l0 t192 t193 t194 _ ?side1 ?side2 A3.out).mono ?_); (case side1 => repeat (first | exact HR0.out | (with_reducible refine Kd.C_alloc ?_ _) | (with_reducible refine Kd.C_drewN ?_ _) | (with_reducible refine Kd.C_drew ?_))); (case side2 => exact HC0.out); rintro e w4 ⟨rfl, hb⟩; have n0_ := Aside0.mk (below_step (qb HB) hb); clear HB; have HB := n0_; clear n0_; (try clear hb); (try clear hb2); (try clear hk); (try clear hi)) | ((with_reducible refine gate_dst (N := 4) rfl ?_); refine box_event ?hg (N := 4) ?hd (cs := #[.int .i64 0, .int .i64 0]) (t := 40) ?hr ?_; (case hd => rfl); (case hg => rfl); (case hr => first | (go_simp; done) | (go_simp; rfl)); intro gb195 hg w5 hbox hb; have n0_ := Aside0.mk (below_step (qb HB) hb); have n1_ := Aside0.mk (hbox); have n2_ := Aside0.mk ((by rw [hg]; exact (below_size (qb HB)) : w.heap.size ≤ gb195)); have n3_ := Aside0.mk ((by rw [hg]; exact (below_size (qb HB)) : w.heap.size ≤ gb195)); clear HB; have HB := n0_; have BK195 := n1_; have GW195 := n2_; have GE195 := n3_; clear n0_ n1_ n2_ n3_; clear hb hbox hg; obtain ⟨hcz6_0, hcz6_1, hfz6_0, hfz6_1⟩ := bz2 BK195) | ((with_reducible refine gate_dst (N := 29) rfl ?_); refine Kd.R_lit (Kd.int .i64) _ 3 ?hg (N := 29) ?hd (xs := ([] : List Int)) (inner := []) (ok := fun _ => True) (okp := fun _ => True) ?hr ?hp (fun _ hk => hk) trivial (Below.refl _ _) (Nat.le_refl _) (by simp) ?_; (case hd => rfl); (case hg => rfl); (case hr => first | (go_simp; done) | (go_simp; rfl)); (case hp => exact (Reps.none _ _)); intro v197 w7 ho8 hb hg_ hnew_; clear hg_ hnew_; (first | rw [← Ny196.out] at ho8 | (simp only [Int.reduceToNat] at ho8; rw [← Ny196.out] at ho8)); have n0_ := Aside0.mk (Kd.R_lower ho8 (below_size (qb HB))); have n1_ := Aside0.mk (blk_below (g := gb195) (o := .cells #[.int .i64 t193, .int .i64 t194] 40 (0, 0)) (by (with_reducible repeat (first | refine blk_drewN ?_ _ | refine blk_drew ?_ | refine blk_alloc ?_ _)); refine blk_put (cs := #[.int .i64 t193, .int .i64 0]) ?_ 1 _ rfl; (with_reducible repeat (first | refine blk_drewN ?_ _ | refine blk_drew ?_ | refine blk_alloc ?_ _)); refine blk_put (cs := #[.int .i64 0, .int .i64 0]) ?_ 0 _ rfl; (with_reducible repeat (first | refine blk_drewN ?_ _ | refine blk_drew ?_ | refine blk_alloc ?_ _)); exact BK195.out) hb); have n2_ := Aside0.mk (below_step (qb HB) hb); clear BK195; clear HB; have HO198 := n0_; have BK195 := n1_; have HB := n2_; clear n0_ n1_ n2_; clear hb ho8)))
  go_loopg [5, 6] k (fun kq v5 v6 w' => ∃ (x5_1 : List Int) (x6_1 : Int), v6 = .int .i64 x6_1 ∧ Aside0 (laws_FnParts.l0 kq t192 x5_1 x6_1 t193 t194 = some r) ∧ Aside0 (kq ≤ k) ∧ Aside0 (Kd.R (Kd.int .i64) 3 w' w.heap.size (fun _ => True) v5 x5_1) ∧ Aside0 (w'.heap[gb195]? = some (.cells #[.int .i64 t193, .int .i64 t194] 40 (0, 0))) ∧ Aside0 (Below w.heap.size w w'))
  case atStart => exact ⟨(y196), (1), (by first | rfl | (simp; done) | (simp [*]; done)), H', ⟨Nat.le_refl _⟩, ⟨by (with_reducible repeat (first | apply Kd.R_alloc | apply Kd.R_drewN | apply Kd.R_drew)); exact HO198.out⟩, ⟨bq BK195⟩, ⟨qb HB⟩⟩
  case round =>
   clear H'; (try clear c2); (try clear c2b0); (try clear c2b1); (try clear p2); (try clear c8); (try clear hcz6_0); (try clear hcz6_1); (try clear hfz6_0); (try clear hfz6_1); obtain ⟨x5_1, x6_1, rfl, HA, HK1, HO_5, BK195, HB⟩ := hrel
   cases gk with
   | zero => exact absurd HA.out (by simp [laws_FnParts.l0])
   | succ k1 =>
    have H := HA.out; clear HA; simp only [laws_FnParts.l0] at H; by_cases c9 : x6_1 ≤ 4
    ·rw [if_pos c9] at H; have c9b0 : decide (x6_1 ≤ 4) = true := decide_eq_true c9; clear c9; replace H := Option.bind_eq_some_iff.mp H; obtain ⟨⟨t199, t200⟩, A100, H⟩ := H; replace H : ((spec_Part.f k1 t192 t193 t194 x6_1).bind fun bt201 => (if t200 = bt201.2 then (laws_FnParts.j1 k1 t192 x5_1 x6_1 t199 t200 (t199 != bt201.1) t193 t194) else (laws_FnParts.j1 k1 t192 x5_1 x6_1 t199 t200 true t193 t194))) = some r := H; have A10 := Aside0.mk A100; clear A100; replace H := Option.bind_eq_some_iff.mp H; obtain ⟨⟨t201, t202⟩, A110, H⟩ := H; replace H : (if t200 = t202 then (laws_FnParts.j1 k1 t192 x5_1 x6_1 t199 t200 (t199 != t201) t193 t194) else (laws_FnParts.j1 k1 t192 x5_1 x6_1 t199 t200 true t193 t194)) = some r := H; have A11 := Aside0.mk A110; clear A110; have HC12 := Aside0.mk H; clear H; obtain ⟨hcz13_0, hcz13_1, hfz13_0, hfz13_1⟩ := bz2 BK195
     go_upto_region 10 with (first | (go_at_call 23; (with_reducible refine (impl_Part.calls k1 t192 t193 t194 x6_1 t199 t200 _ A10.out).mono ?_); rintro e w14 ⟨rfl, hb⟩; have n0_ := Aside0.mk (Kd.R_below (qr HO_5) hb); have n1_ := Aside0.mk (blk_below (bq BK195) hb); have n2_ := Aside0.mk (below_step (qb HB) hb); clear HO_5; clear BK195; clear HB; have HO_5 := n0_; have BK195 := n1_; have HB := n2_; clear n0_ n1_ n2_; (try clear hb); (try clear hb2); (try clear hk); (try clear hi); obtain ⟨hcz15_0, hcz15_1, hfz15_0, hfz15_1⟩ := bz2 BK195) | (go_at_call 24; (with_reducible refine (spec_Part.calls k1 t192 t193 t194 x6_1 t201 t202 _ A11.out).mono ?_); rintro e w16 ⟨rfl, hb⟩; have n0_ := Aside0.mk (Kd.R_below (qr HO_5) hb); have n1_ := Aside0.mk (blk_below (bq BK195) hb); have n2_ := Aside0.mk (below_step (qb HB) hb); clear HO_5; clear BK195; clear HB; have HO_5 := n0_; have BK195 := n1_; have HB := n2_; clear n0_ n1_ n2_; (try clear hb); (try clear hb2); (try clear hk); (try clear hi)))
     repeat (go_quiet (first | (go_at_call 23; (with_reducible refine (impl_Part.calls k1 t192 t193 t194 x6_1 t199 t200 _ A10.out).mono ?_); rintro e w14 ⟨rfl, hb⟩; have n0_ := Aside0.mk (Kd.R_below (qr HO_5) hb); have n1_ := Aside0.mk (blk_below (bq BK195) hb); have n2_ := Aside0.mk (below_step (qb HB) hb); clear HO_5; clear BK195; clear HB; have HO_5 := n0_; have BK195 := n1_; have HB := n2_; clear n0_ n1_ n2_; (try clear hb); (try clear hb2); (try clear hk); (try clear hi); obtain ⟨hcz15_0, hcz15_1, hfz15_0, hfz15_1⟩ := bz2 BK195) | (go_at_call 24; (with_reducible refine (spec_Part.calls k1 t192 t193 t194 x6_1 t201 t202 _ A11.out).mono ?_); rintro e w16 ⟨rfl, hb⟩; have n0_ := Aside0.mk (Kd.R_below (qr HO_5) hb); have n1_ := Aside0.mk (blk_below (bq BK195) hb); have n2_ := Aside0.mk (below_step (qb HB) hb); clear HO_5; clear BK195; clear HB; have HO_5 := n0_; have BK195 := n1_; have HB := n2_; clear n0_ n1_ n2_; (try clear hb); (try clear hb2); (try clear hk); (try clear hi))); go_upto_region 10 with (first | (go_at_call 23; (with_reducible refine (impl_Part.calls k1 t192 t193 t194 x6_1 t199 t200 _ A10.out).mono ?_); rintro e w14 ⟨rfl, hb⟩; have n0_ := Aside0.mk (Kd.R_below (qr HO_5) hb); have n1_ := Aside0.mk (blk_below (bq BK195) hb); have n2_ := Aside0.mk (below_step (qb HB) hb); clear HO_5; clear BK195; clear HB; have HO_5 := n0_; have BK195 := n1_; have HB := n2_; clear n0_ n1_ n2_; (try clear hb); (try clear hb2); (try clear hk); (try clear hi); obtain ⟨hcz15_0, hcz15_1, hfz15_0, hfz15_1⟩ := bz2 BK195) | (go_at_call 24; (with_reducible refine (spec_Part.calls k1 t192 t193 t194 x6_1 t201 t202 _ A11.out).mono ?_); rintro e w16 ⟨rfl, hb⟩; have n0_ := Aside0.mk (Kd.R_below (qr HO_5) hb); have n1_ := Aside0.mk (blk_below (bq BK195) hb); have n2_ := Aside0.mk (below_step (qb HB) hb); clear HO_5; clear BK195; clear HB; have HO_5 := n0_; have BK195 := n1_; have HB := n2_; clear n0_ n1_ n2_; (try clear hb); (try clear hb2); (try clear hk); (try clear hi))))
     (try simp only [Act.put, sA, s0, sS])
     go_cut [55] (fun v55 wc => ∃ (kq : Nat) (x55_11 : Bool), v55 = .bool x55_11 ∧ Aside0 (laws_FnParts.j1 kq t192 x5_1 x6_1 t199 t200 x55_11 t193 t194 = some r) ∧ Aside0 (kq ≤ k1) ∧ Aside0 (Kd.R (Kd.int .i64) 3 wc w.heap.size (fun _ => True) u5 x5_1) ∧ Aside0 (wc.heap[gb195]? = some (.cells #[.int .i64 t193, .int .i64 t194] 40 (0, 0))) ∧ Aside0 (Below w.heap.size w wc))
     case first =>
      have H := HC12.out; clear HC12; by_cases c17 : t200 = t202
      ·rw [if_pos c17] at H; have c17b0 : (t200 == t202) = true := beq_iff_eq.mpr c17; have c17b1 : (t200 != t202) = false := bne_eq_false_iff_eq.mpr c17; clear c17
       (first | rw [c17b0] | (simp only [i64_w, i32_w]; rw [c17b0]) | skip)
       have H' := Aside0.mk H; clear H; go_wp2
       repeat (go_quiet (fail); try go_wp2)
       go_meet
       case rel => exact ⟨_, ((t199 != t201)), (by first | rfl | (simp; done) | (simp [*]; done)), H', ⟨by have := HK1.out; first | omega | exact Nat.le_refl _⟩, ⟨by (with_reducible repeat (first | apply Kd.R_alloc | apply Kd.R_drewN | apply Kd.R_drew)); exact HO_5.out⟩, ⟨bq BK195⟩, ⟨qb HB⟩⟩
      ·rw [if_neg c17] at H; have c17b0 : (t200 == t202) = false := beq_eq_false_iff_ne.mpr c17; have c17b1 : (t200 != t202) = true := bne_iff_ne.mpr c17
       (first | rw [c17b0] | (simp only [i64_w, i32_w]; rw [c17b0]) | skip)
       have H' := Aside0.mk H; clear H; go_wp2
       repeat (go_quiet (fail); try go_wp2)
       go_meet
       case rel => exact ⟨_, (true), (by first | rfl | (simp; done) | (simp [*]; done)), H', ⟨by have := HK1.out; first | omega | exact Nat.le_refl _⟩, ⟨by (with_reducible repeat (first | apply Kd.R_alloc | apply Kd.R_drewN | apply Kd.R_drew)); exact HO_5.out⟩, ⟨bq BK195⟩, ⟨qb HB⟩⟩
     case rest =>
      clear HC12; (try clear c1); (try clear c2); (try clear c2b0); (try clear c2b1); (try clear p2); (try clear c8); (try clear c9); (try clear c9b0); (try clear c17); (try clear c17b0); (try clear c17b1); (try clear hcz13_0); (try clear hcz13_1); (try clear hcz15_0); (try clear hcz15_1); (try clear hcz6_0); (try clear hcz6_1); (try clear hfz13_0); (try clear hfz13_1); (try clear hfz15_0); (try clear hfz15_1); (try clear hfz6_0); (try clear hfz6_1); (try clear p2); obtain ⟨kq, x55_11, rfl, HA, HJ11, HO_5, BK195, HB⟩ := hcut
      cases kq with
      | zero => exact absurd HA.out (by simp [laws_FnParts.j1])
      | succ kj11 =>
       have H := HA.out; clear HA; simp only [laws_FnParts.j1] at H; by_cases c18 : x55_11 = true
       ·subst c18
        have H1 : (some false) = some r := by rw [if_pos rfl] at H; exact H
        clear H; have H := H1; clear H1; obtain rfl := Option.some.inj H; go_wp2
        repeat (go_quiet (fail); try go_wp2)
        go_ret; exact ⟨eqq, qb HB⟩
       ·replace c18 := Bool.eq_false_iff.mpr c18; subst c18
        have H1 : (if t200 = 0 then (if x5_1.length < 17592186044416 then (laws_FnParts.l0 kj11 t192 (x5_1 ++ [t199]) (wrap64 (x6_1 + 1)) t193 t194) else (none)) else (some true)) = some r := by rw [if_neg (show ¬ (false = true) by decide)] at H; exact H
        clear H; have H := H1; clear H1; by_cases c19 : t200 = 0
        ·rw [if_pos c19] at H; have c19b0 : (t200 == 0) = true := beq_iff_eq.mpr c19; have c19b1 : (t200 != 0) = false := bne_eq_false_iff_eq.mpr c19; clear c19; by_cases c20 : x5_1.length < 17592186044416
         ·rw [if_pos c20] at H; have LMc20 := Aside0.mk c20; clear c20; obtain ⟨y203, hy203⟩ : ∃ y_ : List Int, y_ = (x5_1 ++ [t199]) := ⟨_, rfl⟩
          replace H : (laws_FnParts.l0 kj11 t192 y203 (wrap64 (x6_1 + 1)) t193 t194) = some r := by first | (rw [hy203]; with_reducible exact H) | (have H2_ := (Option.bind_some _ _).symm.trans H; rw [hy203]; with_reducible exact H2_) | (have H2_ := (Option.bind_some _ _).symm.trans H; with_reducible exact H2_) | with_reducible exact H | (rw [hy203]; exact H) | exact H
          have Ny203 := Aside0.mk hy203; clear hy203; have H' := Aside0.mk H; clear H
          go_wp2_with (first | ((with_reducible refine gate_builtin (b := .append) (xs := #[.tmp 58, .tmp 60]) rfl ?_); at_builtin; refine Kd.R_append (Kd.int .i64) (w0 := w) w.heap.size rfl (.tmp 58) (.tmp 60) 43 3 (.int .i64 0) 8 rfl Tryd.underlying43 info3 rfl (by decide) (by omega) u5 x5_1 t199 [.int .i64 t199] (fun _ => True) (fun _ => False) rfl rfl ?aP (fun _ hk => hk.elim) ?aF ?aO ?aB ?aS ?aL ?_; (case aP => exact rfl); (case aB => exact (qb HB)); (case aF => exact (fun _ _ => trivial)); (case aO => exact (qr HO_5)); (case aS => exact (below_size (qb HB))); (case aL => have := LMc20.out; omega); intro v204 w21 ho hb hg hat; rw [← Ny203.out] at ho; have n0_ := Aside0.mk (blk_grown (bq BK195) hg (Kd.R_ne HO_5.out BK195.out (by decide))); have n1_ := Aside0.mk (hb); have n2_ := Aside0.mk (ho); clear BK195; clear HB; clear HO_5; have BK195 := n0_; have HB := n1_; have HO205 := n2_; clear n0_ n1_ n2_; clear ho hb hg hat))
          repeat (go_quiet (first | ((with_reducible refine gate_builtin (b := .append) (xs := #[.tmp 58, .tmp 60]) rfl ?_); at_builtin; refine Kd.R_append (Kd.int .i64) (w0 := w) w.heap.size rfl (.tmp 58) (.tmp 60) 43 3 (.int .i64 0) 8 rfl Tryd.underlying43 info3 rfl (by decide) (by omega) u5 x5_1 t199 [.int .i64 t199] (fun _ => True) (fun _ => False) rfl rfl ?aP (fun _ hk => hk.elim) ?aF ?aO ?aB ?aS ?aL ?_; (case aP => exact rfl); (case aB => exact (qb HB)); (case aF => exact (fun _ _ => trivial)); (case aO => exact (qr HO_5)); (case aS => exact (below_size (qb HB))); (case aL => have := LMc20.out; omega); intro v204 w21 ho hb hg hat; rw [← Ny203.out] at ho; have n0_ := Aside0.mk (blk_grown (bq BK195) hg (Kd.R_ne HO_5.out BK195.out (by decide))); have n1_ := Aside0.mk (hb); have n2_ := Aside0.mk (ho); clear BK195; clear HB; clear HO_5; have BK195 := n0_; have HB := n1_; have HO205 := n2_; clear n0_ n1_ n2_; clear ho hb hg hat)); try go_wp2_with (first | ((with_reducible refine gate_builtin (b := .append) (xs := #[.tmp 58, .tmp 60]) rfl ?_); at_builtin; refine Kd.R_append (Kd.int .i64) (w0 := w) w.heap.size rfl (.tmp 58) (.tmp 60) 43 3 (.int .i64 0) 8 rfl Tryd.underlying43 info3 rfl (by decide) (by omega) u5 x5_1 t199 [.int .i64 t199] (fun _ => True) (fun _ => False) rfl rfl ?aP (fun _ hk => hk.elim) ?aF ?aO ?aB ?aS ?aL ?_; (case aP => exact rfl); (case aB => exact (qb HB)); (case aF => exact (fun _ _ => trivial)); (case aO => exact (qr HO_5)); (case aS => exact (below_size (qb HB))); (case aL => have := LMc20.out; omega); intro v204 w21 ho hb hg hat; rw [← Ny203.out] at ho; have n0_ := Aside0.mk (blk_grown (bq BK195) hg (Kd.R_ne HO_5.out BK195.out (by decide))); have n1_ := Aside0.mk (hb); have n2_ := Aside0.mk (ho); clear BK195; clear HB; clear HO_5; have BK195 := n0_; have HB := n1_; have HO205 := n2_; clear n0_ n1_ n2_; clear ho hb hg hat)))
          go_roundg kj11
          case measure => have := HK1.out; have := HJ11.out; omega
          case rel => exact ⟨(y203), (wrap64 (x6_1 + 1)), (by first | rfl | (simp; done) | (simp [*]; done)), H', ⟨by have := HK1.out; have := HJ11.out; omega⟩, ⟨by (with_reducible repeat (first | apply Kd.R_alloc | apply Kd.R_drewN | apply Kd.R_drew)); exact HO205.out⟩, ⟨bq BK195⟩, ⟨qb HB⟩⟩
         ·rw [if_neg c20] at H; exact absurd H (by simp)
        ·rw [if_neg c19] at H; have c19b0 : (t200 == 0) = false := beq_eq_false_iff_ne.mpr c19; have c19b1 : (t200 != 0) = true := bne_iff_ne.mpr c19; obtain rfl := Option.some.inj H; go_wp2
         repeat (go_quiet (fail); try go_wp2)
         go_ret; exact ⟨eqq, qb HB⟩
    ·rw [if_neg c9] at H; have c9b0 : decide (x6_1 ≤ 4) = false := decide_eq_false c9; clear c9; by_cases c22 : 0 < (x5_1.length : Int)
     ·rw [if_pos c22] at H; have c22b0 : decide (0 < (x5_1.length : Int)) = true := decide_eq_true c22; have c22b1 : decide (0 < x5_1.length) = true := decide_eq_true (by omega); clear c22; by_cases c23 : 1 < (x5_1.length : Int)
      ·rw [if_pos c23] at H; have c23b0 : decide (1 < (x5_1.length : Int)) = true := decide_eq_true c23; have c23b1 : decide (1 < x5_1.length) = true := decide_eq_true (by omega); clear c23; have HC24 := Aside0.mk H; clear H; obtain ⟨Ao25, co25, eo25⟩ := Kd.R_slice HO_5.out; subst eo25; have p206 : 0 ≤ (0 : Int) := (by omega); have q206 : 0 < (x5_1.length : Int) := of_decide_eq_true (by first | (with_reducible assumption) | assumption); obtain ⟨ad206, e206, hx206_0⟩ := Kd.at_int (Kd.R_reads' HO_5.out).2.2 0 p206 q206
       cases e206
       have qi206 : (0 < x5_1.length) = True := eq_true (by omega)
       (try rw [show ((0 : Int)).toNat = 0 from rfl] at hx206_0)
       (try rw [Addr.add_zero'] at hx206_0)
       replace p206 := eq_true p206; replace q206 := eq_true q206; have p207 : 0 ≤ (1 : Int) := (by omega); have q207 : 1 < (x5_1.length : Int) := of_decide_eq_true (by first | (with_reducible assumption) | assumption); obtain ⟨ad207, e207, hx207_0⟩ := Kd.at_int (Kd.R_reads' HO_5.out).2.2 1 p207 q207; obtain rfl : ad206 = ad207 := (by injection e207)
       (try simp only [show (1 : Int).toNat = 1 from rfl, Nat.reduceMul, Nat.reduceEqDiff, Go.Addr.add, ↓reduceIte] at hx207_0)
       have qi207 : (1 < x5_1.length) = True := eq_true (by omega)
       (try rw [show ((1 : Int)).toNat = 1 from rfl] at hx207_0)
       replace p207 := eq_true p207; replace q207 := eq_true q207
       go_upto_region 17 with (fail)
       repeat (go_quiet (fail); go_upto_region 17 with (fail))
       go_cut [98] (fun v98 wc => ∃ (kq : Nat) (x98_23 : Bool), v98 = .bool x98_23 ∧ Aside0 (laws_FnParts.j2 kq t192 x5_1 (rd x5_1 0) (rd x5_1 1) x98_23 t193 t194 = some r) ∧ Aside0 (kq ≤ k1) ∧ Aside0 (Kd.R (Kd.int .i64) 3 wc w.heap.size (fun _ => True) (.slice (some ad206) x5_1.length co25) x5_1) ∧ Aside0 (wc.heap[gb195]? = some (.cells #[.int .i64 t193, .int .i64 t194] 40 (0, 0))) ∧ Aside0 (Below w.heap.size w wc))
       case first =>
        have H := HC24.out; clear HC24; by_cases c26 : (wrap64 ((rd x5_1 1) - (rd x5_1 0))) > 1
        ·rw [if_pos c26] at H; have c26b0 : decide (1 < (wrap64 ((rd x5_1 1) - (rd x5_1 0)))) = true := decide_eq_true c26; clear c26
         (first | rw [c26b0] | (simp only [i64_w, i32_w]; rw [c26b0]) | skip)
         have H' := Aside0.mk H; clear H; go_wp2
         repeat (go_quiet (fail); try go_wp2)
         go_meet
         case rel => exact ⟨_, (true), (by first | rfl | (simp; done) | (simp [*]; done)), H', ⟨by have := HK1.out; first | omega | exact Nat.le_refl _⟩, ⟨by (with_reducible repeat (first | apply Kd.R_alloc | apply Kd.R_drewN | apply Kd.R_drew)); exact HO_5.out⟩, ⟨bq BK195⟩, ⟨qb HB⟩⟩
        ·rw [if_neg c26] at H; have c26b0 : decide (1 < (wrap64 ((rd x5_1 1) - (rd x5_1 0)))) = false := decide_eq_false c26; clear c26
         (first | rw [c26b0] | (simp only [i64_w, i32_w]; rw [c26b0]) | skip)
         by_cases c27 : (rd x5_1 1) < (rd x5_1 0)
         ·rw [if_pos c27] at H; have c27b0 : decide ((rd x5_1 1) < (rd x5_1 0)) = true := decide_eq_true c27; clear c27; have H' := Aside0.mk H; clear H; go_wp2
          repeat (go_quiet (fail); try go_wp2)
          go_meet
          case rel => exact ⟨_, (true), (by first | rfl | (simp; done) | (simp [*]; done)), H', ⟨by have := HK1.out; first | omega | exact Nat.le_refl _⟩, ⟨by (with_reducible repeat (first | apply Kd.R_alloc | apply Kd.R_drewN | apply Kd.R_drew)); exact HO_5.out⟩, ⟨bq BK195⟩, ⟨qb HB⟩⟩
         ·rw [if_neg c27] at H; have c27b0 : decide ((rd x5_1 1) < (rd x5_1 0)) = false := decide_eq_false c27; clear c27; by_cases c28 : (wrap64 ((rd x5_1 0) * t194)) > (wrap64 (t192 * t193))
          ·rw [if_pos c28] at H; have c28b0 : decide ((wrap64 (t192 * t193)) < (wrap64 ((rd x5_1 0) * t194))) = true := decide_eq_true c28; clear c28; have H' := Aside0.mk H; clear H; obtain ⟨hcz29_0, hcz29_1, hfz29_0, hfz29_1⟩ := bz2 BK195; go_wp2
           repeat (go_quiet (fail); try go_wp2)
           go_meet
           case rel => exact ⟨_, (true), (by first | rfl | (simp; done) | (simp [*]; done)), H', ⟨by have := HK1.out; first | omega | exact Nat.le_refl _⟩, ⟨by (with_reducible repeat (first | apply Kd.R_alloc | apply Kd.R_drewN | apply Kd.R_drew)); exact HO_5.out⟩, ⟨bq BK195⟩, ⟨qb HB⟩⟩
          ·rw [if_neg c28] at H; have c28b0 : decide ((wrap64 (t192 * t193)) < (wrap64 ((rd x5_1 0) * t194))) = false := decide_eq_false c28; clear c28; have H' := Aside0.mk H; clear H; obtain ⟨hcz30_0, hcz30_1, hfz30_0, hfz30_1⟩ := bz2 BK195; go_wp2
           repeat (go_quiet (fail); try go_wp2)
           go_meet
           case rel => exact ⟨_, (decide ((wrap64 ((rd x5_1 1) * t194)) < (wrap64 (t192 * t193)))), (by first | rfl | (simp; done) | (simp [*]; done)), H', ⟨by have := HK1.out; first | omega | exact Nat.le_refl _⟩, ⟨by (with_reducible repeat (first | apply Kd.R_alloc | apply Kd.R_drewN | apply Kd.R_drew)); exact HO_5.out⟩, ⟨bq BK195⟩, ⟨qb HB⟩⟩
       case rest =>
        clear HC24; (try clear c1); (try clear c2); (try clear c2b0); (try clear c2b1); (try clear p2); (try clear q2); (try clear hx2); (try clear qi2); (try clear p6); (try clear c8); (try clear c9); (try clear c9b0); (try clear c17); (try clear c17b0); (try clear c17b1); (try clear c18); (try clear c19); (try clear c19b0); (try clear c19b1); (try clear c20); (try clear p20); (try clear q20); (try clear hx20); (try clear qi20); (try clear c22); (try clear c22b0); (try clear c22b1); (try clear c23); (try clear c23b0); (try clear c23b1); (try clear c26); (try clear c26b0); (try clear c27); (try clear c27b0); (try clear c28); (try clear c28b0); (try clear hcz13_0); (try clear hcz13_1); (try clear hcz15_0); (try clear hcz15_1); (try clear hcz29_0); (try clear hcz29_1); (try clear hcz30_0); (try clear hcz30_1); (try clear hcz6_0); (try clear hcz6_1); (try clear hfz13_0); (try clear hfz13_1); (try clear hfz15_0); (try clear hfz15_1); (try clear hfz29_0); (try clear hfz29_1); (try clear hfz30_0); (try clear hfz30_1); (try clear hfz6_0); (try clear hfz6_1); (try clear hx206_0); (try clear hx207_0); (try clear p2); (try clear p206); (try clear p207); (try clear q206); (try clear q207); obtain ⟨kq, x98_23, rfl, HA, HJ23, HO_5, BK195, HB⟩ := hcut
        cases kq with
        | zero => exact absurd HA.out (by simp [laws_FnParts.j2])
        | succ kj23 =>
         have H := HA.out; clear HA; simp only [laws_FnParts.j2] at H; by_cases c31 : x98_23 = true
         ·subst c31
          have H1 : (some false) = some r := by rw [if_pos rfl] at H; exact H
          clear H; have H := H1; clear H1; obtain rfl := Option.some.inj H; go_wp2
          repeat (go_quiet (fail); try go_wp2)
          go_ret; exact ⟨eqq, qb HB⟩
         ·replace c31 := Bool.eq_false_iff.mpr c31; subst c31
          have H1 : (laws_FnParts.l1 kj23 t192 x5_1 (rd x5_1 0) (rd x5_1 1) 2 t193 t194) = some r := by rw [if_neg (show ¬ (false = true) by decide)] at H; exact H
          clear H; have H := H1; clear H1; have H' := Aside0.mk H; clear H; go_wp2
          repeat (go_quiet (fail); try go_wp2)
          go_loopg [13] kj23 (fun kq v13 w' => ∃ (x13_3 : Int), v13 = .int .i64 x13_3 ∧ Aside0 (laws_FnParts.l1 kq t192 x5_1 (rd x5_1 0) (rd x5_1 1) x13_3 t193 t194 = some r) ∧ Aside0 (kq ≤ kj23) ∧ Aside0 (Kd.R (Kd.int .i64) 3 w' w.heap.size (fun _ => True) (.slice (some ad206) x5_1.length co25) x5_1) ∧ Aside0 (w'.heap[gb195]? = some (.cells #[.int .i64 t193, .int .i64 t194] 40 (0, 0))) ∧ Aside0 (Below w.heap.size w w'))
          case atStart => exact ⟨(2), (by first | rfl | (simp; done) | (simp [*]; done)), H', ⟨Nat.le_refl _⟩, ⟨by (with_reducible repeat (first | apply Kd.R_alloc | apply Kd.R_drewN | apply Kd.R_drew)); exact HO_5.out⟩, ⟨bq BK195⟩, ⟨qb HB⟩⟩
          case round =>
           clear H'; (try clear c1); (try clear c2); (try clear c2b0); (try clear c2b1); (try clear p2); (try clear q2); (try clear hx2); (try clear qi2); (try clear c3); (try clear p6); (try clear c8); (try clear c9); (try clear c9b0); (try clear c17); (try clear c17b0); (try clear c17b1); (try clear c18); (try clear c19); (try clear c19b0); (try clear c19b1); (try clear c20); (try clear p20); (try clear q20); (try clear hx20); (try clear qi20); (try clear c22); (try clear c22b0); (try clear c22b1); (try clear c23); (try clear c23b0); (try clear c23b1); (try clear c26); (try clear c26b0); (try clear c27); (try clear c27b0); (try clear c28); (try clear c28b0); (try clear c31); (try clear hcz13_0); (try clear hcz13_1); (try clear hcz15_0); (try clear hcz15_1); (try clear hcz29_0); (try clear hcz29_1); (try clear hcz30_0); (try clear hcz30_1); (try clear hcz6_0); (try clear hcz6_1); (try clear hfz13_0); (try clear hfz13_1); (try clear hfz15_0); (try clear hfz15_1); (try clear hfz29_0); (try clear hfz29_1); (try clear hfz30_0); (try clear hfz30_1); (try clear hfz6_0); (try clear hfz6_1); (try clear hx206_0); (try clear hx207_0); (try clear p2); (try clear p20); (try clear p206); (try clear p207); (try clear p6); (try clear q2); (try clear q20); (try clear q206); (try clear q207); obtain ⟨x13_3, rfl, HA, HK3, HO_5, BK195, HB⟩ := hrel
           cases gk with
           | zero => exact absurd HA.out (by simp [laws_FnParts.l1])
           | succ k3 =>
            have H := HA.out; clear HA; simp only [laws_FnParts.l1] at H; by_cases c32 : x13_3 < 4
            ·rw [if_pos c32] at H; have c32b0 : decide (x13_3 < 4) = true := decide_eq_true c32; clear c32; by_cases c33 : 0 ≤ x13_3
             ·rw [if_pos c33] at H; have c33b0 : decide (0 ≤ x13_3) = true := decide_eq_true c33; clear c33; by_cases c34 : x13_3 < (x5_1.length : Int)
              ·rw [if_pos c34] at H; have c34b0 : decide (x13_3 < (x5_1.length : Int)) = true := decide_eq_true c34; clear c34; by_cases c35 : (rd x5_1 x13_3) = (rd x5_1 0)
               ·rw [if_pos c35] at H; have c35b0 : ((rd x5_1 x13_3) == (rd x5_1 0)) = true := beq_iff_eq.mpr c35; have c35b1 : ((rd x5_1 x13_3) != (rd x5_1 0)) = false := bne_eq_false_iff_eq.mpr c35; clear c35; by_cases c36 : (wrap64 (2 * (wrap64 ((wrap64 ((rd x5_1 x13_3) * t194)) - (wrap64 (t192 * t193)))))) > t194
                ·rw [if_pos c36] at H; have c36b0 : decide (t194 < (wrap64 (2 * (wrap64 ((wrap64 ((rd x5_1 x13_3) * t194)) - (wrap64 (t192 * t193))))))) = true := decide_eq_true c36; clear c36; obtain rfl := Option.some.inj H; have p208 : 0 ≤ (x13_3 : Int) := of_decide_eq_true (by first | (with_reducible assumption) | assumption); have q208 : x13_3 < (x5_1.length : Int) := of_decide_eq_true (by first | (with_reducible assumption) | assumption); obtain ⟨ad208, e208, hx208_0⟩ := Kd.at_int (Kd.R_reads' HO_5.out).2.2 x13_3 p208 q208; obtain rfl : ad206 = ad208 := (by injection e208); replace p208 := eq_true p208; replace q208 := eq_true q208; obtain ⟨hcz37_0, hcz37_1, hfz37_0, hfz37_1⟩ := bz2 BK195; have p209 : 0 ≤ (x13_3 : Int) := of_decide_eq_true (by first | (with_reducible assumption) | assumption); have q209 : x13_3 < (x5_1.length : Int) := of_decide_eq_true (by first | (with_reducible assumption) | assumption); obtain ⟨ad209, e209, hx209_0⟩ := Kd.at_int (Kd.R_reads' HO_5.out).2.2 x13_3 p209 q209; obtain rfl : ad206 = ad209 := (by injection e209); replace p209 := eq_true p209; replace q209 := eq_true q209; go_wp2
                 repeat (go_quiet (fail); try go_wp2)
                 go_ret; exact ⟨eqq, qb HB⟩
                ·rw [if_neg c36] at H; have c36b0 : decide (t194 < (wrap64 (2 * (wrap64 ((wrap64 ((rd x5_1 x13_3) * t194)) - (wrap64 (t192 * t193))))))) = false := decide_eq_false c36; clear c36; by_cases c38 : (wrap64 (-(wrap64 (2 * (wrap64 ((wrap64 ((rd x5_1 x13_3) * t194)) - (wrap64 (t192 * t193)))))))) > t194
                 ·rw [if_pos c38] at H; have c38b0 : decide (t194 < (wrap64 (-(wrap64 (2 * (wrap64 ((wrap64 ((rd x5_1 x13_3) * t194)) - (wrap64 (t192 * t193))))))))) = true := decide_eq_true c38; clear c38; obtain rfl := Option.some.inj H; have p208 : 0 ≤ (x13_3 : Int) := of_decide_eq_true (by first | (with_reducible assumption) | assumption); have q208 : x13_3 < (x5_1.length : Int) := of_decide_eq_true (by first | (with_reducible assumption) | assumption); obtain ⟨ad208, e208, hx208_0⟩ := Kd.at_int (Kd.R_reads' HO_5.out).2.2 x13_3 p208 q208; obtain rfl : ad206 = ad208 := (by injection e208); replace p208 := eq_true p208; replace q208 := eq_true q208; obtain ⟨hcz39_0, hcz39_1, hfz39_0, hfz39_1⟩ := bz2 BK195; have p209 : 0 ≤ (x13_3 : Int) := of_decide_eq_true (by first | (with_reducible assumption) | assumption); have q209 : x13_3 < (x5_1.length : Int) := of_decide_eq_true (by first | (with_reducible assumption) | assumption); obtain ⟨ad209, e209, hx209_0⟩ := Kd.at_int (Kd.R_reads' HO_5.out).2.2 x13_3 p209 q209; obtain rfl : ad206 = ad209 := (by injection e209); replace p209 := eq_true p209; replace q209 := eq_true q209; go_wp2
                  repeat (go_quiet (fail); try go_wp2)
                  go_ret; exact ⟨eqq, qb HB⟩
                 ·rw [if_neg c38] at H; have c38b0 : decide (t194 < (wrap64 (-(wrap64 (2 * (wrap64 ((wrap64 ((rd x5_1 x13_3) * t194)) - (wrap64 (t192 * t193))))))))) = false := decide_eq_false c38; clear c38; have H' := Aside0.mk H; clear H; have p208 : 0 ≤ (x13_3 : Int) := of_decide_eq_true (by first | (with_reducible assumption) | assumption); have q208 : x13_3 < (x5_1.length : Int) := of_decide_eq_true (by first | (with_reducible assumption) | assumption); obtain ⟨ad208, e208, hx208_0⟩ := Kd.at_int (Kd.R_reads' HO_5.out).2.2 x13_3 p208 q208; obtain rfl : ad206 = ad208 := (by injection e208); replace p208 := eq_true p208; replace q208 := eq_true q208; obtain ⟨hcz40_0, hcz40_1, hfz40_0, hfz40_1⟩ := bz2 BK195; have p209 : 0 ≤ (x13_3 : Int) := of_decide_eq_true (by first | (with_reducible assumption) | assumption); have q209 : x13_3 < (x5_1.length : Int) := of_decide_eq_true (by first | (with_reducible assumption) | assumption); obtain ⟨ad209, e209, hx209_0⟩ := Kd.at_int (Kd.R_reads' HO_5.out).2.2 x13_3 p209 q209; obtain rfl : ad206 = ad209 := (by injection e209); replace p209 := eq_true p209; replace q209 := eq_true q209; go_wp2
                  repeat (go_quiet (fail); try go_wp2)
                  go_roundg k3
                  case measure => have := HK1.out; have := HJ23.out; have := HK3.out; omega
                  case rel => exact ⟨(wrap64 (x13_3 + 1)), (by first | rfl | (simp; done) | (simp [*]; done)), H', ⟨by have := HK1.out; have := HJ23.out; have := HK3.out; omega⟩, ⟨by (with_reducible repeat (first | apply Kd.R_alloc | apply Kd.R_drewN | apply Kd.R_drew)); exact HO_5.out⟩, ⟨bq BK195⟩, ⟨qb HB⟩⟩
               ·rw [if_neg c35] at H; have c35b0 : ((rd x5_1 x13_3) == (rd x5_1 0)) = false := beq_eq_false_iff_ne.mpr c35; have c35b1 : ((rd x5_1 x13_3) != (rd x5_1 0)) = true := bne_iff_ne.mpr c35; by_cases c41 : (rd x5_1 x13_3) = (rd x5_1 1)
                ·rw [if_pos c41] at H; have c41b0 : ((rd x5_1 x13_3) == (rd x5_1 1)) = true := beq_iff_eq.mpr c41; have c41b1 : ((rd x5_1 x13_3) != (rd x5_1 1)) = false := bne_eq_false_iff_eq.mpr c41; clear c41; by_cases c42 : (wrap64 (2 * (wrap64 ((wrap64 ((rd x5_1 x13_3) * t194)) - (wrap64 (t192 * t193)))))) > t194
                 ·rw [if_pos c42] at H; have c42b0 : decide (t194 < (wrap64 (2 * (wrap64 ((wrap64 ((rd x5_1 x13_3) * t194)) - (wrap64 (t192 * t193))))))) = true := decide_eq_true c42; clear c42; obtain rfl := Option.some.inj H; have p208 : 0 ≤ (x13_3 : Int) := of_decide_eq_true (by first | (with_reducible assumption) | assumption); have q208 : x13_3 < (x5_1.length : Int) := of_decide_eq_true (by first | (with_reducible assumption) | assumption); obtain ⟨ad208, e208, hx208_0⟩ := Kd.at_int (Kd.R_reads' HO_5.out).2.2 x13_3 p208 q208; obtain rfl : ad206 = ad208 := (by injection e208); replace p208 := eq_true p208; replace q208 := eq_true q208; obtain ⟨hcz43_0, hcz43_1, hfz43_0, hfz43_1⟩ := bz2 BK195; have p209 : 0 ≤ (x13_3 : Int) := of_decide_eq_true (by first | (with_reducible assumption) | assumption); have q209 : x13_3 < (x5_1.length : Int) := of_decide_eq_true (by first | (with_reducible assumption) | assumption); obtain ⟨ad209, e209, hx209_0⟩ := Kd.at_int (Kd.R_reads' HO_5.out).2.2 x13_3 p209 q209; obtain rfl : ad206 = ad209 := (by injection e209); replace p209 := eq_true p209; replace q209 := eq_true q209; have p210 : 0 ≤ (x13_3 : Int) := of_decide_eq_true (by first | (with_reducible assumption) | assumption); have q210 : x13_3 < (x5_1.length : Int) := of_decide_eq_true (by first | (with_reducible assumption) | assumption); obtain ⟨ad210, e210, hx210_0⟩ := Kd.at_int (Kd.R_reads' HO_5.out).2.2 x13_3 p210 q210; obtain rfl : ad206 = ad210 := (by injection e210); replace p210 := eq_true p210; replace q210 := eq_true q210; go_wp2
                  repeat (go_quiet (fail); try go_wp2)
                  go_ret; exact ⟨eqq, qb HB⟩
                 ·rw [if_neg c42] at H; have c42b0 : decide (t194 < (wrap64 (2 * (wrap64 ((wrap64 ((rd x5_1 x13_3) * t194)) - (wrap64 (t192 * t193))))))) = false := decide_eq_false c42; clear c42; by_cases c44 : (wrap64 (-(wrap64 (2 * (wrap64 ((wrap64 ((rd x5_1 x13_3) * t194)) - (wrap64 (t192 * t193)))))))) > t194
                  ·rw [if_pos c44] at H; have c44b0 : decide (t194 < (wrap64 (-(wrap64 (2 * (wrap64 ((wrap64 ((rd x5_1 x13_3) * t194)) - (wrap64 (t192 * t193))))))))) = true := decide_eq_true c44; clear c44; obtain rfl := Option.some.inj H; have p208 : 0 ≤ (x13_3 : Int) := of_decide_eq_true (by first | (with_reducible assumption) | assumption); have q208 : x13_3 < (x5_1.length : Int) := of_decide_eq_true (by first | (with_reducible assumption) | assumption); obtain ⟨ad208, e208, hx208_0⟩ := Kd.at_int (Kd.R_reads' HO_5.out).2.2 x13_3 p208 q208; obtain rfl : ad206 = ad208 := (by injection e208); replace p208 := eq_true p208; replace q208 := eq_true q208; obtain ⟨hcz45_0, hcz45_1, hfz45_0, hfz45_1⟩ := bz2 BK195; have p209 : 0 ≤ (x13_3 : Int) := of_decide_eq_true (by first | (with_reducible assumption) | assumption); have q209 : x13_3 < (x5_1.length : Int) := of_decide_eq_true (by first | (with_reducible assumption) | assumption); obtain ⟨ad209, e209, hx209_0⟩ := Kd.at_int (Kd.R_reads' HO_5.out).2.2 x13_3 p209 q209; obtain rfl : ad206 = ad209 := (by injection e209); replace p209 := eq_true p209; replace q209 := eq_true q209; have p210 : 0 ≤ (x13_3 : Int) := of_decide_eq_true (by first | (with_reducible assumption) | assumption); have q210 : x13_3 < (x5_1.length : Int) := of_decide_eq_true (by first | (with_reducible assumption) | assumption); obtain ⟨ad210, e210, hx210_0⟩ := Kd.at_int (Kd.R_reads' HO_5.out).2.2 x13_3 p210 q210; obtain rfl : ad206 = ad210 := (by injection e210); replace p210 := eq_true p210; replace q210 := eq_true q210; go_wp2
                   repeat (go_quiet (fail); try go_wp2)
                   go_ret; exact ⟨eqq, qb HB⟩
                  ·rw [if_neg c44] at H; have c44b0 : decide (t194 < (wrap64 (-(wrap64 (2 * (wrap64 ((wrap64 ((rd x5_1 x13_3) * t194)) - (wrap64 (t192 * t193))))))))) = false := decide_eq_false c44; clear c44; have H' := Aside0.mk H; clear H; have p208 : 0 ≤ (x13_3 : Int) := of_decide_eq_true (by first | (with_reducible assumption) | assumption); have q208 : x13_3 < (x5_1.length : Int) := of_decide_eq_true (by first | (with_reducible assumption) | assumption); obtain ⟨ad208, e208, hx208_0⟩ := Kd.at_int (Kd.R_reads' HO_5.out).2.2 x13_3 p208 q208; obtain rfl : ad206 = ad208 := (by injection e208); replace p208 := eq_true p208; replace q208 := eq_true q208; obtain ⟨hcz46_0, hcz46_1, hfz46_0, hfz46_1⟩ := bz2 BK195; have p209 : 0 ≤ (x13_3 : Int) := of_decide_eq_true (by first | (with_reducible assumption) | assumption); have q209 : x13_3 < (x5_1.length : Int) := of_decide_eq_true (by first | (with_reducible assumption) | assumption); obtain ⟨ad209, e209, hx209_0⟩ := Kd.at_int (Kd.R_reads' HO_5.out).2.2 x13_3 p209 q209; obtain rfl : ad206 = ad209 := (by injection e209); replace p209 := eq_true p209; replace q209 := eq_true q209; have p210 : 0 ≤ (x13_3 : Int) := of_decide_eq_true (by first | (with_reducible assumption) | assumption); have q210 : x13_3 < (x5_1.length : Int) := of_decide_eq_true (by first | (with_reducible assumption) | assumption); obtain ⟨ad210, e210, hx210_0⟩ := Kd.at_int (Kd.R_reads' HO_5.out).2.2 x13_3 p210 q210; obtain rfl : ad206 = ad210 := (by injection e210); replace p210 := eq_true p210; replace q210 := eq_true q210; go_wp2
                   repeat (go_quiet (fail); try go_wp2)
                   go_roundg k3
                   case measure => have := HK1.out; have := HJ23.out; have := HK3.out; omega
                   case rel => exact ⟨(wrap64 (x13_3 + 1)), (by first | rfl | (simp; done) | (simp [*]; done)), H', ⟨by have := HK1.out; have := HJ23.out; have := HK3.out; omega⟩, ⟨by (with_reducible repeat (first | apply Kd.R_alloc | apply Kd.R_drewN | apply Kd.R_drew)); exact HO_5.out⟩, ⟨bq BK195⟩, ⟨qb HB⟩⟩
                ·rw [if_neg c41] at H; have c41b0 : ((rd x5_1 x13_3) == (rd x5_1 1)) = false := beq_eq_false_iff_ne.mpr c41; have c41b1 : ((rd x5_1 x13_3) != (rd x5_1 1)) = true := bne_iff_ne.mpr c41; obtain rfl := Option.some.inj H; have p208 : 0 ≤ (x13_3 : Int) := of_decide_eq_true (by first | (with_reducible assumption) | assumption); have q208 : x13_3 < (x5_1.length : Int) := of_decide_eq_true (by first | (with_reducible assumption) | assumption); obtain ⟨ad208, e208, hx208_0⟩ := Kd.at_int (Kd.R_reads' HO_5.out).2.2 x13_3 p208 q208; obtain rfl : ad206 = ad208 := (by injection e208); replace p208 := eq_true p208; replace q208 := eq_true q208; obtain ⟨hcz47_0, hcz47_1, hfz47_0, hfz47_1⟩ := bz2 BK195; have p209 : 0 ≤ (x13_3 : Int) := of_decide_eq_true (by first | (with_reducible assumption) | assumption); have q209 : x13_3 < (x5_1.length : Int) := of_decide_eq_true (by first | (with_reducible assumption) | assumption); obtain ⟨ad209, e209, hx209_0⟩ := Kd.at_int (Kd.R_reads' HO_5.out).2.2 x13_3 p209 q209; obtain rfl : ad206 = ad209 := (by injection e209); replace p209 := eq_true p209; replace q209 := eq_true q209; have p210 : 0 ≤ (x13_3 : Int) := of_decide_eq_true (by first | (with_reducible assumption) | assumption); have q210 : x13_3 < (x5_1.length : Int) := of_decide_eq_true (by first | (with_reducible assumption) | assumption); obtain ⟨ad210, e210, hx210_0⟩ := Kd.at_int (Kd.R_reads' HO_5.out).2.2 x13_3 p210 q210; obtain rfl : ad206 = ad210 := (by injection e210); replace p210 := eq_true p210; replace q210 := eq_true q210; go_wp2
                 repeat (go_quiet (fail); try go_wp2)
                 go_ret; exact ⟨eqq, qb HB⟩
              ·rw [if_neg c34] at H; exact absurd H (by simp)
             ·rw [if_neg c33] at H; exact absurd H (by simp)
            ·rw [if_neg c32] at H; have c32b0 : decide (x13_3 < 4) = false := decide_eq_false c32; clear c32; by_cases c48 : t193 > 0
             ·rw [if_pos c48] at H; have c48b0 : decide (0 < t193) = true := decide_eq_true c48; clear c48; replace H := Option.bind_eq_some_iff.mp H; obtain ⟨⟨t211, t212⟩, A490, H⟩ := H; replace H : (if t212 = 0 then (laws_FnParts.j4 k3 t192 (t211 != t192)) else (laws_FnParts.j4 k3 t192 true)) = some r := H; have A49 := Aside0.mk A490; clear A490; have HC50 := Aside0.mk H; clear H; obtain ⟨hcz51_0, hcz51_1, hfz51_0, hfz51_1⟩ := bz2 BK195
              go_upto_region 27 with (first | (go_at_call 25; (with_reducible refine (impl_Exchange.calls k3 t192 t193 t194 t193 t194 3 t211 t212 _ A49.out).mono ?_); rintro e w52 ⟨rfl, hb⟩; have n0_ := Aside0.mk (Kd.R_below (qr HO_5) hb); have n1_ := Aside0.mk (blk_below (bq BK195) hb); have n2_ := Aside0.mk (below_step (qb HB) hb); clear HO_5; clear BK195; clear HB; have HO_5 := n0_; have BK195 := n1_; have HB := n2_; clear n0_ n1_ n2_; (try clear hb); (try clear hb2); (try clear hk); (try clear hi)))
              repeat (go_quiet (first | (go_at_call 25; (with_reducible refine (impl_Exchange.calls k3 t192 t193 t194 t193 t194 3 t211 t212 _ A49.out).mono ?_); rintro e w52 ⟨rfl, hb⟩; have n0_ := Aside0.mk (Kd.R_below (qr HO_5) hb); have n1_ := Aside0.mk (blk_below (bq BK195) hb); have n2_ := Aside0.mk (below_step (qb HB) hb); clear HO_5; clear BK195; clear HB; have HO_5 := n0_; have BK195 := n1_; have HB := n2_; clear n0_ n1_ n2_; (try clear hb); (try clear hb2); (try clear hk); (try clear hi))); go_upto_region 27 with (first | (go_at_call 25; (with_reducible refine (impl_Exchange.calls k3 t192 t193 t194 t193 t194 3 t211 t212 _ A49.out).mono ?_); rintro e w52 ⟨rfl, hb⟩; have n0_ := Aside0.mk (Kd.R_below (qr HO_5) hb); have n1_ := Aside0.mk (blk_below (bq BK195) hb); have n2_ := Aside0.mk (below_step (qb HB) hb); clear HO_5; clear BK195; clear HB; have HO_5 := n0_; have BK195 := n1_; have HB := n2_; clear n0_ n1_ n2_; (try clear hb); (try clear hb2); (try clear hk); (try clear hi))))
              (try simp only [Act.put, sA, s0, sS])
              go_cut [159] (fun v159 wc => ∃ (kq : Nat) (x159_49 : Bool), v159 = .bool x159_49 ∧ Aside0 (laws_FnParts.j4 kq t192 x159_49 = some r) ∧ Aside0 (kq ≤ k3) ∧ Aside0 (wc.heap[gb195]? = some (.cells #[.int .i64 t193, .int .i64 t194] 40 (0, 0))) ∧ Aside0 (Below w.heap.size w wc))
              case first =>
               have H := HC50.out; clear HC50; by_cases c53 : t212 = 0
               ·rw [if_pos c53] at H; have c53b0 : (t212 == 0) = true := beq_iff_eq.mpr c53; have c53b1 : (t212 != 0) = false := bne_eq_false_iff_eq.mpr c53; clear c53
                (first | rw [c53b0] | (simp only [i64_w, i32_w]; rw [c53b0]) | skip)
                have H' := Aside0.mk H; clear H; go_wp2
                repeat (go_quiet (fail); try go_wp2)
                go_meet
                case rel => exact ⟨_, ((t211 != t192)), (by first | rfl | (simp; done) | (simp [*]; done)), H', ⟨by have := HK1.out; have := HJ23.out; have := HK3.out; first | omega | exact Nat.le_refl _⟩, ⟨bq BK195⟩, ⟨qb HB⟩⟩
               ·rw [if_neg c53] at H; have c53b0 : (t212 == 0) = false := beq_eq_false_iff_ne.mpr c53; have c53b1 : (t212 != 0) = true := bne_iff_ne.mpr c53
                (first | rw [c53b0] | (simp only [i64_w, i32_w]; rw [c53b0]) | skip)
                have H' := Aside0.mk H; clear H; go_wp2
                repeat (go_quiet (fail); try go_wp2)
                go_meet
                case rel => exact ⟨_, (true), (by first | rfl | (simp; done) | (simp [*]; done)), H', ⟨by have := HK1.out; have := HJ23.out; have := HK3.out; first | omega | exact Nat.le_refl _⟩, ⟨bq BK195⟩, ⟨qb HB⟩⟩
              case rest =>
               clear HC50; (try clear c1); (try clear c2); (try clear c2b0); (try clear c2b1); (try clear p2); (try clear q2); (try clear hx2); (try clear qi2); (try clear c3); (try clear c4); (try clear c5); (try clear p6); (try clear c8); (try clear c9); (try clear c9b0); (try clear c17); (try clear c17b0); (try clear c17b1); (try clear c18); (try clear c19); (try clear c19b0); (try clear c19b1); (try clear c20); (try clear p20); (try clear q20); (try clear hx20); (try clear qi20); (try clear p21); (try clear q21); (try clear hx21); (try clear c22); (try clear c22b0); (try clear c22b1); (try clear c23); (try clear c23b0); (try clear c23b1); (try clear c26); (try clear c26b0); (try clear c27); (try clear c27b0); (try clear c28); (try clear c28b0); (try clear c31); (try clear c32); (try clear c32b0); (try clear c33); (try clear c33b0); (try clear c34); (try clear c34b0); (try clear c35); (try clear c35b0); (try clear c35b1); (try clear c36); (try clear c36b0); (try clear c38); (try clear c38b0); (try clear c41); (try clear c41b0); (try clear c41b1); (try clear c42); (try clear c42b0); (try clear c44); (try clear c44b0); (try clear c48); (try clear c48b0); (try clear c53); (try clear c53b0); (try clear c53b1); (try clear hcz13_0); (try clear hcz13_1); (try clear hcz15_0); (try clear hcz15_1); (try clear hcz29_0); (try clear hcz29_1); (try clear hcz30_0); (try clear hcz30_1); (try clear hcz37_0); (try clear hcz37_1); (try clear hcz39_0); (try clear hcz39_1); (try clear hcz40_0); (try clear hcz40_1); (try clear hcz43_0); (try clear hcz43_1); (try clear hcz45_0); (try clear hcz45_1); (try clear hcz46_0); (try clear hcz46_1); (try clear hcz47_0); (try clear hcz47_1); (try clear hcz51_0); (try clear hcz51_1); (try clear hcz6_0); (try clear hcz6_1); (try clear hfz13_0); (try clear hfz13_1); (try clear hfz15_0); (try clear hfz15_1); (try clear hfz29_0); (try clear hfz29_1); (try clear hfz30_0); (try clear hfz30_1); (try clear hfz37_0); (try clear hfz37_1); (try clear hfz39_0); (try clear hfz39_1); (try clear hfz40_0); (try clear hfz40_1); (try clear hfz43_0); (try clear hfz43_1); (try clear hfz45_0); (try clear hfz45_1); (try clear hfz46_0); (try clear hfz46_1); (try clear hfz47_0); (try clear hfz47_1); (try clear hfz51_0); (try clear hfz51_1); (try clear hfz6_0); (try clear hfz6_1); (try clear hx206_0); (try clear hx207_0); (try clear hx208_0); (try clear hx209_0); (try clear hx210_0); (try clear p2); (try clear p20); (try clear p206); (try clear p207); (try clear p208); (try clear p209); (try clear p210); (try clear p6); (try clear q2); (try clear q20); (try clear q206); (try clear q207); (try clear q208); (try clear q209); (try clear q210); obtain ⟨kq, x159_49, rfl, HA, HJ49, BK195, HB⟩ := hcut
               cases kq with
               | zero => exact absurd HA.out (by simp [laws_FnParts.j4])
               | succ kj49 =>
                have H := HA.out; clear HA; simp only [laws_FnParts.j4] at H; by_cases c54 : x159_49 = true
                ·subst c54
                 have H1 : (some false) = some r := by rw [if_pos rfl] at H; exact H
                 clear H; have H := H1; clear H1; obtain rfl := Option.some.inj H; go_wp2
                 repeat (go_quiet (fail); try go_wp2)
                 go_ret; exact ⟨eqq, qb HB⟩
                ·replace c54 := Bool.eq_false_iff.mpr c54; subst c54
                 have H1 : ((impl_MoneyText.f t192).bind fun bt213 => ((impl_ReadMoney.f kj49 bt213.1).bind fun bt215 => (if bt213.2 = 0 then (if bt215.2 = 0 then (some (bt215.1 == t192)) else (some false)) else (some false)))) = some r := by rw [if_neg (show ¬ (false = true) by decide)] at H; exact H
                 clear H; have H := H1; clear H1; replace H := Option.bind_eq_some_iff.mp H; obtain ⟨⟨t213, t214⟩, A550, H⟩ := H; replace H : ((impl_ReadMoney.f kj49 t213).bind fun bt215 => (if t214 = 0 then (if bt215.2 = 0 then (some (bt215.1 == t192)) else (some false)) else (some false))) = some r := H; have A55 := Aside0.mk A550; clear A550; replace H := Option.bind_eq_some_iff.mp H; obtain ⟨⟨t215, t216⟩, A560, H⟩ := H; replace H : (if t214 = 0 then (if t216 = 0 then (some (t215 == t192)) else (some false)) else (some false)) = some r := H; have A56 := Aside0.mk A560; clear A560; by_cases c57 : t214 = 0
                 ·rw [if_pos c57] at H; have c57b0 : (t214 == 0) = true := beq_iff_eq.mpr c57; have c57b1 : (t214 != 0) = false := bne_eq_false_iff_eq.mpr c57; clear c57; by_cases c58 : t216 = 0
                  ·rw [if_pos c58] at H; have c58b0 : (t216 == 0) = true := beq_iff_eq.mpr c58; have c58b1 : (t216 != 0) = false := bne_eq_false_iff_eq.mpr c58; clear c58; obtain rfl := Option.some.inj H
                   go_wp2_with (first | (go_at_call 10; (with_reducible refine (impl_MoneyText.calls t192 t213 t214 _ A55.out).mono ?_); rintro e w59 ⟨rfl, hb⟩; have n0_ := Aside0.mk (blk_below (bq BK195) hb); have n1_ := Aside0.mk (below_step (qb HB) hb); clear BK195; clear HB; have BK195 := n0_; have HB := n1_; clear n0_ n1_; (try clear hb); (try clear hb2); (try clear hk); (try clear hi)) | (go_at_call 21; (with_reducible refine (impl_ReadMoney.calls kj49 t213 t215 t216 _ A56.out).mono ?_); rintro e w60 ⟨rfl, hb⟩; have n0_ := Aside0.mk (blk_below (bq BK195) hb); have n1_ := Aside0.mk (below_step (qb HB) hb); clear BK195; clear HB; have BK195 := n0_; have HB := n1_; clear n0_ n1_; (try clear hb); (try clear hb2); (try clear hk); (try clear hi)))
                   repeat (go_quiet (first | (go_at_call 10; (with_reducible refine (impl_MoneyText.calls t192 t213 t214 _ A55.out).mono ?_); rintro e w59 ⟨rfl, hb⟩; have n0_ := Aside0.mk (blk_below (bq BK195) hb); have n1_ := Aside0.mk (below_step (qb HB) hb); clear BK195; clear HB; have BK195 := n0_; have HB := n1_; clear n0_ n1_; (try clear hb); (try clear hb2); (try clear hk); (try clear hi)) | (go_at_call 21; (with_reducible refine (impl_ReadMoney.calls kj49 t213 t215 t216 _ A56.out).mono ?_); rintro e w60 ⟨rfl, hb⟩; have n0_ := Aside0.mk (blk_below (bq BK195) hb); have n1_ := Aside0.mk (below_step (qb HB) hb); clear BK195; clear HB; have BK195 := n0_; have HB := n1_; clear n0_ n1_; (try clear hb); (try clear hb2); (try clear hk); (try clear hi))); try go_wp2_with (first | (go_at_call 10; (with_reducible refine (impl_MoneyText.calls t192 t213 t214 _ A55.out).mono ?_); rintro e w59 ⟨rfl, hb⟩; have n0_ := Aside0.mk (blk_below (bq BK195) hb); have n1_ := Aside0.mk (below_step (qb HB) hb); clear BK195; clear HB; have BK195 := n0_; have HB := n1_; clear n0_ n1_; (try clear hb); (try clear hb2); (try clear hk); (try clear hi)) | (go_at_call 21; (with_reducible refine (impl_ReadMoney.calls kj49 t213 t215 t216 _ A56.out).mono ?_); rintro e w60 ⟨rfl, hb⟩; have n0_ := Aside0.mk (blk_below (bq BK195) hb); have n1_ := Aside0.mk (below_step (qb HB) hb); clear BK195; clear HB; have BK195 := n0_; have HB := n1_; clear n0_ n1_; (try clear hb); (try clear hb2); (try clear hk); (try clear hi))))
                   go_ret; exact ⟨eqq, qb HB⟩
                  ·rw [if_neg c58] at H; have c58b0 : (t216 == 0) = false := beq_eq_false_iff_ne.mpr c58; have c58b1 : (t216 != 0) = true := bne_iff_ne.mpr c58; obtain rfl := Option.some.inj H
                   go_wp2_with (first | (go_at_call 10; (with_reducible refine (impl_MoneyText.calls t192 t213 t214 _ A55.out).mono ?_); rintro e w61 ⟨rfl, hb⟩; have n0_ := Aside0.mk (blk_below (bq BK195) hb); have n1_ := Aside0.mk (below_step (qb HB) hb); clear BK195; clear HB; have BK195 := n0_; have HB := n1_; clear n0_ n1_; (try clear hb); (try clear hb2); (try clear hk); (try clear hi)) | (go_at_call 21; (with_reducible refine (impl_ReadMoney.calls kj49 t213 t215 t216 _ A56.out).mono ?_); rintro e w62 ⟨rfl, hb⟩; have n0_ := Aside0.mk (blk_below (bq BK195) hb); have n1_ := Aside0.mk (below_step (qb HB) hb); clear BK195; clear HB; have BK195 := n0_; have HB := n1_; clear n0_ n1_; (try clear hb); (try clear hb2); (try clear hk); (try clear hi)))
                   repeat (go_quiet (first | (go_at_call 10; (with_reducible refine (impl_MoneyText.calls t192 t213 t214 _ A55.out).mono ?_); rintro e w61 ⟨rfl, hb⟩; have n0_ := Aside0.mk (blk_below (bq BK195) hb); have n1_ := Aside0.mk (below_step (qb HB) hb); clear BK195; clear HB; have BK195 := n0_; have HB := n1_; clear n0_ n1_; (try clear hb); (try clear hb2); (try clear hk); (try clear hi)) | (go_at_call 21; (with_reducible refine (impl_ReadMoney.calls kj49 t213 t215 t216 _ A56.out).mono ?_); rintro e w62 ⟨rfl, hb⟩; have n0_ := Aside0.mk (blk_below (bq BK195) hb); have n1_ := Aside0.mk (below_step (qb HB) hb); clear BK195; clear HB; have BK195 := n0_; have HB := n1_; clear n0_ n1_; (try clear hb); (try clear hb2); (try clear hk); (try clear hi))); try go_wp2_with (first | (go_at_call 10; (with_reducible refine (impl_MoneyText.calls t192 t213 t214 _ A55.out).mono ?_); rintro e w61 ⟨rfl, hb⟩; have n0_ := Aside0.mk (blk_below (bq BK195) hb); have n1_ := Aside0.mk (below_step (qb HB) hb); clear BK195; clear HB; have BK195 := n0_; have HB := n1_; clear n0_ n1_; (try clear hb); (try clear hb2); (try clear hk); (try clear hi)) | (go_at_call 21; (with_reducible refine (impl_ReadMoney.calls kj49 t213 t215 t216 _ A56.out).mono ?_); rintro e w62 ⟨rfl, hb⟩; have n0_ := Aside0.mk (blk_below (bq BK195) hb); have n1_ := Aside0.mk (below_step (qb HB) hb); clear BK195; clear HB; have BK195 := n0_; have HB := n1_; clear n0_ n1_; (try clear hb); (try clear hb2); (try clear hk); (try clear hi))))
                   go_ret; exact ⟨eqq, qb HB⟩
                 ·rw [if_neg c57] at H; have c57b0 : (t214 == 0) = false := beq_eq_false_iff_ne.mpr c57; have c57b1 : (t214 != 0) = true := bne_iff_ne.mpr c57; obtain rfl := Option.some.inj H
                  go_wp2_with (first | (go_at_call 10; (with_reducible refine (impl_MoneyText.calls t192 t213 t214 _ A55.out).mono ?_); rintro e w63 ⟨rfl, hb⟩; have n0_ := Aside0.mk (blk_below (bq BK195) hb); have n1_ := Aside0.mk (below_step (qb HB) hb); clear BK195; clear HB; have BK195 := n0_; have HB := n1_; clear n0_ n1_; (try clear hb); (try clear hb2); (try clear hk); (try clear hi)) | (go_at_call 21; (with_reducible refine (impl_ReadMoney.calls kj49 t213 t215 t216 _ A56.out).mono ?_); rintro e w64 ⟨rfl, hb⟩; have n0_ := Aside0.mk (blk_below (bq BK195) hb); have n1_ := Aside0.mk (below_step (qb HB) hb); clear BK195; clear HB; have BK195 := n0_; have HB := n1_; clear n0_ n1_; (try clear hb); (try clear hb2); (try clear hk); (try clear hi)))
                  repeat (go_quiet (first | (go_at_call 10; (with_reducible refine (impl_MoneyText.calls t192 t213 t214 _ A55.out).mono ?_); rintro e w63 ⟨rfl, hb⟩; have n0_ := Aside0.mk (blk_below (bq BK195) hb); have n1_ := Aside0.mk (below_step (qb HB) hb); clear BK195; clear HB; have BK195 := n0_; have HB := n1_; clear n0_ n1_; (try clear hb); (try clear hb2); (try clear hk); (try clear hi)) | (go_at_call 21; (with_reducible refine (impl_ReadMoney.calls kj49 t213 t215 t216 _ A56.out).mono ?_); rintro e w64 ⟨rfl, hb⟩; have n0_ := Aside0.mk (blk_below (bq BK195) hb); have n1_ := Aside0.mk (below_step (qb HB) hb); clear BK195; clear HB; have BK195 := n0_; have HB := n1_; clear n0_ n1_; (try clear hb); (try clear hb2); (try clear hk); (try clear hi))); try go_wp2_with (first | (go_at_call 10; (with_reducible refine (impl_MoneyText.calls t192 t213 t214 _ A55.out).mono ?_); rintro e w63 ⟨rfl, hb⟩; have n0_ := Aside0.mk (blk_below (bq BK195) hb); have n1_ := Aside0.mk (below_step (qb HB) hb); clear BK195; clear HB; have BK195 := n0_; have HB := n1_; clear n0_ n1_; (try clear hb); (try clear hb2); (try clear hk); (try clear hi)) | (go_at_call 21; (with_reducible refine (impl_ReadMoney.calls kj49 t213 t215 t216 _ A56.out).mono ?_); rintro e w64 ⟨rfl, hb⟩; have n0_ := Aside0.mk (blk_below (bq BK195) hb); have n1_ := Aside0.mk (below_step (qb HB) hb); clear BK195; clear HB; have BK195 := n0_; have HB := n1_; clear n0_ n1_; (try clear hb); (try clear hb2); (try clear hk); (try clear hi))))
                  go_ret; exact ⟨eqq, qb HB⟩
             ·rw [if_neg c48] at H; have c48b0 : decide (0 < t193) = false := decide_eq_false c48; clear c48; replace H := Option.bind_eq_some_iff.mp H; obtain ⟨⟨t217, t218⟩, A650, H⟩ := H; replace H : ((impl_ReadMoney.f k3 t217).bind fun bt219 => (if t218 = 0 then (if bt219.2 = 0 then (some (bt219.1 == t192)) else (some false)) else (some false))) = some r := H; have A65 := Aside0.mk A650; clear A650; replace H := Option.bind_eq_some_iff.mp H; obtain ⟨⟨t219, t220⟩, A660, H⟩ := H; replace H : (if t218 = 0 then (if t220 = 0 then (some (t219 == t192)) else (some false)) else (some false)) = some r := H; have A66 := Aside0.mk A660; clear A660; by_cases c67 : t218 = 0
              ·rw [if_pos c67] at H; have c67b0 : (t218 == 0) = true := beq_iff_eq.mpr c67; have c67b1 : (t218 != 0) = false := bne_eq_false_iff_eq.mpr c67; clear c67; by_cases c68 : t220 = 0
               ·rw [if_pos c68] at H; have c68b0 : (t220 == 0) = true := beq_iff_eq.mpr c68; have c68b1 : (t220 != 0) = false := bne_eq_false_iff_eq.mpr c68; clear c68; obtain rfl := Option.some.inj H; obtain ⟨hcz69_0, hcz69_1, hfz69_0, hfz69_1⟩ := bz2 BK195
                go_wp2_with (first | (go_at_call 10; (with_reducible refine (impl_MoneyText.calls t192 t217 t218 _ A65.out).mono ?_); rintro e w70 ⟨rfl, hb⟩; have n0_ := Aside0.mk (Kd.R_below (qr HO_5) hb); have n1_ := Aside0.mk (blk_below (bq BK195) hb); have n2_ := Aside0.mk (below_step (qb HB) hb); clear HO_5; clear BK195; clear HB; have HO_5 := n0_; have BK195 := n1_; have HB := n2_; clear n0_ n1_ n2_; (try clear hb); (try clear hb2); (try clear hk); (try clear hi)) | (go_at_call 21; (with_reducible refine (impl_ReadMoney.calls k3 t217 t219 t220 _ A66.out).mono ?_); rintro e w71 ⟨rfl, hb⟩; have n0_ := Aside0.mk (Kd.R_below (qr HO_5) hb); have n1_ := Aside0.mk (blk_below (bq BK195) hb); have n2_ := Aside0.mk (below_step (qb HB) hb); clear HO_5; clear BK195; clear HB; have HO_5 := n0_; have BK195 := n1_; have HB := n2_; clear n0_ n1_ n2_; (try clear hb); (try clear hb2); (try clear hk); (try clear hi)))
                repeat (go_quiet (first | (go_at_call 10; (with_reducible refine (impl_MoneyText.calls t192 t217 t218 _ A65.out).mono ?_); rintro e w70 ⟨rfl, hb⟩; have n0_ := Aside0.mk (Kd.R_below (qr HO_5) hb); have n1_ := Aside0.mk (blk_below (bq BK195) hb); have n2_ := Aside0.mk (below_step (qb HB) hb); clear HO_5; clear BK195; clear HB; have HO_5 := n0_; have BK195 := n1_; have HB := n2_; clear n0_ n1_ n2_; (try clear hb); (try clear hb2); (try clear hk); (try clear hi)) | (go_at_call 21; (with_reducible refine (impl_ReadMoney.calls k3 t217 t219 t220 _ A66.out).mono ?_); rintro e w71 ⟨rfl, hb⟩; have n0_ := Aside0.mk (Kd.R_below (qr HO_5) hb); have n1_ := Aside0.mk (blk_below (bq BK195) hb); have n2_ := Aside0.mk (below_step (qb HB) hb); clear HO_5; clear BK195; clear HB; have HO_5 := n0_; have BK195 := n1_; have HB := n2_; clear n0_ n1_ n2_; (try clear hb); (try clear hb2); (try clear hk); (try clear hi))); try go_wp2_with (first | (go_at_call 10; (with_reducible refine (impl_MoneyText.calls t192 t217 t218 _ A65.out).mono ?_); rintro e w70 ⟨rfl, hb⟩; have n0_ := Aside0.mk (Kd.R_below (qr HO_5) hb); have n1_ := Aside0.mk (blk_below (bq BK195) hb); have n2_ := Aside0.mk (below_step (qb HB) hb); clear HO_5; clear BK195; clear HB; have HO_5 := n0_; have BK195 := n1_; have HB := n2_; clear n0_ n1_ n2_; (try clear hb); (try clear hb2); (try clear hk); (try clear hi)) | (go_at_call 21; (with_reducible refine (impl_ReadMoney.calls k3 t217 t219 t220 _ A66.out).mono ?_); rintro e w71 ⟨rfl, hb⟩; have n0_ := Aside0.mk (Kd.R_below (qr HO_5) hb); have n1_ := Aside0.mk (blk_below (bq BK195) hb); have n2_ := Aside0.mk (below_step (qb HB) hb); clear HO_5; clear BK195; clear HB; have HO_5 := n0_; have BK195 := n1_; have HB := n2_; clear n0_ n1_ n2_; (try clear hb); (try clear hb2); (try clear hk); (try clear hi))))
                go_ret; exact ⟨eqq, qb HB⟩
               ·rw [if_neg c68] at H; have c68b0 : (t220 == 0) = false := beq_eq_false_iff_ne.mpr c68; have c68b1 : (t220 != 0) = true := bne_iff_ne.mpr c68; obtain rfl := Option.some.inj H; obtain ⟨hcz72_0, hcz72_1, hfz72_0, hfz72_1⟩ := bz2 BK195
                go_wp2_with (first | (go_at_call 10; (with_reducible refine (impl_MoneyText.calls t192 t217 t218 _ A65.out).mono ?_); rintro e w73 ⟨rfl, hb⟩; have n0_ := Aside0.mk (Kd.R_below (qr HO_5) hb); have n1_ := Aside0.mk (blk_below (bq BK195) hb); have n2_ := Aside0.mk (below_step (qb HB) hb); clear HO_5; clear BK195; clear HB; have HO_5 := n0_; have BK195 := n1_; have HB := n2_; clear n0_ n1_ n2_; (try clear hb); (try clear hb2); (try clear hk); (try clear hi)) | (go_at_call 21; (with_reducible refine (impl_ReadMoney.calls k3 t217 t219 t220 _ A66.out).mono ?_); rintro e w74 ⟨rfl, hb⟩; have n0_ := Aside0.mk (Kd.R_below (qr HO_5) hb); have n1_ := Aside0.mk (blk_below (bq BK195) hb); have n2_ := Aside0.mk (below_step (qb HB) hb); clear HO_5; clear BK195; clear HB; have HO_5 := n0_; have BK195 := n1_; have HB := n2_; clear n0_ n1_ n2_; (try clear hb); (try clear hb2); (try clear hk); (try clear hi)))
                repeat (go_quiet (first | (go_at_call 10; (with_reducible refine (impl_MoneyText.calls t192 t217 t218 _ A65.out).mono ?_); rintro e w73 ⟨rfl, hb⟩; have n0_ := Aside0.mk (Kd.R_below (qr HO_5) hb); have n1_ := Aside0.mk (blk_below (bq BK195) hb); have n2_ := Aside0.mk (below_step (qb HB) hb); clear HO_5; clear BK195; clear HB; have HO_5 := n0_; have BK195 := n1_; have HB := n2_; clear n0_ n1_ n2_; (try clear hb); (try clear hb2); (try clear hk); (try clear hi)) | (go_at_call 21; (with_reducible refine (impl_ReadMoney.calls k3 t217 t219 t220 _ A66.out).mono ?_); rintro e w74 ⟨rfl, hb⟩; have n0_ := Aside0.mk (Kd.R_below (qr HO_5) hb); have n1_ := Aside0.mk (blk_below (bq BK195) hb); have n2_ := Aside0.mk (below_step (qb HB) hb); clear HO_5; clear BK195; clear HB; have HO_5 := n0_; have BK195 := n1_; have HB := n2_; clear n0_ n1_ n2_; (try clear hb); (try clear hb2); (try clear hk); (try clear hi))); try go_wp2_with (first | (go_at_call 10; (with_reducible refine (impl_MoneyText.calls t192 t217 t218 _ A65.out).mono ?_); rintro e w73 ⟨rfl, hb⟩; have n0_ := Aside0.mk (Kd.R_below (qr HO_5) hb); have n1_ := Aside0.mk (blk_below (bq BK195) hb); have n2_ := Aside0.mk (below_step (qb HB) hb); clear HO_5; clear BK195; clear HB; have HO_5 := n0_; have BK195 := n1_; have HB := n2_; clear n0_ n1_ n2_; (try clear hb); (try clear hb2); (try clear hk); (try clear hi)) | (go_at_call 21; (with_reducible refine (impl_ReadMoney.calls k3 t217 t219 t220 _ A66.out).mono ?_); rintro e w74 ⟨rfl, hb⟩; have n0_ := Aside0.mk (Kd.R_below (qr HO_5) hb); have n1_ := Aside0.mk (blk_below (bq BK195) hb); have n2_ := Aside0.mk (below_step (qb HB) hb); clear HO_5; clear BK195; clear HB; have HO_5 := n0_; have BK195 := n1_; have HB := n2_; clear n0_ n1_ n2_; (try clear hb); (try clear hb2); (try clear hk); (try clear hi))))
                go_ret; exact ⟨eqq, qb HB⟩
              ·rw [if_neg c67] at H; have c67b0 : (t218 == 0) = false := beq_eq_false_iff_ne.mpr c67; have c67b1 : (t218 != 0) = true := bne_iff_ne.mpr c67; obtain rfl := Option.some.inj H; obtain ⟨hcz75_0, hcz75_1, hfz75_0, hfz75_1⟩ := bz2 BK195
               go_wp2_with (first | (go_at_call 10; (with_reducible refine (impl_MoneyText.calls t192 t217 t218 _ A65.out).mono ?_); rintro e w76 ⟨rfl, hb⟩; have n0_ := Aside0.mk (Kd.R_below (qr HO_5) hb); have n1_ := Aside0.mk (blk_below (bq BK195) hb); have n2_ := Aside0.mk (below_step (qb HB) hb); clear HO_5; clear BK195; clear HB; have HO_5 := n0_; have BK195 := n1_; have HB := n2_; clear n0_ n1_ n2_; (try clear hb); (try clear hb2); (try clear hk); (try clear hi)) | (go_at_call 21; (with_reducible refine (impl_ReadMoney.calls k3 t217 t219 t220 _ A66.out).mono ?_); rintro e w77 ⟨rfl, hb⟩; have n0_ := Aside0.mk (Kd.R_below (qr HO_5) hb); have n1_ := Aside0.mk (blk_below (bq BK195) hb); have n2_ := Aside0.mk (below_step (qb HB) hb); clear HO_5; clear BK195; clear HB; have HO_5 := n0_; have BK195 := n1_; have HB := n2_; clear n0_ n1_ n2_; (try clear hb); (try clear hb2); (try clear hk); (try clear hi)))
               repeat (go_quiet (first | (go_at_call 10; (with_reducible refine (impl_MoneyText.calls t192 t217 t218 _ A65.out).mono ?_); rintro e w76 ⟨rfl, hb⟩; have n0_ := Aside0.mk (Kd.R_below (qr HO_5) hb); have n1_ := Aside0.mk (blk_below (bq BK195) hb); have n2_ := Aside0.mk (below_step (qb HB) hb); clear HO_5; clear BK195; clear HB; have HO_5 := n0_; have BK195 := n1_; have HB := n2_; clear n0_ n1_ n2_; (try clear hb); (try clear hb2); (try clear hk); (try clear hi)) | (go_at_call 21; (with_reducible refine (impl_ReadMoney.calls k3 t217 t219 t220 _ A66.out).mono ?_); rintro e w77 ⟨rfl, hb⟩; have n0_ := Aside0.mk (Kd.R_below (qr HO_5) hb); have n1_ := Aside0.mk (blk_below (bq BK195) hb); have n2_ := Aside0.mk (below_step (qb HB) hb); clear HO_5; clear BK195; clear HB; have HO_5 := n0_; have BK195 := n1_; have HB := n2_; clear n0_ n1_ n2_; (try clear hb); (try clear hb2); (try clear hk); (try clear hi))); try go_wp2_with (first | (go_at_call 10; (with_reducible refine (impl_MoneyText.calls t192 t217 t218 _ A65.out).mono ?_); rintro e w76 ⟨rfl, hb⟩; have n0_ := Aside0.mk (Kd.R_below (qr HO_5) hb); have n1_ := Aside0.mk (blk_below (bq BK195) hb); have n2_ := Aside0.mk (below_step (qb HB) hb); clear HO_5; clear BK195; clear HB; have HO_5 := n0_; have BK195 := n1_; have HB := n2_; clear n0_ n1_ n2_; (try clear hb); (try clear hb2); (try clear hk); (try clear hi)) | (go_at_call 21; (with_reducible refine (impl_ReadMoney.calls k3 t217 t219 t220 _ A66.out).mono ?_); rintro e w77 ⟨rfl, hb⟩; have n0_ := Aside0.mk (Kd.R_below (qr HO_5) hb); have n1_ := Aside0.mk (blk_below (bq BK195) hb); have n2_ := Aside0.mk (below_step (qb HB) hb); clear HO_5; clear BK195; clear HB; have HO_5 := n0_; have BK195 := n1_; have HB := n2_; clear n0_ n1_ n2_; (try clear hb); (try clear hb2); (try clear hk); (try clear hi))))
               go_ret; exact ⟨eqq, qb HB⟩
      ·rw [if_neg c23] at H; exact absurd H (by simp)
     ·rw [if_neg c22] at H; exact absurd H (by simp)

/-- THE ONE PURE STATEMENT of laws_FnParts: yours. -/
def laws_FnParts.Pure : Prop := ∀ (l0 : List Int), l0.length ≤ maxLen → l0.length * 1 ≤ 140737488351232 → (∀ x ∈ l0, (Lit.int .u8 x).wf = true) → ∃ k, laws_FnParts.f k l0 = some true
theorem laws_FnParts.walk (P : laws_FnParts.Pure) (a0 : Option Addr) (len0 cap0 : Nat) (z0 : List Int) (w : World) (w0 : (a0 = none ∧ len0 = 0 ∧ cap0 = 0 ∧ z0 = []) ∨ ∃ x, a0 = some x ∧ len0 ≤ cap0 ∧ cap0 ≤ maxLen ∧ z0.length = cap0 ∧ (∀ i, i < z0.length → w.cell? (x.add i) = some (.int .u8 (z0.getD i 0))) ∧ ∀ n ∈ z0, (Lit.int .u8 n).wf = true) (y0 : len0 * 1 ≤ 140737488351232) (ht_ : Tabs w) :
  Calls Tryd.prog 8 #[.slice a0 len0 cap0] w fun e w' => e = .returned (.bool true) ∧ Below w.heap.size w w' := by
 have HT0_ := Aside0.mk ht_; obtain ⟨l0, rfl, hr0, hm0, hw0, hc0⟩ := ReadsInt.ofRowC w0; obtain ⟨k, h⟩ := P l0 hm0 y0 hw0; refine (laws_FnParts.calls k _ _ l0 true w (Kd.C_of_reads (d := (0 : Int)) (h1 := fun _ => rfl) hr0) hc0 h).mono ?_; rintro e w' ⟨rfl, hd⟩; exact ⟨rfl, hd⟩

end Go.Proofs.YtdlfpjbhcpnpfaaDoor.PFnParts
