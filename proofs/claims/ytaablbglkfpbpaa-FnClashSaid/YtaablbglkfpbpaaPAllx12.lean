-- Written by wip/tools/hp.py over the kit's print (not by hand): functions and walks of All.
import Derived.Test.YtaablbglkfpbpaaPAllx0
import Derived.Test.YtaablbglkfpbpaaPAllx2
import Derived.Test.YtaablbglkfpbpaaPAllx3
import Derived.Test.YtaablbglkfpbpaaPAllx4
import Derived.Test.YtaablbglkfpbpaaPAllx7
namespace Go.Proofs.Ytaablbglkfpbpaa.PAll
open Go.RowKit Go.Proofs.YtaablbglkfpbpaaW.PrintWords Go.Proofs.YtaablbglkfpbpaaW.PrintLast Go.Proofs.YtaablbglkfpbpaaW.PrintMore
attribute [local go_sem] max2_int min2_int max_two min_two max_three min_three max_four min_four   -- for this text's walks alone
set_option linter.unusedVariables false
set_option linter.unusedSimpArgs false

/-! ### spec_l06Find: function 78 -/
def spec_l06Find.l0 : Nat → List (S32) → ByteArray → Int → Option (Int)
 | 0, _, _, _ => none
 | k + 1, x0, x1, x5 => if x5 < (x0.length : Int) then (if 0 ≤ x5 then (if ((rd_T32 x0 x5).f0).toList = x1.toList then (some x5) else (spec_l06Find.l0 k x0 x1 (wrap64 (x5 + 1)))) else (none)) else (some (-1))
def spec_l06Find.f (k : Nat) (l0 : List (S32)) (a1 : ByteArray) : Option (Int) := spec_l06Find.l0 k l0 a1 0
theorem spec_l06Find.mono_l : ∀ k, (∀ y0 y1 y2, LeO (spec_l06Find.l0 k y0 y1 y2) (spec_l06Find.l0 (k + 1) y0 y1 y2))
 | 0 => fun _ _ _ r h => by simp [spec_l06Find.l0] at h
 | k + 1 => by
  have ih0 := spec_l06Find.mono_l k
  ·intro y0 y1 y2; unfold spec_l06Find.l0
   repeat' first
   | (with_reducible exact ih0 _ _ _)
   | (with_reducible exact LeO.refl _)
   | (with_reducible exact LeO.none _)
   | (with_reducible refine LeO.ite ?_ ?_)
   | (with_reducible refine LeO.bind ?_ (fun _ => ?_))
   | exact ih0 _ _ _
   | exact LeO.none _
   | refine LeO.ite ?_ ?_
   | refine LeO.bind ?_ (fun _ => ?_)
theorem spec_l06Find.mono : ∀ a0 a1 k, LeO (spec_l06Find.f k a0 a1) (spec_l06Find.f (k + 1) a0 a1) := by
 intro a0 a1 k; have ih0 := spec_l06Find.mono_l k; unfold spec_l06Find.f
 repeat' first
   | (with_reducible exact ih0 _ _ _)
   | (with_reducible exact LeO.refl _)
   | (with_reducible exact LeO.none _)
   | (with_reducible refine LeO.ite ?_ ?_)
   | (with_reducible refine LeO.bind ?_ (fun _ => ?_))
   | exact ih0 _ _ _
   | exact LeO.none _
   | refine LeO.ite ?_ ?_
   | refine LeO.bind ?_ (fun _ => ?_)
set_option maxHeartbeats 8000000 in
set_option maxRecDepth 100000 in
theorem spec_l06Find.calls (k : Nat) (A0 : Option Addr) (c0 : Nat) (l0 : List (S32)) (a1 : ByteArray) (r : Int) (w : World) (hr0 : Kd.C k32 w A0 l0.length l0) (hc0 : l0.length ≤ c0) (h : spec_l06Find.f k l0 a1 = some r) :
  Calls Try.prog 78 #[.slice A0 l0.length c0, .string a1] w fun e w' => e = .returned (.int .i64 r) ∧ Drawn0 w w' := by
 have HR0 := Aside0.mk hr0; have HC0 := Aside0.mk hc0; clear hr0 hc0; have H : (spec_l06Find.l0 k l0 a1 0) = some r := h; clear h; have H' := Aside0.mk H; clear H; go_enter Try.func78, Try.ntmps78; go_wp2
 go_loopg [5] k (fun kq v5 w' => ∃ (x5_1 : Int), v5 = .int .i64 x5_1 ∧ Aside0 (spec_l06Find.l0 kq l0 a1 x5_1 = some r) ∧ Aside0 (kq ≤ k) ∧ Drawn0 w w')
 case atStart => exact ⟨(0), (by first | rfl | (simp; done) | (simp [*]; done)), H', ⟨Nat.le_refl _⟩, by repeat (first | exact Drawn0.refl _ | apply Drawn0.step)⟩
 case round =>
  clear H'; (try clear p2); obtain ⟨x5_1, rfl, HA, HK1, ⟨m1, rfl⟩⟩ := hrel
  cases gk with
  | zero => exact absurd HA.out (by simp [spec_l06Find.l0])
  | succ k1 =>
   have H := HA.out; clear HA; simp only [spec_l06Find.l0] at H; by_cases c3 : x5_1 < (l0.length : Int)
   ·rw [if_pos c3] at H; have c3b0 : decide (x5_1 < (l0.length : Int)) = true := decide_eq_true c3; clear c3; by_cases c4 : 0 ≤ x5_1
    ·rw [if_pos c4] at H; have c4b0 : decide (0 ≤ x5_1) = true := decide_eq_true c4; clear c4; by_cases c5 : ((rd_T32 l0 x5_1).f0).toList = a1.toList
     ·rw [if_pos c5] at H; have c5b0 : (((rd_T32 l0 x5_1).f0).toList == a1.toList) = true := beq_iff_eq.mpr c5; have c5b1 : (((rd_T32 l0 x5_1).f0).toList != a1.toList) = false := bne_eq_false_iff_eq.mpr c5; clear c5; obtain rfl := Option.some.inj H; have p375 : 0 ≤ (x5_1 : Int) := of_decide_eq_true (by first | (with_reducible assumption) | assumption); have q375 : x5_1 < (l0.length : Int) := of_decide_eq_true (by first | (with_reducible assumption) | assumption); obtain ⟨ad375, A375_1, c375_1, e375, hx375_0, hx375_1, hx375_2, hx375_3, hl375_1, hi375_1⟩ := at_T32 HR0.out x5_1 p375 q375
      cases e375
      have HR375_1 := Aside0.mk hi375_1; have HC375_1 := Aside0.mk hl375_1; clear hi375_1 hl375_1; replace p375 := eq_true p375; replace q375 := eq_true q375; go_wp2; go_ret; exact ⟨by first | rfl | (simp; done) | (simp [*]; done), by repeat (first | exact Drawn0.refl _ | apply Drawn0.step)⟩
     ·rw [if_neg c5] at H; have c5b0 : (((rd_T32 l0 x5_1).f0).toList == a1.toList) = false := beq_eq_false_iff_ne.mpr c5; have c5b1 : (((rd_T32 l0 x5_1).f0).toList != a1.toList) = true := bne_iff_ne.mpr c5; have H' := Aside0.mk H; clear H; have p375 : 0 ≤ (x5_1 : Int) := of_decide_eq_true (by first | (with_reducible assumption) | assumption); have q375 : x5_1 < (l0.length : Int) := of_decide_eq_true (by first | (with_reducible assumption) | assumption); obtain ⟨ad375, A375_1, c375_1, e375, hx375_0, hx375_1, hx375_2, hx375_3, hl375_1, hi375_1⟩ := at_T32 HR0.out x5_1 p375 q375
      cases e375
      have HR375_1 := Aside0.mk hi375_1; have HC375_1 := Aside0.mk hl375_1; clear hi375_1 hl375_1; replace p375 := eq_true p375; replace q375 := eq_true q375; go_wp2
      go_roundg k1
      case measure => have := HK1.out; omega
      case rel => exact ⟨(wrap64 (x5_1 + 1)), (by first | rfl | (simp; done) | (simp [*]; done)), H', ⟨by have := HK1.out; omega⟩, by repeat (first | exact Drawn0.refl _ | apply Drawn0.step)⟩
    ·rw [if_neg c4] at H; exact absurd H (by simp)
   ·rw [if_neg c3] at H; have c3b0 : decide (x5_1 < (l0.length : Int)) = false := decide_eq_false c3; clear c3; obtain rfl := Option.some.inj H; go_wp2; go_ret; exact ⟨by first | rfl | (simp; done) | (simp [*]; done), by repeat (first | exact Drawn0.refl _ | apply Drawn0.step)⟩

/-! ### spec_ClausesOK: function 44 -/
def spec_ClausesOK.l0 : Nat → List (S32) → Int → Option (Bool)
 | 0, _, _ => none
 | k + 1, x0, x3 => if x3 < (x0.length : Int) then (if 0 ≤ x3 then ((spec_l06Clause.f k ((rd_T32 x0 x3).f0) ((rd_T32 x0 x3).f1) ((rd_T32 x0 x3).f2) ((rd_T32 x0 x3).f3)).bind fun t377 => (if t377 = true then (if x3 ≤ (x0.length : Int) then ((spec_l06Find.f k (x0.take (x3 : Int).toNat) ((rd_T32 x0 x3).f0)).bind fun t383 => (if t383 ≥ 0 then (some false) else (spec_ClausesOK.l0 k x0 (wrap64 (x3 + 1))))) else (none)) else (some false))) else (none)) else (some true)
def spec_ClausesOK.f (k : Nat) (l0 : List (S32)) : Option (Bool) := if (l0.length : Int) > 40 then (some false) else (spec_ClausesOK.l0 k l0 0)
theorem spec_ClausesOK.mono_l : ∀ k, (∀ y0 y1, LeO (spec_ClausesOK.l0 k y0 y1) (spec_ClausesOK.l0 (k + 1) y0 y1))
 | 0 => fun _ _ r h => by simp [spec_ClausesOK.l0] at h
 | k + 1 => by
  have ih0 := spec_ClausesOK.mono_l k
  ·intro y0 y1; unfold spec_ClausesOK.l0
   repeat' first
   | (with_reducible exact ih0 _ _)
   | (with_reducible exact spec_l06Clause.mono _ _ _ _ _)
   | (with_reducible exact spec_l06Find.mono _ _ _)
   | (with_reducible exact LeO.refl _)
   | (with_reducible exact LeO.none _)
   | (with_reducible refine LeO.ite ?_ ?_)
   | (with_reducible refine LeO.bind ?_ (fun _ => ?_))
   | exact ih0 _ _
   | exact spec_l06Clause.mono _ _ _ _ _
   | exact spec_l06Find.mono _ _ _
   | exact LeO.none _
   | refine LeO.ite ?_ ?_
   | refine LeO.bind ?_ (fun _ => ?_)
theorem spec_ClausesOK.mono : ∀ a0 k, LeO (spec_ClausesOK.f k a0) (spec_ClausesOK.f (k + 1) a0) := by
 intro a0 k; have ih0 := spec_ClausesOK.mono_l k; unfold spec_ClausesOK.f
 repeat' first
   | (with_reducible exact ih0 _ _)
   | (with_reducible exact spec_l06Clause.mono _ _ _ _ _)
   | (with_reducible exact spec_l06Find.mono _ _ _)
   | (with_reducible exact LeO.refl _)
   | (with_reducible exact LeO.none _)
   | (with_reducible refine LeO.ite ?_ ?_)
   | (with_reducible refine LeO.bind ?_ (fun _ => ?_))
   | exact ih0 _ _
   | exact spec_l06Clause.mono _ _ _ _ _
   | exact spec_l06Find.mono _ _ _
   | exact LeO.none _
   | refine LeO.ite ?_ ?_
   | refine LeO.bind ?_ (fun _ => ?_)
def spec_ClausesOK.T6 : Bool × List (List Nat × List Nat) := (true, [([], []), ([], []), ([0, 1], [0, 1]), ([2], [2]), ([3], [3]), ([4], [4]), ([5, 4], [5]), ([6], [6]), ([6], [6]), ([7, 8, 6], [6, 7, 8]), ([6], [6]), ([6], [6]), ([10, 11, 6], [6, 10, 11]), ([12, 6], [6, 12]), ([13, 6], [6, 13]), ([9, 14, 6, 6], [6, 9, 14]), ([15, 6], [6, 15]), ([6, 16], [6, 16])])
def spec_ClausesOK.B6 : List Nat := [0, 0, 3, 7, 15, 31, 63, 127, 127, 511, 127, 127, 3199, 7295, 15487, 32767, 65535, 131071]
theorem spec_ClausesOK.tab6 : rtab .any (opsOf Try.f44 6) = spec_ClausesOK.T6 := by kernel_rfl
theorem spec_ClausesOK.bits6 : waitsOk spec_ClausesOK.T6.2 spec_ClausesOK.B6 = true := by kernel_rfl
set_option maxHeartbeats 8000000 in
set_option maxRecDepth 100000 in
theorem spec_ClausesOK.calls (k : Nat) (A0 : Option Addr) (c0 : Nat) (l0 : List (S32)) (r : Bool) (w : World) (hr0 : Kd.C k32 w A0 l0.length l0) (hc0 : l0.length ≤ c0) (h : spec_ClausesOK.f k l0 = some r) :
  Calls Try.prog 44 #[.slice A0 l0.length c0] w fun e w' => e = .returned (.bool r) ∧ Below w.heap.size w w' := by
 have hu32 := Try.underlying32; have HR0 := Aside0.mk hr0; have HC0 := Aside0.mk hc0; clear hr0 hc0; have HB := Aside0.mk (Below.refl w.heap.size w); have H : (if (l0.length : Int) > 40 then (some false) else (spec_ClausesOK.l0 k l0 0)) = some r := h; clear h; by_cases c2 : (l0.length : Int) > 40
 ·rw [if_pos c2] at H; have c2b0 : decide (40 < (l0.length : Int)) = true := decide_eq_true c2; have c2b1 : decide (40 < l0.length) = true := decide_eq_true (by omega); clear c2; obtain rfl := Option.some.inj H; go_enter Try.func44, Try.ntmps44; go_wp2; go_ret; exact ⟨eqq, qb HB⟩
 ·rw [if_neg c2] at H; have c2b0 : decide (40 < (l0.length : Int)) = false := decide_eq_false c2; have c2b1 : decide (40 < l0.length) = false := decide_eq_false (by omega); clear c2; have H' := Aside0.mk H; clear H; go_enter Try.func44, Try.ntmps44; go_wp2
  go_loopg [3] k (fun kq v3 w' => ∃ (x3_1 : Int), v3 = .int .i64 x3_1 ∧ Aside0 (spec_ClausesOK.l0 kq l0 x3_1 = some r) ∧ Aside0 (kq ≤ k) ∧ Aside0 (Below w.heap.size w w'))
  case atStart => exact ⟨(0), (by first | rfl | (simp; done) | (simp [*]; done)), H', ⟨Nat.le_refl _⟩, ⟨qb HB⟩⟩
  case round =>
   clear H'; (try clear c2); (try clear c2b0); (try clear c2b1); (try clear p2); obtain ⟨x3_1, rfl, HA, HK1, HB⟩ := hrel
   cases gk with
   | zero => exact absurd HA.out (by simp [spec_ClausesOK.l0])
   | succ k1 =>
    have H := HA.out; clear HA; simp only [spec_ClausesOK.l0] at H; by_cases c3 : x3_1 < (l0.length : Int)
    ·rw [if_pos c3] at H; have c3b0 : decide (x3_1 < (l0.length : Int)) = true := decide_eq_true c3; clear c3; by_cases c4 : 0 ≤ x3_1
     ·rw [if_pos c4] at H; have c4b0 : decide (0 ≤ x3_1) = true := decide_eq_true c4; clear c4; replace H := Option.bind_eq_some_iff.mp H; obtain ⟨t377, A50, H⟩ := H; replace H : (if t377 = true then (if x3_1 ≤ (l0.length : Int) then ((spec_l06Find.f k1 (l0.take (x3_1 : Int).toNat) ((rd_T32 l0 x3_1).f0)).bind fun t383 => (if t383 ≥ 0 then (some false) else (spec_ClausesOK.l0 k1 l0 (wrap64 (x3_1 + 1))))) else (none)) else (some false)) = some r := H; have A5 := Aside0.mk A50; clear A50; by_cases c6 : t377 = true
      ·subst c6
       have H1 : (if x3_1 ≤ (l0.length : Int) then ((spec_l06Find.f k1 (l0.take (x3_1 : Int).toNat) ((rd_T32 l0 x3_1).f0)).bind fun t383 => (if t383 ≥ 0 then (some false) else (spec_ClausesOK.l0 k1 l0 (wrap64 (x3_1 + 1))))) else (none)) = some r := by rw [if_pos rfl] at H; exact H
       clear H; have H := H1; clear H1; have c7b0 := eq_true (of_decide_eq_true (by first | (with_reducible assumption) | assumption) : 0 ≤ x3_1); by_cases c8 : x3_1 ≤ (l0.length : Int)
       ·rw [if_pos c8] at H; have c8b0 := eq_true c8; have c8b1 : decide (x3_1 ≤ (l0.length : Int)) = true := decide_eq_true c8; clear c8; obtain ⟨y378, hy378⟩ : ∃ y_ : List (S32), y_ = (l0.take (x3_1 : Int).toNat) := ⟨_, rfl⟩
        replace H : ((spec_l06Find.f k1 y378 ((rd_T32 l0 x3_1).f0)).bind fun t383 => (if t383 ≥ 0 then (some false) else (spec_ClausesOK.l0 k1 l0 (wrap64 (x3_1 + 1))))) = some r := by first | (rw [hy378]; with_reducible exact H) | (have H2_ := (Option.bind_some _ _).symm.trans H; rw [hy378]; with_reducible exact H2_) | (have H2_ := (Option.bind_some _ _).symm.trans H; with_reducible exact H2_) | with_reducible exact H | (rw [hy378]; exact H) | exact H
        have Ny378 := Aside0.mk hy378; clear hy378; replace H := Option.bind_eq_some_iff.mp H; obtain ⟨t383, A90, H⟩ := H; replace H : (if t383 ≥ 0 then (some false) else (spec_ClausesOK.l0 k1 l0 (wrap64 (x3_1 + 1)))) = some r := H; have A9 := Aside0.mk A90; clear A90; by_cases c10 : t383 ≥ 0
        ·rw [if_pos c10] at H; have c10b0 : decide (0 ≤ t383) = true := decide_eq_true c10; clear c10; obtain rfl := Option.some.inj H
         try go_wp2
         have n0_ := Aside0.mk (below_drew1 HB.out); clear HB; have HB := n0_; clear n0_; have p376 : 0 ≤ (x3_1 : Int) := of_decide_eq_true (by first | (with_reducible assumption) | assumption); have q376 : x3_1 < (l0.length : Int) := of_decide_eq_true (by first | (with_reducible assumption) | assumption); obtain ⟨ad376, A376_1, c376_1, e376, hx376_0, hx376_1, hx376_2, hx376_3, hl376_1, hi376_1⟩ := at_T32 HR0.out x3_1 p376 q376; have hw376_3 := hx376_3; have hw376_2 := hx376_2; have hw376_1 := hx376_1; have hw376_0 := hx376_0
         cases e376
         replace hx376_0 := (HB.out.cell (World.block_lt_of_cell? w _ hx376_0)).trans hx376_0; replace hx376_1 := (HB.out.cell (World.block_lt_of_cell? w _ hx376_1)).trans hx376_1; replace hx376_2 := (HB.out.cell (World.block_lt_of_cell? w _ hx376_2)).trans hx376_2; replace hx376_3 := (HB.out.cell (World.block_lt_of_cell? w _ hx376_3)).trans hx376_3; have HR376_1 := Aside0.mk hi376_1; have HC376_1 := Aside0.mk hl376_1; clear hi376_1 hl376_1; replace p376 := eq_true p376; replace q376 := eq_true q376; have p382 : 0 ≤ (x3_1 : Int) := of_decide_eq_true (by first | (with_reducible assumption) | assumption); have q382 : x3_1 < (l0.length : Int) := of_decide_eq_true (by first | (with_reducible assumption) | assumption); obtain ⟨ad382, A382_1, c382_1, e382, hx382_0, hx382_1, hx382_2, hx382_3, hl382_1, hi382_1⟩ := at_T32 HR0.out x3_1 p382 q382; have hw382_3 := hx382_3; have hw382_2 := hx382_2; have hw382_1 := hx382_1; have hw382_0 := hx382_0; obtain rfl : ad376 = ad382 := (by injection e382); replace hx382_0 := (HB.out.cell (World.block_lt_of_cell? w _ hx382_0)).trans hx382_0; replace hx382_1 := (HB.out.cell (World.block_lt_of_cell? w _ hx382_1)).trans hx382_1; replace hx382_2 := (HB.out.cell (World.block_lt_of_cell? w _ hx382_2)).trans hx382_2; replace hx382_3 := (HB.out.cell (World.block_lt_of_cell? w _ hx382_3)).trans hx382_3; have HR382_1 := Aside0.mk hi382_1; have HC382_1 := Aside0.mk hl382_1; clear hi382_1 hl382_1; replace p382 := eq_true p382; replace q382 := eq_true q382; refine start_ (n := 18) (S := fun w' => w'.cell? (ad376.add ((x3_1).toNat * 4)) = some (.string ((rd_T32 l0 x3_1).f0)) ∧ w'.cell? ⟨(ad376.add ((x3_1).toNat * 4)).block, (ad376.add ((x3_1).toNat * 4)).off + 1, none⟩ = some (.slice A376_1 ((rd_T32 l0 x3_1).f1).length c376_1) ∧ w'.cell? ⟨(ad376.add ((x3_1).toNat * 4)).block, (ad376.add ((x3_1).toNat * 4)).off + 2, none⟩ = some (.int .i64 ((rd_T32 l0 x3_1).f2)) ∧ w'.cell? ⟨(ad376.add ((x3_1).toNat * 4)).block, (ad376.add ((x3_1).toNat * 4)).off + 3, none⟩ = some (.int .i64 ((rd_T32 l0 x3_1).f3)) ∧ w'.cell? (ad376.add ((x3_1).toNat * 4)) = some (.string ((rd_T32 l0 x3_1).f0)) ∧ w'.cell? ⟨(ad376.add ((x3_1).toNat * 4)).block, (ad376.add ((x3_1).toNat * 4)).off + 1, none⟩ = some (.slice A382_1 ((rd_T32 l0 x3_1).f1).length c382_1) ∧ w'.cell? ⟨(ad376.add ((x3_1).toNat * 4)).block, (ad376.add ((x3_1).toNat * 4)).off + 2, none⟩ = some (.int .i64 ((rd_T32 l0 x3_1).f2)) ∧ w'.cell? ⟨(ad376.add ((x3_1).toNat * 4)).block, (ad376.add ((x3_1).toNat * 4)).off + 3, none⟩ = some (.int .i64 ((rd_T32 l0 x3_1).f3))) (ds := []) (rl_ true [0, 18]).toArray (by kernel_rfl) rfl rfl ⟨((HB.out.cell (World.block_lt_of_cell? w _ hw376_0)).trans hw376_0), ((HB.out.cell (World.block_lt_of_cell? w _ hw376_1)).trans hw376_1), ((HB.out.cell (World.block_lt_of_cell? w _ hw376_2)).trans hw376_2), ((HB.out.cell (World.block_lt_of_cell? w _ hw376_3)).trans hw376_3), ((HB.out.cell (World.block_lt_of_cell? w _ hw382_0)).trans hw382_0), ((HB.out.cell (World.block_lt_of_cell? w _ hw382_1)).trans hw382_1), ((HB.out.cell (World.block_lt_of_cell? w _ hw382_2)).trans hw382_2), ((HB.out.cell (World.block_lt_of_cell? w _ hw382_3)).trans hw382_3)⟩ (fun hHeld => ?_); refine with_tabW spec_ClausesOK.tab6 spec_ClausesOK.bits6 (fun HT_ HW_ => ?_); generalize wr.drew = w11 at HB HR376_1 HR382_1 hx376_0 hx376_1 hx376_2 hx376_3 hx382_0 hx382_1 hx382_2 hx382_3 hHeld ⊢; refine pure_ (i := 0) (N := some 13) (v := ?_) (a' := ?_) (rl_ true [1, 17]).toArray rfl rfl (any_of HT_.out (by kernel_rfl)) (fun _ _ _ h => h) (Or.inl ⟨by rfl, ?_⟩) ?_ ?_; rotate_left
         ·intro w'; go_simp; (with_reducible rfl)
         rotate_left
         ·simp only [Act.put, sA, s0, sS, i64_w, i32_w]; rfl
         refine pure_ (i := 1) (N := some 14) (v := ?_) (a' := ?_) (rl_ true [2, 16]).toArray rfl rfl (any_of HT_.out (by kernel_rfl)) (fun _ _ _ h => h) (Or.inl ⟨by rfl, ?_⟩) ?_ ?_; rotate_left
         ·intro w'; go_simp; (with_reducible rfl)
         rotate_left
         ·simp only [Act.put, sA, s0, sS, i64_w, i32_w]; rfl
         refine pure_ (i := 2) (N := some 15) (v := ?_) (a' := ?_) (rl_ true [3, 15]).toArray rfl rfl (any_of HT_.out (by kernel_rfl)) (fun _ _ _ h => h) (Or.inl ⟨by rfl, ?_⟩) ?_ ?_; rotate_left
         ·intro w'; go_simp; (with_reducible rfl)
         rotate_left
         ·simp only [Act.put, sA, s0, sS, i64_w, i32_w]; rfl
         refine take_ (i := 3) (N := some 16) (v := ?_) (a' := ?_) (rl_ true [4, 14]).toArray rfl rfl (take_ofW HT_.out HW_.out (by kernel_rfl)) (fun _ _ _ h => h) (Or.inl ⟨by rfl, ?_⟩) hHeld ?_ ?_; rotate_left
         ·rintro w' ⟨s0, s1, s2, s3, s4, s5, s6, s7⟩; go_simp; (with_reducible rfl)
         rotate_left
         ·simp only [Act.put, sA, s0, sS, i64_w, i32_w]; rfl
         refine one_ (i := 4) (N := some 17) (rl_ true [5, 13]).toArray rfl rfl (one_of HT_.out (by kernel_rfl)) (by decide) (fun K hK => ?_); refine goes_ Try.func33 (by kernel_rfl) rfl #[.agg #[.string ((rd_T32 l0 x3_1).f0), .slice A376_1 ((rd_T32 l0 x3_1).f1).length c376_1, .int .i64 ((rd_T32 l0 x3_1).f2), .int .i64 ((rd_T32 l0 x3_1).f3)]] (by rfl) rfl rfl mq ?_; (with_reducible refine (spec_l06Clause.calls k1 ((rd_T32 l0 x3_1).f0) _ _ ((rd_T32 l0 x3_1).f1) ((rd_T32 l0 x3_1).f2) ((rd_T32 l0 x3_1).f3) true _ ?side1 ?side2 A5.out).mono ?_)
         (case side1 => repeat (first | exact (Kd.C_below HR376_1.out HB.out) | (with_reducible refine Kd.C_alloc ?_ _) | (with_reducible refine Kd.C_drewN ?_ _) | (with_reducible refine Kd.C_drew ?_)))
         (case side2 => exact HC376_1.out)
         rintro e w12 ⟨rfl, hb⟩; refine ⟨_, rfl, ?_⟩; have n0_ := Aside0.mk (below_step (qb HB) hb); clear HB; have HB := n0_; clear n0_; (try clear hb); (try clear hb2); (try clear hk); (try clear hi); have q13 : (x3_1 : Int) ≤ ((l0.length : Int) : Int) := of_decide_eq_true (by first | (with_reducible assumption) | assumption); obtain ⟨i013, hi013, _, hsz13, _⟩ := info_parts info32; have hroom13 : l0.length ≤ c0 := HC0.out; have hC13 : Kd.C k32 _ (some ad376) l0.length l0 := HR0.out; have hcut13 := cut_to (P := Try.prog) 48 32 .i64 Try.underlying48 hi013 (some ad376) l0.length c0 x3_1 (of_decide_eq_true (by first | (with_reducible assumption) | assumption)) q13 hroom13; have hr13 := Kd.C_take (m := (x3_1 : Int).toNat) hC13 (by omega); have hy13 : y378.length = (x3_1 : Int).toNat := (by rw [Ny378.out, List.length_take]; omega); rw [← Ny378.out] at hr13; rw [← hy13] at hcut13; have HR381 := Aside0.mk hr13; have HC381 := Aside0.mk (show y378.length ≤ c0 from by omega); clear hr13 hC13 hroom13 hi013 hsz13; have KY13 := Aside0.mk hy13; clear hy13; replace q13 := eq_true q13; refine hK.out _ _ ⟨((HB.out.cell (World.block_lt_of_cell? w _ hw376_0)).trans hw376_0), ((HB.out.cell (World.block_lt_of_cell? w _ hw376_1)).trans hw376_1), ((HB.out.cell (World.block_lt_of_cell? w _ hw376_2)).trans hw376_2), ((HB.out.cell (World.block_lt_of_cell? w _ hw376_3)).trans hw376_3), ((HB.out.cell (World.block_lt_of_cell? w _ hw382_0)).trans hw382_0), ((HB.out.cell (World.block_lt_of_cell? w _ hw382_1)).trans hw382_1), ((HB.out.cell (World.block_lt_of_cell? w _ hw382_2)).trans hw382_2), ((HB.out.cell (World.block_lt_of_cell? w _ hw382_3)).trans hw382_3)⟩ (fun hHeld => ?_); clear hK K; refine norm_ (a' := ?_) ?_ ?_; rotate_left
         ·show Act.put _ (some 17) _ = _; simp only [Act.put, sA, s0, sS, i64_w, i32_w]; rfl
         refine pure_ (i := 5) (N := some 18) (v := ?_) (a' := ?_) (rl_ true [6, 12]).toArray rfl rfl (any_of HT_.out (by kernel_rfl)) (fun _ _ _ h => h) (Or.inl ⟨by rfl, ?_⟩) ?_ ?_; rotate_left
         ·intro w'; go_simp; (with_reducible rfl)
         rotate_left
         ·simp only [Act.put, sA, s0, sS, i64_w, i32_w]; rfl
         refine pure_ (i := 6) (N := some 19) (v := ?_) (a' := ?_) (rl_ true [7, 11]).toArray rfl rfl (any_of HT_.out (by kernel_rfl)) (fun _ _ _ h => h) (Or.inl ⟨by rfl, ?_⟩) ?_ ?_; rotate_left
         ·intro w'; go_simp; (with_reducible rfl)
         rotate_left
         ·simp only [Act.put, sA, s0, sS, i64_w, i32_w]; rfl
         refine pure_ (i := 7) (N := some 20) (v := ?_) (a' := ?_) (rl_ true [8, 10]).toArray rfl rfl (any_of HT_.out (by kernel_rfl)) (fun _ _ _ h => h) (Or.inl ⟨by rfl, ?_⟩) ?_ ?_; rotate_left
         ·intro w'; go_simp; (with_reducible rfl)
         rotate_left
         ·simp only [Act.put, sA, s0, sS, i64_w, i32_w]; rfl
         refine pure_ (i := 8) (N := some 21) (v := ?_) (a' := ?_) (rl_ true [9, 9]).toArray rfl rfl (any_of HT_.out (by kernel_rfl)) (fun _ _ _ h => h) (Or.inl ⟨by rfl, ?_⟩) ?_ ?_; rotate_left
         ·intro w'; go_simp; (with_reducible rfl)
         rotate_left
         ·simp only [Act.put, sA, s0, sS, i64_w, i32_w]; rfl
         refine pure_ (i := 9) (N := some 22) (v := ?_) (a' := ?_) (rl_ true [10, 8]).toArray rfl rfl (any_of HT_.out (by kernel_rfl)) (fun _ _ _ h => h) (Or.inl ⟨by rfl, ?_⟩) ?_ ?_; rotate_left
         ·intro w'; go_simp; (with_reducible rfl)
         rotate_left
         ·simp only [Act.put, sA, s0, sS, i64_w, i32_w]; rfl
         refine pure_ (i := 10) (N := some 23) (v := ?_) (a' := ?_) (rl_ true [11, 7]).toArray rfl rfl (any_of HT_.out (by kernel_rfl)) (fun _ _ _ h => h) (Or.inl ⟨by rfl, ?_⟩) ?_ ?_; rotate_left
         ·intro w'; go_simp; (with_reducible rfl)
         rotate_left
         ·simp only [Act.put, sA, s0, sS, i64_w, i32_w]; rfl
         refine pure_ (i := 11) (N := some 24) (v := ?_) (a' := ?_) (rl_ true [12, 6]).toArray rfl rfl (any_of HT_.out (by kernel_rfl)) (fun _ _ _ h => h) (Or.inl ⟨by rfl, ?_⟩) ?_ ?_; rotate_left
         ·intro w'; go_simp; (with_reducible rfl)
         rotate_left
         ·simp only [Act.put, sA, s0, sS, i64_w, i32_w]; rfl
         refine pure_ (i := 12) (N := some 25) (v := ?_) (a' := ?_) (rl_ true [13, 5]).toArray rfl rfl (any_of HT_.out (by kernel_rfl)) (fun _ _ _ h => h) (Or.inl ⟨by rfl, ?_⟩) ?_ ?_; rotate_left
         ·intro w'; go_simp; (with_reducible rfl)
         rotate_left
         ·simp only [Act.put, sA, s0, sS, i64_w, i32_w]; rfl
         refine pure_ (i := 13) (N := some 26) (v := ?_) (a' := ?_) (rl_ true [14, 4]).toArray rfl rfl (any_of HT_.out (by kernel_rfl)) (fun _ _ _ h => h) (Or.inl ⟨by rfl, ?_⟩) ?_ ?_; rotate_left
         ·intro w'; go_simp; (with_reducible rfl)
         rotate_left
         ·simp only [Act.put, sA, s0, sS, i64_w, i32_w]; rfl
         refine take_ (i := 14) (N := some 27) (v := ?_) (a' := ?_) (rl_ true [15, 3]).toArray rfl rfl (take_ofW HT_.out HW_.out (by kernel_rfl)) (fun _ _ _ h => h) (Or.inl ⟨by rfl, ?_⟩) hHeld ?_ ?_; rotate_left
         ·rintro w' ⟨s0, s1, s2, s3, s4, s5, s6, s7⟩; go_simp; (with_reducible rfl)
         rotate_left
         ·simp only [Act.put, sA, s0, sS, i64_w, i32_w]; rfl
         refine one_ (i := 15) (N := some 28) (rl_ true [16, 2]).toArray rfl rfl (one_of HT_.out (by kernel_rfl)) (by decide) (fun K hK => ?_); refine goes_ Try.func78 (by kernel_rfl) rfl #[.slice (some ad376) y378.length c0, .string ((rd_T32 l0 x3_1).f0)] (by rfl) rfl rfl mq ?_; (with_reducible refine (spec_l06Find.calls k1 _ _ y378 ((rd_T32 l0 x3_1).f0) t383 _ ?side1 ?side2 A9.out).mono ?_)
         (case side1 => repeat (first | exact (Kd.C_below HR381.out HB.out) | (with_reducible refine Kd.C_alloc ?_ _) | (with_reducible refine Kd.C_drewN ?_ _) | (with_reducible refine Kd.C_drew ?_)))
         (case side2 => exact HC381.out)
         rintro e w' ⟨rfl, ⟨nd, rfl⟩⟩; refine ⟨_, rfl, ?_⟩; refine hK.out _ _ ⟨((HB.out.cell (World.block_lt_of_cell? w _ hw376_0)).trans hw376_0), ((HB.out.cell (World.block_lt_of_cell? w _ hw376_1)).trans hw376_1), ((HB.out.cell (World.block_lt_of_cell? w _ hw376_2)).trans hw376_2), ((HB.out.cell (World.block_lt_of_cell? w _ hw376_3)).trans hw376_3), ((HB.out.cell (World.block_lt_of_cell? w _ hw382_0)).trans hw382_0), ((HB.out.cell (World.block_lt_of_cell? w _ hw382_1)).trans hw382_1), ((HB.out.cell (World.block_lt_of_cell? w _ hw382_2)).trans hw382_2), ((HB.out.cell (World.block_lt_of_cell? w _ hw382_3)).trans hw382_3)⟩ (fun hHeld => ?_); clear hK K; refine norm_ (a' := ?_) ?_ ?_; rotate_left
         ·show Act.put _ (some 28) _ = _; simp only [Act.put, sA, s0, sS, i64_w, i32_w]; rfl
         refine pure_ (i := 16) (N := some 29) (v := ?_) (a' := ?_) (rl_ true [17, 1]).toArray rfl rfl (any_of HT_.out (by kernel_rfl)) (fun _ _ _ h => h) (Or.inl ⟨by rfl, ?_⟩) ?_ ?_; rotate_left
         ·intro w'; go_simp; (with_reducible rfl)
         rotate_left
         ·simp only [Act.put, sA, s0, sS, i64_w, i32_w]; rfl
         refine pure_ (i := 17) (N := some 30) (v := ?_) (a' := ?_) (rl_ true [18]).toArray rfl rfl (any_of HT_.out (by kernel_rfl)) (fun _ _ _ h => h) (Or.inl ⟨by rfl, ?_⟩) ?_ ?_; rotate_left
         ·intro w'; go_simp; (with_reducible rfl)
         rotate_left
         ·simp only [Act.put, sA, s0, sS, i64_w, i32_w]; rfl
         refine done_ (done_of HT_.out (by kernel_rfl)) ?_
         try go_wp2
         go_ret; exact ⟨eqq, qb HB⟩
        ·rw [if_neg c10] at H; have c10b0 : decide (0 ≤ t383) = false := decide_eq_false c10; clear c10; have H' := Aside0.mk H; clear H
         try go_wp2
         have n0_ := Aside0.mk (below_drew1 HB.out); clear HB; have HB := n0_; clear n0_; have p376 : 0 ≤ (x3_1 : Int) := of_decide_eq_true (by first | (with_reducible assumption) | assumption); have q376 : x3_1 < (l0.length : Int) := of_decide_eq_true (by first | (with_reducible assumption) | assumption); obtain ⟨ad376, A376_1, c376_1, e376, hx376_0, hx376_1, hx376_2, hx376_3, hl376_1, hi376_1⟩ := at_T32 HR0.out x3_1 p376 q376; have hw376_3 := hx376_3; have hw376_2 := hx376_2; have hw376_1 := hx376_1; have hw376_0 := hx376_0
         cases e376
         replace hx376_0 := (HB.out.cell (World.block_lt_of_cell? w _ hx376_0)).trans hx376_0; replace hx376_1 := (HB.out.cell (World.block_lt_of_cell? w _ hx376_1)).trans hx376_1; replace hx376_2 := (HB.out.cell (World.block_lt_of_cell? w _ hx376_2)).trans hx376_2; replace hx376_3 := (HB.out.cell (World.block_lt_of_cell? w _ hx376_3)).trans hx376_3; have HR376_1 := Aside0.mk hi376_1; have HC376_1 := Aside0.mk hl376_1; clear hi376_1 hl376_1; replace p376 := eq_true p376; replace q376 := eq_true q376; have p382 : 0 ≤ (x3_1 : Int) := of_decide_eq_true (by first | (with_reducible assumption) | assumption); have q382 : x3_1 < (l0.length : Int) := of_decide_eq_true (by first | (with_reducible assumption) | assumption); obtain ⟨ad382, A382_1, c382_1, e382, hx382_0, hx382_1, hx382_2, hx382_3, hl382_1, hi382_1⟩ := at_T32 HR0.out x3_1 p382 q382; have hw382_3 := hx382_3; have hw382_2 := hx382_2; have hw382_1 := hx382_1; have hw382_0 := hx382_0; obtain rfl : ad376 = ad382 := (by injection e382); replace hx382_0 := (HB.out.cell (World.block_lt_of_cell? w _ hx382_0)).trans hx382_0; replace hx382_1 := (HB.out.cell (World.block_lt_of_cell? w _ hx382_1)).trans hx382_1; replace hx382_2 := (HB.out.cell (World.block_lt_of_cell? w _ hx382_2)).trans hx382_2; replace hx382_3 := (HB.out.cell (World.block_lt_of_cell? w _ hx382_3)).trans hx382_3; have HR382_1 := Aside0.mk hi382_1; have HC382_1 := Aside0.mk hl382_1; clear hi382_1 hl382_1; replace p382 := eq_true p382; replace q382 := eq_true q382; refine start_ (n := 18) (S := fun w' => w'.cell? (ad376.add ((x3_1).toNat * 4)) = some (.string ((rd_T32 l0 x3_1).f0)) ∧ w'.cell? ⟨(ad376.add ((x3_1).toNat * 4)).block, (ad376.add ((x3_1).toNat * 4)).off + 1, none⟩ = some (.slice A376_1 ((rd_T32 l0 x3_1).f1).length c376_1) ∧ w'.cell? ⟨(ad376.add ((x3_1).toNat * 4)).block, (ad376.add ((x3_1).toNat * 4)).off + 2, none⟩ = some (.int .i64 ((rd_T32 l0 x3_1).f2)) ∧ w'.cell? ⟨(ad376.add ((x3_1).toNat * 4)).block, (ad376.add ((x3_1).toNat * 4)).off + 3, none⟩ = some (.int .i64 ((rd_T32 l0 x3_1).f3)) ∧ w'.cell? (ad376.add ((x3_1).toNat * 4)) = some (.string ((rd_T32 l0 x3_1).f0)) ∧ w'.cell? ⟨(ad376.add ((x3_1).toNat * 4)).block, (ad376.add ((x3_1).toNat * 4)).off + 1, none⟩ = some (.slice A382_1 ((rd_T32 l0 x3_1).f1).length c382_1) ∧ w'.cell? ⟨(ad376.add ((x3_1).toNat * 4)).block, (ad376.add ((x3_1).toNat * 4)).off + 2, none⟩ = some (.int .i64 ((rd_T32 l0 x3_1).f2)) ∧ w'.cell? ⟨(ad376.add ((x3_1).toNat * 4)).block, (ad376.add ((x3_1).toNat * 4)).off + 3, none⟩ = some (.int .i64 ((rd_T32 l0 x3_1).f3))) (ds := []) (rl_ true [0, 18]).toArray (by kernel_rfl) rfl rfl ⟨((HB.out.cell (World.block_lt_of_cell? w _ hw376_0)).trans hw376_0), ((HB.out.cell (World.block_lt_of_cell? w _ hw376_1)).trans hw376_1), ((HB.out.cell (World.block_lt_of_cell? w _ hw376_2)).trans hw376_2), ((HB.out.cell (World.block_lt_of_cell? w _ hw376_3)).trans hw376_3), ((HB.out.cell (World.block_lt_of_cell? w _ hw382_0)).trans hw382_0), ((HB.out.cell (World.block_lt_of_cell? w _ hw382_1)).trans hw382_1), ((HB.out.cell (World.block_lt_of_cell? w _ hw382_2)).trans hw382_2), ((HB.out.cell (World.block_lt_of_cell? w _ hw382_3)).trans hw382_3)⟩ (fun hHeld => ?_); refine with_tabW spec_ClausesOK.tab6 spec_ClausesOK.bits6 (fun HT_ HW_ => ?_); generalize wr.drew = w14 at HB HR376_1 HR382_1 hx376_0 hx376_1 hx376_2 hx376_3 hx382_0 hx382_1 hx382_2 hx382_3 hHeld ⊢; refine pure_ (i := 0) (N := some 13) (v := ?_) (a' := ?_) (rl_ true [1, 17]).toArray rfl rfl (any_of HT_.out (by kernel_rfl)) (fun _ _ _ h => h) (Or.inl ⟨by rfl, ?_⟩) ?_ ?_; rotate_left
         ·intro w'; go_simp; (with_reducible rfl)
         rotate_left
         ·simp only [Act.put, sA, s0, sS, i64_w, i32_w]; rfl
         refine pure_ (i := 1) (N := some 14) (v := ?_) (a' := ?_) (rl_ true [2, 16]).toArray rfl rfl (any_of HT_.out (by kernel_rfl)) (fun _ _ _ h => h) (Or.inl ⟨by rfl, ?_⟩) ?_ ?_; rotate_left
         ·intro w'; go_simp; (with_reducible rfl)
         rotate_left
         ·simp only [Act.put, sA, s0, sS, i64_w, i32_w]; rfl
         refine pure_ (i := 2) (N := some 15) (v := ?_) (a' := ?_) (rl_ true [3, 15]).toArray rfl rfl (any_of HT_.out (by kernel_rfl)) (fun _ _ _ h => h) (Or.inl ⟨by rfl, ?_⟩) ?_ ?_; rotate_left
         ·intro w'; go_simp; (with_reducible rfl)
         rotate_left
         ·simp only [Act.put, sA, s0, sS, i64_w, i32_w]; rfl
         refine take_ (i := 3) (N := some 16) (v := ?_) (a' := ?_) (rl_ true [4, 14]).toArray rfl rfl (take_ofW HT_.out HW_.out (by kernel_rfl)) (fun _ _ _ h => h) (Or.inl ⟨by rfl, ?_⟩) hHeld ?_ ?_; rotate_left
         ·rintro w' ⟨s0, s1, s2, s3, s4, s5, s6, s7⟩; go_simp; (with_reducible rfl)
         rotate_left
         ·simp only [Act.put, sA, s0, sS, i64_w, i32_w]; rfl
         refine one_ (i := 4) (N := some 17) (rl_ true [5, 13]).toArray rfl rfl (one_of HT_.out (by kernel_rfl)) (by decide) (fun K hK => ?_); refine goes_ Try.func33 (by kernel_rfl) rfl #[.agg #[.string ((rd_T32 l0 x3_1).f0), .slice A376_1 ((rd_T32 l0 x3_1).f1).length c376_1, .int .i64 ((rd_T32 l0 x3_1).f2), .int .i64 ((rd_T32 l0 x3_1).f3)]] (by rfl) rfl rfl mq ?_; (with_reducible refine (spec_l06Clause.calls k1 ((rd_T32 l0 x3_1).f0) _ _ ((rd_T32 l0 x3_1).f1) ((rd_T32 l0 x3_1).f2) ((rd_T32 l0 x3_1).f3) true _ ?side1 ?side2 A5.out).mono ?_)
         (case side1 => repeat (first | exact (Kd.C_below HR376_1.out HB.out) | (with_reducible refine Kd.C_alloc ?_ _) | (with_reducible refine Kd.C_drewN ?_ _) | (with_reducible refine Kd.C_drew ?_)))
         (case side2 => exact HC376_1.out)
         rintro e w15 ⟨rfl, hb⟩; refine ⟨_, rfl, ?_⟩; have n0_ := Aside0.mk (below_step (qb HB) hb); clear HB; have HB := n0_; clear n0_; (try clear hb); (try clear hb2); (try clear hk); (try clear hi); have q16 : (x3_1 : Int) ≤ ((l0.length : Int) : Int) := of_decide_eq_true (by first | (with_reducible assumption) | assumption); obtain ⟨i016, hi016, _, hsz16, _⟩ := info_parts info32; have hroom16 : l0.length ≤ c0 := HC0.out; have hC16 : Kd.C k32 _ (some ad376) l0.length l0 := HR0.out; have hcut16 := cut_to (P := Try.prog) 48 32 .i64 Try.underlying48 hi016 (some ad376) l0.length c0 x3_1 (of_decide_eq_true (by first | (with_reducible assumption) | assumption)) q16 hroom16; have hr16 := Kd.C_take (m := (x3_1 : Int).toNat) hC16 (by omega); have hy16 : y378.length = (x3_1 : Int).toNat := (by rw [Ny378.out, List.length_take]; omega); rw [← Ny378.out] at hr16; rw [← hy16] at hcut16; have HR381 := Aside0.mk hr16; have HC381 := Aside0.mk (show y378.length ≤ c0 from by omega); clear hr16 hC16 hroom16 hi016 hsz16; have KY16 := Aside0.mk hy16; clear hy16; replace q16 := eq_true q16; refine hK.out _ _ ⟨((HB.out.cell (World.block_lt_of_cell? w _ hw376_0)).trans hw376_0), ((HB.out.cell (World.block_lt_of_cell? w _ hw376_1)).trans hw376_1), ((HB.out.cell (World.block_lt_of_cell? w _ hw376_2)).trans hw376_2), ((HB.out.cell (World.block_lt_of_cell? w _ hw376_3)).trans hw376_3), ((HB.out.cell (World.block_lt_of_cell? w _ hw382_0)).trans hw382_0), ((HB.out.cell (World.block_lt_of_cell? w _ hw382_1)).trans hw382_1), ((HB.out.cell (World.block_lt_of_cell? w _ hw382_2)).trans hw382_2), ((HB.out.cell (World.block_lt_of_cell? w _ hw382_3)).trans hw382_3)⟩ (fun hHeld => ?_); clear hK K; refine norm_ (a' := ?_) ?_ ?_; rotate_left
         ·show Act.put _ (some 17) _ = _; simp only [Act.put, sA, s0, sS, i64_w, i32_w]; rfl
         refine pure_ (i := 5) (N := some 18) (v := ?_) (a' := ?_) (rl_ true [6, 12]).toArray rfl rfl (any_of HT_.out (by kernel_rfl)) (fun _ _ _ h => h) (Or.inl ⟨by rfl, ?_⟩) ?_ ?_; rotate_left
         ·intro w'; go_simp; (with_reducible rfl)
         rotate_left
         ·simp only [Act.put, sA, s0, sS, i64_w, i32_w]; rfl
         refine pure_ (i := 6) (N := some 19) (v := ?_) (a' := ?_) (rl_ true [7, 11]).toArray rfl rfl (any_of HT_.out (by kernel_rfl)) (fun _ _ _ h => h) (Or.inl ⟨by rfl, ?_⟩) ?_ ?_; rotate_left
         ·intro w'; go_simp; (with_reducible rfl)
         rotate_left
         ·simp only [Act.put, sA, s0, sS, i64_w, i32_w]; rfl
         refine pure_ (i := 7) (N := some 20) (v := ?_) (a' := ?_) (rl_ true [8, 10]).toArray rfl rfl (any_of HT_.out (by kernel_rfl)) (fun _ _ _ h => h) (Or.inl ⟨by rfl, ?_⟩) ?_ ?_; rotate_left
         ·intro w'; go_simp; (with_reducible rfl)
         rotate_left
         ·simp only [Act.put, sA, s0, sS, i64_w, i32_w]; rfl
         refine pure_ (i := 8) (N := some 21) (v := ?_) (a' := ?_) (rl_ true [9, 9]).toArray rfl rfl (any_of HT_.out (by kernel_rfl)) (fun _ _ _ h => h) (Or.inl ⟨by rfl, ?_⟩) ?_ ?_; rotate_left
         ·intro w'; go_simp; (with_reducible rfl)
         rotate_left
         ·simp only [Act.put, sA, s0, sS, i64_w, i32_w]; rfl
         refine pure_ (i := 9) (N := some 22) (v := ?_) (a' := ?_) (rl_ true [10, 8]).toArray rfl rfl (any_of HT_.out (by kernel_rfl)) (fun _ _ _ h => h) (Or.inl ⟨by rfl, ?_⟩) ?_ ?_; rotate_left
         ·intro w'; go_simp; (with_reducible rfl)
         rotate_left
         ·simp only [Act.put, sA, s0, sS, i64_w, i32_w]; rfl
         refine pure_ (i := 10) (N := some 23) (v := ?_) (a' := ?_) (rl_ true [11, 7]).toArray rfl rfl (any_of HT_.out (by kernel_rfl)) (fun _ _ _ h => h) (Or.inl ⟨by rfl, ?_⟩) ?_ ?_; rotate_left
         ·intro w'; go_simp; (with_reducible rfl)
         rotate_left
         ·simp only [Act.put, sA, s0, sS, i64_w, i32_w]; rfl
         refine pure_ (i := 11) (N := some 24) (v := ?_) (a' := ?_) (rl_ true [12, 6]).toArray rfl rfl (any_of HT_.out (by kernel_rfl)) (fun _ _ _ h => h) (Or.inl ⟨by rfl, ?_⟩) ?_ ?_; rotate_left
         ·intro w'; go_simp; (with_reducible rfl)
         rotate_left
         ·simp only [Act.put, sA, s0, sS, i64_w, i32_w]; rfl
         refine pure_ (i := 12) (N := some 25) (v := ?_) (a' := ?_) (rl_ true [13, 5]).toArray rfl rfl (any_of HT_.out (by kernel_rfl)) (fun _ _ _ h => h) (Or.inl ⟨by rfl, ?_⟩) ?_ ?_; rotate_left
         ·intro w'; go_simp; (with_reducible rfl)
         rotate_left
         ·simp only [Act.put, sA, s0, sS, i64_w, i32_w]; rfl
         refine pure_ (i := 13) (N := some 26) (v := ?_) (a' := ?_) (rl_ true [14, 4]).toArray rfl rfl (any_of HT_.out (by kernel_rfl)) (fun _ _ _ h => h) (Or.inl ⟨by rfl, ?_⟩) ?_ ?_; rotate_left
         ·intro w'; go_simp; (with_reducible rfl)
         rotate_left
         ·simp only [Act.put, sA, s0, sS, i64_w, i32_w]; rfl
         refine take_ (i := 14) (N := some 27) (v := ?_) (a' := ?_) (rl_ true [15, 3]).toArray rfl rfl (take_ofW HT_.out HW_.out (by kernel_rfl)) (fun _ _ _ h => h) (Or.inl ⟨by rfl, ?_⟩) hHeld ?_ ?_; rotate_left
         ·rintro w' ⟨s0, s1, s2, s3, s4, s5, s6, s7⟩; go_simp; (with_reducible rfl)
         rotate_left
         ·simp only [Act.put, sA, s0, sS, i64_w, i32_w]; rfl
         refine one_ (i := 15) (N := some 28) (rl_ true [16, 2]).toArray rfl rfl (one_of HT_.out (by kernel_rfl)) (by decide) (fun K hK => ?_); refine goes_ Try.func78 (by kernel_rfl) rfl #[.slice (some ad376) y378.length c0, .string ((rd_T32 l0 x3_1).f0)] (by rfl) rfl rfl mq ?_; (with_reducible refine (spec_l06Find.calls k1 _ _ y378 ((rd_T32 l0 x3_1).f0) t383 _ ?side1 ?side2 A9.out).mono ?_)
         (case side1 => repeat (first | exact (Kd.C_below HR381.out HB.out) | (with_reducible refine Kd.C_alloc ?_ _) | (with_reducible refine Kd.C_drewN ?_ _) | (with_reducible refine Kd.C_drew ?_)))
         (case side2 => exact HC381.out)
         rintro e w' ⟨rfl, ⟨nd, rfl⟩⟩; refine ⟨_, rfl, ?_⟩; refine hK.out _ _ ⟨((HB.out.cell (World.block_lt_of_cell? w _ hw376_0)).trans hw376_0), ((HB.out.cell (World.block_lt_of_cell? w _ hw376_1)).trans hw376_1), ((HB.out.cell (World.block_lt_of_cell? w _ hw376_2)).trans hw376_2), ((HB.out.cell (World.block_lt_of_cell? w _ hw376_3)).trans hw376_3), ((HB.out.cell (World.block_lt_of_cell? w _ hw382_0)).trans hw382_0), ((HB.out.cell (World.block_lt_of_cell? w _ hw382_1)).trans hw382_1), ((HB.out.cell (World.block_lt_of_cell? w _ hw382_2)).trans hw382_2), ((HB.out.cell (World.block_lt_of_cell? w _ hw382_3)).trans hw382_3)⟩ (fun hHeld => ?_); clear hK K; refine norm_ (a' := ?_) ?_ ?_; rotate_left
         ·show Act.put _ (some 28) _ = _; simp only [Act.put, sA, s0, sS, i64_w, i32_w]; rfl
         refine pure_ (i := 16) (N := some 29) (v := ?_) (a' := ?_) (rl_ true [17, 1]).toArray rfl rfl (any_of HT_.out (by kernel_rfl)) (fun _ _ _ h => h) (Or.inl ⟨by rfl, ?_⟩) ?_ ?_; rotate_left
         ·intro w'; go_simp; (with_reducible rfl)
         rotate_left
         ·simp only [Act.put, sA, s0, sS, i64_w, i32_w]; rfl
         refine pure_ (i := 17) (N := some 30) (v := ?_) (a' := ?_) (rl_ true [18]).toArray rfl rfl (any_of HT_.out (by kernel_rfl)) (fun _ _ _ h => h) (Or.inl ⟨by rfl, ?_⟩) ?_ ?_; rotate_left
         ·intro w'; go_simp; (with_reducible rfl)
         rotate_left
         ·simp only [Act.put, sA, s0, sS, i64_w, i32_w]; rfl
         refine done_ (done_of HT_.out (by kernel_rfl)) ?_
         try go_wp2
         go_roundg k1
         case measure => have := HK1.out; omega
         case rel => exact ⟨(wrap64 (x3_1 + 1)), (by first | rfl | (simp; done) | (simp [*]; done)), H', ⟨by have := HK1.out; omega⟩, ⟨qb HB⟩⟩
       ·rw [if_neg c8] at H; exact absurd H (by simp)
      ·replace c6 := Bool.eq_false_iff.mpr c6; subst c6
       have H1 : (some false) = some r := by rw [if_neg (show ¬ (false = true) by decide)] at H; exact H
       clear H; have H := H1; clear H1; obtain rfl := Option.some.inj H
       try go_wp2
       have n0_ := Aside0.mk (below_drew1 HB.out); clear HB; have HB := n0_; clear n0_; have p376 : 0 ≤ (x3_1 : Int) := of_decide_eq_true (by first | (with_reducible assumption) | assumption); have q376 : x3_1 < (l0.length : Int) := of_decide_eq_true (by first | (with_reducible assumption) | assumption); obtain ⟨ad376, A376_1, c376_1, e376, hx376_0, hx376_1, hx376_2, hx376_3, hl376_1, hi376_1⟩ := at_T32 HR0.out x3_1 p376 q376; have hw376_3 := hx376_3; have hw376_2 := hx376_2; have hw376_1 := hx376_1; have hw376_0 := hx376_0
       cases e376
       replace hx376_0 := (HB.out.cell (World.block_lt_of_cell? w _ hx376_0)).trans hx376_0; replace hx376_1 := (HB.out.cell (World.block_lt_of_cell? w _ hx376_1)).trans hx376_1; replace hx376_2 := (HB.out.cell (World.block_lt_of_cell? w _ hx376_2)).trans hx376_2; replace hx376_3 := (HB.out.cell (World.block_lt_of_cell? w _ hx376_3)).trans hx376_3; have HR376_1 := Aside0.mk hi376_1; have HC376_1 := Aside0.mk hl376_1; clear hi376_1 hl376_1; replace p376 := eq_true p376; replace q376 := eq_true q376; refine start_ (n := 18) (S := fun w' => w'.cell? (ad376.add ((x3_1).toNat * 4)) = some (.string ((rd_T32 l0 x3_1).f0)) ∧ w'.cell? ⟨(ad376.add ((x3_1).toNat * 4)).block, (ad376.add ((x3_1).toNat * 4)).off + 1, none⟩ = some (.slice A376_1 ((rd_T32 l0 x3_1).f1).length c376_1) ∧ w'.cell? ⟨(ad376.add ((x3_1).toNat * 4)).block, (ad376.add ((x3_1).toNat * 4)).off + 2, none⟩ = some (.int .i64 ((rd_T32 l0 x3_1).f2)) ∧ w'.cell? ⟨(ad376.add ((x3_1).toNat * 4)).block, (ad376.add ((x3_1).toNat * 4)).off + 3, none⟩ = some (.int .i64 ((rd_T32 l0 x3_1).f3))) (ds := []) (rl_ true [0, 18]).toArray (by kernel_rfl) rfl rfl ⟨((HB.out.cell (World.block_lt_of_cell? w _ hw376_0)).trans hw376_0), ((HB.out.cell (World.block_lt_of_cell? w _ hw376_1)).trans hw376_1), ((HB.out.cell (World.block_lt_of_cell? w _ hw376_2)).trans hw376_2), ((HB.out.cell (World.block_lt_of_cell? w _ hw376_3)).trans hw376_3)⟩ (fun hHeld => ?_); refine with_tabW spec_ClausesOK.tab6 spec_ClausesOK.bits6 (fun HT_ HW_ => ?_); generalize wr.drew = w17 at HB HR376_1 hx376_0 hx376_1 hx376_2 hx376_3 hHeld ⊢; refine pure_ (i := 0) (N := some 13) (v := ?_) (a' := ?_) (rl_ true [1, 17]).toArray rfl rfl (any_of HT_.out (by kernel_rfl)) (fun _ _ _ h => h) (Or.inl ⟨by rfl, ?_⟩) ?_ ?_; rotate_left
       ·intro w'; go_simp; (with_reducible rfl)
       rotate_left
       ·simp only [Act.put, sA, s0, sS, i64_w, i32_w]; rfl
       refine pure_ (i := 1) (N := some 14) (v := ?_) (a' := ?_) (rl_ true [2, 16]).toArray rfl rfl (any_of HT_.out (by kernel_rfl)) (fun _ _ _ h => h) (Or.inl ⟨by rfl, ?_⟩) ?_ ?_; rotate_left
       ·intro w'; go_simp; (with_reducible rfl)
       rotate_left
       ·simp only [Act.put, sA, s0, sS, i64_w, i32_w]; rfl
       refine pure_ (i := 2) (N := some 15) (v := ?_) (a' := ?_) (rl_ true [3, 15]).toArray rfl rfl (any_of HT_.out (by kernel_rfl)) (fun _ _ _ h => h) (Or.inl ⟨by rfl, ?_⟩) ?_ ?_; rotate_left
       ·intro w'; go_simp; (with_reducible rfl)
       rotate_left
       ·simp only [Act.put, sA, s0, sS, i64_w, i32_w]; rfl
       refine take_ (i := 3) (N := some 16) (v := ?_) (a' := ?_) (rl_ true [4, 14]).toArray rfl rfl (take_ofW HT_.out HW_.out (by kernel_rfl)) (fun _ _ _ h => h) (Or.inl ⟨by rfl, ?_⟩) hHeld ?_ ?_; rotate_left
       ·rintro w' ⟨s0, s1, s2, s3⟩; go_simp; (with_reducible rfl)
       rotate_left
       ·simp only [Act.put, sA, s0, sS, i64_w, i32_w]; rfl
       refine one_ (i := 4) (N := some 17) (rl_ true [5, 13]).toArray rfl rfl (one_of HT_.out (by kernel_rfl)) (by decide) (fun K hK => ?_); refine goes_ Try.func33 (by kernel_rfl) rfl #[.agg #[.string ((rd_T32 l0 x3_1).f0), .slice A376_1 ((rd_T32 l0 x3_1).f1).length c376_1, .int .i64 ((rd_T32 l0 x3_1).f2), .int .i64 ((rd_T32 l0 x3_1).f3)]] (by rfl) rfl rfl mq ?_; (with_reducible refine (spec_l06Clause.calls k1 ((rd_T32 l0 x3_1).f0) _ _ ((rd_T32 l0 x3_1).f1) ((rd_T32 l0 x3_1).f2) ((rd_T32 l0 x3_1).f3) false _ ?side1 ?side2 A5.out).mono ?_)
       (case side1 => repeat (first | exact (Kd.C_below HR376_1.out HB.out) | (with_reducible refine Kd.C_alloc ?_ _) | (with_reducible refine Kd.C_drewN ?_ _) | (with_reducible refine Kd.C_drew ?_)))
       (case side2 => exact HC376_1.out)
       rintro e w18 ⟨rfl, hb⟩; refine ⟨_, rfl, ?_⟩; have n0_ := Aside0.mk (below_step (qb HB) hb); clear HB; have HB := n0_; clear n0_; (try clear hb); (try clear hb2); (try clear hk); (try clear hi); refine hK.out _ _ ⟨((HB.out.cell (World.block_lt_of_cell? w _ hw376_0)).trans hw376_0), ((HB.out.cell (World.block_lt_of_cell? w _ hw376_1)).trans hw376_1), ((HB.out.cell (World.block_lt_of_cell? w _ hw376_2)).trans hw376_2), ((HB.out.cell (World.block_lt_of_cell? w _ hw376_3)).trans hw376_3)⟩ (fun hHeld => ?_); clear hK K; refine norm_ (a' := ?_) ?_ ?_; rotate_left
       ·show Act.put _ (some 17) _ = _; simp only [Act.put, sA, s0, sS, i64_w, i32_w]; rfl
       refine pure_ (i := 5) (N := some 18) (v := ?_) (a' := ?_) (rl_ true [6, 12]).toArray rfl rfl (any_of HT_.out (by kernel_rfl)) (fun _ _ _ h => h) (Or.inl ⟨by rfl, ?_⟩) ?_ ?_; rotate_left
       ·intro w'; go_simp; (with_reducible rfl)
       rotate_left
       ·simp only [Act.put, sA, s0, sS, i64_w, i32_w]; rfl
       refine pure_ (i := 6) (N := some 19) (v := ?_) (a' := ?_) (rl_ true [7, 11]).toArray rfl rfl (any_of HT_.out (by kernel_rfl)) (fun _ _ _ h => h) (Or.inl ⟨by rfl, ?_⟩) ?_ ?_; rotate_left
       ·intro w'; go_simp; (with_reducible rfl)
       rotate_left
       ·simp only [Act.put, sA, s0, sS, i64_w, i32_w]; rfl
       refine pure_ (i := 7) (N := some 20) (v := undef) (a' := ?_) (rl_ true [8, 10]).toArray rfl rfl (any_of HT_.out (by kernel_rfl)) (fun _ _ _ h => h) (Or.inr ⟨by rfl, rfl⟩) ?_ ?_; rotate_left
       ·simp only [Act.put, sA, s0, sS, i64_w, i32_w]; rfl
       refine pure_ (i := 8) (N := some 21) (v := undef) (a' := ?_) (rl_ true [9, 9]).toArray rfl rfl (any_of HT_.out (by kernel_rfl)) (fun _ _ _ h => h) (Or.inr ⟨by rfl, rfl⟩) ?_ ?_; rotate_left
       ·simp only [Act.put, sA, s0, sS, i64_w, i32_w]; rfl
       refine pure_ (i := 9) (N := some 22) (v := undef) (a' := ?_) (rl_ true [10, 8]).toArray rfl rfl (any_of HT_.out (by kernel_rfl)) (fun _ _ _ h => h) (Or.inr ⟨by rfl, rfl⟩) ?_ ?_; rotate_left
       ·simp only [Act.put, sA, s0, sS, i64_w, i32_w]; rfl
       refine pure_ (i := 10) (N := some 23) (v := undef) (a' := ?_) (rl_ true [11, 7]).toArray rfl rfl (any_of HT_.out (by kernel_rfl)) (fun _ _ _ h => h) (Or.inr ⟨by rfl, rfl⟩) ?_ ?_; rotate_left
       ·simp only [Act.put, sA, s0, sS, i64_w, i32_w]; rfl
       refine pure_ (i := 11) (N := some 24) (v := undef) (a' := ?_) (rl_ true [12, 6]).toArray rfl rfl (any_of HT_.out (by kernel_rfl)) (fun _ _ _ h => h) (Or.inr ⟨by rfl, rfl⟩) ?_ ?_; rotate_left
       ·simp only [Act.put, sA, s0, sS, i64_w, i32_w]; rfl
       refine pure_ (i := 12) (N := some 25) (v := undef) (a' := ?_) (rl_ true [13, 5]).toArray rfl rfl (any_of HT_.out (by kernel_rfl)) (fun _ _ _ h => h) (Or.inr ⟨by rfl, rfl⟩) ?_ ?_; rotate_left
       ·simp only [Act.put, sA, s0, sS, i64_w, i32_w]; rfl
       refine pure_ (i := 13) (N := some 26) (v := undef) (a' := ?_) (rl_ true [14, 4]).toArray rfl rfl (any_of HT_.out (by kernel_rfl)) (fun _ _ _ h => h) (Or.inr ⟨by rfl, rfl⟩) ?_ ?_; rotate_left
       ·simp only [Act.put, sA, s0, sS, i64_w, i32_w]; rfl
       refine pure_ (i := 14) (N := some 27) (v := undef) (a' := ?_) (rl_ true [15, 3]).toArray rfl rfl (any_of HT_.out (by kernel_rfl)) (fun _ _ _ h => h) (Or.inr ⟨by rfl, rfl⟩) ?_ ?_; rotate_left
       ·simp only [Act.put, sA, s0, sS, i64_w, i32_w]; rfl
       refine pure_ (i := 15) (N := some 28) (v := undef) (a' := ?_) (rl_ true [16, 2]).toArray rfl rfl (any_of HT_.out (by kernel_rfl)) (fun _ _ _ h => h) (Or.inr ⟨by rfl, rfl⟩) ?_ ?_; rotate_left
       ·simp only [Act.put, sA, s0, sS, i64_w, i32_w]; rfl
       refine pure_ (i := 16) (N := some 29) (v := undef) (a' := ?_) (rl_ true [17, 1]).toArray rfl rfl (any_of HT_.out (by kernel_rfl)) (fun _ _ _ h => h) (Or.inr ⟨by rfl, rfl⟩) ?_ ?_; rotate_left
       ·simp only [Act.put, sA, s0, sS, i64_w, i32_w]; rfl
       refine pure_ (i := 17) (N := some 30) (v := ?_) (a' := ?_) (rl_ true [18]).toArray rfl rfl (any_of HT_.out (by kernel_rfl)) (fun _ _ _ h => h) (Or.inl ⟨by rfl, ?_⟩) ?_ ?_; rotate_left
       ·intro w'; go_simp; (with_reducible rfl)
       rotate_left
       ·simp only [Act.put, sA, s0, sS, i64_w, i32_w]; rfl
       refine done_ (done_of HT_.out (by kernel_rfl)) ?_
       try go_wp2
       go_ret; exact ⟨eqq, qb HB⟩
     ·rw [if_neg c4] at H; exact absurd H (by simp)
    ·rw [if_neg c3] at H; have c3b0 : decide (x3_1 < (l0.length : Int)) = false := decide_eq_false c3; clear c3; obtain rfl := Option.some.inj H; go_wp2; go_ret; exact ⟨eqq, qb HB⟩

/-! ### spec_l06Covers: function 45 -/
def spec_l06Covers.l0 : Nat → Int → ByteArray → List (S59) → Int → Int → ByteArray → List (S59) → Int → Int → Option (Bool)
 | 0, _, _, _, _, _, _, _, _, _ => none
 | k + 1, x5, x385000, x385001, x385002, x385003, x386000, x386001, x386002, x386003 => if x5 ≤ 5 then ((spec_l06Bounds.f k x385001 x5).bind fun bt386 => ((spec_l06Bounds.f k x386001 x5).bind fun bt388 => (if bt388.1 < bt386.1 then (some false) else (if bt388.2 > bt386.2 then (some false) else (spec_l06Covers.l0 k (wrap64 (x5 + 1)) x385000 x385001 x385002 x385003 x386000 x386001 x386002 x386003))))) else (some true)
def spec_l06Covers.f (k : Nat) (a0_0 : ByteArray) (l0_1 : List (S59)) (a0_2 : Int) (a0_3 : Int) (a1_0 : ByteArray) (l1_1 : List (S59)) (a1_2 : Int) (a1_3 : Int) : Option (Bool) := spec_l06Covers.l0 k 1 a0_0 l0_1 a0_2 a0_3 a1_0 l1_1 a1_2 a1_3
theorem spec_l06Covers.mono_l : ∀ k, (∀ y0 y1 y2 y3 y4 y5 y6 y7 y8, LeO (spec_l06Covers.l0 k y0 y1 y2 y3 y4 y5 y6 y7 y8) (spec_l06Covers.l0 (k + 1) y0 y1 y2 y3 y4 y5 y6 y7 y8))
 | 0 => fun _ _ _ _ _ _ _ _ _ r h => by simp [spec_l06Covers.l0] at h
 | k + 1 => by
  have ih0 := spec_l06Covers.mono_l k
  ·intro y0 y1 y2 y3 y4 y5 y6 y7 y8; unfold spec_l06Covers.l0
   repeat' first
   | (with_reducible exact ih0 _ _ _ _ _ _ _ _ _)
   | (with_reducible exact spec_l06Bounds.mono _ _ _)
   | (with_reducible exact LeO.refl _)
   | (with_reducible exact LeO.none _)
   | (with_reducible refine LeO.ite ?_ ?_)
   | (with_reducible refine LeO.bind ?_ (fun _ => ?_))
   | exact ih0 _ _ _ _ _ _ _ _ _
   | exact spec_l06Bounds.mono _ _ _
   | exact LeO.none _
   | refine LeO.ite ?_ ?_
   | refine LeO.bind ?_ (fun _ => ?_)
theorem spec_l06Covers.mono : ∀ a0 a1 a2 a3 a4 a5 a6 a7 k, LeO (spec_l06Covers.f k a0 a1 a2 a3 a4 a5 a6 a7) (spec_l06Covers.f (k + 1) a0 a1 a2 a3 a4 a5 a6 a7) := by
 intro a0 a1 a2 a3 a4 a5 a6 a7 k; have ih0 := spec_l06Covers.mono_l k; unfold spec_l06Covers.f
 repeat' first
   | (with_reducible exact ih0 _ _ _ _ _ _ _ _ _)
   | (with_reducible exact spec_l06Bounds.mono _ _ _)
   | (with_reducible exact LeO.refl _)
   | (with_reducible exact LeO.none _)
   | (with_reducible refine LeO.ite ?_ ?_)
   | (with_reducible refine LeO.bind ?_ (fun _ => ?_))
   | exact ih0 _ _ _ _ _ _ _ _ _
   | exact spec_l06Bounds.mono _ _ _
   | exact LeO.none _
   | refine LeO.ite ?_ ?_
   | refine LeO.bind ?_ (fun _ => ?_)
set_option maxHeartbeats 8000000 in
set_option maxRecDepth 100000 in
theorem spec_l06Covers.calls (k : Nat) (a0_0 : ByteArray) (A0_1 : Option Addr) (c0_1 : Nat) (l0_1 : List (S59)) (a0_2 : Int) (a0_3 : Int) (a1_0 : ByteArray) (A1_1 : Option Addr) (c1_1 : Nat) (l1_1 : List (S59)) (a1_2 : Int) (a1_3 : Int) (r : Bool) (w : World) (hr0_1 : Kd.C k59 w A0_1 l0_1.length l0_1) (hc0_1 : l0_1.length ≤ c0_1) (hr1_1 : Kd.C k59 w A1_1 l1_1.length l1_1) (hc1_1 : l1_1.length ≤ c1_1) (h : spec_l06Covers.f k a0_0 l0_1 a0_2 a0_3 a1_0 l1_1 a1_2 a1_3 = some r) :
  Calls Try.prog 45 #[.agg #[.string a0_0, .slice A0_1 l0_1.length c0_1, .int .i64 a0_2, .int .i64 a0_3], .agg #[.string a1_0, .slice A1_1 l1_1.length c1_1, .int .i64 a1_2, .int .i64 a1_3]] w fun e w' => e = .returned (.bool r) ∧ Below w.heap.size w w' := by
 have hu32 := Try.underlying32; have HR0_1 := Aside0.mk hr0_1; have HC0_1 := Aside0.mk hc0_1; clear hr0_1 hc0_1; have HR1_1 := Aside0.mk hr1_1; have HC1_1 := Aside0.mk hc1_1; clear hr1_1 hc1_1; have HB := Aside0.mk (Below.refl w.heap.size w); have H : (spec_l06Covers.l0 k 1 a0_0 l0_1 a0_2 a0_3 a1_0 l1_1 a1_2 a1_3) = some r := h; clear h; have H' := Aside0.mk H; clear H; go_enter Try.func45, Try.ntmps45
 go_wp2_with (first | ((with_reducible refine gate_dst (N := 2) rfl ?_); refine box_event ?hg (N := 2) ?hd (cs := #[.string a0_0, .slice A0_1 l0_1.length c0_1, .int .i64 a0_2, .int .i64 a0_3]) (t := 32) ?hr ?_; (case hd => rfl); (case hg => rfl); (case hr => first | (go_simp; done) | (go_simp; rfl)); intro gb384 hg w3 hbox hb; have n0_ := Aside0.mk (below_step (qb HB) hb); have n1_ := Aside0.mk (hbox); have n2_ := Aside0.mk ((by rw [hg]; exact (below_size (qb HB)) : w.heap.size ≤ gb384)); have n3_ := Aside0.mk ((by rw [hg]; exact (below_size (qb HB)) : w.heap.size ≤ gb384)); clear HB; have HB := n0_; have BK384 := n1_; have GW384 := n2_; have GE384 := n3_; clear n0_ n1_ n2_ n3_; clear hb hbox hg) | ((with_reducible refine gate_dst (N := 3) rfl ?_); refine box_event ?hg (N := 3) ?hd (cs := #[.string a1_0, .slice A1_1 l1_1.length c1_1, .int .i64 a1_2, .int .i64 a1_3]) (t := 32) ?hr ?_; (case hd => rfl); (case hg => rfl); (case hr => first | (go_simp; done) | (go_simp; rfl)); intro gb385 hg w4 hbox hb; have n0_ := Aside0.mk (blk_below (bq BK384) hb); have n1_ := Aside0.mk (below_step (qb HB) hb); have n2_ := Aside0.mk (hbox); have n3_ := Aside0.mk ((by rw [hg]; exact (below_size (qb HB)) : w.heap.size ≤ gb385)); have n4_ := Aside0.mk ((by rw [hg]; exact (below_size (qb HB)) : w.heap.size ≤ gb385)); have n5_ := Aside0.mk ((by rw [hg]; exact Nat.ne_of_lt (blk_lt (bq BK384)) : gb384 ≠ gb385)); have n6_ := Aside0.mk ((by rw [hg]; exact Nat.ne_of_gt (blk_lt (bq BK384)) : gb385 ≠ gb384)); clear BK384; clear HB; have BK384 := n0_; have HB := n1_; have BK385 := n2_; have GW385 := n3_; have GE385 := n4_; have NB384_385 := n5_; have NB385_384 := n6_; clear n0_ n1_ n2_ n3_ n4_ n5_ n6_; clear hb hbox hg))
 go_loopg [5] k (fun kq v5 w' => ∃ (x5_1 : Int), v5 = .int .i64 x5_1 ∧ Aside0 (spec_l06Covers.l0 kq x5_1 a0_0 l0_1 a0_2 a0_3 a1_0 l1_1 a1_2 a1_3 = some r) ∧ Aside0 (kq ≤ k) ∧ Aside0 (w'.heap[gb384]? = some (.cells #[.string a0_0, (.slice A0_1 l0_1.length c0_1), .int .i64 a0_2, .int .i64 a0_3] 32 (0, 0))) ∧ Aside0 (w'.heap[gb385]? = some (.cells #[.string a1_0, (.slice A1_1 l1_1.length c1_1), .int .i64 a1_2, .int .i64 a1_3] 32 (0, 0))) ∧ Aside0 (Below w.heap.size w w'))
 case atStart => exact ⟨(1), (by first | rfl | (simp; done) | (simp [*]; done)), H', ⟨Nat.le_refl _⟩, ⟨bq BK384⟩, ⟨bq BK385⟩, ⟨qb HB⟩⟩
 case round =>
  clear H'; (try clear c1); (try clear p2); (try clear c4); obtain ⟨x5_1, rfl, HA, HK1, BK384, BK385, HB⟩ := hrel
  cases gk with
  | zero => exact absurd HA.out (by simp [spec_l06Covers.l0])
  | succ k1 =>
   have H := HA.out; clear HA; simp only [spec_l06Covers.l0] at H; by_cases c5 : x5_1 ≤ 5
   ·rw [if_pos c5] at H; have c5b0 : decide (x5_1 ≤ 5) = true := decide_eq_true c5; clear c5; replace H := Option.bind_eq_some_iff.mp H; obtain ⟨⟨t386, t387⟩, A60, H⟩ := H; replace H : ((spec_l06Bounds.f k1 l1_1 x5_1).bind fun bt388 => (if bt388.1 < t386 then (some false) else (if bt388.2 > t387 then (some false) else (spec_l06Covers.l0 k1 (wrap64 (x5_1 + 1)) a0_0 l0_1 a0_2 a0_3 a1_0 l1_1 a1_2 a1_3)))) = some r := H; have A6 := Aside0.mk A60; clear A60; replace H := Option.bind_eq_some_iff.mp H; obtain ⟨⟨t388, t389⟩, A70, H⟩ := H; replace H : (if t388 < t386 then (some false) else (if t389 > t387 then (some false) else (spec_l06Covers.l0 k1 (wrap64 (x5_1 + 1)) a0_0 l0_1 a0_2 a0_3 a1_0 l1_1 a1_2 a1_3))) = some r := H; have A7 := Aside0.mk A70; clear A70; by_cases c8 : t388 < t386
    ·rw [if_pos c8] at H; have c8b0 : decide (t388 < t386) = true := decide_eq_true c8; clear c8; obtain rfl := Option.some.inj H; have hnb9 := NB384_385.out; have hnc9 := NB385_384.out; obtain ⟨hcz10_0, hcz10_1, hcz10_2, hcz10_3, hfz10_0, hfz10_1, hfz10_2, hfz10_3⟩ := bz4 BK384
     go_wp2_with (first | ((with_reducible refine gate_callee (f := 65) rfl ?_); refine goesL_ (some 18) rfl rfl Try.func65 (by kernel_rfl) rfl #[.slice A0_1 l0_1.length c0_1, .int .i64 x5_1] rfl mq ?_; (with_reducible refine (spec_l06Bounds.calls k1 _ _ l0_1 x5_1 t386 t387 _ ?side1 ?side2 A6.out).mono ?_); (case side1 => repeat (first | exact (Kd.C_below HR0_1.out HB.out) | (with_reducible refine Kd.C_alloc ?_ _) | (with_reducible refine Kd.C_drewN ?_ _) | (with_reducible refine Kd.C_drew ?_))); (case side2 => exact HC0_1.out); rintro e w11 ⟨rfl, hb⟩; refine ⟨_, rfl, ?_⟩; have n0_ := Aside0.mk (blk_below (bq BK384) hb); have n1_ := Aside0.mk (blk_below (bq BK385) hb); have n2_ := Aside0.mk (below_step (qb HB) hb); clear BK384; clear BK385; clear HB; have BK384 := n0_; have BK385 := n1_; have HB := n2_; clear n0_ n1_ n2_; (try clear hb); (try clear hb2); (try clear hk); (try clear hi); obtain ⟨hcz12_0, hcz12_1, hcz12_2, hcz12_3, hfz12_0, hfz12_1, hfz12_2, hfz12_3⟩ := bz4 BK385) | ((with_reducible refine gate_callee (f := 65) rfl ?_); refine goesL_ (some 25) rfl rfl Try.func65 (by kernel_rfl) rfl #[.slice A1_1 l1_1.length c1_1, .int .i64 x5_1] rfl mq ?_; (with_reducible refine (spec_l06Bounds.calls k1 _ _ l1_1 x5_1 t388 t389 _ ?side1 ?side2 A7.out).mono ?_); (case side1 => repeat (first | exact (Kd.C_below HR1_1.out HB.out) | (with_reducible refine Kd.C_alloc ?_ _) | (with_reducible refine Kd.C_drewN ?_ _) | (with_reducible refine Kd.C_drew ?_))); (case side2 => exact HC1_1.out); rintro e w13 ⟨rfl, hb⟩; refine ⟨_, rfl, ?_⟩; have n0_ := Aside0.mk (blk_below (bq BK384) hb); have n1_ := Aside0.mk (blk_below (bq BK385) hb); have n2_ := Aside0.mk (below_step (qb HB) hb); clear BK384; clear BK385; clear HB; have BK384 := n0_; have BK385 := n1_; have HB := n2_; clear n0_ n1_ n2_; (try clear hb); (try clear hb2); (try clear hk); (try clear hi)))
     go_ret; exact ⟨eqq, qb HB⟩
    ·rw [if_neg c8] at H; have c8b0 : decide (t388 < t386) = false := decide_eq_false c8; clear c8; by_cases c14 : t389 > t387
     ·rw [if_pos c14] at H; have c14b0 : decide (t387 < t389) = true := decide_eq_true c14; clear c14; obtain rfl := Option.some.inj H; have hnb15 := NB384_385.out; have hnc15 := NB385_384.out; obtain ⟨hcz16_0, hcz16_1, hcz16_2, hcz16_3, hfz16_0, hfz16_1, hfz16_2, hfz16_3⟩ := bz4 BK384
      go_wp2_with (first | ((with_reducible refine gate_callee (f := 65) rfl ?_); refine goesL_ (some 18) rfl rfl Try.func65 (by kernel_rfl) rfl #[.slice A0_1 l0_1.length c0_1, .int .i64 x5_1] rfl mq ?_; (with_reducible refine (spec_l06Bounds.calls k1 _ _ l0_1 x5_1 t386 t387 _ ?side1 ?side2 A6.out).mono ?_); (case side1 => repeat (first | exact (Kd.C_below HR0_1.out HB.out) | (with_reducible refine Kd.C_alloc ?_ _) | (with_reducible refine Kd.C_drewN ?_ _) | (with_reducible refine Kd.C_drew ?_))); (case side2 => exact HC0_1.out); rintro e w17 ⟨rfl, hb⟩; refine ⟨_, rfl, ?_⟩; have n0_ := Aside0.mk (blk_below (bq BK384) hb); have n1_ := Aside0.mk (blk_below (bq BK385) hb); have n2_ := Aside0.mk (below_step (qb HB) hb); clear BK384; clear BK385; clear HB; have BK384 := n0_; have BK385 := n1_; have HB := n2_; clear n0_ n1_ n2_; (try clear hb); (try clear hb2); (try clear hk); (try clear hi); obtain ⟨hcz18_0, hcz18_1, hcz18_2, hcz18_3, hfz18_0, hfz18_1, hfz18_2, hfz18_3⟩ := bz4 BK385) | ((with_reducible refine gate_callee (f := 65) rfl ?_); refine goesL_ (some 25) rfl rfl Try.func65 (by kernel_rfl) rfl #[.slice A1_1 l1_1.length c1_1, .int .i64 x5_1] rfl mq ?_; (with_reducible refine (spec_l06Bounds.calls k1 _ _ l1_1 x5_1 t388 t389 _ ?side1 ?side2 A7.out).mono ?_); (case side1 => repeat (first | exact (Kd.C_below HR1_1.out HB.out) | (with_reducible refine Kd.C_alloc ?_ _) | (with_reducible refine Kd.C_drewN ?_ _) | (with_reducible refine Kd.C_drew ?_))); (case side2 => exact HC1_1.out); rintro e w19 ⟨rfl, hb⟩; refine ⟨_, rfl, ?_⟩; have n0_ := Aside0.mk (blk_below (bq BK384) hb); have n1_ := Aside0.mk (blk_below (bq BK385) hb); have n2_ := Aside0.mk (below_step (qb HB) hb); clear BK384; clear BK385; clear HB; have BK384 := n0_; have BK385 := n1_; have HB := n2_; clear n0_ n1_ n2_; (try clear hb); (try clear hb2); (try clear hk); (try clear hi)))
      go_ret; exact ⟨eqq, qb HB⟩
     ·rw [if_neg c14] at H; have c14b0 : decide (t387 < t389) = false := decide_eq_false c14; clear c14; have H' := Aside0.mk H; clear H; have hnb20 := NB384_385.out; have hnc20 := NB385_384.out; obtain ⟨hcz21_0, hcz21_1, hcz21_2, hcz21_3, hfz21_0, hfz21_1, hfz21_2, hfz21_3⟩ := bz4 BK384
      go_wp2_with (first | ((with_reducible refine gate_callee (f := 65) rfl ?_); refine goesL_ (some 18) rfl rfl Try.func65 (by kernel_rfl) rfl #[.slice A0_1 l0_1.length c0_1, .int .i64 x5_1] rfl mq ?_; (with_reducible refine (spec_l06Bounds.calls k1 _ _ l0_1 x5_1 t386 t387 _ ?side1 ?side2 A6.out).mono ?_); (case side1 => repeat (first | exact (Kd.C_below HR0_1.out HB.out) | (with_reducible refine Kd.C_alloc ?_ _) | (with_reducible refine Kd.C_drewN ?_ _) | (with_reducible refine Kd.C_drew ?_))); (case side2 => exact HC0_1.out); rintro e w22 ⟨rfl, hb⟩; refine ⟨_, rfl, ?_⟩; have n0_ := Aside0.mk (blk_below (bq BK384) hb); have n1_ := Aside0.mk (blk_below (bq BK385) hb); have n2_ := Aside0.mk (below_step (qb HB) hb); clear BK384; clear BK385; clear HB; have BK384 := n0_; have BK385 := n1_; have HB := n2_; clear n0_ n1_ n2_; (try clear hb); (try clear hb2); (try clear hk); (try clear hi); obtain ⟨hcz23_0, hcz23_1, hcz23_2, hcz23_3, hfz23_0, hfz23_1, hfz23_2, hfz23_3⟩ := bz4 BK385) | ((with_reducible refine gate_callee (f := 65) rfl ?_); refine goesL_ (some 25) rfl rfl Try.func65 (by kernel_rfl) rfl #[.slice A1_1 l1_1.length c1_1, .int .i64 x5_1] rfl mq ?_; (with_reducible refine (spec_l06Bounds.calls k1 _ _ l1_1 x5_1 t388 t389 _ ?side1 ?side2 A7.out).mono ?_); (case side1 => repeat (first | exact (Kd.C_below HR1_1.out HB.out) | (with_reducible refine Kd.C_alloc ?_ _) | (with_reducible refine Kd.C_drewN ?_ _) | (with_reducible refine Kd.C_drew ?_))); (case side2 => exact HC1_1.out); rintro e w24 ⟨rfl, hb⟩; refine ⟨_, rfl, ?_⟩; have n0_ := Aside0.mk (blk_below (bq BK384) hb); have n1_ := Aside0.mk (blk_below (bq BK385) hb); have n2_ := Aside0.mk (below_step (qb HB) hb); clear BK384; clear BK385; clear HB; have BK384 := n0_; have BK385 := n1_; have HB := n2_; clear n0_ n1_ n2_; (try clear hb); (try clear hb2); (try clear hk); (try clear hi)))
      go_roundg k1
      case measure => have := HK1.out; omega
      case rel => exact ⟨(wrap64 (x5_1 + 1)), (by first | rfl | (simp; done) | (simp [*]; done)), H', ⟨by have := HK1.out; omega⟩, ⟨bq BK384⟩, ⟨bq BK385⟩, ⟨qb HB⟩⟩
   ·rw [if_neg c5] at H; have c5b0 : decide (x5_1 ≤ 5) = false := decide_eq_false c5; clear c5; obtain rfl := Option.some.inj H; go_wp2; go_ret; exact ⟨eqq, qb HB⟩

/-! ### spec_Hidden: function 21 -/
mutual
def spec_Hidden.l0 : Nat → List (S32) → List Int → Int → Option (List Int × Int)
 | 0, _, _, _ => none
 | k + 1, x0, x4, x5 => if x5 < (x0.length : Int) then (if 0 ≤ x5 then ((spec_l06Least.f k ((rd_T32 x0 x5).f1)).bind fun bt401 => (spec_Hidden.l1 k x0 x4 x5 (!bt401.2.2.2.2.2) 0)) else (none)) else (some (x4, 0))
def spec_Hidden.l1 : Nat → List (S32) → List Int → Int → Bool → Int → Option (List Int × Int)
 | 0, _, _, _, _, _ => none
 | k + 1, x0, x4, x5, x8, x9 => if x9 < x5 then (if x8 = true then (if x4.length < 17592186044416 then (spec_Hidden.l0 k x0 (x4 ++ [x5]) (wrap64 (x5 + 1))) else (none)) else (if 0 ≤ x9 then (if x9 < (x0.length : Int) then (if 0 ≤ x5 then (if x5 < (x0.length : Int) then ((spec_l06Covers.f k ((rd_T32 x0 x9).f0) ((rd_T32 x0 x9).f1) ((rd_T32 x0 x9).f2) ((rd_T32 x0 x9).f3) ((rd_T32 x0 x5).f0) ((rd_T32 x0 x5).f1) ((rd_T32 x0 x5).f2) ((rd_T32 x0 x5).f3)).bind fun t413 => (spec_Hidden.l1 k x0 x4 x5 t413 (wrap64 (x9 + 1)))) else (none)) else (none)) else (none)) else (none))) else (if x8 = true then (if x4.length < 17592186044416 then (spec_Hidden.l0 k x0 (x4 ++ [x5]) (wrap64 (x5 + 1))) else (none)) else (spec_Hidden.l0 k x0 x4 (wrap64 (x5 + 1))))
end
def spec_Hidden.f (k : Nat) (l0 : List (S32)) : Option (List Int × Int) := if (l0.length : Int) > 4096 then (some ((([] : List Int)), 2)) else ((spec_ClausesOK.f k l0).bind fun t393 => (if t393 = true then (spec_Hidden.l0 k l0 (([] : List Int)) 0) else (some ((([] : List Int)), 1))))
theorem spec_Hidden.mono_l : ∀ k, (∀ y0 y1 y2, LeO (spec_Hidden.l0 k y0 y1 y2) (spec_Hidden.l0 (k + 1) y0 y1 y2)) ∧ (∀ y0 y1 y2 y3 y4, LeO (spec_Hidden.l1 k y0 y1 y2 y3 y4) (spec_Hidden.l1 (k + 1) y0 y1 y2 y3 y4))
 | 0 => ⟨fun _ _ _ r h => by simp [spec_Hidden.l0] at h, fun _ _ _ _ _ r h => by simp [spec_Hidden.l1] at h⟩
 | k + 1 => by
  obtain ⟨ih0, ih1⟩ := spec_Hidden.mono_l k; refine ⟨?_, ?_⟩
  ·intro y0 y1 y2; unfold spec_Hidden.l0
   repeat' first
   | (with_reducible exact ih0 _ _ _)
   | (with_reducible exact ih1 _ _ _ _ _)
   | (with_reducible exact spec_ClausesOK.mono _ _)
   | (with_reducible exact spec_l06Covers.mono _ _ _ _ _ _ _ _ _)
   | (with_reducible exact spec_l06Least.mono _ _)
   | (with_reducible exact LeO.refl _)
   | (with_reducible exact LeO.none _)
   | (with_reducible refine LeO.ite ?_ ?_)
   | (with_reducible refine LeO.bind ?_ (fun _ => ?_))
   | exact ih0 _ _ _
   | exact ih1 _ _ _ _ _
   | exact spec_ClausesOK.mono _ _
   | exact spec_l06Covers.mono _ _ _ _ _ _ _ _ _
   | exact spec_l06Least.mono _ _
   | exact LeO.none _
   | refine LeO.ite ?_ ?_
   | refine LeO.bind ?_ (fun _ => ?_)
  ·intro y0 y1 y2 y3 y4; unfold spec_Hidden.l1
   repeat' first
   | (with_reducible exact ih0 _ _ _)
   | (with_reducible exact ih1 _ _ _ _ _)
   | (with_reducible exact spec_ClausesOK.mono _ _)
   | (with_reducible exact spec_l06Covers.mono _ _ _ _ _ _ _ _ _)
   | (with_reducible exact spec_l06Least.mono _ _)
   | (with_reducible exact LeO.refl _)
   | (with_reducible exact LeO.none _)
   | (with_reducible refine LeO.ite ?_ ?_)
   | (with_reducible refine LeO.bind ?_ (fun _ => ?_))
   | exact ih0 _ _ _
   | exact ih1 _ _ _ _ _
   | exact spec_ClausesOK.mono _ _
   | exact spec_l06Covers.mono _ _ _ _ _ _ _ _ _
   | exact spec_l06Least.mono _ _
   | exact LeO.none _
   | refine LeO.ite ?_ ?_
   | refine LeO.bind ?_ (fun _ => ?_)
theorem spec_Hidden.mono : ∀ a0 k, LeO (spec_Hidden.f k a0) (spec_Hidden.f (k + 1) a0) := by
 intro a0 k; obtain ⟨ih0, ih1⟩ := spec_Hidden.mono_l k; unfold spec_Hidden.f
 repeat' first
   | (with_reducible exact ih0 _ _ _)
   | (with_reducible exact ih1 _ _ _ _ _)
   | (with_reducible exact spec_ClausesOK.mono _ _)
   | (with_reducible exact spec_l06Covers.mono _ _ _ _ _ _ _ _ _)
   | (with_reducible exact spec_l06Least.mono _ _)
   | (with_reducible exact LeO.refl _)
   | (with_reducible exact LeO.none _)
   | (with_reducible refine LeO.ite ?_ ?_)
   | (with_reducible refine LeO.bind ?_ (fun _ => ?_))
   | exact ih0 _ _ _
   | exact ih1 _ _ _ _ _
   | exact spec_ClausesOK.mono _ _
   | exact spec_l06Covers.mono _ _ _ _ _ _ _ _ _
   | exact spec_l06Least.mono _ _
   | exact LeO.none _
   | refine LeO.ite ?_ ?_
   | refine LeO.bind ?_ (fun _ => ?_)
def spec_Hidden.T14 : Bool × List (List Nat × List Nat) := (true, [([], []), ([], []), ([0, 1], [0, 1]), ([2], [2]), ([], []), ([], []), ([4, 5], [4, 5]), ([6], [6]), ([3, 7], [3, 7]), ([8, 8, 0, 1, 2, 3, 4, 5, 6, 7, 8], [8])])
def spec_Hidden.B14 : List Nat := [0, 0, 3, 7, 0, 0, 48, 112, 255, 511]
theorem spec_Hidden.tab14 : rtab .any (opsOf Try.f21 14) = spec_Hidden.T14 := by kernel_rfl
theorem spec_Hidden.bits14 : waitsOk spec_Hidden.T14.2 spec_Hidden.B14 = true := by kernel_rfl
set_option maxHeartbeats 8000000 in
set_option maxRecDepth 100000 in
theorem spec_Hidden.calls (k : Nat) (A0 : Option Addr) (c0 : Nat) (l0 : List (S32)) (r1 : List Int) (r2 : Int) (w : World) (hr0 : Kd.C k32 w A0 l0.length l0) (hc0 : l0.length ≤ c0) (h : spec_Hidden.f k l0 = some (r1, r2)) :
  Calls Try.prog 21 #[.slice A0 l0.length c0] w fun e w' => ∃ v0_ : Value, e = .returned (.tuple #[v0_, .int .i64 r2]) ∧ Kd.R (Kd.int .i64) 3 w' w.heap.size (fun _ => True) v0_ r1 ∧ Below w.heap.size w w' := by
 have hu27 := Try.underlying27; have hu32 := Try.underlying32; have HR0 := Aside0.mk hr0; have HC0 := Aside0.mk hc0; clear hr0 hc0; have HB := Aside0.mk (Below.refl w.heap.size w); have H : (if (l0.length : Int) > 4096 then (some ((([] : List Int)), 2)) else ((spec_ClausesOK.f k l0).bind fun t393 => (if t393 = true then (spec_Hidden.l0 k l0 (([] : List Int)) 0) else (some ((([] : List Int)), 1))))) = some (r1, r2) := h; clear h; by_cases c2 : (l0.length : Int) > 4096
 ·rw [if_pos c2] at H; have c2b0 : decide (4096 < (l0.length : Int)) = true := decide_eq_true c2; have c2b1 : decide (4096 < l0.length) = true := decide_eq_true (by omega); clear c2; obtain ⟨y390, hy390⟩ : ∃ y_ : List Int, y_ = (([] : List Int)) := ⟨_, rfl⟩
  replace H : (some (y390, 2)) = some (r1, r2) := by first | (rw [hy390]; with_reducible exact H) | (have H2_ := (Option.bind_some _ _).symm.trans H; rw [hy390]; with_reducible exact H2_) | (have H2_ := (Option.bind_some _ _).symm.trans H; with_reducible exact H2_) | with_reducible exact H | (rw [hy390]; exact H) | exact H
  have Ny390 := Aside0.mk hy390; clear hy390; simp only [Option.some.injEq, Prod.mk.injEq] at H; obtain ⟨rfl, rfl⟩ := H; go_enter Try.func21, Try.ntmps21
  go_wp2_with (first | ((with_reducible refine gate_dst (N := 13) rfl ?_); refine Kd.R_lit (Kd.int .i64) _ 3 ?hg (N := 13) ?hd (xs := ([] : List Int)) (inner := []) (ok := fun _ => True) (okp := fun _ => True) ?hr ?hp (fun _ hk => hk) trivial (Below.refl _ _) (Nat.le_refl _) (by simp) ?_; (case hd => rfl); (case hg => rfl); (case hr => first | (go_simp; done) | (go_simp; rfl)); (case hp => exact (Reps.none _ _)); intro v391 w3 ho4 hb hg_ hnew_; clear hg_ hnew_; (first | rw [← Ny390.out] at ho4 | (simp only [Int.reduceToNat] at ho4; rw [← Ny390.out] at ho4)); have n0_ := Aside0.mk (Kd.R_lower ho4 (below_size (qb HB))); have n1_ := Aside0.mk (below_step (qb HB) hb); clear HB; have HO392 := n0_; have HB := n1_; clear n0_ n1_; clear hb ho4))
  go_ret2; exact ⟨_, by first | rfl | (simp [errW_none, errW_some] <;> rfl) | (simp [*, errW_none, errW_some] <;> rfl), by (with_reducible repeat (first | apply Kd.R_alloc | apply Kd.R_drewN | apply Kd.R_drew)); exact HO392.out, qb HB⟩
 ·rw [if_neg c2] at H; have c2b0 : decide (4096 < (l0.length : Int)) = false := decide_eq_false c2; have c2b1 : decide (4096 < l0.length) = false := decide_eq_false (by omega); clear c2; replace H := Option.bind_eq_some_iff.mp H; obtain ⟨t393, A50, H⟩ := H; replace H : (if t393 = true then (spec_Hidden.l0 k l0 (([] : List Int)) 0) else (some ((([] : List Int)), 1))) = some (r1, r2) := H; have A5 := Aside0.mk A50; clear A50; by_cases c6 : t393 = true
  ·subst c6
   have H1 : (spec_Hidden.l0 k l0 (([] : List Int)) 0) = some (r1, r2) := by rw [if_pos rfl] at H; exact H
   clear H; have H := H1; clear H1; obtain ⟨y397, hy397⟩ : ∃ y_ : List Int, y_ = (([] : List Int)) := ⟨_, rfl⟩
   replace H : (spec_Hidden.l0 k l0 y397 0) = some (r1, r2) := by first | (rw [hy397]; with_reducible exact H) | (have H2_ := (Option.bind_some _ _).symm.trans H; rw [hy397]; with_reducible exact H2_) | (have H2_ := (Option.bind_some _ _).symm.trans H; with_reducible exact H2_) | with_reducible exact H | (rw [hy397]; exact H) | exact H
   have Ny397 := Aside0.mk hy397; clear hy397; have H' := Aside0.mk H; clear H; go_enter Try.func21, Try.ntmps21
   go_wp2_with (first | ((with_reducible refine gate_callee (f := 44) rfl ?_); refine goesL_ (some 15) rfl rfl Try.func44 (by kernel_rfl) rfl #[.slice A0 l0.length c0] rfl mq ?_; (with_reducible refine (spec_ClausesOK.calls k _ _ l0 true _ ?side1 ?side2 A5.out).mono ?_); (case side1 => repeat (first | exact HR0.out | (with_reducible refine Kd.C_alloc ?_ _) | (with_reducible refine Kd.C_drewN ?_ _) | (with_reducible refine Kd.C_drew ?_))); (case side2 => exact HC0.out); rintro e w7 ⟨rfl, hb⟩; refine ⟨_, rfl, ?_⟩; have n0_ := Aside0.mk (below_step (qb HB) hb); clear HB; have HB := n0_; clear n0_; (try clear hb); (try clear hb2); (try clear hk); (try clear hi)) | ((with_reducible refine gate_dst (N := 18) rfl ?_); refine Kd.R_lit (Kd.int .i64) _ 3 ?hg (N := 18) ?hd (xs := ([] : List Int)) (inner := []) (ok := fun _ => True) (okp := fun _ => True) ?hr ?hp (fun _ hk => hk) trivial (Below.refl _ _) (Nat.le_refl _) (by simp) ?_; (case hd => rfl); (case hg => rfl); (case hr => first | (go_simp; done) | (go_simp; rfl)); (case hp => exact (Reps.none _ _)); intro v398 w8 ho9 hb hg_ hnew_; clear hg_ hnew_; (first | rw [← Ny397.out] at ho9 | (simp only [Int.reduceToNat] at ho9; rw [← Ny397.out] at ho9)); have n0_ := Aside0.mk (Kd.R_lower ho9 (below_size (qb HB))); have n1_ := Aside0.mk (below_step (qb HB) hb); clear HB; have HO399 := n0_; have HB := n1_; clear n0_ n1_; clear hb ho9))
   go_loopg [4, 5] k (fun kq v4 v5 w' => ∃ (x4_1 : List Int) (x5_1 : Int), v5 = .int .i64 x5_1 ∧ Aside0 (spec_Hidden.l0 kq l0 x4_1 x5_1 = some (r1, r2)) ∧ Aside0 (kq ≤ k) ∧ Aside0 (Kd.R (Kd.int .i64) 3 w' w.heap.size (fun _ => True) v4 x4_1) ∧ Aside0 (Below w.heap.size w w'))
   case atStart => exact ⟨(y397), (0), (by first | rfl | (simp; done) | (simp [*]; done)), H', ⟨Nat.le_refl _⟩, ⟨by (with_reducible repeat (first | apply Kd.R_alloc | apply Kd.R_drewN | apply Kd.R_drew)); exact HO399.out⟩, ⟨qb HB⟩⟩
   case round =>
    clear H'; (try clear c2); (try clear c2b0); (try clear c2b1); (try clear p2); (try clear c4); (try clear c6); obtain ⟨x4_1, x5_1, rfl, HA, HK1, HO_4, HB⟩ := hrel
    cases gk with
    | zero => exact absurd HA.out (by simp [spec_Hidden.l0])
    | succ k1 =>
     have H := HA.out; clear HA; simp only [spec_Hidden.l0] at H; by_cases c10 : x5_1 < (l0.length : Int)
     ·rw [if_pos c10] at H; have c10b0 : decide (x5_1 < (l0.length : Int)) = true := decide_eq_true c10; clear c10; by_cases c11 : 0 ≤ x5_1
      ·rw [if_pos c11] at H; have c11b0 : decide (0 ≤ x5_1) = true := decide_eq_true c11; clear c11; replace H := Option.bind_eq_some_iff.mp H; obtain ⟨⟨t401, t402, t403, t404, t405, t406⟩, A120, H⟩ := H; replace H : (spec_Hidden.l1 k1 l0 x4_1 x5_1 (!t406) 0) = some (r1, r2) := H; have A12 := Aside0.mk A120; clear A120; have H' := Aside0.mk H; clear H; have p400 : 0 ≤ (x5_1 : Int) := of_decide_eq_true (by first | (with_reducible assumption) | assumption); have q400 : x5_1 < (l0.length : Int) := of_decide_eq_true (by first | (with_reducible assumption) | assumption); obtain ⟨ad400, A400_1, c400_1, e400, hx400_0, hx400_1, hx400_2, hx400_3, hl400_1, hi400_1⟩ := at_T32 HR0.out x5_1 p400 q400
       cases e400
       replace hx400_0 := (HB.out.cell (World.block_lt_of_cell? w _ hx400_0)).trans hx400_0; replace hx400_1 := (HB.out.cell (World.block_lt_of_cell? w _ hx400_1)).trans hx400_1; replace hx400_2 := (HB.out.cell (World.block_lt_of_cell? w _ hx400_2)).trans hx400_2; replace hx400_3 := (HB.out.cell (World.block_lt_of_cell? w _ hx400_3)).trans hx400_3; have HR400_1 := Aside0.mk hi400_1; have HC400_1 := Aside0.mk hl400_1; clear hi400_1 hl400_1; replace p400 := eq_true p400; replace q400 := eq_true q400
       go_wp2_with (first | ((with_reducible refine gate_callee (f := 34) rfl ?_); refine goesL_ (some 31) rfl rfl Try.func34 (by kernel_rfl) rfl #[.slice A400_1 ((rd_T32 l0 x5_1).f1).length c400_1] rfl mq ?_; (with_reducible refine (spec_l06Least.calls k1 _ _ ((rd_T32 l0 x5_1).f1) t401 t402 t403 t404 t405 t406 _ ?side1 ?side2 A12.out).mono ?_); (case side1 => repeat (first | exact (Kd.C_below HR400_1.out HB.out) | (with_reducible refine Kd.C_alloc ?_ _) | (with_reducible refine Kd.C_drewN ?_ _) | (with_reducible refine Kd.C_drew ?_))); (case side2 => exact HC400_1.out); rintro e w13 ⟨rfl, hb⟩; refine ⟨_, rfl, ?_⟩; have n0_ := Aside0.mk (Kd.R_below (qr HO_4) hb); have n1_ := Aside0.mk (below_step (qb HB) hb); clear HO_4; clear HB; have HO_4 := n0_; have HB := n1_; clear n0_ n1_; (try clear hb); (try clear hb2); (try clear hk); (try clear hi)) | ((with_reducible refine gate_dst (N := 6) rfl ?_); refine box_event ?hg (N := 6) ?hd (cs := #[.int .i64 0, .int .i64 0, .int .i64 0, .int .i64 0, .int .i64 0]) (t := 27) ?hr ?_; (case hd => rfl); (case hg => rfl); (case hr => first | (go_simp; done) | (go_simp; rfl)); intro gb407 hg w14 hbox hb; have n0_ := Aside0.mk (Kd.R_below (qr HO_4) hb); have n1_ := Aside0.mk (below_step (qb HB) hb); have n2_ := Aside0.mk (hbox); have n3_ := Aside0.mk ((by rw [hg]; exact (below_size (qb HB)) : w.heap.size ≤ gb407)); have n4_ := Aside0.mk ((by rw [hg]; exact (below_size (qb HB)) : w.heap.size ≤ gb407)); clear HO_4; clear HB; have HO_4 := n0_; have HB := n1_; have BK407 := n2_; have GW407 := n3_; have GE407 := n4_; clear n0_ n1_ n2_ n3_ n4_; clear hb hbox hg; obtain ⟨hcz15_0, hcz15_1, hcz15_2, hcz15_3, hcz15_4, hfz15_0, hfz15_1, hfz15_2, hfz15_3, hfz15_4⟩ := bz5 BK407))
       go_loopg [8, 9] k1 (fun kq v8 v9 w' => ∃ (x8_2 : Bool) (x9_2 : Int), v8 = .bool x8_2 ∧ v9 = .int .i64 x9_2 ∧ Aside0 (spec_Hidden.l1 kq l0 x4_1 x5_1 x8_2 x9_2 = some (r1, r2)) ∧ Aside0 (kq ≤ k1) ∧ Aside0 (Kd.R (Kd.int .i64) 3 w' w.heap.size (fun _ => True) u4 x4_1) ∧ Aside0 (w'.heap[gb407]? = some (.cells #[.int .i64 t401, .int .i64 t402, .int .i64 t403, .int .i64 t404, .int .i64 t405] 27 (0, 0))) ∧ Aside0 (Below w.heap.size w w'))
       case atStart => exact ⟨(!t406), (0), (by first | rfl | (simp; done) | (simp [*]; done)), (by first | rfl | (simp; done) | (simp [*]; done)), H', ⟨Nat.le_refl _⟩, ⟨by (with_reducible repeat (first | apply Kd.R_alloc | apply Kd.R_drewN | apply Kd.R_drew)); exact Kd.R_mono (Kd.R_far (p := ⟨gb407, 4, none⟩) (Kd.R_far (p := ⟨gb407, 3, none⟩) (Kd.R_far (p := ⟨gb407, 2, none⟩) (Kd.R_far (p := ⟨gb407, 1, none⟩) (Kd.R_far (p := ⟨gb407, 0, none⟩) (Kd.R_types HO_4.out BK407.out (by decide)) (fun _ hk => hk.2) (.int .i64 t401)) (fun _ hk => hk.2) (.int .i64 t402)) (fun _ hk => hk.2) (.int .i64 t403)) (fun _ hk => hk.2) (.int .i64 t404)) (fun _ hk => hk.2) (.int .i64 t405)) (fun _ hk => trivial)⟩, ⟨by (with_reducible repeat (first | refine blk_drewN ?_ _ | refine blk_drew ?_ | refine blk_alloc ?_ _)); refine blk_put (cs := #[.int .i64 t401, .int .i64 t402, .int .i64 t403, .int .i64 t404, .int .i64 0]) ?_ 4 _ rfl; (with_reducible repeat (first | refine blk_drewN ?_ _ | refine blk_drew ?_ | refine blk_alloc ?_ _)); refine blk_put (cs := #[.int .i64 t401, .int .i64 t402, .int .i64 t403, .int .i64 0, .int .i64 0]) ?_ 3 _ rfl; (with_reducible repeat (first | refine blk_drewN ?_ _ | refine blk_drew ?_ | refine blk_alloc ?_ _)); refine blk_put (cs := #[.int .i64 t401, .int .i64 t402, .int .i64 0, .int .i64 0, .int .i64 0]) ?_ 2 _ rfl; (with_reducible repeat (first | refine blk_drewN ?_ _ | refine blk_drew ?_ | refine blk_alloc ?_ _)); refine blk_put (cs := #[.int .i64 t401, .int .i64 0, .int .i64 0, .int .i64 0, .int .i64 0]) ?_ 1 _ rfl; (with_reducible repeat (first | refine blk_drewN ?_ _ | refine blk_drew ?_ | refine blk_alloc ?_ _)); refine blk_put (cs := #[.int .i64 0, .int .i64 0, .int .i64 0, .int .i64 0, .int .i64 0]) ?_ 0 _ rfl; (with_reducible repeat (first | refine blk_drewN ?_ _ | refine blk_drew ?_ | refine blk_alloc ?_ _)); exact BK407.out⟩, ⟨qb HB⟩⟩
       case round =>
        clear H'; (try clear c1); (try clear c2); (try clear c2b0); (try clear c2b1); (try clear p2); (try clear c3); (try clear c4); (try clear p4); (try clear q4); (try clear hx4); (try clear c6); (try clear c10); (try clear c10b0); (try clear c11); (try clear c11b0); (try clear hcz15_0); (try clear hcz15_1); (try clear hcz15_2); (try clear hcz15_3); (try clear hcz15_4); (try clear hfz15_0); (try clear hfz15_1); (try clear hfz15_2); (try clear hfz15_3); (try clear hfz15_4); (try clear hx400_0); (try clear hx400_1); (try clear hx400_2); (try clear hx400_3); (try clear p2); (try clear p400); (try clear q400); obtain ⟨x8_2, x9_2, rfl, rfl, HA, HK2, HO_4, BK407, HB⟩ := hrel
        cases gk with
        | zero => exact absurd HA.out (by simp [spec_Hidden.l1])
        | succ k2 =>
         have H := HA.out; clear HA; simp only [spec_Hidden.l1] at H; by_cases c16 : x9_2 < x5_1
         ·rw [if_pos c16] at H; have c16b0 : decide (x9_2 < x5_1) = true := decide_eq_true c16; clear c16; by_cases c17 : x8_2 = true
          ·subst c17
           have H1 : (if x4_1.length < 17592186044416 then (spec_Hidden.l0 k2 l0 (x4_1 ++ [x5_1]) (wrap64 (x5_1 + 1))) else (none)) = some (r1, r2) := by rw [if_pos rfl] at H; exact H
           clear H; have H := H1; clear H1; by_cases c18 : x4_1.length < 17592186044416
           ·rw [if_pos c18] at H; have LMc18 := Aside0.mk c18; clear c18; obtain ⟨y408, hy408⟩ : ∃ y_ : List Int, y_ = (x4_1 ++ [x5_1]) := ⟨_, rfl⟩
            replace H : (spec_Hidden.l0 k2 l0 y408 (wrap64 (x5_1 + 1))) = some (r1, r2) := by first | (rw [hy408]; with_reducible exact H) | (have H2_ := (Option.bind_some _ _).symm.trans H; rw [hy408]; with_reducible exact H2_) | (have H2_ := (Option.bind_some _ _).symm.trans H; with_reducible exact H2_) | with_reducible exact H | (rw [hy408]; exact H) | exact H
            have Ny408 := Aside0.mk hy408; clear hy408; have H' := Aside0.mk H; clear H
            go_wp2_with (first | ((with_reducible refine gate_builtin (b := .append) (xs := #[.tmp 55, .tmp 57]) rfl ?_); at_builtin; refine Kd.R_append (Kd.int .i64) (w0 := w) w.heap.size rfl (.tmp 55) (.tmp 57) 37 3 (.int .i64 0) 8 rfl Try.underlying37 info3 rfl (by decide) (by omega) u4 x4_1 x5_1 [.int .i64 x5_1] (fun _ => True) (fun _ => False) rfl rfl ?aP (fun _ hk => hk.elim) ?aF ?aO ?aB ?aS ?aL ?_; (case aP => exact rfl); (case aB => exact (qb HB)); (case aF => exact (fun _ _ => trivial)); (case aO => exact (qr HO_4)); (case aS => exact (below_size (qb HB))); (case aL => have := LMc18.out; omega); intro v409 w19 ho hb hg hat; rw [← Ny408.out] at ho; have n0_ := Aside0.mk (blk_grown (bq BK407) hg (Kd.R_ne HO_4.out BK407.out (by decide))); have n1_ := Aside0.mk (hb); have n2_ := Aside0.mk (ho); clear BK407; clear HB; clear HO_4; have BK407 := n0_; have HB := n1_; have HO410 := n2_; clear n0_ n1_ n2_; clear ho hb hg hat))
            go_roundg k2
            case measure => have := HK1.out; have := HK2.out; omega
            case rel => exact ⟨(y408), (wrap64 (x5_1 + 1)), (by first | rfl | (simp; done) | (simp [*]; done)), H', ⟨by have := HK1.out; have := HK2.out; omega⟩, ⟨by (with_reducible repeat (first | apply Kd.R_alloc | apply Kd.R_drewN | apply Kd.R_drew)); exact HO410.out⟩, ⟨qb HB⟩⟩
           ·rw [if_neg c18] at H; exact absurd H (by simp)
          ·replace c17 := Bool.eq_false_iff.mpr c17; subst c17
           have H1 : (if 0 ≤ x9_2 then (if x9_2 < (l0.length : Int) then (if 0 ≤ x5_1 then (if x5_1 < (l0.length : Int) then ((spec_l06Covers.f k2 ((rd_T32 l0 x9_2).f0) ((rd_T32 l0 x9_2).f1) ((rd_T32 l0 x9_2).f2) ((rd_T32 l0 x9_2).f3) ((rd_T32 l0 x5_1).f0) ((rd_T32 l0 x5_1).f1) ((rd_T32 l0 x5_1).f2) ((rd_T32 l0 x5_1).f3)).bind fun t413 => (spec_Hidden.l1 k2 l0 x4_1 x5_1 t413 (wrap64 (x9_2 + 1)))) else (none)) else (none)) else (none)) else (none)) = some (r1, r2) := by rw [if_neg (show ¬ (false = true) by decide)] at H; exact H
           clear H; have H := H1; clear H1; by_cases c20 : 0 ≤ x9_2
           ·rw [if_pos c20] at H; have c20b0 : decide (0 ≤ x9_2) = true := decide_eq_true c20; clear c20; by_cases c21 : x9_2 < (l0.length : Int)
            ·rw [if_pos c21] at H; have c21b0 : decide (x9_2 < (l0.length : Int)) = true := decide_eq_true c21; clear c21; by_cases c22 : 0 ≤ x5_1
             ·rw [if_pos c22] at H; have c22b0 : decide (0 ≤ x5_1) = true := decide_eq_true c22; clear c22; by_cases c23 : x5_1 < (l0.length : Int)
              ·rw [if_pos c23] at H; have c23b0 : decide (x5_1 < (l0.length : Int)) = true := decide_eq_true c23; clear c23; replace H := Option.bind_eq_some_iff.mp H; obtain ⟨t413, A240, H⟩ := H; replace H : (spec_Hidden.l1 k2 l0 x4_1 x5_1 t413 (wrap64 (x9_2 + 1))) = some (r1, r2) := H; have A24 := Aside0.mk A240; clear A240; have H' := Aside0.mk H; clear H
               try go_wp2
               have n0_ := Aside0.mk (Kd.R_drew HO_4.out); have n1_ := Aside0.mk (blk_drew BK407.out); have n2_ := Aside0.mk (below_drew1 HB.out); clear HO_4; clear BK407; clear HB; have HO_4 := n0_; have BK407 := n1_; have HB := n2_; clear n0_ n1_ n2_; have p411 : 0 ≤ (x9_2 : Int) := of_decide_eq_true (by first | (with_reducible assumption) | assumption); have q411 : x9_2 < (l0.length : Int) := of_decide_eq_true (by first | (with_reducible assumption) | assumption); obtain ⟨ad411, A411_1, c411_1, e411, hx411_0, hx411_1, hx411_2, hx411_3, hl411_1, hi411_1⟩ := at_T32 HR0.out x9_2 p411 q411; have hw411_3 := hx411_3; have hw411_2 := hx411_2; have hw411_1 := hx411_1; have hw411_0 := hx411_0; obtain rfl : ad400 = ad411 := (by injection e411); replace hx411_0 := (HB.out.cell (World.block_lt_of_cell? w _ hx411_0)).trans hx411_0; replace hx411_1 := (HB.out.cell (World.block_lt_of_cell? w _ hx411_1)).trans hx411_1; replace hx411_2 := (HB.out.cell (World.block_lt_of_cell? w _ hx411_2)).trans hx411_2; replace hx411_3 := (HB.out.cell (World.block_lt_of_cell? w _ hx411_3)).trans hx411_3; have HR411_1 := Aside0.mk hi411_1; have HC411_1 := Aside0.mk hl411_1; clear hi411_1 hl411_1; replace p411 := eq_true p411; replace q411 := eq_true q411; have p412 : 0 ≤ (x5_1 : Int) := of_decide_eq_true (by first | (with_reducible assumption) | assumption); have q412 : x5_1 < (l0.length : Int) := of_decide_eq_true (by first | (with_reducible assumption) | assumption); obtain ⟨ad412, A412_1, c412_1, e412, hx412_0, hx412_1, hx412_2, hx412_3, hl412_1, hi412_1⟩ := at_T32 HR0.out x5_1 p412 q412; have hw412_3 := hx412_3; have hw412_2 := hx412_2; have hw412_1 := hx412_1; have hw412_0 := hx412_0; obtain rfl : ad400 = ad412 := (by injection e412); replace hx412_0 := (HB.out.cell (World.block_lt_of_cell? w _ hx412_0)).trans hx412_0; replace hx412_1 := (HB.out.cell (World.block_lt_of_cell? w _ hx412_1)).trans hx412_1; replace hx412_2 := (HB.out.cell (World.block_lt_of_cell? w _ hx412_2)).trans hx412_2; replace hx412_3 := (HB.out.cell (World.block_lt_of_cell? w _ hx412_3)).trans hx412_3; have HR412_1 := Aside0.mk hi412_1; have HC412_1 := Aside0.mk hl412_1; clear hi412_1 hl412_1; replace p412 := eq_true p412; replace q412 := eq_true q412; refine start_ (n := 10) (S := fun w' => w'.cell? (ad400.add ((x9_2).toNat * 4)) = some (.string ((rd_T32 l0 x9_2).f0)) ∧ w'.cell? ⟨(ad400.add ((x9_2).toNat * 4)).block, (ad400.add ((x9_2).toNat * 4)).off + 1, none⟩ = some (.slice A411_1 ((rd_T32 l0 x9_2).f1).length c411_1) ∧ w'.cell? ⟨(ad400.add ((x9_2).toNat * 4)).block, (ad400.add ((x9_2).toNat * 4)).off + 2, none⟩ = some (.int .i64 ((rd_T32 l0 x9_2).f2)) ∧ w'.cell? ⟨(ad400.add ((x9_2).toNat * 4)).block, (ad400.add ((x9_2).toNat * 4)).off + 3, none⟩ = some (.int .i64 ((rd_T32 l0 x9_2).f3)) ∧ w'.cell? (ad400.add ((x5_1).toNat * 4)) = some (.string ((rd_T32 l0 x5_1).f0)) ∧ w'.cell? ⟨(ad400.add ((x5_1).toNat * 4)).block, (ad400.add ((x5_1).toNat * 4)).off + 1, none⟩ = some (.slice A412_1 ((rd_T32 l0 x5_1).f1).length c412_1) ∧ w'.cell? ⟨(ad400.add ((x5_1).toNat * 4)).block, (ad400.add ((x5_1).toNat * 4)).off + 2, none⟩ = some (.int .i64 ((rd_T32 l0 x5_1).f2)) ∧ w'.cell? ⟨(ad400.add ((x5_1).toNat * 4)).block, (ad400.add ((x5_1).toNat * 4)).off + 3, none⟩ = some (.int .i64 ((rd_T32 l0 x5_1).f3))) (ds := []) #[false, false, false, false, false, false, false, false, false, false] (by kernel_rfl) rfl rfl ⟨((HB.out.cell (World.block_lt_of_cell? w _ hw411_0)).trans hw411_0), ((HB.out.cell (World.block_lt_of_cell? w _ hw411_1)).trans hw411_1), ((HB.out.cell (World.block_lt_of_cell? w _ hw411_2)).trans hw411_2), ((HB.out.cell (World.block_lt_of_cell? w _ hw411_3)).trans hw411_3), ((HB.out.cell (World.block_lt_of_cell? w _ hw412_0)).trans hw412_0), ((HB.out.cell (World.block_lt_of_cell? w _ hw412_1)).trans hw412_1), ((HB.out.cell (World.block_lt_of_cell? w _ hw412_2)).trans hw412_2), ((HB.out.cell (World.block_lt_of_cell? w _ hw412_3)).trans hw412_3)⟩ (fun hHeld => ?_); refine with_tabW spec_Hidden.tab14 spec_Hidden.bits14 (fun HT_ HW_ => ?_); generalize wr.drew = w25 at HO_4 BK407 HB HR411_1 HR412_1 hx411_0 hx411_1 hx411_2 hx411_3 hx412_0 hx412_1 hx412_2 hx412_3 hHeld ⊢; refine pure_ (i := 0) (N := some 45) (v := ?_) (a' := ?_) #[true, false, false, false, false, false, false, false, false, false] rfl rfl (any_of HT_.out (by kernel_rfl)) (fun _ _ _ h => h) (Or.inl ⟨by rfl, ?_⟩) ?_ ?_; rotate_left
               ·intro w'; go_simp; (with_reducible rfl)
               rotate_left
               ·simp only [Act.put, sA, s0, sS, i64_w, i32_w]; rfl
               refine pure_ (i := 1) (N := some 46) (v := ?_) (a' := ?_) #[true, true, false, false, false, false, false, false, false, false] rfl rfl (any_of HT_.out (by kernel_rfl)) (fun _ _ _ h => h) (Or.inl ⟨by rfl, ?_⟩) ?_ ?_; rotate_left
               ·intro w'; go_simp; (with_reducible rfl)
               rotate_left
               ·simp only [Act.put, sA, s0, sS, i64_w, i32_w]; rfl
               refine pure_ (i := 2) (N := some 47) (v := ?_) (a' := ?_) #[true, true, true, false, false, false, false, false, false, false] rfl rfl (any_of HT_.out (by kernel_rfl)) (fun _ _ _ h => h) (Or.inl ⟨by rfl, ?_⟩) ?_ ?_; rotate_left
               ·intro w'; go_simp; (with_reducible rfl)
               rotate_left
               ·simp only [Act.put, sA, s0, sS, i64_w, i32_w]; rfl
               refine pure_ (i := 4) (N := some 49) (v := ?_) (a' := ?_) #[true, true, true, false, true, false, false, false, false, false] rfl rfl (any_of HT_.out (by kernel_rfl)) (fun _ _ _ h => h) (Or.inl ⟨by rfl, ?_⟩) ?_ ?_; rotate_left
               ·intro w'; go_simp; (with_reducible rfl)
               rotate_left
               ·simp only [Act.put, sA, s0, sS, i64_w, i32_w]; rfl
               refine pure_ (i := 5) (N := some 50) (v := ?_) (a' := ?_) #[true, true, true, false, true, true, false, false, false, false] rfl rfl (any_of HT_.out (by kernel_rfl)) (fun _ _ _ h => h) (Or.inl ⟨by rfl, ?_⟩) ?_ ?_; rotate_left
               ·intro w'; go_simp; (with_reducible rfl)
               rotate_left
               ·simp only [Act.put, sA, s0, sS, i64_w, i32_w]; rfl
               refine pure_ (i := 6) (N := some 51) (v := ?_) (a' := ?_) #[true, true, true, false, true, true, true, false, false, false] rfl rfl (any_of HT_.out (by kernel_rfl)) (fun _ _ _ h => h) (Or.inl ⟨by rfl, ?_⟩) ?_ ?_; rotate_left
               ·intro w'; go_simp; (with_reducible rfl)
               rotate_left
               ·simp only [Act.put, sA, s0, sS, i64_w, i32_w]; rfl
               refine take_ (i := 3) (N := some 48) (v := ?_) (a' := ?_) #[true, true, true, true, true, true, true, false, false, false] rfl rfl (take_ofW HT_.out HW_.out (by kernel_rfl)) (fun _ _ _ h => h) (Or.inl ⟨by rfl, ?_⟩) hHeld ?_ ?_; rotate_left
               ·rintro w' ⟨s0, s1, s2, s3, s4, s5, s6, s7⟩; go_simp; (with_reducible rfl)
               rotate_left
               ·simp only [Act.put, sA, s0, sS, i64_w, i32_w]; rfl
               refine take_ (i := 7) (N := some 52) (v := ?_) (a' := ?_) #[true, true, true, true, true, true, true, true, false, false] rfl rfl (take_ofW HT_.out HW_.out (by kernel_rfl)) (fun _ _ _ h => h) (Or.inl ⟨by rfl, ?_⟩) hHeld ?_ ?_; rotate_left
               ·rintro w' ⟨s0, s1, s2, s3, s4, s5, s6, s7⟩; go_simp; (with_reducible rfl)
               rotate_left
               ·simp only [Act.put, sA, s0, sS, i64_w, i32_w]; rfl
               refine one_ (i := 8) (N := some 53) #[true, true, true, true, true, true, true, true, true, false] rfl rfl (one_of HT_.out (by kernel_rfl)) (by decide) (fun K hK => ?_); refine goes_ Try.func45 (by kernel_rfl) rfl #[.agg #[.string ((rd_T32 l0 x9_2).f0), .slice A411_1 ((rd_T32 l0 x9_2).f1).length c411_1, .int .i64 ((rd_T32 l0 x9_2).f2), .int .i64 ((rd_T32 l0 x9_2).f3)], .agg #[.string ((rd_T32 l0 x5_1).f0), .slice A412_1 ((rd_T32 l0 x5_1).f1).length c412_1, .int .i64 ((rd_T32 l0 x5_1).f2), .int .i64 ((rd_T32 l0 x5_1).f3)]] (by rfl) rfl rfl mq ?_; (with_reducible refine (spec_l06Covers.calls k2 ((rd_T32 l0 x9_2).f0) _ _ ((rd_T32 l0 x9_2).f1) ((rd_T32 l0 x9_2).f2) ((rd_T32 l0 x9_2).f3) ((rd_T32 l0 x5_1).f0) _ _ ((rd_T32 l0 x5_1).f1) ((rd_T32 l0 x5_1).f2) ((rd_T32 l0 x5_1).f3) t413 _ ?side1 ?side2 ?side3 ?side4 A24.out).mono ?_)
               (case side1 => repeat (first | exact (Kd.C_below HR411_1.out HB.out) | (with_reducible refine Kd.C_alloc ?_ _) | (with_reducible refine Kd.C_drewN ?_ _) | (with_reducible refine Kd.C_drew ?_)))
               (case side2 => exact HC411_1.out)
               (case side3 => repeat (first | exact (Kd.C_below HR412_1.out HB.out) | (with_reducible refine Kd.C_alloc ?_ _) | (with_reducible refine Kd.C_drewN ?_ _) | (with_reducible refine Kd.C_drew ?_)))
               (case side4 => exact HC412_1.out)
               rintro e w26 ⟨rfl, hb⟩; refine ⟨_, rfl, ?_⟩; have n0_ := Aside0.mk (Kd.R_below (qr HO_4) hb); have n1_ := Aside0.mk (blk_below (bq BK407) hb); have n2_ := Aside0.mk (below_step (qb HB) hb); clear HO_4; clear BK407; clear HB; have HO_4 := n0_; have BK407 := n1_; have HB := n2_; clear n0_ n1_ n2_; (try clear hb); (try clear hb2); (try clear hk); (try clear hi); refine hK.out _ _ ⟨((HB.out.cell (World.block_lt_of_cell? w _ hw411_0)).trans hw411_0), ((HB.out.cell (World.block_lt_of_cell? w _ hw411_1)).trans hw411_1), ((HB.out.cell (World.block_lt_of_cell? w _ hw411_2)).trans hw411_2), ((HB.out.cell (World.block_lt_of_cell? w _ hw411_3)).trans hw411_3), ((HB.out.cell (World.block_lt_of_cell? w _ hw412_0)).trans hw412_0), ((HB.out.cell (World.block_lt_of_cell? w _ hw412_1)).trans hw412_1), ((HB.out.cell (World.block_lt_of_cell? w _ hw412_2)).trans hw412_2), ((HB.out.cell (World.block_lt_of_cell? w _ hw412_3)).trans hw412_3)⟩ (fun hHeld => ?_); clear hK K; refine norm_ (a' := ?_) ?_ ?_; rotate_left
               ·show Act.put _ (some 53) _ = _; simp only [Act.put, sA, s0, sS, i64_w, i32_w]; rfl
               refine pure_ (i := 9) (N := some 8) (v := ?_) (a' := ?_) #[true, true, true, true, true, true, true, true, true, true] rfl rfl (any_of HT_.out (by kernel_rfl)) (fun _ _ _ h => h) (Or.inl ⟨by rfl, ?_⟩) ?_ ?_; rotate_left
               ·intro w'; go_simp; (with_reducible rfl)
               rotate_left
               ·simp only [Act.put, sA, s0, sS, i64_w, i32_w]; rfl
               refine done_ (done_of HT_.out (by kernel_rfl)) ?_
               try go_wp2
               go_roundg k2
               case measure => have := HK1.out; have := HK2.out; omega
               case rel => exact ⟨(t413), (wrap64 (x9_2 + 1)), (by first | rfl | (simp; done) | (simp [*]; done)), (by first | rfl | (simp; done) | (simp [*]; done)), H', ⟨by have := HK1.out; have := HK2.out; omega⟩, ⟨by (with_reducible repeat (first | apply Kd.R_alloc | apply Kd.R_drewN | apply Kd.R_drew)); exact HO_4.out⟩, ⟨bq BK407⟩, ⟨qb HB⟩⟩
              ·rw [if_neg c23] at H; exact absurd H (by simp)
             ·rw [if_neg c22] at H; exact absurd H (by simp)
            ·rw [if_neg c21] at H; exact absurd H (by simp)
           ·rw [if_neg c20] at H; exact absurd H (by simp)
         ·rw [if_neg c16] at H; have c16b0 : decide (x9_2 < x5_1) = false := decide_eq_false c16; clear c16; by_cases c27 : x8_2 = true
          ·subst c27
           have H1 : (if x4_1.length < 17592186044416 then (spec_Hidden.l0 k2 l0 (x4_1 ++ [x5_1]) (wrap64 (x5_1 + 1))) else (none)) = some (r1, r2) := by rw [if_pos rfl] at H; exact H
           clear H; have H := H1; clear H1; by_cases c28 : x4_1.length < 17592186044416
           ·rw [if_pos c28] at H; have LMc28 := Aside0.mk c28; clear c28; obtain ⟨y414, hy414⟩ : ∃ y_ : List Int, y_ = (x4_1 ++ [x5_1]) := ⟨_, rfl⟩
            replace H : (spec_Hidden.l0 k2 l0 y414 (wrap64 (x5_1 + 1))) = some (r1, r2) := by first | (rw [hy414]; with_reducible exact H) | (have H2_ := (Option.bind_some _ _).symm.trans H; rw [hy414]; with_reducible exact H2_) | (have H2_ := (Option.bind_some _ _).symm.trans H; with_reducible exact H2_) | with_reducible exact H | (rw [hy414]; exact H) | exact H
            have Ny414 := Aside0.mk hy414; clear hy414; have H' := Aside0.mk H; clear H
            go_wp2_with (first | ((with_reducible refine gate_builtin (b := .append) (xs := #[.tmp 55, .tmp 57]) rfl ?_); at_builtin; refine Kd.R_append (Kd.int .i64) (w0 := w) w.heap.size rfl (.tmp 55) (.tmp 57) 37 3 (.int .i64 0) 8 rfl Try.underlying37 info3 rfl (by decide) (by omega) u4 x4_1 x5_1 [.int .i64 x5_1] (fun _ => True) (fun _ => False) rfl rfl ?aP (fun _ hk => hk.elim) ?aF ?aO ?aB ?aS ?aL ?_; (case aP => exact rfl); (case aB => exact (qb HB)); (case aF => exact (fun _ _ => trivial)); (case aO => exact (qr HO_4)); (case aS => exact (below_size (qb HB))); (case aL => have := LMc28.out; omega); intro v415 w29 ho hb hg hat; rw [← Ny414.out] at ho; have n0_ := Aside0.mk (blk_grown (bq BK407) hg (Kd.R_ne HO_4.out BK407.out (by decide))); have n1_ := Aside0.mk (hb); have n2_ := Aside0.mk (ho); clear BK407; clear HB; clear HO_4; have BK407 := n0_; have HB := n1_; have HO416 := n2_; clear n0_ n1_ n2_; clear ho hb hg hat))
            go_roundg k2
            case measure => have := HK1.out; have := HK2.out; omega
            case rel => exact ⟨(y414), (wrap64 (x5_1 + 1)), (by first | rfl | (simp; done) | (simp [*]; done)), H', ⟨by have := HK1.out; have := HK2.out; omega⟩, ⟨by (with_reducible repeat (first | apply Kd.R_alloc | apply Kd.R_drewN | apply Kd.R_drew)); exact HO416.out⟩, ⟨qb HB⟩⟩
           ·rw [if_neg c28] at H; exact absurd H (by simp)
          ·replace c27 := Bool.eq_false_iff.mpr c27; subst c27
           have H1 : (spec_Hidden.l0 k2 l0 x4_1 (wrap64 (x5_1 + 1))) = some (r1, r2) := by rw [if_neg (show ¬ (false = true) by decide)] at H; exact H
           clear H; have H := H1; clear H1; have H' := Aside0.mk H; clear H; go_wp2
           go_roundg k2
           case measure => have := HK1.out; have := HK2.out; omega
           case rel => exact ⟨(x4_1), (wrap64 (x5_1 + 1)), (by first | rfl | (simp; done) | (simp [*]; done)), H', ⟨by have := HK1.out; have := HK2.out; omega⟩, ⟨by (with_reducible repeat (first | apply Kd.R_alloc | apply Kd.R_drewN | apply Kd.R_drew)); exact HO_4.out⟩, ⟨qb HB⟩⟩
      ·rw [if_neg c11] at H; exact absurd H (by simp)
     ·rw [if_neg c10] at H; have c10b0 : decide (x5_1 < (l0.length : Int)) = false := decide_eq_false c10; clear c10; simp only [Option.some.injEq, Prod.mk.injEq] at H; obtain ⟨rfl, rfl⟩ := H; go_wp2; go_ret2; exact ⟨_, by first | rfl | (simp [errW_none, errW_some] <;> rfl) | (simp [*, errW_none, errW_some] <;> rfl), by (with_reducible repeat (first | apply Kd.R_alloc | apply Kd.R_drewN | apply Kd.R_drew)); exact HO_4.out, qb HB⟩
  ·replace c6 := Bool.eq_false_iff.mpr c6; subst c6
   have H1 : (some ((([] : List Int)), 1)) = some (r1, r2) := by rw [if_neg (show ¬ (false = true) by decide)] at H; exact H
   clear H; have H := H1; clear H1; obtain ⟨y394, hy394⟩ : ∃ y_ : List Int, y_ = (([] : List Int)) := ⟨_, rfl⟩
   replace H : (some (y394, 1)) = some (r1, r2) := by first | (rw [hy394]; with_reducible exact H) | (have H2_ := (Option.bind_some _ _).symm.trans H; rw [hy394]; with_reducible exact H2_) | (have H2_ := (Option.bind_some _ _).symm.trans H; with_reducible exact H2_) | with_reducible exact H | (rw [hy394]; exact H) | exact H
   have Ny394 := Aside0.mk hy394; clear hy394; simp only [Option.some.injEq, Prod.mk.injEq] at H; obtain ⟨rfl, rfl⟩ := H; go_enter Try.func21, Try.ntmps21
   go_wp2_with (first | ((with_reducible refine gate_callee (f := 44) rfl ?_); refine goesL_ (some 15) rfl rfl Try.func44 (by kernel_rfl) rfl #[.slice A0 l0.length c0] rfl mq ?_; (with_reducible refine (spec_ClausesOK.calls k _ _ l0 false _ ?side1 ?side2 A5.out).mono ?_); (case side1 => repeat (first | exact HR0.out | (with_reducible refine Kd.C_alloc ?_ _) | (with_reducible refine Kd.C_drewN ?_ _) | (with_reducible refine Kd.C_drew ?_))); (case side2 => exact HC0.out); rintro e w30 ⟨rfl, hb⟩; refine ⟨_, rfl, ?_⟩; have n0_ := Aside0.mk (below_step (qb HB) hb); clear HB; have HB := n0_; clear n0_; (try clear hb); (try clear hb2); (try clear hk); (try clear hi)) | ((with_reducible refine gate_dst (N := 17) rfl ?_); refine Kd.R_lit (Kd.int .i64) _ 3 ?hg (N := 17) ?hd (xs := ([] : List Int)) (inner := []) (ok := fun _ => True) (okp := fun _ => True) ?hr ?hp (fun _ hk => hk) trivial (Below.refl _ _) (Nat.le_refl _) (by simp) ?_; (case hd => rfl); (case hg => rfl); (case hr => first | (go_simp; done) | (go_simp; rfl)); (case hp => exact (Reps.none _ _)); intro v395 w31 ho32 hb hg_ hnew_; clear hg_ hnew_; (first | rw [← Ny394.out] at ho32 | (simp only [Int.reduceToNat] at ho32; rw [← Ny394.out] at ho32)); have n0_ := Aside0.mk (Kd.R_lower ho32 (below_size (qb HB))); have n1_ := Aside0.mk (below_step (qb HB) hb); clear HB; have HO396 := n0_; have HB := n1_; clear n0_ n1_; clear hb ho32))
   go_ret2; exact ⟨_, by first | rfl | (simp [errW_none, errW_some] <;> rfl) | (simp [*, errW_none, errW_some] <;> rfl), by (with_reducible repeat (first | apply Kd.R_alloc | apply Kd.R_drewN | apply Kd.R_drew)); exact HO396.out, qb HB⟩

/-! ### impl_Clause_48: function 48, by hand, over whatever function value -/
def impl_Clause_48.f (p : S32 → Option Bool) (l : List S32) : Option Bool := (impl_Clause_56.f p l 0).bind fun i => some (decide (i ≥ 0))
theorem impl_Clause_48.mono (p q : S32 → Option Bool) (h : ∀ x, LeO (p x) (q x)) (l : List S32) : LeO (impl_Clause_48.f p l) (impl_Clause_48.f q l) := LeO.bind (impl_Clause_56.mono p q h l 0) (fun _ => LeO.refl _)
set_option maxHeartbeats 8000000 in
set_option maxRecDepth 100000 in
theorem impl_Clause_48.calls (p : S32 → Option Bool) (l0 : List S32) (A0 : Option Addr) (c0 : Nat) (g : Nat) (lb : Array Value) (r : Bool) (w : World) (eg : ∀ args w, (callFunc g args).run Try.prog w = .ok (.enter g args) w)
  (hp : ∀ (W_ : World) (x_ : S32) (A_1 : Option Addr) (c_1 : Nat) (b_ : Bool), Below w.heap.size w W_ → Kd.C k59 W_ A_1 x_.f1.length x_.f1 → x_.f1.length ≤ c_1 → p x_ = some b_ → Calls Try.prog g (#[.agg #[.string x_.f0, .slice A_1 x_.f1.length c_1, .int .i64 x_.f2, .int .i64 x_.f3]] ++ lb) W_ fun e w' => e = .returned (.bool b_) ∧ Below W_.heap.size W_ w')
  (hr0 : Kd.C k32 w A0 l0.length l0) (hc0 : l0.length ≤ c0) (h : impl_Clause_48.f p l0 = some r) :
  Calls Try.prog 48 #[.slice A0 l0.length c0, .func (.func g) #[] lb] w fun e w' => e = .returned (.bool r) ∧ Below w.heap.size w w' := by
 obtain ⟨i, hi, h2⟩ := Option.bind_eq_some_iff.mp h; have hr_ : decide (i ≥ 0) = r := Option.some.inj h2; have C := impl_Clause_56.calls p l0 A0 c0 g lb i w eg hp hr0 hc0 hi; have HR_ := Aside0.mk hr_; clear h hi h2 hp hr_; by_cases hpos : 0 ≤ i
 ·have hd : decide (0 ≤ i) = true := decide_eq_true hpos; go_enter Try.func48, Try.ntmps48
  go_wp2_with (go_at_call 56; refine C.mono ?_; rintro e w' ⟨rfl, hb'⟩)
  go_ret; exact ⟨by rw [← HR_.out, decide_eq_true (show i ≥ 0 by omega)]; rfl, hb'⟩
 ·have hd : decide (0 ≤ i) = false := decide_eq_false hpos; go_enter Try.func48, Try.ntmps48
  go_wp2_with (go_at_call 56; refine C.mono ?_; rintro e w' ⟨rfl, hb'⟩)
  go_ret; exact ⟨by rw [← HR_.out, decide_eq_false (show ¬ i ≥ 0 by omega)]; rfl, hb'⟩

/-! ### impl_covers: function 50, by hand -/
def impl_covers.go (b c : Nat → Int) : Nat → Nat → Bool
 | 0, _ => true
 | d + 1, i => if c (2 * i) < b (2 * i) then false else if c (2 * i + 1) > b (2 * i + 1) then false else impl_covers.go b c d (i + 1)
set_option maxHeartbeats 8000000 in
set_option maxRecDepth 100000 in
theorem impl_covers.calls (b c : Nat → Int) (r : Bool) (w : World) (h : impl_covers.go b c 6 0 = r) :
  Calls Try.prog 50 #[.agg #[.int .i64 (b 0), .int .i64 (b 1), .int .i64 (b 2), .int .i64 (b 3), .int .i64 (b 4), .int .i64 (b 5), .int .i64 (b 6), .int .i64 (b 7), .int .i64 (b 8), .int .i64 (b 9), .int .i64 (b 10), .int .i64 (b 11)], .agg #[.int .i64 (c 0), .int .i64 (c 1), .int .i64 (c 2), .int .i64 (c 3), .int .i64 (c 4), .int .i64 (c 5), .int .i64 (c 6), .int .i64 (c 7), .int .i64 (c 8), .int .i64 (c 9), .int .i64 (c 10), .int .i64 (c 11)]] w fun e w' => e = .returned (.bool r) ∧ Below w.heap.size w w' := by
 have H := Aside0.mk h; clear h; have B2 : Aside0 (Below w.heap.size w ((w.alloc (.cells #[.int .i64 (b 0), .int .i64 (b 1), .int .i64 (b 2), .int .i64 (b 3), .int .i64 (b 4), .int .i64 (b 5), .int .i64 (b 6), .int .i64 (b 7), .int .i64 (b 8), .int .i64 (b 9), .int .i64 (b 10), .int .i64 (b 11)] 71)).alloc (.cells #[.int .i64 (c 0), .int .i64 (c 1), .int .i64 (c 2), .int .i64 (c 3), .int .i64 (c 4), .int .i64 (c 5), .int .i64 (c 6), .int .i64 (c 7), .int .i64 (c 8), .int .i64 (c 9), .int .i64 (c 10), .int .i64 (c 11)] 71))) := Aside0.mk (((Below.refl _ w).alloc (Nat.le_refl _) _).alloc (by simp) _); have D1 : Aside0 (((w.alloc (.cells #[.int .i64 (b 0), .int .i64 (b 1), .int .i64 (b 2), .int .i64 (b 3), .int .i64 (b 4), .int .i64 (b 5), .int .i64 (b 6), .int .i64 (b 7), .int .i64 (b 8), .int .i64 (b 9), .int .i64 (b 10), .int .i64 (b 11)] 71)).alloc (.cells #[.int .i64 (c 0), .int .i64 (c 1), .int .i64 (c 2), .int .i64 (c 3), .int .i64 (c 4), .int .i64 (c 5), .int .i64 (c 6), .int .i64 (c 7), .int .i64 (c 8), .int .i64 (c 9), .int .i64 (c 10), .int .i64 (c 11)] 71)).heap[w.heap.size]? = some (.cells #[.int .i64 (b 0), .int .i64 (b 1), .int .i64 (b 2), .int .i64 (b 3), .int .i64 (b 4), .int .i64 (b 5), .int .i64 (b 6), .int .i64 (b 7), .int .i64 (b 8), .int .i64 (b 9), .int .i64 (b 10), .int .i64 (b 11)] 71 (0, 0))) := Aside0.mk (blk_alloc (blk_new w _) _); have D2 : Aside0 (((w.alloc (.cells #[.int .i64 (b 0), .int .i64 (b 1), .int .i64 (b 2), .int .i64 (b 3), .int .i64 (b 4), .int .i64 (b 5), .int .i64 (b 6), .int .i64 (b 7), .int .i64 (b 8), .int .i64 (b 9), .int .i64 (b 10), .int .i64 (b 11)] 71)).alloc (.cells #[.int .i64 (c 0), .int .i64 (c 1), .int .i64 (c 2), .int .i64 (c 3), .int .i64 (c 4), .int .i64 (c 5), .int .i64 (c 6), .int .i64 (c 7), .int .i64 (c 8), .int .i64 (c 9), .int .i64 (c 10), .int .i64 (c 11)] 71)).heap[w.heap.size + 1]? = some (.cells #[.int .i64 (c 0), .int .i64 (c 1), .int .i64 (c 2), .int .i64 (c 3), .int .i64 (c 4), .int .i64 (c 5), .int .i64 (c 6), .int .i64 (c 7), .int .i64 (c 8), .int .i64 (c 9), .int .i64 (c 10), .int .i64 (c 11)] 71 (0, 0))) := Aside0.mk (by simpa using blk_new (w.alloc (.cells #[.int .i64 (b 0), .int .i64 (b 1), .int .i64 (b 2), .int .i64 (b 3), .int .i64 (b 4), .int .i64 (b 5), .int .i64 (b 6), .int .i64 (b 7), .int .i64 (b 8), .int .i64 (b 9), .int .i64 (b 10), .int .i64 (b 11)] 71)) (.cells #[.int .i64 (c 0), .int .i64 (c 1), .int .i64 (c 2), .int .i64 (c 3), .int .i64 (c 4), .int .i64 (c 5), .int .i64 (c 6), .int .i64 (c 7), .int .i64 (c 8), .int .i64 (c 9), .int .i64 (c 10), .int .i64 (c 11)] 71)); go_enter Try.func50, Try.ntmps50; go_wp2; generalize (w.alloc (.cells #[.int .i64 (b 0), .int .i64 (b 1), .int .i64 (b 2), .int .i64 (b 3), .int .i64 (b 4), .int .i64 (b 5), .int .i64 (b 6), .int .i64 (b 7), .int .i64 (b 8), .int .i64 (b 9), .int .i64 (b 10), .int .i64 (b 11)] 71)).alloc (.cells #[.int .i64 (c 0), .int .i64 (c 1), .int .i64 (c 2), .int .i64 (c 3), .int .i64 (c 4), .int .i64 (c 5), .int .i64 (c 6), .int .i64 (c 7), .int .i64 (c 8), .int .i64 (c 9), .int .i64 (c 10), .int .i64 (c 11)] 71) = w2 at *
 go_loopg [5, 6] 6 (fun gg _ s6 wr => ∃ kk : Nat, kk ≤ 6 ∧ 6 - kk ≤ gg ∧ s6 = .int .i64 kk ∧ Aside0 (Below w2.heap.size w2 wr) ∧ Aside0 (impl_covers.go b c (6 - kk) kk = r))
 case atStart => exact ⟨0, by omega, by omega, rfl, ⟨Below.refl _ _⟩, ⟨H.out⟩⟩
 case round =>
  obtain ⟨kk, hkk, hg, rfl, BW, HF⟩ := hrel; by_cases hlt : kk < 6
  ·have hk6 : kk = 0 ∨ kk = 1 ∨ kk = 2 ∨ kk = 3 ∨ kk = 4 ∨ kk = 5 := by omega
   rcases hk6 with rfl | rfl | rfl | rfl | rfl | rfl
   ·have hv : (if c 0 < b 0 then false else if c 1 > b 1 then false else impl_covers.go b c 5 1) = r := HF.out; have yb0 : wr.cell? ⟨w.heap.size, 0, none⟩ = some (.int .i64 (b 0)) := (blk_cell (blk_below D1.out BW.out) 0).trans rfl; have yb1 : wr.cell? ⟨w.heap.size, 1, none⟩ = some (.int .i64 (b 1)) := (blk_cell (blk_below D1.out BW.out) 1).trans rfl; have yc0 : wr.cell? ⟨w.heap.size + 1, 0, none⟩ = some (.int .i64 (c 0)) := (blk_cell (blk_below D2.out BW.out) 0).trans rfl; have yc1 : wr.cell? ⟨w.heap.size + 1, 1, none⟩ = some (.int .i64 (c 1)) := (blk_cell (blk_below D2.out BW.out) 1).trans rfl; by_cases c0 : c 0 < b 0
    ·rw [if_pos c0] at hv; have HV := Aside0.mk hv; clear hv; have c0' : decide (c 0 < b 0) = true := decide_eq_true c0; go_wp2
     go_quiet (fail)
     go_wp2; go_ret; exact ⟨by rw [← HV.out]; rfl, pw_below_drewN (B2.out.trans (BW.out.mono B2.out.size)) _⟩
    ·rw [if_neg c0] at hv; by_cases c1 : c 1 > b 1
     ·rw [if_pos c1] at hv; have HV := Aside0.mk hv; clear hv; have c1' : decide (b 1 < c 1) = true := decide_eq_true c1; have c0' : decide (c 0 < b 0) = false := decide_eq_false c0; go_wp2
      go_quiet (fail)
      go_wp2; go_ret; exact ⟨by rw [← HV.out]; rfl, pw_below_drewN (B2.out.trans (BW.out.mono B2.out.size)) _⟩
     ·rw [if_neg c1] at hv; have HV := Aside0.mk hv; clear hv; have c1' : decide (b 1 < c 1) = false := decide_eq_false c1; have c0' : decide (c 0 < b 0) = false := decide_eq_false c0; go_wp2
      go_quiet (fail)
      go_wp2
      go_roundg 5
      case measure => omega
      case rel => exact ⟨1, by omega, by omega, by go_num, ⟨pw_below_drewN BW.out _⟩, ⟨HV.out⟩⟩
   ·have hv : (if c 2 < b 2 then false else if c 3 > b 3 then false else impl_covers.go b c 4 2) = r := HF.out; have yb0 : wr.cell? ⟨w.heap.size, 2, none⟩ = some (.int .i64 (b 2)) := (blk_cell (blk_below D1.out BW.out) 2).trans rfl; have yb1 : wr.cell? ⟨w.heap.size, 3, none⟩ = some (.int .i64 (b 3)) := (blk_cell (blk_below D1.out BW.out) 3).trans rfl; have yc0 : wr.cell? ⟨w.heap.size + 1, 2, none⟩ = some (.int .i64 (c 2)) := (blk_cell (blk_below D2.out BW.out) 2).trans rfl; have yc1 : wr.cell? ⟨w.heap.size + 1, 3, none⟩ = some (.int .i64 (c 3)) := (blk_cell (blk_below D2.out BW.out) 3).trans rfl; by_cases c0 : c 2 < b 2
    ·rw [if_pos c0] at hv; have HV := Aside0.mk hv; clear hv; have c0' : decide (c 2 < b 2) = true := decide_eq_true c0; go_wp2
     go_quiet (fail)
     go_wp2; go_ret; exact ⟨by rw [← HV.out]; rfl, pw_below_drewN (B2.out.trans (BW.out.mono B2.out.size)) _⟩
    ·rw [if_neg c0] at hv; by_cases c1 : c 3 > b 3
     ·rw [if_pos c1] at hv; have HV := Aside0.mk hv; clear hv; have c1' : decide (b 3 < c 3) = true := decide_eq_true c1; have c0' : decide (c 2 < b 2) = false := decide_eq_false c0; go_wp2
      go_quiet (fail)
      go_wp2; go_ret; exact ⟨by rw [← HV.out]; rfl, pw_below_drewN (B2.out.trans (BW.out.mono B2.out.size)) _⟩
     ·rw [if_neg c1] at hv; have HV := Aside0.mk hv; clear hv; have c1' : decide (b 3 < c 3) = false := decide_eq_false c1; have c0' : decide (c 2 < b 2) = false := decide_eq_false c0; go_wp2
      go_quiet (fail)
      go_wp2
      go_roundg 4
      case measure => omega
      case rel => exact ⟨2, by omega, by omega, by go_num, ⟨pw_below_drewN BW.out _⟩, ⟨HV.out⟩⟩
   ·have hv : (if c 4 < b 4 then false else if c 5 > b 5 then false else impl_covers.go b c 3 3) = r := HF.out; have yb0 : wr.cell? ⟨w.heap.size, 4, none⟩ = some (.int .i64 (b 4)) := (blk_cell (blk_below D1.out BW.out) 4).trans rfl; have yb1 : wr.cell? ⟨w.heap.size, 5, none⟩ = some (.int .i64 (b 5)) := (blk_cell (blk_below D1.out BW.out) 5).trans rfl; have yc0 : wr.cell? ⟨w.heap.size + 1, 4, none⟩ = some (.int .i64 (c 4)) := (blk_cell (blk_below D2.out BW.out) 4).trans rfl; have yc1 : wr.cell? ⟨w.heap.size + 1, 5, none⟩ = some (.int .i64 (c 5)) := (blk_cell (blk_below D2.out BW.out) 5).trans rfl; by_cases c0 : c 4 < b 4
    ·rw [if_pos c0] at hv; have HV := Aside0.mk hv; clear hv; have c0' : decide (c 4 < b 4) = true := decide_eq_true c0; go_wp2
     go_quiet (fail)
     go_wp2; go_ret; exact ⟨by rw [← HV.out]; rfl, pw_below_drewN (B2.out.trans (BW.out.mono B2.out.size)) _⟩
    ·rw [if_neg c0] at hv; by_cases c1 : c 5 > b 5
     ·rw [if_pos c1] at hv; have HV := Aside0.mk hv; clear hv; have c1' : decide (b 5 < c 5) = true := decide_eq_true c1; have c0' : decide (c 4 < b 4) = false := decide_eq_false c0; go_wp2
      go_quiet (fail)
      go_wp2; go_ret; exact ⟨by rw [← HV.out]; rfl, pw_below_drewN (B2.out.trans (BW.out.mono B2.out.size)) _⟩
     ·rw [if_neg c1] at hv; have HV := Aside0.mk hv; clear hv; have c1' : decide (b 5 < c 5) = false := decide_eq_false c1; have c0' : decide (c 4 < b 4) = false := decide_eq_false c0; go_wp2
      go_quiet (fail)
      go_wp2
      go_roundg 3
      case measure => omega
      case rel => exact ⟨3, by omega, by omega, by go_num, ⟨pw_below_drewN BW.out _⟩, ⟨HV.out⟩⟩
   ·have hv : (if c 6 < b 6 then false else if c 7 > b 7 then false else impl_covers.go b c 2 4) = r := HF.out; have yb0 : wr.cell? ⟨w.heap.size, 6, none⟩ = some (.int .i64 (b 6)) := (blk_cell (blk_below D1.out BW.out) 6).trans rfl; have yb1 : wr.cell? ⟨w.heap.size, 7, none⟩ = some (.int .i64 (b 7)) := (blk_cell (blk_below D1.out BW.out) 7).trans rfl; have yc0 : wr.cell? ⟨w.heap.size + 1, 6, none⟩ = some (.int .i64 (c 6)) := (blk_cell (blk_below D2.out BW.out) 6).trans rfl; have yc1 : wr.cell? ⟨w.heap.size + 1, 7, none⟩ = some (.int .i64 (c 7)) := (blk_cell (blk_below D2.out BW.out) 7).trans rfl; by_cases c0 : c 6 < b 6
    ·rw [if_pos c0] at hv; have HV := Aside0.mk hv; clear hv; have c0' : decide (c 6 < b 6) = true := decide_eq_true c0; go_wp2
     go_quiet (fail)
     go_wp2; go_ret; exact ⟨by rw [← HV.out]; rfl, pw_below_drewN (B2.out.trans (BW.out.mono B2.out.size)) _⟩
    ·rw [if_neg c0] at hv; by_cases c1 : c 7 > b 7
     ·rw [if_pos c1] at hv; have HV := Aside0.mk hv; clear hv; have c1' : decide (b 7 < c 7) = true := decide_eq_true c1; have c0' : decide (c 6 < b 6) = false := decide_eq_false c0; go_wp2
      go_quiet (fail)
      go_wp2; go_ret; exact ⟨by rw [← HV.out]; rfl, pw_below_drewN (B2.out.trans (BW.out.mono B2.out.size)) _⟩
     ·rw [if_neg c1] at hv; have HV := Aside0.mk hv; clear hv; have c1' : decide (b 7 < c 7) = false := decide_eq_false c1; have c0' : decide (c 6 < b 6) = false := decide_eq_false c0; go_wp2
      go_quiet (fail)
      go_wp2
      go_roundg 2
      case measure => omega
      case rel => exact ⟨4, by omega, by omega, by go_num, ⟨pw_below_drewN BW.out _⟩, ⟨HV.out⟩⟩
   ·have hv : (if c 8 < b 8 then false else if c 9 > b 9 then false else impl_covers.go b c 1 5) = r := HF.out; have yb0 : wr.cell? ⟨w.heap.size, 8, none⟩ = some (.int .i64 (b 8)) := (blk_cell (blk_below D1.out BW.out) 8).trans rfl; have yb1 : wr.cell? ⟨w.heap.size, 9, none⟩ = some (.int .i64 (b 9)) := (blk_cell (blk_below D1.out BW.out) 9).trans rfl; have yc0 : wr.cell? ⟨w.heap.size + 1, 8, none⟩ = some (.int .i64 (c 8)) := (blk_cell (blk_below D2.out BW.out) 8).trans rfl; have yc1 : wr.cell? ⟨w.heap.size + 1, 9, none⟩ = some (.int .i64 (c 9)) := (blk_cell (blk_below D2.out BW.out) 9).trans rfl; by_cases c0 : c 8 < b 8
    ·rw [if_pos c0] at hv; have HV := Aside0.mk hv; clear hv; have c0' : decide (c 8 < b 8) = true := decide_eq_true c0; go_wp2
     go_quiet (fail)
     go_wp2; go_ret; exact ⟨by rw [← HV.out]; rfl, pw_below_drewN (B2.out.trans (BW.out.mono B2.out.size)) _⟩
    ·rw [if_neg c0] at hv; by_cases c1 : c 9 > b 9
     ·rw [if_pos c1] at hv; have HV := Aside0.mk hv; clear hv; have c1' : decide (b 9 < c 9) = true := decide_eq_true c1; have c0' : decide (c 8 < b 8) = false := decide_eq_false c0; go_wp2
      go_quiet (fail)
      go_wp2; go_ret; exact ⟨by rw [← HV.out]; rfl, pw_below_drewN (B2.out.trans (BW.out.mono B2.out.size)) _⟩
     ·rw [if_neg c1] at hv; have HV := Aside0.mk hv; clear hv; have c1' : decide (b 9 < c 9) = false := decide_eq_false c1; have c0' : decide (c 8 < b 8) = false := decide_eq_false c0; go_wp2
      go_quiet (fail)
      go_wp2
      go_roundg 1
      case measure => omega
      case rel => exact ⟨5, by omega, by omega, by go_num, ⟨pw_below_drewN BW.out _⟩, ⟨HV.out⟩⟩
   ·have hv : (if c 10 < b 10 then false else if c 11 > b 11 then false else impl_covers.go b c 0 6) = r := HF.out; have yb0 : wr.cell? ⟨w.heap.size, 10, none⟩ = some (.int .i64 (b 10)) := (blk_cell (blk_below D1.out BW.out) 10).trans rfl; have yb1 : wr.cell? ⟨w.heap.size, 11, none⟩ = some (.int .i64 (b 11)) := (blk_cell (blk_below D1.out BW.out) 11).trans rfl; have yc0 : wr.cell? ⟨w.heap.size + 1, 10, none⟩ = some (.int .i64 (c 10)) := (blk_cell (blk_below D2.out BW.out) 10).trans rfl; have yc1 : wr.cell? ⟨w.heap.size + 1, 11, none⟩ = some (.int .i64 (c 11)) := (blk_cell (blk_below D2.out BW.out) 11).trans rfl; by_cases c0 : c 10 < b 10
    ·rw [if_pos c0] at hv; have HV := Aside0.mk hv; clear hv; have c0' : decide (c 10 < b 10) = true := decide_eq_true c0; go_wp2
     go_quiet (fail)
     go_wp2; go_ret; exact ⟨by rw [← HV.out]; rfl, pw_below_drewN (B2.out.trans (BW.out.mono B2.out.size)) _⟩
    ·rw [if_neg c0] at hv; by_cases c1 : c 11 > b 11
     ·rw [if_pos c1] at hv; have HV := Aside0.mk hv; clear hv; have c1' : decide (b 11 < c 11) = true := decide_eq_true c1; have c0' : decide (c 10 < b 10) = false := decide_eq_false c0; go_wp2
      go_quiet (fail)
      go_wp2; go_ret; exact ⟨by rw [← HV.out]; rfl, pw_below_drewN (B2.out.trans (BW.out.mono B2.out.size)) _⟩
     ·rw [if_neg c1] at hv; have HV := Aside0.mk hv; clear hv; have c1' : decide (b 11 < c 11) = false := decide_eq_false c1; have c0' : decide (c 10 < b 10) = false := decide_eq_false c0; go_wp2
      go_quiet (fail)
      go_wp2
      go_roundg 0
      case measure => omega
      case rel => exact ⟨6, by omega, by omega, by go_num, ⟨pw_below_drewN BW.out _⟩, ⟨HV.out⟩⟩
  ·have : kk = 6 := by omega
   subst this; have hv : true = r := HF.out; go_wp2; go_ret; exact ⟨by rw [← hv]; rfl, B2.out.trans (BW.out.mono B2.out.size)⟩

/-! ### impl_Hidden_1: function 49, by hand -/
def impl_Hidden_1.p (b : Nat → Int) (x : S32) : Option Bool :=
 if (x.f1.all fun t => decide (1 ≤ t.f0 ∧ t.f0 ≤ 5)) = true then some (impl_covers.go (impl_narrowed.go impl_bounds.all x.f1) b 6 0) else none
set_option maxHeartbeats 8000000 in
set_option maxRecDepth 100000 in
theorem impl_Hidden_1.calls (b : Nat → Int) (x : S32) (A1 : Option Addr) (c1 : Nat) (g : Nat) (r : Bool) (w : World) (hf : w.heap[g]? = some (.cells #[.int .i64 (b 0), .int .i64 (b 1), .int .i64 (b 2), .int .i64 (b 3), .int .i64 (b 4), .int .i64 (b 5), .int .i64 (b 6), .int .i64 (b 7), .int .i64 (b 8), .int .i64 (b 9), .int .i64 (b 10), .int .i64 (b 11)] 71 (0, 0))) (hr : Kd.C k59 w A1 x.f1.length x.f1) (hc : x.f1.length ≤ c1) (h : impl_Hidden_1.p b x = some r) :
  Calls Try.prog 49 #[.agg #[.string x.f0, .slice A1 x.f1.length c1, .int .i64 x.f2, .int .i64 x.f3], .pointer (some ⟨g, 0, none⟩)] w fun e w' => e = .returned (.bool r) ∧ Below w.heap.size w w' := by
 unfold impl_Hidden_1.p at h; by_cases ha : (x.f1.all fun t => decide (1 ≤ t.f0 ∧ t.f0 ≤ 5)) = true; rotate_left
 ·rw [if_neg ha] at h; cases h
 rw [if_pos ha] at h
 have ht : ∀ t ∈ x.f1, 1 ≤ t.f0 ∧ t.f0 ≤ 5 := fun t hm => of_decide_eq_true (List.all_eq_true.1 ha t hm)
 have h' := Option.some.inj h; have B1 : Aside0 (Below w.heap.size w (w.alloc (.cells #[.string x.f0, .slice A1 x.f1.length c1, .int .i64 x.f2, .int .i64 x.f3] 32))) := Aside0.mk ((Below.refl _ w).alloc (Nat.le_refl _) _); have D1 := Aside0.mk (blk_alloc hf (.cells #[.string x.f0, .slice A1 x.f1.length c1, .int .i64 x.f2, .int .i64 x.f3] 32)); have HR := Aside0.mk hr; have HC := Aside0.mk hc; have HT := Aside0.mk ht; have H := Aside0.mk h'; clear hr hc ht h h' ha hf; go_enter Try.func49, Try.ntmps49; go_wp2; have DX := Aside0.mk (blk_new w (.cells #[.string x.f0, .slice A1 x.f1.length c1, .int .i64 x.f2, .int .i64 x.f3] 32)); have v0 := (blk_cell DX.out 0).trans rfl; have v1 := (blk_cell DX.out 1).trans rfl; have v2 := (blk_cell DX.out 2).trans rfl; have v3 := (blk_cell DX.out 3).trans rfl; generalize w.alloc (.cells #[.string x.f0, .slice A1 x.f1.length c1, .int .i64 x.f2, .int .i64 x.f3] 32) = w2 at *; have z0 : w2.cell? ⟨g, 0, none⟩ = some (.int .i64 (b 0)) := (blk_cell D1.out 0).trans rfl; have z1 : w2.cell? ⟨g, 1, none⟩ = some (.int .i64 (b 1)) := (blk_cell D1.out 1).trans rfl; have z2 : w2.cell? ⟨g, 2, none⟩ = some (.int .i64 (b 2)) := (blk_cell D1.out 2).trans rfl; have z3 : w2.cell? ⟨g, 3, none⟩ = some (.int .i64 (b 3)) := (blk_cell D1.out 3).trans rfl; have z4 : w2.cell? ⟨g, 4, none⟩ = some (.int .i64 (b 4)) := (blk_cell D1.out 4).trans rfl; have z5 : w2.cell? ⟨g, 5, none⟩ = some (.int .i64 (b 5)) := (blk_cell D1.out 5).trans rfl; have z6 : w2.cell? ⟨g, 6, none⟩ = some (.int .i64 (b 6)) := (blk_cell D1.out 6).trans rfl; have z7 : w2.cell? ⟨g, 7, none⟩ = some (.int .i64 (b 7)) := (blk_cell D1.out 7).trans rfl; have z8 : w2.cell? ⟨g, 8, none⟩ = some (.int .i64 (b 8)) := (blk_cell D1.out 8).trans rfl; have z9 : w2.cell? ⟨g, 9, none⟩ = some (.int .i64 (b 9)) := (blk_cell D1.out 9).trans rfl; have z10 : w2.cell? ⟨g, 10, none⟩ = some (.int .i64 (b 10)) := (blk_cell D1.out 10).trans rfl; have z11 : w2.cell? ⟨g, 11, none⟩ = some (.int .i64 (b 11)) := (blk_cell D1.out 11).trans rfl
 go_region_with (first
  | (go_at_call 37; refine (impl_bounds.calls x.f0 A1 c1 x.f1 x.f2 x.f3 _ (Kd.C_below HR.out (B1.out.trans ((below_drew1 (Below.refl w2.heap.size w2)).mono B1.out.size))) HC.out HT.out).mono ?_; rintro e w3 ⟨rfl, hb1⟩; have hb3 := (below_drew1 (Below.refl w2.heap.size w2)).trans hb1; clear hb1; have D3 := blk_below D1.out hb3; have y0 : w3.cell? ⟨g, 0, none⟩ = some (.int .i64 (b 0)) := (blk_cell D3 0).trans rfl; have y1 : w3.cell? ⟨g, 1, none⟩ = some (.int .i64 (b 1)) := (blk_cell D3 1).trans rfl; have y2 : w3.cell? ⟨g, 2, none⟩ = some (.int .i64 (b 2)) := (blk_cell D3 2).trans rfl; have y3 : w3.cell? ⟨g, 3, none⟩ = some (.int .i64 (b 3)) := (blk_cell D3 3).trans rfl; have y4 : w3.cell? ⟨g, 4, none⟩ = some (.int .i64 (b 4)) := (blk_cell D3 4).trans rfl; have y5 : w3.cell? ⟨g, 5, none⟩ = some (.int .i64 (b 5)) := (blk_cell D3 5).trans rfl; have y6 : w3.cell? ⟨g, 6, none⟩ = some (.int .i64 (b 6)) := (blk_cell D3 6).trans rfl; have y7 : w3.cell? ⟨g, 7, none⟩ = some (.int .i64 (b 7)) := (blk_cell D3 7).trans rfl; have y8 : w3.cell? ⟨g, 8, none⟩ = some (.int .i64 (b 8)) := (blk_cell D3 8).trans rfl; have y9 : w3.cell? ⟨g, 9, none⟩ = some (.int .i64 (b 9)) := (blk_cell D3 9).trans rfl; have y10 : w3.cell? ⟨g, 10, none⟩ = some (.int .i64 (b 10)) := (blk_cell D3 10).trans rfl; have y11 : w3.cell? ⟨g, 11, none⟩ = some (.int .i64 (b 11)) := (blk_cell D3 11).trans rfl)
  | (go_at_call 50; refine (impl_covers.calls (impl_narrowed.go impl_bounds.all x.f1) b r _ H.out).mono ?_; rintro e w4 ⟨rfl, hb4⟩; have hb5 := hb3.trans (hb4.mono hb3.size)))
 all_goals go_wp2
 all_goals go_ret
 all_goals exact ⟨rfl, B1.out.trans (hb5.mono B1.out.size)⟩

/-! ### impl_Hidden: function 23, by hand -/
def impl_Hidden.go (l0 : List S32) : List S32 → Nat → List Int → Option (List Int × Int)
 | [], _, out => some (out, 0)
 | x :: xs, i, out =>
  if (x.f1.all fun t => decide (1 ≤ t.f0 ∧ t.f0 ≤ 5)) = true then
   ((if impl_isEmpty.f (impl_narrowed.go impl_bounds.all x.f1) = true then some true else impl_Clause_48.f (impl_Hidden_1.p (impl_narrowed.go impl_bounds.all x.f1)) (l0.take i)).bind fun t =>
    if t = true then (if out.length < 17592186044416 then impl_Hidden.go l0 xs (i + 1) (out ++ [(i : Int)]) else none) else impl_Hidden.go l0 xs (i + 1) out)
  else none
theorem impl_Hidden.go_cons (l0 : List S32) (x : S32) (xs : List S32) (i : Nat) (out : List Int) : impl_Hidden.go l0 (x :: xs) i out =
  if (x.f1.all fun t => decide (1 ≤ t.f0 ∧ t.f0 ≤ 5)) = true then
   ((if impl_isEmpty.f (impl_narrowed.go impl_bounds.all x.f1) = true then some true else impl_Clause_48.f (impl_Hidden_1.p (impl_narrowed.go impl_bounds.all x.f1)) (l0.take i)).bind fun t =>
    if t = true then (if out.length < 17592186044416 then impl_Hidden.go l0 xs (i + 1) (out ++ [(i : Int)]) else none) else impl_Hidden.go l0 xs (i + 1) out)
  else none := rfl
def impl_Hidden.f (k : Nat) (l0 : List S32) : Option (List Int × Int) :=
 (impl_Clause_46.f l0).bind fun t => if t = true then ((impl_ClausesOK.f k l0).bind fun t => if t = true then impl_Hidden.go l0 l0 0 [] else some ([], 1)) else some ([], 2)
theorem impl_Hidden.mono : ∀ l0 k, LeO (impl_Hidden.f k l0) (impl_Hidden.f (k + 1) l0) := fun l0 k =>
 LeO.bind (LeO.refl _) (fun _ => LeO.ite (LeO.bind (impl_ClausesOK.mono l0 k) (fun _ => LeO.refl _)) (LeO.refl _))
set_option maxHeartbeats 8000000 in
set_option maxRecDepth 100000 in
theorem impl_Hidden.calls (k : Nat) (A0 : Option Addr) (c0 : Nat) (l0 : List S32) (r1 : List Int) (r2 : Int) (w : World) (hr0 : Kd.C k32 w A0 l0.length l0) (hc0 : l0.length ≤ c0) (h : impl_Hidden.f k l0 = some (r1, r2)) :
  Calls Try.prog 23 #[.slice A0 l0.length c0] w fun e w' => ∃ v0_ : Value, e = .returned (.tuple #[v0_, .int .i64 r2]) ∧ Kd.R (Kd.int .i64) 3 w' w.heap.size (fun _ => True) v0_ r1 ∧ Below w.heap.size w w' := by
 have hbig : l0.length ≤ 9223372036854775807 := hr0.2.1; have HR := Aside0.mk hr0; have HC := Aside0.mk hc0; obtain ⟨t1, h1, h⟩ := Option.bind_eq_some_iff.mp h; have H1 := Aside0.mk h1; have HH := Aside0.mk h; clear hr0 hc0 h1 h; go_enter Try.func23, Try.ntmps23
 go_wp2_with fail
 refine (impl_Clause_46.calls A0 c0 l0 t1 _ HR.out HC.out H1.out).mono ?_; rintro e w2 ⟨rfl, hd⟩; have B2 : Aside0 (Below w.heap.size w w2) := Aside0.mk (impl_isTermNum.drawn hd); clear hd
 cases t1
 ·obtain ⟨rfl, rfl⟩ := Prod.mk.inj (Option.some.inj (show some (([] : List Int), (2 : Int)) = some (r1, r2) from HH.out)); go_wp2; go_ret2; exact ⟨.slice none 0 0, rfl, Kd.R_nil _ _ _ _ _, B2.out⟩
 obtain ⟨t2, h2, h⟩ := Option.bind_eq_some_iff.mp (show (impl_ClausesOK.f k l0).bind _ = some (r1, r2) from HH.out); have H2 := Aside0.mk h2; replace HH := Aside0.mk h; clear h2 h H1
 go_wp2_with fail
 refine (impl_ClausesOK.calls k A0 c0 l0 t2 _ (Kd.C_below HR.out B2.out) HC.out H2.out).mono ?_; rintro e w3 ⟨rfl, hb3⟩; have B3 := Aside0.mk (B2.out.trans (hb3.mono B2.out.size)); clear hb3
 cases t2
 ·obtain ⟨rfl, rfl⟩ := Prod.mk.inj (Option.some.inj (show some (([] : List Int), (1 : Int)) = some (r1, r2) from HH.out)); go_wp2; go_ret2; exact ⟨.slice none 0 0, rfl, Kd.R_nil _ _ _ _ _, B3.out⟩
 have H := Aside0.mk (show impl_Hidden.go l0 l0 0 [] = some (r1, r2) from HH.out); clear HH H2; go_wp2; have R0 := Aside0.mk (row_empty2 (Kd.int .i64) w3 3 w.heap.size B3.out.size); have B0 := Aside0.mk (B3.out.alloc B3.out.size (.cells #[] 3)); generalize w3.alloc (.cells #[] 3) = w4 at *
 go_loopg [4, 19] l0.length (fun gg s4 s19 wr => ∃ (kk : Nat) (out : List Int), kk ≤ l0.length ∧ l0.length - kk ≤ gg ∧ s19 = .int .i64 kk ∧ Aside0 (Below w.heap.size w wr) ∧ Aside0 (Kd.R (Kd.int .i64) 3 wr w.heap.size (fun _ => True) s4 out) ∧ Aside0 (impl_Hidden.go l0 (l0.drop kk) kk out = some (r1, r2)))
 case atStart => exact ⟨0, [], Nat.zero_le _, by omega, rfl, B0, R0, ⟨H.out⟩⟩
 case round =>
  obtain ⟨kk, out, hkk, hg, rfl, BW, HO, HF⟩ := hrel; by_cases hlt : kk < l0.length
  ·have hltz : (kk : Int) < (l0.length : Int) := by omega
   have hf := HF.out
   have hcons : l0.drop kk = rd_T32 l0 (kk : Int) :: l0.drop (kk + 1) := by
    rw [List.drop_eq_getElem_cons hlt]
    congr 1
    unfold rd_T32; rw [Int.toNat_natCast, List.getD_eq_getElem?_getD, List.getElem?_eq_getElem hlt]; rfl
   obtain ⟨ad, A_1, c_1, rfl, hx0, hx1, hx2, hx3, hl1, hi1⟩ := at_T32 (Kd.C_below HR.out BW.out) (kk : Int) (by omega) hltz; rw [hcons, impl_Hidden.go_cons] at hf; clear hcons; simp only [Int.toNat_natCast] at hx0 hx1 hx2 hx3; generalize hxx : rd_T32 l0 (kk : Int) = x_ at *; clear hxx; by_cases ha : (x_.f1.all fun t => decide (1 ≤ t.f0 ∧ t.f0 ≤ 5)) = true; rotate_left
   ·rw [if_neg ha] at hf; cases hf
   rw [if_pos ha] at hf; have HT := Aside0.mk (fun t hm => of_decide_eq_true (List.all_eq_true.1 ha t hm) : ∀ t ∈ x_.f1, 1 ≤ t.f0 ∧ t.f0 ≤ 5); replace HF := Aside0.mk hf; obtain ⟨A5, c5, rfl, hl5, hr5⟩ := Kd.R_reads HO.out; have HI1 := Aside0.mk hi1; have HL1 := Aside0.mk hl1; have HTK : Aside0 (Kd.C k32 wr (some ad) (l0.take kk).length (l0.take kk)) := Aside0.mk (Kd.C_take (Kd.C_below HR.out BW.out) (by omega))
   have hlen : (l0.take kk).length = kk := by rw [List.length_take]; omega
   have HLEN := Aside0.mk hlen
   have hkc : kk ≤ c0 := by have := HC.out; omega
   have hkn : (kk : Int) ≤ (c0 : Int) := by omega
   clear hf ha hl5 hr5 hi1 hl1 hlen; have BA : Aside0 (Below wr.heap.size wr (wr.alloc (.cells #[.string x_.f0, .slice A_1 x_.f1.length c_1, .int .i64 x_.f2, .int .i64 x_.f3] 32))) := Aside0.mk ((Below.refl _ wr).alloc (Nat.le_refl _) _); have DX := Aside0.mk (blk_new wr (.cells #[.string x_.f0, .slice A_1 x_.f1.length c_1, .int .i64 x_.f2, .int .i64 x_.f3] 32)); have v0 := (blk_cell DX.out 0).trans rfl; have v1 := (blk_cell DX.out 1).trans rfl; have v2 := (blk_cell DX.out 2).trans rfl; have v3 := (blk_cell DX.out 3).trans rfl
   go_wp2_with fail
   clear v0 v1 v2 v3 hx0 hx1 hx2 hx3; refine (impl_bounds.calls x_.f0 A_1 c_1 x_.f1 x_.f2 x_.f3 _ (Kd.C_below HI1.out BA.out) HL1.out HT.out).mono ?_; rintro e w6 ⟨rfl, hb6⟩; generalize wr.alloc (.cells #[.string x_.f0, .slice A_1 x_.f1.length c_1, .int .i64 x_.f2, .int .i64 x_.f3] 32) = wa at *; have B6 : Aside0 (Below wr.heap.size wr w6) := Aside0.mk (below_trans BA.out hb6); clear hb6 BA DX HI1 HL1 HT; have hf := HF.out; clear HF; generalize (impl_narrowed.go impl_bounds.all x_.f1) = b at *; have HF := Aside0.mk hf; clear hf; have D7 := Aside0.mk (blk_new w6 (.cells #[.int .i64 (b 0), .int .i64 (b 1), .int .i64 (b 2), .int .i64 (b 3), .int .i64 (b 4), .int .i64 (b 5), .int .i64 (b 6), .int .i64 (b 7), .int .i64 (b 8), .int .i64 (b 9), .int .i64 (b 10), .int .i64 (b 11)] 71)); have B7 : Aside0 (Below wr.heap.size wr (w6.alloc (.cells #[.int .i64 (b 0), .int .i64 (b 1), .int .i64 (b 2), .int .i64 (b 3), .int .i64 (b 4), .int .i64 (b 5), .int .i64 (b 6), .int .i64 (b 7), .int .i64 (b 8), .int .i64 (b 9), .int .i64 (b 10), .int .i64 (b 11)] 71))) := Aside0.mk (B6.out.alloc B6.out.size _); have t0 := (blk_cell D7.out 0).trans rfl; have t1 := (blk_cell D7.out 1).trans rfl; have t2 := (blk_cell D7.out 2).trans rfl; have t3 := (blk_cell D7.out 3).trans rfl; have t4 := (blk_cell D7.out 4).trans rfl; have t5 := (blk_cell D7.out 5).trans rfl; have t6 := (blk_cell D7.out 6).trans rfl; have t7 := (blk_cell D7.out 7).trans rfl; have t8 := (blk_cell D7.out 8).trans rfl; have t9 := (blk_cell D7.out 9).trans rfl; have t10 := (blk_cell D7.out 10).trans rfl; have t11 := (blk_cell D7.out 11).trans rfl
   go_wp2_with fail
   clear t0 t1 t2 t3 t4 t5 t6 t7 t8 t9 t10 t11; refine (impl_isEmpty.calls b _).mono ?_; rintro e w8 ⟨rfl, hb8⟩; generalize w6.alloc (.cells #[.int .i64 (b 0), .int .i64 (b 1), .int .i64 (b 2), .int .i64 (b 3), .int .i64 (b 4), .int .i64 (b 5), .int .i64 (b 6), .int .i64 (b 7), .int .i64 (b 8), .int .i64 (b 9), .int .i64 (b 10), .int .i64 (b 11)] 71) = w7 at *; generalize w6.heap.size = g7 at *; have B8h : Aside0 (Below wr.heap.size wr w8) := Aside0.mk (below_trans B7.out hb8); have B8 : Aside0 (Below w.heap.size w w8) := Aside0.mk (BW.out.trans (B8h.out.mono BW.out.size)); have D8 := Aside0.mk (blk_below D7.out hb8); clear hb8 D7 B7
   cases hE : impl_isEmpty.f b
   ·have hf := HF.out; rw [hE, if_neg (by decide)] at hf; obtain ⟨t, ht, h7⟩ := Option.bind_eq_some_iff.mp hf; have C := impl_Clause_48.calls (impl_Hidden_1.p b) (l0.take kk) (some ad) c0 49 #[.pointer (some ⟨g7, 0, none⟩)] t w8 (fun args w => enters_of Try.func49 (by kernel_rfl) rfl args w)
     (fun W y A_1 c_1 b_ hW hr hc hy => impl_Hidden_1.calls b y A_1 c_1 g7 b_ W (blk_below D8.out hW) hr hc hy) (Kd.C_below HTK.out B8h.out) (by rw [HLEN.out]; exact hkc) ht
    rw [HLEN.out] at C; have HCC := Aside0.mk C; have H7 := Aside0.mk h7; clear hf ht h7 C
    go_wp2_with fail
    refine HCC.out.mono ?_; rintro e w9 ⟨rfl, hb9⟩; have B9h : Aside0 (Below wr.heap.size wr w9) := Aside0.mk (below_trans B8h.out hb9); have B9 : Aside0 (Below w.heap.size w w9) := Aside0.mk (BW.out.trans (B9h.out.mono BW.out.size)); clear hb9; have h7 := H7.out
    cases t
    ·replace h7 : impl_Hidden.go l0 (l0.drop (kk + 1)) (kk + 1) out = some (r1, r2) := h7; have H8 := Aside0.mk h7; have HO4 := Aside0.mk (Kd.R_below HO.out B9h.out); clear h7; go_wp2
     go_roundg (l0.length - (kk + 1))
     case measure => omega
     case rel => exact ⟨kk + 1, out, by omega, by omega, by go_num, B9, HO4, ⟨H8.out⟩⟩
    ·rw [if_pos rfl] at h7; by_cases hlim : out.length < 17592186044416
     ·rw [if_pos hlim] at h7; have H8 := Aside0.mk h7; have HLIM := Aside0.mk hlim; have HO4 := Aside0.mk (Kd.R_below HO.out B9h.out); clear hlim h7
      go_wp2_with (at_builtin; refine Kd.R_append (Kd.int .i64) (w0 := w) w.heap.size rfl (.tmp 35) (.tmp 37) 37 3 (.int .i64 0) 8 rfl Try.underlying37 (by kernel_rfl : (Try.prog.info? 3).map (fun i => (i.zero, i.size, i.bytes)) = some (some (.int .i64 0), 1, 8)) rfl (by decide) (by omega) (.slice A5 out.length c5) out (kk : Int) [.int .i64 (kk : Int)] (fun _ => True) (fun _ => False) rfl rfl ?aP (fun _ hk => hk.elim) ?aF ?aO ?aB ?aS ?aL ?_; (case aP => exact rfl); (case aB => exact B9.out); (case aF => exact (fun _ _ => trivial)); (case aO => exact HO4.out); (case aS => exact B9.out.size); (case aL => have := HLIM.out; omega); intro v5 w5 ho hb_ hg_ hat_; have HO5 := Aside0.mk ho; have HB5 := Aside0.mk hb_; clear ho hb_ hg_ hat_)
      go_roundg (l0.length - (kk + 1))
      case measure => omega
      case rel => exact ⟨kk + 1, out ++ [(kk : Int)], by omega, by omega, by go_num, HB5, HO5, ⟨H8.out⟩⟩
     ·rw [if_neg hlim] at h7; cases h7
   ·have h7 := HF.out; rw [hE, if_pos rfl, Option.bind_some, if_pos rfl] at h7; by_cases hlim : out.length < 17592186044416
    ·rw [if_pos hlim] at h7; have H8 := Aside0.mk h7; have HLIM := Aside0.mk hlim; have HO4 := Aside0.mk (Kd.R_below HO.out B8h.out); clear hlim h7
     go_wp2_with (at_builtin; refine Kd.R_append (Kd.int .i64) (w0 := w) w.heap.size rfl (.tmp 35) (.tmp 37) 37 3 (.int .i64 0) 8 rfl Try.underlying37 (by kernel_rfl : (Try.prog.info? 3).map (fun i => (i.zero, i.size, i.bytes)) = some (some (.int .i64 0), 1, 8)) rfl (by decide) (by omega) (.slice A5 out.length c5) out (kk : Int) [.int .i64 (kk : Int)] (fun _ => True) (fun _ => False) rfl rfl ?aP (fun _ hk => hk.elim) ?aF ?aO ?aB ?aS ?aL ?_; (case aP => exact rfl); (case aB => exact B8.out); (case aF => exact (fun _ _ => trivial)); (case aO => exact HO4.out); (case aS => exact B8.out.size); (case aL => have := HLIM.out; omega); intro v5 w5 ho hb_ hg_ hat_; have HO5 := Aside0.mk ho; have HB5 := Aside0.mk hb_; clear ho hb_ hg_ hat_)
     go_roundg (l0.length - (kk + 1))
     case measure => omega
     case rel => exact ⟨kk + 1, out ++ [(kk : Int)], by omega, by omega, by go_num, HB5, HO5, ⟨H8.out⟩⟩
    ·rw [if_neg hlim] at h7; cases h7
  ·have : kk = l0.length := by omega
   subst this
   have hltz : ¬ (l0.length : Int) < (l0.length : Int) := by omega
   have hf := HF.out; rw [List.drop_length] at hf; obtain ⟨rfl, rfl⟩ := Prod.mk.inj (Option.some.inj (show some (out, (0 : Int)) = some (r1, r2) from hf)); clear hf; go_wp2; go_ret2; exact ⟨_, rfl, HO.out, BW.out⟩

end Go.Proofs.Ytaablbglkfpbpaa.PAll
