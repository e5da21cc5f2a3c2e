-- Written by wip/tools/hp.py over the kit's print (not by hand): functions and walks of All.
import Derived.Test.YtaablbglkfpbpaaPAllx0
import Derived.Test.YtaablbglkfpbpaaPAllx2
import Derived.Test.YtaablbglkfpbpaaPAllx3
import Derived.Test.YtaablbglkfpbpaaPAllx4
import Derived.Test.YtaablbglkfpbpaaPAllx5
namespace Go.Proofs.Ytaablbglkfpbpaa.PAll
open Go.RowKit Go.Proofs.YtaablbglkfpbpaaW.PrintWords Go.Proofs.YtaablbglkfpbpaaW.PrintLast Go.Proofs.YtaablbglkfpbpaaW.PrintMore
attribute [local go_sem] max2_int min2_int max_two min_two max_three min_three max_four min_four   -- for this text's walks alone
set_option linter.unusedVariables false
set_option linter.unusedSimpArgs false

/-! ### spec_Clash: function 9 -/
mutual
def spec_Clash.j0 : Nat → Bool → ByteArray → List (S59) → Int → Int → ByteArray → List (S59) → Int → Int → Option (Int × Int × Int × Int × Int × Bool × Int)
 | 0, _, _, _, _, _, _, _, _, _ => none
 | k + 1, x16, x144000, x144001, x144002, x144003, x145000, x145001, x145002, x145003 => if x16 = true then (some (0, 0, 0, 0, 0, false, 1)) else ((some (([] : List (S59)) : List (S59))).bind fun y148 => (if y148.length + x144001.length < 5864062014805 then ((some (y148 ++ x144001 : List (S59))).bind fun y151 => (if y151.length + x145001.length < 5864062014805 then ((spec_l06Least.f k (y151 ++ x145001)).bind fun bt157 => (if bt157.2.2.2.2.2 = true then (if x144002 = x145002 then (spec_Clash.j1 k (x144003 == x145003) bt157.1 bt157.2.1 bt157.2.2.1 bt157.2.2.2.1 bt157.2.2.2.2.1) else (spec_Clash.j1 k false bt157.1 bt157.2.1 bt157.2.2.1 bt157.2.2.2.1 bt157.2.2.2.2.1)) else (spec_Clash.j1 k true bt157.1 bt157.2.1 bt157.2.2.1 bt157.2.2.2.1 bt157.2.2.2.2.1))) else (none))) else (none)))
def spec_Clash.j1 : Nat → Bool → Int → Int → Int → Int → Int → Option (Int × Int × Int × Int × Int × Bool × Int)
 | 0, _, _, _, _, _, _ => none
 | k + 1, x44, x164000, x164001, x164002, x164003, x164004 => if x44 = true then (some (0, 0, 0, 0, 0, false, 0)) else (some (x164000, x164001, x164002, x164003, x164004, true, 0))
end
def spec_Clash.f (k : Nat) (a0_0 : ByteArray) (l0_1 : List (S59)) (a0_2 : Int) (a0_3 : Int) (a1_0 : ByteArray) (l1_1 : List (S59)) (a1_2 : Int) (a1_3 : Int) : Option (Int × Int × Int × Int × Int × Bool × Int) := (spec_l06Clause.f k a0_0 l0_1 a0_2 a0_3).bind fun t146 => (if t146 = true then ((spec_l06Clause.f k a1_0 l1_1 a1_2 a1_3).bind fun t147 => (spec_Clash.j0 k (!t147) a0_0 l0_1 a0_2 a0_3 a1_0 l1_1 a1_2 a1_3)) else (spec_Clash.j0 k true a0_0 l0_1 a0_2 a0_3 a1_0 l1_1 a1_2 a1_3))
theorem spec_Clash.mono_l : ∀ k, (∀ y0 y1 y2 y3 y4 y5 y6 y7 y8, LeO (spec_Clash.j0 k y0 y1 y2 y3 y4 y5 y6 y7 y8) (spec_Clash.j0 (k + 1) y0 y1 y2 y3 y4 y5 y6 y7 y8)) ∧ (∀ y0 y1 y2 y3 y4 y5, LeO (spec_Clash.j1 k y0 y1 y2 y3 y4 y5) (spec_Clash.j1 (k + 1) y0 y1 y2 y3 y4 y5))
 | 0 => ⟨fun _ _ _ _ _ _ _ _ _ r h => by simp [spec_Clash.j0] at h, fun _ _ _ _ _ _ r h => by simp [spec_Clash.j1] at h⟩
 | k + 1 => by
  obtain ⟨ih0, ih1⟩ := spec_Clash.mono_l k
  refine ⟨?_, ?_⟩
  ·intro y0 y1 y2 y3 y4 y5 y6 y7 y8
   unfold spec_Clash.j0
   repeat' first
   | (with_reducible exact ih0 _ _ _ _ _ _ _ _ _)
   | (with_reducible exact ih1 _ _ _ _ _ _)
   | (with_reducible exact spec_l06Clause.mono _ _ _ _ _)
   | (with_reducible exact spec_l06Least.mono _ _)
   | (with_reducible exact LeO.refl _)
   | (with_reducible exact LeO.none _)
   | (with_reducible refine LeO.ite ?_ ?_)
   | (with_reducible refine LeO.bind ?_ (fun _ => ?_))
   | exact ih0 _ _ _ _ _ _ _ _ _
   | exact ih1 _ _ _ _ _ _
   | exact spec_l06Clause.mono _ _ _ _ _
   | exact spec_l06Least.mono _ _
   | exact LeO.none _
   | refine LeO.ite ?_ ?_
   | refine LeO.bind ?_ (fun _ => ?_)
  ·intro y0 y1 y2 y3 y4 y5
   unfold spec_Clash.j1
   repeat' first
   | (with_reducible exact ih0 _ _ _ _ _ _ _ _ _)
   | (with_reducible exact ih1 _ _ _ _ _ _)
   | (with_reducible exact spec_l06Clause.mono _ _ _ _ _)
   | (with_reducible exact spec_l06Least.mono _ _)
   | (with_reducible exact LeO.refl _)
   | (with_reducible exact LeO.none _)
   | (with_reducible refine LeO.ite ?_ ?_)
   | (with_reducible refine LeO.bind ?_ (fun _ => ?_))
   | exact ih0 _ _ _ _ _ _ _ _ _
   | exact ih1 _ _ _ _ _ _
   | exact spec_l06Clause.mono _ _ _ _ _
   | exact spec_l06Least.mono _ _
   | exact LeO.none _
   | refine LeO.ite ?_ ?_
   | refine LeO.bind ?_ (fun _ => ?_)
theorem spec_Clash.mono : ∀ a0 a1 a2 a3 a4 a5 a6 a7 k, LeO (spec_Clash.f k a0 a1 a2 a3 a4 a5 a6 a7) (spec_Clash.f (k + 1) a0 a1 a2 a3 a4 a5 a6 a7) := by
 intro a0 a1 a2 a3 a4 a5 a6 a7 k
 obtain ⟨ih0, ih1⟩ := spec_Clash.mono_l k
 unfold spec_Clash.f
 repeat' first
   | (with_reducible exact ih0 _ _ _ _ _ _ _ _ _)
   | (with_reducible exact ih1 _ _ _ _ _ _)
   | (with_reducible exact spec_l06Clause.mono _ _ _ _ _)
   | (with_reducible exact spec_l06Least.mono _ _)
   | (with_reducible exact LeO.refl _)
   | (with_reducible exact LeO.none _)
   | (with_reducible refine LeO.ite ?_ ?_)
   | (with_reducible refine LeO.bind ?_ (fun _ => ?_))
   | exact ih0 _ _ _ _ _ _ _ _ _
   | exact ih1 _ _ _ _ _ _
   | exact spec_l06Clause.mono _ _ _ _ _
   | exact spec_l06Least.mono _ _
   | exact LeO.none _
   | refine LeO.ite ?_ ?_
   | refine LeO.bind ?_ (fun _ => ?_)
def spec_Clash.T3 : Bool × List (List Nat × List Nat) := (true, [([], []), ([], []), ([1], [1]), ([0, 2], [0, 2]), ([], []), ([4], [4]), ([3, 5, 3], [3, 5]), ([6, 6], [6]), ([7], [7]), ([8], [8]), ([8], [8]), ([], []), ([11, 9, 7, 0, 1, 2, 3, 4, 5, 6, 7, 8, 9, 11], [9, 11]), ([10, 12, 0, 1, 2, 3, 4, 5, 6, 7, 8, 9, 10, 11, 12], [10])])
def spec_Clash.B3 : List Nat := [0, 0, 2, 7, 0, 16, 63, 127, 255, 511, 511, 0, 3071, 8191]
theorem spec_Clash.tab3 : rtab .any (opsOf Try.f9 3) = spec_Clash.T3 := by kernel_rfl
theorem spec_Clash.bits3 : waitsOk spec_Clash.T3.2 spec_Clash.B3 = true := by kernel_rfl
set_option maxHeartbeats 8000000 in
set_option maxRecDepth 100000 in
theorem spec_Clash.calls (k : Nat) (a0_0 : ByteArray) (A0_1 : Option Addr) (c0_1 : Nat) (l0_1 : List (S59)) (a0_2 : Int) (a0_3 : Int) (a1_0 : ByteArray) (A1_1 : Option Addr) (c1_1 : Nat) (l1_1 : List (S59)) (a1_2 : Int) (a1_3 : Int) (r1 : Int) (r2 : Int) (r3 : Int) (r4 : Int) (r5 : Int) (r6 : Bool) (r7 : Int) (w : World) (hr0_1 : Kd.C k59 w A0_1 l0_1.length l0_1) (hc0_1 : l0_1.length ≤ c0_1) (hr1_1 : Kd.C k59 w A1_1 l1_1.length l1_1) (hc1_1 : l1_1.length ≤ c1_1) (h : spec_Clash.f k a0_0 l0_1 a0_2 a0_3 a1_0 l1_1 a1_2 a1_3 = some (r1, r2, r3, r4, r5, r6, r7)) :
  Calls Try.prog 9 #[.agg #[.string a0_0, .slice A0_1 l0_1.length c0_1, .int .i64 a0_2, .int .i64 a0_3], .agg #[.string a1_0, .slice A1_1 l1_1.length c1_1, .int .i64 a1_2, .int .i64 a1_3]] w fun e w' => e = .returned (.tuple #[.agg #[.int .i64 r1, .int .i64 r2, .int .i64 r3, .int .i64 r4, .int .i64 r5], .bool r6, .int .i64 r7]) ∧ Below w.heap.size w w' := by
 have hu32 := Try.underlying32
 have hu27 := Try.underlying27
 have HR0_1 := Aside0.mk hr0_1
 have HC0_1 := Aside0.mk hc0_1
 clear hr0_1 hc0_1
 have HR1_1 := Aside0.mk hr1_1
 have HC1_1 := Aside0.mk hc1_1
 clear hr1_1 hc1_1
 have HB := Aside0.mk (Below.refl w.heap.size w)
 have H : ((spec_l06Clause.f k a0_0 l0_1 a0_2 a0_3).bind fun t146 => (if t146 = true then ((spec_l06Clause.f k a1_0 l1_1 a1_2 a1_3).bind fun t147 => (spec_Clash.j0 k (!t147) a0_0 l0_1 a0_2 a0_3 a1_0 l1_1 a1_2 a1_3)) else (spec_Clash.j0 k true a0_0 l0_1 a0_2 a0_3 a1_0 l1_1 a1_2 a1_3))) = some (r1, r2, r3, r4, r5, r6, r7) := h
 clear h
 have HC3 := Aside0.mk H
 clear H
 go_enter Try.func9, Try.ntmps9
 go_upto_region 1 with (first | ((with_reducible refine gate_dst (N := 2) rfl ?_); refine box_event ?hg (N := 2) ?hd (cs := #[.string a0_0, .slice A0_1 l0_1.length c0_1, .int .i64 a0_2, .int .i64 a0_3]) (t := 32) ?hr ?_; (case hd => rfl); (case hg => rfl); (case hr => first | (go_simp; done) | (go_simp; rfl)); intro gb143 hg w4 hbox hb; have n0_ := Aside0.mk (below_step (by repeat (first | (with_reducible first | exact HB.out | apply below_alloc | apply pw_below_drewN | apply below_drew1) | exact HB.out)) hb); have n1_ := Aside0.mk (hbox); have n2_ := Aside0.mk ((by rw [hg]; exact (below_size (by repeat (first | (with_reducible first | exact HB.out | apply below_alloc | apply pw_below_drewN | apply below_drew1) | exact HB.out))) : w.heap.size ≤ gb143)); have n3_ := Aside0.mk ((by rw [hg]; exact (below_size (by repeat (first | (with_reducible first | exact HB.out | apply below_alloc | apply pw_below_drewN | apply below_drew1) | exact HB.out))) : w.heap.size ≤ gb143)); clear HB; have HB := n0_; have BK143 := n1_; have GW143 := n2_; have GE143 := n3_; clear n0_ n1_ n2_ n3_; clear hb hbox hg) | ((with_reducible refine gate_dst (N := 3) rfl ?_); refine box_event ?hg (N := 3) ?hd (cs := #[.string a1_0, .slice A1_1 l1_1.length c1_1, .int .i64 a1_2, .int .i64 a1_3]) (t := 32) ?hr ?_; (case hd => rfl); (case hg => rfl); (case hr => first | (go_simp; done) | (go_simp; rfl)); intro gb144 hg w5 hbox hb; have n0_ := Aside0.mk (blk_below (g := gb143) (o := .cells #[.string a0_0, .slice A0_1 l0_1.length c0_1, .int .i64 a0_2, .int .i64 a0_3] 32 (0, 0)) (by (with_reducible repeat (first | refine blk_drewN ?_ _ | refine blk_drew ?_ | refine blk_alloc ?_ _)); exact BK143.out) hb); have n1_ := Aside0.mk (below_step (by repeat (first | (with_reducible first | exact HB.out | apply below_alloc | apply pw_below_drewN | apply below_drew1 | refine below_set ?_ GE143.out) | exact HB.out)) hb); have n2_ := Aside0.mk (hbox); have n3_ := Aside0.mk ((by rw [hg]; exact (below_size (by repeat (first | (with_reducible first | exact HB.out | apply below_alloc | apply pw_below_drewN | apply below_drew1 | refine below_set ?_ GE143.out) | exact HB.out))) : w.heap.size ≤ gb144)); have n4_ := Aside0.mk ((by rw [hg]; exact (below_size (by repeat (first | (with_reducible first | exact HB.out | apply below_alloc | apply pw_below_drewN | apply below_drew1 | refine below_set ?_ GE143.out) | exact HB.out))) : w.heap.size ≤ gb144)); have n5_ := Aside0.mk ((by rw [hg]; exact Nat.ne_of_lt (blk_lt (g := gb143) (o := .cells #[.string a0_0, .slice A0_1 l0_1.length c0_1, .int .i64 a0_2, .int .i64 a0_3] 32 (0, 0)) (by (with_reducible repeat (first | refine blk_drewN ?_ _ | refine blk_drew ?_ | refine blk_alloc ?_ _)); exact BK143.out)) : gb143 ≠ gb144)); have n6_ := Aside0.mk ((by rw [hg]; exact Nat.ne_of_gt (blk_lt (g := gb143) (o := .cells #[.string a0_0, .slice A0_1 l0_1.length c0_1, .int .i64 a0_2, .int .i64 a0_3] 32 (0, 0)) (by (with_reducible repeat (first | refine blk_drewN ?_ _ | refine blk_drew ?_ | refine blk_alloc ?_ _)); exact BK143.out)) : gb144 ≠ gb143)); clear BK143; clear HB; have BK143 := n0_; have HB := n1_; have BK144 := n2_; have GW144 := n3_; have GE144 := n4_; have NB143_144 := n5_; have NB144_143 := n6_; clear n0_ n1_ n2_ n3_ n4_ n5_ n6_; clear hb hbox hg) | ((with_reducible refine gate_dst (N := 4) rfl ?_); refine box_event ?hg (N := 4) ?hd (cs := #[.int .i64 0, .int .i64 0, .int .i64 0, .int .i64 0, .int .i64 0]) (t := 27) ?hr ?_; (case hd => rfl); (case hg => rfl); (case hr => first | (go_simp; done) | (go_simp; rfl)); intro gb145 hg w6 hbox hb; have n0_ := Aside0.mk (blk_below (g := gb143) (o := .cells #[.string a0_0, .slice A0_1 l0_1.length c0_1, .int .i64 a0_2, .int .i64 a0_3] 32 (0, 0)) (by (with_reducible repeat (first | refine blk_drewN ?_ _ | refine blk_drew ?_ | refine blk_alloc ?_ _)); exact BK143.out) hb); have n1_ := Aside0.mk (blk_below (g := gb144) (o := .cells #[.string a1_0, .slice A1_1 l1_1.length c1_1, .int .i64 a1_2, .int .i64 a1_3] 32 (0, 0)) (by (with_reducible repeat (first | refine blk_drewN ?_ _ | refine blk_drew ?_ | refine blk_alloc ?_ _)); exact BK144.out) hb); have n2_ := Aside0.mk (below_step (by repeat (first | (with_reducible first | exact HB.out | apply below_alloc | apply pw_below_drewN | apply below_drew1 | refine below_set ?_ GE143.out | refine below_set ?_ GE144.out) | exact HB.out)) hb); have n3_ := Aside0.mk (hbox); have n4_ := Aside0.mk ((by rw [hg]; exact (below_size (by repeat (first | (with_reducible first | exact HB.out | apply below_alloc | apply pw_below_drewN | apply below_drew1 | refine below_set ?_ GE143.out | refine below_set ?_ GE144.out) | exact HB.out))) : w.heap.size ≤ gb145)); have n5_ := Aside0.mk ((by rw [hg]; exact (below_size (by repeat (first | (with_reducible first | exact HB.out | apply below_alloc | apply pw_below_drewN | apply below_drew1 | refine below_set ?_ GE143.out | refine below_set ?_ GE144.out) | exact HB.out))) : w.heap.size ≤ gb145)); have n6_ := Aside0.mk ((by rw [hg]; exact Nat.ne_of_lt (blk_lt (g := gb143) (o := .cells #[.string a0_0, .slice A0_1 l0_1.length c0_1, .int .i64 a0_2, .int .i64 a0_3] 32 (0, 0)) (by (with_reducible repeat (first | refine blk_drewN ?_ _ | refine blk_drew ?_ | refine blk_alloc ?_ _)); exact BK143.out)) : gb143 ≠ gb145)); have n7_ := Aside0.mk ((by rw [hg]; exact Nat.ne_of_gt (blk_lt (g := gb143) (o := .cells #[.string a0_0, .slice A0_1 l0_1.length c0_1, .int .i64 a0_2, .int .i64 a0_3] 32 (0, 0)) (by (with_reducible repeat (first | refine blk_drewN ?_ _ | refine blk_drew ?_ | refine blk_alloc ?_ _)); exact BK143.out)) : gb145 ≠ gb143)); have n8_ := Aside0.mk ((by rw [hg]; exact Nat.ne_of_lt (blk_lt (g := gb144) (o := .cells #[.string a1_0, .slice A1_1 l1_1.length c1_1, .int .i64 a1_2, .int .i64 a1_3] 32 (0, 0)) (by (with_reducible repeat (first | refine blk_drewN ?_ _ | refine blk_drew ?_ | refine blk_alloc ?_ _)); exact BK144.out)) : gb144 ≠ gb145)); have n9_ := Aside0.mk ((by rw [hg]; exact Nat.ne_of_gt (blk_lt (g := gb144) (o := .cells #[.string a1_0, .slice A1_1 l1_1.length c1_1, .int .i64 a1_2, .int .i64 a1_3] 32 (0, 0)) (by (with_reducible repeat (first | refine blk_drewN ?_ _ | refine blk_drew ?_ | refine blk_alloc ?_ _)); exact BK144.out)) : gb145 ≠ gb144)); clear BK143; clear BK144; clear HB; have BK143 := n0_; have BK144 := n1_; have HB := n2_; have BK145 := n3_; have GW145 := n4_; have GE145 := n5_; have NB143_145 := n6_; have NB145_143 := n7_; have NB144_145 := n8_; have NB145_144 := n9_; clear n0_ n1_ n2_ n3_ n4_ n5_ n6_ n7_ n8_ n9_; clear hb hbox hg))
 (try simp only [Act.put, List.setIfInBounds_toArray, List.set_cons_zero, List.set_cons_succ])
 go_cut [16] (fun v16 wc => ∃ (kq : Nat) (x16_2 : Bool), v16 = .bool x16_2 ∧ Aside0 (spec_Clash.j0 kq x16_2 a0_0 l0_1 a0_2 a0_3 a1_0 l1_1 a1_2 a1_3 = some (r1, r2, r3, r4, r5, r6, r7)) ∧ Aside0 (kq ≤ k) ∧ Aside0 (wc.heap[gb143]? = some (.cells #[.string a0_0, (.slice A0_1 l0_1.length c0_1), .int .i64 a0_2, .int .i64 a0_3] 32 (0, 0))) ∧ Aside0 (wc.heap[gb144]? = some (.cells #[.string a1_0, (.slice A1_1 l1_1.length c1_1), .int .i64 a1_2, .int .i64 a1_3] 32 (0, 0))) ∧ Aside0 (wc.heap[gb145]? = some (.cells #[.int .i64 0, .int .i64 0, .int .i64 0, .int .i64 0, .int .i64 0] 27 (0, 0))) ∧ Aside0 (Below w.heap.size w wc))
 case first =>
  have H := HC3.out
  clear HC3
  replace H := Option.bind_eq_some_iff.mp H
  obtain ⟨t146, A70, H⟩ := H
  replace H : (if t146 = true then ((spec_l06Clause.f k a1_0 l1_1 a1_2 a1_3).bind fun t147 => (spec_Clash.j0 k (!t147) a0_0 l0_1 a0_2 a0_3 a1_0 l1_1 a1_2 a1_3)) else (spec_Clash.j0 k true a0_0 l0_1 a0_2 a0_3 a1_0 l1_1 a1_2 a1_3)) = some (r1, r2, r3, r4, r5, r6, r7) := H
  have A7 := Aside0.mk A70
  clear A70
  by_cases c8 : t146 = true
  ·subst c8
   have H1 : ((spec_l06Clause.f k a1_0 l1_1 a1_2 a1_3).bind fun t147 => (spec_Clash.j0 k (!t147) a0_0 l0_1 a0_2 a0_3 a1_0 l1_1 a1_2 a1_3)) = some (r1, r2, r3, r4, r5, r6, r7) := by rw [if_pos rfl] at H; exact H
   clear H
   have H := H1
   clear H1
   replace H := Option.bind_eq_some_iff.mp H
   obtain ⟨t147, A90, H⟩ := H
   replace H : (spec_Clash.j0 k (!t147) a0_0 l0_1 a0_2 a0_3 a1_0 l1_1 a1_2 a1_3) = some (r1, r2, r3, r4, r5, r6, r7) := H
   have A9 := Aside0.mk A90
   clear A90
   have H' := Aside0.mk H
   clear H
   have hnb10 := NB143_144.out
   have hnc10 := NB144_143.out
   have hnb11 := NB143_145.out
   have hnc11 := NB145_143.out
   have hcz12_0 : w6.cell? ⟨gb143, 0, none⟩ = some (.string a0_0) := (blk_cell BK143.out 0).trans rfl
   have hcz12_1 : w6.cell? ⟨gb143, 1, none⟩ = some (.slice A0_1 l0_1.length c0_1) := (blk_cell BK143.out 1).trans rfl
   have hcz12_2 : w6.cell? ⟨gb143, 2, none⟩ = some (.int .i64 a0_2) := (blk_cell BK143.out 2).trans rfl
   have hcz12_3 : w6.cell? ⟨gb143, 3, none⟩ = some (.int .i64 a0_3) := (blk_cell BK143.out 3).trans rfl
   have hfz12_0 := blk_frozen BK143.out 0
   have hfz12_1 := blk_frozen BK143.out 1
   have hfz12_2 := blk_frozen BK143.out 2
   have hfz12_3 := blk_frozen BK143.out 3
   go_wp2_with (first | ((with_reducible refine gate_callee (f := 33) rfl ?_); refine goesL_ (some 10) rfl rfl Try.func33 (by kernel_rfl) rfl #[.agg #[.string a0_0, .slice A0_1 l0_1.length c0_1, .int .i64 a0_2, .int .i64 a0_3]] rfl (by (try simp only [List.map_toArray, List.map_cons, List.map_nil]); first | done | rfl | (simp only [List.length_drop, List.length_take]; rfl)) ?_; (with_reducible refine (spec_l06Clause.calls k a0_0 _ _ l0_1 a0_2 a0_3 true _ ?side1 ?side2 A7.out).mono ?_); (case side1 => repeat (first | exact (Kd.C_below HR0_1.out HB.out) | (with_reducible refine Kd.C_alloc ?_ _) | (with_reducible refine Kd.C_drewN ?_ _) | (with_reducible refine Kd.C_drew ?_))); (case side2 => exact HC0_1.out); rintro e w13 ⟨rfl, hb⟩; refine ⟨_, rfl, ?_⟩; have n0_ := Aside0.mk (blk_below (g := gb143) (o := .cells #[.string a0_0, .slice A0_1 l0_1.length c0_1, .int .i64 a0_2, .int .i64 a0_3] 32 (0, 0)) (by (with_reducible repeat (first | refine blk_drewN ?_ _ | refine blk_drew ?_ | refine blk_alloc ?_ _)); exact BK143.out) hb); have n1_ := Aside0.mk (blk_below (g := gb144) (o := .cells #[.string a1_0, .slice A1_1 l1_1.length c1_1, .int .i64 a1_2, .int .i64 a1_3] 32 (0, 0)) (by (with_reducible repeat (first | refine blk_drewN ?_ _ | refine blk_drew ?_ | refine blk_alloc ?_ _)); exact BK144.out) hb); have n2_ := Aside0.mk (blk_below (g := gb145) (o := .cells #[.int .i64 0, .int .i64 0, .int .i64 0, .int .i64 0, .int .i64 0] 27 (0, 0)) (by (with_reducible repeat (first | refine blk_drewN ?_ _ | refine blk_drew ?_ | refine blk_alloc ?_ _)); exact BK145.out) hb); have n3_ := Aside0.mk (below_step (by repeat (first | (with_reducible first | exact HB.out | apply below_alloc | apply pw_below_drewN | apply below_drew1 | refine below_set ?_ GE143.out | refine below_set ?_ GE144.out | refine below_set ?_ GE145.out) | exact HB.out)) hb); clear BK143; clear BK144; clear BK145; clear HB; have BK143 := n0_; have BK144 := n1_; have BK145 := n2_; have HB := n3_; clear n0_ n1_ n2_ n3_; (try clear hb); (try clear hb2); (try clear hk); (try clear hi); have hnb14 := NB144_145.out; have hnc14 := NB145_144.out; have hcz15_0 : w13.cell? ⟨gb144, 0, none⟩ = some (.string a1_0) := (blk_cell BK144.out 0).trans rfl; have hcz15_1 : w13.cell? ⟨gb144, 1, none⟩ = some (.slice A1_1 l1_1.length c1_1) := (blk_cell BK144.out 1).trans rfl; have hcz15_2 : w13.cell? ⟨gb144, 2, none⟩ = some (.int .i64 a1_2) := (blk_cell BK144.out 2).trans rfl; have hcz15_3 : w13.cell? ⟨gb144, 3, none⟩ = some (.int .i64 a1_3) := (blk_cell BK144.out 3).trans rfl; have hfz15_0 := blk_frozen BK144.out 0; have hfz15_1 := blk_frozen BK144.out 1; have hfz15_2 := blk_frozen BK144.out 2; have hfz15_3 := blk_frozen BK144.out 3) | (go_at_call 33; (with_reducible refine (spec_l06Clause.calls k a1_0 _ _ l1_1 a1_2 a1_3 t147 _ ?side1 ?side2 A9.out).mono ?_); (case side1 => repeat (first | exact (Kd.C_below HR1_1.out HB.out) | (with_reducible refine Kd.C_alloc ?_ _) | (with_reducible refine Kd.C_drewN ?_ _) | (with_reducible refine Kd.C_drew ?_))); (case side2 => exact HC1_1.out); rintro e w16 ⟨rfl, hb⟩; have n0_ := Aside0.mk (blk_below (g := gb143) (o := .cells #[.string a0_0, .slice A0_1 l0_1.length c0_1, .int .i64 a0_2, .int .i64 a0_3] 32 (0, 0)) (by (with_reducible repeat (first | refine blk_drewN ?_ _ | refine blk_drew ?_ | refine blk_alloc ?_ _)); exact BK143.out) hb); have n1_ := Aside0.mk (blk_below (g := gb144) (o := .cells #[.string a1_0, .slice A1_1 l1_1.length c1_1, .int .i64 a1_2, .int .i64 a1_3] 32 (0, 0)) (by (with_reducible repeat (first | refine blk_drewN ?_ _ | refine blk_drew ?_ | refine blk_alloc ?_ _)); exact BK144.out) hb); have n2_ := Aside0.mk (blk_below (g := gb145) (o := .cells #[.int .i64 0, .int .i64 0, .int .i64 0, .int .i64 0, .int .i64 0] 27 (0, 0)) (by (with_reducible repeat (first | refine blk_drewN ?_ _ | refine blk_drew ?_ | refine blk_alloc ?_ _)); exact BK145.out) hb); have n3_ := Aside0.mk (below_step (by repeat (first | (with_reducible first | exact HB.out | apply below_alloc | apply pw_below_drewN | apply below_drew1 | refine below_set ?_ GE143.out | refine below_set ?_ GE144.out | refine below_set ?_ GE145.out) | exact HB.out)) hb); clear BK143; clear BK144; clear BK145; clear HB; have BK143 := n0_; have BK144 := n1_; have BK145 := n2_; have HB := n3_; clear n0_ n1_ n2_ n3_; (try clear hb); (try clear hb2); (try clear hk); (try clear hi)))
   go_meet
   case rel => exact ⟨_, (!t147), (by first | rfl | (simp; done) | (simp [*]; done)), H', ⟨by first | omega | exact Nat.le_refl _⟩, ⟨by (with_reducible repeat (first | refine blk_drewN ?_ _ | refine blk_drew ?_ | refine blk_alloc ?_ _)); exact BK143.out⟩, ⟨by (with_reducible repeat (first | refine blk_drewN ?_ _ | refine blk_drew ?_ | refine blk_alloc ?_ _)); exact BK144.out⟩, ⟨by (with_reducible repeat (first | refine blk_drewN ?_ _ | refine blk_drew ?_ | refine blk_alloc ?_ _)); exact BK145.out⟩, ⟨by repeat (first | (with_reducible first | exact HB.out | apply below_alloc | apply pw_below_drewN | apply below_drew1 | refine below_set ?_ GE143.out | refine below_set ?_ GE144.out | refine below_set ?_ GE145.out) | exact HB.out)⟩⟩
  ·replace c8 := Bool.eq_false_iff.mpr c8
   subst c8
   have H1 : (spec_Clash.j0 k true a0_0 l0_1 a0_2 a0_3 a1_0 l1_1 a1_2 a1_3) = some (r1, r2, r3, r4, r5, r6, r7) := by rw [if_neg (show ¬ (false = true) by decide)] at H; exact H
   clear H
   have H := H1
   clear H1
   have H' := Aside0.mk H
   clear H
   have hnb17 := NB143_144.out
   have hnc17 := NB144_143.out
   have hnb18 := NB143_145.out
   have hnc18 := NB145_143.out
   have hcz19_0 : w6.cell? ⟨gb143, 0, none⟩ = some (.string a0_0) := (blk_cell BK143.out 0).trans rfl
   have hcz19_1 : w6.cell? ⟨gb143, 1, none⟩ = some (.slice A0_1 l0_1.length c0_1) := (blk_cell BK143.out 1).trans rfl
   have hcz19_2 : w6.cell? ⟨gb143, 2, none⟩ = some (.int .i64 a0_2) := (blk_cell BK143.out 2).trans rfl
   have hcz19_3 : w6.cell? ⟨gb143, 3, none⟩ = some (.int .i64 a0_3) := (blk_cell BK143.out 3).trans rfl
   have hfz19_0 := blk_frozen BK143.out 0
   have hfz19_1 := blk_frozen BK143.out 1
   have hfz19_2 := blk_frozen BK143.out 2
   have hfz19_3 := blk_frozen BK143.out 3
   go_wp2_with (first | ((with_reducible refine gate_callee (f := 33) rfl ?_); refine goesL_ (some 10) rfl rfl Try.func33 (by kernel_rfl) rfl #[.agg #[.string a0_0, .slice A0_1 l0_1.length c0_1, .int .i64 a0_2, .int .i64 a0_3]] rfl (by (try simp only [List.map_toArray, List.map_cons, List.map_nil]); first | done | rfl | (simp only [List.length_drop, List.length_take]; rfl)) ?_; (with_reducible refine (spec_l06Clause.calls k a0_0 _ _ l0_1 a0_2 a0_3 false _ ?side1 ?side2 A7.out).mono ?_); (case side1 => repeat (first | exact (Kd.C_below HR0_1.out HB.out) | (with_reducible refine Kd.C_alloc ?_ _) | (with_reducible refine Kd.C_drewN ?_ _) | (with_reducible refine Kd.C_drew ?_))); (case side2 => exact HC0_1.out); rintro e w20 ⟨rfl, hb⟩; refine ⟨_, rfl, ?_⟩; have n0_ := Aside0.mk (blk_below (g := gb143) (o := .cells #[.string a0_0, .slice A0_1 l0_1.length c0_1, .int .i64 a0_2, .int .i64 a0_3] 32 (0, 0)) (by (with_reducible repeat (first | refine blk_drewN ?_ _ | refine blk_drew ?_ | refine blk_alloc ?_ _)); exact BK143.out) hb); have n1_ := Aside0.mk (blk_below (g := gb144) (o := .cells #[.string a1_0, .slice A1_1 l1_1.length c1_1, .int .i64 a1_2, .int .i64 a1_3] 32 (0, 0)) (by (with_reducible repeat (first | refine blk_drewN ?_ _ | refine blk_drew ?_ | refine blk_alloc ?_ _)); exact BK144.out) hb); have n2_ := Aside0.mk (blk_below (g := gb145) (o := .cells #[.int .i64 0, .int .i64 0, .int .i64 0, .int .i64 0, .int .i64 0] 27 (0, 0)) (by (with_reducible repeat (first | refine blk_drewN ?_ _ | refine blk_drew ?_ | refine blk_alloc ?_ _)); exact BK145.out) hb); have n3_ := Aside0.mk (below_step (by repeat (first | (with_reducible first | exact HB.out | apply below_alloc | apply pw_below_drewN | apply below_drew1 | refine below_set ?_ GE143.out | refine below_set ?_ GE144.out | refine below_set ?_ GE145.out) | exact HB.out)) hb); clear BK143; clear BK144; clear BK145; clear HB; have BK143 := n0_; have BK144 := n1_; have BK145 := n2_; have HB := n3_; clear n0_ n1_ n2_ n3_; (try clear hb); (try clear hb2); (try clear hk); (try clear hi)))
   go_meet
   case rel => exact ⟨_, (true), (by first | rfl | (simp; done) | (simp [*]; done)), H', ⟨by first | omega | exact Nat.le_refl _⟩, ⟨by (with_reducible repeat (first | refine blk_drewN ?_ _ | refine blk_drew ?_ | refine blk_alloc ?_ _)); exact BK143.out⟩, ⟨by (with_reducible repeat (first | refine blk_drewN ?_ _ | refine blk_drew ?_ | refine blk_alloc ?_ _)); exact BK144.out⟩, ⟨by (with_reducible repeat (first | refine blk_drewN ?_ _ | refine blk_drew ?_ | refine blk_alloc ?_ _)); exact BK145.out⟩, ⟨by repeat (first | (with_reducible first | exact HB.out | apply below_alloc | apply pw_below_drewN | apply below_drew1 | refine below_set ?_ GE143.out | refine below_set ?_ GE144.out | refine below_set ?_ GE145.out) | exact HB.out)⟩⟩
 case rest =>
  clear HC3
  try clear c1
  try clear p2
  try clear c3
  try clear c8
  try clear c9
  try clear c10
  try clear c11
  try clear c14
  try clear c17
  try clear c18
  try clear hcz12_0
  try clear hcz12_1
  try clear hcz12_2
  try clear hcz12_3
  try clear hcz15_0
  try clear hcz15_1
  try clear hcz15_2
  try clear hcz15_3
  try clear hcz19_0
  try clear hcz19_1
  try clear hcz19_2
  try clear hcz19_3
  try clear hfz12_0
  try clear hfz12_1
  try clear hfz12_2
  try clear hfz12_3
  try clear hfz15_0
  try clear hfz15_1
  try clear hfz15_2
  try clear hfz15_3
  try clear hfz19_0
  try clear hfz19_1
  try clear hfz19_2
  try clear hfz19_3
  obtain ⟨kq, x16_2, rfl, HA, HJ2, BK143, BK144, BK145, HB⟩ := hcut
  cases kq with
  | zero => exact absurd HA.out (by simp [spec_Clash.j0])
  | succ kj2 =>
   have H := HA.out
   clear HA
   simp only [spec_Clash.j0] at H
   by_cases c21 : x16_2 = true
   ·subst c21
    have H1 : (some (0, 0, 0, 0, 0, false, 1)) = some (r1, r2, r3, r4, r5, r6, r7) := by rw [if_pos rfl] at H; exact H
    clear H
    have H := H1
    clear H1
    simp only [Option.some.injEq, Prod.mk.injEq] at H
    obtain ⟨rfl, rfl, rfl, rfl, rfl, rfl, rfl⟩ := H
    have hnb22 := NB145_143.out
    have hnc22 := NB143_145.out
    have hnb23 := NB145_144.out
    have hnc23 := NB144_145.out
    have hcz24_0 : wc.cell? ⟨gb145, 0, none⟩ = some (.int .i64 0) := (blk_cell BK145.out 0).trans rfl
    have hcz24_1 : wc.cell? ⟨gb145, 1, none⟩ = some (.int .i64 0) := (blk_cell BK145.out 1).trans rfl
    have hcz24_2 : wc.cell? ⟨gb145, 2, none⟩ = some (.int .i64 0) := (blk_cell BK145.out 2).trans rfl
    have hcz24_3 : wc.cell? ⟨gb145, 3, none⟩ = some (.int .i64 0) := (blk_cell BK145.out 3).trans rfl
    have hcz24_4 : wc.cell? ⟨gb145, 4, none⟩ = some (.int .i64 0) := (blk_cell BK145.out 4).trans rfl
    have hfz24_0 := blk_frozen BK145.out 0
    have hfz24_1 := blk_frozen BK145.out 1
    have hfz24_2 := blk_frozen BK145.out 2
    have hfz24_3 := blk_frozen BK145.out 3
    have hfz24_4 := blk_frozen BK145.out 4
    go_wp2
    refine bodyPost_ret (results_ctt rfl _ _ gb145 27 #[.int .i64 0, .int .i64 0, .int .i64 0, .int .i64 0, .int .i64 0] (0, 0) _ rfl (by (with_reducible repeat (first | refine blk_drewN ?_ _ | refine blk_drew ?_ | refine blk_alloc ?_ _)); refine blk_put (cs := #[.int .i64 0, .int .i64 0, .int .i64 0, .int .i64 0, .int .i64 0]) ?_ 4 _ rfl; (with_reducible repeat (first | refine blk_drewN ?_ _ | refine blk_drew ?_ | refine blk_alloc ?_ _)); refine blk_put (cs := #[.int .i64 0, .int .i64 0, .int .i64 0, .int .i64 0, .int .i64 0]) ?_ 3 _ rfl; (with_reducible repeat (first | refine blk_drewN ?_ _ | refine blk_drew ?_ | refine blk_alloc ?_ _)); refine blk_put (cs := #[.int .i64 0, .int .i64 0, .int .i64 0, .int .i64 0, .int .i64 0]) ?_ 2 _ rfl; (with_reducible repeat (first | refine blk_drewN ?_ _ | refine blk_drew ?_ | refine blk_alloc ?_ _)); refine blk_put (cs := #[.int .i64 0, .int .i64 0, .int .i64 0, .int .i64 0, .int .i64 0]) ?_ 1 _ rfl; (with_reducible repeat (first | refine blk_drewN ?_ _ | refine blk_drew ?_ | refine blk_alloc ?_ _)); refine blk_put (cs := #[.int .i64 0, .int .i64 0, .int .i64 0, .int .i64 0, .int .i64 0]) ?_ 0 _ rfl; (with_reducible repeat (first | refine blk_drewN ?_ _ | refine blk_drew ?_ | refine blk_alloc ?_ _)); exact BK145.out) Try.underlying27 rfl (by kernel_rfl)) rfl ?_
    exact ⟨by first | rfl | (simp [errW_none, errW_some] <;> rfl) | (simp [*, errW_none, errW_some] <;> rfl), by repeat (first | (with_reducible first | exact HB.out | apply below_alloc | apply pw_below_drewN | apply below_drew1 | refine below_set ?_ GE143.out | refine below_set ?_ GE144.out | refine below_set ?_ GE145.out) | exact HB.out)⟩
   ·replace c21 := Bool.eq_false_iff.mpr c21
    subst c21
    have H1 : ((some (([] : List (S59)) : List (S59))).bind fun y148 => (if y148.length + l0_1.length < 5864062014805 then ((some (y148 ++ l0_1 : List (S59))).bind fun y151 => (if y151.length + l1_1.length < 5864062014805 then ((spec_l06Least.f kj2 (y151 ++ l1_1)).bind fun bt157 => (if bt157.2.2.2.2.2 = true then (if a0_2 = a1_2 then (spec_Clash.j1 kj2 (a0_3 == a1_3) bt157.1 bt157.2.1 bt157.2.2.1 bt157.2.2.2.1 bt157.2.2.2.2.1) else (spec_Clash.j1 kj2 false bt157.1 bt157.2.1 bt157.2.2.1 bt157.2.2.2.1 bt157.2.2.2.2.1)) else (spec_Clash.j1 kj2 true bt157.1 bt157.2.1 bt157.2.2.1 bt157.2.2.2.1 bt157.2.2.2.2.1))) else (none))) else (none))) = some (r1, r2, r3, r4, r5, r6, r7) := by rw [if_neg (show ¬ (false = true) by decide)] at H; exact H
    clear H
    have H := H1
    clear H1
    obtain ⟨y148, hy148⟩ : ∃ y_ : List (S59), y_ = (([] : List (S59))) := ⟨_, rfl⟩
    replace H : (if y148.length + l0_1.length < 5864062014805 then ((some (y148 ++ l0_1 : List (S59))).bind fun y151 => (if y151.length + l1_1.length < 5864062014805 then ((spec_l06Least.f kj2 (y151 ++ l1_1)).bind fun bt157 => (if bt157.2.2.2.2.2 = true then (if a0_2 = a1_2 then (spec_Clash.j1 kj2 (a0_3 == a1_3) bt157.1 bt157.2.1 bt157.2.2.1 bt157.2.2.2.1 bt157.2.2.2.2.1) else (spec_Clash.j1 kj2 false bt157.1 bt157.2.1 bt157.2.2.1 bt157.2.2.2.1 bt157.2.2.2.2.1)) else (spec_Clash.j1 kj2 true bt157.1 bt157.2.1 bt157.2.2.1 bt157.2.2.2.1 bt157.2.2.2.2.1))) else (none))) else (none)) = some (r1, r2, r3, r4, r5, r6, r7) := by first | (rw [hy148]; with_reducible exact H) | (have H2_ := (Option.bind_some _ _).symm.trans H; rw [hy148]; with_reducible exact H2_) | (have H2_ := (Option.bind_some _ _).symm.trans H; with_reducible exact H2_) | with_reducible exact H | (rw [hy148]; exact H) | exact H
    have Ny148 := Aside0.mk hy148
    clear hy148
    by_cases c25 : y148.length + l0_1.length < 5864062014805
    ·rw [if_pos c25] at H
     have LMc25 := Aside0.mk c25
     clear c25
     obtain ⟨y151, hy151⟩ : ∃ y_ : List (S59), y_ = (y148 ++ l0_1) := ⟨_, rfl⟩
     replace H : (if y151.length + l1_1.length < 5864062014805 then ((spec_l06Least.f kj2 (y151 ++ l1_1)).bind fun bt157 => (if bt157.2.2.2.2.2 = true then (if a0_2 = a1_2 then (spec_Clash.j1 kj2 (a0_3 == a1_3) bt157.1 bt157.2.1 bt157.2.2.1 bt157.2.2.2.1 bt157.2.2.2.2.1) else (spec_Clash.j1 kj2 false bt157.1 bt157.2.1 bt157.2.2.1 bt157.2.2.2.1 bt157.2.2.2.2.1)) else (spec_Clash.j1 kj2 true bt157.1 bt157.2.1 bt157.2.2.1 bt157.2.2.2.1 bt157.2.2.2.2.1))) else (none)) = some (r1, r2, r3, r4, r5, r6, r7) := by first | (rw [hy151]; with_reducible exact H) | (have H2_ := (Option.bind_some _ _).symm.trans H; rw [hy151]; with_reducible exact H2_) | (have H2_ := (Option.bind_some _ _).symm.trans H; with_reducible exact H2_) | with_reducible exact H | (rw [hy151]; exact H) | exact H
     have Ny151 := Aside0.mk hy151
     clear hy151
     by_cases c26 : y151.length + l1_1.length < 5864062014805
     ·rw [if_pos c26] at H
      have LMc26 := Aside0.mk c26
      clear c26
      obtain ⟨y154, hy154⟩ : ∃ y_ : List (S59), y_ = (y151 ++ l1_1) := ⟨_, rfl⟩
      replace H : ((spec_l06Least.f kj2 y154).bind fun bt157 => (if bt157.2.2.2.2.2 = true then (if a0_2 = a1_2 then (spec_Clash.j1 kj2 (a0_3 == a1_3) bt157.1 bt157.2.1 bt157.2.2.1 bt157.2.2.2.1 bt157.2.2.2.2.1) else (spec_Clash.j1 kj2 false bt157.1 bt157.2.1 bt157.2.2.1 bt157.2.2.2.1 bt157.2.2.2.2.1)) else (spec_Clash.j1 kj2 true bt157.1 bt157.2.1 bt157.2.2.1 bt157.2.2.2.1 bt157.2.2.2.2.1))) = some (r1, r2, r3, r4, r5, r6, r7) := by first | (rw [hy154]; with_reducible exact H) | (have H2_ := (Option.bind_some _ _).symm.trans H; rw [hy154]; with_reducible exact H2_) | (have H2_ := (Option.bind_some _ _).symm.trans H; with_reducible exact H2_) | with_reducible exact H | (rw [hy154]; exact H) | exact H
      have Ny154 := Aside0.mk hy154
      clear hy154
      replace H := Option.bind_eq_some_iff.mp H
      obtain ⟨⟨t157, t158, t159, t160, t161, t162⟩, A270, H⟩ := H
      replace H : (if t162 = true then (if a0_2 = a1_2 then (spec_Clash.j1 kj2 (a0_3 == a1_3) t157 t158 t159 t160 t161) else (spec_Clash.j1 kj2 false t157 t158 t159 t160 t161)) else (spec_Clash.j1 kj2 true t157 t158 t159 t160 t161)) = some (r1, r2, r3, r4, r5, r6, r7) := H
      have A27 := Aside0.mk A270
      clear A270
      have HC28 := Aside0.mk H
      clear H
      try go_wp2
      have n0_ := Aside0.mk (blk_drew BK143.out)
      have n1_ := Aside0.mk (blk_drew BK144.out)
      have n2_ := Aside0.mk (blk_drew BK145.out)
      have n3_ := Aside0.mk (below_drew1 HB.out)
      clear BK143
      clear BK144
      clear BK145
      clear HB
      have BK143 := n0_
      have BK144 := n1_
      have BK145 := n2_
      have HB := n3_
      clear n0_ n1_ n2_ n3_
      refine start_ (n := 14) (S := fun w' => w'.cell? ⟨gb143, 0, none⟩ = some (.string a0_0) ∧ w'.cell? ⟨gb143, 1, none⟩ = some (.slice A0_1 l0_1.length c0_1) ∧ w'.cell? ⟨gb143, 2, none⟩ = some (.int .i64 a0_2) ∧ w'.cell? ⟨gb143, 3, none⟩ = some (.int .i64 a0_3) ∧ w'.cell? ⟨gb144, 0, none⟩ = some (.string a1_0) ∧ w'.cell? ⟨gb144, 1, none⟩ = some (.slice A1_1 l1_1.length c1_1) ∧ w'.cell? ⟨gb144, 2, none⟩ = some (.int .i64 a1_2) ∧ w'.cell? ⟨gb144, 3, none⟩ = some (.int .i64 a1_3)) (ds := []) (rl_ true [0, 14]).toArray (by kernel_rfl) rfl rfl ⟨(blk_cell BK143.out 0).trans rfl, (blk_cell BK143.out 1).trans rfl, (blk_cell BK143.out 2).trans rfl, (blk_cell BK143.out 3).trans rfl, (blk_cell BK144.out 0).trans rfl, (blk_cell BK144.out 1).trans rfl, (blk_cell BK144.out 2).trans rfl, (blk_cell BK144.out 3).trans rfl⟩ (fun hHeld => ?_); refine with_tabW spec_Clash.tab3 spec_Clash.bits3 (fun HT_ HW_ => ?_)
      generalize wc.drew = w29 at BK143 BK144 BK145 HB hHeld ⊢
      refine pure_ (i := 1) (N := some 20) (v := ?_) (a' := ?_) (rl_ true [0, 1, 1, 12]).toArray rfl rfl (any_of HT_.out (by kernel_rfl)) (fun _ _ _ h => h) (Or.inl ⟨by rfl, ?_⟩) ?_ ?_
      rotate_left
      ·intro w'
       go_simp
       with_reducible rfl
      rotate_left
      ·simp only [Act.put, List.setIfInBounds_toArray, List.set_cons_zero, List.set_cons_succ, i64_w, i32_w]
       rfl
      refine pure_ (i := 4) (N := some 23) (v := ?_) (a' := ?_) (rl_ true [0, 1, 1, 2, 1, 9]).toArray rfl rfl (any_of HT_.out (by kernel_rfl)) (fun _ _ _ h => h) (Or.inl ⟨by rfl, ?_⟩) ?_ ?_
      rotate_left
      ·intro w'
       go_simp
       with_reducible rfl
      rotate_left
      ·simp only [Act.put, List.setIfInBounds_toArray, List.set_cons_zero, List.set_cons_succ, i64_w, i32_w]
       rfl
      refine take_ (i := 2) (N := some 21) (v := ?_) (a' := ?_) (rl_ true [0, 1, 2, 1, 1, 9]).toArray rfl rfl (take_ofW HT_.out HW_.out (by kernel_rfl)) (fun _ _ _ h => h) (Or.inl ⟨by rfl, ?_⟩) hHeld ?_ ?_
      rotate_left
      ·rintro w' ⟨s0, s1, s2, s3, s4, s5, s6, s7⟩
       go_simp
       with_reducible rfl
      rotate_left
      ·simp only [Act.put, List.setIfInBounds_toArray, List.set_cons_zero, List.set_cons_succ, i64_w, i32_w]
       rfl
      refine take_ (i := 5) (N := some 24) (v := ?_) (a' := ?_) (rl_ true [0, 1, 2, 1, 2, 8]).toArray rfl rfl (take_ofW HT_.out HW_.out (by kernel_rfl)) (fun _ _ _ h => h) (Or.inl ⟨by rfl, ?_⟩) hHeld ?_ ?_
      rotate_left
      ·rintro w' ⟨s0, s1, s2, s3, s4, s5, s6, s7⟩
       go_simp
       with_reducible rfl
      rotate_left
      ·simp only [Act.put, List.setIfInBounds_toArray, List.set_cons_zero, List.set_cons_succ, i64_w, i32_w]
       rfl
      refine join_ (σ := Value × Value × Value × Nat) 2 (rl_ true [12, 2]).toArray (fun s_ => [(19, s_.1), (22, s_.2.1), (25, s_.2.2.1), (26, .tuple #[.agg #[.int .i64 t157, .int .i64 t158, .int .i64 t159, .int .i64 t160, .int .i64 t161], .bool t162]), (7, .pointer (some ⟨s_.2.2.2, 0, none⟩)), (18, .tuple #[.agg #[.int .i64 t157, .int .i64 t158, .int .i64 t159, .int .i64 t160, .int .i64 t161], .bool t162]), (27, .agg #[.int .i64 t157, .int .i64 t158, .int .i64 t159, .int .i64 t160, .int .i64 t161]), (28, .bool t162)]) (fun s_ w' => (w'.cell? ⟨gb143, 0, none⟩ = some (.string a0_0) ∧ w'.cell? ⟨gb143, 1, none⟩ = some (.slice A0_1 l0_1.length c0_1) ∧ w'.cell? ⟨gb143, 2, none⟩ = some (.int .i64 a0_2) ∧ w'.cell? ⟨gb143, 3, none⟩ = some (.int .i64 a0_3) ∧ w'.cell? ⟨gb144, 0, none⟩ = some (.string a1_0) ∧ w'.cell? ⟨gb144, 1, none⟩ = some (.slice A1_1 l1_1.length c1_1) ∧ w'.cell? ⟨gb144, 2, none⟩ = some (.int .i64 a1_2) ∧ w'.cell? ⟨gb144, 3, none⟩ = some (.int .i64 a1_3)) ∧ (Kd.R k59 59 w' w.heap.size (fun _ => True) s_.2.2.1 y154) ∧ (w'.heap[gb143]? = some (.cells #[.string a0_0, .slice A0_1 l0_1.length c0_1, .int .i64 a0_2, .int .i64 a0_3] 32 (0, 0))) ∧ (w'.heap[gb144]? = some (.cells #[.string a1_0, .slice A1_1 l1_1.length c1_1, .int .i64 a1_2, .int .i64 a1_3] 32 (0, 0))) ∧ (w'.heap[gb145]? = some (.cells #[.int .i64 0, .int .i64 0, .int .i64 0, .int .i64 0, .int .i64 0] 27 (0, 0))) ∧ (w'.heap[s_.2.2.2]? = some (.cells #[.int .i64 0, .int .i64 0, .int .i64 0, .int .i64 0, .int .i64 0] 27 (0, 0))) ∧ (w.heap.size ≤ s_.2.2.2) ∧ (w.heap.size ≤ s_.2.2.2) ∧ (gb143 ≠ s_.2.2.2) ∧ (s_.2.2.2 ≠ gb143) ∧ (gb144 ≠ s_.2.2.2) ∧ (s_.2.2.2 ≠ gb144) ∧ (gb145 ≠ s_.2.2.2) ∧ (s_.2.2.2 ≠ gb145) ∧ (Below w.heap.size w w')) ?_ ?_
      rotate_left
      ·intro hJ0_3_6_7_11
       refine join_ (σ := Value × Value × Value) 3 (rl_ true [11, 3]).toArray (fun s_ => [(19, s_.1), (22, s_.2.1), (25, s_.2.2), (26, .tuple #[.agg #[.int .i64 t157, .int .i64 t158, .int .i64 t159, .int .i64 t160, .int .i64 t161], .bool t162]), (18, .tuple #[.agg #[.int .i64 t157, .int .i64 t158, .int .i64 t159, .int .i64 t160, .int .i64 t161], .bool t162]), (27, .agg #[.int .i64 t157, .int .i64 t158, .int .i64 t159, .int .i64 t160, .int .i64 t161]), (28, .bool t162)]) (fun s_ w' => (w'.cell? ⟨gb143, 0, none⟩ = some (.string a0_0) ∧ w'.cell? ⟨gb143, 1, none⟩ = some (.slice A0_1 l0_1.length c0_1) ∧ w'.cell? ⟨gb143, 2, none⟩ = some (.int .i64 a0_2) ∧ w'.cell? ⟨gb143, 3, none⟩ = some (.int .i64 a0_3) ∧ w'.cell? ⟨gb144, 0, none⟩ = some (.string a1_0) ∧ w'.cell? ⟨gb144, 1, none⟩ = some (.slice A1_1 l1_1.length c1_1) ∧ w'.cell? ⟨gb144, 2, none⟩ = some (.int .i64 a1_2) ∧ w'.cell? ⟨gb144, 3, none⟩ = some (.int .i64 a1_3)) ∧ (Kd.R k59 59 w' w.heap.size (fun _ => True) s_.2.2 y154) ∧ (w'.heap[gb143]? = some (.cells #[.string a0_0, .slice A0_1 l0_1.length c0_1, .int .i64 a0_2, .int .i64 a0_3] 32 (0, 0))) ∧ (w'.heap[gb144]? = some (.cells #[.string a1_0, .slice A1_1 l1_1.length c1_1, .int .i64 a1_2, .int .i64 a1_3] 32 (0, 0))) ∧ (w'.heap[gb145]? = some (.cells #[.int .i64 0, .int .i64 0, .int .i64 0, .int .i64 0, .int .i64 0] 27 (0, 0))) ∧ (Below w.heap.size w w')) ?_ ?_
       rotate_left
       ·intro hJ0_3_6_7
        refine join_ (σ := Value × Value × Value × Nat) 6 (rl_ true [7, 4, 1, 2]).toArray (fun s_ => [(19, s_.1), (22, s_.2.1), (25, s_.2.2.1), (7, .pointer (some ⟨s_.2.2.2, 0, none⟩))]) (fun s_ w' => (w'.cell? ⟨gb143, 0, none⟩ = some (.string a0_0) ∧ w'.cell? ⟨gb143, 1, none⟩ = some (.slice A0_1 l0_1.length c0_1) ∧ w'.cell? ⟨gb143, 2, none⟩ = some (.int .i64 a0_2) ∧ w'.cell? ⟨gb143, 3, none⟩ = some (.int .i64 a0_3) ∧ w'.cell? ⟨gb144, 0, none⟩ = some (.string a1_0) ∧ w'.cell? ⟨gb144, 1, none⟩ = some (.slice A1_1 l1_1.length c1_1) ∧ w'.cell? ⟨gb144, 2, none⟩ = some (.int .i64 a1_2) ∧ w'.cell? ⟨gb144, 3, none⟩ = some (.int .i64 a1_3)) ∧ (Kd.R k59 59 w' w.heap.size (fun _ => True) s_.2.2.1 y154) ∧ (w'.heap[gb143]? = some (.cells #[.string a0_0, .slice A0_1 l0_1.length c0_1, .int .i64 a0_2, .int .i64 a0_3] 32 (0, 0))) ∧ (w'.heap[gb144]? = some (.cells #[.string a1_0, .slice A1_1 l1_1.length c1_1, .int .i64 a1_2, .int .i64 a1_3] 32 (0, 0))) ∧ (w'.heap[gb145]? = some (.cells #[.int .i64 0, .int .i64 0, .int .i64 0, .int .i64 0, .int .i64 0] 27 (0, 0))) ∧ (w'.heap[s_.2.2.2]? = some (.cells #[.int .i64 0, .int .i64 0, .int .i64 0, .int .i64 0, .int .i64 0] 27 (0, 0))) ∧ (w.heap.size ≤ s_.2.2.2) ∧ (w.heap.size ≤ s_.2.2.2) ∧ (gb143 ≠ s_.2.2.2) ∧ (s_.2.2.2 ≠ gb143) ∧ (gb144 ≠ s_.2.2.2) ∧ (s_.2.2.2 ≠ gb144) ∧ (gb145 ≠ s_.2.2.2) ∧ (s_.2.2.2 ≠ gb145) ∧ (Below w.heap.size w w')) ?_ ?_
        rotate_left
        ·intro hJ0_3_6_11
         refine join_ (σ := Value × Value × Value) 7 (rl_ true [7, 7]).toArray (fun s_ => [(19, s_.1), (22, s_.2.1), (25, s_.2.2)]) (fun s_ w' => (w'.cell? ⟨gb143, 0, none⟩ = some (.string a0_0) ∧ w'.cell? ⟨gb143, 1, none⟩ = some (.slice A0_1 l0_1.length c0_1) ∧ w'.cell? ⟨gb143, 2, none⟩ = some (.int .i64 a0_2) ∧ w'.cell? ⟨gb143, 3, none⟩ = some (.int .i64 a0_3) ∧ w'.cell? ⟨gb144, 0, none⟩ = some (.string a1_0) ∧ w'.cell? ⟨gb144, 1, none⟩ = some (.slice A1_1 l1_1.length c1_1) ∧ w'.cell? ⟨gb144, 2, none⟩ = some (.int .i64 a1_2) ∧ w'.cell? ⟨gb144, 3, none⟩ = some (.int .i64 a1_3)) ∧ (Kd.R k59 59 w' w.heap.size (fun _ => True) s_.2.2 y154) ∧ (w'.heap[gb143]? = some (.cells #[.string a0_0, .slice A0_1 l0_1.length c0_1, .int .i64 a0_2, .int .i64 a0_3] 32 (0, 0))) ∧ (w'.heap[gb144]? = some (.cells #[.string a1_0, .slice A1_1 l1_1.length c1_1, .int .i64 a1_2, .int .i64 a1_3] 32 (0, 0))) ∧ (w'.heap[gb145]? = some (.cells #[.int .i64 0, .int .i64 0, .int .i64 0, .int .i64 0, .int .i64 0] 27 (0, 0))) ∧ (Below w.heap.size w w')) ?_ ?_
         rotate_left
         ·intro hJ0_3_6
          refine join_ (σ := Value × Value × Nat) 7 (rl_ true [6, 5, 1, 2]).toArray (fun s_ => [(19, s_.1), (22, s_.2.1), (7, .pointer (some ⟨s_.2.2, 0, none⟩))]) (fun s_ w' => (w'.cell? ⟨gb143, 0, none⟩ = some (.string a0_0) ∧ w'.cell? ⟨gb143, 1, none⟩ = some (.slice A0_1 l0_1.length c0_1) ∧ w'.cell? ⟨gb143, 2, none⟩ = some (.int .i64 a0_2) ∧ w'.cell? ⟨gb143, 3, none⟩ = some (.int .i64 a0_3) ∧ w'.cell? ⟨gb144, 0, none⟩ = some (.string a1_0) ∧ w'.cell? ⟨gb144, 1, none⟩ = some (.slice A1_1 l1_1.length c1_1) ∧ w'.cell? ⟨gb144, 2, none⟩ = some (.int .i64 a1_2) ∧ w'.cell? ⟨gb144, 3, none⟩ = some (.int .i64 a1_3)) ∧ (Kd.R k59 59 w' w.heap.size (fun _ => True) s_.2.1 y151) ∧ (w'.heap[gb143]? = some (.cells #[.string a0_0, .slice A0_1 l0_1.length c0_1, .int .i64 a0_2, .int .i64 a0_3] 32 (0, 0))) ∧ (w'.heap[gb144]? = some (.cells #[.string a1_0, .slice A1_1 l1_1.length c1_1, .int .i64 a1_2, .int .i64 a1_3] 32 (0, 0))) ∧ (w'.heap[gb145]? = some (.cells #[.int .i64 0, .int .i64 0, .int .i64 0, .int .i64 0, .int .i64 0] 27 (0, 0))) ∧ (w'.heap[s_.2.2]? = some (.cells #[.int .i64 0, .int .i64 0, .int .i64 0, .int .i64 0, .int .i64 0] 27 (0, 0))) ∧ (w.heap.size ≤ s_.2.2) ∧ (w.heap.size ≤ s_.2.2) ∧ (gb143 ≠ s_.2.2) ∧ (s_.2.2 ≠ gb143) ∧ (gb144 ≠ s_.2.2) ∧ (s_.2.2 ≠ gb144) ∧ (gb145 ≠ s_.2.2) ∧ (s_.2.2 ≠ gb145) ∧ (Below w.heap.size w w')) ?_ ?_
          rotate_left
          ·intro hJ0_3_11
           refine join_ (σ := Value × Value) 8 (rl_ true [6, 8]).toArray (fun s_ => [(19, s_.1), (22, s_.2)]) (fun s_ w' => (w'.cell? ⟨gb143, 0, none⟩ = some (.string a0_0) ∧ w'.cell? ⟨gb143, 1, none⟩ = some (.slice A0_1 l0_1.length c0_1) ∧ w'.cell? ⟨gb143, 2, none⟩ = some (.int .i64 a0_2) ∧ w'.cell? ⟨gb143, 3, none⟩ = some (.int .i64 a0_3) ∧ w'.cell? ⟨gb144, 0, none⟩ = some (.string a1_0) ∧ w'.cell? ⟨gb144, 1, none⟩ = some (.slice A1_1 l1_1.length c1_1) ∧ w'.cell? ⟨gb144, 2, none⟩ = some (.int .i64 a1_2) ∧ w'.cell? ⟨gb144, 3, none⟩ = some (.int .i64 a1_3)) ∧ (Kd.R k59 59 w' w.heap.size (fun _ => True) s_.2 y151) ∧ (w'.heap[gb143]? = some (.cells #[.string a0_0, .slice A0_1 l0_1.length c0_1, .int .i64 a0_2, .int .i64 a0_3] 32 (0, 0))) ∧ (w'.heap[gb144]? = some (.cells #[.string a1_0, .slice A1_1 l1_1.length c1_1, .int .i64 a1_2, .int .i64 a1_3] 32 (0, 0))) ∧ (w'.heap[gb145]? = some (.cells #[.int .i64 0, .int .i64 0, .int .i64 0, .int .i64 0, .int .i64 0] 27 (0, 0))) ∧ (Below w.heap.size w w')) ?_ ?_
           rotate_left
           ·intro hJ0_3
            refine join_ (σ := Value × Nat) 8 (rl_ true [3, 1, 2, 5, 1, 2]).toArray (fun s_ => [(19, s_.1), (7, .pointer (some ⟨s_.2, 0, none⟩))]) (fun s_ w' => (w'.cell? ⟨gb143, 0, none⟩ = some (.string a0_0) ∧ w'.cell? ⟨gb143, 1, none⟩ = some (.slice A0_1 l0_1.length c0_1) ∧ w'.cell? ⟨gb143, 2, none⟩ = some (.int .i64 a0_2) ∧ w'.cell? ⟨gb143, 3, none⟩ = some (.int .i64 a0_3) ∧ w'.cell? ⟨gb144, 0, none⟩ = some (.string a1_0) ∧ w'.cell? ⟨gb144, 1, none⟩ = some (.slice A1_1 l1_1.length c1_1) ∧ w'.cell? ⟨gb144, 2, none⟩ = some (.int .i64 a1_2) ∧ w'.cell? ⟨gb144, 3, none⟩ = some (.int .i64 a1_3)) ∧ (Kd.R k59 59 w' w.heap.size (fun _ => True) s_.1 y148) ∧ (w'.heap[gb143]? = some (.cells #[.string a0_0, .slice A0_1 l0_1.length c0_1, .int .i64 a0_2, .int .i64 a0_3] 32 (0, 0))) ∧ (w'.heap[gb144]? = some (.cells #[.string a1_0, .slice A1_1 l1_1.length c1_1, .int .i64 a1_2, .int .i64 a1_3] 32 (0, 0))) ∧ (w'.heap[gb145]? = some (.cells #[.int .i64 0, .int .i64 0, .int .i64 0, .int .i64 0, .int .i64 0] 27 (0, 0))) ∧ (w'.heap[s_.2]? = some (.cells #[.int .i64 0, .int .i64 0, .int .i64 0, .int .i64 0, .int .i64 0] 27 (0, 0))) ∧ (w.heap.size ≤ s_.2) ∧ (w.heap.size ≤ s_.2) ∧ (gb143 ≠ s_.2) ∧ (s_.2 ≠ gb143) ∧ (gb144 ≠ s_.2) ∧ (s_.2 ≠ gb144) ∧ (gb145 ≠ s_.2) ∧ (s_.2 ≠ gb145) ∧ (Below w.heap.size w w')) ?_ ?_
            rotate_left
            ·intro hJ0_11
             refine join_ (σ := Value) 9 (rl_ true [3, 1, 2, 8]).toArray (fun s_ => [(19, s_)]) (fun s_ w' => (w'.cell? ⟨gb143, 0, none⟩ = some (.string a0_0) ∧ w'.cell? ⟨gb143, 1, none⟩ = some (.slice A0_1 l0_1.length c0_1) ∧ w'.cell? ⟨gb143, 2, none⟩ = some (.int .i64 a0_2) ∧ w'.cell? ⟨gb143, 3, none⟩ = some (.int .i64 a0_3) ∧ w'.cell? ⟨gb144, 0, none⟩ = some (.string a1_0) ∧ w'.cell? ⟨gb144, 1, none⟩ = some (.slice A1_1 l1_1.length c1_1) ∧ w'.cell? ⟨gb144, 2, none⟩ = some (.int .i64 a1_2) ∧ w'.cell? ⟨gb144, 3, none⟩ = some (.int .i64 a1_3)) ∧ (Kd.R k59 59 w' w.heap.size (fun _ => True) s_ y148) ∧ (w'.heap[gb143]? = some (.cells #[.string a0_0, .slice A0_1 l0_1.length c0_1, .int .i64 a0_2, .int .i64 a0_3] 32 (0, 0))) ∧ (w'.heap[gb144]? = some (.cells #[.string a1_0, .slice A1_1 l1_1.length c1_1, .int .i64 a1_2, .int .i64 a1_3] 32 (0, 0))) ∧ (w'.heap[gb145]? = some (.cells #[.int .i64 0, .int .i64 0, .int .i64 0, .int .i64 0, .int .i64 0] 27 (0, 0))) ∧ (Below w.heap.size w w')) ?_ ?_
             rotate_left
             ·intro hJ0
              refine join_ (σ := Nat) 9 (rl_ true [0, 1, 2, 1, 2, 5, 1, 2]).toArray (fun s_ => [(7, .pointer (some ⟨s_, 0, none⟩))]) (fun s_ w' => (w'.cell? ⟨gb143, 0, none⟩ = some (.string a0_0) ∧ w'.cell? ⟨gb143, 1, none⟩ = some (.slice A0_1 l0_1.length c0_1) ∧ w'.cell? ⟨gb143, 2, none⟩ = some (.int .i64 a0_2) ∧ w'.cell? ⟨gb143, 3, none⟩ = some (.int .i64 a0_3) ∧ w'.cell? ⟨gb144, 0, none⟩ = some (.string a1_0) ∧ w'.cell? ⟨gb144, 1, none⟩ = some (.slice A1_1 l1_1.length c1_1) ∧ w'.cell? ⟨gb144, 2, none⟩ = some (.int .i64 a1_2) ∧ w'.cell? ⟨gb144, 3, none⟩ = some (.int .i64 a1_3)) ∧ (w'.heap[gb143]? = some (.cells #[.string a0_0, .slice A0_1 l0_1.length c0_1, .int .i64 a0_2, .int .i64 a0_3] 32 (0, 0))) ∧ (w'.heap[gb144]? = some (.cells #[.string a1_0, .slice A1_1 l1_1.length c1_1, .int .i64 a1_2, .int .i64 a1_3] 32 (0, 0))) ∧ (w'.heap[gb145]? = some (.cells #[.int .i64 0, .int .i64 0, .int .i64 0, .int .i64 0, .int .i64 0] 27 (0, 0))) ∧ (w'.heap[s_]? = some (.cells #[.int .i64 0, .int .i64 0, .int .i64 0, .int .i64 0, .int .i64 0] 27 (0, 0))) ∧ (w.heap.size ≤ s_) ∧ (w.heap.size ≤ s_) ∧ (gb143 ≠ s_) ∧ (s_ ≠ gb143) ∧ (gb144 ≠ s_) ∧ (s_ ≠ gb144) ∧ (gb145 ≠ s_) ∧ (s_ ≠ gb145) ∧ (Below w.heap.size w w')) ?_ ?_
              rotate_left
              ·intro hJ11
               refine two_ (i := 0) (j := 11) (Ni := some 19) (Nj := some 7) (rl_ true [3, 1, 2, 8]).toArray (rl_ true [0, 1, 2, 1, 2, 5, 1, 2]).toArray rfl rfl rfl rfl (two_of HT_.out (by kernel_rfl)) (by decide) (by decide) (fun K hK => ?_) (fun K hK => ?_)
               ·skip
                refine Kd.R_lit_step k59 _ 59 ?hg (N := 19) ?hd (xs := ([] : List (S59))) (inner := []) (ok := fun _ => True) (okp := fun _ => True) ?hr ?hp (fun _ hk => hk) trivial (Below.refl _ _) (Nat.le_refl _) (by simp) ?_; (case hd => rfl); (case hg => rfl); (case hr => first | (go_simp; done) | (go_simp; rfl)); (case hp => exact (Reps.none _ _))
                intro v149 w30 ho31 hb hg_ hnew_
                clear hg_ hnew_
                (first | rw [← Ny148.out] at ho31 | (simp only [Int.reduceToNat] at ho31; rw [← Ny148.out] at ho31))
                have n0_ := Aside0.mk (Kd.R_lower ho31 (below_size (by repeat (first | (with_reducible first | exact HB.out | apply below_alloc | apply pw_below_drewN | apply below_drew1 | refine below_set ?_ GE143.out | refine below_set ?_ GE144.out | refine below_set ?_ GE145.out) | exact HB.out))))
                have n1_ := Aside0.mk (blk_below (g := gb143) (o := .cells #[.string a0_0, .slice A0_1 l0_1.length c0_1, .int .i64 a0_2, .int .i64 a0_3] 32 (0, 0)) (by (with_reducible repeat (first | refine blk_drewN ?_ _ | refine blk_drew ?_ | refine blk_alloc ?_ _)); exact BK143.out) hb)
                have n2_ := Aside0.mk (blk_below (g := gb144) (o := .cells #[.string a1_0, .slice A1_1 l1_1.length c1_1, .int .i64 a1_2, .int .i64 a1_3] 32 (0, 0)) (by (with_reducible repeat (first | refine blk_drewN ?_ _ | refine blk_drew ?_ | refine blk_alloc ?_ _)); exact BK144.out) hb)
                have n3_ := Aside0.mk (blk_below (g := gb145) (o := .cells #[.int .i64 0, .int .i64 0, .int .i64 0, .int .i64 0, .int .i64 0] 27 (0, 0)) (by (with_reducible repeat (first | refine blk_drewN ?_ _ | refine blk_drew ?_ | refine blk_alloc ?_ _)); exact BK145.out) hb)
                have n4_ := Aside0.mk (below_step (by repeat (first | (with_reducible first | exact HB.out | apply below_alloc | apply pw_below_drewN | apply below_drew1 | refine below_set ?_ GE143.out | refine below_set ?_ GE144.out | refine below_set ?_ GE145.out) | exact HB.out)) hb)
                clear BK143
                clear BK144
                clear BK145
                clear HB
                have HO150 := n0_
                have BK143 := n1_
                have BK144 := n2_
                have BK145 := n3_
                have HB := n4_
                clear n0_ n1_ n2_ n3_ n4_
                clear hb ho31
                refine hK.out _ _ ⟨(blk_cell BK143.out 0).trans rfl, (blk_cell BK143.out 1).trans rfl, (blk_cell BK143.out 2).trans rfl, (blk_cell BK143.out 3).trans rfl, (blk_cell BK144.out 0).trans rfl, (blk_cell BK144.out 1).trans rfl, (blk_cell BK144.out 2).trans rfl, (blk_cell BK144.out 3).trans rfl⟩ (fun hHeld => ?_)
                clear hK K
                refine norm_ (a' := ?_) ?_ ?_
                rotate_left
                ·show Act.put _ (some 19) _ = _
                 simp only [Act.put, List.setIfInBounds_toArray, List.set_cons_zero, List.set_cons_succ, i64_w, i32_w]
                 rfl
                exact norm_ (by first | (simp only [putAll, Act.put, List.setIfInBounds_toArray, List.set_cons_zero, List.set_cons_succ]; done) | (simp only [putAll, Act.put, List.setIfInBounds_toArray, List.set_cons_zero, List.set_cons_succ]; rfl)) (hJ0 (v149) _ ⟨hHeld, (by (with_reducible repeat (first | apply Kd.R_alloc | apply Kd.R_drewN | apply Kd.R_drew)); exact HO150.out), (by (with_reducible repeat (first | refine blk_drewN ?_ _ | refine blk_drew ?_ | refine blk_alloc ?_ _)); exact BK143.out), (by (with_reducible repeat (first | refine blk_drewN ?_ _ | refine blk_drew ?_ | refine blk_alloc ?_ _)); exact BK144.out), (by (with_reducible repeat (first | refine blk_drewN ?_ _ | refine blk_drew ?_ | refine blk_alloc ?_ _)); exact BK145.out), (by repeat (first | (with_reducible first | exact HB.out | apply below_alloc | apply pw_below_drewN | apply below_drew1 | refine below_set ?_ GE143.out | refine below_set ?_ GE144.out | refine below_set ?_ GE145.out) | exact HB.out))⟩)
               ·skip
                refine box_step ?hg (N := 7) ?hd (cs := #[.int .i64 0, .int .i64 0, .int .i64 0, .int .i64 0, .int .i64 0]) (t := 27) ?hr ?_; (case hd => rfl); (case hg => rfl); (case hr => first | (go_simp; done) | (go_simp; rfl))
                intro gb163 hg w30 hbox hb
                have n0_ := Aside0.mk (blk_below (g := gb143) (o := .cells #[.string a0_0, .slice A0_1 l0_1.length c0_1, .int .i64 a0_2, .int .i64 a0_3] 32 (0, 0)) (by (with_reducible repeat (first | refine blk_drewN ?_ _ | refine blk_drew ?_ | refine blk_alloc ?_ _)); exact BK143.out) hb)
                have n1_ := Aside0.mk (blk_below (g := gb144) (o := .cells #[.string a1_0, .slice A1_1 l1_1.length c1_1, .int .i64 a1_2, .int .i64 a1_3] 32 (0, 0)) (by (with_reducible repeat (first | refine blk_drewN ?_ _ | refine blk_drew ?_ | refine blk_alloc ?_ _)); exact BK144.out) hb)
                have n2_ := Aside0.mk (blk_below (g := gb145) (o := .cells #[.int .i64 0, .int .i64 0, .int .i64 0, .int .i64 0, .int .i64 0] 27 (0, 0)) (by (with_reducible repeat (first | refine blk_drewN ?_ _ | refine blk_drew ?_ | refine blk_alloc ?_ _)); exact BK145.out) hb)
                have n3_ := Aside0.mk (below_step (by repeat (first | (with_reducible first | exact HB.out | apply below_alloc | apply pw_below_drewN | apply below_drew1 | refine below_set ?_ GE143.out | refine below_set ?_ GE144.out | refine below_set ?_ GE145.out) | exact HB.out)) hb)
                have n4_ := Aside0.mk (hbox)
                have n5_ := Aside0.mk ((by rw [hg]; exact (below_size (by repeat (first | (with_reducible first | exact HB.out | apply below_alloc | apply pw_below_drewN | apply below_drew1 | refine below_set ?_ GE143.out | refine below_set ?_ GE144.out | refine below_set ?_ GE145.out) | exact HB.out))) : w.heap.size ≤ gb163))
                have n6_ := Aside0.mk ((by rw [hg]; exact (below_size (by repeat (first | (with_reducible first | exact HB.out | apply below_alloc | apply pw_below_drewN | apply below_drew1 | refine below_set ?_ GE143.out | refine below_set ?_ GE144.out | refine below_set ?_ GE145.out) | exact HB.out))) : w.heap.size ≤ gb163))
                have n7_ := Aside0.mk ((by rw [hg]; exact Nat.ne_of_lt (blk_lt (g := gb143) (o := .cells #[.string a0_0, .slice A0_1 l0_1.length c0_1, .int .i64 a0_2, .int .i64 a0_3] 32 (0, 0)) (by (with_reducible repeat (first | refine blk_drewN ?_ _ | refine blk_drew ?_ | refine blk_alloc ?_ _)); exact BK143.out)) : gb143 ≠ gb163))
                have n8_ := Aside0.mk ((by rw [hg]; exact Nat.ne_of_gt (blk_lt (g := gb143) (o := .cells #[.string a0_0, .slice A0_1 l0_1.length c0_1, .int .i64 a0_2, .int .i64 a0_3] 32 (0, 0)) (by (with_reducible repeat (first | refine blk_drewN ?_ _ | refine blk_drew ?_ | refine blk_alloc ?_ _)); exact BK143.out)) : gb163 ≠ gb143))
                have n9_ := Aside0.mk ((by rw [hg]; exact Nat.ne_of_lt (blk_lt (g := gb144) (o := .cells #[.string a1_0, .slice A1_1 l1_1.length c1_1, .int .i64 a1_2, .int .i64 a1_3] 32 (0, 0)) (by (with_reducible repeat (first | refine blk_drewN ?_ _ | refine blk_drew ?_ | refine blk_alloc ?_ _)); exact BK144.out)) : gb144 ≠ gb163))
                have n10_ := Aside0.mk ((by rw [hg]; exact Nat.ne_of_gt (blk_lt (g := gb144) (o := .cells #[.string a1_0, .slice A1_1 l1_1.length c1_1, .int .i64 a1_2, .int .i64 a1_3] 32 (0, 0)) (by (with_reducible repeat (first | refine blk_drewN ?_ _ | refine blk_drew ?_ | refine blk_alloc ?_ _)); exact BK144.out)) : gb163 ≠ gb144))
                have n11_ := Aside0.mk ((by rw [hg]; exact Nat.ne_of_lt (blk_lt (g := gb145) (o := .cells #[.int .i64 0, .int .i64 0, .int .i64 0, .int .i64 0, .int .i64 0] 27 (0, 0)) (by (with_reducible repeat (first | refine blk_drewN ?_ _ | refine blk_drew ?_ | refine blk_alloc ?_ _)); exact BK145.out)) : gb145 ≠ gb163))
                have n12_ := Aside0.mk ((by rw [hg]; exact Nat.ne_of_gt (blk_lt (g := gb145) (o := .cells #[.int .i64 0, .int .i64 0, .int .i64 0, .int .i64 0, .int .i64 0] 27 (0, 0)) (by (with_reducible repeat (first | refine blk_drewN ?_ _ | refine blk_drew ?_ | refine blk_alloc ?_ _)); exact BK145.out)) : gb163 ≠ gb145))
                clear BK143
                clear BK144
                clear BK145
                clear HB
                have BK143 := n0_
                have BK144 := n1_
                have BK145 := n2_
                have HB := n3_
                have BK163 := n4_
                have GW163 := n5_
                have GE163 := n6_
                have NB143_163 := n7_
                have NB163_143 := n8_
                have NB144_163 := n9_
                have NB163_144 := n10_
                have NB145_163 := n11_
                have NB163_145 := n12_
                clear n0_ n1_ n2_ n3_ n4_ n5_ n6_ n7_ n8_ n9_ n10_ n11_ n12_
                clear hb hbox hg
                refine hK.out _ _ ⟨(blk_cell BK143.out 0).trans rfl, (blk_cell BK143.out 1).trans rfl, (blk_cell BK143.out 2).trans rfl, (blk_cell BK143.out 3).trans rfl, (blk_cell BK144.out 0).trans rfl, (blk_cell BK144.out 1).trans rfl, (blk_cell BK144.out 2).trans rfl, (blk_cell BK144.out 3).trans rfl⟩ (fun hHeld => ?_)
                clear hK K
                refine norm_ (a' := ?_) ?_ ?_
                rotate_left
                ·show Act.put _ (some 7) _ = _
                 simp only [Act.put, List.setIfInBounds_toArray, List.set_cons_zero, List.set_cons_succ, i64_w, i32_w]
                 rfl
                exact norm_ (by first | (simp only [putAll, Act.put, List.setIfInBounds_toArray, List.set_cons_zero, List.set_cons_succ]; done) | (simp only [putAll, Act.put, List.setIfInBounds_toArray, List.set_cons_zero, List.set_cons_succ]; rfl)) (hJ11 (gb163) _ ⟨hHeld, (by (with_reducible repeat (first | refine blk_drewN ?_ _ | refine blk_drew ?_ | refine blk_alloc ?_ _)); exact BK143.out), (by (with_reducible repeat (first | refine blk_drewN ?_ _ | refine blk_drew ?_ | refine blk_alloc ?_ _)); exact BK144.out), (by (with_reducible repeat (first | refine blk_drewN ?_ _ | refine blk_drew ?_ | refine blk_alloc ?_ _)); exact BK145.out), (by (with_reducible repeat (first | refine blk_drewN ?_ _ | refine blk_drew ?_ | refine blk_alloc ?_ _)); exact BK163.out), GW163.out, GE163.out, NB143_163.out, NB163_143.out, NB144_163.out, NB163_144.out, NB145_163.out, NB163_145.out, (by repeat (first | (with_reducible first | exact HB.out | apply below_alloc | apply pw_below_drewN | apply below_drew1 | refine below_set ?_ GE143.out | refine below_set ?_ GE144.out | refine below_set ?_ GE145.out | refine below_set ?_ GE163.out) | exact HB.out))⟩)
              ·skip
               rintro gb163 w31 ⟨hS_, h0_, h1_, h2_, h3_, h4_, h5_, h6_, h7_, h8_, h9_, h10_, h11_, h12_⟩
               have n0_ : Aside0 (w31.heap[gb143]? = some (.cells #[.string a0_0, .slice A0_1 l0_1.length c0_1, .int .i64 a0_2, .int .i64 a0_3] 32 (0, 0))) := ⟨h0_⟩
               have n1_ : Aside0 (w31.heap[gb144]? = some (.cells #[.string a1_0, .slice A1_1 l1_1.length c1_1, .int .i64 a1_2, .int .i64 a1_3] 32 (0, 0))) := ⟨h1_⟩
               have n2_ : Aside0 (w31.heap[gb145]? = some (.cells #[.int .i64 0, .int .i64 0, .int .i64 0, .int .i64 0, .int .i64 0] 27 (0, 0))) := ⟨h2_⟩
               have n3_ : Aside0 (w31.heap[gb163]? = some (.cells #[.int .i64 0, .int .i64 0, .int .i64 0, .int .i64 0, .int .i64 0] 27 (0, 0))) := ⟨h3_⟩
               have n4_ : Aside0 (w.heap.size ≤ gb163) := ⟨h4_⟩
               have n5_ : Aside0 (w.heap.size ≤ gb163) := ⟨h5_⟩
               have n6_ : Aside0 (gb143 ≠ gb163) := ⟨h6_⟩
               have n7_ : Aside0 (gb163 ≠ gb143) := ⟨h7_⟩
               have n8_ : Aside0 (gb144 ≠ gb163) := ⟨h8_⟩
               have n9_ : Aside0 (gb163 ≠ gb144) := ⟨h9_⟩
               have n10_ : Aside0 (gb145 ≠ gb163) := ⟨h10_⟩
               have n11_ : Aside0 (gb163 ≠ gb145) := ⟨h11_⟩
               have n12_ : Aside0 (Below w.heap.size w w31) := ⟨h12_⟩
               clear BK143
               clear BK144
               clear BK145
               clear HB
               clear h0_ h1_ h2_ h3_ h4_ h5_ h6_ h7_ h8_ h9_ h10_ h11_ h12_
               have BK143 := n0_
               have BK144 := n1_
               have BK145 := n2_
               have BK163 := n3_
               have GW163 := n4_
               have GE163 := n5_
               have NB143_163 := n6_
               have NB163_143 := n7_
               have NB144_163 := n8_
               have NB163_144 := n9_
               have NB145_163 := n10_
               have NB163_145 := n11_
               have HB := n12_
               clear n0_ n1_ n2_ n3_ n4_ n5_ n6_ n7_ n8_ n9_ n10_ n11_ n12_
               have hHeld : w31.cell? ⟨gb143, 0, none⟩ = some (.string a0_0) ∧ w31.cell? ⟨gb143, 1, none⟩ = some (.slice A0_1 l0_1.length c0_1) ∧ w31.cell? ⟨gb143, 2, none⟩ = some (.int .i64 a0_2) ∧ w31.cell? ⟨gb143, 3, none⟩ = some (.int .i64 a0_3) ∧ w31.cell? ⟨gb144, 0, none⟩ = some (.string a1_0) ∧ w31.cell? ⟨gb144, 1, none⟩ = some (.slice A1_1 l1_1.length c1_1) ∧ w31.cell? ⟨gb144, 2, none⟩ = some (.int .i64 a1_2) ∧ w31.cell? ⟨gb144, 3, none⟩ = some (.int .i64 a1_3) := hS_
               refine norm_ (a' := ?_) ?_ ?_
               rotate_left
               ·simp only [putAll, Act.put, List.setIfInBounds_toArray, List.set_cons_zero, List.set_cons_succ]
                rfl
               refine one_ (i := 0) (N := some 19) (rl_ true [3, 1, 2, 5, 1, 2]).toArray rfl rfl (one_of HT_.out (by kernel_rfl)) (by decide) (fun K hK => ?_)
               refine Kd.R_lit_step k59 _ 59 ?hg (N := 19) ?hd (xs := ([] : List (S59))) (inner := []) (ok := fun _ => True) (okp := fun _ => True) ?hr ?hp (fun _ hk => hk) trivial (Below.refl _ _) (Nat.le_refl _) (by simp) ?_; (case hd => rfl); (case hg => rfl); (case hr => first | (go_simp; done) | (go_simp; rfl)); (case hp => exact (Reps.none _ _))
               intro v149 w32 ho33 hb hg_ hnew_
               clear hg_ hnew_
               (first | rw [← Ny148.out] at ho33 | (simp only [Int.reduceToNat] at ho33; rw [← Ny148.out] at ho33))
               have n0_ := Aside0.mk (Kd.R_lower ho33 (below_size (by repeat (first | (with_reducible first | exact HB.out | apply below_alloc | apply pw_below_drewN | apply below_drew1 | refine below_set ?_ GE143.out | refine below_set ?_ GE144.out | refine below_set ?_ GE145.out | refine below_set ?_ GE163.out) | exact HB.out))))
               have n1_ := Aside0.mk (blk_below (g := gb143) (o := .cells #[.string a0_0, .slice A0_1 l0_1.length c0_1, .int .i64 a0_2, .int .i64 a0_3] 32 (0, 0)) (by (with_reducible repeat (first | refine blk_drewN ?_ _ | refine blk_drew ?_ | refine blk_alloc ?_ _)); exact BK143.out) hb)
               have n2_ := Aside0.mk (blk_below (g := gb144) (o := .cells #[.string a1_0, .slice A1_1 l1_1.length c1_1, .int .i64 a1_2, .int .i64 a1_3] 32 (0, 0)) (by (with_reducible repeat (first | refine blk_drewN ?_ _ | refine blk_drew ?_ | refine blk_alloc ?_ _)); exact BK144.out) hb)
               have n3_ := Aside0.mk (blk_below (g := gb145) (o := .cells #[.int .i64 0, .int .i64 0, .int .i64 0, .int .i64 0, .int .i64 0] 27 (0, 0)) (by (with_reducible repeat (first | refine blk_drewN ?_ _ | refine blk_drew ?_ | refine blk_alloc ?_ _)); exact BK145.out) hb)
               have n4_ := Aside0.mk (blk_below (g := gb163) (o := .cells #[.int .i64 0, .int .i64 0, .int .i64 0, .int .i64 0, .int .i64 0] 27 (0, 0)) (by (with_reducible repeat (first | refine blk_drewN ?_ _ | refine blk_drew ?_ | refine blk_alloc ?_ _)); exact BK163.out) hb)
               have n5_ := Aside0.mk (below_step (by repeat (first | (with_reducible first | exact HB.out | apply below_alloc | apply pw_below_drewN | apply below_drew1 | refine below_set ?_ GE143.out | refine below_set ?_ GE144.out | refine below_set ?_ GE145.out | refine below_set ?_ GE163.out) | exact HB.out)) hb)
               clear BK143
               clear BK144
               clear BK145
               clear BK163
               clear HB
               have HO150 := n0_
               have BK143 := n1_
               have BK144 := n2_
               have BK145 := n3_
               have BK163 := n4_
               have HB := n5_
               clear n0_ n1_ n2_ n3_ n4_ n5_
               clear hb ho33
               refine hK.out _ _ ⟨(blk_cell BK143.out 0).trans rfl, (blk_cell BK143.out 1).trans rfl, (blk_cell BK143.out 2).trans rfl, (blk_cell BK143.out 3).trans rfl, (blk_cell BK144.out 0).trans rfl, (blk_cell BK144.out 1).trans rfl, (blk_cell BK144.out 2).trans rfl, (blk_cell BK144.out 3).trans rfl⟩ (fun hHeld => ?_)
               clear hK K
               refine norm_ (a' := ?_) ?_ ?_
               rotate_left
               ·show Act.put _ (some 19) _ = _
                simp only [Act.put, List.setIfInBounds_toArray, List.set_cons_zero, List.set_cons_succ, i64_w, i32_w]
                rfl
               exact norm_ (by first | (simp only [putAll, Act.put, List.setIfInBounds_toArray, List.set_cons_zero, List.set_cons_succ]; done) | (simp only [putAll, Act.put, List.setIfInBounds_toArray, List.set_cons_zero, List.set_cons_succ]; rfl)) (hJ0_11 (v149, gb163) _ ⟨hHeld, (by (with_reducible repeat (first | apply Kd.R_alloc | apply Kd.R_drewN | apply Kd.R_drew)); exact HO150.out), (by (with_reducible repeat (first | refine blk_drewN ?_ _ | refine blk_drew ?_ | refine blk_alloc ?_ _)); exact BK143.out), (by (with_reducible repeat (first | refine blk_drewN ?_ _ | refine blk_drew ?_ | refine blk_alloc ?_ _)); exact BK144.out), (by (with_reducible repeat (first | refine blk_drewN ?_ _ | refine blk_drew ?_ | refine blk_alloc ?_ _)); exact BK145.out), (by (with_reducible repeat (first | refine blk_drewN ?_ _ | refine blk_drew ?_ | refine blk_alloc ?_ _)); exact BK163.out), GW163.out, GE163.out, NB143_163.out, NB163_143.out, NB144_163.out, NB163_144.out, NB145_163.out, NB163_145.out, (by repeat (first | (with_reducible first | exact HB.out | apply below_alloc | apply pw_below_drewN | apply below_drew1 | refine below_set ?_ GE143.out | refine below_set ?_ GE144.out | refine below_set ?_ GE145.out | refine below_set ?_ GE163.out) | exact HB.out))⟩)
             ·skip
              rintro v149 w32 ⟨hS_, h0_, h1_, h2_, h3_, h4_⟩
              have n0_ : Aside0 (Kd.R k59 59 w32 w.heap.size (fun _ => True) v149 y148) := ⟨h0_⟩
              have n1_ : Aside0 (w32.heap[gb143]? = some (.cells #[.string a0_0, .slice A0_1 l0_1.length c0_1, .int .i64 a0_2, .int .i64 a0_3] 32 (0, 0))) := ⟨h1_⟩
              have n2_ : Aside0 (w32.heap[gb144]? = some (.cells #[.string a1_0, .slice A1_1 l1_1.length c1_1, .int .i64 a1_2, .int .i64 a1_3] 32 (0, 0))) := ⟨h2_⟩
              have n3_ : Aside0 (w32.heap[gb145]? = some (.cells #[.int .i64 0, .int .i64 0, .int .i64 0, .int .i64 0, .int .i64 0] 27 (0, 0))) := ⟨h3_⟩
              have n4_ : Aside0 (Below w.heap.size w w32) := ⟨h4_⟩
              clear BK143
              clear BK144
              clear BK145
              clear HB
              clear h0_ h1_ h2_ h3_ h4_
              have HO150 := n0_
              have BK143 := n1_
              have BK144 := n2_
              have BK145 := n3_
              have HB := n4_
              clear n0_ n1_ n2_ n3_ n4_
              have hHeld : w32.cell? ⟨gb143, 0, none⟩ = some (.string a0_0) ∧ w32.cell? ⟨gb143, 1, none⟩ = some (.slice A0_1 l0_1.length c0_1) ∧ w32.cell? ⟨gb143, 2, none⟩ = some (.int .i64 a0_2) ∧ w32.cell? ⟨gb143, 3, none⟩ = some (.int .i64 a0_3) ∧ w32.cell? ⟨gb144, 0, none⟩ = some (.string a1_0) ∧ w32.cell? ⟨gb144, 1, none⟩ = some (.slice A1_1 l1_1.length c1_1) ∧ w32.cell? ⟨gb144, 2, none⟩ = some (.int .i64 a1_2) ∧ w32.cell? ⟨gb144, 3, none⟩ = some (.int .i64 a1_3) := hS_
              refine norm_ (a' := ?_) ?_ ?_
              rotate_left
              ·simp only [putAll, Act.put, List.setIfInBounds_toArray, List.set_cons_zero, List.set_cons_succ]
               rfl
              refine two_ (i := 3) (j := 11) (Ni := some 22) (Nj := some 7) (rl_ true [6, 8]).toArray (rl_ true [3, 1, 2, 5, 1, 2]).toArray rfl rfl rfl rfl (two_of HT_.out (by kernel_rfl)) (by decide) (by decide) (fun K hK => ?_) (fun K hK => ?_)
              ·skip
               refine Kd.R_append_rows_step k59 (w0 := w) w.heap.size (by rfl) (.tmp 19) (.tmp 21) 30 59 (.agg #[(.int .i64 0), (.int .i64 0), (.int .i64 0)]) 24 rfl Try.underlying30 info59 rfl (by decide) (by omega) v149 y148 l0_1 _ _ _ (fun _ => True) (fun _ => False) rfl rfl ?aO ?aR (fun _ _ h => h) (fun _ h => h.elim) ?aF ?aB ?aS ?aL ?_
               (case aR => repeat (first | exact (Kd.C_below HR0_1.out HB.out) | (with_reducible refine Kd.C_alloc ?_ _) | (with_reducible refine Kd.C_drewN ?_ _) | (with_reducible refine Kd.C_drew ?_)))
               (case aB => exact (by repeat (first | (with_reducible first | exact HB.out | apply below_alloc | apply pw_below_drewN | apply below_drew1 | refine below_set ?_ GE143.out | refine below_set ?_ GE144.out | refine below_set ?_ GE145.out) | exact HB.out)))
               (case aF => exact (fun _ _ => trivial))
               (case aO => exact (by (with_reducible repeat (first | apply Kd.R_alloc | apply Kd.R_drewN | apply Kd.R_drew)); exact HO150.out))
               (case aS => exact (below_size (by repeat (first | (with_reducible first | exact HB.out | apply below_alloc | apply pw_below_drewN | apply below_drew1 | refine below_set ?_ GE143.out | refine below_set ?_ GE144.out | refine below_set ?_ GE145.out) | exact HB.out))))
               (case aL => have := LMc25.out; omega)
               intro v152 w33 ho hb hg hat
               rw [← Ny151.out] at ho
               have n0_ := Aside0.mk (blk_grown (g := gb143) (o := .cells #[.string a0_0, .slice A0_1 l0_1.length c0_1, .int .i64 a0_2, .int .i64 a0_3] 32 (0, 0)) (by (with_reducible repeat (first | refine blk_drewN ?_ _ | refine blk_drew ?_ | refine blk_alloc ?_ _)); exact BK143.out) hg (Kd.R_ne HO150.out BK143.out (by decide)))
               have n1_ := Aside0.mk (blk_grown (g := gb144) (o := .cells #[.string a1_0, .slice A1_1 l1_1.length c1_1, .int .i64 a1_2, .int .i64 a1_3] 32 (0, 0)) (by (with_reducible repeat (first | refine blk_drewN ?_ _ | refine blk_drew ?_ | refine blk_alloc ?_ _)); exact BK144.out) hg (Kd.R_ne HO150.out BK144.out (by decide)))
               have n2_ := Aside0.mk (blk_grown (g := gb145) (o := .cells #[.int .i64 0, .int .i64 0, .int .i64 0, .int .i64 0, .int .i64 0] 27 (0, 0)) (by (with_reducible repeat (first | refine blk_drewN ?_ _ | refine blk_drew ?_ | refine blk_alloc ?_ _)); exact BK145.out) hg (Kd.R_ne HO150.out BK145.out (by decide)))
               have n3_ := Aside0.mk (hb)
               have n4_ := Aside0.mk (ho)
               clear BK143
               clear BK144
               clear BK145
               clear HB
               clear HO150
               have BK143 := n0_
               have BK144 := n1_
               have BK145 := n2_
               have HB := n3_
               have HO153 := n4_
               clear n0_ n1_ n2_ n3_ n4_
               clear ho hb hg hat
               refine hK.out _ _ ⟨(blk_cell BK143.out 0).trans rfl, (blk_cell BK143.out 1).trans rfl, (blk_cell BK143.out 2).trans rfl, (blk_cell BK143.out 3).trans rfl, (blk_cell BK144.out 0).trans rfl, (blk_cell BK144.out 1).trans rfl, (blk_cell BK144.out 2).trans rfl, (blk_cell BK144.out 3).trans rfl⟩ (fun hHeld => ?_)
               clear hK K
               refine norm_ (a' := ?_) ?_ ?_
               rotate_left
               ·show Act.put _ (some 22) _ = _
                simp only [Act.put, List.setIfInBounds_toArray, List.set_cons_zero, List.set_cons_succ, i64_w, i32_w]
                rfl
               exact norm_ (by first | (simp only [putAll, Act.put, List.setIfInBounds_toArray, List.set_cons_zero, List.set_cons_succ]; done) | (simp only [putAll, Act.put, List.setIfInBounds_toArray, List.set_cons_zero, List.set_cons_succ]; rfl)) (hJ0_3 (v149, v152) _ ⟨hHeld, (by (with_reducible repeat (first | apply Kd.R_alloc | apply Kd.R_drewN | apply Kd.R_drew)); exact HO153.out), (by (with_reducible repeat (first | refine blk_drewN ?_ _ | refine blk_drew ?_ | refine blk_alloc ?_ _)); exact BK143.out), (by (with_reducible repeat (first | refine blk_drewN ?_ _ | refine blk_drew ?_ | refine blk_alloc ?_ _)); exact BK144.out), (by (with_reducible repeat (first | refine blk_drewN ?_ _ | refine blk_drew ?_ | refine blk_alloc ?_ _)); exact BK145.out), (by repeat (first | (with_reducible first | exact HB.out | apply below_alloc | apply pw_below_drewN | apply below_drew1 | refine below_set ?_ GE143.out | refine below_set ?_ GE144.out | refine below_set ?_ GE145.out) | exact HB.out))⟩)
              ·skip
               refine box_step ?hg (N := 7) ?hd (cs := #[.int .i64 0, .int .i64 0, .int .i64 0, .int .i64 0, .int .i64 0]) (t := 27) ?hr ?_; (case hd => rfl); (case hg => rfl); (case hr => first | (go_simp; done) | (go_simp; rfl))
               intro gb163 hg w33 hbox hb
               have n0_ := Aside0.mk (Kd.R_below (by (with_reducible repeat (first | apply Kd.R_alloc | apply Kd.R_drewN | apply Kd.R_drew)); exact HO150.out) hb)
               have n1_ := Aside0.mk (blk_below (g := gb143) (o := .cells #[.string a0_0, .slice A0_1 l0_1.length c0_1, .int .i64 a0_2, .int .i64 a0_3] 32 (0, 0)) (by (with_reducible repeat (first | refine blk_drewN ?_ _ | refine blk_drew ?_ | refine blk_alloc ?_ _)); exact BK143.out) hb)
               have n2_ := Aside0.mk (blk_below (g := gb144) (o := .cells #[.string a1_0, .slice A1_1 l1_1.length c1_1, .int .i64 a1_2, .int .i64 a1_3] 32 (0, 0)) (by (with_reducible repeat (first | refine blk_drewN ?_ _ | refine blk_drew ?_ | refine blk_alloc ?_ _)); exact BK144.out) hb)
               have n3_ := Aside0.mk (blk_below (g := gb145) (o := .cells #[.int .i64 0, .int .i64 0, .int .i64 0, .int .i64 0, .int .i64 0] 27 (0, 0)) (by (with_reducible repeat (first | refine blk_drewN ?_ _ | refine blk_drew ?_ | refine blk_alloc ?_ _)); exact BK145.out) hb)
               have n4_ := Aside0.mk (below_step (by repeat (first | (with_reducible first | exact HB.out | apply below_alloc | apply pw_below_drewN | apply below_drew1 | refine below_set ?_ GE143.out | refine below_set ?_ GE144.out | refine below_set ?_ GE145.out) | exact HB.out)) hb)
               have n5_ := Aside0.mk (hbox)
               have n6_ := Aside0.mk ((by rw [hg]; exact (below_size (by repeat (first | (with_reducible first | exact HB.out | apply below_alloc | apply pw_below_drewN | apply below_drew1 | refine below_set ?_ GE143.out | refine below_set ?_ GE144.out | refine below_set ?_ GE145.out) | exact HB.out))) : w.heap.size ≤ gb163))
               have n7_ := Aside0.mk ((by rw [hg]; exact (below_size (by repeat (first | (with_reducible first | exact HB.out | apply below_alloc | apply pw_below_drewN | apply below_drew1 | refine below_set ?_ GE143.out | refine below_set ?_ GE144.out | refine below_set ?_ GE145.out) | exact HB.out))) : w.heap.size ≤ gb163))
               have n8_ := Aside0.mk ((by rw [hg]; exact Nat.ne_of_lt (blk_lt (g := gb143) (o := .cells #[.string a0_0, .slice A0_1 l0_1.length c0_1, .int .i64 a0_2, .int .i64 a0_3] 32 (0, 0)) (by (with_reducible repeat (first | refine blk_drewN ?_ _ | refine blk_drew ?_ | refine blk_alloc ?_ _)); exact BK143.out)) : gb143 ≠ gb163))
               have n9_ := Aside0.mk ((by rw [hg]; exact Nat.ne_of_gt (blk_lt (g := gb143) (o := .cells #[.string a0_0, .slice A0_1 l0_1.length c0_1, .int .i64 a0_2, .int .i64 a0_3] 32 (0, 0)) (by (with_reducible repeat (first | refine blk_drewN ?_ _ | refine blk_drew ?_ | refine blk_alloc ?_ _)); exact BK143.out)) : gb163 ≠ gb143))
               have n10_ := Aside0.mk ((by rw [hg]; exact Nat.ne_of_lt (blk_lt (g := gb144) (o := .cells #[.string a1_0, .slice A1_1 l1_1.length c1_1, .int .i64 a1_2, .int .i64 a1_3] 32 (0, 0)) (by (with_reducible repeat (first | refine blk_drewN ?_ _ | refine blk_drew ?_ | refine blk_alloc ?_ _)); exact BK144.out)) : gb144 ≠ gb163))
               have n11_ := Aside0.mk ((by rw [hg]; exact Nat.ne_of_gt (blk_lt (g := gb144) (o := .cells #[.string a1_0, .slice A1_1 l1_1.length c1_1, .int .i64 a1_2, .int .i64 a1_3] 32 (0, 0)) (by (with_reducible repeat (first | refine blk_drewN ?_ _ | refine blk_drew ?_ | refine blk_alloc ?_ _)); exact BK144.out)) : gb163 ≠ gb144))
               have n12_ := Aside0.mk ((by rw [hg]; exact Nat.ne_of_lt (blk_lt (g := gb145) (o := .cells #[.int .i64 0, .int .i64 0, .int .i64 0, .int .i64 0, .int .i64 0] 27 (0, 0)) (by (with_reducible repeat (first | refine blk_drewN ?_ _ | refine blk_drew ?_ | refine blk_alloc ?_ _)); exact BK145.out)) : gb145 ≠ gb163))
               have n13_ := Aside0.mk ((by rw [hg]; exact Nat.ne_of_gt (blk_lt (g := gb145) (o := .cells #[.int .i64 0, .int .i64 0, .int .i64 0, .int .i64 0, .int .i64 0] 27 (0, 0)) (by (with_reducible repeat (first | refine blk_drewN ?_ _ | refine blk_drew ?_ | refine blk_alloc ?_ _)); exact BK145.out)) : gb163 ≠ gb145))
               clear HO150
               clear BK143
               clear BK144
               clear BK145
               clear HB
               have HO150 := n0_
               have BK143 := n1_
               have BK144 := n2_
               have BK145 := n3_
               have HB := n4_
               have BK163 := n5_
               have GW163 := n6_
               have GE163 := n7_
               have NB143_163 := n8_
               have NB163_143 := n9_
               have NB144_163 := n10_
               have NB163_144 := n11_
               have NB145_163 := n12_
               have NB163_145 := n13_
               clear n0_ n1_ n2_ n3_ n4_ n5_ n6_ n7_ n8_ n9_ n10_ n11_ n12_ n13_
               clear hb hbox hg
               refine hK.out _ _ ⟨(blk_cell BK143.out 0).trans rfl, (blk_cell BK143.out 1).trans rfl, (blk_cell BK143.out 2).trans rfl, (blk_cell BK143.out 3).trans rfl, (blk_cell BK144.out 0).trans rfl, (blk_cell BK144.out 1).trans rfl, (blk_cell BK144.out 2).trans rfl, (blk_cell BK144.out 3).trans rfl⟩ (fun hHeld => ?_)
               clear hK K
               refine norm_ (a' := ?_) ?_ ?_
               rotate_left
               ·show Act.put _ (some 7) _ = _
                simp only [Act.put, List.setIfInBounds_toArray, List.set_cons_zero, List.set_cons_succ, i64_w, i32_w]
                rfl
               exact norm_ (by first | (simp only [putAll, Act.put, List.setIfInBounds_toArray, List.set_cons_zero, List.set_cons_succ]; done) | (simp only [putAll, Act.put, List.setIfInBounds_toArray, List.set_cons_zero, List.set_cons_succ]; rfl)) (hJ0_11 (v149, gb163) _ ⟨hHeld, (by (with_reducible repeat (first | apply Kd.R_alloc | apply Kd.R_drewN | apply Kd.R_drew)); exact HO150.out), (by (with_reducible repeat (first | refine blk_drewN ?_ _ | refine blk_drew ?_ | refine blk_alloc ?_ _)); exact BK143.out), (by (with_reducible repeat (first | refine blk_drewN ?_ _ | refine blk_drew ?_ | refine blk_alloc ?_ _)); exact BK144.out), (by (with_reducible repeat (first | refine blk_drewN ?_ _ | refine blk_drew ?_ | refine blk_alloc ?_ _)); exact BK145.out), (by (with_reducible repeat (first | refine blk_drewN ?_ _ | refine blk_drew ?_ | refine blk_alloc ?_ _)); exact BK163.out), GW163.out, GE163.out, NB143_163.out, NB163_143.out, NB144_163.out, NB163_144.out, NB145_163.out, NB163_145.out, (by repeat (first | (with_reducible first | exact HB.out | apply below_alloc | apply pw_below_drewN | apply below_drew1 | refine below_set ?_ GE143.out | refine below_set ?_ GE144.out | refine below_set ?_ GE145.out | refine below_set ?_ GE163.out) | exact HB.out))⟩)
            ·skip
             rintro ⟨v149, gb163⟩ w33 ⟨hS_, h0_, h1_, h2_, h3_, h4_, h5_, h6_, h7_, h8_, h9_, h10_, h11_, h12_, h13_⟩
             have n0_ : Aside0 (Kd.R k59 59 w33 w.heap.size (fun _ => True) v149 y148) := ⟨h0_⟩
             have n1_ : Aside0 (w33.heap[gb143]? = some (.cells #[.string a0_0, .slice A0_1 l0_1.length c0_1, .int .i64 a0_2, .int .i64 a0_3] 32 (0, 0))) := ⟨h1_⟩
             have n2_ : Aside0 (w33.heap[gb144]? = some (.cells #[.string a1_0, .slice A1_1 l1_1.length c1_1, .int .i64 a1_2, .int .i64 a1_3] 32 (0, 0))) := ⟨h2_⟩
             have n3_ : Aside0 (w33.heap[gb145]? = some (.cells #[.int .i64 0, .int .i64 0, .int .i64 0, .int .i64 0, .int .i64 0] 27 (0, 0))) := ⟨h3_⟩
             have n4_ : Aside0 (w33.heap[gb163]? = some (.cells #[.int .i64 0, .int .i64 0, .int .i64 0, .int .i64 0, .int .i64 0] 27 (0, 0))) := ⟨h4_⟩
             have n5_ : Aside0 (w.heap.size ≤ gb163) := ⟨h5_⟩
             have n6_ : Aside0 (w.heap.size ≤ gb163) := ⟨h6_⟩
             have n7_ : Aside0 (gb143 ≠ gb163) := ⟨h7_⟩
             have n8_ : Aside0 (gb163 ≠ gb143) := ⟨h8_⟩
             have n9_ : Aside0 (gb144 ≠ gb163) := ⟨h9_⟩
             have n10_ : Aside0 (gb163 ≠ gb144) := ⟨h10_⟩
             have n11_ : Aside0 (gb145 ≠ gb163) := ⟨h11_⟩
             have n12_ : Aside0 (gb163 ≠ gb145) := ⟨h12_⟩
             have n13_ : Aside0 (Below w.heap.size w w33) := ⟨h13_⟩
             clear BK143
             clear BK144
             clear BK145
             clear HB
             clear h0_ h1_ h2_ h3_ h4_ h5_ h6_ h7_ h8_ h9_ h10_ h11_ h12_ h13_
             have HO150 := n0_
             have BK143 := n1_
             have BK144 := n2_
             have BK145 := n3_
             have BK163 := n4_
             have GW163 := n5_
             have GE163 := n6_
             have NB143_163 := n7_
             have NB163_143 := n8_
             have NB144_163 := n9_
             have NB163_144 := n10_
             have NB145_163 := n11_
             have NB163_145 := n12_
             have HB := n13_
             clear n0_ n1_ n2_ n3_ n4_ n5_ n6_ n7_ n8_ n9_ n10_ n11_ n12_ n13_
             have hHeld : w33.cell? ⟨gb143, 0, none⟩ = some (.string a0_0) ∧ w33.cell? ⟨gb143, 1, none⟩ = some (.slice A0_1 l0_1.length c0_1) ∧ w33.cell? ⟨gb143, 2, none⟩ = some (.int .i64 a0_2) ∧ w33.cell? ⟨gb143, 3, none⟩ = some (.int .i64 a0_3) ∧ w33.cell? ⟨gb144, 0, none⟩ = some (.string a1_0) ∧ w33.cell? ⟨gb144, 1, none⟩ = some (.slice A1_1 l1_1.length c1_1) ∧ w33.cell? ⟨gb144, 2, none⟩ = some (.int .i64 a1_2) ∧ w33.cell? ⟨gb144, 3, none⟩ = some (.int .i64 a1_3) := hS_
             refine norm_ (a' := ?_) ?_ ?_
             rotate_left
             ·simp only [putAll, Act.put, List.setIfInBounds_toArray, List.set_cons_zero, List.set_cons_succ]
              rfl
             refine one_ (i := 3) (N := some 22) (rl_ true [6, 5, 1, 2]).toArray rfl rfl (one_of HT_.out (by kernel_rfl)) (by decide) (fun K hK => ?_)
             refine Kd.R_append_rows_step k59 (w0 := w) w.heap.size (by rfl) (.tmp 19) (.tmp 21) 30 59 (.agg #[(.int .i64 0), (.int .i64 0), (.int .i64 0)]) 24 rfl Try.underlying30 info59 rfl (by decide) (by omega) v149 y148 l0_1 _ _ _ (fun _ => True) (fun _ => False) rfl rfl ?aO ?aR (fun _ _ h => h) (fun _ h => h.elim) ?aF ?aB ?aS ?aL ?_
             (case aR => repeat (first | exact (Kd.C_below HR0_1.out HB.out) | (with_reducible refine Kd.C_alloc ?_ _) | (with_reducible refine Kd.C_drewN ?_ _) | (with_reducible refine Kd.C_drew ?_)))
             (case aB => exact (by repeat (first | (with_reducible first | exact HB.out | apply below_alloc | apply pw_below_drewN | apply below_drew1 | refine below_set ?_ GE143.out | refine below_set ?_ GE144.out | refine below_set ?_ GE145.out | refine below_set ?_ GE163.out) | exact HB.out)))
             (case aF => exact (fun _ _ => trivial))
             (case aO => exact (by (with_reducible repeat (first | apply Kd.R_alloc | apply Kd.R_drewN | apply Kd.R_drew)); exact HO150.out))
             (case aS => exact (below_size (by repeat (first | (with_reducible first | exact HB.out | apply below_alloc | apply pw_below_drewN | apply below_drew1 | refine below_set ?_ GE143.out | refine below_set ?_ GE144.out | refine below_set ?_ GE145.out | refine below_set ?_ GE163.out) | exact HB.out))))
             (case aL => have := LMc25.out; omega)
             intro v152 w34 ho hb hg hat
             rw [← Ny151.out] at ho
             have n0_ := Aside0.mk (blk_grown (g := gb143) (o := .cells #[.string a0_0, .slice A0_1 l0_1.length c0_1, .int .i64 a0_2, .int .i64 a0_3] 32 (0, 0)) (by (with_reducible repeat (first | refine blk_drewN ?_ _ | refine blk_drew ?_ | refine blk_alloc ?_ _)); exact BK143.out) hg (Kd.R_ne HO150.out BK143.out (by decide)))
             have n1_ := Aside0.mk (blk_grown (g := gb144) (o := .cells #[.string a1_0, .slice A1_1 l1_1.length c1_1, .int .i64 a1_2, .int .i64 a1_3] 32 (0, 0)) (by (with_reducible repeat (first | refine blk_drewN ?_ _ | refine blk_drew ?_ | refine blk_alloc ?_ _)); exact BK144.out) hg (Kd.R_ne HO150.out BK144.out (by decide)))
             have n2_ := Aside0.mk (blk_grown (g := gb145) (o := .cells #[.int .i64 0, .int .i64 0, .int .i64 0, .int .i64 0, .int .i64 0] 27 (0, 0)) (by (with_reducible repeat (first | refine blk_drewN ?_ _ | refine blk_drew ?_ | refine blk_alloc ?_ _)); exact BK145.out) hg (Kd.R_ne HO150.out BK145.out (by decide)))
             have n3_ := Aside0.mk (blk_grown (g := gb163) (o := .cells #[.int .i64 0, .int .i64 0, .int .i64 0, .int .i64 0, .int .i64 0] 27 (0, 0)) (by (with_reducible repeat (first | refine blk_drewN ?_ _ | refine blk_drew ?_ | refine blk_alloc ?_ _)); exact BK163.out) hg (Kd.R_ne HO150.out BK163.out (by decide)))
             have n4_ := Aside0.mk (hb)
             have n5_ := Aside0.mk (ho)
             clear BK143
             clear BK144
             clear BK145
             clear BK163
             clear HB
             clear HO150
             have BK143 := n0_
             have BK144 := n1_
             have BK145 := n2_
             have BK163 := n3_
             have HB := n4_
             have HO153 := n5_
             clear n0_ n1_ n2_ n3_ n4_ n5_
             clear ho hb hg hat
             refine hK.out _ _ ⟨(blk_cell BK143.out 0).trans rfl, (blk_cell BK143.out 1).trans rfl, (blk_cell BK143.out 2).trans rfl, (blk_cell BK143.out 3).trans rfl, (blk_cell BK144.out 0).trans rfl, (blk_cell BK144.out 1).trans rfl, (blk_cell BK144.out 2).trans rfl, (blk_cell BK144.out 3).trans rfl⟩ (fun hHeld => ?_)
             clear hK K
             refine norm_ (a' := ?_) ?_ ?_
             rotate_left
             ·show Act.put _ (some 22) _ = _
              simp only [Act.put, List.setIfInBounds_toArray, List.set_cons_zero, List.set_cons_succ, i64_w, i32_w]
              rfl
             exact norm_ (by first | (simp only [putAll, Act.put, List.setIfInBounds_toArray, List.set_cons_zero, List.set_cons_succ]; done) | (simp only [putAll, Act.put, List.setIfInBounds_toArray, List.set_cons_zero, List.set_cons_succ]; rfl)) (hJ0_3_11 (v149, v152, gb163) _ ⟨hHeld, (by (with_reducible repeat (first | apply Kd.R_alloc | apply Kd.R_drewN | apply Kd.R_drew)); exact HO153.out), (by (with_reducible repeat (first | refine blk_drewN ?_ _ | refine blk_drew ?_ | refine blk_alloc ?_ _)); exact BK143.out), (by (with_reducible repeat (first | refine blk_drewN ?_ _ | refine blk_drew ?_ | refine blk_alloc ?_ _)); exact BK144.out), (by (with_reducible repeat (first | refine blk_drewN ?_ _ | refine blk_drew ?_ | refine blk_alloc ?_ _)); exact BK145.out), (by (with_reducible repeat (first | refine blk_drewN ?_ _ | refine blk_drew ?_ | refine blk_alloc ?_ _)); exact BK163.out), GW163.out, GE163.out, NB143_163.out, NB163_143.out, NB144_163.out, NB163_144.out, NB145_163.out, NB163_145.out, (by repeat (first | (with_reducible first | exact HB.out | apply below_alloc | apply pw_below_drewN | apply below_drew1 | refine below_set ?_ GE143.out | refine below_set ?_ GE144.out | refine below_set ?_ GE145.out | refine below_set ?_ GE163.out) | exact HB.out))⟩)
           ·skip
            rintro ⟨v149, v152⟩ w33 ⟨hS_, h0_, h1_, h2_, h3_, h4_⟩
            have n0_ : Aside0 (Kd.R k59 59 w33 w.heap.size (fun _ => True) v152 y151) := ⟨h0_⟩
            have n1_ : Aside0 (w33.heap[gb143]? = some (.cells #[.string a0_0, .slice A0_1 l0_1.length c0_1, .int .i64 a0_2, .int .i64 a0_3] 32 (0, 0))) := ⟨h1_⟩
            have n2_ : Aside0 (w33.heap[gb144]? = some (.cells #[.string a1_0, .slice A1_1 l1_1.length c1_1, .int .i64 a1_2, .int .i64 a1_3] 32 (0, 0))) := ⟨h2_⟩
            have n3_ : Aside0 (w33.heap[gb145]? = some (.cells #[.int .i64 0, .int .i64 0, .int .i64 0, .int .i64 0, .int .i64 0] 27 (0, 0))) := ⟨h3_⟩
            have n4_ : Aside0 (Below w.heap.size w w33) := ⟨h4_⟩
            clear BK143
            clear BK144
            clear BK145
            clear HB
            clear h0_ h1_ h2_ h3_ h4_
            have HO153 := n0_
            have BK143 := n1_
            have BK144 := n2_
            have BK145 := n3_
            have HB := n4_
            clear n0_ n1_ n2_ n3_ n4_
            have hHeld : w33.cell? ⟨gb143, 0, none⟩ = some (.string a0_0) ∧ w33.cell? ⟨gb143, 1, none⟩ = some (.slice A0_1 l0_1.length c0_1) ∧ w33.cell? ⟨gb143, 2, none⟩ = some (.int .i64 a0_2) ∧ w33.cell? ⟨gb143, 3, none⟩ = some (.int .i64 a0_3) ∧ w33.cell? ⟨gb144, 0, none⟩ = some (.string a1_0) ∧ w33.cell? ⟨gb144, 1, none⟩ = some (.slice A1_1 l1_1.length c1_1) ∧ w33.cell? ⟨gb144, 2, none⟩ = some (.int .i64 a1_2) ∧ w33.cell? ⟨gb144, 3, none⟩ = some (.int .i64 a1_3) := hS_
            refine norm_ (a' := ?_) ?_ ?_
            rotate_left
            ·simp only [putAll, Act.put, List.setIfInBounds_toArray, List.set_cons_zero, List.set_cons_succ]
             rfl
            refine two_ (i := 6) (j := 11) (Ni := some 25) (Nj := some 7) (rl_ true [7, 7]).toArray (rl_ true [6, 5, 1, 2]).toArray rfl rfl rfl rfl (two_of HT_.out (by kernel_rfl)) (by decide) (by decide) (fun K hK => ?_) (fun K hK => ?_)
            ·skip
             refine Kd.R_append_rows_step k59 (w0 := w) w.heap.size (by rfl) (.tmp 22) (.tmp 24) 30 59 (.agg #[(.int .i64 0), (.int .i64 0), (.int .i64 0)]) 24 rfl Try.underlying30 info59 rfl (by decide) (by omega) v152 y151 l1_1 _ _ _ (fun _ => True) (fun _ => False) rfl rfl ?aO ?aR (fun _ _ h => h) (fun _ h => h.elim) ?aF ?aB ?aS ?aL ?_
             (case aR => repeat (first | exact (Kd.C_below HR1_1.out HB.out) | (with_reducible refine Kd.C_alloc ?_ _) | (with_reducible refine Kd.C_drewN ?_ _) | (with_reducible refine Kd.C_drew ?_)))
             (case aB => exact (by repeat (first | (with_reducible first | exact HB.out | apply below_alloc | apply pw_below_drewN | apply below_drew1 | refine below_set ?_ GE143.out | refine below_set ?_ GE144.out | refine below_set ?_ GE145.out) | exact HB.out)))
             (case aF => exact (fun _ _ => trivial))
             (case aO => exact (by (with_reducible repeat (first | apply Kd.R_alloc | apply Kd.R_drewN | apply Kd.R_drew)); exact HO153.out))
             (case aS => exact (below_size (by repeat (first | (with_reducible first | exact HB.out | apply below_alloc | apply pw_below_drewN | apply below_drew1 | refine below_set ?_ GE143.out | refine below_set ?_ GE144.out | refine below_set ?_ GE145.out) | exact HB.out))))
             (case aL => have := LMc26.out; omega)
             intro v155 w34 ho hb hg hat
             rw [← Ny154.out] at ho
             have n0_ := Aside0.mk (blk_grown (g := gb143) (o := .cells #[.string a0_0, .slice A0_1 l0_1.length c0_1, .int .i64 a0_2, .int .i64 a0_3] 32 (0, 0)) (by (with_reducible repeat (first | refine blk_drewN ?_ _ | refine blk_drew ?_ | refine blk_alloc ?_ _)); exact BK143.out) hg (Kd.R_ne HO153.out BK143.out (by decide)))
             have n1_ := Aside0.mk (blk_grown (g := gb144) (o := .cells #[.string a1_0, .slice A1_1 l1_1.length c1_1, .int .i64 a1_2, .int .i64 a1_3] 32 (0, 0)) (by (with_reducible repeat (first | refine blk_drewN ?_ _ | refine blk_drew ?_ | refine blk_alloc ?_ _)); exact BK144.out) hg (Kd.R_ne HO153.out BK144.out (by decide)))
             have n2_ := Aside0.mk (blk_grown (g := gb145) (o := .cells #[.int .i64 0, .int .i64 0, .int .i64 0, .int .i64 0, .int .i64 0] 27 (0, 0)) (by (with_reducible repeat (first | refine blk_drewN ?_ _ | refine blk_drew ?_ | refine blk_alloc ?_ _)); exact BK145.out) hg (Kd.R_ne HO153.out BK145.out (by decide)))
             have n3_ := Aside0.mk (hb)
             have n4_ := Aside0.mk (ho)
             clear BK143
             clear BK144
             clear BK145
             clear HB
             clear HO153
             have BK143 := n0_
             have BK144 := n1_
             have BK145 := n2_
             have HB := n3_
             have HO156 := n4_
             clear n0_ n1_ n2_ n3_ n4_
             clear ho hb hg hat
             refine hK.out _ _ ⟨(blk_cell BK143.out 0).trans rfl, (blk_cell BK143.out 1).trans rfl, (blk_cell BK143.out 2).trans rfl, (blk_cell BK143.out 3).trans rfl, (blk_cell BK144.out 0).trans rfl, (blk_cell BK144.out 1).trans rfl, (blk_cell BK144.out 2).trans rfl, (blk_cell BK144.out 3).trans rfl⟩ (fun hHeld => ?_)
             clear hK K
             refine norm_ (a' := ?_) ?_ ?_
             rotate_left
             ·show Act.put _ (some 25) _ = _
              simp only [Act.put, List.setIfInBounds_toArray, List.set_cons_zero, List.set_cons_succ, i64_w, i32_w]
              rfl
             exact norm_ (by first | (simp only [putAll, Act.put, List.setIfInBounds_toArray, List.set_cons_zero, List.set_cons_succ]; done) | (simp only [putAll, Act.put, List.setIfInBounds_toArray, List.set_cons_zero, List.set_cons_succ]; rfl)) (hJ0_3_6 (v149, v152, v155) _ ⟨hHeld, (by (with_reducible repeat (first | apply Kd.R_alloc | apply Kd.R_drewN | apply Kd.R_drew)); exact HO156.out), (by (with_reducible repeat (first | refine blk_drewN ?_ _ | refine blk_drew ?_ | refine blk_alloc ?_ _)); exact BK143.out), (by (with_reducible repeat (first | refine blk_drewN ?_ _ | refine blk_drew ?_ | refine blk_alloc ?_ _)); exact BK144.out), (by (with_reducible repeat (first | refine blk_drewN ?_ _ | refine blk_drew ?_ | refine blk_alloc ?_ _)); exact BK145.out), (by repeat (first | (with_reducible first | exact HB.out | apply below_alloc | apply pw_below_drewN | apply below_drew1 | refine below_set ?_ GE143.out | refine below_set ?_ GE144.out | refine below_set ?_ GE145.out) | exact HB.out))⟩)
            ·skip
             refine box_step ?hg (N := 7) ?hd (cs := #[.int .i64 0, .int .i64 0, .int .i64 0, .int .i64 0, .int .i64 0]) (t := 27) ?hr ?_; (case hd => rfl); (case hg => rfl); (case hr => first | (go_simp; done) | (go_simp; rfl))
             intro gb163 hg w34 hbox hb
             have n0_ := Aside0.mk (Kd.R_below (by (with_reducible repeat (first | apply Kd.R_alloc | apply Kd.R_drewN | apply Kd.R_drew)); exact HO153.out) hb)
             have n1_ := Aside0.mk (blk_below (g := gb143) (o := .cells #[.string a0_0, .slice A0_1 l0_1.length c0_1, .int .i64 a0_2, .int .i64 a0_3] 32 (0, 0)) (by (with_reducible repeat (first | refine blk_drewN ?_ _ | refine blk_drew ?_ | refine blk_alloc ?_ _)); exact BK143.out) hb)
             have n2_ := Aside0.mk (blk_below (g := gb144) (o := .cells #[.string a1_0, .slice A1_1 l1_1.length c1_1, .int .i64 a1_2, .int .i64 a1_3] 32 (0, 0)) (by (with_reducible repeat (first | refine blk_drewN ?_ _ | refine blk_drew ?_ | refine blk_alloc ?_ _)); exact BK144.out) hb)
             have n3_ := Aside0.mk (blk_below (g := gb145) (o := .cells #[.int .i64 0, .int .i64 0, .int .i64 0, .int .i64 0, .int .i64 0] 27 (0, 0)) (by (with_reducible repeat (first | refine blk_drewN ?_ _ | refine blk_drew ?_ | refine blk_alloc ?_ _)); exact BK145.out) hb)
             have n4_ := Aside0.mk (below_step (by repeat (first | (with_reducible first | exact HB.out | apply below_alloc | apply pw_below_drewN | apply below_drew1 | refine below_set ?_ GE143.out | refine below_set ?_ GE144.out | refine below_set ?_ GE145.out) | exact HB.out)) hb)
             have n5_ := Aside0.mk (hbox)
             have n6_ := Aside0.mk ((by rw [hg]; exact (below_size (by repeat (first | (with_reducible first | exact HB.out | apply below_alloc | apply pw_below_drewN | apply below_drew1 | refine below_set ?_ GE143.out | refine below_set ?_ GE144.out | refine below_set ?_ GE145.out) | exact HB.out))) : w.heap.size ≤ gb163))
             have n7_ := Aside0.mk ((by rw [hg]; exact (below_size (by repeat (first | (with_reducible first | exact HB.out | apply below_alloc | apply pw_below_drewN | apply below_drew1 | refine below_set ?_ GE143.out | refine below_set ?_ GE144.out | refine below_set ?_ GE145.out) | exact HB.out))) : w.heap.size ≤ gb163))
             have n8_ := Aside0.mk ((by rw [hg]; exact Nat.ne_of_lt (blk_lt (g := gb143) (o := .cells #[.string a0_0, .slice A0_1 l0_1.length c0_1, .int .i64 a0_2, .int .i64 a0_3] 32 (0, 0)) (by (with_reducible repeat (first | refine blk_drewN ?_ _ | refine blk_drew ?_ | refine blk_alloc ?_ _)); exact BK143.out)) : gb143 ≠ gb163))
             have n9_ := Aside0.mk ((by rw [hg]; exact Nat.ne_of_gt (blk_lt (g := gb143) (o := .cells #[.string a0_0, .slice A0_1 l0_1.length c0_1, .int .i64 a0_2, .int .i64 a0_3] 32 (0, 0)) (by (with_reducible repeat (first | refine blk_drewN ?_ _ | refine blk_drew ?_ | refine blk_alloc ?_ _)); exact BK143.out)) : gb163 ≠ gb143))
             have n10_ := Aside0.mk ((by rw [hg]; exact Nat.ne_of_lt (blk_lt (g := gb144) (o := .cells #[.string a1_0, .slice A1_1 l1_1.length c1_1, .int .i64 a1_2, .int .i64 a1_3] 32 (0, 0)) (by (with_reducible repeat (first | refine blk_drewN ?_ _ | refine blk_drew ?_ | refine blk_alloc ?_ _)); exact BK144.out)) : gb144 ≠ gb163))
             have n11_ := Aside0.mk ((by rw [hg]; exact Nat.ne_of_gt (blk_lt (g := gb144) (o := .cells #[.string a1_0, .slice A1_1 l1_1.length c1_1, .int .i64 a1_2, .int .i64 a1_3] 32 (0, 0)) (by (with_reducible repeat (first | refine blk_drewN ?_ _ | refine blk_drew ?_ | refine blk_alloc ?_ _)); exact BK144.out)) : gb163 ≠ gb144))
             have n12_ := Aside0.mk ((by rw [hg]; exact Nat.ne_of_lt (blk_lt (g := gb145) (o := .cells #[.int .i64 0, .int .i64 0, .int .i64 0, .int .i64 0, .int .i64 0] 27 (0, 0)) (by (with_reducible repeat (first | refine blk_drewN ?_ _ | refine blk_drew ?_ | refine blk_alloc ?_ _)); exact BK145.out)) : gb145 ≠ gb163))
             have n13_ := Aside0.mk ((by rw [hg]; exact Nat.ne_of_gt (blk_lt (g := gb145) (o := .cells #[.int .i64 0, .int .i64 0, .int .i64 0, .int .i64 0, .int .i64 0] 27 (0, 0)) (by (with_reducible repeat (first | refine blk_drewN ?_ _ | refine blk_drew ?_ | refine blk_alloc ?_ _)); exact BK145.out)) : gb163 ≠ gb145))
             clear HO153
             clear BK143
             clear BK144
             clear BK145
             clear HB
             have HO153 := n0_
             have BK143 := n1_
             have BK144 := n2_
             have BK145 := n3_
             have HB := n4_
             have BK163 := n5_
             have GW163 := n6_
             have GE163 := n7_
             have NB143_163 := n8_
             have NB163_143 := n9_
             have NB144_163 := n10_
             have NB163_144 := n11_
             have NB145_163 := n12_
             have NB163_145 := n13_
             clear n0_ n1_ n2_ n3_ n4_ n5_ n6_ n7_ n8_ n9_ n10_ n11_ n12_ n13_
             clear hb hbox hg
             refine hK.out _ _ ⟨(blk_cell BK143.out 0).trans rfl, (blk_cell BK143.out 1).trans rfl, (blk_cell BK143.out 2).trans rfl, (blk_cell BK143.out 3).trans rfl, (blk_cell BK144.out 0).trans rfl, (blk_cell BK144.out 1).trans rfl, (blk_cell BK144.out 2).trans rfl, (blk_cell BK144.out 3).trans rfl⟩ (fun hHeld => ?_)
             clear hK K
             refine norm_ (a' := ?_) ?_ ?_
             rotate_left
             ·show Act.put _ (some 7) _ = _
              simp only [Act.put, List.setIfInBounds_toArray, List.set_cons_zero, List.set_cons_succ, i64_w, i32_w]
              rfl
             exact norm_ (by first | (simp only [putAll, Act.put, List.setIfInBounds_toArray, List.set_cons_zero, List.set_cons_succ]; done) | (simp only [putAll, Act.put, List.setIfInBounds_toArray, List.set_cons_zero, List.set_cons_succ]; rfl)) (hJ0_3_11 (v149, v152, gb163) _ ⟨hHeld, (by (with_reducible repeat (first | apply Kd.R_alloc | apply Kd.R_drewN | apply Kd.R_drew)); exact HO153.out), (by (with_reducible repeat (first | refine blk_drewN ?_ _ | refine blk_drew ?_ | refine blk_alloc ?_ _)); exact BK143.out), (by (with_reducible repeat (first | refine blk_drewN ?_ _ | refine blk_drew ?_ | refine blk_alloc ?_ _)); exact BK144.out), (by (with_reducible repeat (first | refine blk_drewN ?_ _ | refine blk_drew ?_ | refine blk_alloc ?_ _)); exact BK145.out), (by (with_reducible repeat (first | refine blk_drewN ?_ _ | refine blk_drew ?_ | refine blk_alloc ?_ _)); exact BK163.out), GW163.out, GE163.out, NB143_163.out, NB163_143.out, NB144_163.out, NB163_144.out, NB145_163.out, NB163_145.out, (by repeat (first | (with_reducible first | exact HB.out | apply below_alloc | apply pw_below_drewN | apply below_drew1 | refine below_set ?_ GE143.out | refine below_set ?_ GE144.out | refine below_set ?_ GE145.out | refine below_set ?_ GE163.out) | exact HB.out))⟩)
          ·skip
           rintro ⟨v149, v152, gb163⟩ w34 ⟨hS_, h0_, h1_, h2_, h3_, h4_, h5_, h6_, h7_, h8_, h9_, h10_, h11_, h12_, h13_⟩
           have n0_ : Aside0 (Kd.R k59 59 w34 w.heap.size (fun _ => True) v152 y151) := ⟨h0_⟩
           have n1_ : Aside0 (w34.heap[gb143]? = some (.cells #[.string a0_0, .slice A0_1 l0_1.length c0_1, .int .i64 a0_2, .int .i64 a0_3] 32 (0, 0))) := ⟨h1_⟩
           have n2_ : Aside0 (w34.heap[gb144]? = some (.cells #[.string a1_0, .slice A1_1 l1_1.length c1_1, .int .i64 a1_2, .int .i64 a1_3] 32 (0, 0))) := ⟨h2_⟩
           have n3_ : Aside0 (w34.heap[gb145]? = some (.cells #[.int .i64 0, .int .i64 0, .int .i64 0, .int .i64 0, .int .i64 0] 27 (0, 0))) := ⟨h3_⟩
           have n4_ : Aside0 (w34.heap[gb163]? = some (.cells #[.int .i64 0, .int .i64 0, .int .i64 0, .int .i64 0, .int .i64 0] 27 (0, 0))) := ⟨h4_⟩
           have n5_ : Aside0 (w.heap.size ≤ gb163) := ⟨h5_⟩
           have n6_ : Aside0 (w.heap.size ≤ gb163) := ⟨h6_⟩
           have n7_ : Aside0 (gb143 ≠ gb163) := ⟨h7_⟩
           have n8_ : Aside0 (gb163 ≠ gb143) := ⟨h8_⟩
           have n9_ : Aside0 (gb144 ≠ gb163) := ⟨h9_⟩
           have n10_ : Aside0 (gb163 ≠ gb144) := ⟨h10_⟩
           have n11_ : Aside0 (gb145 ≠ gb163) := ⟨h11_⟩
           have n12_ : Aside0 (gb163 ≠ gb145) := ⟨h12_⟩
           have n13_ : Aside0 (Below w.heap.size w w34) := ⟨h13_⟩
           clear BK143
           clear BK144
           clear BK145
           clear HB
           clear h0_ h1_ h2_ h3_ h4_ h5_ h6_ h7_ h8_ h9_ h10_ h11_ h12_ h13_
           have HO153 := n0_
           have BK143 := n1_
           have BK144 := n2_
           have BK145 := n3_
           have BK163 := n4_
           have GW163 := n5_
           have GE163 := n6_
           have NB143_163 := n7_
           have NB163_143 := n8_
           have NB144_163 := n9_
           have NB163_144 := n10_
           have NB145_163 := n11_
           have NB163_145 := n12_
           have HB := n13_
           clear n0_ n1_ n2_ n3_ n4_ n5_ n6_ n7_ n8_ n9_ n10_ n11_ n12_ n13_
           have hHeld : w34.cell? ⟨gb143, 0, none⟩ = some (.string a0_0) ∧ w34.cell? ⟨gb143, 1, none⟩ = some (.slice A0_1 l0_1.length c0_1) ∧ w34.cell? ⟨gb143, 2, none⟩ = some (.int .i64 a0_2) ∧ w34.cell? ⟨gb143, 3, none⟩ = some (.int .i64 a0_3) ∧ w34.cell? ⟨gb144, 0, none⟩ = some (.string a1_0) ∧ w34.cell? ⟨gb144, 1, none⟩ = some (.slice A1_1 l1_1.length c1_1) ∧ w34.cell? ⟨gb144, 2, none⟩ = some (.int .i64 a1_2) ∧ w34.cell? ⟨gb144, 3, none⟩ = some (.int .i64 a1_3) := hS_
           refine norm_ (a' := ?_) ?_ ?_
           rotate_left
           ·simp only [putAll, Act.put, List.setIfInBounds_toArray, List.set_cons_zero, List.set_cons_succ]
            rfl
           refine one_ (i := 6) (N := some 25) (rl_ true [7, 4, 1, 2]).toArray rfl rfl (one_of HT_.out (by kernel_rfl)) (by decide) (fun K hK => ?_)
           refine Kd.R_append_rows_step k59 (w0 := w) w.heap.size (by rfl) (.tmp 22) (.tmp 24) 30 59 (.agg #[(.int .i64 0), (.int .i64 0), (.int .i64 0)]) 24 rfl Try.underlying30 info59 rfl (by decide) (by omega) v152 y151 l1_1 _ _ _ (fun _ => True) (fun _ => False) rfl rfl ?aO ?aR (fun _ _ h => h) (fun _ h => h.elim) ?aF ?aB ?aS ?aL ?_
           (case aR => repeat (first | exact (Kd.C_below HR1_1.out HB.out) | (with_reducible refine Kd.C_alloc ?_ _) | (with_reducible refine Kd.C_drewN ?_ _) | (with_reducible refine Kd.C_drew ?_)))
           (case aB => exact (by repeat (first | (with_reducible first | exact HB.out | apply below_alloc | apply pw_below_drewN | apply below_drew1 | refine below_set ?_ GE143.out | refine below_set ?_ GE144.out | refine below_set ?_ GE145.out | refine below_set ?_ GE163.out) | exact HB.out)))
           (case aF => exact (fun _ _ => trivial))
           (case aO => exact (by (with_reducible repeat (first | apply Kd.R_alloc | apply Kd.R_drewN | apply Kd.R_drew)); exact HO153.out))
           (case aS => exact (below_size (by repeat (first | (with_reducible first | exact HB.out | apply below_alloc | apply pw_below_drewN | apply below_drew1 | refine below_set ?_ GE143.out | refine below_set ?_ GE144.out | refine below_set ?_ GE145.out | refine below_set ?_ GE163.out) | exact HB.out))))
           (case aL => have := LMc26.out; omega)
           intro v155 w35 ho hb hg hat
           rw [← Ny154.out] at ho
           have n0_ := Aside0.mk (blk_grown (g := gb143) (o := .cells #[.string a0_0, .slice A0_1 l0_1.length c0_1, .int .i64 a0_2, .int .i64 a0_3] 32 (0, 0)) (by (with_reducible repeat (first | refine blk_drewN ?_ _ | refine blk_drew ?_ | refine blk_alloc ?_ _)); exact BK143.out) hg (Kd.R_ne HO153.out BK143.out (by decide)))
           have n1_ := Aside0.mk (blk_grown (g := gb144) (o := .cells #[.string a1_0, .slice A1_1 l1_1.length c1_1, .int .i64 a1_2, .int .i64 a1_3] 32 (0, 0)) (by (with_reducible repeat (first | refine blk_drewN ?_ _ | refine blk_drew ?_ | refine blk_alloc ?_ _)); exact BK144.out) hg (Kd.R_ne HO153.out BK144.out (by decide)))
           have n2_ := Aside0.mk (blk_grown (g := gb145) (o := .cells #[.int .i64 0, .int .i64 0, .int .i64 0, .int .i64 0, .int .i64 0] 27 (0, 0)) (by (with_reducible repeat (first | refine blk_drewN ?_ _ | refine blk_drew ?_ | refine blk_alloc ?_ _)); exact BK145.out) hg (Kd.R_ne HO153.out BK145.out (by decide)))
           have n3_ := Aside0.mk (blk_grown (g := gb163) (o := .cells #[.int .i64 0, .int .i64 0, .int .i64 0, .int .i64 0, .int .i64 0] 27 (0, 0)) (by (with_reducible repeat (first | refine blk_drewN ?_ _ | refine blk_drew ?_ | refine blk_alloc ?_ _)); exact BK163.out) hg (Kd.R_ne HO153.out BK163.out (by decide)))
           have n4_ := Aside0.mk (hb)
           have n5_ := Aside0.mk (ho)
           clear BK143
           clear BK144
           clear BK145
           clear BK163
           clear HB
           clear HO153
           have BK143 := n0_
           have BK144 := n1_
           have BK145 := n2_
           have BK163 := n3_
           have HB := n4_
           have HO156 := n5_
           clear n0_ n1_ n2_ n3_ n4_ n5_
           clear ho hb hg hat
           refine hK.out _ _ ⟨(blk_cell BK143.out 0).trans rfl, (blk_cell BK143.out 1).trans rfl, (blk_cell BK143.out 2).trans rfl, (blk_cell BK143.out 3).trans rfl, (blk_cell BK144.out 0).trans rfl, (blk_cell BK144.out 1).trans rfl, (blk_cell BK144.out 2).trans rfl, (blk_cell BK144.out 3).trans rfl⟩ (fun hHeld => ?_)
           clear hK K
           refine norm_ (a' := ?_) ?_ ?_
           rotate_left
           ·show Act.put _ (some 25) _ = _
            simp only [Act.put, List.setIfInBounds_toArray, List.set_cons_zero, List.set_cons_succ, i64_w, i32_w]
            rfl
           exact norm_ (by first | (simp only [putAll, Act.put, List.setIfInBounds_toArray, List.set_cons_zero, List.set_cons_succ]; done) | (simp only [putAll, Act.put, List.setIfInBounds_toArray, List.set_cons_zero, List.set_cons_succ]; rfl)) (hJ0_3_6_11 (v149, v152, v155, gb163) _ ⟨hHeld, (by (with_reducible repeat (first | apply Kd.R_alloc | apply Kd.R_drewN | apply Kd.R_drew)); exact HO156.out), (by (with_reducible repeat (first | refine blk_drewN ?_ _ | refine blk_drew ?_ | refine blk_alloc ?_ _)); exact BK143.out), (by (with_reducible repeat (first | refine blk_drewN ?_ _ | refine blk_drew ?_ | refine blk_alloc ?_ _)); exact BK144.out), (by (with_reducible repeat (first | refine blk_drewN ?_ _ | refine blk_drew ?_ | refine blk_alloc ?_ _)); exact BK145.out), (by (with_reducible repeat (first | refine blk_drewN ?_ _ | refine blk_drew ?_ | refine blk_alloc ?_ _)); exact BK163.out), GW163.out, GE163.out, NB143_163.out, NB163_143.out, NB144_163.out, NB163_144.out, NB145_163.out, NB163_145.out, (by repeat (first | (with_reducible first | exact HB.out | apply below_alloc | apply pw_below_drewN | apply below_drew1 | refine below_set ?_ GE143.out | refine below_set ?_ GE144.out | refine below_set ?_ GE145.out | refine below_set ?_ GE163.out) | exact HB.out))⟩)
         ·skip
          rintro ⟨v149, v152, v155⟩ w34 ⟨hS_, h0_, h1_, h2_, h3_, h4_⟩
          have n0_ : Aside0 (Kd.R k59 59 w34 w.heap.size (fun _ => True) v155 y154) := ⟨h0_⟩
          have n1_ : Aside0 (w34.heap[gb143]? = some (.cells #[.string a0_0, .slice A0_1 l0_1.length c0_1, .int .i64 a0_2, .int .i64 a0_3] 32 (0, 0))) := ⟨h1_⟩
          have n2_ : Aside0 (w34.heap[gb144]? = some (.cells #[.string a1_0, .slice A1_1 l1_1.length c1_1, .int .i64 a1_2, .int .i64 a1_3] 32 (0, 0))) := ⟨h2_⟩
          have n3_ : Aside0 (w34.heap[gb145]? = some (.cells #[.int .i64 0, .int .i64 0, .int .i64 0, .int .i64 0, .int .i64 0] 27 (0, 0))) := ⟨h3_⟩
          have n4_ : Aside0 (Below w.heap.size w w34) := ⟨h4_⟩
          clear BK143
          clear BK144
          clear BK145
          clear HB
          clear h0_ h1_ h2_ h3_ h4_
          have HO156 := n0_
          have BK143 := n1_
          have BK144 := n2_
          have BK145 := n3_
          have HB := n4_
          clear n0_ n1_ n2_ n3_ n4_
          have hHeld : w34.cell? ⟨gb143, 0, none⟩ = some (.string a0_0) ∧ w34.cell? ⟨gb143, 1, none⟩ = some (.slice A0_1 l0_1.length c0_1) ∧ w34.cell? ⟨gb143, 2, none⟩ = some (.int .i64 a0_2) ∧ w34.cell? ⟨gb143, 3, none⟩ = some (.int .i64 a0_3) ∧ w34.cell? ⟨gb144, 0, none⟩ = some (.string a1_0) ∧ w34.cell? ⟨gb144, 1, none⟩ = some (.slice A1_1 l1_1.length c1_1) ∧ w34.cell? ⟨gb144, 2, none⟩ = some (.int .i64 a1_2) ∧ w34.cell? ⟨gb144, 3, none⟩ = some (.int .i64 a1_3) := hS_
          obtain ⟨Ao35, co35, eo35⟩ := Kd.R_slice HO156.out
          (first | subst eo35 | (injection eo35 with f1_ f2_ f3_; have f4_ := f1_.symm; have f5_ := f3_.symm; clear f1_ f2_ f3_; subst f4_; subst f5_))
          let v155 : Value := .slice Ao35 y154.length co35
          refine norm_ (a' := ?_) ?_ ?_
          rotate_left
          ·simp only [putAll, Act.put, List.setIfInBounds_toArray, List.set_cons_zero, List.set_cons_succ]
           rfl
          refine two_ (i := 7) (j := 11) (Ni := some 26) (Nj := some 7) (rl_ true [8, 6]).toArray (rl_ true [7, 4, 1, 2]).toArray rfl rfl rfl rfl (two_of HT_.out (by kernel_rfl)) (by decide) (by decide) (fun K hK => ?_) (fun K hK => ?_)
          ·skip
           refine goes_ Try.func34 (by kernel_rfl) rfl #[.slice Ao35 y154.length co35] (by rfl) rfl rfl (by (try simp only [List.map_toArray, List.map_cons, List.map_nil]); first | done | rfl | (simp only [List.length_drop, List.length_take]; rfl)) ?_
           with_reducible refine (spec_l06Least.calls kj2 _ _ y154 t157 t158 t159 t160 t161 t162 _ ?side1 ?side2 A27.out).mono ?_
           (case side1 => repeat (first | exact (Kd.R_reads' HO156.out).2.2 | (with_reducible refine Kd.C_alloc ?_ _) | (with_reducible refine Kd.C_drewN ?_ _) | (with_reducible refine Kd.C_drew ?_)))
           (case side2 => exact (Kd.R_reads' HO156.out).2.1)
           rintro e w36 ⟨rfl, hb⟩
           refine ⟨_, rfl, ?_⟩
           have n0_ := Aside0.mk (Kd.R_below (by (with_reducible repeat (first | apply Kd.R_alloc | apply Kd.R_drewN | apply Kd.R_drew)); exact HO156.out) hb)
           have n1_ := Aside0.mk (blk_below (g := gb143) (o := .cells #[.string a0_0, .slice A0_1 l0_1.length c0_1, .int .i64 a0_2, .int .i64 a0_3] 32 (0, 0)) (by (with_reducible repeat (first | refine blk_drewN ?_ _ | refine blk_drew ?_ | refine blk_alloc ?_ _)); exact BK143.out) hb)
           have n2_ := Aside0.mk (blk_below (g := gb144) (o := .cells #[.string a1_0, .slice A1_1 l1_1.length c1_1, .int .i64 a1_2, .int .i64 a1_3] 32 (0, 0)) (by (with_reducible repeat (first | refine blk_drewN ?_ _ | refine blk_drew ?_ | refine blk_alloc ?_ _)); exact BK144.out) hb)
           have n3_ := Aside0.mk (blk_below (g := gb145) (o := .cells #[.int .i64 0, .int .i64 0, .int .i64 0, .int .i64 0, .int .i64 0] 27 (0, 0)) (by (with_reducible repeat (first | refine blk_drewN ?_ _ | refine blk_drew ?_ | refine blk_alloc ?_ _)); exact BK145.out) hb)
           have n4_ := Aside0.mk (below_step (by repeat (first | (with_reducible first | exact HB.out | apply below_alloc | apply pw_below_drewN | apply below_drew1 | refine below_set ?_ GE143.out | refine below_set ?_ GE144.out | refine below_set ?_ GE145.out) | exact HB.out)) hb)
           clear HO156
           clear BK143
           clear BK144
           clear BK145
           clear HB
           have HO156 := n0_
           have BK143 := n1_
           have BK144 := n2_
           have BK145 := n3_
           have HB := n4_
           clear n0_ n1_ n2_ n3_ n4_
           (try clear hb)
           (try clear hb2)
           (try clear hk)
           (try clear hi)
           refine hK.out _ _ ⟨(blk_cell BK143.out 0).trans rfl, (blk_cell BK143.out 1).trans rfl, (blk_cell BK143.out 2).trans rfl, (blk_cell BK143.out 3).trans rfl, (blk_cell BK144.out 0).trans rfl, (blk_cell BK144.out 1).trans rfl, (blk_cell BK144.out 2).trans rfl, (blk_cell BK144.out 3).trans rfl⟩ (fun hHeld => ?_)
           clear hK K
           refine norm_ (a' := ?_) ?_ ?_
           rotate_left
           ·show Act.put _ (some 26) _ = _
            simp only [Act.put, List.setIfInBounds_toArray, List.set_cons_zero, List.set_cons_succ, i64_w, i32_w]
            rfl
           refine pure_ (i := 8) (N := some 18) (v := ?_) (a' := ?_) (rl_ true [9, 5]).toArray rfl rfl (any_of HT_.out (by kernel_rfl)) (fun _ _ _ h => h) (Or.inl ⟨by rfl, ?_⟩) ?_ ?_
           rotate_left
           ·intro w'
            go_simp
            with_reducible rfl
           rotate_left
           ·simp only [Act.put, List.setIfInBounds_toArray, List.set_cons_zero, List.set_cons_succ, i64_w, i32_w]
            rfl
           refine pure_ (i := 9) (N := some 27) (v := ?_) (a' := ?_) (rl_ true [10, 4]).toArray rfl rfl (any_of HT_.out (by kernel_rfl)) (fun _ _ _ h => h) (Or.inl ⟨by rfl, ?_⟩) ?_ ?_
           rotate_left
           ·intro w'
            go_simp
            with_reducible rfl
           rotate_left
           ·simp only [Act.put, List.setIfInBounds_toArray, List.set_cons_zero, List.set_cons_succ, i64_w, i32_w]
            rfl
           refine pure_ (i := 10) (N := some 28) (v := ?_) (a' := ?_) (rl_ true [11, 3]).toArray rfl rfl (any_of HT_.out (by kernel_rfl)) (fun _ _ _ h => h) (Or.inl ⟨by rfl, ?_⟩) ?_ ?_
           rotate_left
           ·intro w'
            go_simp
            with_reducible rfl
           rotate_left
           ·simp only [Act.put, List.setIfInBounds_toArray, List.set_cons_zero, List.set_cons_succ, i64_w, i32_w]
            rfl
           exact norm_ (by first | (simp only [putAll, Act.put, List.setIfInBounds_toArray, List.set_cons_zero, List.set_cons_succ]; done) | (simp only [putAll, Act.put, List.setIfInBounds_toArray, List.set_cons_zero, List.set_cons_succ]; rfl)) (hJ0_3_6_7 (v149, v152, .slice Ao35 y154.length co35) _ ⟨hHeld, (by (with_reducible repeat (first | apply Kd.R_alloc | apply Kd.R_drewN | apply Kd.R_drew)); exact HO156.out), (by (with_reducible repeat (first | refine blk_drewN ?_ _ | refine blk_drew ?_ | refine blk_alloc ?_ _)); exact BK143.out), (by (with_reducible repeat (first | refine blk_drewN ?_ _ | refine blk_drew ?_ | refine blk_alloc ?_ _)); exact BK144.out), (by (with_reducible repeat (first | refine blk_drewN ?_ _ | refine blk_drew ?_ | refine blk_alloc ?_ _)); exact BK145.out), (by repeat (first | (with_reducible first | exact HB.out | apply below_alloc | apply pw_below_drewN | apply below_drew1 | refine below_set ?_ GE143.out | refine below_set ?_ GE144.out | refine below_set ?_ GE145.out) | exact HB.out))⟩)
          ·skip
           refine box_step ?hg (N := 7) ?hd (cs := #[.int .i64 0, .int .i64 0, .int .i64 0, .int .i64 0, .int .i64 0]) (t := 27) ?hr ?_; (case hd => rfl); (case hg => rfl); (case hr => first | (go_simp; done) | (go_simp; rfl))
           intro gb163 hg w35 hbox hb
           have n0_ := Aside0.mk (Kd.R_below (by (with_reducible repeat (first | apply Kd.R_alloc | apply Kd.R_drewN | apply Kd.R_drew)); exact HO156.out) hb)
           have n1_ := Aside0.mk (blk_below (g := gb143) (o := .cells #[.string a0_0, .slice A0_1 l0_1.length c0_1, .int .i64 a0_2, .int .i64 a0_3] 32 (0, 0)) (by (with_reducible repeat (first | refine blk_drewN ?_ _ | refine blk_drew ?_ | refine blk_alloc ?_ _)); exact BK143.out) hb)
           have n2_ := Aside0.mk (blk_below (g := gb144) (o := .cells #[.string a1_0, .slice A1_1 l1_1.length c1_1, .int .i64 a1_2, .int .i64 a1_3] 32 (0, 0)) (by (with_reducible repeat (first | refine blk_drewN ?_ _ | refine blk_drew ?_ | refine blk_alloc ?_ _)); exact BK144.out) hb)
           have n3_ := Aside0.mk (blk_below (g := gb145) (o := .cells #[.int .i64 0, .int .i64 0, .int .i64 0, .int .i64 0, .int .i64 0] 27 (0, 0)) (by (with_reducible repeat (first | refine blk_drewN ?_ _ | refine blk_drew ?_ | refine blk_alloc ?_ _)); exact BK145.out) hb)
           have n4_ := Aside0.mk (below_step (by repeat (first | (with_reducible first | exact HB.out | apply below_alloc | apply pw_below_drewN | apply below_drew1 | refine below_set ?_ GE143.out | refine below_set ?_ GE144.out | refine below_set ?_ GE145.out) | exact HB.out)) hb)
           have n5_ := Aside0.mk (hbox)
           have n6_ := Aside0.mk ((by rw [hg]; exact (below_size (by repeat (first | (with_reducible first | exact HB.out | apply below_alloc | apply pw_below_drewN | apply below_drew1 | refine below_set ?_ GE143.out | refine below_set ?_ GE144.out | refine below_set ?_ GE145.out) | exact HB.out))) : w.heap.size ≤ gb163))
           have n7_ := Aside0.mk ((by rw [hg]; exact (below_size (by repeat (first | (with_reducible first | exact HB.out | apply below_alloc | apply pw_below_drewN | apply below_drew1 | refine below_set ?_ GE143.out | refine below_set ?_ GE144.out | refine below_set ?_ GE145.out) | exact HB.out))) : w.heap.size ≤ gb163))
           have n8_ := Aside0.mk ((by rw [hg]; exact Nat.ne_of_lt (blk_lt (g := gb143) (o := .cells #[.string a0_0, .slice A0_1 l0_1.length c0_1, .int .i64 a0_2, .int .i64 a0_3] 32 (0, 0)) (by (with_reducible repeat (first | refine blk_drewN ?_ _ | refine blk_drew ?_ | refine blk_alloc ?_ _)); exact BK143.out)) : gb143 ≠ gb163))
           have n9_ := Aside0.mk ((by rw [hg]; exact Nat.ne_of_gt (blk_lt (g := gb143) (o := .cells #[.string a0_0, .slice A0_1 l0_1.length c0_1, .int .i64 a0_2, .int .i64 a0_3] 32 (0, 0)) (by (with_reducible repeat (first | refine blk_drewN ?_ _ | refine blk_drew ?_ | refine blk_alloc ?_ _)); exact BK143.out)) : gb163 ≠ gb143))
           have n10_ := Aside0.mk ((by rw [hg]; exact Nat.ne_of_lt (blk_lt (g := gb144) (o := .cells #[.string a1_0, .slice A1_1 l1_1.length c1_1, .int .i64 a1_2, .int .i64 a1_3] 32 (0, 0)) (by (with_reducible repeat (first | refine blk_drewN ?_ _ | refine blk_drew ?_ | refine blk_alloc ?_ _)); exact BK144.out)) : gb144 ≠ gb163))
           have n11_ := Aside0.mk ((by rw [hg]; exact Nat.ne_of_gt (blk_lt (g := gb144) (o := .cells #[.string a1_0, .slice A1_1 l1_1.length c1_1, .int .i64 a1_2, .int .i64 a1_3] 32 (0, 0)) (by (with_reducible repeat (first | refine blk_drewN ?_ _ | refine blk_drew ?_ | refine blk_alloc ?_ _)); exact BK144.out)) : gb163 ≠ gb144))
           have n12_ := Aside0.mk ((by rw [hg]; exact Nat.ne_of_lt (blk_lt (g := gb145) (o := .cells #[.int .i64 0, .int .i64 0, .int .i64 0, .int .i64 0, .int .i64 0] 27 (0, 0)) (by (with_reducible repeat (first | refine blk_drewN ?_ _ | refine blk_drew ?_ | refine blk_alloc ?_ _)); exact BK145.out)) : gb145 ≠ gb163))
           have n13_ := Aside0.mk ((by rw [hg]; exact Nat.ne_of_gt (blk_lt (g := gb145) (o := .cells #[.int .i64 0, .int .i64 0, .int .i64 0, .int .i64 0, .int .i64 0] 27 (0, 0)) (by (with_reducible repeat (first | refine blk_drewN ?_ _ | refine blk_drew ?_ | refine blk_alloc ?_ _)); exact BK145.out)) : gb163 ≠ gb145))
           clear HO156
           clear BK143
           clear BK144
           clear BK145
           clear HB
           have HO156 := n0_
           have BK143 := n1_
           have BK144 := n2_
           have BK145 := n3_
           have HB := n4_
           have BK163 := n5_
           have GW163 := n6_
           have GE163 := n7_
           have NB143_163 := n8_
           have NB163_143 := n9_
           have NB144_163 := n10_
           have NB163_144 := n11_
           have NB145_163 := n12_
           have NB163_145 := n13_
           clear n0_ n1_ n2_ n3_ n4_ n5_ n6_ n7_ n8_ n9_ n10_ n11_ n12_ n13_
           clear hb hbox hg
           refine hK.out _ _ ⟨(blk_cell BK143.out 0).trans rfl, (blk_cell BK143.out 1).trans rfl, (blk_cell BK143.out 2).trans rfl, (blk_cell BK143.out 3).trans rfl, (blk_cell BK144.out 0).trans rfl, (blk_cell BK144.out 1).trans rfl, (blk_cell BK144.out 2).trans rfl, (blk_cell BK144.out 3).trans rfl⟩ (fun hHeld => ?_)
           clear hK K
           refine norm_ (a' := ?_) ?_ ?_
           rotate_left
           ·show Act.put _ (some 7) _ = _
            simp only [Act.put, List.setIfInBounds_toArray, List.set_cons_zero, List.set_cons_succ, i64_w, i32_w]
            rfl
           exact norm_ (by first | (simp only [putAll, Act.put, List.setIfInBounds_toArray, List.set_cons_zero, List.set_cons_succ]; done) | (simp only [putAll, Act.put, List.setIfInBounds_toArray, List.set_cons_zero, List.set_cons_succ]; rfl)) (hJ0_3_6_11 (v149, v152, v155, gb163) _ ⟨hHeld, (by (with_reducible repeat (first | apply Kd.R_alloc | apply Kd.R_drewN | apply Kd.R_drew)); exact HO156.out), (by (with_reducible repeat (first | refine blk_drewN ?_ _ | refine blk_drew ?_ | refine blk_alloc ?_ _)); exact BK143.out), (by (with_reducible repeat (first | refine blk_drewN ?_ _ | refine blk_drew ?_ | refine blk_alloc ?_ _)); exact BK144.out), (by (with_reducible repeat (first | refine blk_drewN ?_ _ | refine blk_drew ?_ | refine blk_alloc ?_ _)); exact BK145.out), (by (with_reducible repeat (first | refine blk_drewN ?_ _ | refine blk_drew ?_ | refine blk_alloc ?_ _)); exact BK163.out), GW163.out, GE163.out, NB143_163.out, NB163_143.out, NB144_163.out, NB163_144.out, NB145_163.out, NB163_145.out, (by repeat (first | (with_reducible first | exact HB.out | apply below_alloc | apply pw_below_drewN | apply below_drew1 | refine below_set ?_ GE143.out | refine below_set ?_ GE144.out | refine below_set ?_ GE145.out | refine below_set ?_ GE163.out) | exact HB.out))⟩)
        ·skip
         rintro ⟨v149, v152, v155, gb163⟩ w35 ⟨hS_, h0_, h1_, h2_, h3_, h4_, h5_, h6_, h7_, h8_, h9_, h10_, h11_, h12_, h13_⟩
         have n0_ : Aside0 (Kd.R k59 59 w35 w.heap.size (fun _ => True) v155 y154) := ⟨h0_⟩
         have n1_ : Aside0 (w35.heap[gb143]? = some (.cells #[.string a0_0, .slice A0_1 l0_1.length c0_1, .int .i64 a0_2, .int .i64 a0_3] 32 (0, 0))) := ⟨h1_⟩
         have n2_ : Aside0 (w35.heap[gb144]? = some (.cells #[.string a1_0, .slice A1_1 l1_1.length c1_1, .int .i64 a1_2, .int .i64 a1_3] 32 (0, 0))) := ⟨h2_⟩
         have n3_ : Aside0 (w35.heap[gb145]? = some (.cells #[.int .i64 0, .int .i64 0, .int .i64 0, .int .i64 0, .int .i64 0] 27 (0, 0))) := ⟨h3_⟩
         have n4_ : Aside0 (w35.heap[gb163]? = some (.cells #[.int .i64 0, .int .i64 0, .int .i64 0, .int .i64 0, .int .i64 0] 27 (0, 0))) := ⟨h4_⟩
         have n5_ : Aside0 (w.heap.size ≤ gb163) := ⟨h5_⟩
         have n6_ : Aside0 (w.heap.size ≤ gb163) := ⟨h6_⟩
         have n7_ : Aside0 (gb143 ≠ gb163) := ⟨h7_⟩
         have n8_ : Aside0 (gb163 ≠ gb143) := ⟨h8_⟩
         have n9_ : Aside0 (gb144 ≠ gb163) := ⟨h9_⟩
         have n10_ : Aside0 (gb163 ≠ gb144) := ⟨h10_⟩
         have n11_ : Aside0 (gb145 ≠ gb163) := ⟨h11_⟩
         have n12_ : Aside0 (gb163 ≠ gb145) := ⟨h12_⟩
         have n13_ : Aside0 (Below w.heap.size w w35) := ⟨h13_⟩
         clear BK143
         clear BK144
         clear BK145
         clear HB
         clear h0_ h1_ h2_ h3_ h4_ h5_ h6_ h7_ h8_ h9_ h10_ h11_ h12_ h13_
         have HO156 := n0_
         have BK143 := n1_
         have BK144 := n2_
         have BK145 := n3_
         have BK163 := n4_
         have GW163 := n5_
         have GE163 := n6_
         have NB143_163 := n7_
         have NB163_143 := n8_
         have NB144_163 := n9_
         have NB163_144 := n10_
         have NB145_163 := n11_
         have NB163_145 := n12_
         have HB := n13_
         clear n0_ n1_ n2_ n3_ n4_ n5_ n6_ n7_ n8_ n9_ n10_ n11_ n12_ n13_
         have hHeld : w35.cell? ⟨gb143, 0, none⟩ = some (.string a0_0) ∧ w35.cell? ⟨gb143, 1, none⟩ = some (.slice A0_1 l0_1.length c0_1) ∧ w35.cell? ⟨gb143, 2, none⟩ = some (.int .i64 a0_2) ∧ w35.cell? ⟨gb143, 3, none⟩ = some (.int .i64 a0_3) ∧ w35.cell? ⟨gb144, 0, none⟩ = some (.string a1_0) ∧ w35.cell? ⟨gb144, 1, none⟩ = some (.slice A1_1 l1_1.length c1_1) ∧ w35.cell? ⟨gb144, 2, none⟩ = some (.int .i64 a1_2) ∧ w35.cell? ⟨gb144, 3, none⟩ = some (.int .i64 a1_3) := hS_
         obtain ⟨Ao36, co36, eo36⟩ := Kd.R_slice HO156.out
         (first | subst eo36 | (injection eo36 with f1_ f2_ f3_; have f4_ := f1_.symm; have f5_ := f3_.symm; clear f1_ f2_ f3_; subst f4_; subst f5_))
         refine norm_ (a' := ?_) ?_ ?_
         rotate_left
         ·simp only [putAll, Act.put, List.setIfInBounds_toArray, List.set_cons_zero, List.set_cons_succ]
          rfl
         refine one_ (i := 7) (N := some 26) (rl_ true [8, 3, 1, 2]).toArray rfl rfl (one_of HT_.out (by kernel_rfl)) (by decide) (fun K hK => ?_)
         refine goes_ Try.func34 (by kernel_rfl) rfl #[.slice Ao36 y154.length co36] (by rfl) rfl rfl (by (try simp only [List.map_toArray, List.map_cons, List.map_nil]); first | done | rfl | (simp only [List.length_drop, List.length_take]; rfl)) ?_
         with_reducible refine (spec_l06Least.calls kj2 _ _ y154 t157 t158 t159 t160 t161 t162 _ ?side1 ?side2 A27.out).mono ?_
         (case side1 => repeat (first | exact (Kd.R_reads' HO156.out).2.2 | (with_reducible refine Kd.C_alloc ?_ _) | (with_reducible refine Kd.C_drewN ?_ _) | (with_reducible refine Kd.C_drew ?_)))
         (case side2 => exact (Kd.R_reads' HO156.out).2.1)
         rintro e w37 ⟨rfl, hb⟩
         refine ⟨_, rfl, ?_⟩
         have n0_ := Aside0.mk (Kd.R_below (by (with_reducible repeat (first | apply Kd.R_alloc | apply Kd.R_drewN | apply Kd.R_drew)); exact HO156.out) hb)
         have n1_ := Aside0.mk (blk_below (g := gb143) (o := .cells #[.string a0_0, .slice A0_1 l0_1.length c0_1, .int .i64 a0_2, .int .i64 a0_3] 32 (0, 0)) (by (with_reducible repeat (first | refine blk_drewN ?_ _ | refine blk_drew ?_ | refine blk_alloc ?_ _)); exact BK143.out) hb)
         have n2_ := Aside0.mk (blk_below (g := gb144) (o := .cells #[.string a1_0, .slice A1_1 l1_1.length c1_1, .int .i64 a1_2, .int .i64 a1_3] 32 (0, 0)) (by (with_reducible repeat (first | refine blk_drewN ?_ _ | refine blk_drew ?_ | refine blk_alloc ?_ _)); exact BK144.out) hb)
         have n3_ := Aside0.mk (blk_below (g := gb145) (o := .cells #[.int .i64 0, .int .i64 0, .int .i64 0, .int .i64 0, .int .i64 0] 27 (0, 0)) (by (with_reducible repeat (first | refine blk_drewN ?_ _ | refine blk_drew ?_ | refine blk_alloc ?_ _)); exact BK145.out) hb)
         have n4_ := Aside0.mk (blk_below (g := gb163) (o := .cells #[.int .i64 0, .int .i64 0, .int .i64 0, .int .i64 0, .int .i64 0] 27 (0, 0)) (by (with_reducible repeat (first | refine blk_drewN ?_ _ | refine blk_drew ?_ | refine blk_alloc ?_ _)); exact BK163.out) hb)
         have n5_ := Aside0.mk (below_step (by repeat (first | (with_reducible first | exact HB.out | apply below_alloc | apply pw_below_drewN | apply below_drew1 | refine below_set ?_ GE143.out | refine below_set ?_ GE144.out | refine below_set ?_ GE145.out | refine below_set ?_ GE163.out) | exact HB.out)) hb)
         clear HO156
         clear BK143
         clear BK144
         clear BK145
         clear BK163
         clear HB
         have HO156 := n0_
         have BK143 := n1_
         have BK144 := n2_
         have BK145 := n3_
         have BK163 := n4_
         have HB := n5_
         clear n0_ n1_ n2_ n3_ n4_ n5_
         (try clear hb)
         (try clear hb2)
         (try clear hk)
         (try clear hi)
         refine hK.out _ _ ⟨(blk_cell BK143.out 0).trans rfl, (blk_cell BK143.out 1).trans rfl, (blk_cell BK143.out 2).trans rfl, (blk_cell BK143.out 3).trans rfl, (blk_cell BK144.out 0).trans rfl, (blk_cell BK144.out 1).trans rfl, (blk_cell BK144.out 2).trans rfl, (blk_cell BK144.out 3).trans rfl⟩ (fun hHeld => ?_)
         clear hK K
         refine norm_ (a' := ?_) ?_ ?_
         rotate_left
         ·show Act.put _ (some 26) _ = _
          simp only [Act.put, List.setIfInBounds_toArray, List.set_cons_zero, List.set_cons_succ, i64_w, i32_w]
          rfl
         refine pure_ (i := 8) (N := some 18) (v := ?_) (a' := ?_) (rl_ true [9, 2, 1, 2]).toArray rfl rfl (any_of HT_.out (by kernel_rfl)) (fun _ _ _ h => h) (Or.inl ⟨by rfl, ?_⟩) ?_ ?_
         rotate_left
         ·intro w'
          go_simp
          with_reducible rfl
         rotate_left
         ·simp only [Act.put, List.setIfInBounds_toArray, List.set_cons_zero, List.set_cons_succ, i64_w, i32_w]
          rfl
         refine pure_ (i := 9) (N := some 27) (v := ?_) (a' := ?_) (rl_ true [10, 1, 1, 2]).toArray rfl rfl (any_of HT_.out (by kernel_rfl)) (fun _ _ _ h => h) (Or.inl ⟨by rfl, ?_⟩) ?_ ?_
         rotate_left
         ·intro w'
          go_simp
          with_reducible rfl
         rotate_left
         ·simp only [Act.put, List.setIfInBounds_toArray, List.set_cons_zero, List.set_cons_succ, i64_w, i32_w]
          rfl
         refine pure_ (i := 10) (N := some 28) (v := ?_) (a' := ?_) (rl_ true [12, 2]).toArray rfl rfl (any_of HT_.out (by kernel_rfl)) (fun _ _ _ h => h) (Or.inl ⟨by rfl, ?_⟩) ?_ ?_
         rotate_left
         ·intro w'
          go_simp
          with_reducible rfl
         rotate_left
         ·simp only [Act.put, List.setIfInBounds_toArray, List.set_cons_zero, List.set_cons_succ, i64_w, i32_w]
          rfl
         exact norm_ (by first | (simp only [putAll, Act.put, List.setIfInBounds_toArray, List.set_cons_zero, List.set_cons_succ]; done) | (simp only [putAll, Act.put, List.setIfInBounds_toArray, List.set_cons_zero, List.set_cons_succ]; rfl)) (hJ0_3_6_7_11 (v149, v152, .slice Ao36 y154.length co36, gb163) _ ⟨hHeld, (by (with_reducible repeat (first | apply Kd.R_alloc | apply Kd.R_drewN | apply Kd.R_drew)); exact HO156.out), (by (with_reducible repeat (first | refine blk_drewN ?_ _ | refine blk_drew ?_ | refine blk_alloc ?_ _)); exact BK143.out), (by (with_reducible repeat (first | refine blk_drewN ?_ _ | refine blk_drew ?_ | refine blk_alloc ?_ _)); exact BK144.out), (by (with_reducible repeat (first | refine blk_drewN ?_ _ | refine blk_drew ?_ | refine blk_alloc ?_ _)); exact BK145.out), (by (with_reducible repeat (first | refine blk_drewN ?_ _ | refine blk_drew ?_ | refine blk_alloc ?_ _)); exact BK163.out), GW163.out, GE163.out, NB143_163.out, NB163_143.out, NB144_163.out, NB163_144.out, NB145_163.out, NB163_145.out, (by repeat (first | (with_reducible first | exact HB.out | apply below_alloc | apply pw_below_drewN | apply below_drew1 | refine below_set ?_ GE143.out | refine below_set ?_ GE144.out | refine below_set ?_ GE145.out | refine below_set ?_ GE163.out) | exact HB.out))⟩)
       ·skip
        rintro ⟨v149, v152, v155⟩ w36 ⟨hS_, h0_, h1_, h2_, h3_, h4_⟩
        have n0_ : Aside0 (Kd.R k59 59 w36 w.heap.size (fun _ => True) v155 y154) := ⟨h0_⟩
        have n1_ : Aside0 (w36.heap[gb143]? = some (.cells #[.string a0_0, .slice A0_1 l0_1.length c0_1, .int .i64 a0_2, .int .i64 a0_3] 32 (0, 0))) := ⟨h1_⟩
        have n2_ : Aside0 (w36.heap[gb144]? = some (.cells #[.string a1_0, .slice A1_1 l1_1.length c1_1, .int .i64 a1_2, .int .i64 a1_3] 32 (0, 0))) := ⟨h2_⟩
        have n3_ : Aside0 (w36.heap[gb145]? = some (.cells #[.int .i64 0, .int .i64 0, .int .i64 0, .int .i64 0, .int .i64 0] 27 (0, 0))) := ⟨h3_⟩
        have n4_ : Aside0 (Below w.heap.size w w36) := ⟨h4_⟩
        clear BK143
        clear BK144
        clear BK145
        clear HB
        clear h0_ h1_ h2_ h3_ h4_
        have HO156 := n0_
        have BK143 := n1_
        have BK144 := n2_
        have BK145 := n3_
        have HB := n4_
        clear n0_ n1_ n2_ n3_ n4_
        have hHeld : w36.cell? ⟨gb143, 0, none⟩ = some (.string a0_0) ∧ w36.cell? ⟨gb143, 1, none⟩ = some (.slice A0_1 l0_1.length c0_1) ∧ w36.cell? ⟨gb143, 2, none⟩ = some (.int .i64 a0_2) ∧ w36.cell? ⟨gb143, 3, none⟩ = some (.int .i64 a0_3) ∧ w36.cell? ⟨gb144, 0, none⟩ = some (.string a1_0) ∧ w36.cell? ⟨gb144, 1, none⟩ = some (.slice A1_1 l1_1.length c1_1) ∧ w36.cell? ⟨gb144, 2, none⟩ = some (.int .i64 a1_2) ∧ w36.cell? ⟨gb144, 3, none⟩ = some (.int .i64 a1_3) := hS_
        refine norm_ (a' := ?_) ?_ ?_
        rotate_left
        ·simp only [putAll, Act.put, List.setIfInBounds_toArray, List.set_cons_zero, List.set_cons_succ]
         rfl
        refine one_ (i := 11) (N := some 7) (rl_ true [12, 2]).toArray rfl rfl (one_of HT_.out (by kernel_rfl)) (by decide) (fun K hK => ?_)
        refine box_step ?hg (N := 7) ?hd (cs := #[.int .i64 0, .int .i64 0, .int .i64 0, .int .i64 0, .int .i64 0]) (t := 27) ?hr ?_; (case hd => rfl); (case hg => rfl); (case hr => first | (go_simp; done) | (go_simp; rfl))
        intro gb163 hg w37 hbox hb
        have n0_ := Aside0.mk (Kd.R_below (by (with_reducible repeat (first | apply Kd.R_alloc | apply Kd.R_drewN | apply Kd.R_drew)); exact HO156.out) hb)
        have n1_ := Aside0.mk (blk_below (g := gb143) (o := .cells #[.string a0_0, .slice A0_1 l0_1.length c0_1, .int .i64 a0_2, .int .i64 a0_3] 32 (0, 0)) (by (with_reducible repeat (first | refine blk_drewN ?_ _ | refine blk_drew ?_ | refine blk_alloc ?_ _)); exact BK143.out) hb)
        have n2_ := Aside0.mk (blk_below (g := gb144) (o := .cells #[.string a1_0, .slice A1_1 l1_1.length c1_1, .int .i64 a1_2, .int .i64 a1_3] 32 (0, 0)) (by (with_reducible repeat (first | refine blk_drewN ?_ _ | refine blk_drew ?_ | refine blk_alloc ?_ _)); exact BK144.out) hb)
        have n3_ := Aside0.mk (blk_below (g := gb145) (o := .cells #[.int .i64 0, .int .i64 0, .int .i64 0, .int .i64 0, .int .i64 0] 27 (0, 0)) (by (with_reducible repeat (first | refine blk_drewN ?_ _ | refine blk_drew ?_ | refine blk_alloc ?_ _)); exact BK145.out) hb)
        have n4_ := Aside0.mk (below_step (by repeat (first | (with_reducible first | exact HB.out | apply below_alloc | apply pw_below_drewN | apply below_drew1 | refine below_set ?_ GE143.out | refine below_set ?_ GE144.out | refine below_set ?_ GE145.out) | exact HB.out)) hb)
        have n5_ := Aside0.mk (hbox)
        have n6_ := Aside0.mk ((by rw [hg]; exact (below_size (by repeat (first | (with_reducible first | exact HB.out | apply below_alloc | apply pw_below_drewN | apply below_drew1 | refine below_set ?_ GE143.out | refine below_set ?_ GE144.out | refine below_set ?_ GE145.out) | exact HB.out))) : w.heap.size ≤ gb163))
        have n7_ := Aside0.mk ((by rw [hg]; exact (below_size (by repeat (first | (with_reducible first | exact HB.out | apply below_alloc | apply pw_below_drewN | apply below_drew1 | refine below_set ?_ GE143.out | refine below_set ?_ GE144.out | refine below_set ?_ GE145.out) | exact HB.out))) : w.heap.size ≤ gb163))
        have n8_ := Aside0.mk ((by rw [hg]; exact Nat.ne_of_lt (blk_lt (g := gb143) (o := .cells #[.string a0_0, .slice A0_1 l0_1.length c0_1, .int .i64 a0_2, .int .i64 a0_3] 32 (0, 0)) (by (with_reducible repeat (first | refine blk_drewN ?_ _ | refine blk_drew ?_ | refine blk_alloc ?_ _)); exact BK143.out)) : gb143 ≠ gb163))
        have n9_ := Aside0.mk ((by rw [hg]; exact Nat.ne_of_gt (blk_lt (g := gb143) (o := .cells #[.string a0_0, .slice A0_1 l0_1.length c0_1, .int .i64 a0_2, .int .i64 a0_3] 32 (0, 0)) (by (with_reducible repeat (first | refine blk_drewN ?_ _ | refine blk_drew ?_ | refine blk_alloc ?_ _)); exact BK143.out)) : gb163 ≠ gb143))
        have n10_ := Aside0.mk ((by rw [hg]; exact Nat.ne_of_lt (blk_lt (g := gb144) (o := .cells #[.string a1_0, .slice A1_1 l1_1.length c1_1, .int .i64 a1_2, .int .i64 a1_3] 32 (0, 0)) (by (with_reducible repeat (first | refine blk_drewN ?_ _ | refine blk_drew ?_ | refine blk_alloc ?_ _)); exact BK144.out)) : gb144 ≠ gb163))
        have n11_ := Aside0.mk ((by rw [hg]; exact Nat.ne_of_gt (blk_lt (g := gb144) (o := .cells #[.string a1_0, .slice A1_1 l1_1.length c1_1, .int .i64 a1_2, .int .i64 a1_3] 32 (0, 0)) (by (with_reducible repeat (first | refine blk_drewN ?_ _ | refine blk_drew ?_ | refine blk_alloc ?_ _)); exact BK144.out)) : gb163 ≠ gb144))
        have n12_ := Aside0.mk ((by rw [hg]; exact Nat.ne_of_lt (blk_lt (g := gb145) (o := .cells #[.int .i64 0, .int .i64 0, .int .i64 0, .int .i64 0, .int .i64 0] 27 (0, 0)) (by (with_reducible repeat (first | refine blk_drewN ?_ _ | refine blk_drew ?_ | refine blk_alloc ?_ _)); exact BK145.out)) : gb145 ≠ gb163))
        have n13_ := Aside0.mk ((by rw [hg]; exact Nat.ne_of_gt (blk_lt (g := gb145) (o := .cells #[.int .i64 0, .int .i64 0, .int .i64 0, .int .i64 0, .int .i64 0] 27 (0, 0)) (by (with_reducible repeat (first | refine blk_drewN ?_ _ | refine blk_drew ?_ | refine blk_alloc ?_ _)); exact BK145.out)) : gb163 ≠ gb145))
        clear HO156
        clear BK143
        clear BK144
        clear BK145
        clear HB
        have HO156 := n0_
        have BK143 := n1_
        have BK144 := n2_
        have BK145 := n3_
        have HB := n4_
        have BK163 := n5_
        have GW163 := n6_
        have GE163 := n7_
        have NB143_163 := n8_
        have NB163_143 := n9_
        have NB144_163 := n10_
        have NB163_144 := n11_
        have NB145_163 := n12_
        have NB163_145 := n13_
        clear n0_ n1_ n2_ n3_ n4_ n5_ n6_ n7_ n8_ n9_ n10_ n11_ n12_ n13_
        clear hb hbox hg
        refine hK.out _ _ ⟨(blk_cell BK143.out 0).trans rfl, (blk_cell BK143.out 1).trans rfl, (blk_cell BK143.out 2).trans rfl, (blk_cell BK143.out 3).trans rfl, (blk_cell BK144.out 0).trans rfl, (blk_cell BK144.out 1).trans rfl, (blk_cell BK144.out 2).trans rfl, (blk_cell BK144.out 3).trans rfl⟩ (fun hHeld => ?_)
        clear hK K
        refine norm_ (a' := ?_) ?_ ?_
        rotate_left
        ·show Act.put _ (some 7) _ = _
         simp only [Act.put, List.setIfInBounds_toArray, List.set_cons_zero, List.set_cons_succ, i64_w, i32_w]
         rfl
        exact norm_ (by first | (simp only [putAll, Act.put, List.setIfInBounds_toArray, List.set_cons_zero, List.set_cons_succ]; done) | (simp only [putAll, Act.put, List.setIfInBounds_toArray, List.set_cons_zero, List.set_cons_succ]; rfl)) (hJ0_3_6_7_11 (v149, v152, v155, gb163) _ ⟨hHeld, (by (with_reducible repeat (first | apply Kd.R_alloc | apply Kd.R_drewN | apply Kd.R_drew)); exact HO156.out), (by (with_reducible repeat (first | refine blk_drewN ?_ _ | refine blk_drew ?_ | refine blk_alloc ?_ _)); exact BK143.out), (by (with_reducible repeat (first | refine blk_drewN ?_ _ | refine blk_drew ?_ | refine blk_alloc ?_ _)); exact BK144.out), (by (with_reducible repeat (first | refine blk_drewN ?_ _ | refine blk_drew ?_ | refine blk_alloc ?_ _)); exact BK145.out), (by (with_reducible repeat (first | refine blk_drewN ?_ _ | refine blk_drew ?_ | refine blk_alloc ?_ _)); exact BK163.out), GW163.out, GE163.out, NB143_163.out, NB163_143.out, NB144_163.out, NB163_144.out, NB145_163.out, NB163_145.out, (by repeat (first | (with_reducible first | exact HB.out | apply below_alloc | apply pw_below_drewN | apply below_drew1 | refine below_set ?_ GE143.out | refine below_set ?_ GE144.out | refine below_set ?_ GE145.out | refine below_set ?_ GE163.out) | exact HB.out))⟩)
      rintro ⟨v149, v152, v155, gb163⟩ w37 ⟨hS_, h0_, h1_, h2_, h3_, h4_, h5_, h6_, h7_, h8_, h9_, h10_, h11_, h12_, h13_⟩
      have n0_ : Aside0 (Kd.R k59 59 w37 w.heap.size (fun _ => True) v155 y154) := ⟨h0_⟩
      have n1_ : Aside0 (w37.heap[gb143]? = some (.cells #[.string a0_0, .slice A0_1 l0_1.length c0_1, .int .i64 a0_2, .int .i64 a0_3] 32 (0, 0))) := ⟨h1_⟩
      have n2_ : Aside0 (w37.heap[gb144]? = some (.cells #[.string a1_0, .slice A1_1 l1_1.length c1_1, .int .i64 a1_2, .int .i64 a1_3] 32 (0, 0))) := ⟨h2_⟩
      have n3_ : Aside0 (w37.heap[gb145]? = some (.cells #[.int .i64 0, .int .i64 0, .int .i64 0, .int .i64 0, .int .i64 0] 27 (0, 0))) := ⟨h3_⟩
      have n4_ : Aside0 (w37.heap[gb163]? = some (.cells #[.int .i64 0, .int .i64 0, .int .i64 0, .int .i64 0, .int .i64 0] 27 (0, 0))) := ⟨h4_⟩
      have n5_ : Aside0 (w.heap.size ≤ gb163) := ⟨h5_⟩
      have n6_ : Aside0 (w.heap.size ≤ gb163) := ⟨h6_⟩
      have n7_ : Aside0 (gb143 ≠ gb163) := ⟨h7_⟩
      have n8_ : Aside0 (gb163 ≠ gb143) := ⟨h8_⟩
      have n9_ : Aside0 (gb144 ≠ gb163) := ⟨h9_⟩
      have n10_ : Aside0 (gb163 ≠ gb144) := ⟨h10_⟩
      have n11_ : Aside0 (gb145 ≠ gb163) := ⟨h11_⟩
      have n12_ : Aside0 (gb163 ≠ gb145) := ⟨h12_⟩
      have n13_ : Aside0 (Below w.heap.size w w37) := ⟨h13_⟩
      clear BK143
      clear BK144
      clear BK145
      clear HB
      clear h0_ h1_ h2_ h3_ h4_ h5_ h6_ h7_ h8_ h9_ h10_ h11_ h12_ h13_
      have HO156 := n0_
      have BK143 := n1_
      have BK144 := n2_
      have BK145 := n3_
      have BK163 := n4_
      have GW163 := n5_
      have GE163 := n6_
      have NB143_163 := n7_
      have NB163_143 := n8_
      have NB144_163 := n9_
      have NB163_144 := n10_
      have NB145_163 := n11_
      have NB163_145 := n12_
      have HB := n13_
      clear n0_ n1_ n2_ n3_ n4_ n5_ n6_ n7_ n8_ n9_ n10_ n11_ n12_ n13_
      have hHeld : w37.cell? ⟨gb143, 0, none⟩ = some (.string a0_0) ∧ w37.cell? ⟨gb143, 1, none⟩ = some (.slice A0_1 l0_1.length c0_1) ∧ w37.cell? ⟨gb143, 2, none⟩ = some (.int .i64 a0_2) ∧ w37.cell? ⟨gb143, 3, none⟩ = some (.int .i64 a0_3) ∧ w37.cell? ⟨gb144, 0, none⟩ = some (.string a1_0) ∧ w37.cell? ⟨gb144, 1, none⟩ = some (.slice A1_1 l1_1.length c1_1) ∧ w37.cell? ⟨gb144, 2, none⟩ = some (.int .i64 a1_2) ∧ w37.cell? ⟨gb144, 3, none⟩ = some (.int .i64 a1_3) := hS_
      refine norm_ (a' := ?_) ?_ ?_
      rotate_left
      ·simp only [putAll, Act.put, List.setIfInBounds_toArray, List.set_cons_zero, List.set_cons_succ]
       rfl
      refine one_ (i := 12) (N := none) (rl_ true [13, 1]).toArray rfl rfl (one_of HT_.out (by kernel_rfl)) (by decide) (fun K hK => ?_)
      have hs38 : w37.cell? ⟨gb163, 0, none⟩ = some (.int .i64 0) := (blk_cell BK163.out 0).trans rfl
      have hfs38 := blk_frozen BK163.out 0
      have hns38_0 := NB143_163.out
      have hns38_1 := NB144_163.out
      have hns38_2 := NB145_163.out
      have hms38_0 := NB163_143.out
      have hms38_1 := NB163_144.out
      have hms38_2 := NB163_145.out
      have hs39 : w37.cell? ⟨gb163, 1, none⟩ = some (.int .i64 0) := (blk_cell BK163.out 1).trans rfl
      have hfs39 := blk_frozen BK163.out 1
      have hns39_0 := NB143_163.out
      have hns39_1 := NB144_163.out
      have hns39_2 := NB145_163.out
      have hms39_0 := NB163_143.out
      have hms39_1 := NB163_144.out
      have hms39_2 := NB163_145.out
      have hs40 : w37.cell? ⟨gb163, 2, none⟩ = some (.int .i64 0) := (blk_cell BK163.out 2).trans rfl
      have hfs40 := blk_frozen BK163.out 2
      have hns40_0 := NB143_163.out
      have hns40_1 := NB144_163.out
      have hns40_2 := NB145_163.out
      have hms40_0 := NB163_143.out
      have hms40_1 := NB163_144.out
      have hms40_2 := NB163_145.out
      have hs41 : w37.cell? ⟨gb163, 3, none⟩ = some (.int .i64 0) := (blk_cell BK163.out 3).trans rfl
      have hfs41 := blk_frozen BK163.out 3
      have hns41_0 := NB143_163.out
      have hns41_1 := NB144_163.out
      have hns41_2 := NB145_163.out
      have hms41_0 := NB163_143.out
      have hms41_1 := NB163_144.out
      have hms41_2 := NB163_145.out
      have hs42 : w37.cell? ⟨gb163, 4, none⟩ = some (.int .i64 0) := (blk_cell BK163.out 4).trans rfl
      have hfs42 := blk_frozen BK163.out 4
      have hns42_0 := NB143_163.out
      have hns42_1 := NB144_163.out
      have hns42_2 := NB145_163.out
      have hms42_0 := NB163_143.out
      have hms42_1 := NB163_144.out
      have hms42_2 := NB163_145.out
      refine skip_ (w1 := ?_) (by rfl) rfl ?_ ?_
      rotate_left
      ·go_simp
       rfl
      refine hK.out _ _ ⟨((cell_far (p := ⟨gb163, _, none⟩) NB143_163.out _).trans (((cell_far (p := ⟨gb163, _, none⟩) NB143_163.out _).trans (((cell_far (p := ⟨gb163, _, none⟩) NB143_163.out _).trans (((cell_far (p := ⟨gb163, _, none⟩) NB143_163.out _).trans (((cell_far (p := ⟨gb163, _, none⟩) NB143_163.out _).trans (hHeld.1)))))))))), ((cell_far (p := ⟨gb163, _, none⟩) NB143_163.out _).trans (((cell_far (p := ⟨gb163, _, none⟩) NB143_163.out _).trans (((cell_far (p := ⟨gb163, _, none⟩) NB143_163.out _).trans (((cell_far (p := ⟨gb163, _, none⟩) NB143_163.out _).trans (((cell_far (p := ⟨gb163, _, none⟩) NB143_163.out _).trans (hHeld.2.1)))))))))), ((cell_far (p := ⟨gb163, _, none⟩) NB143_163.out _).trans (((cell_far (p := ⟨gb163, _, none⟩) NB143_163.out _).trans (((cell_far (p := ⟨gb163, _, none⟩) NB143_163.out _).trans (((cell_far (p := ⟨gb163, _, none⟩) NB143_163.out _).trans (((cell_far (p := ⟨gb163, _, none⟩) NB143_163.out _).trans (hHeld.2.2.1)))))))))), ((cell_far (p := ⟨gb163, _, none⟩) NB143_163.out _).trans (((cell_far (p := ⟨gb163, _, none⟩) NB143_163.out _).trans (((cell_far (p := ⟨gb163, _, none⟩) NB143_163.out _).trans (((cell_far (p := ⟨gb163, _, none⟩) NB143_163.out _).trans (((cell_far (p := ⟨gb163, _, none⟩) NB143_163.out _).trans (hHeld.2.2.2.1)))))))))), ((cell_far (p := ⟨gb163, _, none⟩) NB144_163.out _).trans (((cell_far (p := ⟨gb163, _, none⟩) NB144_163.out _).trans (((cell_far (p := ⟨gb163, _, none⟩) NB144_163.out _).trans (((cell_far (p := ⟨gb163, _, none⟩) NB144_163.out _).trans (((cell_far (p := ⟨gb163, _, none⟩) NB144_163.out _).trans (hHeld.2.2.2.2.1)))))))))), ((cell_far (p := ⟨gb163, _, none⟩) NB144_163.out _).trans (((cell_far (p := ⟨gb163, _, none⟩) NB144_163.out _).trans (((cell_far (p := ⟨gb163, _, none⟩) NB144_163.out _).trans (((cell_far (p := ⟨gb163, _, none⟩) NB144_163.out _).trans (((cell_far (p := ⟨gb163, _, none⟩) NB144_163.out _).trans (hHeld.2.2.2.2.2.1)))))))))), ((cell_far (p := ⟨gb163, _, none⟩) NB144_163.out _).trans (((cell_far (p := ⟨gb163, _, none⟩) NB144_163.out _).trans (((cell_far (p := ⟨gb163, _, none⟩) NB144_163.out _).trans (((cell_far (p := ⟨gb163, _, none⟩) NB144_163.out _).trans (((cell_far (p := ⟨gb163, _, none⟩) NB144_163.out _).trans (hHeld.2.2.2.2.2.2.1)))))))))), ((cell_far (p := ⟨gb163, _, none⟩) NB144_163.out _).trans (((cell_far (p := ⟨gb163, _, none⟩) NB144_163.out _).trans (((cell_far (p := ⟨gb163, _, none⟩) NB144_163.out _).trans (((cell_far (p := ⟨gb163, _, none⟩) NB144_163.out _).trans (((cell_far (p := ⟨gb163, _, none⟩) NB144_163.out _).trans (hHeld.2.2.2.2.2.2.2))))))))))⟩ (fun hHeld => ?_)
      clear hK K
      refine pure_ (i := 13) (N := some 8) (v := ?_) (a' := ?_) (rl_ true [14]).toArray rfl rfl (any_of HT_.out (by kernel_rfl)) (fun _ _ _ h => h) (Or.inl ⟨by rfl, ?_⟩) ?_ ?_
      rotate_left
      ·intro w'
       go_simp
       with_reducible rfl
      rotate_left
      ·simp only [Act.put, List.setIfInBounds_toArray, List.set_cons_zero, List.set_cons_succ, i64_w, i32_w]
       rfl
      refine done_ (done_of HT_.out (by kernel_rfl)) ?_
      go_upto_region 4 with (fail)
      go_cut [44] (fun v44 wc => ∃ (kq : Nat) (x44_27 : Bool), v44 = .bool x44_27 ∧ Aside0 (spec_Clash.j1 kq x44_27 t157 t158 t159 t160 t161 = some (r1, r2, r3, r4, r5, r6, r7)) ∧ Aside0 (kq ≤ kj2) ∧ Aside0 (wc.heap[gb143]? = some (.cells #[.string a0_0, (.slice A0_1 l0_1.length c0_1), .int .i64 a0_2, .int .i64 a0_3] 32 (0, 0))) ∧ Aside0 (wc.heap[gb144]? = some (.cells #[.string a1_0, (.slice A1_1 l1_1.length c1_1), .int .i64 a1_2, .int .i64 a1_3] 32 (0, 0))) ∧ Aside0 (wc.heap[gb145]? = some (.cells #[.int .i64 0, .int .i64 0, .int .i64 0, .int .i64 0, .int .i64 0] 27 (0, 0))) ∧ Aside0 (wc.heap[gb163]? = some (.cells #[.int .i64 t157, .int .i64 t158, .int .i64 t159, .int .i64 t160, .int .i64 t161] 27 (0, 0))) ∧ Aside0 (Below w.heap.size w wc))
      case first =>
       have H := HC28.out
       clear HC28
       by_cases c43 : t162 = true
       ·subst c43
        have H1 : (if a0_2 = a1_2 then (spec_Clash.j1 kj2 (a0_3 == a1_3) t157 t158 t159 t160 t161) else (spec_Clash.j1 kj2 false t157 t158 t159 t160 t161)) = some (r1, r2, r3, r4, r5, r6, r7) := by rw [if_pos rfl] at H; exact H
        clear H
        have H := H1
        clear H1
        by_cases c44 : a0_2 = a1_2
        ·rw [if_pos c44] at H
         have c44b0 : (a0_2 == a1_2) = true := beq_iff_eq.mpr c44
         have c44b1 : (a0_2 != a1_2) = false := bne_eq_false_iff_eq.mpr c44
         clear c44
         (first | rw [c44b0] | (simp only [i64_w, i32_w]; rw [c44b0]) | skip)
         have H' := Aside0.mk H
         clear H
         have hnb45 := NB143_144.out
         have hnc45 := NB144_143.out
         have hnb46 := NB143_145.out
         have hnc46 := NB145_143.out
         have hnb47 := NB143_163.out
         have hnc47 := NB163_143.out
         have hcz48_0 : w37.cell? ⟨gb143, 0, none⟩ = some (.string a0_0) := (blk_cell BK143.out 0).trans rfl
         have hcz48_1 : w37.cell? ⟨gb143, 1, none⟩ = some (.slice A0_1 l0_1.length c0_1) := (blk_cell BK143.out 1).trans rfl
         have hcz48_2 : w37.cell? ⟨gb143, 2, none⟩ = some (.int .i64 a0_2) := (blk_cell BK143.out 2).trans rfl
         have hcz48_3 : w37.cell? ⟨gb143, 3, none⟩ = some (.int .i64 a0_3) := (blk_cell BK143.out 3).trans rfl
         have hfz48_0 := blk_frozen BK143.out 0
         have hfz48_1 := blk_frozen BK143.out 1
         have hfz48_2 := blk_frozen BK143.out 2
         have hfz48_3 := blk_frozen BK143.out 3
         have hnb49 := NB144_145.out
         have hnc49 := NB145_144.out
         have hnb50 := NB144_163.out
         have hnc50 := NB163_144.out
         have hcz51_0 : w37.cell? ⟨gb144, 0, none⟩ = some (.string a1_0) := (blk_cell BK144.out 0).trans rfl
         have hcz51_1 : w37.cell? ⟨gb144, 1, none⟩ = some (.slice A1_1 l1_1.length c1_1) := (blk_cell BK144.out 1).trans rfl
         have hcz51_2 : w37.cell? ⟨gb144, 2, none⟩ = some (.int .i64 a1_2) := (blk_cell BK144.out 2).trans rfl
         have hcz51_3 : w37.cell? ⟨gb144, 3, none⟩ = some (.int .i64 a1_3) := (blk_cell BK144.out 3).trans rfl
         have hfz51_0 := blk_frozen BK144.out 0
         have hfz51_1 := blk_frozen BK144.out 1
         have hfz51_2 := blk_frozen BK144.out 2
         have hfz51_3 := blk_frozen BK144.out 3
         go_wp2
         go_meet
         case rel => exact ⟨_, ((a0_3 == a1_3)), (by first | rfl | (simp; done) | (simp [*]; done)), H', ⟨by have := HJ2.out; first | omega | exact Nat.le_refl _⟩, ⟨by (with_reducible repeat (first | refine blk_drewN ?_ _ | refine blk_drew ?_ | refine blk_alloc ?_ _)); refine blk_far ?_ NB143_163.out _; (with_reducible repeat (first | refine blk_drewN ?_ _ | refine blk_drew ?_ | refine blk_alloc ?_ _)); refine blk_far ?_ NB143_163.out _; (with_reducible repeat (first | refine blk_drewN ?_ _ | refine blk_drew ?_ | refine blk_alloc ?_ _)); refine blk_far ?_ NB143_163.out _; (with_reducible repeat (first | refine blk_drewN ?_ _ | refine blk_drew ?_ | refine blk_alloc ?_ _)); refine blk_far ?_ NB143_163.out _; (with_reducible repeat (first | refine blk_drewN ?_ _ | refine blk_drew ?_ | refine blk_alloc ?_ _)); refine blk_far ?_ NB143_163.out _; (with_reducible repeat (first | refine blk_drewN ?_ _ | refine blk_drew ?_ | refine blk_alloc ?_ _)); exact BK143.out⟩, ⟨by (with_reducible repeat (first | refine blk_drewN ?_ _ | refine blk_drew ?_ | refine blk_alloc ?_ _)); refine blk_far ?_ NB144_163.out _; (with_reducible repeat (first | refine blk_drewN ?_ _ | refine blk_drew ?_ | refine blk_alloc ?_ _)); refine blk_far ?_ NB144_163.out _; (with_reducible repeat (first | refine blk_drewN ?_ _ | refine blk_drew ?_ | refine blk_alloc ?_ _)); refine blk_far ?_ NB144_163.out _; (with_reducible repeat (first | refine blk_drewN ?_ _ | refine blk_drew ?_ | refine blk_alloc ?_ _)); refine blk_far ?_ NB144_163.out _; (with_reducible repeat (first | refine blk_drewN ?_ _ | refine blk_drew ?_ | refine blk_alloc ?_ _)); refine blk_far ?_ NB144_163.out _; (with_reducible repeat (first | refine blk_drewN ?_ _ | refine blk_drew ?_ | refine blk_alloc ?_ _)); exact BK144.out⟩, ⟨by (with_reducible repeat (first | refine blk_drewN ?_ _ | refine blk_drew ?_ | refine blk_alloc ?_ _)); refine blk_far ?_ NB145_163.out _; (with_reducible repeat (first | refine blk_drewN ?_ _ | refine blk_drew ?_ | refine blk_alloc ?_ _)); refine blk_far ?_ NB145_163.out _; (with_reducible repeat (first | refine blk_drewN ?_ _ | refine blk_drew ?_ | refine blk_alloc ?_ _)); refine blk_far ?_ NB145_163.out _; (with_reducible repeat (first | refine blk_drewN ?_ _ | refine blk_drew ?_ | refine blk_alloc ?_ _)); refine blk_far ?_ NB145_163.out _; (with_reducible repeat (first | refine blk_drewN ?_ _ | refine blk_drew ?_ | refine blk_alloc ?_ _)); refine blk_far ?_ NB145_163.out _; (with_reducible repeat (first | refine blk_drewN ?_ _ | refine blk_drew ?_ | refine blk_alloc ?_ _)); exact BK145.out⟩, ⟨by (with_reducible repeat (first | refine blk_drewN ?_ _ | refine blk_drew ?_ | refine blk_alloc ?_ _)); refine blk_put (cs := #[.int .i64 t157, .int .i64 t158, .int .i64 t159, .int .i64 t160, .int .i64 0]) ?_ 4 _ rfl; (with_reducible repeat (first | refine blk_drewN ?_ _ | refine blk_drew ?_ | refine blk_alloc ?_ _)); refine blk_put (cs := #[.int .i64 t157, .int .i64 t158, .int .i64 t159, .int .i64 0, .int .i64 0]) ?_ 3 _ rfl; (with_reducible repeat (first | refine blk_drewN ?_ _ | refine blk_drew ?_ | refine blk_alloc ?_ _)); refine blk_put (cs := #[.int .i64 t157, .int .i64 t158, .int .i64 0, .int .i64 0, .int .i64 0]) ?_ 2 _ rfl; (with_reducible repeat (first | refine blk_drewN ?_ _ | refine blk_drew ?_ | refine blk_alloc ?_ _)); refine blk_put (cs := #[.int .i64 t157, .int .i64 0, .int .i64 0, .int .i64 0, .int .i64 0]) ?_ 1 _ rfl; (with_reducible repeat (first | refine blk_drewN ?_ _ | refine blk_drew ?_ | refine blk_alloc ?_ _)); refine blk_put (cs := #[.int .i64 0, .int .i64 0, .int .i64 0, .int .i64 0, .int .i64 0]) ?_ 0 _ rfl; (with_reducible repeat (first | refine blk_drewN ?_ _ | refine blk_drew ?_ | refine blk_alloc ?_ _)); exact BK163.out⟩, ⟨by repeat (first | (with_reducible first | exact HB.out | apply below_alloc | apply pw_below_drewN | apply below_drew1 | refine below_set ?_ GE143.out | refine below_set ?_ GE144.out | refine below_set ?_ GE145.out | refine below_set ?_ GE163.out) | exact HB.out)⟩⟩
        ·rw [if_neg c44] at H
         have c44b0 : (a0_2 == a1_2) = false := beq_eq_false_iff_ne.mpr c44
         have c44b1 : (a0_2 != a1_2) = true := bne_iff_ne.mpr c44
         (first | rw [c44b0] | (simp only [i64_w, i32_w]; rw [c44b0]) | skip)
         have H' := Aside0.mk H
         clear H
         have hnb52 := NB143_144.out
         have hnc52 := NB144_143.out
         have hnb53 := NB143_145.out
         have hnc53 := NB145_143.out
         have hnb54 := NB143_163.out
         have hnc54 := NB163_143.out
         have hcz55_0 : w37.cell? ⟨gb143, 0, none⟩ = some (.string a0_0) := (blk_cell BK143.out 0).trans rfl
         have hcz55_1 : w37.cell? ⟨gb143, 1, none⟩ = some (.slice A0_1 l0_1.length c0_1) := (blk_cell BK143.out 1).trans rfl
         have hcz55_2 : w37.cell? ⟨gb143, 2, none⟩ = some (.int .i64 a0_2) := (blk_cell BK143.out 2).trans rfl
         have hcz55_3 : w37.cell? ⟨gb143, 3, none⟩ = some (.int .i64 a0_3) := (blk_cell BK143.out 3).trans rfl
         have hfz55_0 := blk_frozen BK143.out 0
         have hfz55_1 := blk_frozen BK143.out 1
         have hfz55_2 := blk_frozen BK143.out 2
         have hfz55_3 := blk_frozen BK143.out 3
         have hnb56 := NB144_145.out
         have hnc56 := NB145_144.out
         have hnb57 := NB144_163.out
         have hnc57 := NB163_144.out
         have hcz58_0 : w37.cell? ⟨gb144, 0, none⟩ = some (.string a1_0) := (blk_cell BK144.out 0).trans rfl
         have hcz58_1 : w37.cell? ⟨gb144, 1, none⟩ = some (.slice A1_1 l1_1.length c1_1) := (blk_cell BK144.out 1).trans rfl
         have hcz58_2 : w37.cell? ⟨gb144, 2, none⟩ = some (.int .i64 a1_2) := (blk_cell BK144.out 2).trans rfl
         have hcz58_3 : w37.cell? ⟨gb144, 3, none⟩ = some (.int .i64 a1_3) := (blk_cell BK144.out 3).trans rfl
         have hfz58_0 := blk_frozen BK144.out 0
         have hfz58_1 := blk_frozen BK144.out 1
         have hfz58_2 := blk_frozen BK144.out 2
         have hfz58_3 := blk_frozen BK144.out 3
         go_wp2
         go_meet
         case rel => exact ⟨_, (false), (by first | rfl | (simp; done) | (simp [*]; done)), H', ⟨by have := HJ2.out; first | omega | exact Nat.le_refl _⟩, ⟨by (with_reducible repeat (first | refine blk_drewN ?_ _ | refine blk_drew ?_ | refine blk_alloc ?_ _)); refine blk_far ?_ NB143_163.out _; (with_reducible repeat (first | refine blk_drewN ?_ _ | refine blk_drew ?_ | refine blk_alloc ?_ _)); refine blk_far ?_ NB143_163.out _; (with_reducible repeat (first | refine blk_drewN ?_ _ | refine blk_drew ?_ | refine blk_alloc ?_ _)); refine blk_far ?_ NB143_163.out _; (with_reducible repeat (first | refine blk_drewN ?_ _ | refine blk_drew ?_ | refine blk_alloc ?_ _)); refine blk_far ?_ NB143_163.out _; (with_reducible repeat (first | refine blk_drewN ?_ _ | refine blk_drew ?_ | refine blk_alloc ?_ _)); refine blk_far ?_ NB143_163.out _; (with_reducible repeat (first | refine blk_drewN ?_ _ | refine blk_drew ?_ | refine blk_alloc ?_ _)); exact BK143.out⟩, ⟨by (with_reducible repeat (first | refine blk_drewN ?_ _ | refine blk_drew ?_ | refine blk_alloc ?_ _)); refine blk_far ?_ NB144_163.out _; (with_reducible repeat (first | refine blk_drewN ?_ _ | refine blk_drew ?_ | refine blk_alloc ?_ _)); refine blk_far ?_ NB144_163.out _; (with_reducible repeat (first | refine blk_drewN ?_ _ | refine blk_drew ?_ | refine blk_alloc ?_ _)); refine blk_far ?_ NB144_163.out _; (with_reducible repeat (first | refine blk_drewN ?_ _ | refine blk_drew ?_ | refine blk_alloc ?_ _)); refine blk_far ?_ NB144_163.out _; (with_reducible repeat (first | refine blk_drewN ?_ _ | refine blk_drew ?_ | refine blk_alloc ?_ _)); refine blk_far ?_ NB144_163.out _; (with_reducible repeat (first | refine blk_drewN ?_ _ | refine blk_drew ?_ | refine blk_alloc ?_ _)); exact BK144.out⟩, ⟨by (with_reducible repeat (first | refine blk_drewN ?_ _ | refine blk_drew ?_ | refine blk_alloc ?_ _)); refine blk_far ?_ NB145_163.out _; (with_reducible repeat (first | refine blk_drewN ?_ _ | refine blk_drew ?_ | refine blk_alloc ?_ _)); refine blk_far ?_ NB145_163.out _; (with_reducible repeat (first | refine blk_drewN ?_ _ | refine blk_drew ?_ | refine blk_alloc ?_ _)); refine blk_far ?_ NB145_163.out _; (with_reducible repeat (first | refine blk_drewN ?_ _ | refine blk_drew ?_ | refine blk_alloc ?_ _)); refine blk_far ?_ NB145_163.out _; (with_reducible repeat (first | refine blk_drewN ?_ _ | refine blk_drew ?_ | refine blk_alloc ?_ _)); refine blk_far ?_ NB145_163.out _; (with_reducible repeat (first | refine blk_drewN ?_ _ | refine blk_drew ?_ | refine blk_alloc ?_ _)); exact BK145.out⟩, ⟨by (with_reducible repeat (first | refine blk_drewN ?_ _ | refine blk_drew ?_ | refine blk_alloc ?_ _)); refine blk_put (cs := #[.int .i64 t157, .int .i64 t158, .int .i64 t159, .int .i64 t160, .int .i64 0]) ?_ 4 _ rfl; (with_reducible repeat (first | refine blk_drewN ?_ _ | refine blk_drew ?_ | refine blk_alloc ?_ _)); refine blk_put (cs := #[.int .i64 t157, .int .i64 t158, .int .i64 t159, .int .i64 0, .int .i64 0]) ?_ 3 _ rfl; (with_reducible repeat (first | refine blk_drewN ?_ _ | refine blk_drew ?_ | refine blk_alloc ?_ _)); refine blk_put (cs := #[.int .i64 t157, .int .i64 t158, .int .i64 0, .int .i64 0, .int .i64 0]) ?_ 2 _ rfl; (with_reducible repeat (first | refine blk_drewN ?_ _ | refine blk_drew ?_ | refine blk_alloc ?_ _)); refine blk_put (cs := #[.int .i64 t157, .int .i64 0, .int .i64 0, .int .i64 0, .int .i64 0]) ?_ 1 _ rfl; (with_reducible repeat (first | refine blk_drewN ?_ _ | refine blk_drew ?_ | refine blk_alloc ?_ _)); refine blk_put (cs := #[.int .i64 0, .int .i64 0, .int .i64 0, .int .i64 0, .int .i64 0]) ?_ 0 _ rfl; (with_reducible repeat (first | refine blk_drewN ?_ _ | refine blk_drew ?_ | refine blk_alloc ?_ _)); exact BK163.out⟩, ⟨by repeat (first | (with_reducible first | exact HB.out | apply below_alloc | apply pw_below_drewN | apply below_drew1 | refine below_set ?_ GE143.out | refine below_set ?_ GE144.out | refine below_set ?_ GE145.out | refine below_set ?_ GE163.out) | exact HB.out)⟩⟩
       ·replace c43 := Bool.eq_false_iff.mpr c43
        subst c43
        have H1 : (spec_Clash.j1 kj2 true t157 t158 t159 t160 t161) = some (r1, r2, r3, r4, r5, r6, r7) := by rw [if_neg (show ¬ (false = true) by decide)] at H; exact H
        clear H
        have H := H1
        clear H1
        have H' := Aside0.mk H
        clear H
        go_wp2
        go_meet
        case rel => exact ⟨_, (true), (by first | rfl | (simp; done) | (simp [*]; done)), H', ⟨by have := HJ2.out; first | omega | exact Nat.le_refl _⟩, ⟨by (with_reducible repeat (first | refine blk_drewN ?_ _ | refine blk_drew ?_ | refine blk_alloc ?_ _)); refine blk_far ?_ NB143_163.out _; (with_reducible repeat (first | refine blk_drewN ?_ _ | refine blk_drew ?_ | refine blk_alloc ?_ _)); refine blk_far ?_ NB143_163.out _; (with_reducible repeat (first | refine blk_drewN ?_ _ | refine blk_drew ?_ | refine blk_alloc ?_ _)); refine blk_far ?_ NB143_163.out _; (with_reducible repeat (first | refine blk_drewN ?_ _ | refine blk_drew ?_ | refine blk_alloc ?_ _)); refine blk_far ?_ NB143_163.out _; (with_reducible repeat (first | refine blk_drewN ?_ _ | refine blk_drew ?_ | refine blk_alloc ?_ _)); refine blk_far ?_ NB143_163.out _; (with_reducible repeat (first | refine blk_drewN ?_ _ | refine blk_drew ?_ | refine blk_alloc ?_ _)); exact BK143.out⟩, ⟨by (with_reducible repeat (first | refine blk_drewN ?_ _ | refine blk_drew ?_ | refine blk_alloc ?_ _)); refine blk_far ?_ NB144_163.out _; (with_reducible repeat (first | refine blk_drewN ?_ _ | refine blk_drew ?_ | refine blk_alloc ?_ _)); refine blk_far ?_ NB144_163.out _; (with_reducible repeat (first | refine blk_drewN ?_ _ | refine blk_drew ?_ | refine blk_alloc ?_ _)); refine blk_far ?_ NB144_163.out _; (with_reducible repeat (first | refine blk_drewN ?_ _ | refine blk_drew ?_ | refine blk_alloc ?_ _)); refine blk_far ?_ NB144_163.out _; (with_reducible repeat (first | refine blk_drewN ?_ _ | refine blk_drew ?_ | refine blk_alloc ?_ _)); refine blk_far ?_ NB144_163.out _; (with_reducible repeat (first | refine blk_drewN ?_ _ | refine blk_drew ?_ | refine blk_alloc ?_ _)); exact BK144.out⟩, ⟨by (with_reducible repeat (first | refine blk_drewN ?_ _ | refine blk_drew ?_ | refine blk_alloc ?_ _)); refine blk_far ?_ NB145_163.out _; (with_reducible repeat (first | refine blk_drewN ?_ _ | refine blk_drew ?_ | refine blk_alloc ?_ _)); refine blk_far ?_ NB145_163.out _; (with_reducible repeat (first | refine blk_drewN ?_ _ | refine blk_drew ?_ | refine blk_alloc ?_ _)); refine blk_far ?_ NB145_163.out _; (with_reducible repeat (first | refine blk_drewN ?_ _ | refine blk_drew ?_ | refine blk_alloc ?_ _)); refine blk_far ?_ NB145_163.out _; (with_reducible repeat (first | refine blk_drewN ?_ _ | refine blk_drew ?_ | refine blk_alloc ?_ _)); refine blk_far ?_ NB145_163.out _; (with_reducible repeat (first | refine blk_drewN ?_ _ | refine blk_drew ?_ | refine blk_alloc ?_ _)); exact BK145.out⟩, ⟨by (with_reducible repeat (first | refine blk_drewN ?_ _ | refine blk_drew ?_ | refine blk_alloc ?_ _)); refine blk_put (cs := #[.int .i64 t157, .int .i64 t158, .int .i64 t159, .int .i64 t160, .int .i64 0]) ?_ 4 _ rfl; (with_reducible repeat (first | refine blk_drewN ?_ _ | refine blk_drew ?_ | refine blk_alloc ?_ _)); refine blk_put (cs := #[.int .i64 t157, .int .i64 t158, .int .i64 t159, .int .i64 0, .int .i64 0]) ?_ 3 _ rfl; (with_reducible repeat (first | refine blk_drewN ?_ _ | refine blk_drew ?_ | refine blk_alloc ?_ _)); refine blk_put (cs := #[.int .i64 t157, .int .i64 t158, .int .i64 0, .int .i64 0, .int .i64 0]) ?_ 2 _ rfl; (with_reducible repeat (first | refine blk_drewN ?_ _ | refine blk_drew ?_ | refine blk_alloc ?_ _)); refine blk_put (cs := #[.int .i64 t157, .int .i64 0, .int .i64 0, .int .i64 0, .int .i64 0]) ?_ 1 _ rfl; (with_reducible repeat (first | refine blk_drewN ?_ _ | refine blk_drew ?_ | refine blk_alloc ?_ _)); refine blk_put (cs := #[.int .i64 0, .int .i64 0, .int .i64 0, .int .i64 0, .int .i64 0]) ?_ 0 _ rfl; (with_reducible repeat (first | refine blk_drewN ?_ _ | refine blk_drew ?_ | refine blk_alloc ?_ _)); exact BK163.out⟩, ⟨by repeat (first | (with_reducible first | exact HB.out | apply below_alloc | apply pw_below_drewN | apply below_drew1 | refine below_set ?_ GE143.out | refine below_set ?_ GE144.out | refine below_set ?_ GE145.out | refine below_set ?_ GE163.out) | exact HB.out)⟩⟩
      case rest =>
       clear HC28
       try clear c1
       try clear c2
       try clear p2
       try clear c3
       try clear c4
       try clear c5
       try clear c26
       try clear c34
       try clear c43
       try clear c44
       try clear c44b0
       try clear c44b1
       try clear c45
       try clear c46
       try clear c47
       try clear c49
       try clear c50
       try clear c52
       try clear c53
       try clear c54
       try clear c56
       try clear c57
       try clear hcz48_0
       try clear hcz48_1
       try clear hcz48_2
       try clear hcz48_3
       try clear hcz51_0
       try clear hcz51_1
       try clear hcz51_2
       try clear hcz51_3
       try clear hcz55_0
       try clear hcz55_1
       try clear hcz55_2
       try clear hcz55_3
       try clear hcz58_0
       try clear hcz58_1
       try clear hcz58_2
       try clear hcz58_3
       try clear hfz48_0
       try clear hfz48_1
       try clear hfz48_2
       try clear hfz48_3
       try clear hfz51_0
       try clear hfz51_1
       try clear hfz51_2
       try clear hfz51_3
       try clear hfz55_0
       try clear hfz55_1
       try clear hfz55_2
       try clear hfz55_3
       try clear hfz58_0
       try clear hfz58_1
       try clear hfz58_2
       try clear hfz58_3
       obtain ⟨kq, x44_27, rfl, HA, HJ27, BK143, BK144, BK145, BK163, HB⟩ := hcut
       cases kq with
       | zero => exact absurd HA.out (by simp [spec_Clash.j1])
       | succ kj27 =>
        have H := HA.out
        clear HA
        simp only [spec_Clash.j1] at H
        by_cases c59 : x44_27 = true
        ·subst c59
         have H1 : (some (0, 0, 0, 0, 0, false, 0)) = some (r1, r2, r3, r4, r5, r6, r7) := by rw [if_pos rfl] at H; exact H
         clear H
         have H := H1
         clear H1
         simp only [Option.some.injEq, Prod.mk.injEq] at H
         obtain ⟨rfl, rfl, rfl, rfl, rfl, rfl, rfl⟩ := H
         have hnb60 := NB145_143.out
         have hnc60 := NB143_145.out
         have hnb61 := NB145_144.out
         have hnc61 := NB144_145.out
         have hnb62 := NB145_163.out
         have hnc62 := NB163_145.out
         have hcz63_0 : wc.cell? ⟨gb145, 0, none⟩ = some (.int .i64 0) := (blk_cell BK145.out 0).trans rfl
         have hcz63_1 : wc.cell? ⟨gb145, 1, none⟩ = some (.int .i64 0) := (blk_cell BK145.out 1).trans rfl
         have hcz63_2 : wc.cell? ⟨gb145, 2, none⟩ = some (.int .i64 0) := (blk_cell BK145.out 2).trans rfl
         have hcz63_3 : wc.cell? ⟨gb145, 3, none⟩ = some (.int .i64 0) := (blk_cell BK145.out 3).trans rfl
         have hcz63_4 : wc.cell? ⟨gb145, 4, none⟩ = some (.int .i64 0) := (blk_cell BK145.out 4).trans rfl
         have hfz63_0 := blk_frozen BK145.out 0
         have hfz63_1 := blk_frozen BK145.out 1
         have hfz63_2 := blk_frozen BK145.out 2
         have hfz63_3 := blk_frozen BK145.out 3
         have hfz63_4 := blk_frozen BK145.out 4
         go_wp2
         refine bodyPost_ret (results_ctt rfl _ _ gb145 27 #[.int .i64 0, .int .i64 0, .int .i64 0, .int .i64 0, .int .i64 0] (0, 0) _ rfl (by (with_reducible repeat (first | refine blk_drewN ?_ _ | refine blk_drew ?_ | refine blk_alloc ?_ _)); refine blk_put (cs := #[.int .i64 0, .int .i64 0, .int .i64 0, .int .i64 0, .int .i64 0]) ?_ 4 _ rfl; (with_reducible repeat (first | refine blk_drewN ?_ _ | refine blk_drew ?_ | refine blk_alloc ?_ _)); refine blk_put (cs := #[.int .i64 0, .int .i64 0, .int .i64 0, .int .i64 0, .int .i64 0]) ?_ 3 _ rfl; (with_reducible repeat (first | refine blk_drewN ?_ _ | refine blk_drew ?_ | refine blk_alloc ?_ _)); refine blk_put (cs := #[.int .i64 0, .int .i64 0, .int .i64 0, .int .i64 0, .int .i64 0]) ?_ 2 _ rfl; (with_reducible repeat (first | refine blk_drewN ?_ _ | refine blk_drew ?_ | refine blk_alloc ?_ _)); refine blk_put (cs := #[.int .i64 0, .int .i64 0, .int .i64 0, .int .i64 0, .int .i64 0]) ?_ 1 _ rfl; (with_reducible repeat (first | refine blk_drewN ?_ _ | refine blk_drew ?_ | refine blk_alloc ?_ _)); refine blk_put (cs := #[.int .i64 0, .int .i64 0, .int .i64 0, .int .i64 0, .int .i64 0]) ?_ 0 _ rfl; (with_reducible repeat (first | refine blk_drewN ?_ _ | refine blk_drew ?_ | refine blk_alloc ?_ _)); exact BK145.out) Try.underlying27 rfl (by kernel_rfl)) rfl ?_
         exact ⟨by first | rfl | (simp [errW_none, errW_some] <;> rfl) | (simp [*, errW_none, errW_some] <;> rfl), by repeat (first | (with_reducible first | exact HB.out | apply below_alloc | apply pw_below_drewN | apply below_drew1 | refine below_set ?_ GE143.out | refine below_set ?_ GE144.out | refine below_set ?_ GE145.out | refine below_set ?_ GE163.out) | exact HB.out)⟩
        ·replace c59 := Bool.eq_false_iff.mpr c59
         subst c59
         have H1 : (some (t157, t158, t159, t160, t161, true, 0)) = some (r1, r2, r3, r4, r5, r6, r7) := by rw [if_neg (show ¬ (false = true) by decide)] at H; exact H
         clear H
         have H := H1
         clear H1
         simp only [Option.some.injEq, Prod.mk.injEq] at H
         obtain ⟨rfl, rfl, rfl, rfl, rfl, rfl, rfl⟩ := H
         have hnb64 := NB163_143.out
         have hnc64 := NB143_163.out
         have hnb65 := NB163_144.out
         have hnc65 := NB144_163.out
         have hnb66 := NB163_145.out
         have hnc66 := NB145_163.out
         have hcz67_0 : wc.cell? ⟨gb163, 0, none⟩ = some (.int .i64 t157) := (blk_cell BK163.out 0).trans rfl
         have hcz67_1 : wc.cell? ⟨gb163, 1, none⟩ = some (.int .i64 t158) := (blk_cell BK163.out 1).trans rfl
         have hcz67_2 : wc.cell? ⟨gb163, 2, none⟩ = some (.int .i64 t159) := (blk_cell BK163.out 2).trans rfl
         have hcz67_3 : wc.cell? ⟨gb163, 3, none⟩ = some (.int .i64 t160) := (blk_cell BK163.out 3).trans rfl
         have hcz67_4 : wc.cell? ⟨gb163, 4, none⟩ = some (.int .i64 t161) := (blk_cell BK163.out 4).trans rfl
         have hfz67_0 := blk_frozen BK163.out 0
         have hfz67_1 := blk_frozen BK163.out 1
         have hfz67_2 := blk_frozen BK163.out 2
         have hfz67_3 := blk_frozen BK163.out 3
         have hfz67_4 := blk_frozen BK163.out 4
         have hnb68 := NB145_143.out
         have hnc68 := NB143_145.out
         have hnb69 := NB145_144.out
         have hnc69 := NB144_145.out
         have hcz70_0 : wc.cell? ⟨gb145, 0, none⟩ = some (.int .i64 0) := (blk_cell BK145.out 0).trans rfl
         have hcz70_1 : wc.cell? ⟨gb145, 1, none⟩ = some (.int .i64 0) := (blk_cell BK145.out 1).trans rfl
         have hcz70_2 : wc.cell? ⟨gb145, 2, none⟩ = some (.int .i64 0) := (blk_cell BK145.out 2).trans rfl
         have hcz70_3 : wc.cell? ⟨gb145, 3, none⟩ = some (.int .i64 0) := (blk_cell BK145.out 3).trans rfl
         have hcz70_4 : wc.cell? ⟨gb145, 4, none⟩ = some (.int .i64 0) := (blk_cell BK145.out 4).trans rfl
         have hfz70_0 := blk_frozen BK145.out 0
         have hfz70_1 := blk_frozen BK145.out 1
         have hfz70_2 := blk_frozen BK145.out 2
         have hfz70_3 := blk_frozen BK145.out 3
         have hfz70_4 := blk_frozen BK145.out 4
         go_wp2
         refine bodyPost_ret (results_ctt rfl _ _ gb145 27 #[.int .i64 t157, .int .i64 t158, .int .i64 t159, .int .i64 t160, .int .i64 t161] (0, 0) _ rfl (by (with_reducible repeat (first | refine blk_drewN ?_ _ | refine blk_drew ?_ | refine blk_alloc ?_ _)); refine blk_put (cs := #[.int .i64 t157, .int .i64 t158, .int .i64 t159, .int .i64 t160, .int .i64 0]) ?_ 4 _ rfl; (with_reducible repeat (first | refine blk_drewN ?_ _ | refine blk_drew ?_ | refine blk_alloc ?_ _)); refine blk_put (cs := #[.int .i64 t157, .int .i64 t158, .int .i64 t159, .int .i64 0, .int .i64 0]) ?_ 3 _ rfl; (with_reducible repeat (first | refine blk_drewN ?_ _ | refine blk_drew ?_ | refine blk_alloc ?_ _)); refine blk_put (cs := #[.int .i64 t157, .int .i64 t158, .int .i64 0, .int .i64 0, .int .i64 0]) ?_ 2 _ rfl; (with_reducible repeat (first | refine blk_drewN ?_ _ | refine blk_drew ?_ | refine blk_alloc ?_ _)); refine blk_put (cs := #[.int .i64 t157, .int .i64 0, .int .i64 0, .int .i64 0, .int .i64 0]) ?_ 1 _ rfl; (with_reducible repeat (first | refine blk_drewN ?_ _ | refine blk_drew ?_ | refine blk_alloc ?_ _)); refine blk_put (cs := #[.int .i64 0, .int .i64 0, .int .i64 0, .int .i64 0, .int .i64 0]) ?_ 0 _ rfl; (with_reducible repeat (first | refine blk_drewN ?_ _ | refine blk_drew ?_ | refine blk_alloc ?_ _)); exact BK145.out) Try.underlying27 rfl (by kernel_rfl)) rfl ?_
         exact ⟨by first | rfl | (simp [errW_none, errW_some] <;> rfl) | (simp [*, errW_none, errW_some] <;> rfl), by repeat (first | (with_reducible first | exact HB.out | apply below_alloc | apply pw_below_drewN | apply below_drew1 | refine below_set ?_ GE143.out | refine below_set ?_ GE144.out | refine below_set ?_ GE145.out | refine below_set ?_ GE163.out) | exact HB.out)⟩
     ·rw [if_neg c26] at H
      exact absurd H (by simp)
    ·rw [if_neg c25] at H
     exact absurd H (by simp)

/-! ### impl_Clash: function 11, by hand -/
def impl_Clash.f (k : Nat) (a0_0 : ByteArray) (l0_1 : List S59) (a0_2 a0_3 : Int) (a1_0 : ByteArray) (l1_1 : List S59) (a1_2 a1_3 : Int) : Option (Int × Int × Int × Int × Int × Bool × Int) :=
 (impl_isClause.f k a0_0 l0_1 a0_2 a0_3).bind fun t => if t = true then ((impl_isClause.f k a1_0 l1_1 a1_2 a1_3).bind fun t => if t = true then
  (if ((l0_1 ++ l1_1).all fun t => decide (1 ≤ t.f0 ∧ t.f0 ≤ 5)) = true then
   (if impl_isEmpty.f (impl_narrowed.go (impl_narrowed.go impl_bounds.all l0_1) l1_1) = true then some (0, 0, 0, 0, 0, false, 0) else if a0_2 = a1_2 then (if a0_3 = a1_3 then some (0, 0, 0, 0, 0, false, 0) else some ((impl_narrowed.go (impl_narrowed.go impl_bounds.all l0_1) l1_1) 2, (impl_narrowed.go (impl_narrowed.go impl_bounds.all l0_1) l1_1) 4, (impl_narrowed.go (impl_narrowed.go impl_bounds.all l0_1) l1_1) 6, (impl_narrowed.go (impl_narrowed.go impl_bounds.all l0_1) l1_1) 8, (impl_narrowed.go (impl_narrowed.go impl_bounds.all l0_1) l1_1) 10, true, 0))
    else some ((impl_narrowed.go (impl_narrowed.go impl_bounds.all l0_1) l1_1) 2, (impl_narrowed.go (impl_narrowed.go impl_bounds.all l0_1) l1_1) 4, (impl_narrowed.go (impl_narrowed.go impl_bounds.all l0_1) l1_1) 6, (impl_narrowed.go (impl_narrowed.go impl_bounds.all l0_1) l1_1) 8, (impl_narrowed.go (impl_narrowed.go impl_bounds.all l0_1) l1_1) 10, true, 0)) else none)
  else some (0, 0, 0, 0, 0, false, 1)) else some (0, 0, 0, 0, 0, false, 1)
theorem impl_Clash.at {α : Type} {d : Kd α} {w w5 W : World} {A : Option Addr} {n : Nat} {l : List α} {Q : Prop} (h : Kd.C d w A n l) (hB : Below w.heap.size w w5) (hs : Below w5.heap.size w5 W ∧ Q) : Kd.C d W A n l := Kd.C_below h (hB.trans (hs.1.mono hB.size))
theorem impl_Clash.keepW {w5 w7 : World} {g : Nat} {a0 a1 a2 a3 b0 b1 b2 b3 : Value} {t : TypeId} (hA : w5.heap[g]? = some (.cells #[a0, a1, a2, a3] t (0, 0))) (hB : w5.heap[g + 1]? = some (.cells #[b0, b1, b2, b3] t (0, 0))) (h : Below w5.heap.size w5 w7) :
  Below w5.heap.size w5 w7 ∧ w7.cell? ⟨g, 0, none⟩ = some a0 ∧ w7.cell? ⟨g, 1, none⟩ = some a1 ∧ w7.cell? ⟨g, 2, none⟩ = some a2 ∧ w7.cell? ⟨g, 3, none⟩ = some a3 ∧ w7.cell? ⟨g + 1, 1, none⟩ = some b1 :=
 ⟨h, (blk_cell (blk_below hA h) 0).trans rfl, (blk_cell (blk_below hA h) 1).trans rfl, (blk_cell (blk_below hA h) 2).trans rfl, (blk_cell (blk_below hA h) 3).trans rfl, (blk_cell (blk_below hB h) 1).trans rfl⟩
theorem impl_Clash.keepT {w5 w6 w7 : World} {g : Nat} {a0 a1 a2 a3 b0 b1 b2 b3 : Value} {t : TypeId} (hA : w5.heap[g]? = some (.cells #[a0, a1, a2, a3] t (0, 0))) (hB : w5.heap[g + 1]? = some (.cells #[b0, b1, b2, b3] t (0, 0))) (hs : Below w5.heap.size w5 w6 ∧ w6.cell? ⟨g, 0, none⟩ = some a0 ∧ w6.cell? ⟨g, 1, none⟩ = some a1 ∧ w6.cell? ⟨g, 2, none⟩ = some a2 ∧ w6.cell? ⟨g, 3, none⟩ = some a3 ∧ w6.cell? ⟨g + 1, 1, none⟩ = some b1) (hb : Below w6.heap.size w6 w7) :
  Below w5.heap.size w5 w7 ∧ w7.cell? ⟨g, 0, none⟩ = some a0 ∧ w7.cell? ⟨g, 1, none⟩ = some a1 ∧ w7.cell? ⟨g, 2, none⟩ = some a2 ∧ w7.cell? ⟨g, 3, none⟩ = some a3 ∧ w7.cell? ⟨g + 1, 1, none⟩ = some b1 :=
 impl_Clash.keepW hA hB (hs.1.trans (hb.mono hs.1.size))
theorem impl_Clash.keepA {w5 w6 : World} {g : Nat} {a0 a1 a2 a3 b0 b1 b2 b3 : Value} {t : TypeId} (hA : w5.heap[g]? = some (.cells #[a0, a1, a2, a3] t (0, 0))) (hB : w5.heap[g + 1]? = some (.cells #[b0, b1, b2, b3] t (0, 0))) (hs : Below w5.heap.size w5 w6 ∧ w6.cell? ⟨g, 0, none⟩ = some a0 ∧ w6.cell? ⟨g, 1, none⟩ = some a1 ∧ w6.cell? ⟨g, 2, none⟩ = some a2 ∧ w6.cell? ⟨g, 3, none⟩ = some a3 ∧ w6.cell? ⟨g + 1, 1, none⟩ = some b1) (o : Obj) :
  Below w5.heap.size w5 (w6.alloc o) ∧ (w6.alloc o).cell? ⟨g, 0, none⟩ = some a0 ∧ (w6.alloc o).cell? ⟨g, 1, none⟩ = some a1 ∧ (w6.alloc o).cell? ⟨g, 2, none⟩ = some a2 ∧ (w6.alloc o).cell? ⟨g, 3, none⟩ = some a3 ∧ (w6.alloc o).cell? ⟨g + 1, 1, none⟩ = some b1 :=
 impl_Clash.keepW hA hB (hs.1.alloc hs.1.size o)
theorem impl_Clash.mono : ∀ a0 a1 a2 a3 a4 a5 a6 a7 k, LeO (impl_Clash.f k a0 a1 a2 a3 a4 a5 a6 a7) (impl_Clash.f (k + 1) a0 a1 a2 a3 a4 a5 a6 a7) := fun a0 a1 a2 a3 a4 a5 a6 a7 k =>
 LeO.bind (impl_isClause.mono a0 a1 a2 a3 k) (fun _ => LeO.ite (LeO.bind (impl_isClause.mono a4 a5 a6 a7 k) (fun _ => LeO.refl _)) (LeO.refl _))
set_option maxHeartbeats 8000000 in
set_option maxRecDepth 100000 in
theorem impl_Clash.calls (k : Nat) (a0_0 : ByteArray) (A0_1 : Option Addr) (c0_1 : Nat) (l0_1 : List S59) (a0_2 : Int) (a0_3 : Int) (a1_0 : ByteArray) (A1_1 : Option Addr) (c1_1 : Nat) (l1_1 : List S59) (a1_2 : Int) (a1_3 : Int) (r1 r2 r3 r4 r5 : Int) (r6 : Bool) (r7 : Int) (w : World)
  (hr0_1 : Kd.C k59 w A0_1 l0_1.length l0_1) (hc0_1 : l0_1.length ≤ c0_1) (hr1_1 : Kd.C k59 w A1_1 l1_1.length l1_1) (hc1_1 : l1_1.length ≤ c1_1) (h : impl_Clash.f k a0_0 l0_1 a0_2 a0_3 a1_0 l1_1 a1_2 a1_3 = some (r1, r2, r3, r4, r5, r6, r7)) :
  Calls Try.prog 11 #[.agg #[.string a0_0, .slice A0_1 l0_1.length c0_1, .int .i64 a0_2, .int .i64 a0_3], .agg #[.string a1_0, .slice A1_1 l1_1.length c1_1, .int .i64 a1_2, .int .i64 a1_3]] w fun e w' => e = .returned (.tuple #[.agg #[.int .i64 r1, .int .i64 r2, .int .i64 r3, .int .i64 r4, .int .i64 r5], .bool r6, .int .i64 r7]) ∧ Below w.heap.size w w' := by
 have HR0 := Aside0.mk hr0_1
 have HC0 := Aside0.mk hc0_1
 have HR1 := Aside0.mk hr1_1
 have HC1 := Aside0.mk hc1_1
 have B3 : Aside0 (Below w.heap.size w (((w.alloc (.cells #[.string a0_0, .slice A0_1 l0_1.length c0_1, .int .i64 a0_2, .int .i64 a0_3] 32)).alloc (.cells #[.string a1_0, .slice A1_1 l1_1.length c1_1, .int .i64 a1_2, .int .i64 a1_3] 32)).alloc (.cells #[.int .i64 0, .int .i64 0, .int .i64 0, .int .i64 0, .int .i64 0] 27))) := Aside0.mk ((((Below.refl _ w).alloc (Nat.le_refl _) _).alloc (by simp) _).alloc (by simp; omega) _)
 have DA : Aside0 ((((w.alloc (.cells #[.string a0_0, .slice A0_1 l0_1.length c0_1, .int .i64 a0_2, .int .i64 a0_3] 32)).alloc (.cells #[.string a1_0, .slice A1_1 l1_1.length c1_1, .int .i64 a1_2, .int .i64 a1_3] 32)).alloc (.cells #[.int .i64 0, .int .i64 0, .int .i64 0, .int .i64 0, .int .i64 0] 27)).heap[w.heap.size]? = some (.cells #[.string a0_0, .slice A0_1 l0_1.length c0_1, .int .i64 a0_2, .int .i64 a0_3] 32 (0, 0))) := Aside0.mk (blk_alloc (blk_alloc (blk_new w _) _) _)
 have DB : Aside0 ((((w.alloc (.cells #[.string a0_0, .slice A0_1 l0_1.length c0_1, .int .i64 a0_2, .int .i64 a0_3] 32)).alloc (.cells #[.string a1_0, .slice A1_1 l1_1.length c1_1, .int .i64 a1_2, .int .i64 a1_3] 32)).alloc (.cells #[.int .i64 0, .int .i64 0, .int .i64 0, .int .i64 0, .int .i64 0] 27)).heap[w.heap.size + 1]? = some (.cells #[.string a1_0, .slice A1_1 l1_1.length c1_1, .int .i64 a1_2, .int .i64 a1_3] 32 (0, 0))) := Aside0.mk (blk_alloc (by simpa using blk_new (w.alloc (.cells #[.string a0_0, .slice A0_1 l0_1.length c0_1, .int .i64 a0_2, .int .i64 a0_3] 32)) (.cells #[.string a1_0, .slice A1_1 l1_1.length c1_1, .int .i64 a1_2, .int .i64 a1_3] 32)) _)
 have DRR : Aside0 ((((w.alloc (.cells #[.string a0_0, .slice A0_1 l0_1.length c0_1, .int .i64 a0_2, .int .i64 a0_3] 32)).alloc (.cells #[.string a1_0, .slice A1_1 l1_1.length c1_1, .int .i64 a1_2, .int .i64 a1_3] 32)).alloc (.cells #[.int .i64 0, .int .i64 0, .int .i64 0, .int .i64 0, .int .i64 0] 27)).heap[w.heap.size + 1 + 1]? = some (.cells #[.int .i64 0, .int .i64 0, .int .i64 0, .int .i64 0, .int .i64 0] 27 (0, 0))) := Aside0.mk (by simpa using blk_new ((w.alloc (.cells #[.string a0_0, .slice A0_1 l0_1.length c0_1, .int .i64 a0_2, .int .i64 a0_3] 32)).alloc (.cells #[.string a1_0, .slice A1_1 l1_1.length c1_1, .int .i64 a1_2, .int .i64 a1_3] 32)) (.cells #[.int .i64 0, .int .i64 0, .int .i64 0, .int .i64 0, .int .i64 0] 27))
 obtain ⟨t1, h1, h⟩ := Option.bind_eq_some_iff.mp h
 have H1 := Aside0.mk h1
 have HH := Aside0.mk h
 clear hr0_1 hc0_1 hr1_1 hc1_1 h1 h
 go_enter Try.func11, Try.ntmps11
 go_wp2_with fail
 refine (impl_isClause.calls k a0_0 A0_1 c0_1 l0_1 a0_2 a0_3 t1 _ (Kd.C_below HR0.out B3.out) HC0.out H1.out).mono ?_
 rintro e w4 ⟨rfl, hb⟩
 generalize ((w.alloc (.cells #[.string a0_0, .slice A0_1 l0_1.length c0_1, .int .i64 a0_2, .int .i64 a0_3] 32)).alloc (.cells #[.string a1_0, .slice A1_1 l1_1.length c1_1, .int .i64 a1_2, .int .i64 a1_3] 32)).alloc (.cells #[.int .i64 0, .int .i64 0, .int .i64 0, .int .i64 0, .int .i64 0] 27) = w3 at *
 replace DA := Aside0.mk (blk_below DA.out hb)
 replace DB := Aside0.mk (blk_below DB.out hb)
 replace DRR := Aside0.mk (blk_below DRR.out hb)
 replace B3 := Aside0.mk (B3.out.trans (hb.mono B3.out.size))
 clear hb H1
 cases t1
 ·have hq : (r1, r2, r3, r4, r5, r6, r7) = ((0 : Int), (0 : Int), (0 : Int), (0 : Int), (0 : Int), false, (1 : Int)) := (Option.some.inj HH.out).symm
  simp only [Prod.mk.injEq] at hq
  obtain ⟨rfl, rfl, rfl, rfl, rfl, rfl, rfl⟩ := hq
  have z0 := (blk_cell DRR.out 0).trans rfl
  have zf0 := blk_frozen DRR.out 0
  have z1 := (blk_cell DRR.out 1).trans rfl
  have zf1 := blk_frozen DRR.out 1
  have z2 := (blk_cell DRR.out 2).trans rfl
  have zf2 := blk_frozen DRR.out 2
  have z3 := (blk_cell DRR.out 3).trans rfl
  have zf3 := blk_frozen DRR.out 3
  have z4 := (blk_cell DRR.out 4).trans rfl
  have zf4 := blk_frozen DRR.out 4
  go_wp2
  refine bodyPost_ret (results_ctt rfl _ _ (w.heap.size + 1 + 1) 27 #[.int .i64 0, .int .i64 0, .int .i64 0, .int .i64 0, .int .i64 0] (0, 0) _ rfl (by simpa using blk_set (blk_set (blk_set (blk_set (blk_set (DRR.out) 0 (.int .i64 0)) 1 (.int .i64 0)) 2 (.int .i64 0)) 3 (.int .i64 0)) 4 (.int .i64 0)) Try.underlying27 rfl (by kernel_rfl)) rfl ?_
  refine ⟨rfl, ?_⟩
  repeat (refine below_set ?_ (by omega))
  exact B3.out
 obtain ⟨t2, h2, h⟩ := Option.bind_eq_some_iff.mp (show (impl_isClause.f k a1_0 l1_1 a1_2 a1_3).bind _ = some (r1, r2, r3, r4, r5, r6, r7) from HH.out)
 have H2 := Aside0.mk h2
 have HK := Aside0.mk h
 clear h2 h HH
 have yb0 := (blk_cell DB.out 0).trans rfl
 have yb1 := (blk_cell DB.out 1).trans rfl
 have yb2 := (blk_cell DB.out 2).trans rfl
 have yb3 := (blk_cell DB.out 3).trans rfl
 go_wp2_with fail
 clear yb0 yb1 yb2 yb3
 refine (impl_isClause.calls k a1_0 A1_1 c1_1 l1_1 a1_2 a1_3 t2 _ (Kd.C_below HR1.out B3.out) HC1.out H2.out).mono ?_
 rintro e w5 ⟨rfl, hb⟩
 replace DA := Aside0.mk (blk_below DA.out hb)
 replace DB := Aside0.mk (blk_below DB.out hb)
 replace DRR := Aside0.mk (blk_below DRR.out hb)
 replace B3 := Aside0.mk (B3.out.trans (hb.mono B3.out.size))
 clear hb H2
 cases t2
 ·have hq : (r1, r2, r3, r4, r5, r6, r7) = ((0 : Int), (0 : Int), (0 : Int), (0 : Int), (0 : Int), false, (1 : Int)) := (Option.some.inj HK.out).symm
  simp only [Prod.mk.injEq] at hq
  obtain ⟨rfl, rfl, rfl, rfl, rfl, rfl, rfl⟩ := hq
  have z0 := (blk_cell DRR.out 0).trans rfl
  have zf0 := blk_frozen DRR.out 0
  have z1 := (blk_cell DRR.out 1).trans rfl
  have zf1 := blk_frozen DRR.out 1
  have z2 := (blk_cell DRR.out 2).trans rfl
  have zf2 := blk_frozen DRR.out 2
  have z3 := (blk_cell DRR.out 3).trans rfl
  have zf3 := blk_frozen DRR.out 3
  have z4 := (blk_cell DRR.out 4).trans rfl
  have zf4 := blk_frozen DRR.out 4
  go_wp2
  refine bodyPost_ret (results_ctt rfl _ _ (w.heap.size + 1 + 1) 27 #[.int .i64 0, .int .i64 0, .int .i64 0, .int .i64 0, .int .i64 0] (0, 0) _ rfl (by simpa using blk_set (blk_set (blk_set (blk_set (blk_set (DRR.out) 0 (.int .i64 0)) 1 (.int .i64 0)) 2 (.int .i64 0)) 3 (.int .i64 0)) 4 (.int .i64 0)) Try.underlying27 rfl (by kernel_rfl)) rfl ?_
  refine ⟨rfl, ?_⟩
  repeat (refine below_set ?_ (by omega))
  exact B3.out
 have hk : (if ((l0_1 ++ l1_1).all fun t => decide (1 ≤ t.f0 ∧ t.f0 ≤ 5)) = true then
   (if impl_isEmpty.f (impl_narrowed.go (impl_narrowed.go impl_bounds.all l0_1) l1_1) = true then some ((0 : Int), (0 : Int), (0 : Int), (0 : Int), (0 : Int), false, (0 : Int)) else if a0_2 = a1_2 then (if a0_3 = a1_3 then some (0, 0, 0, 0, 0, false, 0) else some ((impl_narrowed.go (impl_narrowed.go impl_bounds.all l0_1) l1_1) 2, (impl_narrowed.go (impl_narrowed.go impl_bounds.all l0_1) l1_1) 4, (impl_narrowed.go (impl_narrowed.go impl_bounds.all l0_1) l1_1) 6, (impl_narrowed.go (impl_narrowed.go impl_bounds.all l0_1) l1_1) 8, (impl_narrowed.go (impl_narrowed.go impl_bounds.all l0_1) l1_1) 10, true, 0))
    else some ((impl_narrowed.go (impl_narrowed.go impl_bounds.all l0_1) l1_1) 2, (impl_narrowed.go (impl_narrowed.go impl_bounds.all l0_1) l1_1) 4, (impl_narrowed.go (impl_narrowed.go impl_bounds.all l0_1) l1_1) 6, (impl_narrowed.go (impl_narrowed.go impl_bounds.all l0_1) l1_1) 8, (impl_narrowed.go (impl_narrowed.go impl_bounds.all l0_1) l1_1) 10, true, 0)) else none) = some (r1, r2, r3, r4, r5, r6, r7) := HK.out
 clear HK
 by_cases hall : ((l0_1 ++ l1_1).all fun t => decide (1 ≤ t.f0 ∧ t.f0 ≤ 5)) = true
 rotate_left
 ·rw [if_neg hall] at hk; cases hk
 rw [if_pos hall] at hk
 have hmem : ∀ t ∈ l0_1 ++ l1_1, 1 ≤ t.f0 ∧ t.f0 ≤ 5 := fun t hm => of_decide_eq_true (List.all_eq_true.1 hall t hm)
 have HT0 := Aside0.mk (fun t hm => hmem t (List.mem_append_left _ hm) : ∀ t ∈ l0_1, 1 ≤ t.f0 ∧ t.f0 ≤ 5)
 have HT1 := Aside0.mk (fun t hm => hmem t (List.mem_append_right _ hm) : ∀ t ∈ l1_1, 1 ≤ t.f0 ∧ t.f0 ≤ 5)
 have HL := Aside0.mk hk
 clear hall hmem hk
 go_upto_region 3 with (fail)
 go_cut [7] from 8 (fun s7 wx => ∃ g7, s7 = .pointer (some ⟨g7, 0, none⟩) ∧ Aside0 (wx.heap[g7]? = some (.cells #[.int .i64 ((impl_narrowed.go (impl_narrowed.go impl_bounds.all l0_1) l1_1) 0), .int .i64 ((impl_narrowed.go (impl_narrowed.go impl_bounds.all l0_1) l1_1) 1), .int .i64 ((impl_narrowed.go (impl_narrowed.go impl_bounds.all l0_1) l1_1) 2), .int .i64 ((impl_narrowed.go (impl_narrowed.go impl_bounds.all l0_1) l1_1) 3), .int .i64 ((impl_narrowed.go (impl_narrowed.go impl_bounds.all l0_1) l1_1) 4), .int .i64 ((impl_narrowed.go (impl_narrowed.go impl_bounds.all l0_1) l1_1) 5), .int .i64 ((impl_narrowed.go (impl_narrowed.go impl_bounds.all l0_1) l1_1) 6), .int .i64 ((impl_narrowed.go (impl_narrowed.go impl_bounds.all l0_1) l1_1) 7), .int .i64 ((impl_narrowed.go (impl_narrowed.go impl_bounds.all l0_1) l1_1) 8), .int .i64 ((impl_narrowed.go (impl_narrowed.go impl_bounds.all l0_1) l1_1) 9), .int .i64 ((impl_narrowed.go (impl_narrowed.go impl_bounds.all l0_1) l1_1) 10), .int .i64 ((impl_narrowed.go (impl_narrowed.go impl_bounds.all l0_1) l1_1) 11)] 71 (0, 0))) ∧ Aside0 (Below w5.heap.size w5 wx))
 case first =>
  have hs0 : w.heap.size + 1 + 1 < w5.heap.size := blk_lt DRR.out
  have ya0 := (blk_cell DA.out 0).trans rfl
  have ya1 := (blk_cell DA.out 1).trans rfl
  have ya2 := (blk_cell DA.out 2).trans rfl
  have ya3 := (blk_cell DA.out 3).trans rfl
  have yb1 := (blk_cell DB.out 1).trans rfl
  go_region_held3 (fun w' => Below w5.heap.size w5 w' ∧ w'.cell? ⟨w.heap.size, 0, none⟩ = some (.string a0_0) ∧ w'.cell? ⟨w.heap.size, 1, none⟩ = some (.slice A0_1 l0_1.length c0_1) ∧ w'.cell? ⟨w.heap.size, 2, none⟩ = some (.int .i64 a0_2) ∧ w'.cell? ⟨w.heap.size, 3, none⟩ = some (.int .i64 a0_3) ∧ w'.cell? ⟨w.heap.size + 1, 1, none⟩ = some (.slice A1_1 l1_1.length c1_1))
   (first
    | (with_reducible assumption)
    | (refine impl_Clash.keepW DA.out DB.out ?_; with_reducible exact below_drew1 (Below.refl _ _))
    | (refine impl_Clash.keepW DA.out DB.out ?_; with_reducible exact below_drew1 ((Below.refl _ _).alloc (Nat.le_refl _) _))
    | (refine impl_Clash.keepW DA.out DB.out ?_; (repeat refine below_set ?_ (by first | exact Nat.le_refl _ | exact g6 | exact g7)); first | (with_reducible exact hW7) | (with_reducible exact hW7.alloc g7 _))
    | (with_reducible refine impl_Clash.keepT DA.out DB.out ?hs hb_; (case hs => with_reducible assumption))
    | (with_reducible refine impl_Clash.keepA DA.out DB.out ?hs _; (case hs => with_reducible assumption)))
   (first
    | (go_at_call 37; rename_i hS_ _ _; refine (impl_bounds.calls a0_0 A0_1 c0_1 l0_1 a0_2 a0_3 _ (impl_Clash.at HR0.out B3.out hS_) HC0.out HT0.out).mono ?_; rintro e w6 ⟨rfl, hb_⟩; have hbA := hb_; have g6 : w5.heap.size ≤ w6.heap.size := Nat.le_trans hS_.1.size hb_.size)
    | (go_at_call 38; rename_i hS_ _ _; refine (impl_narrowed.calls (impl_narrowed.go impl_bounds.all l0_1) A1_1 c1_1 l1_1 _ (impl_Clash.at HR1.out B3.out hS_) HC1.out HT1.out).mono ?_; rintro e w7 ⟨rfl, hb_⟩; have g7 : w5.heap.size ≤ w7.heap.size := Nat.le_trans hS_.1.size hb_.size; have hW7 : Below w5.heap.size w5 w7 := hS_.1.trans (hb_.mono hS_.1.size); (first | ((with_reducible have ZZ := blk_below (blk_below (blk_drew (blk_new w5 (.cells #[.int .i64 0, .int .i64 0, .int .i64 0, .int .i64 0, .int .i64 0, .int .i64 0, .int .i64 0, .int .i64 0, .int .i64 0, .int .i64 0, .int .i64 0, .int .i64 0] 71))) hbA) hb_); have q0 : w7.cell? ⟨w5.heap.size, 0, none⟩ = some (.int .i64 0) := (blk_cell ZZ 0).trans rfl; have p0 := blk_frozen ZZ 0; have q1 : w7.cell? ⟨w5.heap.size, 1, none⟩ = some (.int .i64 0) := (blk_cell ZZ 1).trans rfl; have p1 := blk_frozen ZZ 1; have q2 : w7.cell? ⟨w5.heap.size, 2, none⟩ = some (.int .i64 0) := (blk_cell ZZ 2).trans rfl; have p2 := blk_frozen ZZ 2; have q3 : w7.cell? ⟨w5.heap.size, 3, none⟩ = some (.int .i64 0) := (blk_cell ZZ 3).trans rfl; have p3 := blk_frozen ZZ 3; have q4 : w7.cell? ⟨w5.heap.size, 4, none⟩ = some (.int .i64 0) := (blk_cell ZZ 4).trans rfl; have p4 := blk_frozen ZZ 4; have q5 : w7.cell? ⟨w5.heap.size, 5, none⟩ = some (.int .i64 0) := (blk_cell ZZ 5).trans rfl; have p5 := blk_frozen ZZ 5; have q6 : w7.cell? ⟨w5.heap.size, 6, none⟩ = some (.int .i64 0) := (blk_cell ZZ 6).trans rfl; have p6 := blk_frozen ZZ 6; have q7 : w7.cell? ⟨w5.heap.size, 7, none⟩ = some (.int .i64 0) := (blk_cell ZZ 7).trans rfl; have p7 := blk_frozen ZZ 7; have q8 : w7.cell? ⟨w5.heap.size, 8, none⟩ = some (.int .i64 0) := (blk_cell ZZ 8).trans rfl; have p8 := blk_frozen ZZ 8; have q9 : w7.cell? ⟨w5.heap.size, 9, none⟩ = some (.int .i64 0) := (blk_cell ZZ 9).trans rfl; have p9 := blk_frozen ZZ 9; have q10 : w7.cell? ⟨w5.heap.size, 10, none⟩ = some (.int .i64 0) := (blk_cell ZZ 10).trans rfl; have p10 := blk_frozen ZZ 10; have q11 : w7.cell? ⟨w5.heap.size, 11, none⟩ = some (.int .i64 0) := (blk_cell ZZ 11).trans rfl; have p11 := blk_frozen ZZ 11) | ((with_reducible have ZZ := blk_below (blk_new w6 (.cells #[.int .i64 0, .int .i64 0, .int .i64 0, .int .i64 0, .int .i64 0, .int .i64 0, .int .i64 0, .int .i64 0, .int .i64 0, .int .i64 0, .int .i64 0, .int .i64 0] 71)) hb_); have q0 : w7.cell? ⟨w6.heap.size, 0, none⟩ = some (.int .i64 0) := (blk_cell ZZ 0).trans rfl; have p0 := blk_frozen ZZ 0; have q1 : w7.cell? ⟨w6.heap.size, 1, none⟩ = some (.int .i64 0) := (blk_cell ZZ 1).trans rfl; have p1 := blk_frozen ZZ 1; have q2 : w7.cell? ⟨w6.heap.size, 2, none⟩ = some (.int .i64 0) := (blk_cell ZZ 2).trans rfl; have p2 := blk_frozen ZZ 2; have q3 : w7.cell? ⟨w6.heap.size, 3, none⟩ = some (.int .i64 0) := (blk_cell ZZ 3).trans rfl; have p3 := blk_frozen ZZ 3; have q4 : w7.cell? ⟨w6.heap.size, 4, none⟩ = some (.int .i64 0) := (blk_cell ZZ 4).trans rfl; have p4 := blk_frozen ZZ 4; have q5 : w7.cell? ⟨w6.heap.size, 5, none⟩ = some (.int .i64 0) := (blk_cell ZZ 5).trans rfl; have p5 := blk_frozen ZZ 5; have q6 : w7.cell? ⟨w6.heap.size, 6, none⟩ = some (.int .i64 0) := (blk_cell ZZ 6).trans rfl; have p6 := blk_frozen ZZ 6; have q7 : w7.cell? ⟨w6.heap.size, 7, none⟩ = some (.int .i64 0) := (blk_cell ZZ 7).trans rfl; have p7 := blk_frozen ZZ 7; have q8 : w7.cell? ⟨w6.heap.size, 8, none⟩ = some (.int .i64 0) := (blk_cell ZZ 8).trans rfl; have p8 := blk_frozen ZZ 8; have q9 : w7.cell? ⟨w6.heap.size, 9, none⟩ = some (.int .i64 0) := (blk_cell ZZ 9).trans rfl; have p9 := blk_frozen ZZ 9; have q10 : w7.cell? ⟨w6.heap.size, 10, none⟩ = some (.int .i64 0) := (blk_cell ZZ 10).trans rfl; have p10 := blk_frozen ZZ 10; have q11 : w7.cell? ⟨w6.heap.size, 11, none⟩ = some (.int .i64 0) := (blk_cell ZZ 11).trans rfl; have p11 := blk_frozen ZZ 11) | skip)))
  ·go_wp2_with fail
   go_meet
   case rel => exact ⟨w7.heap.size, rfl, ⟨blk_new w7 _⟩, ⟨hW7.alloc g7 _⟩⟩
  ·go_wp2_with fail
   go_meet
   case rel => exact ⟨w6.heap.size, rfl, ⟨by simpa using blk_set (blk_set (blk_set (blk_set (blk_set (blk_set (blk_set (blk_set (blk_set (blk_set (blk_set (blk_set (ZZ) 0 (.int .i64 ((impl_narrowed.go (impl_narrowed.go impl_bounds.all l0_1) l1_1) 0))) 1 (.int .i64 ((impl_narrowed.go (impl_narrowed.go impl_bounds.all l0_1) l1_1) 1))) 2 (.int .i64 ((impl_narrowed.go (impl_narrowed.go impl_bounds.all l0_1) l1_1) 2))) 3 (.int .i64 ((impl_narrowed.go (impl_narrowed.go impl_bounds.all l0_1) l1_1) 3))) 4 (.int .i64 ((impl_narrowed.go (impl_narrowed.go impl_bounds.all l0_1) l1_1) 4))) 5 (.int .i64 ((impl_narrowed.go (impl_narrowed.go impl_bounds.all l0_1) l1_1) 5))) 6 (.int .i64 ((impl_narrowed.go (impl_narrowed.go impl_bounds.all l0_1) l1_1) 6))) 7 (.int .i64 ((impl_narrowed.go (impl_narrowed.go impl_bounds.all l0_1) l1_1) 7))) 8 (.int .i64 ((impl_narrowed.go (impl_narrowed.go impl_bounds.all l0_1) l1_1) 8))) 9 (.int .i64 ((impl_narrowed.go (impl_narrowed.go impl_bounds.all l0_1) l1_1) 9))) 10 (.int .i64 ((impl_narrowed.go (impl_narrowed.go impl_bounds.all l0_1) l1_1) 10))) 11 (.int .i64 ((impl_narrowed.go (impl_narrowed.go impl_bounds.all l0_1) l1_1) 11))⟩, ⟨by (repeat refine below_set ?_ (by first | exact Nat.le_refl _ | exact g6)); exact hW7⟩⟩
  ·go_wp2_with fail
   go_meet
   case rel => exact ⟨w5.heap.size, rfl, ⟨by simpa using blk_set (blk_set (blk_set (blk_set (blk_set (blk_set (blk_set (blk_set (blk_set (blk_set (blk_set (blk_set (ZZ) 0 (.int .i64 ((impl_narrowed.go (impl_narrowed.go impl_bounds.all l0_1) l1_1) 0))) 1 (.int .i64 ((impl_narrowed.go (impl_narrowed.go impl_bounds.all l0_1) l1_1) 1))) 2 (.int .i64 ((impl_narrowed.go (impl_narrowed.go impl_bounds.all l0_1) l1_1) 2))) 3 (.int .i64 ((impl_narrowed.go (impl_narrowed.go impl_bounds.all l0_1) l1_1) 3))) 4 (.int .i64 ((impl_narrowed.go (impl_narrowed.go impl_bounds.all l0_1) l1_1) 4))) 5 (.int .i64 ((impl_narrowed.go (impl_narrowed.go impl_bounds.all l0_1) l1_1) 5))) 6 (.int .i64 ((impl_narrowed.go (impl_narrowed.go impl_bounds.all l0_1) l1_1) 6))) 7 (.int .i64 ((impl_narrowed.go (impl_narrowed.go impl_bounds.all l0_1) l1_1) 7))) 8 (.int .i64 ((impl_narrowed.go (impl_narrowed.go impl_bounds.all l0_1) l1_1) 8))) 9 (.int .i64 ((impl_narrowed.go (impl_narrowed.go impl_bounds.all l0_1) l1_1) 9))) 10 (.int .i64 ((impl_narrowed.go (impl_narrowed.go impl_bounds.all l0_1) l1_1) 10))) 11 (.int .i64 ((impl_narrowed.go (impl_narrowed.go impl_bounds.all l0_1) l1_1) 11))⟩, ⟨by (repeat refine below_set ?_ (by first | exact Nat.le_refl _ | exact g6)); exact hW7⟩⟩
 case rest =>
 obtain ⟨g7, rfl, D7, HW⟩ := hcut
 have hl := HL.out
 clear HL HT0 HT1 HR0 HR1 HC0 HC1
 generalize (impl_narrowed.go (impl_narrowed.go impl_bounds.all l0_1) l1_1) = B at *
 replace DA := Aside0.mk (blk_below DA.out HW.out)
 replace DB := Aside0.mk (blk_below DB.out HW.out)
 replace DRR := Aside0.mk (blk_below DRR.out HW.out)
 have B7 := Aside0.mk (B3.out.trans (HW.out.mono B3.out.size))
 clear HW B3
 have HL := Aside0.mk hl
 clear hl
 have t0 := (blk_cell D7.out 0).trans rfl
 have t1 := (blk_cell D7.out 1).trans rfl
 have t2 := (blk_cell D7.out 2).trans rfl
 have t3 := (blk_cell D7.out 3).trans rfl
 have t4 := (blk_cell D7.out 4).trans rfl
 have t5 := (blk_cell D7.out 5).trans rfl
 have t6 := (blk_cell D7.out 6).trans rfl
 have t7 := (blk_cell D7.out 7).trans rfl
 have t8 := (blk_cell D7.out 8).trans rfl
 have t9 := (blk_cell D7.out 9).trans rfl
 have t10 := (blk_cell D7.out 10).trans rfl
 have t11 := (blk_cell D7.out 11).trans rfl
 go_wp2_with fail
 clear t0 t1 t2 t3 t4 t5 t6 t7 t8 t9 t10 t11
 refine (impl_isEmpty.calls B _).mono ?_
 rintro e w8 ⟨rfl, hb8⟩
 replace DA := Aside0.mk (blk_below DA.out hb8)
 replace DB := Aside0.mk (blk_below DB.out hb8)
 replace DRR := Aside0.mk (blk_below DRR.out hb8)
 replace D7 := Aside0.mk (blk_below D7.out hb8)
 have hs0 : w.heap.size + 1 + 1 < w8.heap.size := blk_lt DRR.out
 have B8 := Aside0.mk (B7.out.trans (hb8.mono B7.out.size))
 clear hb8 B7
 have hl := HL.out
 clear HL
 have xa2 := (blk_cell DA.out 2).trans rfl
 have xa3 := (blk_cell DA.out 3).trans rfl
 have xb2 := (blk_cell DB.out 2).trans rfl
 have xb3 := (blk_cell DB.out 3).trans rfl
 cases hE : impl_isEmpty.f B
 ·rw [hE, if_neg (by decide)] at hl
  by_cases e2 : a0_2 = a1_2
  ·rw [if_pos e2] at hl
   subst e2
   by_cases e3 : a0_3 = a1_3
   ·rw [if_pos e3] at hl
    subst e3
    have hq := (Option.some.inj hl).symm
    simp only [Prod.mk.injEq] at hq
    obtain ⟨rfl, rfl, rfl, rfl, rfl, rfl, rfl⟩ := hq
    have zz0 := 0
    have zf0 := blk_frozen DRR.out 0
    have z0 := (blk_cell DRR.out 0).trans rfl
    have zf1 := blk_frozen DRR.out 1
    have z1 := (blk_cell DRR.out 1).trans rfl
    have zf2 := blk_frozen DRR.out 2
    have z2 := (blk_cell DRR.out 2).trans rfl
    have zf3 := blk_frozen DRR.out 3
    have z3 := (blk_cell DRR.out 3).trans rfl
    have zf4 := blk_frozen DRR.out 4
    have z4 := (blk_cell DRR.out 4).trans rfl
    go_wp2
    refine bodyPost_ret (results_ctt rfl _ _ (w.heap.size + 1 + 1) 27 #[.int .i64 0, .int .i64 0, .int .i64 0, .int .i64 0, .int .i64 0] (0, 0) _ rfl (by simpa using blk_set (blk_set (blk_set (blk_set (blk_set (DRR.out) 0 (.int .i64 0)) 1 (.int .i64 0)) 2 (.int .i64 0)) 3 (.int .i64 0)) 4 (.int .i64 0)) Try.underlying27 rfl (by kernel_rfl)) rfl ?_
    refine ⟨rfl, ?_⟩
    repeat (refine below_set ?_ (by omega))
    exact B8.out
   ·rw [if_neg e3] at hl
    have f3 : (a0_3 == a1_3) = false := beq_eq_false_iff_ne.mpr e3
    have hq := (Option.some.inj hl).symm
    simp only [Prod.mk.injEq] at hq
    obtain ⟨rfl, rfl, rfl, rfl, rfl, rfl, rfl⟩ := hq
    have t0 := (blk_cell D7.out 0).trans rfl
    have t1 := (blk_cell D7.out 1).trans rfl
    have t2 := (blk_cell D7.out 2).trans rfl
    have t3 := (blk_cell D7.out 3).trans rfl
    have t4 := (blk_cell D7.out 4).trans rfl
    have t5 := (blk_cell D7.out 5).trans rfl
    have t6 := (blk_cell D7.out 6).trans rfl
    have t7 := (blk_cell D7.out 7).trans rfl
    have t8 := (blk_cell D7.out 8).trans rfl
    have t9 := (blk_cell D7.out 9).trans rfl
    have t10 := (blk_cell D7.out 10).trans rfl
    have t11 := (blk_cell D7.out 11).trans rfl
    have zf0 := blk_frozen DRR.out 0
    have z0 := (blk_cell DRR.out 0).trans rfl
    have zf1 := blk_frozen DRR.out 1
    have z1 := (blk_cell DRR.out 1).trans rfl
    have zf2 := blk_frozen DRR.out 2
    have z2 := (blk_cell DRR.out 2).trans rfl
    have zf3 := blk_frozen DRR.out 3
    have z3 := (blk_cell DRR.out 3).trans rfl
    have zf4 := blk_frozen DRR.out 4
    have z4 := (blk_cell DRR.out 4).trans rfl
    go_wp2_with fail
    clear t0 t1 t2 t3 t4 t5 t6 t7 t8 t9 t10 t11 z0 zf0 z1 zf1 z2 zf2 z3 zf3 z4 zf4
    refine (impl_least.calls B _).mono ?_
    rintro e w9 ⟨rfl, hb9⟩
    replace DRR := Aside0.mk (blk_below DRR.out hb9)
    have B9 := Aside0.mk (B8.out.trans (hb9.mono B8.out.size))
    clear hb9
    have zf0 := blk_frozen DRR.out 0
    have z0 := (blk_cell DRR.out 0).trans rfl
    have zf1 := blk_frozen DRR.out 1
    have z1 := (blk_cell DRR.out 1).trans rfl
    have zf2 := blk_frozen DRR.out 2
    have z2 := (blk_cell DRR.out 2).trans rfl
    have zf3 := blk_frozen DRR.out 3
    have z3 := (blk_cell DRR.out 3).trans rfl
    have zf4 := blk_frozen DRR.out 4
    have z4 := (blk_cell DRR.out 4).trans rfl
    go_wp2
    refine bodyPost_ret (results_ctt rfl _ _ (w.heap.size + 1 + 1) 27 #[.int .i64 (B 2), .int .i64 (B 4), .int .i64 (B 6), .int .i64 (B 8), .int .i64 (B 10)] (0, 0) _ rfl (by simpa using blk_set (blk_set (blk_set (blk_set (blk_set (DRR.out) 0 (.int .i64 (B 2))) 1 (.int .i64 (B 4))) 2 (.int .i64 (B 6))) 3 (.int .i64 (B 8))) 4 (.int .i64 (B 10))) Try.underlying27 rfl (by kernel_rfl)) rfl ?_
    refine ⟨rfl, ?_⟩
    repeat (refine below_set ?_ (by omega))
    exact B9.out
  ·rw [if_neg e2] at hl
   have f2 : (a0_2 == a1_2) = false := beq_eq_false_iff_ne.mpr e2
   have hq := (Option.some.inj hl).symm
   simp only [Prod.mk.injEq] at hq
   obtain ⟨rfl, rfl, rfl, rfl, rfl, rfl, rfl⟩ := hq
   have t0 := (blk_cell D7.out 0).trans rfl
   have t1 := (blk_cell D7.out 1).trans rfl
   have t2 := (blk_cell D7.out 2).trans rfl
   have t3 := (blk_cell D7.out 3).trans rfl
   have t4 := (blk_cell D7.out 4).trans rfl
   have t5 := (blk_cell D7.out 5).trans rfl
   have t6 := (blk_cell D7.out 6).trans rfl
   have t7 := (blk_cell D7.out 7).trans rfl
   have t8 := (blk_cell D7.out 8).trans rfl
   have t9 := (blk_cell D7.out 9).trans rfl
   have t10 := (blk_cell D7.out 10).trans rfl
   have t11 := (blk_cell D7.out 11).trans rfl
   have zf0 := blk_frozen DRR.out 0
   have z0 := (blk_cell DRR.out 0).trans rfl
   have zf1 := blk_frozen DRR.out 1
   have z1 := (blk_cell DRR.out 1).trans rfl
   have zf2 := blk_frozen DRR.out 2
   have z2 := (blk_cell DRR.out 2).trans rfl
   have zf3 := blk_frozen DRR.out 3
   have z3 := (blk_cell DRR.out 3).trans rfl
   have zf4 := blk_frozen DRR.out 4
   have z4 := (blk_cell DRR.out 4).trans rfl
   go_wp2_with fail
   clear t0 t1 t2 t3 t4 t5 t6 t7 t8 t9 t10 t11 z0 zf0 z1 zf1 z2 zf2 z3 zf3 z4 zf4
   refine (impl_least.calls B _).mono ?_
   rintro e w9 ⟨rfl, hb9⟩
   replace DRR := Aside0.mk (blk_below DRR.out hb9)
   have B9 := Aside0.mk (B8.out.trans (hb9.mono B8.out.size))
   clear hb9
   have zf0 := blk_frozen DRR.out 0
   have z0 := (blk_cell DRR.out 0).trans rfl
   have zf1 := blk_frozen DRR.out 1
   have z1 := (blk_cell DRR.out 1).trans rfl
   have zf2 := blk_frozen DRR.out 2
   have z2 := (blk_cell DRR.out 2).trans rfl
   have zf3 := blk_frozen DRR.out 3
   have z3 := (blk_cell DRR.out 3).trans rfl
   have zf4 := blk_frozen DRR.out 4
   have z4 := (blk_cell DRR.out 4).trans rfl
   go_wp2
   refine bodyPost_ret (results_ctt rfl _ _ (w.heap.size + 1 + 1) 27 #[.int .i64 (B 2), .int .i64 (B 4), .int .i64 (B 6), .int .i64 (B 8), .int .i64 (B 10)] (0, 0) _ rfl (by simpa using blk_set (blk_set (blk_set (blk_set (blk_set (DRR.out) 0 (.int .i64 (B 2))) 1 (.int .i64 (B 4))) 2 (.int .i64 (B 6))) 3 (.int .i64 (B 8))) 4 (.int .i64 (B 10))) Try.underlying27 rfl (by kernel_rfl)) rfl ?_
   refine ⟨rfl, ?_⟩
   repeat (refine below_set ?_ (by omega))
   exact B9.out
 ·rw [hE, if_pos rfl] at hl
  have hq := (Option.some.inj hl).symm
  simp only [Prod.mk.injEq] at hq
  obtain ⟨rfl, rfl, rfl, rfl, rfl, rfl, rfl⟩ := hq
  have zz0 := 0
  have zf0 := blk_frozen DRR.out 0
  have z0 := (blk_cell DRR.out 0).trans rfl
  have zf1 := blk_frozen DRR.out 1
  have z1 := (blk_cell DRR.out 1).trans rfl
  have zf2 := blk_frozen DRR.out 2
  have z2 := (blk_cell DRR.out 2).trans rfl
  have zf3 := blk_frozen DRR.out 3
  have z3 := (blk_cell DRR.out 3).trans rfl
  have zf4 := blk_frozen DRR.out 4
  have z4 := (blk_cell DRR.out 4).trans rfl
  go_wp2
  refine bodyPost_ret (results_ctt rfl _ _ (w.heap.size + 1 + 1) 27 #[.int .i64 0, .int .i64 0, .int .i64 0, .int .i64 0, .int .i64 0] (0, 0) _ rfl (by simpa using blk_set (blk_set (blk_set (blk_set (blk_set (DRR.out) 0 (.int .i64 0)) 1 (.int .i64 0)) 2 (.int .i64 0)) 3 (.int .i64 0)) 4 (.int .i64 0)) Try.underlying27 rfl (by kernel_rfl)) rfl ?_
  refine ⟨rfl, ?_⟩
  repeat (refine below_set ?_ (by omega))
  exact B8.out

end Go.Proofs.Ytaablbglkfpbpaa.PAll
