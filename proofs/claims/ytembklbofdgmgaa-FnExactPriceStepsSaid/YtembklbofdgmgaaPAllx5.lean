-- Written by wip/tools/hp.py over the kit's print (not by hand): functions and walks of All.
import Derived.Test.YtembklbofdgmgaaPAllx0
import Derived.Test.YtembklbofdgmgaaPAllx1
namespace Go.Proofs.Ytembklbofdgmgaa.PAll
open Go.RowKit Go.Proofs.YtembklbofdgmgaaW.PrintWords Go.Proofs.YtembklbofdgmgaaW.PrintLast Go.Proofs.YtembklbofdgmgaaW.PrintMore
attribute [local go_sem] max2_int min2_int max_two min_two max_three min_three max_four min_four   -- for this text's walks alone
set_option linter.unusedVariables false
set_option linter.unusedSimpArgs false

/-! ### laws_szPriceRow: function 19 -/
def laws_szPriceRow.f (a0_0 : ByteArray) (a0_1 : ByteArray) (a0_2 : Int) (a0_3 : Int) (a0_4 : Int) (a0_5 : Int) (a1 : Int) : Option (Int) := if (wrap64 (a1 - (a0_0.size : Int))) < 0 then (some (-1)) else (if (wrap64 ((wrap64 (a1 - (a0_0.size : Int))) - (a0_1.size : Int))) < 0 then (some (-1)) else (some (wrap64 ((wrap64 (a1 - (a0_0.size : Int))) - (a0_1.size : Int)))))
set_option maxHeartbeats 8000000 in
set_option maxRecDepth 100000 in
theorem laws_szPriceRow.calls (a0_0 : ByteArray) (a0_1 : ByteArray) (a0_2 : Int) (a0_3 : Int) (a0_4 : Int) (a0_5 : Int) (a1 : Int) (r : Int) (w : World) (h : laws_szPriceRow.f a0_0 a0_1 a0_2 a0_3 a0_4 a0_5 a1 = some r) :
  Calls Try.prog 19 #[.agg #[.string a0_0, .string a0_1, .int .i64 a0_2, .int .i64 a0_3, .int .i64 a0_4, .int .i64 a0_5], .int .i64 a1] w fun e w' => e = .returned (.int .i64 r) ∧ Below w.heap.size w w' := by
 have hu47 := Try.underlying47; have HB := Aside0.mk (Below.refl w.heap.size w); have H : (if (wrap64 (a1 - (a0_0.size : Int))) < 0 then (some (-1)) else (if (wrap64 ((wrap64 (a1 - (a0_0.size : Int))) - (a0_1.size : Int))) < 0 then (some (-1)) else (some (wrap64 ((wrap64 (a1 - (a0_0.size : Int))) - (a0_1.size : Int)))))) = some r := h; clear h; by_cases c3 : (wrap64 (a1 - (a0_0.size : Int))) < 0
 ·rw [if_pos c3] at H; have c3b0 : decide ((wrap64 (a1 - (a0_0.size : Int))) < 0) = true := decide_eq_true c3; clear c3; obtain rfl := Option.some.inj H; go_enter Try.func19, Try.ntmps19
  go_wp2_with (first | ((with_reducible refine gate_dst (N := 2) rfl ?_); refine box_event ?hg (N := 2) ?hd (cs := #[.string a0_0, .string a0_1, .int .i64 a0_2, .int .i64 a0_3, .int .i64 a0_4, .int .i64 a0_5]) (t := 47) ?hr ?_; (case hd => rfl); (case hg => rfl); (case hr => first | (go_simp; done) | (go_simp; rfl)); intro gb101 hg w4 hbox hb; have n0_ := Aside0.mk (below_step (qb HB) hb); have n1_ := Aside0.mk (hbox); have n2_ := Aside0.mk ((by rw [hg]; exact (below_size (qb HB)) : w.heap.size ≤ gb101)); have n3_ := Aside0.mk ((by rw [hg]; exact (below_size (qb HB)) : w.heap.size ≤ gb101)); clear HB; have HB := n0_; have BK101 := n1_; have GW101 := n2_; have GE101 := n3_; clear n0_ n1_ n2_ n3_; clear hb hbox hg; obtain ⟨hcz5_0, hcz5_1, hcz5_2, hcz5_3, hcz5_4, hcz5_5, hfz5_0, hfz5_1, hfz5_2, hfz5_3, hfz5_4, hfz5_5⟩ := bz6 BK101))
  go_ret; exact ⟨eqq, qb HB⟩
 ·rw [if_neg c3] at H; have c3b0 : decide ((wrap64 (a1 - (a0_0.size : Int))) < 0) = false := decide_eq_false c3; clear c3; by_cases c6 : (wrap64 ((wrap64 (a1 - (a0_0.size : Int))) - (a0_1.size : Int))) < 0
  ·rw [if_pos c6] at H; have c6b0 : decide ((wrap64 ((wrap64 (a1 - (a0_0.size : Int))) - (a0_1.size : Int))) < 0) = true := decide_eq_true c6; clear c6; obtain rfl := Option.some.inj H; go_enter Try.func19, Try.ntmps19
   go_wp2_with (first | ((with_reducible refine gate_dst (N := 2) rfl ?_); refine box_event ?hg (N := 2) ?hd (cs := #[.string a0_0, .string a0_1, .int .i64 a0_2, .int .i64 a0_3, .int .i64 a0_4, .int .i64 a0_5]) (t := 47) ?hr ?_; (case hd => rfl); (case hg => rfl); (case hr => first | (go_simp; done) | (go_simp; rfl)); intro gb101 hg w7 hbox hb; have n0_ := Aside0.mk (below_step (qb HB) hb); have n1_ := Aside0.mk (hbox); have n2_ := Aside0.mk ((by rw [hg]; exact (below_size (qb HB)) : w.heap.size ≤ gb101)); have n3_ := Aside0.mk ((by rw [hg]; exact (below_size (qb HB)) : w.heap.size ≤ gb101)); clear HB; have HB := n0_; have BK101 := n1_; have GW101 := n2_; have GE101 := n3_; clear n0_ n1_ n2_ n3_; clear hb hbox hg; obtain ⟨hcz8_0, hcz8_1, hcz8_2, hcz8_3, hcz8_4, hcz8_5, hfz8_0, hfz8_1, hfz8_2, hfz8_3, hfz8_4, hfz8_5⟩ := bz6 BK101))
   go_ret; exact ⟨eqq, qb HB⟩
  ·rw [if_neg c6] at H; have c6b0 : decide ((wrap64 ((wrap64 (a1 - (a0_0.size : Int))) - (a0_1.size : Int))) < 0) = false := decide_eq_false c6; clear c6; obtain rfl := Option.some.inj H; go_enter Try.func19, Try.ntmps19
   go_wp2_with (first | ((with_reducible refine gate_dst (N := 2) rfl ?_); refine box_event ?hg (N := 2) ?hd (cs := #[.string a0_0, .string a0_1, .int .i64 a0_2, .int .i64 a0_3, .int .i64 a0_4, .int .i64 a0_5]) (t := 47) ?hr ?_; (case hd => rfl); (case hg => rfl); (case hr => first | (go_simp; done) | (go_simp; rfl)); intro gb101 hg w9 hbox hb; have n0_ := Aside0.mk (below_step (qb HB) hb); have n1_ := Aside0.mk (hbox); have n2_ := Aside0.mk ((by rw [hg]; exact (below_size (qb HB)) : w.heap.size ≤ gb101)); have n3_ := Aside0.mk ((by rw [hg]; exact (below_size (qb HB)) : w.heap.size ≤ gb101)); clear HB; have HB := n0_; have BK101 := n1_; have GW101 := n2_; have GE101 := n3_; clear n0_ n1_ n2_ n3_; clear hb hbox hg; obtain ⟨hcz10_0, hcz10_1, hcz10_2, hcz10_3, hcz10_4, hcz10_5, hfz10_0, hfz10_1, hfz10_2, hfz10_3, hfz10_4, hfz10_5⟩ := bz6 BK101))
   go_ret; exact ⟨eqq, qb HB⟩

/-! ### laws_szPriceRowS: function 5 -/
def laws_szPriceRowS.l0 : Nat → List (S47) → Int → Int → Option (Int)
 | 0, _, _, _ => none
 | k + 1, x0, x1, x5 => if x5 < (x0.length : Int) then (if 0 ≤ x5 then ((laws_szPriceRow.f ((rd_T47 x0 x5).f0) ((rd_T47 x0 x5).f1) ((rd_T47 x0 x5).f2) ((rd_T47 x0 x5).f3) ((rd_T47 x0 x5).f4) ((rd_T47 x0 x5).f5) x1).bind fun t103 => (if t103 < 0 then (some (-1)) else (laws_szPriceRowS.l0 k x0 t103 (wrap64 (x5 + 1))))) else (none)) else (some x1)
def laws_szPriceRowS.f (k : Nat) (l0 : List (S47)) (a1 : Int) : Option (Int) := if (wrap64 (a1 - (l0.length : Int))) < 0 then (some (-1)) else (laws_szPriceRowS.l0 k l0 (wrap64 (a1 - (l0.length : Int))) 0)
theorem laws_szPriceRowS.mono_l : ∀ k, (∀ y0 y1 y2, LeO (laws_szPriceRowS.l0 k y0 y1 y2) (laws_szPriceRowS.l0 (k + 1) y0 y1 y2))
 | 0 => fun _ _ _ r h => by simp [laws_szPriceRowS.l0] at h
 | k + 1 => by
  have ih0 := laws_szPriceRowS.mono_l k
  ·intro y0 y1 y2; unfold laws_szPriceRowS.l0
   repeat' first
   | (with_reducible exact ih0 _ _ _)
   | (with_reducible exact LeO.refl _)
   | (with_reducible exact LeO.none _)
   | (with_reducible refine LeO.ite ?_ ?_)
   | (with_reducible refine LeO.bind ?_ (fun _ => ?_))
   | exact ih0 _ _ _
   | exact LeO.none _
   | refine LeO.ite ?_ ?_
   | refine LeO.bind ?_ (fun _ => ?_)
theorem laws_szPriceRowS.mono : ∀ a0 a1 k, LeO (laws_szPriceRowS.f k a0 a1) (laws_szPriceRowS.f (k + 1) a0 a1) := by
 intro a0 a1 k; have ih0 := laws_szPriceRowS.mono_l k; unfold laws_szPriceRowS.f
 repeat' first
   | (with_reducible exact ih0 _ _ _)
   | (with_reducible exact LeO.refl _)
   | (with_reducible exact LeO.none _)
   | (with_reducible refine LeO.ite ?_ ?_)
   | (with_reducible refine LeO.bind ?_ (fun _ => ?_))
   | exact ih0 _ _ _
   | exact LeO.none _
   | refine LeO.ite ?_ ?_
   | refine LeO.bind ?_ (fun _ => ?_)
set_option maxHeartbeats 8000000 in
set_option maxRecDepth 100000 in
theorem laws_szPriceRowS.calls (k : Nat) (A0 : Option Addr) (c0 : Nat) (l0 : List (S47)) (a1 : Int) (r : Int) (w : World) (hr0 : Kd.C k47 w A0 l0.length l0) (hc0 : l0.length ≤ c0) (h : laws_szPriceRowS.f k l0 a1 = some r) :
  Calls Try.prog 5 #[.slice A0 l0.length c0, .int .i64 a1] w fun e w' => e = .returned (.int .i64 r) ∧ Below w.heap.size w w' := by
 have hu47 := Try.underlying47; have HR0 := Aside0.mk hr0; have HC0 := Aside0.mk hc0; clear hr0 hc0; have HB := Aside0.mk (Below.refl w.heap.size w); have H : (if (wrap64 (a1 - (l0.length : Int))) < 0 then (some (-1)) else (laws_szPriceRowS.l0 k l0 (wrap64 (a1 - (l0.length : Int))) 0)) = some r := h; clear h; by_cases c3 : (wrap64 (a1 - (l0.length : Int))) < 0
 ·rw [if_pos c3] at H; have c3b0 : decide ((wrap64 (a1 - (l0.length : Int))) < 0) = true := decide_eq_true c3; clear c3; obtain rfl := Option.some.inj H; go_enter Try.func5, Try.ntmps5; go_wp2; go_ret; exact ⟨eqq, qb HB⟩
 ·rw [if_neg c3] at H; have c3b0 : decide ((wrap64 (a1 - (l0.length : Int))) < 0) = false := decide_eq_false c3; clear c3; have H' := Aside0.mk H; clear H; go_enter Try.func5, Try.ntmps5; go_wp2
  go_loopg [1, 5] k (fun kq v1 v5 w' => ∃ (x1_1 : Int) (x5_1 : Int), v1 = .int .i64 x1_1 ∧ v5 = .int .i64 x5_1 ∧ Aside0 (laws_szPriceRowS.l0 kq l0 x1_1 x5_1 = some r) ∧ Aside0 (kq ≤ k) ∧ Aside0 (Below w.heap.size w w'))
  case atStart => exact ⟨(wrap64 (a1 - (l0.length : Int))), (0), (by first | rfl | (simp; done) | (simp [*]; done)), (by first | rfl | (simp; done) | (simp [*]; done)), H', ⟨Nat.le_refl _⟩, ⟨qb HB⟩⟩
  case round =>
   clear H'; (try clear p2); (try clear c3); (try clear c3b0); obtain ⟨x1_1, x5_1, rfl, rfl, HA, HK1, HB⟩ := hrel
   cases gk with
   | zero => exact absurd HA.out (by simp [laws_szPriceRowS.l0])
   | succ k1 =>
    have H := HA.out; clear HA; simp only [laws_szPriceRowS.l0] at H; by_cases c4 : x5_1 < (l0.length : Int)
    ·rw [if_pos c4] at H; have c4b0 : decide (x5_1 < (l0.length : Int)) = true := decide_eq_true c4; clear c4; by_cases c5 : 0 ≤ x5_1
     ·rw [if_pos c5] at H; have c5b0 : decide (0 ≤ x5_1) = true := decide_eq_true c5; clear c5; replace H := Option.bind_eq_some_iff.mp H; obtain ⟨t103, A60, H⟩ := H; replace H : (if t103 < 0 then (some (-1)) else (laws_szPriceRowS.l0 k1 l0 t103 (wrap64 (x5_1 + 1)))) = some r := H; have A6 := Aside0.mk A60; clear A60; by_cases c7 : t103 < 0
      ·rw [if_pos c7] at H; have c7b0 : decide (t103 < 0) = true := decide_eq_true c7; clear c7; obtain rfl := Option.some.inj H; have p102 : 0 ≤ (x5_1 : Int) := of_decide_eq_true (by first | (with_reducible assumption) | assumption); have q102 : x5_1 < (l0.length : Int) := of_decide_eq_true (by first | (with_reducible assumption) | assumption); obtain ⟨ad102, e102, hx102_0, hx102_1, hx102_2, hx102_3, hx102_4, hx102_5⟩ := at_T47 HR0.out x5_1 p102 q102
       cases e102
       replace hx102_0 := (HB.out.cell (World.block_lt_of_cell? w _ hx102_0)).trans hx102_0; replace hx102_1 := (HB.out.cell (World.block_lt_of_cell? w _ hx102_1)).trans hx102_1; replace hx102_2 := (HB.out.cell (World.block_lt_of_cell? w _ hx102_2)).trans hx102_2; replace hx102_3 := (HB.out.cell (World.block_lt_of_cell? w _ hx102_3)).trans hx102_3; replace hx102_4 := (HB.out.cell (World.block_lt_of_cell? w _ hx102_4)).trans hx102_4; replace hx102_5 := (HB.out.cell (World.block_lt_of_cell? w _ hx102_5)).trans hx102_5; replace p102 := eq_true p102; replace q102 := eq_true q102
       go_wp2_with (first | ((with_reducible refine gate_callee (f := 19) rfl ?_); refine goesL_ (some 23) rfl rfl Try.func19 (by kernel_rfl) rfl #[.agg #[.string ((rd_T47 l0 x5_1).f0), .string ((rd_T47 l0 x5_1).f1), .int .i64 ((rd_T47 l0 x5_1).f2), .int .i64 ((rd_T47 l0 x5_1).f3), .int .i64 ((rd_T47 l0 x5_1).f4), .int .i64 ((rd_T47 l0 x5_1).f5)], .int .i64 x1_1] rfl mq ?_; (with_reducible refine (laws_szPriceRow.calls ((rd_T47 l0 x5_1).f0) ((rd_T47 l0 x5_1).f1) ((rd_T47 l0 x5_1).f2) ((rd_T47 l0 x5_1).f3) ((rd_T47 l0 x5_1).f4) ((rd_T47 l0 x5_1).f5) x1_1 t103 _ A6.out).mono ?_); rintro e w8 ⟨rfl, hb⟩; refine ⟨_, rfl, ?_⟩; have n0_ := Aside0.mk (below_step (qb HB) hb); clear HB; have HB := n0_; clear n0_; (try clear hb); (try clear hb2); (try clear hk); (try clear hi)))
       go_ret; exact ⟨eqq, qb HB⟩
      ·rw [if_neg c7] at H; have c7b0 : decide (t103 < 0) = false := decide_eq_false c7; clear c7; have H' := Aside0.mk H; clear H; have p102 : 0 ≤ (x5_1 : Int) := of_decide_eq_true (by first | (with_reducible assumption) | assumption); have q102 : x5_1 < (l0.length : Int) := of_decide_eq_true (by first | (with_reducible assumption) | assumption); obtain ⟨ad102, e102, hx102_0, hx102_1, hx102_2, hx102_3, hx102_4, hx102_5⟩ := at_T47 HR0.out x5_1 p102 q102
       cases e102
       replace hx102_0 := (HB.out.cell (World.block_lt_of_cell? w _ hx102_0)).trans hx102_0; replace hx102_1 := (HB.out.cell (World.block_lt_of_cell? w _ hx102_1)).trans hx102_1; replace hx102_2 := (HB.out.cell (World.block_lt_of_cell? w _ hx102_2)).trans hx102_2; replace hx102_3 := (HB.out.cell (World.block_lt_of_cell? w _ hx102_3)).trans hx102_3; replace hx102_4 := (HB.out.cell (World.block_lt_of_cell? w _ hx102_4)).trans hx102_4; replace hx102_5 := (HB.out.cell (World.block_lt_of_cell? w _ hx102_5)).trans hx102_5; replace p102 := eq_true p102; replace q102 := eq_true q102
       go_wp2_with (first | ((with_reducible refine gate_callee (f := 19) rfl ?_); refine goesL_ (some 23) rfl rfl Try.func19 (by kernel_rfl) rfl #[.agg #[.string ((rd_T47 l0 x5_1).f0), .string ((rd_T47 l0 x5_1).f1), .int .i64 ((rd_T47 l0 x5_1).f2), .int .i64 ((rd_T47 l0 x5_1).f3), .int .i64 ((rd_T47 l0 x5_1).f4), .int .i64 ((rd_T47 l0 x5_1).f5)], .int .i64 x1_1] rfl mq ?_; (with_reducible refine (laws_szPriceRow.calls ((rd_T47 l0 x5_1).f0) ((rd_T47 l0 x5_1).f1) ((rd_T47 l0 x5_1).f2) ((rd_T47 l0 x5_1).f3) ((rd_T47 l0 x5_1).f4) ((rd_T47 l0 x5_1).f5) x1_1 t103 _ A6.out).mono ?_); rintro e w9 ⟨rfl, hb⟩; refine ⟨_, rfl, ?_⟩; have n0_ := Aside0.mk (below_step (qb HB) hb); clear HB; have HB := n0_; clear n0_; (try clear hb); (try clear hb2); (try clear hk); (try clear hi)))
       go_roundg k1
       case measure => have := HK1.out; omega
       case rel => exact ⟨(t103), (wrap64 (x5_1 + 1)), (by first | rfl | (simp; done) | (simp [*]; done)), (by first | rfl | (simp; done) | (simp [*]; done)), H', ⟨by have := HK1.out; omega⟩, ⟨qb HB⟩⟩
     ·rw [if_neg c5] at H; exact absurd H (by simp)
    ·rw [if_neg c4] at H; have c4b0 : decide (x5_1 < (l0.length : Int)) = false := decide_eq_false c4; clear c4; obtain rfl := Option.some.inj H; go_wp2; go_ret; exact ⟨eqq, qb HB⟩

/-! ### spec_l04Amount: function 22 -/
def spec_l04Amount.f (k : Nat) (l0 : List (S44)) (a1 : ByteArray) (a2 : ByteArray) (a3 : Int) : Option (Int) := (spec_l04At.f k l0 a1 a2 a3).bind fun t120 => (if t120 < 0 then (some (-1)) else (if 0 ≤ t120 then (if t120 < (l0.length : Int) then (some ((rd_T44 l0 t120).f5)) else (none)) else (none)))
theorem spec_l04Amount.mono : ∀ a0 a1 a2 a3 k, LeO (spec_l04Amount.f k a0 a1 a2 a3) (spec_l04Amount.f (k + 1) a0 a1 a2 a3) := by
 intro a0 a1 a2 a3 k; unfold spec_l04Amount.f
 repeat' first
   | (with_reducible exact spec_l04At.mono _ _ _ _ _)
   | (with_reducible exact LeO.refl _)
   | (with_reducible exact LeO.none _)
   | (with_reducible refine LeO.ite ?_ ?_)
   | (with_reducible refine LeO.bind ?_ (fun _ => ?_))
   | exact spec_l04At.mono _ _ _ _ _
   | exact LeO.none _
   | refine LeO.ite ?_ ?_
   | refine LeO.bind ?_ (fun _ => ?_)
set_option maxHeartbeats 8000000 in
set_option maxRecDepth 100000 in
theorem spec_l04Amount.calls (k : Nat) (A0 : Option Addr) (c0 : Nat) (l0 : List (S44)) (a1 : ByteArray) (a2 : ByteArray) (a3 : Int) (r : Int) (w : World) (hr0 : Kd.C k44 w A0 l0.length l0) (hc0 : l0.length ≤ c0) (h : spec_l04Amount.f k l0 a1 a2 a3 = some r) :
  Calls Try.prog 22 #[.slice A0 l0.length c0, .string a1, .string a2, .int .i64 a3] w fun e w' => e = .returned (.int .i64 r) ∧ Below w.heap.size w w' := by
 have HR0 := Aside0.mk hr0; have HC0 := Aside0.mk hc0; clear hr0 hc0; have HB := Aside0.mk (Below.refl w.heap.size w); have H : ((spec_l04At.f k l0 a1 a2 a3).bind fun t120 => (if t120 < 0 then (some (-1)) else (if 0 ≤ t120 then (if t120 < (l0.length : Int) then (some ((rd_T44 l0 t120).f5)) else (none)) else (none)))) = some r := h; clear h; replace H := Option.bind_eq_some_iff.mp H; obtain ⟨t120, A50, H⟩ := H; replace H : (if t120 < 0 then (some (-1)) else (if 0 ≤ t120 then (if t120 < (l0.length : Int) then (some ((rd_T44 l0 t120).f5)) else (none)) else (none))) = some r := H; have A5 := Aside0.mk A50; clear A50; by_cases c6 : t120 < 0
 ·rw [if_pos c6] at H; have c6b0 : decide (t120 < 0) = true := decide_eq_true c6; clear c6; obtain rfl := Option.some.inj H; go_enter Try.func22, Try.ntmps22
  go_wp2_with (first | ((with_reducible refine gate_callee (f := 37) rfl ?_); refine goesL_ (some 14) rfl rfl Try.func37 (by kernel_rfl) rfl #[.slice A0 l0.length c0, .string a1, .string a2, .int .i64 a3] rfl mq ?_; (with_reducible refine (spec_l04At.calls k _ _ l0 a1 a2 a3 t120 _ ?side1 ?side2 A5.out).mono ?_); (case side1 => repeat (first | exact HR0.out | (with_reducible refine Kd.C_alloc ?_ _) | (with_reducible refine Kd.C_drewN ?_ _) | (with_reducible refine Kd.C_drew ?_))); (case side2 => exact HC0.out); rintro e w7 ⟨rfl, hb⟩; refine ⟨_, rfl, ?_⟩; have n0_ := Aside0.mk (below_step (qb HB) hb); clear HB; have HB := n0_; clear n0_; (try clear hb); (try clear hb2); (try clear hk); (try clear hi)))
  go_ret; exact ⟨eqq, qb HB⟩
 ·rw [if_neg c6] at H; have c6b0 : decide (t120 < 0) = false := decide_eq_false c6; clear c6; by_cases c8 : 0 ≤ t120
  ·rw [if_pos c8] at H; have c8b0 : decide (0 ≤ t120) = true := decide_eq_true c8; clear c8; by_cases c9 : t120 < (l0.length : Int)
   ·rw [if_pos c9] at H; have c9b0 : decide (t120 < (l0.length : Int)) = true := decide_eq_true c9; clear c9; obtain rfl := Option.some.inj H; go_enter Try.func22, Try.ntmps22
    go_wp2_with (first | ((with_reducible refine gate_callee (f := 37) rfl ?_); refine goesL_ (some 14) rfl rfl Try.func37 (by kernel_rfl) rfl #[.slice A0 l0.length c0, .string a1, .string a2, .int .i64 a3] rfl mq ?_; (with_reducible refine (spec_l04At.calls k _ _ l0 a1 a2 a3 t120 _ ?side1 ?side2 A5.out).mono ?_); (case side1 => repeat (first | exact HR0.out | (with_reducible refine Kd.C_alloc ?_ _) | (with_reducible refine Kd.C_drewN ?_ _) | (with_reducible refine Kd.C_drew ?_))); (case side2 => exact HC0.out); rintro e w10 ⟨rfl, hb⟩; refine ⟨_, rfl, ?_⟩; have n0_ := Aside0.mk (below_step (qb HB) hb); clear HB; have HB := n0_; clear n0_; (try clear hb); (try clear hb2); (try clear hk); (try clear hi); have p121 : 0 ≤ (t120 : Int) := of_decide_eq_true (by first | (with_reducible assumption) | assumption); have q121 : t120 < (l0.length : Int) := of_decide_eq_true (by first | (with_reducible assumption) | assumption); obtain ⟨ad121, e121, hx121_0, hx121_1, hx121_2, hx121_3, hx121_4, hx121_5⟩ := at_T44 HR0.out t120 p121 q121; cases e121; replace hx121_0 := (HB.out.cell (World.block_lt_of_cell? w _ hx121_0)).trans hx121_0; replace hx121_1 := (HB.out.cell (World.block_lt_of_cell? w _ hx121_1)).trans hx121_1; replace hx121_2 := (HB.out.cell (World.block_lt_of_cell? w _ hx121_2)).trans hx121_2; replace hx121_3 := (HB.out.cell (World.block_lt_of_cell? w _ hx121_3)).trans hx121_3; replace hx121_4 := (HB.out.cell (World.block_lt_of_cell? w _ hx121_4)).trans hx121_4; replace hx121_5 := (HB.out.cell (World.block_lt_of_cell? w _ hx121_5)).trans hx121_5; replace p121 := eq_true p121; replace q121 := eq_true q121))
    go_ret; exact ⟨eqq, qb HB⟩
   ·rw [if_neg c9] at H; exact absurd H (by simp)
  ·rw [if_neg c8] at H; exact absurd H (by simp)

/-! ### spec_PriceSteps: function 6 -/
mutual
def spec_PriceSteps.j0 : Nat → List (S44) → ByteArray → ByteArray → Int → Int → Bool → Option ((List (S40)) × Int)
 | 0, _, _, _, _, _, _ => none
 | k + 1, x0, x1, x2, x3, x4, x35 => if x35 = true then (some ((([] : List (S40))), 5)) else ((spec_l04Amount.f k x0 x1 x2 x3).bind fun t133 => (spec_PriceSteps.l0 k x0 x1 x2 x4 (([(⟨x3, t133⟩ : S40)] : List (S40)))))
def spec_PriceSteps.l0 : Nat → List (S44) → ByteArray → ByteArray → Int → List (S40) → Option ((List (S40)) × Int)
 | 0, _, _, _, _, _ => none
 | k + 1, x0, x1, x2, x4, x12 => if 0 ≤ (wrap64 ((x12.length : Int) - 1)) then (if (wrap64 ((x12.length : Int) - 1)) < (x12.length : Int) then (spec_PriceSteps.l1 k x0 x1 x2 x4 x12 x4 ((rd_T40 x12 (wrap64 ((x12.length : Int) - 1))).f0) 0) else (none)) else (none)
def spec_PriceSteps.l1 : Nat → List (S44) → ByteArray → ByteArray → Int → List (S40) → Int → Int → Int → Option ((List (S40)) × Int)
 | 0, _, _, _, _, _, _, _, _ => none
 | k + 1, x0, x1, x2, x4, x12, x13, x14, x15 => if x15 < (x0.length : Int) then (if 0 ≤ x15 then (if ((rd_T44 x0 x15).f3) > x14 then (if ((rd_T44 x0 x15).f3) < x13 then ((spec_l04Amount.f k x0 x1 x2 ((rd_T44 x0 x15).f3)).bind fun t141 => (if 0 ≤ (wrap64 ((x12.length : Int) - 1)) then (if (wrap64 ((x12.length : Int) - 1)) < (x12.length : Int) then (spec_PriceSteps.j3 k x0 x1 x2 x4 x12 x13 x14 x15 (t141 != ((rd_T40 x12 (wrap64 ((x12.length : Int) - 1))).f1))) else (none)) else (none))) else (spec_PriceSteps.j3 k x0 x1 x2 x4 x12 x13 x14 x15 false)) else (spec_PriceSteps.j3 k x0 x1 x2 x4 x12 x13 x14 x15 false)) else (none)) else (if x13 = x4 then (some (x12, 0)) else ((spec_l04Amount.f k x0 x1 x2 x13).bind fun t150 => (if x12.length < 8796093022208 then (spec_PriceSteps.l0 k x0 x1 x2 x4 (x12 ++ [(⟨x13, t150⟩ : S40)])) else (none))))
def spec_PriceSteps.j3 : Nat → List (S44) → ByteArray → ByteArray → Int → List (S40) → Int → Int → Int → Bool → Option ((List (S40)) × Int)
 | 0, _, _, _, _, _, _, _, _, _ => none
 | k + 1, x0, x1, x2, x4, x12, x13, x14, x15, x93 => if x93 = true then (if 0 ≤ x15 then (if x15 < (x0.length : Int) then (spec_PriceSteps.j4 k x0 x1 x2 x4 x12 ((rd_T44 x0 x15).f3) x14 x15) else (none)) else (none)) else (spec_PriceSteps.j4 k x0 x1 x2 x4 x12 x13 x14 x15)
def spec_PriceSteps.j4 : Nat → List (S44) → ByteArray → ByteArray → Int → List (S40) → Int → Int → Int → Option ((List (S40)) × Int)
 | 0, _, _, _, _, _, _, _, _ => none
 | k + 1, x0, x1, x2, x4, x12, x13, x14, x15 => if 0 ≤ x15 then (if x15 < (x0.length : Int) then (if ((rd_T44 x0 x15).f4) > x14 then (if ((rd_T44 x0 x15).f4) < x13 then ((spec_l04Amount.f k x0 x1 x2 ((rd_T44 x0 x15).f4)).bind fun t147 => (if 0 ≤ (wrap64 ((x12.length : Int) - 1)) then (if (wrap64 ((x12.length : Int) - 1)) < (x12.length : Int) then (spec_PriceSteps.j5 k x0 x1 x2 x4 x12 x13 x14 x15 (t147 != ((rd_T40 x12 (wrap64 ((x12.length : Int) - 1))).f1))) else (none)) else (none))) else (spec_PriceSteps.j5 k x0 x1 x2 x4 x12 x13 x14 x15 false)) else (spec_PriceSteps.j5 k x0 x1 x2 x4 x12 x13 x14 x15 false)) else (none)) else (none)
def spec_PriceSteps.j5 : Nat → List (S44) → ByteArray → ByteArray → Int → List (S40) → Int → Int → Int → Bool → Option ((List (S40)) × Int)
 | 0, _, _, _, _, _, _, _, _, _ => none
 | k + 1, x0, x1, x2, x4, x12, x13, x14, x15, x133 => if x133 = true then (if 0 ≤ x15 then (if x15 < (x0.length : Int) then (spec_PriceSteps.l1 k x0 x1 x2 x4 x12 ((rd_T44 x0 x15).f4) x14 (wrap64 (x15 + 1))) else (none)) else (none)) else (spec_PriceSteps.l1 k x0 x1 x2 x4 x12 x13 x14 (wrap64 (x15 + 1)))
end
def spec_PriceSteps.f (k : Nat) (l0 : List (S44)) (a1 : ByteArray) (a2 : ByteArray) (a3 : Int) (a4 : Int) : Option ((List (S40)) × Int) := (spec_l04Long.f l0 a1 a2).bind fun t122 => (if t122 = true then (some ((([] : List (S40))), 2)) else ((spec_PricesOK.f k l0).bind fun t126 => (if t126 = true then (if a3 < 0 then (spec_PriceSteps.j0 k l0 a1 a2 a3 a4 true) else (if a3 ≥ a4 then (spec_PriceSteps.j0 k l0 a1 a2 a3 a4 true) else (spec_PriceSteps.j0 k l0 a1 a2 a3 a4 (decide (a4 > 10000000))))) else (some ((([] : List (S40))), 1)))))
theorem spec_PriceSteps.mono_l : ∀ k, (∀ y0 y1 y2 y3 y4 y5, LeO (spec_PriceSteps.j0 k y0 y1 y2 y3 y4 y5) (spec_PriceSteps.j0 (k + 1) y0 y1 y2 y3 y4 y5)) ∧ (∀ y0 y1 y2 y3 y4, LeO (spec_PriceSteps.l0 k y0 y1 y2 y3 y4) (spec_PriceSteps.l0 (k + 1) y0 y1 y2 y3 y4)) ∧ (∀ y0 y1 y2 y3 y4 y5 y6 y7, LeO (spec_PriceSteps.l1 k y0 y1 y2 y3 y4 y5 y6 y7) (spec_PriceSteps.l1 (k + 1) y0 y1 y2 y3 y4 y5 y6 y7)) ∧ (∀ y0 y1 y2 y3 y4 y5 y6 y7 y8, LeO (spec_PriceSteps.j3 k y0 y1 y2 y3 y4 y5 y6 y7 y8) (spec_PriceSteps.j3 (k + 1) y0 y1 y2 y3 y4 y5 y6 y7 y8)) ∧ (∀ y0 y1 y2 y3 y4 y5 y6 y7, LeO (spec_PriceSteps.j4 k y0 y1 y2 y3 y4 y5 y6 y7) (spec_PriceSteps.j4 (k + 1) y0 y1 y2 y3 y4 y5 y6 y7)) ∧ (∀ y0 y1 y2 y3 y4 y5 y6 y7 y8, LeO (spec_PriceSteps.j5 k y0 y1 y2 y3 y4 y5 y6 y7 y8) (spec_PriceSteps.j5 (k + 1) y0 y1 y2 y3 y4 y5 y6 y7 y8))
 | 0 => ⟨fun _ _ _ _ _ _ r h => by simp [spec_PriceSteps.j0] at h, fun _ _ _ _ _ r h => by simp [spec_PriceSteps.l0] at h, fun _ _ _ _ _ _ _ _ r h => by simp [spec_PriceSteps.l1] at h, fun _ _ _ _ _ _ _ _ _ r h => by simp [spec_PriceSteps.j3] at h, fun _ _ _ _ _ _ _ _ r h => by simp [spec_PriceSteps.j4] at h, fun _ _ _ _ _ _ _ _ _ r h => by simp [spec_PriceSteps.j5] at h⟩
 | k + 1 => by
  obtain ⟨ih0, ih1, ih2, ih3, ih4, ih5⟩ := spec_PriceSteps.mono_l k; refine ⟨?_, ?_, ?_, ?_, ?_, ?_⟩
  ·intro y0 y1 y2 y3 y4 y5; unfold spec_PriceSteps.j0
   repeat' first
   | (with_reducible exact ih0 _ _ _ _ _ _)
   | (with_reducible exact ih1 _ _ _ _ _)
   | (with_reducible exact ih2 _ _ _ _ _ _ _ _)
   | (with_reducible exact ih3 _ _ _ _ _ _ _ _ _)
   | (with_reducible exact ih4 _ _ _ _ _ _ _ _)
   | (with_reducible exact ih5 _ _ _ _ _ _ _ _ _)
   | (with_reducible exact spec_PricesOK.mono _ _)
   | (with_reducible exact spec_l04Amount.mono _ _ _ _ _)
   | (with_reducible exact LeO.refl _)
   | (with_reducible exact LeO.none _)
   | (with_reducible refine LeO.ite ?_ ?_)
   | (with_reducible refine LeO.bind ?_ (fun _ => ?_))
   | exact ih0 _ _ _ _ _ _
   | exact ih1 _ _ _ _ _
   | exact ih2 _ _ _ _ _ _ _ _
   | exact ih3 _ _ _ _ _ _ _ _ _
   | exact ih4 _ _ _ _ _ _ _ _
   | exact ih5 _ _ _ _ _ _ _ _ _
   | exact spec_PricesOK.mono _ _
   | exact spec_l04Amount.mono _ _ _ _ _
   | exact LeO.none _
   | refine LeO.ite ?_ ?_
   | refine LeO.bind ?_ (fun _ => ?_)
  ·intro y0 y1 y2 y3 y4; unfold spec_PriceSteps.l0
   repeat' first
   | (with_reducible exact ih0 _ _ _ _ _ _)
   | (with_reducible exact ih1 _ _ _ _ _)
   | (with_reducible exact ih2 _ _ _ _ _ _ _ _)
   | (with_reducible exact ih3 _ _ _ _ _ _ _ _ _)
   | (with_reducible exact ih4 _ _ _ _ _ _ _ _)
   | (with_reducible exact ih5 _ _ _ _ _ _ _ _ _)
   | (with_reducible exact spec_PricesOK.mono _ _)
   | (with_reducible exact spec_l04Amount.mono _ _ _ _ _)
   | (with_reducible exact LeO.refl _)
   | (with_reducible exact LeO.none _)
   | (with_reducible refine LeO.ite ?_ ?_)
   | (with_reducible refine LeO.bind ?_ (fun _ => ?_))
   | exact ih0 _ _ _ _ _ _
   | exact ih1 _ _ _ _ _
   | exact ih2 _ _ _ _ _ _ _ _
   | exact ih3 _ _ _ _ _ _ _ _ _
   | exact ih4 _ _ _ _ _ _ _ _
   | exact ih5 _ _ _ _ _ _ _ _ _
   | exact spec_PricesOK.mono _ _
   | exact spec_l04Amount.mono _ _ _ _ _
   | exact LeO.none _
   | refine LeO.ite ?_ ?_
   | refine LeO.bind ?_ (fun _ => ?_)
  ·intro y0 y1 y2 y3 y4 y5 y6 y7; unfold spec_PriceSteps.l1
   repeat' first
   | (with_reducible exact ih0 _ _ _ _ _ _)
   | (with_reducible exact ih1 _ _ _ _ _)
   | (with_reducible exact ih2 _ _ _ _ _ _ _ _)
   | (with_reducible exact ih3 _ _ _ _ _ _ _ _ _)
   | (with_reducible exact ih4 _ _ _ _ _ _ _ _)
   | (with_reducible exact ih5 _ _ _ _ _ _ _ _ _)
   | (with_reducible exact spec_PricesOK.mono _ _)
   | (with_reducible exact spec_l04Amount.mono _ _ _ _ _)
   | (with_reducible exact LeO.refl _)
   | (with_reducible exact LeO.none _)
   | (with_reducible refine LeO.ite ?_ ?_)
   | (with_reducible refine LeO.bind ?_ (fun _ => ?_))
   | exact ih0 _ _ _ _ _ _
   | exact ih1 _ _ _ _ _
   | exact ih2 _ _ _ _ _ _ _ _
   | exact ih3 _ _ _ _ _ _ _ _ _
   | exact ih4 _ _ _ _ _ _ _ _
   | exact ih5 _ _ _ _ _ _ _ _ _
   | exact spec_PricesOK.mono _ _
   | exact spec_l04Amount.mono _ _ _ _ _
   | exact LeO.none _
   | refine LeO.ite ?_ ?_
   | refine LeO.bind ?_ (fun _ => ?_)
  ·intro y0 y1 y2 y3 y4 y5 y6 y7 y8; unfold spec_PriceSteps.j3
   repeat' first
   | (with_reducible exact ih0 _ _ _ _ _ _)
   | (with_reducible exact ih1 _ _ _ _ _)
   | (with_reducible exact ih2 _ _ _ _ _ _ _ _)
   | (with_reducible exact ih3 _ _ _ _ _ _ _ _ _)
   | (with_reducible exact ih4 _ _ _ _ _ _ _ _)
   | (with_reducible exact ih5 _ _ _ _ _ _ _ _ _)
   | (with_reducible exact spec_PricesOK.mono _ _)
   | (with_reducible exact spec_l04Amount.mono _ _ _ _ _)
   | (with_reducible exact LeO.refl _)
   | (with_reducible exact LeO.none _)
   | (with_reducible refine LeO.ite ?_ ?_)
   | (with_reducible refine LeO.bind ?_ (fun _ => ?_))
   | exact ih0 _ _ _ _ _ _
   | exact ih1 _ _ _ _ _
   | exact ih2 _ _ _ _ _ _ _ _
   | exact ih3 _ _ _ _ _ _ _ _ _
   | exact ih4 _ _ _ _ _ _ _ _
   | exact ih5 _ _ _ _ _ _ _ _ _
   | exact spec_PricesOK.mono _ _
   | exact spec_l04Amount.mono _ _ _ _ _
   | exact LeO.none _
   | refine LeO.ite ?_ ?_
   | refine LeO.bind ?_ (fun _ => ?_)
  ·intro y0 y1 y2 y3 y4 y5 y6 y7; unfold spec_PriceSteps.j4
   repeat' first
   | (with_reducible exact ih0 _ _ _ _ _ _)
   | (with_reducible exact ih1 _ _ _ _ _)
   | (with_reducible exact ih2 _ _ _ _ _ _ _ _)
   | (with_reducible exact ih3 _ _ _ _ _ _ _ _ _)
   | (with_reducible exact ih4 _ _ _ _ _ _ _ _)
   | (with_reducible exact ih5 _ _ _ _ _ _ _ _ _)
   | (with_reducible exact spec_PricesOK.mono _ _)
   | (with_reducible exact spec_l04Amount.mono _ _ _ _ _)
   | (with_reducible exact LeO.refl _)
   | (with_reducible exact LeO.none _)
   | (with_reducible refine LeO.ite ?_ ?_)
   | (with_reducible refine LeO.bind ?_ (fun _ => ?_))
   | exact ih0 _ _ _ _ _ _
   | exact ih1 _ _ _ _ _
   | exact ih2 _ _ _ _ _ _ _ _
   | exact ih3 _ _ _ _ _ _ _ _ _
   | exact ih4 _ _ _ _ _ _ _ _
   | exact ih5 _ _ _ _ _ _ _ _ _
   | exact spec_PricesOK.mono _ _
   | exact spec_l04Amount.mono _ _ _ _ _
   | exact LeO.none _
   | refine LeO.ite ?_ ?_
   | refine LeO.bind ?_ (fun _ => ?_)
  ·intro y0 y1 y2 y3 y4 y5 y6 y7 y8; unfold spec_PriceSteps.j5
   repeat' first
   | (with_reducible exact ih0 _ _ _ _ _ _)
   | (with_reducible exact ih1 _ _ _ _ _)
   | (with_reducible exact ih2 _ _ _ _ _ _ _ _)
   | (with_reducible exact ih3 _ _ _ _ _ _ _ _ _)
   | (with_reducible exact ih4 _ _ _ _ _ _ _ _)
   | (with_reducible exact ih5 _ _ _ _ _ _ _ _ _)
   | (with_reducible exact spec_PricesOK.mono _ _)
   | (with_reducible exact spec_l04Amount.mono _ _ _ _ _)
   | (with_reducible exact LeO.refl _)
   | (with_reducible exact LeO.none _)
   | (with_reducible refine LeO.ite ?_ ?_)
   | (with_reducible refine LeO.bind ?_ (fun _ => ?_))
   | exact ih0 _ _ _ _ _ _
   | exact ih1 _ _ _ _ _
   | exact ih2 _ _ _ _ _ _ _ _
   | exact ih3 _ _ _ _ _ _ _ _ _
   | exact ih4 _ _ _ _ _ _ _ _
   | exact ih5 _ _ _ _ _ _ _ _ _
   | exact spec_PricesOK.mono _ _
   | exact spec_l04Amount.mono _ _ _ _ _
   | exact LeO.none _
   | refine LeO.ite ?_ ?_
   | refine LeO.bind ?_ (fun _ => ?_)
theorem spec_PriceSteps.mono : ∀ a0 a1 a2 a3 a4 k, LeO (spec_PriceSteps.f k a0 a1 a2 a3 a4) (spec_PriceSteps.f (k + 1) a0 a1 a2 a3 a4) := by
 intro a0 a1 a2 a3 a4 k; obtain ⟨ih0, ih1, ih2, ih3, ih4, ih5⟩ := spec_PriceSteps.mono_l k; unfold spec_PriceSteps.f
 repeat' first
   | (with_reducible exact ih0 _ _ _ _ _ _)
   | (with_reducible exact ih1 _ _ _ _ _)
   | (with_reducible exact ih2 _ _ _ _ _ _ _ _)
   | (with_reducible exact ih3 _ _ _ _ _ _ _ _ _)
   | (with_reducible exact ih4 _ _ _ _ _ _ _ _)
   | (with_reducible exact ih5 _ _ _ _ _ _ _ _ _)
   | (with_reducible exact spec_PricesOK.mono _ _)
   | (with_reducible exact spec_l04Amount.mono _ _ _ _ _)
   | (with_reducible exact LeO.refl _)
   | (with_reducible exact LeO.none _)
   | (with_reducible refine LeO.ite ?_ ?_)
   | (with_reducible refine LeO.bind ?_ (fun _ => ?_))
   | exact ih0 _ _ _ _ _ _
   | exact ih1 _ _ _ _ _
   | exact ih2 _ _ _ _ _ _ _ _
   | exact ih3 _ _ _ _ _ _ _ _ _
   | exact ih4 _ _ _ _ _ _ _ _
   | exact ih5 _ _ _ _ _ _ _ _ _
   | exact spec_PricesOK.mono _ _
   | exact spec_l04Amount.mono _ _ _ _ _
   | exact LeO.none _
   | refine LeO.ite ?_ ?_
   | refine LeO.bind ?_ (fun _ => ?_)
def spec_PriceSteps.T13 : Bool × List (List Nat × List Nat) := (true, [([], []), ([], []), ([0, 1], [0, 1]), ([2], [2]), ([3], [3]), ([], []), ([4, 5], [4, 5]), ([6], [6]), ([7], [7]), ([7], [7]), ([8, 9, 7], [7, 8, 9]), ([10, 7], [7, 10]), ([11, 7], [7, 11]), ([7], [7]), ([12, 13, 7], [7, 12, 13]), ([7, 14], [7, 14]), ([15, 7], [15]), ([16], [16]), ([16], [16]), ([16], [16]), ([16], [16]), ([16], [16]), ([20, 21, 16], [16, 20, 21]), ([22, 16], [16, 22]), ([23, 16], [16, 23]), ([17, 18, 19, 24, 16, 16], [16, 17, 18, 19, 24]), ([16], [16]), ([16], [16]), ([27, 16], [16, 27]), ([28, 16], [16, 28]), ([26, 29, 16], [16, 26, 29]), ([30, 16], [16, 30]), ([31, 16], [16, 31]), ([25, 32, 16], [16, 25, 32]), ([16, 33], [16, 33])])
def spec_PriceSteps.B13 : List Nat := [0, 0, 3, 7, 15, 0, 63, 127, 255, 255, 1023, 2047, 4095, 255, 16383, 32767, 65535, 131071, 131071, 131071, 131071, 131071, 3276799, 7471103, 15859711, 33554431, 131071, 131071, 134348799, 402784255, 1006764031, 2080505855, 4227989503, 8589934591, 17179869183]
theorem spec_PriceSteps.tab13 : rtab .any (opsOf Try.f6 13) = spec_PriceSteps.T13 := by kernel_rfl
theorem spec_PriceSteps.bits13 : waitsOk spec_PriceSteps.T13.2 spec_PriceSteps.B13 = true := by kernel_rfl
def spec_PriceSteps.T15 : Bool × List (List Nat × List Nat) := (true, [([], []), ([], []), ([0, 1], [0, 1]), ([2], [2]), ([3], [3]), ([], []), ([4, 5], [4, 5]), ([6], [6]), ([7], [7]), ([7], [7]), ([8, 9, 7], [7, 8, 9]), ([10, 7], [7, 10]), ([11, 7], [7, 11]), ([7], [7]), ([12, 13, 7], [7, 12, 13]), ([7, 14], [7, 14]), ([15, 7], [15]), ([16], [16]), ([16], [16]), ([16], [16]), ([16], [16]), ([16], [16]), ([20, 21, 16], [16, 20, 21]), ([22, 16], [16, 22]), ([23, 16], [16, 23]), ([17, 18, 19, 24, 16, 16], [16, 17, 18, 19, 24]), ([16], [16]), ([16], [16]), ([27, 16], [16, 27]), ([28, 16], [16, 28]), ([26, 29, 16], [16, 26, 29]), ([30, 16], [16, 30]), ([31, 16], [16, 31]), ([25, 32, 16], [16, 25, 32]), ([16, 33], [16, 33])])
def spec_PriceSteps.B15 : List Nat := [0, 0, 3, 7, 15, 0, 63, 127, 255, 255, 1023, 2047, 4095, 255, 16383, 32767, 65535, 131071, 131071, 131071, 131071, 131071, 3276799, 7471103, 15859711, 33554431, 131071, 131071, 134348799, 402784255, 1006764031, 2080505855, 4227989503, 8589934591, 17179869183]
theorem spec_PriceSteps.tab15 : rtab .any (opsOf Try.f6 15) = spec_PriceSteps.T15 := by kernel_rfl
theorem spec_PriceSteps.bits15 : waitsOk spec_PriceSteps.T15.2 spec_PriceSteps.B15 = true := by kernel_rfl
set_option maxHeartbeats 8000000 in
set_option maxRecDepth 100000 in
theorem spec_PriceSteps.calls (k : Nat) (A0 : Option Addr) (c0 : Nat) (l0 : List (S44)) (a1 : ByteArray) (a2 : ByteArray) (a3 : Int) (a4 : Int) (r1 : List (S40)) (r2 : Int) (w : World) (hr0 : Kd.C k44 w A0 l0.length l0) (hc0 : l0.length ≤ c0) (h : spec_PriceSteps.f k l0 a1 a2 a3 a4 = some (r1, r2)) :
  Calls Try.prog 6 #[.slice A0 l0.length c0, .string a1, .string a2, .int .i64 a3, .int .i64 a4] w fun e w' => ∃ v0_ : Value, e = .returned (.tuple #[v0_, .int .i64 r2]) ∧ Kd.R k40 40 w' w.heap.size (fun _ => True) v0_ r1 ∧ Below w.heap.size w w' := by
 have hu40 := Try.underlying40; have HR0 := Aside0.mk hr0; have HC0 := Aside0.mk hc0; clear hr0 hc0; have HB := Aside0.mk (Below.refl w.heap.size w); have H : ((spec_l04Long.f l0 a1 a2).bind fun t122 => (if t122 = true then (some ((([] : List (S40))), 2)) else ((spec_PricesOK.f k l0).bind fun t126 => (if t126 = true then (if a3 < 0 then (spec_PriceSteps.j0 k l0 a1 a2 a3 a4 true) else (if a3 ≥ a4 then (spec_PriceSteps.j0 k l0 a1 a2 a3 a4 true) else (spec_PriceSteps.j0 k l0 a1 a2 a3 a4 (decide (a4 > 10000000))))) else (some ((([] : List (S40))), 1)))))) = some (r1, r2) := h; clear h; replace H := Option.bind_eq_some_iff.mp H; obtain ⟨t122, A60, H⟩ := H; replace H : (if t122 = true then (some ((([] : List (S40))), 2)) else ((spec_PricesOK.f k l0).bind fun t126 => (if t126 = true then (if a3 < 0 then (spec_PriceSteps.j0 k l0 a1 a2 a3 a4 true) else (if a3 ≥ a4 then (spec_PriceSteps.j0 k l0 a1 a2 a3 a4 true) else (spec_PriceSteps.j0 k l0 a1 a2 a3 a4 (decide (a4 > 10000000))))) else (some ((([] : List (S40))), 1))))) = some (r1, r2) := H; have A6 := Aside0.mk A60; clear A60; by_cases c7 : t122 = true
 ·subst c7
  have H1 : (some ((([] : List (S40))), 2)) = some (r1, r2) := by rw [if_pos rfl] at H; exact H
  clear H; have H := H1; clear H1; obtain ⟨y123, hy123⟩ : ∃ y_ : List (S40), y_ = (([] : List (S40))) := ⟨_, rfl⟩
  replace H : (some (y123, 2)) = some (r1, r2) := by first | (rw [hy123]; with_reducible exact H) | (have H2_ := (Option.bind_some _ _).symm.trans H; rw [hy123]; with_reducible exact H2_) | (have H2_ := (Option.bind_some _ _).symm.trans H; with_reducible exact H2_) | with_reducible exact H | (rw [hy123]; exact H) | exact H
  have Ny123 := Aside0.mk hy123; clear hy123; simp only [Option.some.injEq, Prod.mk.injEq] at H; obtain ⟨rfl, rfl⟩ := H; go_enter Try.func6, Try.ntmps6
  go_wp2_with (first | ((with_reducible refine gate_callee (f := 20) rfl ?_); refine goesL_ (some 19) rfl rfl Try.func20 (by kernel_rfl) rfl #[.slice A0 l0.length c0, .string a1, .string a2] rfl mq ?_; (with_reducible refine (spec_l04Long.calls _ _ l0 a1 a2 true _ ?side1 ?side2 A6.out).mono ?_); (case side1 => repeat (first | exact HR0.out | (with_reducible refine Kd.C_alloc ?_ _) | (with_reducible refine Kd.C_drewN ?_ _) | (with_reducible refine Kd.C_drew ?_))); (case side2 => exact HC0.out); rintro e w' ⟨rfl, ⟨nd, rfl⟩⟩; refine ⟨_, rfl, ?_⟩) | ((with_reducible refine gate_dst (N := 20) rfl ?_); (try (refine gate_guard (by rfl) ?_; dsimp only)); refine Kd.R_lit k40 _ 40 ?hg (N := 20) ?hd (xs := ([] : List (S40))) (inner := []) (ok := fun _ => True) (okp := fun _ => True) ?hr ?hp (fun _ hk => hk) trivial (Below.refl _ _) (Nat.le_refl _) (by simp) ?_; (case hd => rfl); (case hg => rfl); (case hr => first | (go_simp; done) | (go_simp; rfl)); (case hp => exact (Reps.none _ _)); intro v124 w8 ho9 hb hg_ hnew_; clear hg_ hnew_; (first | rw [← Ny123.out] at ho9 | (simp only [Int.reduceToNat] at ho9; rw [← Ny123.out] at ho9)); have n0_ := Aside0.mk (Kd.R_lower ho9 (below_size (qb HB))); have n1_ := Aside0.mk (below_step (qb HB) hb); clear HB; have HO125 := n0_; have HB := n1_; clear n0_ n1_; clear hb ho9))
  go_ret2; exact ⟨_, by first | rfl | (simp [errW_none, errW_some] <;> rfl) | (simp [*, errW_none, errW_some] <;> rfl), by (with_reducible repeat (first | apply Kd.R_alloc | apply Kd.R_drewN | apply Kd.R_drew)); exact HO125.out, qb HB⟩
 ·replace c7 := Bool.eq_false_iff.mpr c7; subst c7
  have H1 : ((spec_PricesOK.f k l0).bind fun t126 => (if t126 = true then (if a3 < 0 then (spec_PriceSteps.j0 k l0 a1 a2 a3 a4 true) else (if a3 ≥ a4 then (spec_PriceSteps.j0 k l0 a1 a2 a3 a4 true) else (spec_PriceSteps.j0 k l0 a1 a2 a3 a4 (decide (a4 > 10000000))))) else (some ((([] : List (S40))), 1)))) = some (r1, r2) := by rw [if_neg (show ¬ (false = true) by decide)] at H; exact H
  clear H; have H := H1; clear H1; replace H := Option.bind_eq_some_iff.mp H; obtain ⟨t126, A100, H⟩ := H; replace H : (if t126 = true then (if a3 < 0 then (spec_PriceSteps.j0 k l0 a1 a2 a3 a4 true) else (if a3 ≥ a4 then (spec_PriceSteps.j0 k l0 a1 a2 a3 a4 true) else (spec_PriceSteps.j0 k l0 a1 a2 a3 a4 (decide (a4 > 10000000))))) else (some ((([] : List (S40))), 1))) = some (r1, r2) := H; have A10 := Aside0.mk A100; clear A100; by_cases c11 : t126 = true
  ·subst c11
   have H1 : (if a3 < 0 then (spec_PriceSteps.j0 k l0 a1 a2 a3 a4 true) else (if a3 ≥ a4 then (spec_PriceSteps.j0 k l0 a1 a2 a3 a4 true) else (spec_PriceSteps.j0 k l0 a1 a2 a3 a4 (decide (a4 > 10000000))))) = some (r1, r2) := by rw [if_pos rfl] at H; exact H
   clear H; have H := H1; clear H1; have HC12 := Aside0.mk H; clear H; go_enter Try.func6, Try.ntmps6
   go_upto_region 5 with (first | ((with_reducible refine gate_callee (f := 20) rfl ?_); refine goesL_ (some 19) rfl rfl Try.func20 (by kernel_rfl) rfl #[.slice A0 l0.length c0, .string a1, .string a2] rfl mq ?_; (with_reducible refine (spec_l04Long.calls _ _ l0 a1 a2 false _ ?side1 ?side2 A6.out).mono ?_); (case side1 => repeat (first | exact HR0.out | (with_reducible refine Kd.C_alloc ?_ _) | (with_reducible refine Kd.C_drewN ?_ _) | (with_reducible refine Kd.C_drew ?_))); (case side2 => exact HC0.out); rintro e w' ⟨rfl, ⟨nd, rfl⟩⟩; refine ⟨_, rfl, ?_⟩) | ((with_reducible refine gate_callee (f := 21) rfl ?_); refine goesL_ (some 22) rfl rfl Try.func21 (by kernel_rfl) rfl #[.slice A0 l0.length c0] rfl mq ?_; (with_reducible refine (spec_PricesOK.calls k _ _ l0 true _ ?side1 ?side2 A10.out).mono ?_); (case side1 => repeat (first | exact HR0.out | (with_reducible refine Kd.C_alloc ?_ _) | (with_reducible refine Kd.C_drewN ?_ _) | (with_reducible refine Kd.C_drew ?_))); (case side2 => exact HC0.out); rintro e w13 ⟨rfl, hb⟩; refine ⟨_, rfl, ?_⟩; have n0_ := Aside0.mk (below_step (qb HB) hb); clear HB; have HB := n0_; clear n0_; (try clear hb); (try clear hb2); (try clear hk); (try clear hi)))
   (try simp only [Act.put, sA, s0, sS])
   go_cut [35] (fun v35 wc => ∃ (kq : Nat) (x35_11 : Bool), v35 = .bool x35_11 ∧ Aside0 (spec_PriceSteps.j0 kq l0 a1 a2 a3 a4 x35_11 = some (r1, r2)) ∧ Aside0 (kq ≤ k) ∧ Aside0 (Below w.heap.size w wc))
   case first =>
    have H := HC12.out; clear HC12; by_cases c14 : a3 < 0
    ·rw [if_pos c14] at H; have c14b0 : decide (a3 < 0) = true := decide_eq_true c14; clear c14
     (first | rw [c14b0] | (simp only [i64_w, i32_w]; rw [c14b0]) | skip)
     have H' := Aside0.mk H; clear H; go_wp2
     go_meet
     case rel => exact ⟨_, (true), (by first | rfl | (simp; done) | (simp [*]; done)), H', ⟨by first | omega | exact Nat.le_refl _⟩, ⟨qb HB⟩⟩
    ·rw [if_neg c14] at H; have c14b0 : decide (a3 < 0) = false := decide_eq_false c14; clear c14
     (first | rw [c14b0] | (simp only [i64_w, i32_w]; rw [c14b0]) | skip)
     by_cases c15 : a3 ≥ a4
     ·rw [if_pos c15] at H; have c15b0 : decide (a4 ≤ a3) = true := decide_eq_true c15; clear c15; have H' := Aside0.mk H; clear H; go_wp2
      go_meet
      case rel => exact ⟨_, (true), (by first | rfl | (simp; done) | (simp [*]; done)), H', ⟨by first | omega | exact Nat.le_refl _⟩, ⟨qb HB⟩⟩
     ·rw [if_neg c15] at H; have c15b0 : decide (a4 ≤ a3) = false := decide_eq_false c15; clear c15; have H' := Aside0.mk H; clear H; go_wp2
      go_meet
      case rel => exact ⟨_, (decide (a4 > 10000000)), (by first | rfl | (simp; done) | (simp [*]; done)), H', ⟨by first | omega | exact Nat.le_refl _⟩, ⟨qb HB⟩⟩
   case rest =>
    clear HC12; (try clear c1); (try clear c2); (try clear p2); (try clear c6); (try clear c7); (try clear c11); (try clear c14); (try clear c14b0); (try clear c15); (try clear c15b0); obtain ⟨kq, x35_11, rfl, HA, HJ11, HB⟩ := hcut
    cases kq with
    | zero => exact absurd HA.out (by simp [spec_PriceSteps.j0])
    | succ kj11 =>
     have H := HA.out; clear HA; simp only [spec_PriceSteps.j0] at H; by_cases c16 : x35_11 = true
     ·subst c16
      have H1 : (some ((([] : List (S40))), 5)) = some (r1, r2) := by rw [if_pos rfl] at H; exact H
      clear H; have H := H1; clear H1; obtain ⟨y130, hy130⟩ : ∃ y_ : List (S40), y_ = (([] : List (S40))) := ⟨_, rfl⟩
      replace H : (some (y130, 5)) = some (r1, r2) := by first | (rw [hy130]; with_reducible exact H) | (have H2_ := (Option.bind_some _ _).symm.trans H; rw [hy130]; with_reducible exact H2_) | (have H2_ := (Option.bind_some _ _).symm.trans H; with_reducible exact H2_) | with_reducible exact H | (rw [hy130]; exact H) | exact H
      have Ny130 := Aside0.mk hy130; clear hy130; simp only [Option.some.injEq, Prod.mk.injEq] at H; obtain ⟨rfl, rfl⟩ := H
      go_wp2_with (first | ((with_reducible refine gate_dst (N := 36) rfl ?_); (try (refine gate_guard (by rfl) ?_; dsimp only)); refine Kd.R_lit k40 _ 40 ?hg (N := 36) ?hd (xs := ([] : List (S40))) (inner := []) (ok := fun _ => True) (okp := fun _ => True) ?hr ?hp (fun _ hk => hk) trivial (Below.refl _ _) (Nat.le_refl _) (by simp) ?_; (case hd => rfl); (case hg => rfl); (case hr => first | (go_simp; done) | (go_simp; rfl)); (case hp => exact (Reps.none _ _)); intro v131 w17 ho18 hb hg_ hnew_; clear hg_ hnew_; (first | rw [← Ny130.out] at ho18 | (simp only [Int.reduceToNat] at ho18; rw [← Ny130.out] at ho18)); have n0_ := Aside0.mk (Kd.R_lower ho18 (below_size (qb HB))); have n1_ := Aside0.mk (below_step (qb HB) hb); clear HB; have HO132 := n0_; have HB := n1_; clear n0_ n1_; clear hb ho18))
      go_ret2; exact ⟨_, by first | rfl | (simp [errW_none, errW_some] <;> rfl) | (simp [*, errW_none, errW_some] <;> rfl), by (with_reducible repeat (first | apply Kd.R_alloc | apply Kd.R_drewN | apply Kd.R_drew)); exact HO132.out, qb HB⟩
     ·replace c16 := Bool.eq_false_iff.mpr c16; subst c16
      have H1 : ((spec_l04Amount.f kj11 l0 a1 a2 a3).bind fun t133 => (spec_PriceSteps.l0 kj11 l0 a1 a2 a4 (([(⟨a3, t133⟩ : S40)] : List (S40))))) = some (r1, r2) := by rw [if_neg (show ¬ (false = true) by decide)] at H; exact H
      clear H; have H := H1; clear H1; replace H := Option.bind_eq_some_iff.mp H; obtain ⟨t133, A190, H⟩ := H; replace H : (spec_PriceSteps.l0 kj11 l0 a1 a2 a4 (([(⟨a3, t133⟩ : S40)] : List (S40)))) = some (r1, r2) := H; have A19 := Aside0.mk A190; clear A190; obtain ⟨y134, hy134⟩ : ∃ y_ : List (S40), y_ = (([(⟨a3, t133⟩ : S40)] : List (S40))) := ⟨_, rfl⟩
      replace H : (spec_PriceSteps.l0 kj11 l0 a1 a2 a4 y134) = some (r1, r2) := by first | (rw [hy134]; with_reducible exact H) | (have H2_ := (Option.bind_some _ _).symm.trans H; rw [hy134]; with_reducible exact H2_) | (have H2_ := (Option.bind_some _ _).symm.trans H; with_reducible exact H2_) | with_reducible exact H | (rw [hy134]; exact H) | exact H
      have Ny134 := Aside0.mk hy134; clear hy134; have H' := Aside0.mk H; clear H
      go_wp2_with (first | ((with_reducible refine gate_callee (f := 22) rfl ?_); refine goesL_ (some 42) rfl rfl Try.func22 (by kernel_rfl) rfl #[.slice A0 l0.length c0, .string a1, .string a2, .int .i64 a3] rfl mq ?_; (with_reducible refine (spec_l04Amount.calls kj11 _ _ l0 a1 a2 a3 t133 _ ?side1 ?side2 A19.out).mono ?_); (case side1 => repeat (first | exact (Kd.C_below HR0.out HB.out) | (with_reducible refine Kd.C_alloc ?_ _) | (with_reducible refine Kd.C_drewN ?_ _) | (with_reducible refine Kd.C_drew ?_))); (case side2 => exact HC0.out); rintro e w20 ⟨rfl, hb⟩; refine ⟨_, rfl, ?_⟩; have n0_ := Aside0.mk (below_step (qb HB) hb); clear HB; have HB := n0_; clear n0_; (try clear hb); (try clear hb2); (try clear hk); (try clear hi)) | ((with_reducible refine gate_dst (N := 44) rfl ?_); (try (refine gate_guard (by rfl) ?_; dsimp only)); refine Kd.R_lit k40 _ 40 ?hg (N := 44) ?hd (xs := ([(⟨a3, t133⟩ : S40)] : List (S40))) (inner := [.int .i64 a3, .int .i64 t133]) (ok := fun _ => True) (okp := fun _ => True) ?hr ?hp (fun _ hk => hk) trivial (Below.refl _ _) (Nat.le_refl _) (by simp) ?_; (case hd => rfl); (case hg => rfl); (case hr => first | (go_simp; done) | (go_simp; rfl)); (case hp => exact (Reps.c2 (show Kd.M k40 _ _ _ (⟨a3, t133⟩ : S40) [.int .i64 a3, .int .i64 t133] from (k40_mkM _ _ _ (⟨a3, t133⟩ : S40) )) (Reps.none _ _))); intro v135 w21 ho22 hb hg_ hnew_; clear hg_ hnew_; (first | rw [← Ny134.out] at ho22 | (simp only [Int.reduceToNat] at ho22; rw [← Ny134.out] at ho22)); have n0_ := Aside0.mk (Kd.R_lower ho22 (below_size (qb HB))); have n1_ := Aside0.mk (below_step (qb HB) hb); clear HB; have HO136 := n0_; have HB := n1_; clear n0_ n1_; clear hb ho22))
      go_loopg [12] kj11 (fun kq v12 w' => ∃ (x12_2 : List (S40)), Aside0 (spec_PriceSteps.l0 kq l0 a1 a2 a4 x12_2 = some (r1, r2)) ∧ Aside0 (kq ≤ kj11) ∧ Aside0 (Kd.R k40 40 w' w.heap.size (fun _ => True) v12 x12_2) ∧ Aside0 (Below w.heap.size w w'))
      case atStart => exact ⟨(y134), H', ⟨Nat.le_refl _⟩, ⟨by (with_reducible repeat (first | apply Kd.R_alloc | apply Kd.R_drewN | apply Kd.R_drew)); exact HO136.out⟩, ⟨qb HB⟩⟩
      case round =>
       clear H'; (try clear c1); (try clear c2); (try clear p2); (try clear c6); (try clear c7); (try clear c11); (try clear c14); (try clear c14b0); (try clear c15); (try clear c15b0); (try clear c16); (try clear c20); (try clear c21); (try clear c22); (try clear p2); obtain ⟨x12_2, HA, HK2, HO_12, HB⟩ := hrel
       cases gk with
       | zero => exact absurd HA.out (by simp [spec_PriceSteps.l0])
       | succ k2 =>
        have H := HA.out; clear HA; simp only [spec_PriceSteps.l0] at H; obtain ⟨ji23, hji23⟩ : ∃ j_ : Int, (wrap64 ((x12_2.length : Int) - 1)) = j_ := ⟨_, rfl⟩
        replace H : (if 0 ≤ (ji23) then (if (ji23) < (x12_2.length : Int) then (spec_PriceSteps.l1 k2 l0 a1 a2 a4 x12_2 a4 ((rd_T40 x12_2 (ji23)).f0) 0) else (none)) else (none)) = some (r1, r2) := by first | (rw [hji23] at H; exact H) | (simp only [hji23] at H ⊢; exact H)
        have hji23w : (IntKind.i64.wrap ((x12_2.length : Int) - 1)) = ji23 := (i64_w _).trans hji23; by_cases c24 : 0 ≤ (ji23)
        ·rw [if_pos c24] at H; have c24b0 : decide (0 ≤ (ji23)) = true := decide_eq_true c24; clear c24; by_cases c25 : (ji23) < (x12_2.length : Int)
         ·rw [if_pos c25] at H; have c25b0 : decide ((ji23) < (x12_2.length : Int)) = true := decide_eq_true c25; clear c25; have H' := Aside0.mk H; clear H; obtain ⟨Ao26, co26, eo26⟩ := Kd.R_slice HO_12.out; subst eo26; have p137 : 0 ≤ ((ji23) : Int) := of_decide_eq_true (by first | (with_reducible assumption) | assumption); have q137 : (ji23) < (x12_2.length : Int) := of_decide_eq_true (by first | (with_reducible assumption) | assumption); obtain ⟨ad137, e137, hx137_0, hx137_1⟩ := at_T40 (Kd.R_reads' HO_12.out).2.2 (ji23) p137 q137
          cases e137
          replace p137 := eq_true p137; replace q137 := eq_true q137; go_wp2
          go_loopg [13, 15] k2 (fun kq v13 v15 w' => ∃ (x13_3 : Int) (x15_3 : Int), v13 = .int .i64 x13_3 ∧ v15 = .int .i64 x15_3 ∧ Aside0 (spec_PriceSteps.l1 kq l0 a1 a2 a4 x12_2 x13_3 ((rd_T40 x12_2 (ji23)).f0) x15_3 = some (r1, r2)) ∧ Aside0 (kq ≤ k2) ∧ Aside0 (Kd.R k40 40 w' w.heap.size (fun _ => True) (.slice (some ad137) x12_2.length co26) x12_2) ∧ Aside0 (Below w.heap.size w w'))
          case atStart => exact ⟨(a4), (0), (by first | rfl | (simp; done) | (simp [*]; done)), (by first | rfl | (simp; done) | (simp [*]; done)), H', ⟨Nat.le_refl _⟩, ⟨by (with_reducible repeat (first | apply Kd.R_alloc | apply Kd.R_drewN | apply Kd.R_drew)); exact HO_12.out⟩, ⟨qb HB⟩⟩
          case round =>
           clear H'; (try clear c1); (try clear p1); (try clear q1); (try clear hx1); (try clear c2); (try clear p2); (try clear c6); (try clear p6); (try clear c7); (try clear c11); (try clear p13); (try clear q13); (try clear hx13); (try clear c14); (try clear c14b0); (try clear c15); (try clear c15b0); (try clear c16); (try clear c20); (try clear c21); (try clear c22); (try clear c24); (try clear c24b0); (try clear c25); (try clear c25b0); (try clear hx137_0); (try clear hx137_1); (try clear p137); (try clear p2); (try clear q137); obtain ⟨x13_3, x15_3, rfl, rfl, HA, HK3, HO_12, HB⟩ := hrel
           cases gk with
           | zero => exact absurd HA.out (by simp [spec_PriceSteps.l1])
           | succ k3 =>
            have H := HA.out; clear HA; simp only [spec_PriceSteps.l1] at H; by_cases c27 : x15_3 < (l0.length : Int)
            ·rw [if_pos c27] at H; have c27b0 : decide (x15_3 < (l0.length : Int)) = true := decide_eq_true c27; clear c27; have HC28 := Aside0.mk H; clear H
             go_upto_region 13 with (fail)
             go_cut [93] (fun v93 wc => ∃ (kq : Nat) (x93_27 : Bool), v93 = .bool x93_27 ∧ Aside0 (spec_PriceSteps.j3 kq l0 a1 a2 a4 x12_2 x13_3 ((rd_T40 x12_2 (ji23)).f0) x15_3 x93_27 = some (r1, r2)) ∧ Aside0 (kq ≤ k3) ∧ Aside0 (Kd.R k40 40 wc w.heap.size (fun _ => True) (.slice (some ad137) x12_2.length co26) x12_2) ∧ Aside0 (Below w.heap.size w wc))
             case first =>
              have H := HC28.out; clear HC28; by_cases c29 : 0 ≤ x15_3
              ·rw [if_pos c29] at H; have c29b0 : decide (0 ≤ x15_3) = true := decide_eq_true c29; clear c29
               (first | rw [c29b0] | (simp only [i64_w, i32_w]; rw [c29b0]) | skip)
               by_cases c30 : ((rd_T44 l0 x15_3).f3) > ((rd_T40 x12_2 (ji23)).f0)
               ·rw [if_pos c30] at H; have c30b0 : decide (((rd_T40 x12_2 (ji23)).f0) < ((rd_T44 l0 x15_3).f3)) = true := decide_eq_true c30; clear c30; by_cases c31 : ((rd_T44 l0 x15_3).f3) < x13_3
                ·rw [if_pos c31] at H; have c31b0 : decide (((rd_T44 l0 x15_3).f3) < x13_3) = true := decide_eq_true c31; clear c31; replace H := Option.bind_eq_some_iff.mp H; obtain ⟨t141, A320, H⟩ := H; replace H : (if 0 ≤ (wrap64 ((x12_2.length : Int) - 1)) then (if (wrap64 ((x12_2.length : Int) - 1)) < (x12_2.length : Int) then (spec_PriceSteps.j3 k3 l0 a1 a2 a4 x12_2 x13_3 ((rd_T40 x12_2 (ji23)).f0) x15_3 (t141 != ((rd_T40 x12_2 (wrap64 ((x12_2.length : Int) - 1))).f1))) else (none)) else (none)) = some (r1, r2) := H; have A32 := Aside0.mk A320; clear A320; obtain ⟨ji33, hji33⟩ : ∃ j_ : Int, (wrap64 ((x12_2.length : Int) - 1)) = j_ := ⟨_, rfl⟩
                 replace H : (if 0 ≤ (ji33) then (if (ji33) < (x12_2.length : Int) then (spec_PriceSteps.j3 k3 l0 a1 a2 a4 x12_2 x13_3 ((rd_T40 x12_2 (ji23)).f0) x15_3 (t141 != ((rd_T40 x12_2 (ji33)).f1))) else (none)) else (none)) = some (r1, r2) := by first | (rw [hji33] at H; exact H) | (simp only [hji33] at H ⊢; exact H)
                 (try rw [hji33] at A32)
                 have hji33w : (IntKind.i64.wrap ((x12_2.length : Int) - 1)) = ji33 := (i64_w _).trans hji33; (try clear hji23w); (try clear hji23); by_cases c34 : 0 ≤ (ji33)
                 ·rw [if_pos c34] at H; have c34b0 : decide (0 ≤ (ji33)) = true := decide_eq_true c34; clear c34; by_cases c35 : (ji33) < (x12_2.length : Int)
                  ·rw [if_pos c35] at H; have c35b0 : decide ((ji33) < (x12_2.length : Int)) = true := decide_eq_true c35; clear c35; have H' := Aside0.mk H; clear H
                   try go_wp2
                   have n0_ := Aside0.mk (Kd.R_drew HO_12.out); have n1_ := Aside0.mk (below_drew1 HB.out); clear HO_12; clear HB; have HO_12 := n0_; have HB := n1_; clear n0_ n1_; have p138 : 0 ≤ (x15_3 : Int) := of_decide_eq_true (by first | (with_reducible assumption) | assumption); have q138 : x15_3 < (l0.length : Int) := of_decide_eq_true (by first | (with_reducible assumption) | assumption); obtain ⟨ad138, e138, hx138_0, hx138_1, hx138_2, hx138_3, hx138_4, hx138_5⟩ := at_T44 HR0.out x15_3 p138 q138; have hw138_5 := hx138_5; have hw138_4 := hx138_4; have hw138_3 := hx138_3; have hw138_2 := hx138_2; have hw138_1 := hx138_1; have hw138_0 := hx138_0
                   cases e138
                   replace hx138_0 := (HB.out.cell (World.block_lt_of_cell? w _ hx138_0)).trans hx138_0; replace hx138_1 := (HB.out.cell (World.block_lt_of_cell? w _ hx138_1)).trans hx138_1; replace hx138_2 := (HB.out.cell (World.block_lt_of_cell? w _ hx138_2)).trans hx138_2; replace hx138_3 := (HB.out.cell (World.block_lt_of_cell? w _ hx138_3)).trans hx138_3; replace hx138_4 := (HB.out.cell (World.block_lt_of_cell? w _ hx138_4)).trans hx138_4; replace hx138_5 := (HB.out.cell (World.block_lt_of_cell? w _ hx138_5)).trans hx138_5; replace p138 := eq_true p138; replace q138 := eq_true q138; have p139 : 0 ≤ (x15_3 : Int) := of_decide_eq_true (by first | (with_reducible assumption) | assumption); have q139 : x15_3 < (l0.length : Int) := of_decide_eq_true (by first | (with_reducible assumption) | assumption); obtain ⟨ad139, e139, hx139_0, hx139_1, hx139_2, hx139_3, hx139_4, hx139_5⟩ := at_T44 HR0.out x15_3 p139 q139; have hw139_5 := hx139_5; have hw139_4 := hx139_4; have hw139_3 := hx139_3; have hw139_2 := hx139_2; have hw139_1 := hx139_1; have hw139_0 := hx139_0; obtain rfl : ad138 = ad139 := (by injection e139); replace hx139_0 := (HB.out.cell (World.block_lt_of_cell? w _ hx139_0)).trans hx139_0; replace hx139_1 := (HB.out.cell (World.block_lt_of_cell? w _ hx139_1)).trans hx139_1; replace hx139_2 := (HB.out.cell (World.block_lt_of_cell? w _ hx139_2)).trans hx139_2; replace hx139_3 := (HB.out.cell (World.block_lt_of_cell? w _ hx139_3)).trans hx139_3; replace hx139_4 := (HB.out.cell (World.block_lt_of_cell? w _ hx139_4)).trans hx139_4; replace hx139_5 := (HB.out.cell (World.block_lt_of_cell? w _ hx139_5)).trans hx139_5; replace p139 := eq_true p139; replace q139 := eq_true q139; have p140 : 0 ≤ (x15_3 : Int) := of_decide_eq_true (by first | (with_reducible assumption) | assumption); have q140 : x15_3 < (l0.length : Int) := of_decide_eq_true (by first | (with_reducible assumption) | assumption); obtain ⟨ad140, e140, hx140_0, hx140_1, hx140_2, hx140_3, hx140_4, hx140_5⟩ := at_T44 HR0.out x15_3 p140 q140; have hw140_5 := hx140_5; have hw140_4 := hx140_4; have hw140_3 := hx140_3; have hw140_2 := hx140_2; have hw140_1 := hx140_1; have hw140_0 := hx140_0; obtain rfl : ad138 = ad140 := (by injection e140); replace hx140_0 := (HB.out.cell (World.block_lt_of_cell? w _ hx140_0)).trans hx140_0; replace hx140_1 := (HB.out.cell (World.block_lt_of_cell? w _ hx140_1)).trans hx140_1; replace hx140_2 := (HB.out.cell (World.block_lt_of_cell? w _ hx140_2)).trans hx140_2; replace hx140_3 := (HB.out.cell (World.block_lt_of_cell? w _ hx140_3)).trans hx140_3; replace hx140_4 := (HB.out.cell (World.block_lt_of_cell? w _ hx140_4)).trans hx140_4; replace hx140_5 := (HB.out.cell (World.block_lt_of_cell? w _ hx140_5)).trans hx140_5; replace p140 := eq_true p140; replace q140 := eq_true q140; have p142 : 0 ≤ ((ji33) : Int) := of_decide_eq_true (by first | (with_reducible assumption) | assumption); have q142 : (ji33) < (x12_2.length : Int) := of_decide_eq_true (by first | (with_reducible assumption) | assumption); obtain ⟨ad142, e142, hx142_0, hx142_1⟩ := at_T40 (Kd.R_reads' HO_12.out).2.2 (ji33) p142 q142; obtain rfl : ad137 = ad142 := (by injection e142); replace p142 := eq_true p142; replace q142 := eq_true q142; refine start_ (n := 35) (S := fun w' => w'.cell? (ad138.add ((x15_3).toNat * 6)) = some (.string ((rd_T44 l0 x15_3).f0)) ∧ w'.cell? ⟨(ad138.add ((x15_3).toNat * 6)).block, (ad138.add ((x15_3).toNat * 6)).off + 1, none⟩ = some (.string ((rd_T44 l0 x15_3).f1)) ∧ w'.cell? ⟨(ad138.add ((x15_3).toNat * 6)).block, (ad138.add ((x15_3).toNat * 6)).off + 2, none⟩ = some (.int .i64 ((rd_T44 l0 x15_3).f2)) ∧ w'.cell? ⟨(ad138.add ((x15_3).toNat * 6)).block, (ad138.add ((x15_3).toNat * 6)).off + 3, none⟩ = some (.int .i64 ((rd_T44 l0 x15_3).f3)) ∧ w'.cell? ⟨(ad138.add ((x15_3).toNat * 6)).block, (ad138.add ((x15_3).toNat * 6)).off + 4, none⟩ = some (.int .i64 ((rd_T44 l0 x15_3).f4)) ∧ w'.cell? ⟨(ad138.add ((x15_3).toNat * 6)).block, (ad138.add ((x15_3).toNat * 6)).off + 5, none⟩ = some (.int .i64 ((rd_T44 l0 x15_3).f5)) ∧ w'.cell? (ad138.add ((x15_3).toNat * 6)) = some (.string ((rd_T44 l0 x15_3).f0)) ∧ w'.cell? ⟨(ad138.add ((x15_3).toNat * 6)).block, (ad138.add ((x15_3).toNat * 6)).off + 1, none⟩ = some (.string ((rd_T44 l0 x15_3).f1)) ∧ w'.cell? ⟨(ad138.add ((x15_3).toNat * 6)).block, (ad138.add ((x15_3).toNat * 6)).off + 2, none⟩ = some (.int .i64 ((rd_T44 l0 x15_3).f2)) ∧ w'.cell? ⟨(ad138.add ((x15_3).toNat * 6)).block, (ad138.add ((x15_3).toNat * 6)).off + 3, none⟩ = some (.int .i64 ((rd_T44 l0 x15_3).f3)) ∧ w'.cell? ⟨(ad138.add ((x15_3).toNat * 6)).block, (ad138.add ((x15_3).toNat * 6)).off + 4, none⟩ = some (.int .i64 ((rd_T44 l0 x15_3).f4)) ∧ w'.cell? ⟨(ad138.add ((x15_3).toNat * 6)).block, (ad138.add ((x15_3).toNat * 6)).off + 5, none⟩ = some (.int .i64 ((rd_T44 l0 x15_3).f5)) ∧ w'.cell? (ad138.add ((x15_3).toNat * 6)) = some (.string ((rd_T44 l0 x15_3).f0)) ∧ w'.cell? ⟨(ad138.add ((x15_3).toNat * 6)).block, (ad138.add ((x15_3).toNat * 6)).off + 1, none⟩ = some (.string ((rd_T44 l0 x15_3).f1)) ∧ w'.cell? ⟨(ad138.add ((x15_3).toNat * 6)).block, (ad138.add ((x15_3).toNat * 6)).off + 2, none⟩ = some (.int .i64 ((rd_T44 l0 x15_3).f2)) ∧ w'.cell? ⟨(ad138.add ((x15_3).toNat * 6)).block, (ad138.add ((x15_3).toNat * 6)).off + 3, none⟩ = some (.int .i64 ((rd_T44 l0 x15_3).f3)) ∧ w'.cell? ⟨(ad138.add ((x15_3).toNat * 6)).block, (ad138.add ((x15_3).toNat * 6)).off + 4, none⟩ = some (.int .i64 ((rd_T44 l0 x15_3).f4)) ∧ w'.cell? ⟨(ad138.add ((x15_3).toNat * 6)).block, (ad138.add ((x15_3).toNat * 6)).off + 5, none⟩ = some (.int .i64 ((rd_T44 l0 x15_3).f5)) ∧ w'.cell? (ad137.add (((ji33)).toNat * 2)) = some (.int .i64 ((rd_T40 x12_2 (ji33)).f0)) ∧ w'.cell? ⟨(ad137.add (((ji33)).toNat * 2)).block, (ad137.add (((ji33)).toNat * 2)).off + 1, none⟩ = some (.int .i64 ((rd_T40 x12_2 (ji33)).f1))) (ds := []) (rl_ true [0, 35]).toArray (by kernel_rfl) rfl rfl ⟨((HB.out.cell (World.block_lt_of_cell? w _ hw138_0)).trans hw138_0), ((HB.out.cell (World.block_lt_of_cell? w _ hw138_1)).trans hw138_1), ((HB.out.cell (World.block_lt_of_cell? w _ hw138_2)).trans hw138_2), ((HB.out.cell (World.block_lt_of_cell? w _ hw138_3)).trans hw138_3), ((HB.out.cell (World.block_lt_of_cell? w _ hw138_4)).trans hw138_4), ((HB.out.cell (World.block_lt_of_cell? w _ hw138_5)).trans hw138_5), ((HB.out.cell (World.block_lt_of_cell? w _ hw139_0)).trans hw139_0), ((HB.out.cell (World.block_lt_of_cell? w _ hw139_1)).trans hw139_1), ((HB.out.cell (World.block_lt_of_cell? w _ hw139_2)).trans hw139_2), ((HB.out.cell (World.block_lt_of_cell? w _ hw139_3)).trans hw139_3), ((HB.out.cell (World.block_lt_of_cell? w _ hw139_4)).trans hw139_4), ((HB.out.cell (World.block_lt_of_cell? w _ hw139_5)).trans hw139_5), ((HB.out.cell (World.block_lt_of_cell? w _ hw140_0)).trans hw140_0), ((HB.out.cell (World.block_lt_of_cell? w _ hw140_1)).trans hw140_1), ((HB.out.cell (World.block_lt_of_cell? w _ hw140_2)).trans hw140_2), ((HB.out.cell (World.block_lt_of_cell? w _ hw140_3)).trans hw140_3), ((HB.out.cell (World.block_lt_of_cell? w _ hw140_4)).trans hw140_4), ((HB.out.cell (World.block_lt_of_cell? w _ hw140_5)).trans hw140_5), hx142_0, hx142_1⟩ (fun hHeld => ?_); refine with_tabW spec_PriceSteps.tab13 spec_PriceSteps.bits13 (fun HT_ HW_ => ?_); generalize wr.drew = w36 at HO_12 HB hx138_0 hx138_1 hx138_2 hx138_3 hx138_4 hx138_5 hx139_0 hx139_1 hx139_2 hx139_3 hx139_4 hx139_5 hx140_0 hx140_1 hx140_2 hx140_3 hx140_4 hx140_5 hx142_0 hx142_1 hHeld ⊢; refine pure_ (i := 0) (N := some 59) (v := ?_) (a' := ?_) (rl_ true [1, 34]).toArray rfl rfl (any_of HT_.out (by kernel_rfl)) (fun _ _ _ h => h) (Or.inl ⟨by rfl, ?_⟩) ?_ ?_; rotate_left
                   ·intro w'; go_simp; (with_reducible rfl)
                   rotate_left
                   ·simp only [Act.put, sA, s0, sS, i64_w, i32_w]; rfl
                   refine pure_ (i := 1) (N := some 60) (v := ?_) (a' := ?_) (rl_ true [2, 33]).toArray rfl rfl (any_of HT_.out (by kernel_rfl)) (fun _ _ _ h => h) (Or.inl ⟨by rfl, ?_⟩) ?_ ?_; rotate_left
                   ·intro w'; go_simp; (with_reducible rfl)
                   rotate_left
                   ·simp only [Act.put, sA, s0, sS, i64_w, i32_w]; rfl
                   refine pure_ (i := 2) (N := some 61) (v := ?_) (a' := ?_) (rl_ true [3, 32]).toArray rfl rfl (any_of HT_.out (by kernel_rfl)) (fun _ _ _ h => h) (Or.inl ⟨by rfl, ?_⟩) ?_ ?_; rotate_left
                   ·intro w'; go_simp; (with_reducible rfl)
                   rotate_left
                   ·simp only [Act.put, sA, s0, sS, i64_w, i32_w]; rfl
                   refine pure_ (i := 3) (N := some 62) (v := ?_) (a' := ?_) (rl_ true [4, 31]).toArray rfl rfl (any_of HT_.out (by kernel_rfl)) (fun _ _ _ h => h) (Or.inl ⟨by rfl, ?_⟩) ?_ ?_; rotate_left
                   ·intro w'; go_simp; (with_reducible rfl)
                   rotate_left
                   ·simp only [Act.put, sA, s0, sS, i64_w, i32_w]; rfl
                   refine pure_ (i := 5) (N := some 64) (v := ?_) (a' := ?_) (rl_ true [4, 1, 1, 29]).toArray rfl rfl (any_of HT_.out (by kernel_rfl)) (fun _ _ _ h => h) (Or.inl ⟨by rfl, ?_⟩) ?_ ?_; rotate_left
                   ·intro w'; go_simp; (with_reducible rfl)
                   rotate_left
                   ·simp only [Act.put, sA, s0, sS, i64_w, i32_w]; rfl
                   refine take_ (i := 4) (N := some 63) (v := ?_) (a' := ?_) (rl_ true [6, 29]).toArray rfl rfl (take_ofW HT_.out HW_.out (by kernel_rfl)) (fun _ _ _ h => h) (Or.inl ⟨by rfl, ?_⟩) hHeld ?_ ?_; rotate_left
                   ·rintro w' ⟨s0, s1, s2, s3, s4, s5, s6, s7, s8, s9, s10, s11, s12, s13, s14, s15, s16, s17, s18, s19⟩; go_simp; (with_reducible rfl)
                   rotate_left
                   ·simp only [Act.put, sA, s0, sS, i64_w, i32_w]; rfl
                   refine pure_ (i := 6) (N := some 65) (v := ?_) (a' := ?_) (rl_ true [7, 28]).toArray rfl rfl (any_of HT_.out (by kernel_rfl)) (fun _ _ _ h => h) (Or.inl ⟨by rfl, ?_⟩) ?_ ?_; rotate_left
                   ·intro w'; go_simp; (with_reducible rfl)
                   rotate_left
                   ·simp only [Act.put, sA, s0, sS, i64_w, i32_w]; rfl
                   refine pure_ (i := 7) (N := some 66) (v := ?_) (a' := ?_) (rl_ true [8, 27]).toArray rfl rfl (any_of HT_.out (by kernel_rfl)) (fun _ _ _ h => h) (Or.inl ⟨by rfl, ?_⟩) ?_ ?_; rotate_left
                   ·intro w'; go_simp; (with_reducible rfl)
                   rotate_left
                   ·simp only [Act.put, sA, s0, sS, i64_w, i32_w]; rfl
                   refine pure_ (i := 8) (N := some 67) (v := ?_) (a' := ?_) (rl_ true [9, 26]).toArray rfl rfl (any_of HT_.out (by kernel_rfl)) (fun _ _ _ h => h) (Or.inl ⟨by rfl, ?_⟩) ?_ ?_; rotate_left
                   ·intro w'; go_simp; (with_reducible rfl)
                   rotate_left
                   ·simp only [Act.put, sA, s0, sS, i64_w, i32_w]; rfl
                   refine pure_ (i := 9) (N := some 68) (v := ?_) (a' := ?_) (rl_ true [10, 25]).toArray rfl rfl (any_of HT_.out (by kernel_rfl)) (fun _ _ _ h => h) (Or.inl ⟨by rfl, ?_⟩) ?_ ?_; rotate_left
                   ·intro w'; go_simp; (with_reducible rfl)
                   rotate_left
                   ·simp only [Act.put, sA, s0, sS, i64_w, i32_w]; rfl
                   refine pure_ (i := 10) (N := some 69) (v := ?_) (a' := ?_) (rl_ true [11, 24]).toArray rfl rfl (any_of HT_.out (by kernel_rfl)) (fun _ _ _ h => h) (Or.inl ⟨by rfl, ?_⟩) ?_ ?_; rotate_left
                   ·intro w'; go_simp; (with_reducible rfl)
                   rotate_left
                   ·simp only [Act.put, sA, s0, sS, i64_w, i32_w]; rfl
                   refine pure_ (i := 11) (N := some 70) (v := ?_) (a' := ?_) (rl_ true [12, 23]).toArray rfl rfl (any_of HT_.out (by kernel_rfl)) (fun _ _ _ h => h) (Or.inl ⟨by rfl, ?_⟩) ?_ ?_; rotate_left
                   ·intro w'; go_simp; (with_reducible rfl)
                   rotate_left
                   ·simp only [Act.put, sA, s0, sS, i64_w, i32_w]; rfl
                   refine pure_ (i := 13) (N := some 72) (v := ?_) (a' := ?_) (rl_ true [12, 1, 1, 21]).toArray rfl rfl (any_of HT_.out (by kernel_rfl)) (fun _ _ _ h => h) (Or.inl ⟨by rfl, ?_⟩) ?_ ?_; rotate_left
                   ·intro w'; go_simp; (with_reducible rfl)
                   rotate_left
                   ·simp only [Act.put, sA, s0, sS, i64_w, i32_w]; rfl
                   refine take_ (i := 12) (N := some 71) (v := ?_) (a' := ?_) (rl_ true [14, 21]).toArray rfl rfl (take_ofW HT_.out HW_.out (by kernel_rfl)) (fun _ _ _ h => h) (Or.inl ⟨by rfl, ?_⟩) hHeld ?_ ?_; rotate_left
                   ·rintro w' ⟨s0, s1, s2, s3, s4, s5, s6, s7, s8, s9, s10, s11, s12, s13, s14, s15, s16, s17, s18, s19⟩; go_simp; (with_reducible rfl)
                   rotate_left
                   ·simp only [Act.put, sA, s0, sS, i64_w, i32_w]; rfl
                   refine pure_ (i := 14) (N := some 73) (v := ?_) (a' := ?_) (rl_ true [15, 20]).toArray rfl rfl (any_of HT_.out (by kernel_rfl)) (fun _ _ _ h => h) (Or.inl ⟨by rfl, ?_⟩) ?_ ?_; rotate_left
                   ·intro w'; go_simp; (with_reducible rfl)
                   rotate_left
                   ·simp only [Act.put, sA, s0, sS, i64_w, i32_w]; rfl
                   refine pure_ (i := 15) (N := some 74) (v := ?_) (a' := ?_) (rl_ true [16, 19]).toArray rfl rfl (any_of HT_.out (by kernel_rfl)) (fun _ _ _ h => h) (Or.inl ⟨by rfl, ?_⟩) ?_ ?_; rotate_left
                   ·intro w'; go_simp; (with_reducible rfl)
                   rotate_left
                   ·simp only [Act.put, sA, s0, sS, i64_w, i32_w]; rfl
                   refine pure_ (i := 16) (N := some 75) (v := ?_) (a' := ?_) (rl_ true [17, 18]).toArray rfl rfl (any_of HT_.out (by kernel_rfl)) (fun _ _ _ h => h) (Or.inl ⟨by rfl, ?_⟩) ?_ ?_; rotate_left
                   ·intro w'; go_simp; (with_reducible rfl)
                   rotate_left
                   ·simp only [Act.put, sA, s0, sS, i64_w, i32_w]; rfl
                   refine pure_ (i := 17) (N := some 76) (v := ?_) (a' := ?_) (rl_ true [18, 17]).toArray rfl rfl (any_of HT_.out (by kernel_rfl)) (fun _ _ _ h => h) (Or.inl ⟨by rfl, ?_⟩) ?_ ?_; rotate_left
                   ·intro w'; go_simp; (with_reducible rfl)
                   rotate_left
                   ·simp only [Act.put, sA, s0, sS, i64_w, i32_w]; rfl
                   refine pure_ (i := 18) (N := some 77) (v := ?_) (a' := ?_) (rl_ true [19, 16]).toArray rfl rfl (any_of HT_.out (by kernel_rfl)) (fun _ _ _ h => h) (Or.inl ⟨by rfl, ?_⟩) ?_ ?_; rotate_left
                   ·intro w'; go_simp; (with_reducible rfl)
                   rotate_left
                   ·simp only [Act.put, sA, s0, sS, i64_w, i32_w]; rfl
                   refine pure_ (i := 19) (N := some 78) (v := ?_) (a' := ?_) (rl_ true [20, 15]).toArray rfl rfl (any_of HT_.out (by kernel_rfl)) (fun _ _ _ h => h) (Or.inl ⟨by rfl, ?_⟩) ?_ ?_; rotate_left
                   ·intro w'; go_simp; (with_reducible rfl)
                   rotate_left
                   ·simp only [Act.put, sA, s0, sS, i64_w, i32_w]; rfl
                   refine pure_ (i := 20) (N := some 79) (v := ?_) (a' := ?_) (rl_ true [21, 14]).toArray rfl rfl (any_of HT_.out (by kernel_rfl)) (fun _ _ _ h => h) (Or.inl ⟨by rfl, ?_⟩) ?_ ?_; rotate_left
                   ·intro w'; go_simp; (with_reducible rfl)
                   rotate_left
                   ·simp only [Act.put, sA, s0, sS, i64_w, i32_w]; rfl
                   refine pure_ (i := 21) (N := some 80) (v := ?_) (a' := ?_) (rl_ true [22, 13]).toArray rfl rfl (any_of HT_.out (by kernel_rfl)) (fun _ _ _ h => h) (Or.inl ⟨by rfl, ?_⟩) ?_ ?_; rotate_left
                   ·intro w'; go_simp; (with_reducible rfl)
                   rotate_left
                   ·simp only [Act.put, sA, s0, sS, i64_w, i32_w]; rfl
                   refine pure_ (i := 22) (N := some 81) (v := ?_) (a' := ?_) (rl_ true [23, 12]).toArray rfl rfl (any_of HT_.out (by kernel_rfl)) (fun _ _ _ h => h) (Or.inl ⟨by rfl, ?_⟩) ?_ ?_; rotate_left
                   ·intro w'; go_simp; (with_reducible rfl)
                   rotate_left
                   ·simp only [Act.put, sA, s0, sS, i64_w, i32_w]; rfl
                   refine pure_ (i := 23) (N := some 82) (v := ?_) (a' := ?_) (rl_ true [24, 11]).toArray rfl rfl (any_of HT_.out (by kernel_rfl)) (fun _ _ _ h => h) (Or.inl ⟨by rfl, ?_⟩) ?_ ?_; rotate_left
                   ·intro w'; go_simp; (with_reducible rfl)
                   rotate_left
                   ·simp only [Act.put, sA, s0, sS, i64_w, i32_w]; rfl
                   refine pure_ (i := 26) (N := some 85) (v := ?_) (a' := ?_) (rl_ true [24, 2, 1, 8]).toArray rfl rfl (any_of HT_.out (by kernel_rfl)) (fun _ _ _ h => h) (Or.inl ⟨by rfl, ?_⟩) ?_ ?_; rotate_left
                   ·intro w'; go_simp; (with_reducible rfl)
                   rotate_left
                   ·simp only [Act.put, sA, s0, sS, i64_w, i32_w]; rfl
                   refine pure_ (i := 27) (N := some 86) (v := ?_) (a' := ?_) (rl_ true [24, 2, 2, 7]).toArray rfl rfl (any_of HT_.out (by kernel_rfl)) (fun _ _ _ h => h) (Or.inl ⟨by rfl, ?_⟩) ?_ ?_; rotate_left
                   ·intro w'; go_simp; (with_reducible rfl)
                   rotate_left
                   ·simp only [Act.put, sA, s0, sS, i64_w, i32_w]; rfl
                   refine pure_ (i := 28) (N := some 87) (v := ?_) (a' := ?_) (rl_ true [24, 2, 3, 6]).toArray rfl rfl (any_of HT_.out (by kernel_rfl)) (fun _ _ _ h => h) (Or.inl ⟨by rfl, ?_⟩) ?_ ?_; rotate_left
                   ·intro w'; go_simp; (with_reducible rfl)
                   rotate_left
                   ·simp only [Act.put, sA, s0, sS, i64_w, i32_w]; rfl
                   refine pure_ (i := 29) (N := some 88) (v := ?_) (a' := ?_) (rl_ true [24, 2, 4, 5]).toArray rfl rfl (any_of HT_.out (by kernel_rfl)) (fun _ _ _ h => h) (Or.inl ⟨by rfl, ?_⟩) ?_ ?_; rotate_left
                   ·intro w'; go_simp; (with_reducible rfl)
                   rotate_left
                   ·simp only [Act.put, sA, s0, sS, i64_w, i32_w]; rfl
                   refine pure_ (i := 30) (N := some 89) (v := ?_) (a' := ?_) (rl_ true [24, 2, 5, 4]).toArray rfl rfl (any_of HT_.out (by kernel_rfl)) (fun _ _ _ h => h) (Or.inl ⟨by rfl, ?_⟩) ?_ ?_; rotate_left
                   ·intro w'; go_simp; (with_reducible rfl)
                   rotate_left
                   ·simp only [Act.put, sA, s0, sS, i64_w, i32_w]; rfl
                   refine pure_ (i := 31) (N := some 90) (v := ?_) (a' := ?_) (rl_ true [24, 2, 6, 3]).toArray rfl rfl (any_of HT_.out (by kernel_rfl)) (fun _ _ _ h => h) (Or.inl ⟨by rfl, ?_⟩) ?_ ?_; rotate_left
                   ·intro w'; go_simp; (with_reducible rfl)
                   rotate_left
                   ·simp only [Act.put, sA, s0, sS, i64_w, i32_w]; rfl
                   refine take_ (i := 24) (N := some 83) (v := ?_) (a' := ?_) (rl_ true [25, 1, 6, 3]).toArray rfl rfl (take_ofW HT_.out HW_.out (by kernel_rfl)) (fun _ _ _ h => h) (Or.inl ⟨by rfl, ?_⟩) hHeld ?_ ?_; rotate_left
                   ·rintro w' ⟨s0, s1, s2, s3, s4, s5, s6, s7, s8, s9, s10, s11, s12, s13, s14, s15, s16, s17, s18, s19⟩; go_simp; (with_reducible rfl)
                   rotate_left
                   ·simp only [Act.put, sA, s0, sS, i64_w, i32_w]; rfl
                   refine take_ (i := 32) (N := some 91) (v := ?_) (a' := ?_) (rl_ true [25, 1, 7, 2]).toArray rfl rfl (take_ofW HT_.out HW_.out (by kernel_rfl)) (fun _ _ _ h => h) (Or.inl ⟨by rfl, ?_⟩) hHeld ?_ ?_; rotate_left
                   ·rintro w' ⟨s0, s1, s2, s3, s4, s5, s6, s7, s8, s9, s10, s11, s12, s13, s14, s15, s16, s17, s18, s19⟩; go_simp; (with_reducible rfl)
                   rotate_left
                   ·simp only [Act.put, sA, s0, sS, i64_w, i32_w]; rfl
                   refine one_ (i := 25) (N := some 84) (rl_ true [33, 2]).toArray rfl rfl (one_of HT_.out (by kernel_rfl)) (by decide) (fun K hK => ?_); refine goes_ Try.func22 (by kernel_rfl) rfl #[.slice (some ad138) l0.length c0, .string a1, .string a2, .int .i64 ((rd_T44 l0 x15_3).f3)] (by rfl) rfl rfl mq ?_; (with_reducible refine (spec_l04Amount.calls k3 _ _ l0 a1 a2 ((rd_T44 l0 x15_3).f3) t141 _ ?side1 ?side2 A32.out).mono ?_)
                   (case side1 => repeat (first | exact (Kd.C_below HR0.out HB.out) | (with_reducible refine Kd.C_alloc ?_ _) | (with_reducible refine Kd.C_drewN ?_ _) | (with_reducible refine Kd.C_drew ?_)))
                   (case side2 => exact HC0.out)
                   rintro e w37 ⟨rfl, hb⟩; have HS18_ := (hb.cell (World.block_lt_of_cell? _ _ (hHeld.2.2.2.2.2.2.2.2.2.2.2.2.2.2.2.2.2.2.1))).trans (hHeld.2.2.2.2.2.2.2.2.2.2.2.2.2.2.2.2.2.2.1); have HS19_ := (hb.cell (World.block_lt_of_cell? _ _ (hHeld.2.2.2.2.2.2.2.2.2.2.2.2.2.2.2.2.2.2.2))).trans (hHeld.2.2.2.2.2.2.2.2.2.2.2.2.2.2.2.2.2.2.2); refine ⟨_, rfl, ?_⟩; have n0_ := Aside0.mk (Kd.R_below (qr HO_12) hb); have n1_ := Aside0.mk (below_step (qb HB) hb); clear HO_12; clear HB; have HO_12 := n0_; have HB := n1_; clear n0_ n1_; (try clear hb); (try clear hb2); (try clear hk); (try clear hi); refine hK.out _ _ ⟨((HB.out.cell (World.block_lt_of_cell? w _ hw138_0)).trans hw138_0), ((HB.out.cell (World.block_lt_of_cell? w _ hw138_1)).trans hw138_1), ((HB.out.cell (World.block_lt_of_cell? w _ hw138_2)).trans hw138_2), ((HB.out.cell (World.block_lt_of_cell? w _ hw138_3)).trans hw138_3), ((HB.out.cell (World.block_lt_of_cell? w _ hw138_4)).trans hw138_4), ((HB.out.cell (World.block_lt_of_cell? w _ hw138_5)).trans hw138_5), ((HB.out.cell (World.block_lt_of_cell? w _ hw139_0)).trans hw139_0), ((HB.out.cell (World.block_lt_of_cell? w _ hw139_1)).trans hw139_1), ((HB.out.cell (World.block_lt_of_cell? w _ hw139_2)).trans hw139_2), ((HB.out.cell (World.block_lt_of_cell? w _ hw139_3)).trans hw139_3), ((HB.out.cell (World.block_lt_of_cell? w _ hw139_4)).trans hw139_4), ((HB.out.cell (World.block_lt_of_cell? w _ hw139_5)).trans hw139_5), ((HB.out.cell (World.block_lt_of_cell? w _ hw140_0)).trans hw140_0), ((HB.out.cell (World.block_lt_of_cell? w _ hw140_1)).trans hw140_1), ((HB.out.cell (World.block_lt_of_cell? w _ hw140_2)).trans hw140_2), ((HB.out.cell (World.block_lt_of_cell? w _ hw140_3)).trans hw140_3), ((HB.out.cell (World.block_lt_of_cell? w _ hw140_4)).trans hw140_4), ((HB.out.cell (World.block_lt_of_cell? w _ hw140_5)).trans hw140_5), HS18_, HS19_⟩ (fun hHeld => ?_); clear hK K; refine norm_ (a' := ?_) ?_ ?_; rotate_left
                   ·show Act.put _ (some 84) _ = _; simp only [Act.put, sA, s0, sS, i64_w, i32_w]; rfl
                   refine pure_ (i := 33) (N := some 92) (v := ?_) (a' := ?_) (rl_ true [34, 1]).toArray rfl rfl (any_of HT_.out (by kernel_rfl)) (fun _ _ _ h => h) (Or.inl ⟨by rfl, ?_⟩) ?_ ?_; rotate_left
                   ·intro w'; go_simp; (with_reducible rfl)
                   rotate_left
                   ·simp only [Act.put, sA, s0, sS, i64_w, i32_w]; rfl
                   refine pure_ (i := 34) (N := some 93) (v := ?_) (a' := ?_) (rl_ true [35]).toArray rfl rfl (any_of HT_.out (by kernel_rfl)) (fun _ _ _ h => h) (Or.inl ⟨by rfl, ?_⟩) ?_ ?_; rotate_left
                   ·intro w'; go_simp; (with_reducible rfl)
                   rotate_left
                   ·simp only [Act.put, sA, s0, sS, i64_w, i32_w]; rfl
                   refine done_ (done_of HT_.out (by kernel_rfl)) ?_
                   try go_wp2
                   go_meet
                   case rel => exact ⟨_, ((t141 != ((rd_T40 x12_2 (ji33)).f1))), (by first | rfl | (simp; done) | (simp only [← hji33] <;> (first | rfl | simp)) | (simp [*]; done)), H', ⟨by have := HJ11.out; have := HK2.out; have := HK3.out; first | omega | exact Nat.le_refl _⟩, ⟨by (with_reducible repeat (first | apply Kd.R_alloc | apply Kd.R_drewN | apply Kd.R_drew)); exact HO_12.out⟩, ⟨qb HB⟩⟩
                  ·rw [if_neg c35] at H; exact absurd H (by simp)
                 ·rw [if_neg c34] at H; exact absurd H (by simp)
                ·rw [if_neg c31] at H; have c31b0 : decide (((rd_T44 l0 x15_3).f3) < x13_3) = false := decide_eq_false c31; clear c31; have H' := Aside0.mk H; clear H
                 try go_wp2
                 have n0_ := Aside0.mk (Kd.R_drew HO_12.out); have n1_ := Aside0.mk (below_drew1 HB.out); clear HO_12; clear HB; have HO_12 := n0_; have HB := n1_; clear n0_ n1_; have p138 : 0 ≤ (x15_3 : Int) := of_decide_eq_true (by first | (with_reducible assumption) | assumption); have q138 : x15_3 < (l0.length : Int) := of_decide_eq_true (by first | (with_reducible assumption) | assumption); obtain ⟨ad138, e138, hx138_0, hx138_1, hx138_2, hx138_3, hx138_4, hx138_5⟩ := at_T44 HR0.out x15_3 p138 q138; have hw138_5 := hx138_5; have hw138_4 := hx138_4; have hw138_3 := hx138_3; have hw138_2 := hx138_2; have hw138_1 := hx138_1; have hw138_0 := hx138_0
                 cases e138
                 replace hx138_0 := (HB.out.cell (World.block_lt_of_cell? w _ hx138_0)).trans hx138_0; replace hx138_1 := (HB.out.cell (World.block_lt_of_cell? w _ hx138_1)).trans hx138_1; replace hx138_2 := (HB.out.cell (World.block_lt_of_cell? w _ hx138_2)).trans hx138_2; replace hx138_3 := (HB.out.cell (World.block_lt_of_cell? w _ hx138_3)).trans hx138_3; replace hx138_4 := (HB.out.cell (World.block_lt_of_cell? w _ hx138_4)).trans hx138_4; replace hx138_5 := (HB.out.cell (World.block_lt_of_cell? w _ hx138_5)).trans hx138_5; replace p138 := eq_true p138; replace q138 := eq_true q138; have p139 : 0 ≤ (x15_3 : Int) := of_decide_eq_true (by first | (with_reducible assumption) | assumption); have q139 : x15_3 < (l0.length : Int) := of_decide_eq_true (by first | (with_reducible assumption) | assumption); obtain ⟨ad139, e139, hx139_0, hx139_1, hx139_2, hx139_3, hx139_4, hx139_5⟩ := at_T44 HR0.out x15_3 p139 q139; have hw139_5 := hx139_5; have hw139_4 := hx139_4; have hw139_3 := hx139_3; have hw139_2 := hx139_2; have hw139_1 := hx139_1; have hw139_0 := hx139_0; obtain rfl : ad138 = ad139 := (by injection e139); replace hx139_0 := (HB.out.cell (World.block_lt_of_cell? w _ hx139_0)).trans hx139_0; replace hx139_1 := (HB.out.cell (World.block_lt_of_cell? w _ hx139_1)).trans hx139_1; replace hx139_2 := (HB.out.cell (World.block_lt_of_cell? w _ hx139_2)).trans hx139_2; replace hx139_3 := (HB.out.cell (World.block_lt_of_cell? w _ hx139_3)).trans hx139_3; replace hx139_4 := (HB.out.cell (World.block_lt_of_cell? w _ hx139_4)).trans hx139_4; replace hx139_5 := (HB.out.cell (World.block_lt_of_cell? w _ hx139_5)).trans hx139_5; replace p139 := eq_true p139; replace q139 := eq_true q139; refine start_ (n := 35) (S := fun w' => w'.cell? (ad138.add ((x15_3).toNat * 6)) = some (.string ((rd_T44 l0 x15_3).f0)) ∧ w'.cell? ⟨(ad138.add ((x15_3).toNat * 6)).block, (ad138.add ((x15_3).toNat * 6)).off + 1, none⟩ = some (.string ((rd_T44 l0 x15_3).f1)) ∧ w'.cell? ⟨(ad138.add ((x15_3).toNat * 6)).block, (ad138.add ((x15_3).toNat * 6)).off + 2, none⟩ = some (.int .i64 ((rd_T44 l0 x15_3).f2)) ∧ w'.cell? ⟨(ad138.add ((x15_3).toNat * 6)).block, (ad138.add ((x15_3).toNat * 6)).off + 3, none⟩ = some (.int .i64 ((rd_T44 l0 x15_3).f3)) ∧ w'.cell? ⟨(ad138.add ((x15_3).toNat * 6)).block, (ad138.add ((x15_3).toNat * 6)).off + 4, none⟩ = some (.int .i64 ((rd_T44 l0 x15_3).f4)) ∧ w'.cell? ⟨(ad138.add ((x15_3).toNat * 6)).block, (ad138.add ((x15_3).toNat * 6)).off + 5, none⟩ = some (.int .i64 ((rd_T44 l0 x15_3).f5)) ∧ w'.cell? (ad138.add ((x15_3).toNat * 6)) = some (.string ((rd_T44 l0 x15_3).f0)) ∧ w'.cell? ⟨(ad138.add ((x15_3).toNat * 6)).block, (ad138.add ((x15_3).toNat * 6)).off + 1, none⟩ = some (.string ((rd_T44 l0 x15_3).f1)) ∧ w'.cell? ⟨(ad138.add ((x15_3).toNat * 6)).block, (ad138.add ((x15_3).toNat * 6)).off + 2, none⟩ = some (.int .i64 ((rd_T44 l0 x15_3).f2)) ∧ w'.cell? ⟨(ad138.add ((x15_3).toNat * 6)).block, (ad138.add ((x15_3).toNat * 6)).off + 3, none⟩ = some (.int .i64 ((rd_T44 l0 x15_3).f3)) ∧ w'.cell? ⟨(ad138.add ((x15_3).toNat * 6)).block, (ad138.add ((x15_3).toNat * 6)).off + 4, none⟩ = some (.int .i64 ((rd_T44 l0 x15_3).f4)) ∧ w'.cell? ⟨(ad138.add ((x15_3).toNat * 6)).block, (ad138.add ((x15_3).toNat * 6)).off + 5, none⟩ = some (.int .i64 ((rd_T44 l0 x15_3).f5))) (ds := []) (rl_ true [0, 35]).toArray (by kernel_rfl) rfl rfl ⟨((HB.out.cell (World.block_lt_of_cell? w _ hw138_0)).trans hw138_0), ((HB.out.cell (World.block_lt_of_cell? w _ hw138_1)).trans hw138_1), ((HB.out.cell (World.block_lt_of_cell? w _ hw138_2)).trans hw138_2), ((HB.out.cell (World.block_lt_of_cell? w _ hw138_3)).trans hw138_3), ((HB.out.cell (World.block_lt_of_cell? w _ hw138_4)).trans hw138_4), ((HB.out.cell (World.block_lt_of_cell? w _ hw138_5)).trans hw138_5), ((HB.out.cell (World.block_lt_of_cell? w _ hw139_0)).trans hw139_0), ((HB.out.cell (World.block_lt_of_cell? w _ hw139_1)).trans hw139_1), ((HB.out.cell (World.block_lt_of_cell? w _ hw139_2)).trans hw139_2), ((HB.out.cell (World.block_lt_of_cell? w _ hw139_3)).trans hw139_3), ((HB.out.cell (World.block_lt_of_cell? w _ hw139_4)).trans hw139_4), ((HB.out.cell (World.block_lt_of_cell? w _ hw139_5)).trans hw139_5)⟩ (fun hHeld => ?_); refine with_tabW spec_PriceSteps.tab13 spec_PriceSteps.bits13 (fun HT_ HW_ => ?_); generalize wr.drew = w38 at HO_12 HB hx138_0 hx138_1 hx138_2 hx138_3 hx138_4 hx138_5 hx139_0 hx139_1 hx139_2 hx139_3 hx139_4 hx139_5 hHeld ⊢; refine pure_ (i := 0) (N := some 59) (v := ?_) (a' := ?_) (rl_ true [1, 34]).toArray rfl rfl (any_of HT_.out (by kernel_rfl)) (fun _ _ _ h => h) (Or.inl ⟨by rfl, ?_⟩) ?_ ?_; rotate_left
                 ·intro w'; go_simp; (with_reducible rfl)
                 rotate_left
                 ·simp only [Act.put, sA, s0, sS, i64_w, i32_w]; rfl
                 refine pure_ (i := 1) (N := some 60) (v := ?_) (a' := ?_) (rl_ true [2, 33]).toArray rfl rfl (any_of HT_.out (by kernel_rfl)) (fun _ _ _ h => h) (Or.inl ⟨by rfl, ?_⟩) ?_ ?_; rotate_left
                 ·intro w'; go_simp; (with_reducible rfl)
                 rotate_left
                 ·simp only [Act.put, sA, s0, sS, i64_w, i32_w]; rfl
                 refine pure_ (i := 2) (N := some 61) (v := ?_) (a' := ?_) (rl_ true [3, 32]).toArray rfl rfl (any_of HT_.out (by kernel_rfl)) (fun _ _ _ h => h) (Or.inl ⟨by rfl, ?_⟩) ?_ ?_; rotate_left
                 ·intro w'; go_simp; (with_reducible rfl)
                 rotate_left
                 ·simp only [Act.put, sA, s0, sS, i64_w, i32_w]; rfl
                 refine pure_ (i := 3) (N := some 62) (v := ?_) (a' := ?_) (rl_ true [4, 31]).toArray rfl rfl (any_of HT_.out (by kernel_rfl)) (fun _ _ _ h => h) (Or.inl ⟨by rfl, ?_⟩) ?_ ?_; rotate_left
                 ·intro w'; go_simp; (with_reducible rfl)
                 rotate_left
                 ·simp only [Act.put, sA, s0, sS, i64_w, i32_w]; rfl
                 refine pure_ (i := 5) (N := some 64) (v := ?_) (a' := ?_) (rl_ true [4, 1, 1, 29]).toArray rfl rfl (any_of HT_.out (by kernel_rfl)) (fun _ _ _ h => h) (Or.inl ⟨by rfl, ?_⟩) ?_ ?_; rotate_left
                 ·intro w'; go_simp; (with_reducible rfl)
                 rotate_left
                 ·simp only [Act.put, sA, s0, sS, i64_w, i32_w]; rfl
                 refine take_ (i := 4) (N := some 63) (v := ?_) (a' := ?_) (rl_ true [6, 29]).toArray rfl rfl (take_ofW HT_.out HW_.out (by kernel_rfl)) (fun _ _ _ h => h) (Or.inl ⟨by rfl, ?_⟩) hHeld ?_ ?_; rotate_left
                 ·rintro w' ⟨s0, s1, s2, s3, s4, s5, s6, s7, s8, s9, s10, s11⟩; go_simp; (with_reducible rfl)
                 rotate_left
                 ·simp only [Act.put, sA, s0, sS, i64_w, i32_w]; rfl
                 refine pure_ (i := 6) (N := some 65) (v := ?_) (a' := ?_) (rl_ true [7, 28]).toArray rfl rfl (any_of HT_.out (by kernel_rfl)) (fun _ _ _ h => h) (Or.inl ⟨by rfl, ?_⟩) ?_ ?_; rotate_left
                 ·intro w'; go_simp; (with_reducible rfl)
                 rotate_left
                 ·simp only [Act.put, sA, s0, sS, i64_w, i32_w]; rfl
                 refine pure_ (i := 7) (N := some 66) (v := ?_) (a' := ?_) (rl_ true [8, 27]).toArray rfl rfl (any_of HT_.out (by kernel_rfl)) (fun _ _ _ h => h) (Or.inl ⟨by rfl, ?_⟩) ?_ ?_; rotate_left
                 ·intro w'; go_simp; (with_reducible rfl)
                 rotate_left
                 ·simp only [Act.put, sA, s0, sS, i64_w, i32_w]; rfl
                 refine pure_ (i := 8) (N := some 67) (v := ?_) (a' := ?_) (rl_ true [9, 26]).toArray rfl rfl (any_of HT_.out (by kernel_rfl)) (fun _ _ _ h => h) (Or.inl ⟨by rfl, ?_⟩) ?_ ?_; rotate_left
                 ·intro w'; go_simp; (with_reducible rfl)
                 rotate_left
                 ·simp only [Act.put, sA, s0, sS, i64_w, i32_w]; rfl
                 refine pure_ (i := 9) (N := some 68) (v := ?_) (a' := ?_) (rl_ true [10, 25]).toArray rfl rfl (any_of HT_.out (by kernel_rfl)) (fun _ _ _ h => h) (Or.inl ⟨by rfl, ?_⟩) ?_ ?_; rotate_left
                 ·intro w'; go_simp; (with_reducible rfl)
                 rotate_left
                 ·simp only [Act.put, sA, s0, sS, i64_w, i32_w]; rfl
                 refine pure_ (i := 10) (N := some 69) (v := ?_) (a' := ?_) (rl_ true [11, 24]).toArray rfl rfl (any_of HT_.out (by kernel_rfl)) (fun _ _ _ h => h) (Or.inl ⟨by rfl, ?_⟩) ?_ ?_; rotate_left
                 ·intro w'; go_simp; (with_reducible rfl)
                 rotate_left
                 ·simp only [Act.put, sA, s0, sS, i64_w, i32_w]; rfl
                 refine pure_ (i := 11) (N := some 70) (v := ?_) (a' := ?_) (rl_ true [12, 23]).toArray rfl rfl (any_of HT_.out (by kernel_rfl)) (fun _ _ _ h => h) (Or.inl ⟨by rfl, ?_⟩) ?_ ?_; rotate_left
                 ·intro w'; go_simp; (with_reducible rfl)
                 rotate_left
                 ·simp only [Act.put, sA, s0, sS, i64_w, i32_w]; rfl
                 refine pure_ (i := 13) (N := some 72) (v := ?_) (a' := ?_) (rl_ true [12, 1, 1, 21]).toArray rfl rfl (any_of HT_.out (by kernel_rfl)) (fun _ _ _ h => h) (Or.inl ⟨by rfl, ?_⟩) ?_ ?_; rotate_left
                 ·intro w'; go_simp; (with_reducible rfl)
                 rotate_left
                 ·simp only [Act.put, sA, s0, sS, i64_w, i32_w]; rfl
                 refine take_ (i := 12) (N := some 71) (v := ?_) (a' := ?_) (rl_ true [14, 21]).toArray rfl rfl (take_ofW HT_.out HW_.out (by kernel_rfl)) (fun _ _ _ h => h) (Or.inl ⟨by rfl, ?_⟩) hHeld ?_ ?_; rotate_left
                 ·rintro w' ⟨s0, s1, s2, s3, s4, s5, s6, s7, s8, s9, s10, s11⟩; go_simp; (with_reducible rfl)
                 rotate_left
                 ·simp only [Act.put, sA, s0, sS, i64_w, i32_w]; rfl
                 refine pure_ (i := 14) (N := some 73) (v := ?_) (a' := ?_) (rl_ true [15, 20]).toArray rfl rfl (any_of HT_.out (by kernel_rfl)) (fun _ _ _ h => h) (Or.inl ⟨by rfl, ?_⟩) ?_ ?_; rotate_left
                 ·intro w'; go_simp; (with_reducible rfl)
                 rotate_left
                 ·simp only [Act.put, sA, s0, sS, i64_w, i32_w]; rfl
                 refine pure_ (i := 15) (N := some 74) (v := ?_) (a' := ?_) (rl_ true [16, 19]).toArray rfl rfl (any_of HT_.out (by kernel_rfl)) (fun _ _ _ h => h) (Or.inl ⟨by rfl, ?_⟩) ?_ ?_; rotate_left
                 ·intro w'; go_simp; (with_reducible rfl)
                 rotate_left
                 ·simp only [Act.put, sA, s0, sS, i64_w, i32_w]; rfl
                 refine pure_ (i := 16) (N := some 75) (v := ?_) (a' := ?_) (rl_ true [17, 18]).toArray rfl rfl (any_of HT_.out (by kernel_rfl)) (fun _ _ _ h => h) (Or.inl ⟨by rfl, ?_⟩) ?_ ?_; rotate_left
                 ·intro w'; go_simp; (with_reducible rfl)
                 rotate_left
                 ·simp only [Act.put, sA, s0, sS, i64_w, i32_w]; rfl
                 refine pure_ (i := 17) (N := some 76) (v := undef) (a' := ?_) (rl_ true [18, 17]).toArray rfl rfl (any_of HT_.out (by kernel_rfl)) (fun _ _ _ h => h) (Or.inr ⟨by rfl, rfl⟩) ?_ ?_; rotate_left
                 ·simp only [Act.put, sA, s0, sS, i64_w, i32_w]; rfl
                 refine pure_ (i := 18) (N := some 77) (v := undef) (a' := ?_) (rl_ true [19, 16]).toArray rfl rfl (any_of HT_.out (by kernel_rfl)) (fun _ _ _ h => h) (Or.inr ⟨by rfl, rfl⟩) ?_ ?_; rotate_left
                 ·simp only [Act.put, sA, s0, sS, i64_w, i32_w]; rfl
                 refine pure_ (i := 19) (N := some 78) (v := undef) (a' := ?_) (rl_ true [20, 15]).toArray rfl rfl (any_of HT_.out (by kernel_rfl)) (fun _ _ _ h => h) (Or.inr ⟨by rfl, rfl⟩) ?_ ?_; rotate_left
                 ·simp only [Act.put, sA, s0, sS, i64_w, i32_w]; rfl
                 refine pure_ (i := 20) (N := some 79) (v := undef) (a' := ?_) (rl_ true [21, 14]).toArray rfl rfl (any_of HT_.out (by kernel_rfl)) (fun _ _ _ h => h) (Or.inr ⟨by rfl, rfl⟩) ?_ ?_; rotate_left
                 ·simp only [Act.put, sA, s0, sS, i64_w, i32_w]; rfl
                 refine pure_ (i := 21) (N := some 80) (v := undef) (a' := ?_) (rl_ true [22, 13]).toArray rfl rfl (any_of HT_.out (by kernel_rfl)) (fun _ _ _ h => h) (Or.inr ⟨by rfl, rfl⟩) ?_ ?_; rotate_left
                 ·simp only [Act.put, sA, s0, sS, i64_w, i32_w]; rfl
                 refine pure_ (i := 22) (N := some 81) (v := undef) (a' := ?_) (rl_ true [23, 12]).toArray rfl rfl (any_of HT_.out (by kernel_rfl)) (fun _ _ _ h => h) (Or.inr ⟨by rfl, rfl⟩) ?_ ?_; rotate_left
                 ·simp only [Act.put, sA, s0, sS, i64_w, i32_w]; rfl
                 refine pure_ (i := 23) (N := some 82) (v := undef) (a' := ?_) (rl_ true [24, 11]).toArray rfl rfl (any_of HT_.out (by kernel_rfl)) (fun _ _ _ h => h) (Or.inr ⟨by rfl, rfl⟩) ?_ ?_; rotate_left
                 ·simp only [Act.put, sA, s0, sS, i64_w, i32_w]; rfl
                 refine pure_ (i := 24) (N := some 83) (v := undef) (a' := ?_) (rl_ true [25, 10]).toArray rfl rfl (any_of HT_.out (by kernel_rfl)) (fun _ _ _ h => h) (Or.inr ⟨by rfl, rfl⟩) ?_ ?_; rotate_left
                 ·simp only [Act.put, sA, s0, sS, i64_w, i32_w]; rfl
                 refine pure_ (i := 25) (N := some 84) (v := undef) (a' := ?_) (rl_ true [26, 9]).toArray rfl rfl (any_of HT_.out (by kernel_rfl)) (fun _ _ _ h => h) (Or.inr ⟨by rfl, rfl⟩) ?_ ?_; rotate_left
                 ·simp only [Act.put, sA, s0, sS, i64_w, i32_w]; rfl
                 refine pure_ (i := 26) (N := some 85) (v := undef) (a' := ?_) (rl_ true [27, 8]).toArray rfl rfl (any_of HT_.out (by kernel_rfl)) (fun _ _ _ h => h) (Or.inr ⟨by rfl, rfl⟩) ?_ ?_; rotate_left
                 ·simp only [Act.put, sA, s0, sS, i64_w, i32_w]; rfl
                 refine pure_ (i := 27) (N := some 86) (v := undef) (a' := ?_) (rl_ true [28, 7]).toArray rfl rfl (any_of HT_.out (by kernel_rfl)) (fun _ _ _ h => h) (Or.inr ⟨by rfl, rfl⟩) ?_ ?_; rotate_left
                 ·simp only [Act.put, sA, s0, sS, i64_w, i32_w]; rfl
                 refine pure_ (i := 28) (N := some 87) (v := undef) (a' := ?_) (rl_ true [29, 6]).toArray rfl rfl (any_of HT_.out (by kernel_rfl)) (fun _ _ _ h => h) (Or.inr ⟨by rfl, rfl⟩) ?_ ?_; rotate_left
                 ·simp only [Act.put, sA, s0, sS, i64_w, i32_w]; rfl
                 refine pure_ (i := 29) (N := some 88) (v := undef) (a' := ?_) (rl_ true [30, 5]).toArray rfl rfl (any_of HT_.out (by kernel_rfl)) (fun _ _ _ h => h) (Or.inr ⟨by rfl, rfl⟩) ?_ ?_; rotate_left
                 ·simp only [Act.put, sA, s0, sS, i64_w, i32_w]; rfl
                 refine pure_ (i := 30) (N := some 89) (v := undef) (a' := ?_) (rl_ true [31, 4]).toArray rfl rfl (any_of HT_.out (by kernel_rfl)) (fun _ _ _ h => h) (Or.inr ⟨by rfl, rfl⟩) ?_ ?_; rotate_left
                 ·simp only [Act.put, sA, s0, sS, i64_w, i32_w]; rfl
                 refine pure_ (i := 31) (N := some 90) (v := undef) (a' := ?_) (rl_ true [32, 3]).toArray rfl rfl (any_of HT_.out (by kernel_rfl)) (fun _ _ _ h => h) (Or.inr ⟨by rfl, rfl⟩) ?_ ?_; rotate_left
                 ·simp only [Act.put, sA, s0, sS, i64_w, i32_w]; rfl
                 refine pure_ (i := 32) (N := some 91) (v := undef) (a' := ?_) (rl_ true [33, 2]).toArray rfl rfl (any_of HT_.out (by kernel_rfl)) (fun _ _ _ h => h) (Or.inr ⟨by rfl, rfl⟩) ?_ ?_; rotate_left
                 ·simp only [Act.put, sA, s0, sS, i64_w, i32_w]; rfl
                 refine pure_ (i := 33) (N := some 92) (v := undef) (a' := ?_) (rl_ true [34, 1]).toArray rfl rfl (any_of HT_.out (by kernel_rfl)) (fun _ _ _ h => h) (Or.inr ⟨by rfl, rfl⟩) ?_ ?_; rotate_left
                 ·simp only [Act.put, sA, s0, sS, i64_w, i32_w]; rfl
                 refine pure_ (i := 34) (N := some 93) (v := ?_) (a' := ?_) (rl_ true [35]).toArray rfl rfl (any_of HT_.out (by kernel_rfl)) (fun _ _ _ h => h) (Or.inl ⟨by rfl, ?_⟩) ?_ ?_; rotate_left
                 ·intro w'; go_simp; (with_reducible rfl)
                 rotate_left
                 ·simp only [Act.put, sA, s0, sS, i64_w, i32_w]; rfl
                 refine done_ (done_of HT_.out (by kernel_rfl)) ?_
                 try go_wp2
                 go_meet
                 case rel => exact ⟨_, (false), (by first | rfl | (simp; done) | (simp [*]; done)), H', ⟨by have := HJ11.out; have := HK2.out; have := HK3.out; first | omega | exact Nat.le_refl _⟩, ⟨by (with_reducible repeat (first | apply Kd.R_alloc | apply Kd.R_drewN | apply Kd.R_drew)); exact HO_12.out⟩, ⟨qb HB⟩⟩
               ·rw [if_neg c30] at H; have c30b0 : decide (((rd_T40 x12_2 (ji23)).f0) < ((rd_T44 l0 x15_3).f3)) = false := decide_eq_false c30; clear c30; have H' := Aside0.mk H; clear H
                try go_wp2
                have n0_ := Aside0.mk (Kd.R_drew HO_12.out); have n1_ := Aside0.mk (below_drew1 HB.out); clear HO_12; clear HB; have HO_12 := n0_; have HB := n1_; clear n0_ n1_; have p138 : 0 ≤ (x15_3 : Int) := of_decide_eq_true (by first | (with_reducible assumption) | assumption); have q138 : x15_3 < (l0.length : Int) := of_decide_eq_true (by first | (with_reducible assumption) | assumption); obtain ⟨ad138, e138, hx138_0, hx138_1, hx138_2, hx138_3, hx138_4, hx138_5⟩ := at_T44 HR0.out x15_3 p138 q138; have hw138_5 := hx138_5; have hw138_4 := hx138_4; have hw138_3 := hx138_3; have hw138_2 := hx138_2; have hw138_1 := hx138_1; have hw138_0 := hx138_0
                cases e138
                replace hx138_0 := (HB.out.cell (World.block_lt_of_cell? w _ hx138_0)).trans hx138_0; replace hx138_1 := (HB.out.cell (World.block_lt_of_cell? w _ hx138_1)).trans hx138_1; replace hx138_2 := (HB.out.cell (World.block_lt_of_cell? w _ hx138_2)).trans hx138_2; replace hx138_3 := (HB.out.cell (World.block_lt_of_cell? w _ hx138_3)).trans hx138_3; replace hx138_4 := (HB.out.cell (World.block_lt_of_cell? w _ hx138_4)).trans hx138_4; replace hx138_5 := (HB.out.cell (World.block_lt_of_cell? w _ hx138_5)).trans hx138_5; replace p138 := eq_true p138; replace q138 := eq_true q138; refine start_ (n := 35) (S := fun w' => w'.cell? (ad138.add ((x15_3).toNat * 6)) = some (.string ((rd_T44 l0 x15_3).f0)) ∧ w'.cell? ⟨(ad138.add ((x15_3).toNat * 6)).block, (ad138.add ((x15_3).toNat * 6)).off + 1, none⟩ = some (.string ((rd_T44 l0 x15_3).f1)) ∧ w'.cell? ⟨(ad138.add ((x15_3).toNat * 6)).block, (ad138.add ((x15_3).toNat * 6)).off + 2, none⟩ = some (.int .i64 ((rd_T44 l0 x15_3).f2)) ∧ w'.cell? ⟨(ad138.add ((x15_3).toNat * 6)).block, (ad138.add ((x15_3).toNat * 6)).off + 3, none⟩ = some (.int .i64 ((rd_T44 l0 x15_3).f3)) ∧ w'.cell? ⟨(ad138.add ((x15_3).toNat * 6)).block, (ad138.add ((x15_3).toNat * 6)).off + 4, none⟩ = some (.int .i64 ((rd_T44 l0 x15_3).f4)) ∧ w'.cell? ⟨(ad138.add ((x15_3).toNat * 6)).block, (ad138.add ((x15_3).toNat * 6)).off + 5, none⟩ = some (.int .i64 ((rd_T44 l0 x15_3).f5))) (ds := []) (rl_ true [0, 35]).toArray (by kernel_rfl) rfl rfl ⟨((HB.out.cell (World.block_lt_of_cell? w _ hw138_0)).trans hw138_0), ((HB.out.cell (World.block_lt_of_cell? w _ hw138_1)).trans hw138_1), ((HB.out.cell (World.block_lt_of_cell? w _ hw138_2)).trans hw138_2), ((HB.out.cell (World.block_lt_of_cell? w _ hw138_3)).trans hw138_3), ((HB.out.cell (World.block_lt_of_cell? w _ hw138_4)).trans hw138_4), ((HB.out.cell (World.block_lt_of_cell? w _ hw138_5)).trans hw138_5)⟩ (fun hHeld => ?_); refine with_tabW spec_PriceSteps.tab13 spec_PriceSteps.bits13 (fun HT_ HW_ => ?_); generalize wr.drew = w39 at HO_12 HB hx138_0 hx138_1 hx138_2 hx138_3 hx138_4 hx138_5 hHeld ⊢; refine pure_ (i := 0) (N := some 59) (v := ?_) (a' := ?_) (rl_ true [1, 34]).toArray rfl rfl (any_of HT_.out (by kernel_rfl)) (fun _ _ _ h => h) (Or.inl ⟨by rfl, ?_⟩) ?_ ?_; rotate_left
                ·intro w'; go_simp; (with_reducible rfl)
                rotate_left
                ·simp only [Act.put, sA, s0, sS, i64_w, i32_w]; rfl
                refine pure_ (i := 1) (N := some 60) (v := ?_) (a' := ?_) (rl_ true [2, 33]).toArray rfl rfl (any_of HT_.out (by kernel_rfl)) (fun _ _ _ h => h) (Or.inl ⟨by rfl, ?_⟩) ?_ ?_; rotate_left
                ·intro w'; go_simp; (with_reducible rfl)
                rotate_left
                ·simp only [Act.put, sA, s0, sS, i64_w, i32_w]; rfl
                refine pure_ (i := 2) (N := some 61) (v := ?_) (a' := ?_) (rl_ true [3, 32]).toArray rfl rfl (any_of HT_.out (by kernel_rfl)) (fun _ _ _ h => h) (Or.inl ⟨by rfl, ?_⟩) ?_ ?_; rotate_left
                ·intro w'; go_simp; (with_reducible rfl)
                rotate_left
                ·simp only [Act.put, sA, s0, sS, i64_w, i32_w]; rfl
                refine pure_ (i := 3) (N := some 62) (v := ?_) (a' := ?_) (rl_ true [4, 31]).toArray rfl rfl (any_of HT_.out (by kernel_rfl)) (fun _ _ _ h => h) (Or.inl ⟨by rfl, ?_⟩) ?_ ?_; rotate_left
                ·intro w'; go_simp; (with_reducible rfl)
                rotate_left
                ·simp only [Act.put, sA, s0, sS, i64_w, i32_w]; rfl
                refine pure_ (i := 5) (N := some 64) (v := ?_) (a' := ?_) (rl_ true [4, 1, 1, 29]).toArray rfl rfl (any_of HT_.out (by kernel_rfl)) (fun _ _ _ h => h) (Or.inl ⟨by rfl, ?_⟩) ?_ ?_; rotate_left
                ·intro w'; go_simp; (with_reducible rfl)
                rotate_left
                ·simp only [Act.put, sA, s0, sS, i64_w, i32_w]; rfl
                refine take_ (i := 4) (N := some 63) (v := ?_) (a' := ?_) (rl_ true [6, 29]).toArray rfl rfl (take_ofW HT_.out HW_.out (by kernel_rfl)) (fun _ _ _ h => h) (Or.inl ⟨by rfl, ?_⟩) hHeld ?_ ?_; rotate_left
                ·rintro w' ⟨s0, s1, s2, s3, s4, s5⟩; go_simp; (with_reducible rfl)
                rotate_left
                ·simp only [Act.put, sA, s0, sS, i64_w, i32_w]; rfl
                refine pure_ (i := 6) (N := some 65) (v := ?_) (a' := ?_) (rl_ true [7, 28]).toArray rfl rfl (any_of HT_.out (by kernel_rfl)) (fun _ _ _ h => h) (Or.inl ⟨by rfl, ?_⟩) ?_ ?_; rotate_left
                ·intro w'; go_simp; (with_reducible rfl)
                rotate_left
                ·simp only [Act.put, sA, s0, sS, i64_w, i32_w]; rfl
                refine pure_ (i := 7) (N := some 66) (v := ?_) (a' := ?_) (rl_ true [8, 27]).toArray rfl rfl (any_of HT_.out (by kernel_rfl)) (fun _ _ _ h => h) (Or.inl ⟨by rfl, ?_⟩) ?_ ?_; rotate_left
                ·intro w'; go_simp; (with_reducible rfl)
                rotate_left
                ·simp only [Act.put, sA, s0, sS, i64_w, i32_w]; rfl
                refine pure_ (i := 8) (N := some 67) (v := undef) (a' := ?_) (rl_ true [9, 26]).toArray rfl rfl (any_of HT_.out (by kernel_rfl)) (fun _ _ _ h => h) (Or.inr ⟨by rfl, rfl⟩) ?_ ?_; rotate_left
                ·simp only [Act.put, sA, s0, sS, i64_w, i32_w]; rfl
                refine pure_ (i := 9) (N := some 68) (v := undef) (a' := ?_) (rl_ true [10, 25]).toArray rfl rfl (any_of HT_.out (by kernel_rfl)) (fun _ _ _ h => h) (Or.inr ⟨by rfl, rfl⟩) ?_ ?_; rotate_left
                ·simp only [Act.put, sA, s0, sS, i64_w, i32_w]; rfl
                refine pure_ (i := 10) (N := some 69) (v := undef) (a' := ?_) (rl_ true [11, 24]).toArray rfl rfl (any_of HT_.out (by kernel_rfl)) (fun _ _ _ h => h) (Or.inr ⟨by rfl, rfl⟩) ?_ ?_; rotate_left
                ·simp only [Act.put, sA, s0, sS, i64_w, i32_w]; rfl
                refine pure_ (i := 11) (N := some 70) (v := undef) (a' := ?_) (rl_ true [12, 23]).toArray rfl rfl (any_of HT_.out (by kernel_rfl)) (fun _ _ _ h => h) (Or.inr ⟨by rfl, rfl⟩) ?_ ?_; rotate_left
                ·simp only [Act.put, sA, s0, sS, i64_w, i32_w]; rfl
                refine pure_ (i := 12) (N := some 71) (v := undef) (a' := ?_) (rl_ true [13, 22]).toArray rfl rfl (any_of HT_.out (by kernel_rfl)) (fun _ _ _ h => h) (Or.inr ⟨by rfl, rfl⟩) ?_ ?_; rotate_left
                ·simp only [Act.put, sA, s0, sS, i64_w, i32_w]; rfl
                refine pure_ (i := 13) (N := some 72) (v := undef) (a' := ?_) (rl_ true [14, 21]).toArray rfl rfl (any_of HT_.out (by kernel_rfl)) (fun _ _ _ h => h) (Or.inr ⟨by rfl, rfl⟩) ?_ ?_; rotate_left
                ·simp only [Act.put, sA, s0, sS, i64_w, i32_w]; rfl
                refine pure_ (i := 14) (N := some 73) (v := undef) (a' := ?_) (rl_ true [15, 20]).toArray rfl rfl (any_of HT_.out (by kernel_rfl)) (fun _ _ _ h => h) (Or.inr ⟨by rfl, rfl⟩) ?_ ?_; rotate_left
                ·simp only [Act.put, sA, s0, sS, i64_w, i32_w]; rfl
                refine pure_ (i := 15) (N := some 74) (v := ?_) (a' := ?_) (rl_ true [16, 19]).toArray rfl rfl (any_of HT_.out (by kernel_rfl)) (fun _ _ _ h => h) (Or.inl ⟨by rfl, ?_⟩) ?_ ?_; rotate_left
                ·intro w'; go_simp; (with_reducible rfl)
                rotate_left
                ·simp only [Act.put, sA, s0, sS, i64_w, i32_w]; rfl
                refine pure_ (i := 16) (N := some 75) (v := ?_) (a' := ?_) (rl_ true [17, 18]).toArray rfl rfl (any_of HT_.out (by kernel_rfl)) (fun _ _ _ h => h) (Or.inl ⟨by rfl, ?_⟩) ?_ ?_; rotate_left
                ·intro w'; go_simp; (with_reducible rfl)
                rotate_left
                ·simp only [Act.put, sA, s0, sS, i64_w, i32_w]; rfl
                refine pure_ (i := 17) (N := some 76) (v := undef) (a' := ?_) (rl_ true [18, 17]).toArray rfl rfl (any_of HT_.out (by kernel_rfl)) (fun _ _ _ h => h) (Or.inr ⟨by rfl, rfl⟩) ?_ ?_; rotate_left
                ·simp only [Act.put, sA, s0, sS, i64_w, i32_w]; rfl
                refine pure_ (i := 18) (N := some 77) (v := undef) (a' := ?_) (rl_ true [19, 16]).toArray rfl rfl (any_of HT_.out (by kernel_rfl)) (fun _ _ _ h => h) (Or.inr ⟨by rfl, rfl⟩) ?_ ?_; rotate_left
                ·simp only [Act.put, sA, s0, sS, i64_w, i32_w]; rfl
                refine pure_ (i := 19) (N := some 78) (v := undef) (a' := ?_) (rl_ true [20, 15]).toArray rfl rfl (any_of HT_.out (by kernel_rfl)) (fun _ _ _ h => h) (Or.inr ⟨by rfl, rfl⟩) ?_ ?_; rotate_left
                ·simp only [Act.put, sA, s0, sS, i64_w, i32_w]; rfl
                refine pure_ (i := 20) (N := some 79) (v := undef) (a' := ?_) (rl_ true [21, 14]).toArray rfl rfl (any_of HT_.out (by kernel_rfl)) (fun _ _ _ h => h) (Or.inr ⟨by rfl, rfl⟩) ?_ ?_; rotate_left
                ·simp only [Act.put, sA, s0, sS, i64_w, i32_w]; rfl
                refine pure_ (i := 21) (N := some 80) (v := undef) (a' := ?_) (rl_ true [22, 13]).toArray rfl rfl (any_of HT_.out (by kernel_rfl)) (fun _ _ _ h => h) (Or.inr ⟨by rfl, rfl⟩) ?_ ?_; rotate_left
                ·simp only [Act.put, sA, s0, sS, i64_w, i32_w]; rfl
                refine pure_ (i := 22) (N := some 81) (v := undef) (a' := ?_) (rl_ true [23, 12]).toArray rfl rfl (any_of HT_.out (by kernel_rfl)) (fun _ _ _ h => h) (Or.inr ⟨by rfl, rfl⟩) ?_ ?_; rotate_left
                ·simp only [Act.put, sA, s0, sS, i64_w, i32_w]; rfl
                refine pure_ (i := 23) (N := some 82) (v := undef) (a' := ?_) (rl_ true [24, 11]).toArray rfl rfl (any_of HT_.out (by kernel_rfl)) (fun _ _ _ h => h) (Or.inr ⟨by rfl, rfl⟩) ?_ ?_; rotate_left
                ·simp only [Act.put, sA, s0, sS, i64_w, i32_w]; rfl
                refine pure_ (i := 24) (N := some 83) (v := undef) (a' := ?_) (rl_ true [25, 10]).toArray rfl rfl (any_of HT_.out (by kernel_rfl)) (fun _ _ _ h => h) (Or.inr ⟨by rfl, rfl⟩) ?_ ?_; rotate_left
                ·simp only [Act.put, sA, s0, sS, i64_w, i32_w]; rfl
                refine pure_ (i := 25) (N := some 84) (v := undef) (a' := ?_) (rl_ true [26, 9]).toArray rfl rfl (any_of HT_.out (by kernel_rfl)) (fun _ _ _ h => h) (Or.inr ⟨by rfl, rfl⟩) ?_ ?_; rotate_left
                ·simp only [Act.put, sA, s0, sS, i64_w, i32_w]; rfl
                refine pure_ (i := 26) (N := some 85) (v := undef) (a' := ?_) (rl_ true [27, 8]).toArray rfl rfl (any_of HT_.out (by kernel_rfl)) (fun _ _ _ h => h) (Or.inr ⟨by rfl, rfl⟩) ?_ ?_; rotate_left
                ·simp only [Act.put, sA, s0, sS, i64_w, i32_w]; rfl
                refine pure_ (i := 27) (N := some 86) (v := undef) (a' := ?_) (rl_ true [28, 7]).toArray rfl rfl (any_of HT_.out (by kernel_rfl)) (fun _ _ _ h => h) (Or.inr ⟨by rfl, rfl⟩) ?_ ?_; rotate_left
                ·simp only [Act.put, sA, s0, sS, i64_w, i32_w]; rfl
                refine pure_ (i := 28) (N := some 87) (v := undef) (a' := ?_) (rl_ true [29, 6]).toArray rfl rfl (any_of HT_.out (by kernel_rfl)) (fun _ _ _ h => h) (Or.inr ⟨by rfl, rfl⟩) ?_ ?_; rotate_left
                ·simp only [Act.put, sA, s0, sS, i64_w, i32_w]; rfl
                refine pure_ (i := 29) (N := some 88) (v := undef) (a' := ?_) (rl_ true [30, 5]).toArray rfl rfl (any_of HT_.out (by kernel_rfl)) (fun _ _ _ h => h) (Or.inr ⟨by rfl, rfl⟩) ?_ ?_; rotate_left
                ·simp only [Act.put, sA, s0, sS, i64_w, i32_w]; rfl
                refine pure_ (i := 30) (N := some 89) (v := undef) (a' := ?_) (rl_ true [31, 4]).toArray rfl rfl (any_of HT_.out (by kernel_rfl)) (fun _ _ _ h => h) (Or.inr ⟨by rfl, rfl⟩) ?_ ?_; rotate_left
                ·simp only [Act.put, sA, s0, sS, i64_w, i32_w]; rfl
                refine pure_ (i := 31) (N := some 90) (v := undef) (a' := ?_) (rl_ true [32, 3]).toArray rfl rfl (any_of HT_.out (by kernel_rfl)) (fun _ _ _ h => h) (Or.inr ⟨by rfl, rfl⟩) ?_ ?_; rotate_left
                ·simp only [Act.put, sA, s0, sS, i64_w, i32_w]; rfl
                refine pure_ (i := 32) (N := some 91) (v := undef) (a' := ?_) (rl_ true [33, 2]).toArray rfl rfl (any_of HT_.out (by kernel_rfl)) (fun _ _ _ h => h) (Or.inr ⟨by rfl, rfl⟩) ?_ ?_; rotate_left
                ·simp only [Act.put, sA, s0, sS, i64_w, i32_w]; rfl
                refine pure_ (i := 33) (N := some 92) (v := undef) (a' := ?_) (rl_ true [34, 1]).toArray rfl rfl (any_of HT_.out (by kernel_rfl)) (fun _ _ _ h => h) (Or.inr ⟨by rfl, rfl⟩) ?_ ?_; rotate_left
                ·simp only [Act.put, sA, s0, sS, i64_w, i32_w]; rfl
                refine pure_ (i := 34) (N := some 93) (v := ?_) (a' := ?_) (rl_ true [35]).toArray rfl rfl (any_of HT_.out (by kernel_rfl)) (fun _ _ _ h => h) (Or.inl ⟨by rfl, ?_⟩) ?_ ?_; rotate_left
                ·intro w'; go_simp; (with_reducible rfl)
                rotate_left
                ·simp only [Act.put, sA, s0, sS, i64_w, i32_w]; rfl
                refine done_ (done_of HT_.out (by kernel_rfl)) ?_
                try go_wp2
                go_meet
                case rel => exact ⟨_, (false), (by first | rfl | (simp; done) | (simp [*]; done)), H', ⟨by have := HJ11.out; have := HK2.out; have := HK3.out; first | omega | exact Nat.le_refl _⟩, ⟨by (with_reducible repeat (first | apply Kd.R_alloc | apply Kd.R_drewN | apply Kd.R_drew)); exact HO_12.out⟩, ⟨qb HB⟩⟩
              ·rw [if_neg c29] at H; exact absurd H (by simp)
             case rest =>
              clear HC28; (try clear p1); (try clear q1); (try clear hx1); (try clear c2); (try clear p2); (try clear c3); (try clear p13); (try clear q13); (try clear hx13); (try clear c22); (try clear c29); (try clear c30); (try clear c30b0); (try clear c31); (try clear c31b0); (try clear c34); (try clear c35); (try clear hx138_0); (try clear hx138_1); (try clear hx138_2); (try clear hx138_3); (try clear hx138_4); (try clear hx138_5); (try clear hx139_0); (try clear hx139_1); (try clear hx139_2); (try clear hx139_3); (try clear hx139_4); (try clear hx139_5); (try clear p138); (try clear p139); (try clear q138); (try clear q139); obtain ⟨kq, x93_27, rfl, HA, HJ27, HO_12, HB⟩ := hcut
              cases kq with
              | zero => exact absurd HA.out (by simp [spec_PriceSteps.j3])
              | succ kj27 =>
               have H := HA.out; clear HA; simp only [spec_PriceSteps.j3] at H; have HC40 := Aside0.mk H; clear H
               go_upto_if 93 with (fail)
               go_cut [13] (fun v13 wc => ∃ (kq : Nat) (x13_39 : Int), v13 = .int .i64 x13_39 ∧ Aside0 (spec_PriceSteps.j4 kq l0 a1 a2 a4 x12_2 x13_39 ((rd_T40 x12_2 (ji23)).f0) x15_3 = some (r1, r2)) ∧ Aside0 (kq ≤ kj27) ∧ Aside0 (Kd.R k40 40 wc w.heap.size (fun _ => True) (.slice (some ad137) x12_2.length co26) x12_2) ∧ Aside0 (Below w.heap.size w wc))
               case first =>
                have H := HC40.out; clear HC40; by_cases c41 : x93_27 = true
                ·subst c41
                 have H1 : (if 0 ≤ x15_3 then (if x15_3 < (l0.length : Int) then (spec_PriceSteps.j4 kj27 l0 a1 a2 a4 x12_2 ((rd_T44 l0 x15_3).f3) ((rd_T40 x12_2 (ji23)).f0) x15_3) else (none)) else (none)) = some (r1, r2) := by rw [if_pos rfl] at H; exact H
                 clear H; have H := H1; clear H1; by_cases c42 : 0 ≤ x15_3
                 ·rw [if_pos c42] at H; have c42b0 : decide (0 ≤ x15_3) = true := decide_eq_true c42; clear c42
                  (first | rw [c42b0] | (simp only [i64_w, i32_w]; rw [c42b0]) | skip)
                  by_cases c43 : x15_3 < (l0.length : Int)
                  ·rw [if_pos c43] at H; have c43b0 : decide (x15_3 < (l0.length : Int)) = true := decide_eq_true c43; clear c43; have H' := Aside0.mk H; clear H; have p143 : 0 ≤ (x15_3 : Int) := of_decide_eq_true (by first | (with_reducible assumption) | assumption); have q143 : x15_3 < (l0.length : Int) := of_decide_eq_true (by first | (with_reducible assumption) | assumption); obtain ⟨ad143, e143, hx143_0, hx143_1, hx143_2, hx143_3, hx143_4, hx143_5⟩ := at_T44 HR0.out x15_3 p143 q143
                   cases e143
                   replace hx143_0 := (HB.out.cell (World.block_lt_of_cell? w _ hx143_0)).trans hx143_0; replace hx143_1 := (HB.out.cell (World.block_lt_of_cell? w _ hx143_1)).trans hx143_1; replace hx143_2 := (HB.out.cell (World.block_lt_of_cell? w _ hx143_2)).trans hx143_2; replace hx143_3 := (HB.out.cell (World.block_lt_of_cell? w _ hx143_3)).trans hx143_3; replace hx143_4 := (HB.out.cell (World.block_lt_of_cell? w _ hx143_4)).trans hx143_4; replace hx143_5 := (HB.out.cell (World.block_lt_of_cell? w _ hx143_5)).trans hx143_5; replace p143 := eq_true p143; replace q143 := eq_true q143; go_wp2
                   go_meet
                   case rel => exact ⟨_, ((rd_T44 l0 x15_3).f3), (by first | rfl | (simp; done) | (simp [*]; done)), H', ⟨by have := HJ11.out; have := HK2.out; have := HK3.out; have := HJ27.out; first | omega | exact Nat.le_refl _⟩, ⟨by (with_reducible repeat (first | apply Kd.R_alloc | apply Kd.R_drewN | apply Kd.R_drew)); exact HO_12.out⟩, ⟨qb HB⟩⟩
                  ·rw [if_neg c43] at H; exact absurd H (by simp)
                 ·rw [if_neg c42] at H; exact absurd H (by simp)
                ·replace c41 := Bool.eq_false_iff.mpr c41; subst c41
                 have H1 : (spec_PriceSteps.j4 kj27 l0 a1 a2 a4 x12_2 x13_3 ((rd_T40 x12_2 (ji23)).f0) x15_3) = some (r1, r2) := by rw [if_neg (show ¬ (false = true) by decide)] at H; exact H
                 clear H; have H := H1; clear H1; have H' := Aside0.mk H; clear H; go_wp2
                 go_meet
                 case rel => exact ⟨_, (x13_3), (by first | rfl | (simp; done) | (simp [*]; done)), H', ⟨by have := HJ11.out; have := HK2.out; have := HK3.out; have := HJ27.out; first | omega | exact Nat.le_refl _⟩, ⟨by (with_reducible repeat (first | apply Kd.R_alloc | apply Kd.R_drewN | apply Kd.R_drew)); exact HO_12.out⟩, ⟨qb HB⟩⟩
               case rest =>
                clear HC40; (try clear p1); (try clear q1); (try clear hx1); (try clear c2); (try clear p2); (try clear c3); (try clear c4); (try clear p13); (try clear q13); (try clear hx13); (try clear p14); (try clear q14); (try clear hx14); (try clear c22); (try clear c29); (try clear c30); (try clear c30b0); (try clear c31); (try clear c31b0); (try clear c34); (try clear c35); (try clear c41); (try clear c42); (try clear c42b0); (try clear c43); (try clear c43b0); (try clear hx138_0); (try clear hx138_1); (try clear hx138_2); (try clear hx138_3); (try clear hx138_4); (try clear hx138_5); (try clear hx139_0); (try clear hx139_1); (try clear hx139_2); (try clear hx139_3); (try clear hx139_4); (try clear hx139_5); (try clear hx143_0); (try clear hx143_1); (try clear hx143_2); (try clear hx143_3); (try clear hx143_4); (try clear hx143_5); (try clear p1); (try clear p13); (try clear p138); (try clear p139); (try clear p143); (try clear p2); (try clear q1); (try clear q13); (try clear q138); (try clear q139); (try clear q143); obtain ⟨kq, x13_39, rfl, HA, HJ39, HO_12, HB⟩ := hcut
                cases kq with
                | zero => exact absurd HA.out (by simp [spec_PriceSteps.j4])
                | succ kj39 =>
                 have H := HA.out; clear HA; simp only [spec_PriceSteps.j4] at H; have HC44 := Aside0.mk H; clear H
                 go_upto_region 15 with (fail)
                 go_cut [133] (fun v133 wc => ∃ (kq : Nat) (x133_43 : Bool), v133 = .bool x133_43 ∧ Aside0 (spec_PriceSteps.j5 kq l0 a1 a2 a4 x12_2 x13_39 ((rd_T40 x12_2 (ji23)).f0) x15_3 x133_43 = some (r1, r2)) ∧ Aside0 (kq ≤ kj39) ∧ Aside0 (Kd.R k40 40 wc w.heap.size (fun _ => True) (.slice (some ad137) x12_2.length co26) x12_2) ∧ Aside0 (Below w.heap.size w wc))
                 case first =>
                  have H := HC44.out; clear HC44; by_cases c45 : 0 ≤ x15_3
                  ·rw [if_pos c45] at H; have c45b0 : decide (0 ≤ x15_3) = true := decide_eq_true c45; clear c45
                   (first | rw [c45b0] | (simp only [i64_w, i32_w]; rw [c45b0]) | skip)
                   by_cases c46 : x15_3 < (l0.length : Int)
                   ·rw [if_pos c46] at H; have c46b0 : decide (x15_3 < (l0.length : Int)) = true := decide_eq_true c46; clear c46; by_cases c47 : ((rd_T44 l0 x15_3).f4) > ((rd_T40 x12_2 (ji23)).f0)
                    ·rw [if_pos c47] at H; have c47b0 : decide (((rd_T40 x12_2 (ji23)).f0) < ((rd_T44 l0 x15_3).f4)) = true := decide_eq_true c47; clear c47; by_cases c48 : ((rd_T44 l0 x15_3).f4) < x13_39
                     ·rw [if_pos c48] at H; have c48b0 : decide (((rd_T44 l0 x15_3).f4) < x13_39) = true := decide_eq_true c48; clear c48; replace H := Option.bind_eq_some_iff.mp H; obtain ⟨t147, A490, H⟩ := H; replace H : (if 0 ≤ (wrap64 ((x12_2.length : Int) - 1)) then (if (wrap64 ((x12_2.length : Int) - 1)) < (x12_2.length : Int) then (spec_PriceSteps.j5 kj39 l0 a1 a2 a4 x12_2 x13_39 ((rd_T40 x12_2 (ji23)).f0) x15_3 (t147 != ((rd_T40 x12_2 (wrap64 ((x12_2.length : Int) - 1))).f1))) else (none)) else (none)) = some (r1, r2) := H; have A49 := Aside0.mk A490; clear A490; obtain ⟨ji50, hji50⟩ : ∃ j_ : Int, (wrap64 ((x12_2.length : Int) - 1)) = j_ := ⟨_, rfl⟩
                      replace H : (if 0 ≤ (ji50) then (if (ji50) < (x12_2.length : Int) then (spec_PriceSteps.j5 kj39 l0 a1 a2 a4 x12_2 x13_39 ((rd_T40 x12_2 (ji23)).f0) x15_3 (t147 != ((rd_T40 x12_2 (ji50)).f1))) else (none)) else (none)) = some (r1, r2) := by first | (rw [hji50] at H; exact H) | (simp only [hji50] at H ⊢; exact H)
                      (try rw [hji50] at A49)
                      have hji50w : (IntKind.i64.wrap ((x12_2.length : Int) - 1)) = ji50 := (i64_w _).trans hji50; (try clear hji23w); (try clear hji23); (try clear hji33w); (try clear hji33); by_cases c51 : 0 ≤ (ji50)
                      ·rw [if_pos c51] at H; have c51b0 : decide (0 ≤ (ji50)) = true := decide_eq_true c51; clear c51; by_cases c52 : (ji50) < (x12_2.length : Int)
                       ·rw [if_pos c52] at H; have c52b0 : decide ((ji50) < (x12_2.length : Int)) = true := decide_eq_true c52; clear c52; have H' := Aside0.mk H; clear H
                        try go_wp2
                        have n0_ := Aside0.mk (Kd.R_drew HO_12.out); have n1_ := Aside0.mk (below_drew1 HB.out); clear HO_12; clear HB; have HO_12 := n0_; have HB := n1_; clear n0_ n1_; have p144 : 0 ≤ (x15_3 : Int) := of_decide_eq_true (by first | (with_reducible assumption) | assumption); have q144 : x15_3 < (l0.length : Int) := of_decide_eq_true (by first | (with_reducible assumption) | assumption); obtain ⟨ad144, e144, hx144_0, hx144_1, hx144_2, hx144_3, hx144_4, hx144_5⟩ := at_T44 HR0.out x15_3 p144 q144; have hw144_5 := hx144_5; have hw144_4 := hx144_4; have hw144_3 := hx144_3; have hw144_2 := hx144_2; have hw144_1 := hx144_1; have hw144_0 := hx144_0
                        cases e144
                        replace hx144_0 := (HB.out.cell (World.block_lt_of_cell? w _ hx144_0)).trans hx144_0; replace hx144_1 := (HB.out.cell (World.block_lt_of_cell? w _ hx144_1)).trans hx144_1; replace hx144_2 := (HB.out.cell (World.block_lt_of_cell? w _ hx144_2)).trans hx144_2; replace hx144_3 := (HB.out.cell (World.block_lt_of_cell? w _ hx144_3)).trans hx144_3; replace hx144_4 := (HB.out.cell (World.block_lt_of_cell? w _ hx144_4)).trans hx144_4; replace hx144_5 := (HB.out.cell (World.block_lt_of_cell? w _ hx144_5)).trans hx144_5; replace p144 := eq_true p144; replace q144 := eq_true q144; have p145 : 0 ≤ (x15_3 : Int) := of_decide_eq_true (by first | (with_reducible assumption) | assumption); have q145 : x15_3 < (l0.length : Int) := of_decide_eq_true (by first | (with_reducible assumption) | assumption); obtain ⟨ad145, e145, hx145_0, hx145_1, hx145_2, hx145_3, hx145_4, hx145_5⟩ := at_T44 HR0.out x15_3 p145 q145; have hw145_5 := hx145_5; have hw145_4 := hx145_4; have hw145_3 := hx145_3; have hw145_2 := hx145_2; have hw145_1 := hx145_1; have hw145_0 := hx145_0; obtain rfl : ad144 = ad145 := (by injection e145); replace hx145_0 := (HB.out.cell (World.block_lt_of_cell? w _ hx145_0)).trans hx145_0; replace hx145_1 := (HB.out.cell (World.block_lt_of_cell? w _ hx145_1)).trans hx145_1; replace hx145_2 := (HB.out.cell (World.block_lt_of_cell? w _ hx145_2)).trans hx145_2; replace hx145_3 := (HB.out.cell (World.block_lt_of_cell? w _ hx145_3)).trans hx145_3; replace hx145_4 := (HB.out.cell (World.block_lt_of_cell? w _ hx145_4)).trans hx145_4; replace hx145_5 := (HB.out.cell (World.block_lt_of_cell? w _ hx145_5)).trans hx145_5; replace p145 := eq_true p145; replace q145 := eq_true q145; have p146 : 0 ≤ (x15_3 : Int) := of_decide_eq_true (by first | (with_reducible assumption) | assumption); have q146 : x15_3 < (l0.length : Int) := of_decide_eq_true (by first | (with_reducible assumption) | assumption); obtain ⟨ad146, e146, hx146_0, hx146_1, hx146_2, hx146_3, hx146_4, hx146_5⟩ := at_T44 HR0.out x15_3 p146 q146; have hw146_5 := hx146_5; have hw146_4 := hx146_4; have hw146_3 := hx146_3; have hw146_2 := hx146_2; have hw146_1 := hx146_1; have hw146_0 := hx146_0; obtain rfl : ad144 = ad146 := (by injection e146); replace hx146_0 := (HB.out.cell (World.block_lt_of_cell? w _ hx146_0)).trans hx146_0; replace hx146_1 := (HB.out.cell (World.block_lt_of_cell? w _ hx146_1)).trans hx146_1; replace hx146_2 := (HB.out.cell (World.block_lt_of_cell? w _ hx146_2)).trans hx146_2; replace hx146_3 := (HB.out.cell (World.block_lt_of_cell? w _ hx146_3)).trans hx146_3; replace hx146_4 := (HB.out.cell (World.block_lt_of_cell? w _ hx146_4)).trans hx146_4; replace hx146_5 := (HB.out.cell (World.block_lt_of_cell? w _ hx146_5)).trans hx146_5; replace p146 := eq_true p146; replace q146 := eq_true q146; have p148 : 0 ≤ ((ji50) : Int) := of_decide_eq_true (by first | (with_reducible assumption) | assumption); have q148 : (ji50) < (x12_2.length : Int) := of_decide_eq_true (by first | (with_reducible assumption) | assumption); obtain ⟨ad148, e148, hx148_0, hx148_1⟩ := at_T40 (Kd.R_reads' HO_12.out).2.2 (ji50) p148 q148; obtain rfl : ad137 = ad148 := (by injection e148); replace p148 := eq_true p148; replace q148 := eq_true q148; refine start_ (n := 35) (S := fun w' => w'.cell? (ad144.add ((x15_3).toNat * 6)) = some (.string ((rd_T44 l0 x15_3).f0)) ∧ w'.cell? ⟨(ad144.add ((x15_3).toNat * 6)).block, (ad144.add ((x15_3).toNat * 6)).off + 1, none⟩ = some (.string ((rd_T44 l0 x15_3).f1)) ∧ w'.cell? ⟨(ad144.add ((x15_3).toNat * 6)).block, (ad144.add ((x15_3).toNat * 6)).off + 2, none⟩ = some (.int .i64 ((rd_T44 l0 x15_3).f2)) ∧ w'.cell? ⟨(ad144.add ((x15_3).toNat * 6)).block, (ad144.add ((x15_3).toNat * 6)).off + 3, none⟩ = some (.int .i64 ((rd_T44 l0 x15_3).f3)) ∧ w'.cell? ⟨(ad144.add ((x15_3).toNat * 6)).block, (ad144.add ((x15_3).toNat * 6)).off + 4, none⟩ = some (.int .i64 ((rd_T44 l0 x15_3).f4)) ∧ w'.cell? ⟨(ad144.add ((x15_3).toNat * 6)).block, (ad144.add ((x15_3).toNat * 6)).off + 5, none⟩ = some (.int .i64 ((rd_T44 l0 x15_3).f5)) ∧ w'.cell? (ad144.add ((x15_3).toNat * 6)) = some (.string ((rd_T44 l0 x15_3).f0)) ∧ w'.cell? ⟨(ad144.add ((x15_3).toNat * 6)).block, (ad144.add ((x15_3).toNat * 6)).off + 1, none⟩ = some (.string ((rd_T44 l0 x15_3).f1)) ∧ w'.cell? ⟨(ad144.add ((x15_3).toNat * 6)).block, (ad144.add ((x15_3).toNat * 6)).off + 2, none⟩ = some (.int .i64 ((rd_T44 l0 x15_3).f2)) ∧ w'.cell? ⟨(ad144.add ((x15_3).toNat * 6)).block, (ad144.add ((x15_3).toNat * 6)).off + 3, none⟩ = some (.int .i64 ((rd_T44 l0 x15_3).f3)) ∧ w'.cell? ⟨(ad144.add ((x15_3).toNat * 6)).block, (ad144.add ((x15_3).toNat * 6)).off + 4, none⟩ = some (.int .i64 ((rd_T44 l0 x15_3).f4)) ∧ w'.cell? ⟨(ad144.add ((x15_3).toNat * 6)).block, (ad144.add ((x15_3).toNat * 6)).off + 5, none⟩ = some (.int .i64 ((rd_T44 l0 x15_3).f5)) ∧ w'.cell? (ad144.add ((x15_3).toNat * 6)) = some (.string ((rd_T44 l0 x15_3).f0)) ∧ w'.cell? ⟨(ad144.add ((x15_3).toNat * 6)).block, (ad144.add ((x15_3).toNat * 6)).off + 1, none⟩ = some (.string ((rd_T44 l0 x15_3).f1)) ∧ w'.cell? ⟨(ad144.add ((x15_3).toNat * 6)).block, (ad144.add ((x15_3).toNat * 6)).off + 2, none⟩ = some (.int .i64 ((rd_T44 l0 x15_3).f2)) ∧ w'.cell? ⟨(ad144.add ((x15_3).toNat * 6)).block, (ad144.add ((x15_3).toNat * 6)).off + 3, none⟩ = some (.int .i64 ((rd_T44 l0 x15_3).f3)) ∧ w'.cell? ⟨(ad144.add ((x15_3).toNat * 6)).block, (ad144.add ((x15_3).toNat * 6)).off + 4, none⟩ = some (.int .i64 ((rd_T44 l0 x15_3).f4)) ∧ w'.cell? ⟨(ad144.add ((x15_3).toNat * 6)).block, (ad144.add ((x15_3).toNat * 6)).off + 5, none⟩ = some (.int .i64 ((rd_T44 l0 x15_3).f5)) ∧ w'.cell? (ad137.add (((ji50)).toNat * 2)) = some (.int .i64 ((rd_T40 x12_2 (ji50)).f0)) ∧ w'.cell? ⟨(ad137.add (((ji50)).toNat * 2)).block, (ad137.add (((ji50)).toNat * 2)).off + 1, none⟩ = some (.int .i64 ((rd_T40 x12_2 (ji50)).f1))) (ds := []) (rl_ true [0, 35]).toArray (by kernel_rfl) rfl rfl ⟨((HB.out.cell (World.block_lt_of_cell? w _ hw144_0)).trans hw144_0), ((HB.out.cell (World.block_lt_of_cell? w _ hw144_1)).trans hw144_1), ((HB.out.cell (World.block_lt_of_cell? w _ hw144_2)).trans hw144_2), ((HB.out.cell (World.block_lt_of_cell? w _ hw144_3)).trans hw144_3), ((HB.out.cell (World.block_lt_of_cell? w _ hw144_4)).trans hw144_4), ((HB.out.cell (World.block_lt_of_cell? w _ hw144_5)).trans hw144_5), ((HB.out.cell (World.block_lt_of_cell? w _ hw145_0)).trans hw145_0), ((HB.out.cell (World.block_lt_of_cell? w _ hw145_1)).trans hw145_1), ((HB.out.cell (World.block_lt_of_cell? w _ hw145_2)).trans hw145_2), ((HB.out.cell (World.block_lt_of_cell? w _ hw145_3)).trans hw145_3), ((HB.out.cell (World.block_lt_of_cell? w _ hw145_4)).trans hw145_4), ((HB.out.cell (World.block_lt_of_cell? w _ hw145_5)).trans hw145_5), ((HB.out.cell (World.block_lt_of_cell? w _ hw146_0)).trans hw146_0), ((HB.out.cell (World.block_lt_of_cell? w _ hw146_1)).trans hw146_1), ((HB.out.cell (World.block_lt_of_cell? w _ hw146_2)).trans hw146_2), ((HB.out.cell (World.block_lt_of_cell? w _ hw146_3)).trans hw146_3), ((HB.out.cell (World.block_lt_of_cell? w _ hw146_4)).trans hw146_4), ((HB.out.cell (World.block_lt_of_cell? w _ hw146_5)).trans hw146_5), hx148_0, hx148_1⟩ (fun hHeld => ?_); refine with_tabW spec_PriceSteps.tab15 spec_PriceSteps.bits15 (fun HT_ HW_ => ?_); generalize wc.drew = w53 at HO_12 HB hx144_0 hx144_1 hx144_2 hx144_3 hx144_4 hx144_5 hx145_0 hx145_1 hx145_2 hx145_3 hx145_4 hx145_5 hx146_0 hx146_1 hx146_2 hx146_3 hx146_4 hx146_5 hx148_0 hx148_1 hHeld ⊢; refine pure_ (i := 0) (N := some 99) (v := ?_) (a' := ?_) (rl_ true [1, 34]).toArray rfl rfl (any_of HT_.out (by kernel_rfl)) (fun _ _ _ h => h) (Or.inl ⟨by rfl, ?_⟩) ?_ ?_; rotate_left
                        ·intro w'; go_simp; (with_reducible rfl)
                        rotate_left
                        ·simp only [Act.put, sA, s0, sS, i64_w, i32_w]; rfl
                        refine pure_ (i := 1) (N := some 100) (v := ?_) (a' := ?_) (rl_ true [2, 33]).toArray rfl rfl (any_of HT_.out (by kernel_rfl)) (fun _ _ _ h => h) (Or.inl ⟨by rfl, ?_⟩) ?_ ?_; rotate_left
                        ·intro w'; go_simp; (with_reducible rfl)
                        rotate_left
                        ·simp only [Act.put, sA, s0, sS, i64_w, i32_w]; rfl
                        refine pure_ (i := 2) (N := some 101) (v := ?_) (a' := ?_) (rl_ true [3, 32]).toArray rfl rfl (any_of HT_.out (by kernel_rfl)) (fun _ _ _ h => h) (Or.inl ⟨by rfl, ?_⟩) ?_ ?_; rotate_left
                        ·intro w'; go_simp; (with_reducible rfl)
                        rotate_left
                        ·simp only [Act.put, sA, s0, sS, i64_w, i32_w]; rfl
                        refine pure_ (i := 3) (N := some 102) (v := ?_) (a' := ?_) (rl_ true [4, 31]).toArray rfl rfl (any_of HT_.out (by kernel_rfl)) (fun _ _ _ h => h) (Or.inl ⟨by rfl, ?_⟩) ?_ ?_; rotate_left
                        ·intro w'; go_simp; (with_reducible rfl)
                        rotate_left
                        ·simp only [Act.put, sA, s0, sS, i64_w, i32_w]; rfl
                        refine pure_ (i := 5) (N := some 104) (v := ?_) (a' := ?_) (rl_ true [4, 1, 1, 29]).toArray rfl rfl (any_of HT_.out (by kernel_rfl)) (fun _ _ _ h => h) (Or.inl ⟨by rfl, ?_⟩) ?_ ?_; rotate_left
                        ·intro w'; go_simp; (with_reducible rfl)
                        rotate_left
                        ·simp only [Act.put, sA, s0, sS, i64_w, i32_w]; rfl
                        refine take_ (i := 4) (N := some 103) (v := ?_) (a' := ?_) (rl_ true [6, 29]).toArray rfl rfl (take_ofW HT_.out HW_.out (by kernel_rfl)) (fun _ _ _ h => h) (Or.inl ⟨by rfl, ?_⟩) hHeld ?_ ?_; rotate_left
                        ·rintro w' ⟨s0, s1, s2, s3, s4, s5, s6, s7, s8, s9, s10, s11, s12, s13, s14, s15, s16, s17, s18, s19⟩; go_simp; (with_reducible rfl)
                        rotate_left
                        ·simp only [Act.put, sA, s0, sS, i64_w, i32_w]; rfl
                        refine pure_ (i := 6) (N := some 105) (v := ?_) (a' := ?_) (rl_ true [7, 28]).toArray rfl rfl (any_of HT_.out (by kernel_rfl)) (fun _ _ _ h => h) (Or.inl ⟨by rfl, ?_⟩) ?_ ?_; rotate_left
                        ·intro w'; go_simp; (with_reducible rfl)
                        rotate_left
                        ·simp only [Act.put, sA, s0, sS, i64_w, i32_w]; rfl
                        refine pure_ (i := 7) (N := some 106) (v := ?_) (a' := ?_) (rl_ true [8, 27]).toArray rfl rfl (any_of HT_.out (by kernel_rfl)) (fun _ _ _ h => h) (Or.inl ⟨by rfl, ?_⟩) ?_ ?_; rotate_left
                        ·intro w'; go_simp; (with_reducible rfl)
                        rotate_left
                        ·simp only [Act.put, sA, s0, sS, i64_w, i32_w]; rfl
                        refine pure_ (i := 8) (N := some 107) (v := ?_) (a' := ?_) (rl_ true [9, 26]).toArray rfl rfl (any_of HT_.out (by kernel_rfl)) (fun _ _ _ h => h) (Or.inl ⟨by rfl, ?_⟩) ?_ ?_; rotate_left
                        ·intro w'; go_simp; (with_reducible rfl)
                        rotate_left
                        ·simp only [Act.put, sA, s0, sS, i64_w, i32_w]; rfl
                        refine pure_ (i := 9) (N := some 108) (v := ?_) (a' := ?_) (rl_ true [10, 25]).toArray rfl rfl (any_of HT_.out (by kernel_rfl)) (fun _ _ _ h => h) (Or.inl ⟨by rfl, ?_⟩) ?_ ?_; rotate_left
                        ·intro w'; go_simp; (with_reducible rfl)
                        rotate_left
                        ·simp only [Act.put, sA, s0, sS, i64_w, i32_w]; rfl
                        refine pure_ (i := 10) (N := some 109) (v := ?_) (a' := ?_) (rl_ true [11, 24]).toArray rfl rfl (any_of HT_.out (by kernel_rfl)) (fun _ _ _ h => h) (Or.inl ⟨by rfl, ?_⟩) ?_ ?_; rotate_left
                        ·intro w'; go_simp; (with_reducible rfl)
                        rotate_left
                        ·simp only [Act.put, sA, s0, sS, i64_w, i32_w]; rfl
                        refine pure_ (i := 11) (N := some 110) (v := ?_) (a' := ?_) (rl_ true [12, 23]).toArray rfl rfl (any_of HT_.out (by kernel_rfl)) (fun _ _ _ h => h) (Or.inl ⟨by rfl, ?_⟩) ?_ ?_; rotate_left
                        ·intro w'; go_simp; (with_reducible rfl)
                        rotate_left
                        ·simp only [Act.put, sA, s0, sS, i64_w, i32_w]; rfl
                        refine pure_ (i := 13) (N := some 112) (v := ?_) (a' := ?_) (rl_ true [12, 1, 1, 21]).toArray rfl rfl (any_of HT_.out (by kernel_rfl)) (fun _ _ _ h => h) (Or.inl ⟨by rfl, ?_⟩) ?_ ?_; rotate_left
                        ·intro w'; go_simp; (with_reducible rfl)
                        rotate_left
                        ·simp only [Act.put, sA, s0, sS, i64_w, i32_w]; rfl
                        refine take_ (i := 12) (N := some 111) (v := ?_) (a' := ?_) (rl_ true [14, 21]).toArray rfl rfl (take_ofW HT_.out HW_.out (by kernel_rfl)) (fun _ _ _ h => h) (Or.inl ⟨by rfl, ?_⟩) hHeld ?_ ?_; rotate_left
                        ·rintro w' ⟨s0, s1, s2, s3, s4, s5, s6, s7, s8, s9, s10, s11, s12, s13, s14, s15, s16, s17, s18, s19⟩; go_simp; (with_reducible rfl)
                        rotate_left
                        ·simp only [Act.put, sA, s0, sS, i64_w, i32_w]; rfl
                        refine pure_ (i := 14) (N := some 113) (v := ?_) (a' := ?_) (rl_ true [15, 20]).toArray rfl rfl (any_of HT_.out (by kernel_rfl)) (fun _ _ _ h => h) (Or.inl ⟨by rfl, ?_⟩) ?_ ?_; rotate_left
                        ·intro w'; go_simp; (with_reducible rfl)
                        rotate_left
                        ·simp only [Act.put, sA, s0, sS, i64_w, i32_w]; rfl
                        refine pure_ (i := 15) (N := some 114) (v := ?_) (a' := ?_) (rl_ true [16, 19]).toArray rfl rfl (any_of HT_.out (by kernel_rfl)) (fun _ _ _ h => h) (Or.inl ⟨by rfl, ?_⟩) ?_ ?_; rotate_left
                        ·intro w'; go_simp; (with_reducible rfl)
                        rotate_left
                        ·simp only [Act.put, sA, s0, sS, i64_w, i32_w]; rfl
                        refine pure_ (i := 16) (N := some 115) (v := ?_) (a' := ?_) (rl_ true [17, 18]).toArray rfl rfl (any_of HT_.out (by kernel_rfl)) (fun _ _ _ h => h) (Or.inl ⟨by rfl, ?_⟩) ?_ ?_; rotate_left
                        ·intro w'; go_simp; (with_reducible rfl)
                        rotate_left
                        ·simp only [Act.put, sA, s0, sS, i64_w, i32_w]; rfl
                        refine pure_ (i := 17) (N := some 116) (v := ?_) (a' := ?_) (rl_ true [18, 17]).toArray rfl rfl (any_of HT_.out (by kernel_rfl)) (fun _ _ _ h => h) (Or.inl ⟨by rfl, ?_⟩) ?_ ?_; rotate_left
                        ·intro w'; go_simp; (with_reducible rfl)
                        rotate_left
                        ·simp only [Act.put, sA, s0, sS, i64_w, i32_w]; rfl
                        refine pure_ (i := 18) (N := some 117) (v := ?_) (a' := ?_) (rl_ true [19, 16]).toArray rfl rfl (any_of HT_.out (by kernel_rfl)) (fun _ _ _ h => h) (Or.inl ⟨by rfl, ?_⟩) ?_ ?_; rotate_left
                        ·intro w'; go_simp; (with_reducible rfl)
                        rotate_left
                        ·simp only [Act.put, sA, s0, sS, i64_w, i32_w]; rfl
                        refine pure_ (i := 19) (N := some 118) (v := ?_) (a' := ?_) (rl_ true [20, 15]).toArray rfl rfl (any_of HT_.out (by kernel_rfl)) (fun _ _ _ h => h) (Or.inl ⟨by rfl, ?_⟩) ?_ ?_; rotate_left
                        ·intro w'; go_simp; (with_reducible rfl)
                        rotate_left
                        ·simp only [Act.put, sA, s0, sS, i64_w, i32_w]; rfl
                        refine pure_ (i := 20) (N := some 119) (v := ?_) (a' := ?_) (rl_ true [21, 14]).toArray rfl rfl (any_of HT_.out (by kernel_rfl)) (fun _ _ _ h => h) (Or.inl ⟨by rfl, ?_⟩) ?_ ?_; rotate_left
                        ·intro w'; go_simp; (with_reducible rfl)
                        rotate_left
                        ·simp only [Act.put, sA, s0, sS, i64_w, i32_w]; rfl
                        refine pure_ (i := 21) (N := some 120) (v := ?_) (a' := ?_) (rl_ true [22, 13]).toArray rfl rfl (any_of HT_.out (by kernel_rfl)) (fun _ _ _ h => h) (Or.inl ⟨by rfl, ?_⟩) ?_ ?_; rotate_left
                        ·intro w'; go_simp; (with_reducible rfl)
                        rotate_left
                        ·simp only [Act.put, sA, s0, sS, i64_w, i32_w]; rfl
                        refine pure_ (i := 22) (N := some 121) (v := ?_) (a' := ?_) (rl_ true [23, 12]).toArray rfl rfl (any_of HT_.out (by kernel_rfl)) (fun _ _ _ h => h) (Or.inl ⟨by rfl, ?_⟩) ?_ ?_; rotate_left
                        ·intro w'; go_simp; (with_reducible rfl)
                        rotate_left
                        ·simp only [Act.put, sA, s0, sS, i64_w, i32_w]; rfl
                        refine pure_ (i := 23) (N := some 122) (v := ?_) (a' := ?_) (rl_ true [24, 11]).toArray rfl rfl (any_of HT_.out (by kernel_rfl)) (fun _ _ _ h => h) (Or.inl ⟨by rfl, ?_⟩) ?_ ?_; rotate_left
                        ·intro w'; go_simp; (with_reducible rfl)
                        rotate_left
                        ·simp only [Act.put, sA, s0, sS, i64_w, i32_w]; rfl
                        refine pure_ (i := 26) (N := some 125) (v := ?_) (a' := ?_) (rl_ true [24, 2, 1, 8]).toArray rfl rfl (any_of HT_.out (by kernel_rfl)) (fun _ _ _ h => h) (Or.inl ⟨by rfl, ?_⟩) ?_ ?_; rotate_left
                        ·intro w'; go_simp; (with_reducible rfl)
                        rotate_left
                        ·simp only [Act.put, sA, s0, sS, i64_w, i32_w]; rfl
                        refine pure_ (i := 27) (N := some 126) (v := ?_) (a' := ?_) (rl_ true [24, 2, 2, 7]).toArray rfl rfl (any_of HT_.out (by kernel_rfl)) (fun _ _ _ h => h) (Or.inl ⟨by rfl, ?_⟩) ?_ ?_; rotate_left
                        ·intro w'; go_simp; (with_reducible rfl)
                        rotate_left
                        ·simp only [Act.put, sA, s0, sS, i64_w, i32_w]; rfl
                        refine pure_ (i := 28) (N := some 127) (v := ?_) (a' := ?_) (rl_ true [24, 2, 3, 6]).toArray rfl rfl (any_of HT_.out (by kernel_rfl)) (fun _ _ _ h => h) (Or.inl ⟨by rfl, ?_⟩) ?_ ?_; rotate_left
                        ·intro w'; go_simp; (with_reducible rfl)
                        rotate_left
                        ·simp only [Act.put, sA, s0, sS, i64_w, i32_w]; rfl
                        refine pure_ (i := 29) (N := some 128) (v := ?_) (a' := ?_) (rl_ true [24, 2, 4, 5]).toArray rfl rfl (any_of HT_.out (by kernel_rfl)) (fun _ _ _ h => h) (Or.inl ⟨by rfl, ?_⟩) ?_ ?_; rotate_left
                        ·intro w'; go_simp; (with_reducible rfl)
                        rotate_left
                        ·simp only [Act.put, sA, s0, sS, i64_w, i32_w]; rfl
                        refine pure_ (i := 30) (N := some 129) (v := ?_) (a' := ?_) (rl_ true [24, 2, 5, 4]).toArray rfl rfl (any_of HT_.out (by kernel_rfl)) (fun _ _ _ h => h) (Or.inl ⟨by rfl, ?_⟩) ?_ ?_; rotate_left
                        ·intro w'; go_simp; (with_reducible rfl)
                        rotate_left
                        ·simp only [Act.put, sA, s0, sS, i64_w, i32_w]; rfl
                        refine pure_ (i := 31) (N := some 130) (v := ?_) (a' := ?_) (rl_ true [24, 2, 6, 3]).toArray rfl rfl (any_of HT_.out (by kernel_rfl)) (fun _ _ _ h => h) (Or.inl ⟨by rfl, ?_⟩) ?_ ?_; rotate_left
                        ·intro w'; go_simp; (with_reducible rfl)
                        rotate_left
                        ·simp only [Act.put, sA, s0, sS, i64_w, i32_w]; rfl
                        refine take_ (i := 24) (N := some 123) (v := ?_) (a' := ?_) (rl_ true [25, 1, 6, 3]).toArray rfl rfl (take_ofW HT_.out HW_.out (by kernel_rfl)) (fun _ _ _ h => h) (Or.inl ⟨by rfl, ?_⟩) hHeld ?_ ?_; rotate_left
                        ·rintro w' ⟨s0, s1, s2, s3, s4, s5, s6, s7, s8, s9, s10, s11, s12, s13, s14, s15, s16, s17, s18, s19⟩; go_simp; (with_reducible rfl)
                        rotate_left
                        ·simp only [Act.put, sA, s0, sS, i64_w, i32_w]; rfl
                        refine take_ (i := 32) (N := some 131) (v := ?_) (a' := ?_) (rl_ true [25, 1, 7, 2]).toArray rfl rfl (take_ofW HT_.out HW_.out (by kernel_rfl)) (fun _ _ _ h => h) (Or.inl ⟨by rfl, ?_⟩) hHeld ?_ ?_; rotate_left
                        ·rintro w' ⟨s0, s1, s2, s3, s4, s5, s6, s7, s8, s9, s10, s11, s12, s13, s14, s15, s16, s17, s18, s19⟩; go_simp; (with_reducible rfl)
                        rotate_left
                        ·simp only [Act.put, sA, s0, sS, i64_w, i32_w]; rfl
                        refine one_ (i := 25) (N := some 124) (rl_ true [33, 2]).toArray rfl rfl (one_of HT_.out (by kernel_rfl)) (by decide) (fun K hK => ?_); refine goes_ Try.func22 (by kernel_rfl) rfl #[.slice (some ad144) l0.length c0, .string a1, .string a2, .int .i64 ((rd_T44 l0 x15_3).f4)] (by rfl) rfl rfl mq ?_; (with_reducible refine (spec_l04Amount.calls kj39 _ _ l0 a1 a2 ((rd_T44 l0 x15_3).f4) t147 _ ?side1 ?side2 A49.out).mono ?_)
                        (case side1 => repeat (first | exact (Kd.C_below HR0.out HB.out) | (with_reducible refine Kd.C_alloc ?_ _) | (with_reducible refine Kd.C_drewN ?_ _) | (with_reducible refine Kd.C_drew ?_)))
                        (case side2 => exact HC0.out)
                        rintro e w54 ⟨rfl, hb⟩; have HS18_ := (hb.cell (World.block_lt_of_cell? _ _ (hHeld.2.2.2.2.2.2.2.2.2.2.2.2.2.2.2.2.2.2.1))).trans (hHeld.2.2.2.2.2.2.2.2.2.2.2.2.2.2.2.2.2.2.1); have HS19_ := (hb.cell (World.block_lt_of_cell? _ _ (hHeld.2.2.2.2.2.2.2.2.2.2.2.2.2.2.2.2.2.2.2))).trans (hHeld.2.2.2.2.2.2.2.2.2.2.2.2.2.2.2.2.2.2.2); refine ⟨_, rfl, ?_⟩; have n0_ := Aside0.mk (Kd.R_below (qr HO_12) hb); have n1_ := Aside0.mk (below_step (qb HB) hb); clear HO_12; clear HB; have HO_12 := n0_; have HB := n1_; clear n0_ n1_; (try clear hb); (try clear hb2); (try clear hk); (try clear hi); refine hK.out _ _ ⟨((HB.out.cell (World.block_lt_of_cell? w _ hw144_0)).trans hw144_0), ((HB.out.cell (World.block_lt_of_cell? w _ hw144_1)).trans hw144_1), ((HB.out.cell (World.block_lt_of_cell? w _ hw144_2)).trans hw144_2), ((HB.out.cell (World.block_lt_of_cell? w _ hw144_3)).trans hw144_3), ((HB.out.cell (World.block_lt_of_cell? w _ hw144_4)).trans hw144_4), ((HB.out.cell (World.block_lt_of_cell? w _ hw144_5)).trans hw144_5), ((HB.out.cell (World.block_lt_of_cell? w _ hw145_0)).trans hw145_0), ((HB.out.cell (World.block_lt_of_cell? w _ hw145_1)).trans hw145_1), ((HB.out.cell (World.block_lt_of_cell? w _ hw145_2)).trans hw145_2), ((HB.out.cell (World.block_lt_of_cell? w _ hw145_3)).trans hw145_3), ((HB.out.cell (World.block_lt_of_cell? w _ hw145_4)).trans hw145_4), ((HB.out.cell (World.block_lt_of_cell? w _ hw145_5)).trans hw145_5), ((HB.out.cell (World.block_lt_of_cell? w _ hw146_0)).trans hw146_0), ((HB.out.cell (World.block_lt_of_cell? w _ hw146_1)).trans hw146_1), ((HB.out.cell (World.block_lt_of_cell? w _ hw146_2)).trans hw146_2), ((HB.out.cell (World.block_lt_of_cell? w _ hw146_3)).trans hw146_3), ((HB.out.cell (World.block_lt_of_cell? w _ hw146_4)).trans hw146_4), ((HB.out.cell (World.block_lt_of_cell? w _ hw146_5)).trans hw146_5), HS18_, HS19_⟩ (fun hHeld => ?_); clear hK K; refine norm_ (a' := ?_) ?_ ?_; rotate_left
                        ·show Act.put _ (some 124) _ = _; simp only [Act.put, sA, s0, sS, i64_w, i32_w]; rfl
                        refine pure_ (i := 33) (N := some 132) (v := ?_) (a' := ?_) (rl_ true [34, 1]).toArray rfl rfl (any_of HT_.out (by kernel_rfl)) (fun _ _ _ h => h) (Or.inl ⟨by rfl, ?_⟩) ?_ ?_; rotate_left
                        ·intro w'; go_simp; (with_reducible rfl)
                        rotate_left
                        ·simp only [Act.put, sA, s0, sS, i64_w, i32_w]; rfl
                        refine pure_ (i := 34) (N := some 133) (v := ?_) (a' := ?_) (rl_ true [35]).toArray rfl rfl (any_of HT_.out (by kernel_rfl)) (fun _ _ _ h => h) (Or.inl ⟨by rfl, ?_⟩) ?_ ?_; rotate_left
                        ·intro w'; go_simp; (with_reducible rfl)
                        rotate_left
                        ·simp only [Act.put, sA, s0, sS, i64_w, i32_w]; rfl
                        refine done_ (done_of HT_.out (by kernel_rfl)) ?_
                        try go_wp2
                        go_meet
                        case rel => exact ⟨_, ((t147 != ((rd_T40 x12_2 (ji50)).f1))), (by first | rfl | (simp; done) | (simp only [← hji50] <;> (first | rfl | simp)) | (simp [*]; done)), H', ⟨by have := HJ11.out; have := HK2.out; have := HK3.out; have := HJ27.out; have := HJ39.out; first | omega | exact Nat.le_refl _⟩, ⟨by (with_reducible repeat (first | apply Kd.R_alloc | apply Kd.R_drewN | apply Kd.R_drew)); exact HO_12.out⟩, ⟨qb HB⟩⟩
                       ·rw [if_neg c52] at H; exact absurd H (by simp)
                      ·rw [if_neg c51] at H; exact absurd H (by simp)
                     ·rw [if_neg c48] at H; have c48b0 : decide (((rd_T44 l0 x15_3).f4) < x13_39) = false := decide_eq_false c48; clear c48; have H' := Aside0.mk H; clear H
                      try go_wp2
                      have n0_ := Aside0.mk (Kd.R_drew HO_12.out); have n1_ := Aside0.mk (below_drew1 HB.out); clear HO_12; clear HB; have HO_12 := n0_; have HB := n1_; clear n0_ n1_; have p144 : 0 ≤ (x15_3 : Int) := of_decide_eq_true (by first | (with_reducible assumption) | assumption); have q144 : x15_3 < (l0.length : Int) := of_decide_eq_true (by first | (with_reducible assumption) | assumption); obtain ⟨ad144, e144, hx144_0, hx144_1, hx144_2, hx144_3, hx144_4, hx144_5⟩ := at_T44 HR0.out x15_3 p144 q144; have hw144_5 := hx144_5; have hw144_4 := hx144_4; have hw144_3 := hx144_3; have hw144_2 := hx144_2; have hw144_1 := hx144_1; have hw144_0 := hx144_0
                      cases e144
                      replace hx144_0 := (HB.out.cell (World.block_lt_of_cell? w _ hx144_0)).trans hx144_0; replace hx144_1 := (HB.out.cell (World.block_lt_of_cell? w _ hx144_1)).trans hx144_1; replace hx144_2 := (HB.out.cell (World.block_lt_of_cell? w _ hx144_2)).trans hx144_2; replace hx144_3 := (HB.out.cell (World.block_lt_of_cell? w _ hx144_3)).trans hx144_3; replace hx144_4 := (HB.out.cell (World.block_lt_of_cell? w _ hx144_4)).trans hx144_4; replace hx144_5 := (HB.out.cell (World.block_lt_of_cell? w _ hx144_5)).trans hx144_5; replace p144 := eq_true p144; replace q144 := eq_true q144; have p145 : 0 ≤ (x15_3 : Int) := of_decide_eq_true (by first | (with_reducible assumption) | assumption); have q145 : x15_3 < (l0.length : Int) := of_decide_eq_true (by first | (with_reducible assumption) | assumption); obtain ⟨ad145, e145, hx145_0, hx145_1, hx145_2, hx145_3, hx145_4, hx145_5⟩ := at_T44 HR0.out x15_3 p145 q145; have hw145_5 := hx145_5; have hw145_4 := hx145_4; have hw145_3 := hx145_3; have hw145_2 := hx145_2; have hw145_1 := hx145_1; have hw145_0 := hx145_0; obtain rfl : ad144 = ad145 := (by injection e145); replace hx145_0 := (HB.out.cell (World.block_lt_of_cell? w _ hx145_0)).trans hx145_0; replace hx145_1 := (HB.out.cell (World.block_lt_of_cell? w _ hx145_1)).trans hx145_1; replace hx145_2 := (HB.out.cell (World.block_lt_of_cell? w _ hx145_2)).trans hx145_2; replace hx145_3 := (HB.out.cell (World.block_lt_of_cell? w _ hx145_3)).trans hx145_3; replace hx145_4 := (HB.out.cell (World.block_lt_of_cell? w _ hx145_4)).trans hx145_4; replace hx145_5 := (HB.out.cell (World.block_lt_of_cell? w _ hx145_5)).trans hx145_5; replace p145 := eq_true p145; replace q145 := eq_true q145; refine start_ (n := 35) (S := fun w' => w'.cell? (ad144.add ((x15_3).toNat * 6)) = some (.string ((rd_T44 l0 x15_3).f0)) ∧ w'.cell? ⟨(ad144.add ((x15_3).toNat * 6)).block, (ad144.add ((x15_3).toNat * 6)).off + 1, none⟩ = some (.string ((rd_T44 l0 x15_3).f1)) ∧ w'.cell? ⟨(ad144.add ((x15_3).toNat * 6)).block, (ad144.add ((x15_3).toNat * 6)).off + 2, none⟩ = some (.int .i64 ((rd_T44 l0 x15_3).f2)) ∧ w'.cell? ⟨(ad144.add ((x15_3).toNat * 6)).block, (ad144.add ((x15_3).toNat * 6)).off + 3, none⟩ = some (.int .i64 ((rd_T44 l0 x15_3).f3)) ∧ w'.cell? ⟨(ad144.add ((x15_3).toNat * 6)).block, (ad144.add ((x15_3).toNat * 6)).off + 4, none⟩ = some (.int .i64 ((rd_T44 l0 x15_3).f4)) ∧ w'.cell? ⟨(ad144.add ((x15_3).toNat * 6)).block, (ad144.add ((x15_3).toNat * 6)).off + 5, none⟩ = some (.int .i64 ((rd_T44 l0 x15_3).f5)) ∧ w'.cell? (ad144.add ((x15_3).toNat * 6)) = some (.string ((rd_T44 l0 x15_3).f0)) ∧ w'.cell? ⟨(ad144.add ((x15_3).toNat * 6)).block, (ad144.add ((x15_3).toNat * 6)).off + 1, none⟩ = some (.string ((rd_T44 l0 x15_3).f1)) ∧ w'.cell? ⟨(ad144.add ((x15_3).toNat * 6)).block, (ad144.add ((x15_3).toNat * 6)).off + 2, none⟩ = some (.int .i64 ((rd_T44 l0 x15_3).f2)) ∧ w'.cell? ⟨(ad144.add ((x15_3).toNat * 6)).block, (ad144.add ((x15_3).toNat * 6)).off + 3, none⟩ = some (.int .i64 ((rd_T44 l0 x15_3).f3)) ∧ w'.cell? ⟨(ad144.add ((x15_3).toNat * 6)).block, (ad144.add ((x15_3).toNat * 6)).off + 4, none⟩ = some (.int .i64 ((rd_T44 l0 x15_3).f4)) ∧ w'.cell? ⟨(ad144.add ((x15_3).toNat * 6)).block, (ad144.add ((x15_3).toNat * 6)).off + 5, none⟩ = some (.int .i64 ((rd_T44 l0 x15_3).f5))) (ds := []) (rl_ true [0, 35]).toArray (by kernel_rfl) rfl rfl ⟨((HB.out.cell (World.block_lt_of_cell? w _ hw144_0)).trans hw144_0), ((HB.out.cell (World.block_lt_of_cell? w _ hw144_1)).trans hw144_1), ((HB.out.cell (World.block_lt_of_cell? w _ hw144_2)).trans hw144_2), ((HB.out.cell (World.block_lt_of_cell? w _ hw144_3)).trans hw144_3), ((HB.out.cell (World.block_lt_of_cell? w _ hw144_4)).trans hw144_4), ((HB.out.cell (World.block_lt_of_cell? w _ hw144_5)).trans hw144_5), ((HB.out.cell (World.block_lt_of_cell? w _ hw145_0)).trans hw145_0), ((HB.out.cell (World.block_lt_of_cell? w _ hw145_1)).trans hw145_1), ((HB.out.cell (World.block_lt_of_cell? w _ hw145_2)).trans hw145_2), ((HB.out.cell (World.block_lt_of_cell? w _ hw145_3)).trans hw145_3), ((HB.out.cell (World.block_lt_of_cell? w _ hw145_4)).trans hw145_4), ((HB.out.cell (World.block_lt_of_cell? w _ hw145_5)).trans hw145_5)⟩ (fun hHeld => ?_); refine with_tabW spec_PriceSteps.tab15 spec_PriceSteps.bits15 (fun HT_ HW_ => ?_); generalize wc.drew = w55 at HO_12 HB hx144_0 hx144_1 hx144_2 hx144_3 hx144_4 hx144_5 hx145_0 hx145_1 hx145_2 hx145_3 hx145_4 hx145_5 hHeld ⊢; refine pure_ (i := 0) (N := some 99) (v := ?_) (a' := ?_) (rl_ true [1, 34]).toArray rfl rfl (any_of HT_.out (by kernel_rfl)) (fun _ _ _ h => h) (Or.inl ⟨by rfl, ?_⟩) ?_ ?_; rotate_left
                      ·intro w'; go_simp; (with_reducible rfl)
                      rotate_left
                      ·simp only [Act.put, sA, s0, sS, i64_w, i32_w]; rfl
                      refine pure_ (i := 1) (N := some 100) (v := ?_) (a' := ?_) (rl_ true [2, 33]).toArray rfl rfl (any_of HT_.out (by kernel_rfl)) (fun _ _ _ h => h) (Or.inl ⟨by rfl, ?_⟩) ?_ ?_; rotate_left
                      ·intro w'; go_simp; (with_reducible rfl)
                      rotate_left
                      ·simp only [Act.put, sA, s0, sS, i64_w, i32_w]; rfl
                      refine pure_ (i := 2) (N := some 101) (v := ?_) (a' := ?_) (rl_ true [3, 32]).toArray rfl rfl (any_of HT_.out (by kernel_rfl)) (fun _ _ _ h => h) (Or.inl ⟨by rfl, ?_⟩) ?_ ?_; rotate_left
                      ·intro w'; go_simp; (with_reducible rfl)
                      rotate_left
                      ·simp only [Act.put, sA, s0, sS, i64_w, i32_w]; rfl
                      refine pure_ (i := 3) (N := some 102) (v := ?_) (a' := ?_) (rl_ true [4, 31]).toArray rfl rfl (any_of HT_.out (by kernel_rfl)) (fun _ _ _ h => h) (Or.inl ⟨by rfl, ?_⟩) ?_ ?_; rotate_left
                      ·intro w'; go_simp; (with_reducible rfl)
                      rotate_left
                      ·simp only [Act.put, sA, s0, sS, i64_w, i32_w]; rfl
                      refine pure_ (i := 5) (N := some 104) (v := ?_) (a' := ?_) (rl_ true [4, 1, 1, 29]).toArray rfl rfl (any_of HT_.out (by kernel_rfl)) (fun _ _ _ h => h) (Or.inl ⟨by rfl, ?_⟩) ?_ ?_; rotate_left
                      ·intro w'; go_simp; (with_reducible rfl)
                      rotate_left
                      ·simp only [Act.put, sA, s0, sS, i64_w, i32_w]; rfl
                      refine take_ (i := 4) (N := some 103) (v := ?_) (a' := ?_) (rl_ true [6, 29]).toArray rfl rfl (take_ofW HT_.out HW_.out (by kernel_rfl)) (fun _ _ _ h => h) (Or.inl ⟨by rfl, ?_⟩) hHeld ?_ ?_; rotate_left
                      ·rintro w' ⟨s0, s1, s2, s3, s4, s5, s6, s7, s8, s9, s10, s11⟩; go_simp; (with_reducible rfl)
                      rotate_left
                      ·simp only [Act.put, sA, s0, sS, i64_w, i32_w]; rfl
                      refine pure_ (i := 6) (N := some 105) (v := ?_) (a' := ?_) (rl_ true [7, 28]).toArray rfl rfl (any_of HT_.out (by kernel_rfl)) (fun _ _ _ h => h) (Or.inl ⟨by rfl, ?_⟩) ?_ ?_; rotate_left
                      ·intro w'; go_simp; (with_reducible rfl)
                      rotate_left
                      ·simp only [Act.put, sA, s0, sS, i64_w, i32_w]; rfl
                      refine pure_ (i := 7) (N := some 106) (v := ?_) (a' := ?_) (rl_ true [8, 27]).toArray rfl rfl (any_of HT_.out (by kernel_rfl)) (fun _ _ _ h => h) (Or.inl ⟨by rfl, ?_⟩) ?_ ?_; rotate_left
                      ·intro w'; go_simp; (with_reducible rfl)
                      rotate_left
                      ·simp only [Act.put, sA, s0, sS, i64_w, i32_w]; rfl
                      refine pure_ (i := 8) (N := some 107) (v := ?_) (a' := ?_) (rl_ true [9, 26]).toArray rfl rfl (any_of HT_.out (by kernel_rfl)) (fun _ _ _ h => h) (Or.inl ⟨by rfl, ?_⟩) ?_ ?_; rotate_left
                      ·intro w'; go_simp; (with_reducible rfl)
                      rotate_left
                      ·simp only [Act.put, sA, s0, sS, i64_w, i32_w]; rfl
                      refine pure_ (i := 9) (N := some 108) (v := ?_) (a' := ?_) (rl_ true [10, 25]).toArray rfl rfl (any_of HT_.out (by kernel_rfl)) (fun _ _ _ h => h) (Or.inl ⟨by rfl, ?_⟩) ?_ ?_; rotate_left
                      ·intro w'; go_simp; (with_reducible rfl)
                      rotate_left
                      ·simp only [Act.put, sA, s0, sS, i64_w, i32_w]; rfl
                      refine pure_ (i := 10) (N := some 109) (v := ?_) (a' := ?_) (rl_ true [11, 24]).toArray rfl rfl (any_of HT_.out (by kernel_rfl)) (fun _ _ _ h => h) (Or.inl ⟨by rfl, ?_⟩) ?_ ?_; rotate_left
                      ·intro w'; go_simp; (with_reducible rfl)
                      rotate_left
                      ·simp only [Act.put, sA, s0, sS, i64_w, i32_w]; rfl
                      refine pure_ (i := 11) (N := some 110) (v := ?_) (a' := ?_) (rl_ true [12, 23]).toArray rfl rfl (any_of HT_.out (by kernel_rfl)) (fun _ _ _ h => h) (Or.inl ⟨by rfl, ?_⟩) ?_ ?_; rotate_left
                      ·intro w'; go_simp; (with_reducible rfl)
                      rotate_left
                      ·simp only [Act.put, sA, s0, sS, i64_w, i32_w]; rfl
                      refine pure_ (i := 13) (N := some 112) (v := ?_) (a' := ?_) (rl_ true [12, 1, 1, 21]).toArray rfl rfl (any_of HT_.out (by kernel_rfl)) (fun _ _ _ h => h) (Or.inl ⟨by rfl, ?_⟩) ?_ ?_; rotate_left
                      ·intro w'; go_simp; (with_reducible rfl)
                      rotate_left
                      ·simp only [Act.put, sA, s0, sS, i64_w, i32_w]; rfl
                      refine take_ (i := 12) (N := some 111) (v := ?_) (a' := ?_) (rl_ true [14, 21]).toArray rfl rfl (take_ofW HT_.out HW_.out (by kernel_rfl)) (fun _ _ _ h => h) (Or.inl ⟨by rfl, ?_⟩) hHeld ?_ ?_; rotate_left
                      ·rintro w' ⟨s0, s1, s2, s3, s4, s5, s6, s7, s8, s9, s10, s11⟩; go_simp; (with_reducible rfl)
                      rotate_left
                      ·simp only [Act.put, sA, s0, sS, i64_w, i32_w]; rfl
                      refine pure_ (i := 14) (N := some 113) (v := ?_) (a' := ?_) (rl_ true [15, 20]).toArray rfl rfl (any_of HT_.out (by kernel_rfl)) (fun _ _ _ h => h) (Or.inl ⟨by rfl, ?_⟩) ?_ ?_; rotate_left
                      ·intro w'; go_simp; (with_reducible rfl)
                      rotate_left
                      ·simp only [Act.put, sA, s0, sS, i64_w, i32_w]; rfl
                      refine pure_ (i := 15) (N := some 114) (v := ?_) (a' := ?_) (rl_ true [16, 19]).toArray rfl rfl (any_of HT_.out (by kernel_rfl)) (fun _ _ _ h => h) (Or.inl ⟨by rfl, ?_⟩) ?_ ?_; rotate_left
                      ·intro w'; go_simp; (with_reducible rfl)
                      rotate_left
                      ·simp only [Act.put, sA, s0, sS, i64_w, i32_w]; rfl
                      refine pure_ (i := 16) (N := some 115) (v := ?_) (a' := ?_) (rl_ true [17, 18]).toArray rfl rfl (any_of HT_.out (by kernel_rfl)) (fun _ _ _ h => h) (Or.inl ⟨by rfl, ?_⟩) ?_ ?_; rotate_left
                      ·intro w'; go_simp; (with_reducible rfl)
                      rotate_left
                      ·simp only [Act.put, sA, s0, sS, i64_w, i32_w]; rfl
                      refine pure_ (i := 17) (N := some 116) (v := undef) (a' := ?_) (rl_ true [18, 17]).toArray rfl rfl (any_of HT_.out (by kernel_rfl)) (fun _ _ _ h => h) (Or.inr ⟨by rfl, rfl⟩) ?_ ?_; rotate_left
                      ·simp only [Act.put, sA, s0, sS, i64_w, i32_w]; rfl
                      refine pure_ (i := 18) (N := some 117) (v := undef) (a' := ?_) (rl_ true [19, 16]).toArray rfl rfl (any_of HT_.out (by kernel_rfl)) (fun _ _ _ h => h) (Or.inr ⟨by rfl, rfl⟩) ?_ ?_; rotate_left
                      ·simp only [Act.put, sA, s0, sS, i64_w, i32_w]; rfl
                      refine pure_ (i := 19) (N := some 118) (v := undef) (a' := ?_) (rl_ true [20, 15]).toArray rfl rfl (any_of HT_.out (by kernel_rfl)) (fun _ _ _ h => h) (Or.inr ⟨by rfl, rfl⟩) ?_ ?_; rotate_left
                      ·simp only [Act.put, sA, s0, sS, i64_w, i32_w]; rfl
                      refine pure_ (i := 20) (N := some 119) (v := undef) (a' := ?_) (rl_ true [21, 14]).toArray rfl rfl (any_of HT_.out (by kernel_rfl)) (fun _ _ _ h => h) (Or.inr ⟨by rfl, rfl⟩) ?_ ?_; rotate_left
                      ·simp only [Act.put, sA, s0, sS, i64_w, i32_w]; rfl
                      refine pure_ (i := 21) (N := some 120) (v := undef) (a' := ?_) (rl_ true [22, 13]).toArray rfl rfl (any_of HT_.out (by kernel_rfl)) (fun _ _ _ h => h) (Or.inr ⟨by rfl, rfl⟩) ?_ ?_; rotate_left
                      ·simp only [Act.put, sA, s0, sS, i64_w, i32_w]; rfl
                      refine pure_ (i := 22) (N := some 121) (v := undef) (a' := ?_) (rl_ true [23, 12]).toArray rfl rfl (any_of HT_.out (by kernel_rfl)) (fun _ _ _ h => h) (Or.inr ⟨by rfl, rfl⟩) ?_ ?_; rotate_left
                      ·simp only [Act.put, sA, s0, sS, i64_w, i32_w]; rfl
                      refine pure_ (i := 23) (N := some 122) (v := undef) (a' := ?_) (rl_ true [24, 11]).toArray rfl rfl (any_of HT_.out (by kernel_rfl)) (fun _ _ _ h => h) (Or.inr ⟨by rfl, rfl⟩) ?_ ?_; rotate_left
                      ·simp only [Act.put, sA, s0, sS, i64_w, i32_w]; rfl
                      refine pure_ (i := 24) (N := some 123) (v := undef) (a' := ?_) (rl_ true [25, 10]).toArray rfl rfl (any_of HT_.out (by kernel_rfl)) (fun _ _ _ h => h) (Or.inr ⟨by rfl, rfl⟩) ?_ ?_; rotate_left
                      ·simp only [Act.put, sA, s0, sS, i64_w, i32_w]; rfl
                      refine pure_ (i := 25) (N := some 124) (v := undef) (a' := ?_) (rl_ true [26, 9]).toArray rfl rfl (any_of HT_.out (by kernel_rfl)) (fun _ _ _ h => h) (Or.inr ⟨by rfl, rfl⟩) ?_ ?_; rotate_left
                      ·simp only [Act.put, sA, s0, sS, i64_w, i32_w]; rfl
                      refine pure_ (i := 26) (N := some 125) (v := undef) (a' := ?_) (rl_ true [27, 8]).toArray rfl rfl (any_of HT_.out (by kernel_rfl)) (fun _ _ _ h => h) (Or.inr ⟨by rfl, rfl⟩) ?_ ?_; rotate_left
                      ·simp only [Act.put, sA, s0, sS, i64_w, i32_w]; rfl
                      refine pure_ (i := 27) (N := some 126) (v := undef) (a' := ?_) (rl_ true [28, 7]).toArray rfl rfl (any_of HT_.out (by kernel_rfl)) (fun _ _ _ h => h) (Or.inr ⟨by rfl, rfl⟩) ?_ ?_; rotate_left
                      ·simp only [Act.put, sA, s0, sS, i64_w, i32_w]; rfl
                      refine pure_ (i := 28) (N := some 127) (v := undef) (a' := ?_) (rl_ true [29, 6]).toArray rfl rfl (any_of HT_.out (by kernel_rfl)) (fun _ _ _ h => h) (Or.inr ⟨by rfl, rfl⟩) ?_ ?_; rotate_left
                      ·simp only [Act.put, sA, s0, sS, i64_w, i32_w]; rfl
                      refine pure_ (i := 29) (N := some 128) (v := undef) (a' := ?_) (rl_ true [30, 5]).toArray rfl rfl (any_of HT_.out (by kernel_rfl)) (fun _ _ _ h => h) (Or.inr ⟨by rfl, rfl⟩) ?_ ?_; rotate_left
                      ·simp only [Act.put, sA, s0, sS, i64_w, i32_w]; rfl
                      refine pure_ (i := 30) (N := some 129) (v := undef) (a' := ?_) (rl_ true [31, 4]).toArray rfl rfl (any_of HT_.out (by kernel_rfl)) (fun _ _ _ h => h) (Or.inr ⟨by rfl, rfl⟩) ?_ ?_; rotate_left
                      ·simp only [Act.put, sA, s0, sS, i64_w, i32_w]; rfl
                      refine pure_ (i := 31) (N := some 130) (v := undef) (a' := ?_) (rl_ true [32, 3]).toArray rfl rfl (any_of HT_.out (by kernel_rfl)) (fun _ _ _ h => h) (Or.inr ⟨by rfl, rfl⟩) ?_ ?_; rotate_left
                      ·simp only [Act.put, sA, s0, sS, i64_w, i32_w]; rfl
                      refine pure_ (i := 32) (N := some 131) (v := undef) (a' := ?_) (rl_ true [33, 2]).toArray rfl rfl (any_of HT_.out (by kernel_rfl)) (fun _ _ _ h => h) (Or.inr ⟨by rfl, rfl⟩) ?_ ?_; rotate_left
                      ·simp only [Act.put, sA, s0, sS, i64_w, i32_w]; rfl
                      refine pure_ (i := 33) (N := some 132) (v := undef) (a' := ?_) (rl_ true [34, 1]).toArray rfl rfl (any_of HT_.out (by kernel_rfl)) (fun _ _ _ h => h) (Or.inr ⟨by rfl, rfl⟩) ?_ ?_; rotate_left
                      ·simp only [Act.put, sA, s0, sS, i64_w, i32_w]; rfl
                      refine pure_ (i := 34) (N := some 133) (v := ?_) (a' := ?_) (rl_ true [35]).toArray rfl rfl (any_of HT_.out (by kernel_rfl)) (fun _ _ _ h => h) (Or.inl ⟨by rfl, ?_⟩) ?_ ?_; rotate_left
                      ·intro w'; go_simp; (with_reducible rfl)
                      rotate_left
                      ·simp only [Act.put, sA, s0, sS, i64_w, i32_w]; rfl
                      refine done_ (done_of HT_.out (by kernel_rfl)) ?_
                      try go_wp2
                      go_meet
                      case rel => exact ⟨_, (false), (by first | rfl | (simp; done) | (simp [*]; done)), H', ⟨by have := HJ11.out; have := HK2.out; have := HK3.out; have := HJ27.out; have := HJ39.out; first | omega | exact Nat.le_refl _⟩, ⟨by (with_reducible repeat (first | apply Kd.R_alloc | apply Kd.R_drewN | apply Kd.R_drew)); exact HO_12.out⟩, ⟨qb HB⟩⟩
                    ·rw [if_neg c47] at H; have c47b0 : decide (((rd_T40 x12_2 (ji23)).f0) < ((rd_T44 l0 x15_3).f4)) = false := decide_eq_false c47; clear c47; have H' := Aside0.mk H; clear H
                     try go_wp2
                     have n0_ := Aside0.mk (Kd.R_drew HO_12.out); have n1_ := Aside0.mk (below_drew1 HB.out); clear HO_12; clear HB; have HO_12 := n0_; have HB := n1_; clear n0_ n1_; have p144 : 0 ≤ (x15_3 : Int) := of_decide_eq_true (by first | (with_reducible assumption) | assumption); have q144 : x15_3 < (l0.length : Int) := of_decide_eq_true (by first | (with_reducible assumption) | assumption); obtain ⟨ad144, e144, hx144_0, hx144_1, hx144_2, hx144_3, hx144_4, hx144_5⟩ := at_T44 HR0.out x15_3 p144 q144; have hw144_5 := hx144_5; have hw144_4 := hx144_4; have hw144_3 := hx144_3; have hw144_2 := hx144_2; have hw144_1 := hx144_1; have hw144_0 := hx144_0
                     cases e144
                     replace hx144_0 := (HB.out.cell (World.block_lt_of_cell? w _ hx144_0)).trans hx144_0; replace hx144_1 := (HB.out.cell (World.block_lt_of_cell? w _ hx144_1)).trans hx144_1; replace hx144_2 := (HB.out.cell (World.block_lt_of_cell? w _ hx144_2)).trans hx144_2; replace hx144_3 := (HB.out.cell (World.block_lt_of_cell? w _ hx144_3)).trans hx144_3; replace hx144_4 := (HB.out.cell (World.block_lt_of_cell? w _ hx144_4)).trans hx144_4; replace hx144_5 := (HB.out.cell (World.block_lt_of_cell? w _ hx144_5)).trans hx144_5; replace p144 := eq_true p144; replace q144 := eq_true q144; refine start_ (n := 35) (S := fun w' => w'.cell? (ad144.add ((x15_3).toNat * 6)) = some (.string ((rd_T44 l0 x15_3).f0)) ∧ w'.cell? ⟨(ad144.add ((x15_3).toNat * 6)).block, (ad144.add ((x15_3).toNat * 6)).off + 1, none⟩ = some (.string ((rd_T44 l0 x15_3).f1)) ∧ w'.cell? ⟨(ad144.add ((x15_3).toNat * 6)).block, (ad144.add ((x15_3).toNat * 6)).off + 2, none⟩ = some (.int .i64 ((rd_T44 l0 x15_3).f2)) ∧ w'.cell? ⟨(ad144.add ((x15_3).toNat * 6)).block, (ad144.add ((x15_3).toNat * 6)).off + 3, none⟩ = some (.int .i64 ((rd_T44 l0 x15_3).f3)) ∧ w'.cell? ⟨(ad144.add ((x15_3).toNat * 6)).block, (ad144.add ((x15_3).toNat * 6)).off + 4, none⟩ = some (.int .i64 ((rd_T44 l0 x15_3).f4)) ∧ w'.cell? ⟨(ad144.add ((x15_3).toNat * 6)).block, (ad144.add ((x15_3).toNat * 6)).off + 5, none⟩ = some (.int .i64 ((rd_T44 l0 x15_3).f5))) (ds := []) (rl_ true [0, 35]).toArray (by kernel_rfl) rfl rfl ⟨((HB.out.cell (World.block_lt_of_cell? w _ hw144_0)).trans hw144_0), ((HB.out.cell (World.block_lt_of_cell? w _ hw144_1)).trans hw144_1), ((HB.out.cell (World.block_lt_of_cell? w _ hw144_2)).trans hw144_2), ((HB.out.cell (World.block_lt_of_cell? w _ hw144_3)).trans hw144_3), ((HB.out.cell (World.block_lt_of_cell? w _ hw144_4)).trans hw144_4), ((HB.out.cell (World.block_lt_of_cell? w _ hw144_5)).trans hw144_5)⟩ (fun hHeld => ?_); refine with_tabW spec_PriceSteps.tab15 spec_PriceSteps.bits15 (fun HT_ HW_ => ?_); generalize wc.drew = w56 at HO_12 HB hx144_0 hx144_1 hx144_2 hx144_3 hx144_4 hx144_5 hHeld ⊢; refine pure_ (i := 0) (N := some 99) (v := ?_) (a' := ?_) (rl_ true [1, 34]).toArray rfl rfl (any_of HT_.out (by kernel_rfl)) (fun _ _ _ h => h) (Or.inl ⟨by rfl, ?_⟩) ?_ ?_; rotate_left
                     ·intro w'; go_simp; (with_reducible rfl)
                     rotate_left
                     ·simp only [Act.put, sA, s0, sS, i64_w, i32_w]; rfl
                     refine pure_ (i := 1) (N := some 100) (v := ?_) (a' := ?_) (rl_ true [2, 33]).toArray rfl rfl (any_of HT_.out (by kernel_rfl)) (fun _ _ _ h => h) (Or.inl ⟨by rfl, ?_⟩) ?_ ?_; rotate_left
                     ·intro w'; go_simp; (with_reducible rfl)
                     rotate_left
                     ·simp only [Act.put, sA, s0, sS, i64_w, i32_w]; rfl
                     refine pure_ (i := 2) (N := some 101) (v := ?_) (a' := ?_) (rl_ true [3, 32]).toArray rfl rfl (any_of HT_.out (by kernel_rfl)) (fun _ _ _ h => h) (Or.inl ⟨by rfl, ?_⟩) ?_ ?_; rotate_left
                     ·intro w'; go_simp; (with_reducible rfl)
                     rotate_left
                     ·simp only [Act.put, sA, s0, sS, i64_w, i32_w]; rfl
                     refine pure_ (i := 3) (N := some 102) (v := ?_) (a' := ?_) (rl_ true [4, 31]).toArray rfl rfl (any_of HT_.out (by kernel_rfl)) (fun _ _ _ h => h) (Or.inl ⟨by rfl, ?_⟩) ?_ ?_; rotate_left
                     ·intro w'; go_simp; (with_reducible rfl)
                     rotate_left
                     ·simp only [Act.put, sA, s0, sS, i64_w, i32_w]; rfl
                     refine pure_ (i := 5) (N := some 104) (v := ?_) (a' := ?_) (rl_ true [4, 1, 1, 29]).toArray rfl rfl (any_of HT_.out (by kernel_rfl)) (fun _ _ _ h => h) (Or.inl ⟨by rfl, ?_⟩) ?_ ?_; rotate_left
                     ·intro w'; go_simp; (with_reducible rfl)
                     rotate_left
                     ·simp only [Act.put, sA, s0, sS, i64_w, i32_w]; rfl
                     refine take_ (i := 4) (N := some 103) (v := ?_) (a' := ?_) (rl_ true [6, 29]).toArray rfl rfl (take_ofW HT_.out HW_.out (by kernel_rfl)) (fun _ _ _ h => h) (Or.inl ⟨by rfl, ?_⟩) hHeld ?_ ?_; rotate_left
                     ·rintro w' ⟨s0, s1, s2, s3, s4, s5⟩; go_simp; (with_reducible rfl)
                     rotate_left
                     ·simp only [Act.put, sA, s0, sS, i64_w, i32_w]; rfl
                     refine pure_ (i := 6) (N := some 105) (v := ?_) (a' := ?_) (rl_ true [7, 28]).toArray rfl rfl (any_of HT_.out (by kernel_rfl)) (fun _ _ _ h => h) (Or.inl ⟨by rfl, ?_⟩) ?_ ?_; rotate_left
                     ·intro w'; go_simp; (with_reducible rfl)
                     rotate_left
                     ·simp only [Act.put, sA, s0, sS, i64_w, i32_w]; rfl
                     refine pure_ (i := 7) (N := some 106) (v := ?_) (a' := ?_) (rl_ true [8, 27]).toArray rfl rfl (any_of HT_.out (by kernel_rfl)) (fun _ _ _ h => h) (Or.inl ⟨by rfl, ?_⟩) ?_ ?_; rotate_left
                     ·intro w'; go_simp; (with_reducible rfl)
                     rotate_left
                     ·simp only [Act.put, sA, s0, sS, i64_w, i32_w]; rfl
                     refine pure_ (i := 8) (N := some 107) (v := undef) (a' := ?_) (rl_ true [9, 26]).toArray rfl rfl (any_of HT_.out (by kernel_rfl)) (fun _ _ _ h => h) (Or.inr ⟨by rfl, rfl⟩) ?_ ?_; rotate_left
                     ·simp only [Act.put, sA, s0, sS, i64_w, i32_w]; rfl
                     refine pure_ (i := 9) (N := some 108) (v := undef) (a' := ?_) (rl_ true [10, 25]).toArray rfl rfl (any_of HT_.out (by kernel_rfl)) (fun _ _ _ h => h) (Or.inr ⟨by rfl, rfl⟩) ?_ ?_; rotate_left
                     ·simp only [Act.put, sA, s0, sS, i64_w, i32_w]; rfl
                     refine pure_ (i := 10) (N := some 109) (v := undef) (a' := ?_) (rl_ true [11, 24]).toArray rfl rfl (any_of HT_.out (by kernel_rfl)) (fun _ _ _ h => h) (Or.inr ⟨by rfl, rfl⟩) ?_ ?_; rotate_left
                     ·simp only [Act.put, sA, s0, sS, i64_w, i32_w]; rfl
                     refine pure_ (i := 11) (N := some 110) (v := undef) (a' := ?_) (rl_ true [12, 23]).toArray rfl rfl (any_of HT_.out (by kernel_rfl)) (fun _ _ _ h => h) (Or.inr ⟨by rfl, rfl⟩) ?_ ?_; rotate_left
                     ·simp only [Act.put, sA, s0, sS, i64_w, i32_w]; rfl
                     refine pure_ (i := 12) (N := some 111) (v := undef) (a' := ?_) (rl_ true [13, 22]).toArray rfl rfl (any_of HT_.out (by kernel_rfl)) (fun _ _ _ h => h) (Or.inr ⟨by rfl, rfl⟩) ?_ ?_; rotate_left
                     ·simp only [Act.put, sA, s0, sS, i64_w, i32_w]; rfl
                     refine pure_ (i := 13) (N := some 112) (v := undef) (a' := ?_) (rl_ true [14, 21]).toArray rfl rfl (any_of HT_.out (by kernel_rfl)) (fun _ _ _ h => h) (Or.inr ⟨by rfl, rfl⟩) ?_ ?_; rotate_left
                     ·simp only [Act.put, sA, s0, sS, i64_w, i32_w]; rfl
                     refine pure_ (i := 14) (N := some 113) (v := undef) (a' := ?_) (rl_ true [15, 20]).toArray rfl rfl (any_of HT_.out (by kernel_rfl)) (fun _ _ _ h => h) (Or.inr ⟨by rfl, rfl⟩) ?_ ?_; rotate_left
                     ·simp only [Act.put, sA, s0, sS, i64_w, i32_w]; rfl
                     refine pure_ (i := 15) (N := some 114) (v := ?_) (a' := ?_) (rl_ true [16, 19]).toArray rfl rfl (any_of HT_.out (by kernel_rfl)) (fun _ _ _ h => h) (Or.inl ⟨by rfl, ?_⟩) ?_ ?_; rotate_left
                     ·intro w'; go_simp; (with_reducible rfl)
                     rotate_left
                     ·simp only [Act.put, sA, s0, sS, i64_w, i32_w]; rfl
                     refine pure_ (i := 16) (N := some 115) (v := ?_) (a' := ?_) (rl_ true [17, 18]).toArray rfl rfl (any_of HT_.out (by kernel_rfl)) (fun _ _ _ h => h) (Or.inl ⟨by rfl, ?_⟩) ?_ ?_; rotate_left
                     ·intro w'; go_simp; (with_reducible rfl)
                     rotate_left
                     ·simp only [Act.put, sA, s0, sS, i64_w, i32_w]; rfl
                     refine pure_ (i := 17) (N := some 116) (v := undef) (a' := ?_) (rl_ true [18, 17]).toArray rfl rfl (any_of HT_.out (by kernel_rfl)) (fun _ _ _ h => h) (Or.inr ⟨by rfl, rfl⟩) ?_ ?_; rotate_left
                     ·simp only [Act.put, sA, s0, sS, i64_w, i32_w]; rfl
                     refine pure_ (i := 18) (N := some 117) (v := undef) (a' := ?_) (rl_ true [19, 16]).toArray rfl rfl (any_of HT_.out (by kernel_rfl)) (fun _ _ _ h => h) (Or.inr ⟨by rfl, rfl⟩) ?_ ?_; rotate_left
                     ·simp only [Act.put, sA, s0, sS, i64_w, i32_w]; rfl
                     refine pure_ (i := 19) (N := some 118) (v := undef) (a' := ?_) (rl_ true [20, 15]).toArray rfl rfl (any_of HT_.out (by kernel_rfl)) (fun _ _ _ h => h) (Or.inr ⟨by rfl, rfl⟩) ?_ ?_; rotate_left
                     ·simp only [Act.put, sA, s0, sS, i64_w, i32_w]; rfl
                     refine pure_ (i := 20) (N := some 119) (v := undef) (a' := ?_) (rl_ true [21, 14]).toArray rfl rfl (any_of HT_.out (by kernel_rfl)) (fun _ _ _ h => h) (Or.inr ⟨by rfl, rfl⟩) ?_ ?_; rotate_left
                     ·simp only [Act.put, sA, s0, sS, i64_w, i32_w]; rfl
                     refine pure_ (i := 21) (N := some 120) (v := undef) (a' := ?_) (rl_ true [22, 13]).toArray rfl rfl (any_of HT_.out (by kernel_rfl)) (fun _ _ _ h => h) (Or.inr ⟨by rfl, rfl⟩) ?_ ?_; rotate_left
                     ·simp only [Act.put, sA, s0, sS, i64_w, i32_w]; rfl
                     refine pure_ (i := 22) (N := some 121) (v := undef) (a' := ?_) (rl_ true [23, 12]).toArray rfl rfl (any_of HT_.out (by kernel_rfl)) (fun _ _ _ h => h) (Or.inr ⟨by rfl, rfl⟩) ?_ ?_; rotate_left
                     ·simp only [Act.put, sA, s0, sS, i64_w, i32_w]; rfl
                     refine pure_ (i := 23) (N := some 122) (v := undef) (a' := ?_) (rl_ true [24, 11]).toArray rfl rfl (any_of HT_.out (by kernel_rfl)) (fun _ _ _ h => h) (Or.inr ⟨by rfl, rfl⟩) ?_ ?_; rotate_left
                     ·simp only [Act.put, sA, s0, sS, i64_w, i32_w]; rfl
                     refine pure_ (i := 24) (N := some 123) (v := undef) (a' := ?_) (rl_ true [25, 10]).toArray rfl rfl (any_of HT_.out (by kernel_rfl)) (fun _ _ _ h => h) (Or.inr ⟨by rfl, rfl⟩) ?_ ?_; rotate_left
                     ·simp only [Act.put, sA, s0, sS, i64_w, i32_w]; rfl
                     refine pure_ (i := 25) (N := some 124) (v := undef) (a' := ?_) (rl_ true [26, 9]).toArray rfl rfl (any_of HT_.out (by kernel_rfl)) (fun _ _ _ h => h) (Or.inr ⟨by rfl, rfl⟩) ?_ ?_; rotate_left
                     ·simp only [Act.put, sA, s0, sS, i64_w, i32_w]; rfl
                     refine pure_ (i := 26) (N := some 125) (v := undef) (a' := ?_) (rl_ true [27, 8]).toArray rfl rfl (any_of HT_.out (by kernel_rfl)) (fun _ _ _ h => h) (Or.inr ⟨by rfl, rfl⟩) ?_ ?_; rotate_left
                     ·simp only [Act.put, sA, s0, sS, i64_w, i32_w]; rfl
                     refine pure_ (i := 27) (N := some 126) (v := undef) (a' := ?_) (rl_ true [28, 7]).toArray rfl rfl (any_of HT_.out (by kernel_rfl)) (fun _ _ _ h => h) (Or.inr ⟨by rfl, rfl⟩) ?_ ?_; rotate_left
                     ·simp only [Act.put, sA, s0, sS, i64_w, i32_w]; rfl
                     refine pure_ (i := 28) (N := some 127) (v := undef) (a' := ?_) (rl_ true [29, 6]).toArray rfl rfl (any_of HT_.out (by kernel_rfl)) (fun _ _ _ h => h) (Or.inr ⟨by rfl, rfl⟩) ?_ ?_; rotate_left
                     ·simp only [Act.put, sA, s0, sS, i64_w, i32_w]; rfl
                     refine pure_ (i := 29) (N := some 128) (v := undef) (a' := ?_) (rl_ true [30, 5]).toArray rfl rfl (any_of HT_.out (by kernel_rfl)) (fun _ _ _ h => h) (Or.inr ⟨by rfl, rfl⟩) ?_ ?_; rotate_left
                     ·simp only [Act.put, sA, s0, sS, i64_w, i32_w]; rfl
                     refine pure_ (i := 30) (N := some 129) (v := undef) (a' := ?_) (rl_ true [31, 4]).toArray rfl rfl (any_of HT_.out (by kernel_rfl)) (fun _ _ _ h => h) (Or.inr ⟨by rfl, rfl⟩) ?_ ?_; rotate_left
                     ·simp only [Act.put, sA, s0, sS, i64_w, i32_w]; rfl
                     refine pure_ (i := 31) (N := some 130) (v := undef) (a' := ?_) (rl_ true [32, 3]).toArray rfl rfl (any_of HT_.out (by kernel_rfl)) (fun _ _ _ h => h) (Or.inr ⟨by rfl, rfl⟩) ?_ ?_; rotate_left
                     ·simp only [Act.put, sA, s0, sS, i64_w, i32_w]; rfl
                     refine pure_ (i := 32) (N := some 131) (v := undef) (a' := ?_) (rl_ true [33, 2]).toArray rfl rfl (any_of HT_.out (by kernel_rfl)) (fun _ _ _ h => h) (Or.inr ⟨by rfl, rfl⟩) ?_ ?_; rotate_left
                     ·simp only [Act.put, sA, s0, sS, i64_w, i32_w]; rfl
                     refine pure_ (i := 33) (N := some 132) (v := undef) (a' := ?_) (rl_ true [34, 1]).toArray rfl rfl (any_of HT_.out (by kernel_rfl)) (fun _ _ _ h => h) (Or.inr ⟨by rfl, rfl⟩) ?_ ?_; rotate_left
                     ·simp only [Act.put, sA, s0, sS, i64_w, i32_w]; rfl
                     refine pure_ (i := 34) (N := some 133) (v := ?_) (a' := ?_) (rl_ true [35]).toArray rfl rfl (any_of HT_.out (by kernel_rfl)) (fun _ _ _ h => h) (Or.inl ⟨by rfl, ?_⟩) ?_ ?_; rotate_left
                     ·intro w'; go_simp; (with_reducible rfl)
                     rotate_left
                     ·simp only [Act.put, sA, s0, sS, i64_w, i32_w]; rfl
                     refine done_ (done_of HT_.out (by kernel_rfl)) ?_
                     try go_wp2
                     go_meet
                     case rel => exact ⟨_, (false), (by first | rfl | (simp; done) | (simp [*]; done)), H', ⟨by have := HJ11.out; have := HK2.out; have := HK3.out; have := HJ27.out; have := HJ39.out; first | omega | exact Nat.le_refl _⟩, ⟨by (with_reducible repeat (first | apply Kd.R_alloc | apply Kd.R_drewN | apply Kd.R_drew)); exact HO_12.out⟩, ⟨qb HB⟩⟩
                   ·rw [if_neg c46] at H; exact absurd H (by simp)
                  ·rw [if_neg c45] at H; exact absurd H (by simp)
                 case rest =>
                  clear HC44; (try clear p1); (try clear q1); (try clear hx1); (try clear c2); (try clear p2); (try clear c4); (try clear c5); (try clear p14); (try clear q14); (try clear hx14); (try clear c22); (try clear c45); (try clear c46); (try clear c47); (try clear c47b0); (try clear c48); (try clear c48b0); (try clear c51); (try clear c52); (try clear hx144_0); (try clear hx144_1); (try clear hx144_2); (try clear hx144_3); (try clear hx144_4); (try clear hx144_5); (try clear hx145_0); (try clear hx145_1); (try clear hx145_2); (try clear hx145_3); (try clear hx145_4); (try clear hx145_5); (try clear p144); (try clear p145); (try clear q144); (try clear q145); obtain ⟨kq, x133_43, rfl, HA, HJ43, HO_12, HB⟩ := hcut
                  cases kq with
                  | zero => exact absurd HA.out (by simp [spec_PriceSteps.j5])
                  | succ kj43 =>
                   have H := HA.out; clear HA; simp only [spec_PriceSteps.j5] at H; by_cases c57 : x133_43 = true
                   ·subst c57
                    have H1 : (if 0 ≤ x15_3 then (if x15_3 < (l0.length : Int) then (spec_PriceSteps.l1 kj43 l0 a1 a2 a4 x12_2 ((rd_T44 l0 x15_3).f4) ((rd_T40 x12_2 (ji23)).f0) (wrap64 (x15_3 + 1))) else (none)) else (none)) = some (r1, r2) := by rw [if_pos rfl] at H; exact H
                    clear H; have H := H1; clear H1; by_cases c58 : 0 ≤ x15_3
                    ·rw [if_pos c58] at H; have c58b0 : decide (0 ≤ x15_3) = true := decide_eq_true c58; clear c58; by_cases c59 : x15_3 < (l0.length : Int)
                     ·rw [if_pos c59] at H; have c59b0 : decide (x15_3 < (l0.length : Int)) = true := decide_eq_true c59; clear c59; have H' := Aside0.mk H; clear H; have p149 : 0 ≤ (x15_3 : Int) := of_decide_eq_true (by first | (with_reducible assumption) | assumption); have q149 : x15_3 < (l0.length : Int) := of_decide_eq_true (by first | (with_reducible assumption) | assumption); obtain ⟨ad149, e149, hx149_0, hx149_1, hx149_2, hx149_3, hx149_4, hx149_5⟩ := at_T44 HR0.out x15_3 p149 q149
                      cases e149
                      replace hx149_0 := (HB.out.cell (World.block_lt_of_cell? w _ hx149_0)).trans hx149_0; replace hx149_1 := (HB.out.cell (World.block_lt_of_cell? w _ hx149_1)).trans hx149_1; replace hx149_2 := (HB.out.cell (World.block_lt_of_cell? w _ hx149_2)).trans hx149_2; replace hx149_3 := (HB.out.cell (World.block_lt_of_cell? w _ hx149_3)).trans hx149_3; replace hx149_4 := (HB.out.cell (World.block_lt_of_cell? w _ hx149_4)).trans hx149_4; replace hx149_5 := (HB.out.cell (World.block_lt_of_cell? w _ hx149_5)).trans hx149_5; replace p149 := eq_true p149; replace q149 := eq_true q149; go_wp2
                      go_roundg kj43
                      case measure => have := HJ11.out; have := HK2.out; have := HK3.out; have := HJ27.out; have := HJ39.out; have := HJ43.out; omega
                      case rel => exact ⟨((rd_T44 l0 x15_3).f4), (wrap64 (x15_3 + 1)), (by first | rfl | (simp; done) | (simp [*]; done)), (by first | rfl | (simp; done) | (simp [*]; done)), H', ⟨by have := HJ11.out; have := HK2.out; have := HK3.out; have := HJ27.out; have := HJ39.out; have := HJ43.out; omega⟩, ⟨by (with_reducible repeat (first | apply Kd.R_alloc | apply Kd.R_drewN | apply Kd.R_drew)); exact HO_12.out⟩, ⟨qb HB⟩⟩
                     ·rw [if_neg c59] at H; exact absurd H (by simp)
                    ·rw [if_neg c58] at H; exact absurd H (by simp)
                   ·replace c57 := Bool.eq_false_iff.mpr c57; subst c57
                    have H1 : (spec_PriceSteps.l1 kj43 l0 a1 a2 a4 x12_2 x13_39 ((rd_T40 x12_2 (ji23)).f0) (wrap64 (x15_3 + 1))) = some (r1, r2) := by rw [if_neg (show ¬ (false = true) by decide)] at H; exact H
                    clear H; have H := H1; clear H1; have H' := Aside0.mk H; clear H; go_wp2
                    go_roundg kj43
                    case measure => have := HJ11.out; have := HK2.out; have := HK3.out; have := HJ27.out; have := HJ39.out; have := HJ43.out; omega
                    case rel => exact ⟨(x13_39), (wrap64 (x15_3 + 1)), (by first | rfl | (simp; done) | (simp [*]; done)), (by first | rfl | (simp; done) | (simp [*]; done)), H', ⟨by have := HJ11.out; have := HK2.out; have := HK3.out; have := HJ27.out; have := HJ39.out; have := HJ43.out; omega⟩, ⟨by (with_reducible repeat (first | apply Kd.R_alloc | apply Kd.R_drewN | apply Kd.R_drew)); exact HO_12.out⟩, ⟨qb HB⟩⟩
            ·rw [if_neg c27] at H; have c27b0 : decide (x15_3 < (l0.length : Int)) = false := decide_eq_false c27; clear c27; by_cases c60 : x13_3 = a4
             ·rw [if_pos c60] at H; have c60b0 : (x13_3 == a4) = true := beq_iff_eq.mpr c60; have c60b1 : (x13_3 != a4) = false := bne_eq_false_iff_eq.mpr c60; clear c60; simp only [Option.some.injEq, Prod.mk.injEq] at H; obtain ⟨rfl, rfl⟩ := H; go_wp2; go_ret2; exact ⟨_, by first | rfl | (simp [errW_none, errW_some] <;> rfl) | (simp only [← hji23]; first | rfl | (simp [errW_none, errW_some] <;> rfl)) | (simp [*, errW_none, errW_some] <;> rfl), by (with_reducible repeat (first | apply Kd.R_alloc | apply Kd.R_drewN | apply Kd.R_drew)); exact HO_12.out, qb HB⟩
             ·rw [if_neg c60] at H; have c60b0 : (x13_3 == a4) = false := beq_eq_false_iff_ne.mpr c60; have c60b1 : (x13_3 != a4) = true := bne_iff_ne.mpr c60; replace H := Option.bind_eq_some_iff.mp H; obtain ⟨t150, A610, H⟩ := H; replace H : (if x12_2.length < 8796093022208 then (spec_PriceSteps.l0 k3 l0 a1 a2 a4 (x12_2 ++ [(⟨x13_3, t150⟩ : S40)])) else (none)) = some (r1, r2) := H; have A61 := Aside0.mk A610; clear A610; by_cases c62 : x12_2.length < 8796093022208
              ·rw [if_pos c62] at H; have LMc62 := Aside0.mk c62; clear c62; obtain ⟨y151, hy151⟩ : ∃ y_ : List (S40), y_ = (x12_2 ++ [(⟨x13_3, t150⟩ : S40)]) := ⟨_, rfl⟩
               replace H : (spec_PriceSteps.l0 k3 l0 a1 a2 a4 y151) = some (r1, r2) := by first | (rw [hy151]; with_reducible exact H) | (have H2_ := (Option.bind_some _ _).symm.trans H; rw [hy151]; with_reducible exact H2_) | (have H2_ := (Option.bind_some _ _).symm.trans H; with_reducible exact H2_) | with_reducible exact H | (rw [hy151]; exact H) | exact H
               have Ny151 := Aside0.mk hy151; clear hy151; have H' := Aside0.mk H; clear H
               go_wp2_with (first | ((with_reducible refine gate_callee (f := 22) rfl ?_); refine goesL_ (some 149) rfl rfl Try.func22 (by kernel_rfl) rfl #[.slice A0 l0.length c0, .string a1, .string a2, .int .i64 x13_3] rfl mq ?_; (with_reducible refine (spec_l04Amount.calls k3 _ _ l0 a1 a2 x13_3 t150 _ ?side1 ?side2 A61.out).mono ?_); (case side1 => repeat (first | exact (Kd.C_below HR0.out HB.out) | (with_reducible refine Kd.C_alloc ?_ _) | (with_reducible refine Kd.C_drewN ?_ _) | (with_reducible refine Kd.C_drew ?_))); (case side2 => exact HC0.out); rintro e w63 ⟨rfl, hb⟩; refine ⟨_, rfl, ?_⟩; have n0_ := Aside0.mk (Kd.R_below (qr HO_12) hb); have n1_ := Aside0.mk (below_step (qb HB) hb); clear HO_12; clear HB; have HO_12 := n0_; have HB := n1_; clear n0_ n1_; (try clear hb); (try clear hb2); (try clear hk); (try clear hi)) | ((with_reducible refine gate_builtin (b := .append) (xs := #[.tmp 143, .tmp 151]) rfl ?_); (try (refine gate_guard (by rfl) ?_; dsimp only)); at_builtin; refine Kd.R_append k40 (w0 := w) w.heap.size rfl (.tmp 143) (.tmp 151) 24 40 (.agg #[(.int .i64 0), (.int .i64 0)]) 16 rfl Try.underlying24 info40 rfl (by decide) (by omega) (.slice (some ad137) x12_2.length co26) x12_2 (⟨x13_3, t150⟩ : S40) [.int .i64 x13_3, .int .i64 t150] (fun _ => True) (fun _ => False) rfl rfl ?aP (fun _ hk => hk.elim) ?aF ?aO ?aB ?aS ?aL ?_; (case aP => exact k40_mkM _ _ _ (⟨x13_3, t150⟩ : S40)); (case aB => exact (qb HB)); (case aF => exact (fun _ _ => trivial)); (case aO => exact (qr HO_12)); (case aS => exact (below_size (qb HB))); (case aL => have := LMc62.out; omega); intro v152 w64 ho hb hg hat; rw [← Ny151.out] at ho; have n0_ := Aside0.mk (hb); have n1_ := Aside0.mk (ho); clear HB; clear HO_12; have HB := n0_; have HO153 := n1_; clear n0_ n1_; clear ho hb hg hat))
               go_roundg k3
               case measure => have := HJ11.out; have := HK2.out; have := HK3.out; omega
               case rel => exact ⟨(y151), H', ⟨by have := HJ11.out; have := HK2.out; have := HK3.out; omega⟩, ⟨by (with_reducible repeat (first | apply Kd.R_alloc | apply Kd.R_drewN | apply Kd.R_drew)); exact HO153.out⟩, ⟨qb HB⟩⟩
              ·rw [if_neg c62] at H; exact absurd H (by simp)
         ·rw [if_neg c25] at H; exact absurd H (by simp)
        ·rw [if_neg c24] at H; exact absurd H (by simp)
  ·replace c11 := Bool.eq_false_iff.mpr c11; subst c11
   have H1 : (some ((([] : List (S40))), 1)) = some (r1, r2) := by rw [if_neg (show ¬ (false = true) by decide)] at H; exact H
   clear H; have H := H1; clear H1; obtain ⟨y127, hy127⟩ : ∃ y_ : List (S40), y_ = (([] : List (S40))) := ⟨_, rfl⟩
   replace H : (some (y127, 1)) = some (r1, r2) := by first | (rw [hy127]; with_reducible exact H) | (have H2_ := (Option.bind_some _ _).symm.trans H; rw [hy127]; with_reducible exact H2_) | (have H2_ := (Option.bind_some _ _).symm.trans H; with_reducible exact H2_) | with_reducible exact H | (rw [hy127]; exact H) | exact H
   have Ny127 := Aside0.mk hy127; clear hy127; simp only [Option.some.injEq, Prod.mk.injEq] at H; obtain ⟨rfl, rfl⟩ := H; go_enter Try.func6, Try.ntmps6
   go_wp2_with (first | ((with_reducible refine gate_callee (f := 20) rfl ?_); refine goesL_ (some 19) rfl rfl Try.func20 (by kernel_rfl) rfl #[.slice A0 l0.length c0, .string a1, .string a2] rfl mq ?_; (with_reducible refine (spec_l04Long.calls _ _ l0 a1 a2 false _ ?side1 ?side2 A6.out).mono ?_); (case side1 => repeat (first | exact HR0.out | (with_reducible refine Kd.C_alloc ?_ _) | (with_reducible refine Kd.C_drewN ?_ _) | (with_reducible refine Kd.C_drew ?_))); (case side2 => exact HC0.out); rintro e w' ⟨rfl, ⟨nd, rfl⟩⟩; refine ⟨_, rfl, ?_⟩) | ((with_reducible refine gate_callee (f := 21) rfl ?_); refine goesL_ (some 22) rfl rfl Try.func21 (by kernel_rfl) rfl #[.slice A0 l0.length c0] rfl mq ?_; (with_reducible refine (spec_PricesOK.calls k _ _ l0 false _ ?side1 ?side2 A10.out).mono ?_); (case side1 => repeat (first | exact HR0.out | (with_reducible refine Kd.C_alloc ?_ _) | (with_reducible refine Kd.C_drewN ?_ _) | (with_reducible refine Kd.C_drew ?_))); (case side2 => exact HC0.out); rintro e w65 ⟨rfl, hb⟩; refine ⟨_, rfl, ?_⟩; have n0_ := Aside0.mk (below_step (qb HB) hb); clear HB; have HB := n0_; clear n0_; (try clear hb); (try clear hb2); (try clear hk); (try clear hi)) | ((with_reducible refine gate_dst (N := 24) rfl ?_); (try (refine gate_guard (by rfl) ?_; dsimp only)); refine Kd.R_lit k40 _ 40 ?hg (N := 24) ?hd (xs := ([] : List (S40))) (inner := []) (ok := fun _ => True) (okp := fun _ => True) ?hr ?hp (fun _ hk => hk) trivial (Below.refl _ _) (Nat.le_refl _) (by simp) ?_; (case hd => rfl); (case hg => rfl); (case hr => first | (go_simp; done) | (go_simp; rfl)); (case hp => exact (Reps.none _ _)); intro v128 w66 ho67 hb hg_ hnew_; clear hg_ hnew_; (first | rw [← Ny127.out] at ho67 | (simp only [Int.reduceToNat] at ho67; rw [← Ny127.out] at ho67)); have n0_ := Aside0.mk (Kd.R_lower ho67 (below_size (qb HB))); have n1_ := Aside0.mk (below_step (qb HB) hb); clear HB; have HO129 := n0_; have HB := n1_; clear n0_ n1_; clear hb ho67))
   go_ret2; exact ⟨_, by first | rfl | (simp [errW_none, errW_some] <;> rfl) | (simp [*, errW_none, errW_some] <;> rfl), by (with_reducible repeat (first | apply Kd.R_alloc | apply Kd.R_drewN | apply Kd.R_drew)); exact HO129.out, qb HB⟩

/-! ### laws_toPriceRow: function 23 -/
def laws_toPriceRow.f (a0_0 : ByteArray) (a0_1 : ByteArray) (a0_2 : Int) (a0_3 : Int) (a0_4 : Int) (a0_5 : Int) : Option (ByteArray × ByteArray × Int × Int × Int × Int) := some (a0_0, a0_1, a0_2, a0_3, a0_4, a0_5)
set_option maxHeartbeats 8000000 in
set_option maxRecDepth 100000 in
theorem laws_toPriceRow.calls (a0_0 : ByteArray) (a0_1 : ByteArray) (a0_2 : Int) (a0_3 : Int) (a0_4 : Int) (a0_5 : Int) (r1 : ByteArray) (r2 : ByteArray) (r3 : Int) (r4 : Int) (r5 : Int) (r6 : Int) (w : World) (h : laws_toPriceRow.f a0_0 a0_1 a0_2 a0_3 a0_4 a0_5 = some (r1, r2, r3, r4, r5, r6)) :
  Calls Try.prog 23 #[.agg #[.string a0_0, .string a0_1, .int .i64 a0_2, .int .i64 a0_3, .int .i64 a0_4, .int .i64 a0_5]] w fun e w' => e = .returned (.agg #[.string r1, .string r2, .int .i64 r3, .int .i64 r4, .int .i64 r5, .int .i64 r6]) ∧ Below w.heap.size w w' := by
 have hu47 := Try.underlying47; have hu44 := Try.underlying44; have HB := Aside0.mk (Below.refl w.heap.size w); have H : (some (a0_0, a0_1, a0_2, a0_3, a0_4, a0_5)) = some (r1, r2, r3, r4, r5, r6) := h; clear h; simp only [Option.some.injEq, Prod.mk.injEq] at H; obtain ⟨rfl, rfl, rfl, rfl, rfl, rfl⟩ := H; go_enter Try.func23, Try.ntmps23
 go_wp2_with (first | ((with_reducible refine gate_dst (N := 1) rfl ?_); refine box_event ?hg (N := 1) ?hd (cs := #[.string a0_0, .string a0_1, .int .i64 a0_2, .int .i64 a0_3, .int .i64 a0_4, .int .i64 a0_5]) (t := 47) ?hr ?_; (case hd => rfl); (case hg => rfl); (case hr => first | (go_simp; done) | (go_simp; rfl)); intro gb154 hg w2 hbox hb; have n0_ := Aside0.mk (below_step (qb HB) hb); have n1_ := Aside0.mk (hbox); have n2_ := Aside0.mk ((by rw [hg]; exact (below_size (qb HB)) : w.heap.size ≤ gb154)); have n3_ := Aside0.mk ((by rw [hg]; exact (below_size (qb HB)) : w.heap.size ≤ gb154)); clear HB; have HB := n0_; have BK154 := n1_; have GW154 := n2_; have GE154 := n3_; clear n0_ n1_ n2_ n3_; clear hb hbox hg) | ((with_reducible refine gate_dst (N := 2) rfl ?_); refine box_event ?hg (N := 2) ?hd (cs := #[.string (⟨#[]⟩ : ByteArray), .string (⟨#[]⟩ : ByteArray), .int .i64 0, .int .i64 0, .int .i64 0, .int .i64 0]) (t := 44) ?hr ?_; (case hd => rfl); (case hg => rfl); (case hr => first | (go_simp; done) | (go_simp; rfl)); intro gb155 hg w3 hbox hb; have n0_ := Aside0.mk (blk_below (bq BK154) hb); have n1_ := Aside0.mk (below_step (qb HB) hb); have n2_ := Aside0.mk (hbox); have n3_ := Aside0.mk ((by rw [hg]; exact (below_size (qb HB)) : w.heap.size ≤ gb155)); have n4_ := Aside0.mk ((by rw [hg]; exact (below_size (qb HB)) : w.heap.size ≤ gb155)); have n5_ := Aside0.mk ((by rw [hg]; exact Nat.ne_of_lt (blk_lt (bq BK154)) : gb154 ≠ gb155)); have n6_ := Aside0.mk ((by rw [hg]; exact Nat.ne_of_gt (blk_lt (bq BK154)) : gb155 ≠ gb154)); clear BK154; clear HB; have BK154 := n0_; have HB := n1_; have BK155 := n2_; have GW155 := n3_; have GE155 := n4_; have NB154_155 := n5_; have NB155_154 := n6_; clear n0_ n1_ n2_ n3_ n4_ n5_ n6_; clear hb hbox hg) | ((with_reducible refine gate_dst (N := 3) rfl ?_); refine box_event ?hg (N := 3) ?hd (cs := #[.string (⟨#[]⟩ : ByteArray), .string (⟨#[]⟩ : ByteArray), .int .i64 0, .int .i64 0, .int .i64 0, .int .i64 0]) (t := 44) ?hr ?_; (case hd => rfl); (case hg => rfl); (case hr => first | (go_simp; done) | (go_simp; rfl)); intro gb156 hg w4 hbox hb; have n0_ := Aside0.mk (blk_below (bq BK154) hb); have n1_ := Aside0.mk (blk_below (bq BK155) hb); have n2_ := Aside0.mk (below_step (qb HB) hb); have n3_ := Aside0.mk (hbox); have n4_ := Aside0.mk ((by rw [hg]; exact (below_size (qb HB)) : w.heap.size ≤ gb156)); have n5_ := Aside0.mk ((by rw [hg]; exact (below_size (qb HB)) : w.heap.size ≤ gb156)); have n6_ := Aside0.mk ((by rw [hg]; exact Nat.ne_of_lt (blk_lt (bq BK154)) : gb154 ≠ gb156)); have n7_ := Aside0.mk ((by rw [hg]; exact Nat.ne_of_gt (blk_lt (bq BK154)) : gb156 ≠ gb154)); have n8_ := Aside0.mk ((by rw [hg]; exact Nat.ne_of_lt (blk_lt (bq BK155)) : gb155 ≠ gb156)); have n9_ := Aside0.mk ((by rw [hg]; exact Nat.ne_of_gt (blk_lt (bq BK155)) : gb156 ≠ gb155)); clear BK154; clear BK155; clear HB; have BK154 := n0_; have BK155 := n1_; have HB := n2_; have BK156 := n3_; have GW156 := n4_; have GE156 := n5_; have NB154_156 := n6_; have NB156_154 := n7_; have NB155_156 := n8_; have NB156_155 := n9_; clear n0_ n1_ n2_ n3_ n4_ n5_ n6_ n7_ n8_ n9_; clear hb hbox hg; have hnb5 := NB154_155.out; have hnc5 := NB155_154.out; have hnb6 := NB154_156.out; have hnc6 := NB156_154.out; obtain ⟨hcz7_0, hcz7_1, hcz7_2, hcz7_3, hcz7_4, hcz7_5, hfz7_0, hfz7_1, hfz7_2, hfz7_3, hfz7_4, hfz7_5⟩ := bz6 BK154; have hnb8 := NB156_155.out; have hnc8 := NB155_156.out; obtain ⟨hcz9_0, hcz9_1, hcz9_2, hcz9_3, hcz9_4, hcz9_5, hfz9_0, hfz9_1, hfz9_2, hfz9_3, hfz9_4, hfz9_5⟩ := bz6 BK156; obtain ⟨hcz10_0, hcz10_1, hcz10_2, hcz10_3, hcz10_4, hcz10_5, hfz10_0, hfz10_1, hfz10_2, hfz10_3, hfz10_4, hfz10_5⟩ := bz6 BK155))
 refine bodyPost_ret (results_cell_row rfl _ _ gb155 44 #[.string a0_0, .string a0_1, .int .i64 a0_2, .int .i64 a0_3, .int .i64 a0_4, .int .i64 a0_5] (0, 0) _ rfl (by (with_reducible repeat (first | refine blk_drewN ?_ _ | refine blk_drew ?_ | refine blk_alloc ?_ _)); refine blk_put (cs := #[.string a0_0, .string a0_1, .int .i64 a0_2, .int .i64 a0_3, .int .i64 a0_4, .int .i64 0]) ?_ 5 _ rfl; (with_reducible repeat (first | refine blk_drewN ?_ _ | refine blk_drew ?_ | refine blk_alloc ?_ _)); refine blk_put (cs := #[.string a0_0, .string a0_1, .int .i64 a0_2, .int .i64 a0_3, .int .i64 0, .int .i64 0]) ?_ 4 _ rfl; (with_reducible repeat (first | refine blk_drewN ?_ _ | refine blk_drew ?_ | refine blk_alloc ?_ _)); refine blk_put (cs := #[.string a0_0, .string a0_1, .int .i64 a0_2, .int .i64 0, .int .i64 0, .int .i64 0]) ?_ 3 _ rfl; (with_reducible repeat (first | refine blk_drewN ?_ _ | refine blk_drew ?_ | refine blk_alloc ?_ _)); refine blk_put (cs := #[.string a0_0, .string a0_1, .int .i64 0, .int .i64 0, .int .i64 0, .int .i64 0]) ?_ 2 _ rfl; (with_reducible repeat (first | refine blk_drewN ?_ _ | refine blk_drew ?_ | refine blk_alloc ?_ _)); refine blk_put (cs := #[.string a0_0, .string (⟨#[]⟩ : ByteArray), .int .i64 0, .int .i64 0, .int .i64 0, .int .i64 0]) ?_ 1 _ rfl; (with_reducible repeat (first | refine blk_drewN ?_ _ | refine blk_drew ?_ | refine blk_alloc ?_ _)); refine blk_put (cs := #[.string (⟨#[]⟩ : ByteArray), .string (⟨#[]⟩ : ByteArray), .int .i64 0, .int .i64 0, .int .i64 0, .int .i64 0]) ?_ 0 _ rfl; (with_reducible repeat (first | refine blk_drewN ?_ _ | refine blk_drew ?_ | refine blk_alloc ?_ _)); refine blk_far ?_ NB155_156.out _; (with_reducible repeat (first | refine blk_drewN ?_ _ | refine blk_drew ?_ | refine blk_alloc ?_ _)); refine blk_far ?_ NB155_156.out _; (with_reducible repeat (first | refine blk_drewN ?_ _ | refine blk_drew ?_ | refine blk_alloc ?_ _)); refine blk_far ?_ NB155_156.out _; (with_reducible repeat (first | refine blk_drewN ?_ _ | refine blk_drew ?_ | refine blk_alloc ?_ _)); refine blk_far ?_ NB155_156.out _; (with_reducible repeat (first | refine blk_drewN ?_ _ | refine blk_drew ?_ | refine blk_alloc ?_ _)); refine blk_far ?_ NB155_156.out _; (with_reducible repeat (first | refine blk_drewN ?_ _ | refine blk_drew ?_ | refine blk_alloc ?_ _)); refine blk_far ?_ NB155_156.out _; (with_reducible repeat (first | refine blk_drewN ?_ _ | refine blk_drew ?_ | refine blk_alloc ?_ _)); exact BK155.out) Try.underlying44 rfl (by kernel_rfl)) rfl ?_; exact ⟨eqq, qb HB⟩

/-! ### laws_toPriceRowS: function 7 -/
def laws_toPriceRowS.l0 : Nat → List (S47) → List (S44) → Int → Option ((List (S44)))
 | 0, _, _, _ => none
 | k + 1, x0, x3, x4 => if x4 < (x0.length : Int) then (if 0 ≤ x4 then ((laws_toPriceRow.f ((rd_T47 x0 x4).f0) ((rd_T47 x0 x4).f1) ((rd_T47 x0 x4).f2) ((rd_T47 x0 x4).f3) ((rd_T47 x0 x4).f4) ((rd_T47 x0 x4).f5)).bind fun bt161 => (if x4 < (x3.length : Int) then (laws_toPriceRowS.l0 k x0 (x3.set (x4 : Int).toNat (⟨bt161.1, bt161.2.1, bt161.2.2.1, bt161.2.2.2.1, bt161.2.2.2.2.1, bt161.2.2.2.2.2⟩ : S44)) (wrap64 (x4 + 1))) else (none))) else (none)) else (some x3)
def laws_toPriceRowS.f (k : Nat) (l0 : List (S47)) : Option ((List (S44))) := if 0 ≤ (l0.length : Int) then (if ((l0.length : Int) : Int).toNat ≤ 4398046511104 then (laws_toPriceRowS.l0 k l0 (List.replicate ((l0.length : Int) : Int).toNat z44) 0) else (none)) else (none)
theorem laws_toPriceRowS.mono_l : ∀ k, (∀ y0 y1 y2, LeO (laws_toPriceRowS.l0 k y0 y1 y2) (laws_toPriceRowS.l0 (k + 1) y0 y1 y2))
 | 0 => fun _ _ _ r h => by simp [laws_toPriceRowS.l0] at h
 | k + 1 => by
  have ih0 := laws_toPriceRowS.mono_l k
  ·intro y0 y1 y2; unfold laws_toPriceRowS.l0
   repeat' first
   | (with_reducible exact ih0 _ _ _)
   | (with_reducible exact LeO.refl _)
   | (with_reducible exact LeO.none _)
   | (with_reducible refine LeO.ite ?_ ?_)
   | (with_reducible refine LeO.bind ?_ (fun _ => ?_))
   | exact ih0 _ _ _
   | exact LeO.none _
   | refine LeO.ite ?_ ?_
   | refine LeO.bind ?_ (fun _ => ?_)
theorem laws_toPriceRowS.mono : ∀ a0 k, LeO (laws_toPriceRowS.f k a0) (laws_toPriceRowS.f (k + 1) a0) := by
 intro a0 k; have ih0 := laws_toPriceRowS.mono_l k; unfold laws_toPriceRowS.f
 repeat' first
   | (with_reducible exact ih0 _ _ _)
   | (with_reducible exact LeO.refl _)
   | (with_reducible exact LeO.none _)
   | (with_reducible refine LeO.ite ?_ ?_)
   | (with_reducible refine LeO.bind ?_ (fun _ => ?_))
   | exact ih0 _ _ _
   | exact LeO.none _
   | refine LeO.ite ?_ ?_
   | refine LeO.bind ?_ (fun _ => ?_)
set_option maxHeartbeats 8000000 in
set_option maxRecDepth 100000 in
theorem laws_toPriceRowS.calls (k : Nat) (A0 : Option Addr) (c0 : Nat) (l0 : List (S47)) (r : List (S44)) (w : World) (hr0 : Kd.C k47 w A0 l0.length l0) (hc0 : l0.length ≤ c0) (h : laws_toPriceRowS.f k l0 = some r) :
  Calls Try.prog 7 #[.slice A0 l0.length c0] w fun e w' => ∃ v0_ : Value, e = .returned (v0_) ∧ Kd.R k44 44 w' w.heap.size (fun _ => True) v0_ r ∧ Below w.heap.size w w' := by
 have hu47 := Try.underlying47; have hu44 := Try.underlying44; have HR0 := Aside0.mk hr0; have HC0 := Aside0.mk hc0; clear hr0 hc0; have HB := Aside0.mk (Below.refl w.heap.size w); have H : (if 0 ≤ (l0.length : Int) then (if ((l0.length : Int) : Int).toNat ≤ 4398046511104 then (laws_toPriceRowS.l0 k l0 (List.replicate ((l0.length : Int) : Int).toNat z44) 0) else (none)) else (none)) = some r := h; clear h; by_cases c2 : 0 ≤ (l0.length : Int)
 ·rw [if_pos c2] at H; have c2b0 := eq_true c2; have c2b1 : decide (0 ≤ (l0.length : Int)) = true := decide_eq_true c2; clear c2; by_cases c3 : ((l0.length : Int) : Int).toNat ≤ 4398046511104
  ·rw [if_pos c3] at H; have c3b0 := eq_true c3; have c3b1 : decide (((l0.length : Int) : Int).toNat ≤ 4398046511104) = true := decide_eq_true c3; clear c3; obtain ⟨y157, hy157⟩ : ∃ y_ : List (S44), y_ = (List.replicate ((l0.length : Int) : Int).toNat z44) := ⟨_, rfl⟩
   replace H : (laws_toPriceRowS.l0 k l0 y157 0) = some r := by first | (rw [hy157]; with_reducible exact H) | (have H2_ := (Option.bind_some _ _).symm.trans H; rw [hy157]; with_reducible exact H2_) | (have H2_ := (Option.bind_some _ _).symm.trans H; with_reducible exact H2_) | with_reducible exact H | (rw [hy157]; exact H) | exact H
   have Ny157 := Aside0.mk hy157; clear hy157; have H' := Aside0.mk H; clear H; go_enter Try.func7, Try.ntmps7
   go_wp2_with (first | ((with_reducible refine gate_dst (N := 7) rfl ?_); refine Kd.R_make k44 _ 44 rfl (N := 7) rfl 27 _ _ rfl (l0.length : Int) rfl rfl Try.underlying27 (.agg #[(.string ⟨#[]⟩), (.string ⟨#[]⟩), (.int .i64 0), (.int .i64 0), (.int .i64 0), (.int .i64 0)]) 64 info44 rfl (by decide) (by omega) z44 (ok := fun _ => True) (okp := fun _ => True) (k44_mkM _ _ _ z44 ) (fun _ hk => hk) trivial (of_decide_eq_true (by first | (with_reducible assumption) | assumption)) (Nat.le_trans (Nat.mul_le_mul_right _ (of_decide_eq_true (by first | (with_reducible assumption) | assumption) : (l0.length : Int).toNat ≤ 4398046511104)) (by omega)) (Below.refl _ _) (Nat.le_refl _) ?_; intro v158 w4 ho5 hb hg_ hnew_; clear hg_ hnew_; (first | rw [← Ny157.out] at ho5 | (simp only [Int.reduceToNat] at ho5; rw [← Ny157.out] at ho5)); have n0_ := Aside0.mk (Kd.R_lower ho5 (below_size (qb HB))); have n1_ := Aside0.mk (below_step (qb HB) hb); clear HB; have HO159 := n0_; have HB := n1_; clear n0_ n1_; clear hb ho5))
   go_loopg [4] k (fun kq v4 w' => ∃ (x3_1 : List (S44)) (x4_1 : Int), v4 = .int .i64 x4_1 ∧ Aside0 (laws_toPriceRowS.l0 kq l0 x3_1 x4_1 = some r) ∧ Aside0 (kq ≤ k) ∧ Aside0 (Kd.R k44 44 w' w.heap.size (fun _ => True) v158 x3_1) ∧ Aside0 (Below w.heap.size w w'))
   case atStart => exact ⟨(y157), (0), (by first | rfl | (simp; done) | (simp [*]; done)), H', ⟨Nat.le_refl _⟩, ⟨by (with_reducible repeat (first | apply Kd.R_alloc | apply Kd.R_drewN | apply Kd.R_drew)); exact HO159.out⟩, ⟨qb HB⟩⟩
   case round =>
    clear H'; (try clear c2); (try clear c2b0); (try clear c2b1); (try clear p2); (try clear c3); (try clear c3b0); (try clear c3b1); obtain ⟨x3_1, x4_1, rfl, HA, HK1, HO_3, HB⟩ := hrel
    cases gk with
    | zero => exact absurd HA.out (by simp [laws_toPriceRowS.l0])
    | succ k1 =>
     have H := HA.out; clear HA; simp only [laws_toPriceRowS.l0] at H; by_cases c6 : x4_1 < (l0.length : Int)
     ·rw [if_pos c6] at H; have c6b0 : decide (x4_1 < (l0.length : Int)) = true := decide_eq_true c6; clear c6; by_cases c7 : 0 ≤ x4_1
      ·rw [if_pos c7] at H; have c7b0 : decide (0 ≤ x4_1) = true := decide_eq_true c7; clear c7; replace H := Option.bind_eq_some_iff.mp H; obtain ⟨⟨t161, t162, t163, t164, t165, t166⟩, A80, H⟩ := H; replace H : (if x4_1 < (x3_1.length : Int) then (laws_toPriceRowS.l0 k1 l0 (x3_1.set (x4_1 : Int).toNat (⟨t161, t162, t163, t164, t165, t166⟩ : S44)) (wrap64 (x4_1 + 1))) else (none)) = some r := H; have A8 := Aside0.mk A80; clear A80; by_cases c9 : x4_1 < (x3_1.length : Int)
       ·rw [if_pos c9] at H; have c9b0 : decide (x4_1 < (x3_1.length : Int)) = true := decide_eq_true c9; clear c9; obtain ⟨y167, hy167⟩ : ∃ y_ : List (S44), y_ = (x3_1.set (x4_1 : Int).toNat (⟨t161, t162, t163, t164, t165, t166⟩ : S44)) := ⟨_, rfl⟩
        replace H : (laws_toPriceRowS.l0 k1 l0 y167 (wrap64 (x4_1 + 1))) = some r := by first | (rw [hy167]; with_reducible exact H) | (have H2_ := (Option.bind_some _ _).symm.trans H; rw [hy167]; with_reducible exact H2_) | (have H2_ := (Option.bind_some _ _).symm.trans H; with_reducible exact H2_) | with_reducible exact H | (rw [hy167]; exact H) | exact H
        have Ny167 := Aside0.mk hy167; clear hy167; have H' := Aside0.mk H; clear H; have p160 : 0 ≤ (x4_1 : Int) := of_decide_eq_true (by first | (with_reducible assumption) | assumption); have q160 : x4_1 < (l0.length : Int) := of_decide_eq_true (by first | (with_reducible assumption) | assumption); obtain ⟨ad160, e160, hx160_0, hx160_1, hx160_2, hx160_3, hx160_4, hx160_5⟩ := at_T47 HR0.out x4_1 p160 q160
        cases e160
        replace hx160_0 := (HB.out.cell (World.block_lt_of_cell? w _ hx160_0)).trans hx160_0; replace hx160_1 := (HB.out.cell (World.block_lt_of_cell? w _ hx160_1)).trans hx160_1; replace hx160_2 := (HB.out.cell (World.block_lt_of_cell? w _ hx160_2)).trans hx160_2; replace hx160_3 := (HB.out.cell (World.block_lt_of_cell? w _ hx160_3)).trans hx160_3; replace hx160_4 := (HB.out.cell (World.block_lt_of_cell? w _ hx160_4)).trans hx160_4; replace hx160_5 := (HB.out.cell (World.block_lt_of_cell? w _ hx160_5)).trans hx160_5; replace p160 := eq_true p160; replace q160 := eq_true q160
        go_wp2_with (first | ((with_reducible refine gate_callee (f := 23) rfl ?_); refine goesL_ (some 20) rfl rfl Try.func23 (by kernel_rfl) rfl #[.agg #[.string ((rd_T47 l0 x4_1).f0), .string ((rd_T47 l0 x4_1).f1), .int .i64 ((rd_T47 l0 x4_1).f2), .int .i64 ((rd_T47 l0 x4_1).f3), .int .i64 ((rd_T47 l0 x4_1).f4), .int .i64 ((rd_T47 l0 x4_1).f5)]] rfl mq ?_; (with_reducible refine (laws_toPriceRow.calls ((rd_T47 l0 x4_1).f0) ((rd_T47 l0 x4_1).f1) ((rd_T47 l0 x4_1).f2) ((rd_T47 l0 x4_1).f3) ((rd_T47 l0 x4_1).f4) ((rd_T47 l0 x4_1).f5) t161 t162 t163 t164 t165 t166 _ A8.out).mono ?_); rintro e w11 ⟨rfl, hb⟩; refine ⟨_, rfl, ?_⟩; have n0_ := Aside0.mk (Kd.R_below (qr HO_3) hb); have n1_ := Aside0.mk (below_step (qb HB) hb); clear HO_3; clear HB; have HO_3 := n0_; have HB := n1_; clear n0_ n1_; (try clear hb); (try clear hb2); (try clear hk); (try clear hi); have p10 : 0 ≤ (x4_1 : Int) := of_decide_eq_true (by first | (with_reducible assumption) | assumption); have q10 : (x4_1 : Int) < ((x3_1.length : Int) : Int) := of_decide_eq_true (by first | (with_reducible assumption) | assumption); obtain ⟨go10, co10, eo10, gb10, gl10, cl10, HG10⟩ := Kd.R_form HO_3.out (by omega); (first | cases eo10 | (injection eo10 with ea_ en_ ec_; (first | subst ea_ | (injection ea_ with ea_; subst ea_)); subst ec_; clear en_)); have GB10 := Aside0.mk gb10; have GG10 := Aside0.mk HG10; clear gb10 gl10 HG10; obtain ⟨ce10, hcl10, hM10, hcc10, hfr10⟩ := Kd.R_elem HO_3.out z44 (x4_1 : Int) p10 q10; obtain rfl := k44_openM hM10; have hx10_0 : w11.cell? ⟨go10, (x4_1 : Int).toNat * 6, none⟩ = some (.string ((rd_T44 x3_1 x4_1).f0)) := hcc10 0 _ rfl; have hx10_1 : w11.cell? ⟨go10, (x4_1 : Int).toNat * 6 + 1, none⟩ = some (.string ((rd_T44 x3_1 x4_1).f1)) := hcc10 1 _ rfl; have hx10_2 : w11.cell? ⟨go10, (x4_1 : Int).toNat * 6 + 2, none⟩ = some (.int .i64 ((rd_T44 x3_1 x4_1).f2)) := hcc10 2 _ rfl; have hx10_3 : w11.cell? ⟨go10, (x4_1 : Int).toNat * 6 + 3, none⟩ = some (.int .i64 ((rd_T44 x3_1 x4_1).f3)) := hcc10 3 _ rfl; have hx10_4 : w11.cell? ⟨go10, (x4_1 : Int).toNat * 6 + 4, none⟩ = some (.int .i64 ((rd_T44 x3_1 x4_1).f4)) := hcc10 4 _ rfl; have hx10_5 : w11.cell? ⟨go10, (x4_1 : Int).toNat * 6 + 5, none⟩ = some (.int .i64 ((rd_T44 x3_1 x4_1).f5)) := hcc10 5 _ rfl; have hf10_0 : w11.frozen? ⟨go10, (x4_1 : Int).toNat * 6, none⟩ = false := hfr10 0; have hf10_1 : w11.frozen? ⟨go10, (x4_1 : Int).toNat * 6 + 1, none⟩ = false := hfr10 1; have hf10_2 : w11.frozen? ⟨go10, (x4_1 : Int).toNat * 6 + 2, none⟩ = false := hfr10 2; have hf10_3 : w11.frozen? ⟨go10, (x4_1 : Int).toNat * 6 + 3, none⟩ = false := hfr10 3; have hf10_4 : w11.frozen? ⟨go10, (x4_1 : Int).toNat * 6 + 4, none⟩ = false := hfr10 4; have hf10_5 : w11.frozen? ⟨go10, (x4_1 : Int).toNat * 6 + 5, none⟩ = false := hfr10 5; clear hcl10 hcc10 hfr10 hM10; replace p10 := eq_true p10; replace q10 := eq_true q10; have HX12 := Aside0.mk (show Kd.R k44 44 w11 w.heap.size (fun _ => True) (.slice (some ⟨go10, 0, none⟩) x3_1.length co10) x3_1 from (qr HO_3)); obtain ⟨ce12, hcl12, hM12, hcc12, hfr12⟩ := Kd.R_elem HX12.out z44 (x4_1 : Int) (of_decide_eq_true (by first | (with_reducible assumption) | assumption)) (by have h_ : (x4_1 : Int) < ((x3_1.length : Int) : Int) := of_decide_eq_true (by first | (with_reducible assumption) | assumption); first | exact h_ | (have e_ := (Kd.R_reads' HO_3.out).1; omega) | simpa using h_); obtain rfl := k44_openM hM12; have HP12 := Kd.R_seg HX12.out (x4_1 : Int) (of_decide_eq_true (by first | (with_reducible assumption) | assumption)) (by have h_ : (x4_1 : Int) < ((x3_1.length : Int) : Int) := of_decide_eq_true (by first | (with_reducible assumption) | assumption); first | exact h_ | (have e_ := (Kd.R_reads' HO_3.out).1; omega) | simpa using h_) (seg := [.string t161, .string t162, .int .i64 t163, .int .i64 t164, .int .i64 t165, .int .i64 t166]) (j := 0) hcl12 hcc12 (show 6 ≤ 6 from by decide) (x' := (⟨t161, t162, t163, t164, t165, t166⟩ : S44)) (k44_mkM _ _ _ (⟨t161, t162, t163, t164, t165, t166⟩ : S44) ) (fun _ hk => hk); have hx12_0 := hcc12 0 _ rfl; (try simp only [show (k44).sz = 6 from rfl, Nat.mul_one, Nat.add_zero] at hx12_0); have hf12_0 := hfr12 0; (try simp only [show (k44).sz = 6 from rfl, Nat.mul_one, Nat.add_zero] at hf12_0); have hx12_1 := hcc12 1 _ rfl; (try simp only [show (k44).sz = 6 from rfl, Nat.mul_one, Nat.add_zero] at hx12_1); have hf12_1 := hfr12 1; (try simp only [show (k44).sz = 6 from rfl, Nat.mul_one, Nat.add_zero] at hf12_1); have hx12_2 := hcc12 2 _ rfl; (try simp only [show (k44).sz = 6 from rfl, Nat.mul_one, Nat.add_zero] at hx12_2); have hf12_2 := hfr12 2; (try simp only [show (k44).sz = 6 from rfl, Nat.mul_one, Nat.add_zero] at hf12_2); have hx12_3 := hcc12 3 _ rfl; (try simp only [show (k44).sz = 6 from rfl, Nat.mul_one, Nat.add_zero] at hx12_3); have hf12_3 := hfr12 3; (try simp only [show (k44).sz = 6 from rfl, Nat.mul_one, Nat.add_zero] at hf12_3); have hx12_4 := hcc12 4 _ rfl; (try simp only [show (k44).sz = 6 from rfl, Nat.mul_one, Nat.add_zero] at hx12_4); have hf12_4 := hfr12 4; (try simp only [show (k44).sz = 6 from rfl, Nat.mul_one, Nat.add_zero] at hf12_4); have hx12_5 := hcc12 5 _ rfl; (try simp only [show (k44).sz = 6 from rfl, Nat.mul_one, Nat.add_zero] at hx12_5); have hf12_5 := hfr12 5; (try simp only [show (k44).sz = 6 from rfl, Nat.mul_one, Nat.add_zero] at hf12_5); clear hcl12 hcc12 hfr12 hM12) | ((with_reducible refine gate_store (t := 44) (p := 21) rfl ?_); refine store_event (t := 44) (p := 21) (v := ?vo_w13) (w1 := ((((((w11.setCell ⟨go10, (x4_1 : Int).toNat * 6, none⟩ (.string t161)).setCell ⟨go10, (x4_1 : Int).toNat * 6 + 1, none⟩ (.string t162)).setCell ⟨go10, (x4_1 : Int).toNat * 6 + 2, none⟩ (.int .i64 t163)).setCell ⟨go10, (x4_1 : Int).toNat * 6 + 3, none⟩ (.int .i64 t164)).setCell ⟨go10, (x4_1 : Int).toNat * 6 + 4, none⟩ (.int .i64 t165)).setCell ⟨go10, (x4_1 : Int).toNat * 6 + 5, none⟩ (.int .i64 t166))) ?hg ?ho ?hn ?hr ?_; (case ho => rfl); (case hg => rfl); (case hn => rfl); (case hr => first | (go_simp; done) | (go_simp; rfl)); intro w13 hw; have hg : w11.grownBy w13 (some go10) := (by rw [hw]; exact HP12.2); have hp_ : Kd.R k44 44 w13 w.heap.size (fun _ => True) (.slice (some ⟨go10, 0, none⟩) x3_1.length co10) y167 := (by rw [hw, Ny167.out]; exact HP12.1); clear HP12; have n0_ := Aside0.mk (hp_); have n1_ := Aside0.mk ((by rw [hw]; exact below_set (below_set (below_set (below_set (below_set (below_set (HB.out) GB10.out) GB10.out) GB10.out) GB10.out) GB10.out) GB10.out : Below w.heap.size w w13)); clear HO_3; clear HB; have HO_3 := n0_; have HB := n1_; clear n0_ n1_; clear hg hw hp_))
        go_roundg k1
        case measure => have := HK1.out; omega
        case rel => exact ⟨(y167), (wrap64 (x4_1 + 1)), (by first | rfl | (simp; done) | (simp [*]; done)), H', ⟨by have := HK1.out; omega⟩, ⟨by (with_reducible repeat (first | apply Kd.R_alloc | apply Kd.R_drewN | apply Kd.R_drew)); exact HO_3.out⟩, ⟨qb HB⟩⟩
       ·rw [if_neg c9] at H; exact absurd H (by simp)
      ·rw [if_neg c7] at H; exact absurd H (by simp)
     ·rw [if_neg c6] at H; have c6b0 : decide (x4_1 < (l0.length : Int)) = false := decide_eq_false c6; clear c6; obtain rfl := Option.some.inj H; go_wp2; go_ret; exact ⟨_, by first | rfl | (simp [errW_none, errW_some] <;> rfl) | (simp [*, errW_none, errW_some] <;> rfl), by (with_reducible repeat (first | apply Kd.R_alloc | apply Kd.R_drewN | apply Kd.R_drew)); exact HO_3.out, qb HB⟩
  ·rw [if_neg c3] at H; exact absurd H (by simp)
 ·rw [if_neg c2] at H; exact absurd H (by simp)

/-! ### laws_eqPriceStep: function 29 -/
def laws_eqPriceStep.f (a0_0 : Int) (a0_1 : Int) (a1_0 : Int) (a1_1 : Int) : Option (Bool) := if a0_0 = a1_0 then (if a0_1 = a1_1 then (some true) else (some false)) else (some false)
set_option maxHeartbeats 8000000 in
set_option maxRecDepth 100000 in
theorem laws_eqPriceStep.calls (a0_0 : Int) (a0_1 : Int) (a1_0 : Int) (a1_1 : Int) (r : Bool) (w : World) (h : laws_eqPriceStep.f a0_0 a0_1 a1_0 a1_1 = some r) :
  Calls Try.prog 29 #[.agg #[.int .i64 a0_0, .int .i64 a0_1], .agg #[.int .i64 a1_0, .int .i64 a1_1]] w fun e w' => e = .returned (.bool r) ∧ Below w.heap.size w w' := by
 have hu40 := Try.underlying40; have HB := Aside0.mk (Below.refl w.heap.size w); have H : (if a0_0 = a1_0 then (if a0_1 = a1_1 then (some true) else (some false)) else (some false)) = some r := h; clear h; by_cases c3 : a0_0 = a1_0
 ·rw [if_pos c3] at H; have c3b0 : (a0_0 == a1_0) = true := beq_iff_eq.mpr c3; have c3b1 : (a0_0 != a1_0) = false := bne_eq_false_iff_eq.mpr c3; clear c3; by_cases c4 : a0_1 = a1_1
  ·rw [if_pos c4] at H; have c4b0 : (a0_1 == a1_1) = true := beq_iff_eq.mpr c4; have c4b1 : (a0_1 != a1_1) = false := bne_eq_false_iff_eq.mpr c4; clear c4; obtain rfl := Option.some.inj H; go_enter Try.func29, Try.ntmps29
   go_wp2_with (first | ((with_reducible refine gate_dst (N := 2) rfl ?_); refine box_event ?hg (N := 2) ?hd (cs := #[.int .i64 a0_0, .int .i64 a0_1]) (t := 40) ?hr ?_; (case hd => rfl); (case hg => rfl); (case hr => first | (go_simp; done) | (go_simp; rfl)); intro gb241 hg w5 hbox hb; have n0_ := Aside0.mk (below_step (qb HB) hb); have n1_ := Aside0.mk (hbox); have n2_ := Aside0.mk ((by rw [hg]; exact (below_size (qb HB)) : w.heap.size ≤ gb241)); have n3_ := Aside0.mk ((by rw [hg]; exact (below_size (qb HB)) : w.heap.size ≤ gb241)); clear HB; have HB := n0_; have BK241 := n1_; have GW241 := n2_; have GE241 := n3_; clear n0_ n1_ n2_ n3_; clear hb hbox hg) | ((with_reducible refine gate_dst (N := 3) rfl ?_); refine box_event ?hg (N := 3) ?hd (cs := #[.int .i64 a1_0, .int .i64 a1_1]) (t := 40) ?hr ?_; (case hd => rfl); (case hg => rfl); (case hr => first | (go_simp; done) | (go_simp; rfl)); intro gb242 hg w6 hbox hb; have n0_ := Aside0.mk (blk_below (bq BK241) hb); have n1_ := Aside0.mk (below_step (qb HB) hb); have n2_ := Aside0.mk (hbox); have n3_ := Aside0.mk ((by rw [hg]; exact (below_size (qb HB)) : w.heap.size ≤ gb242)); have n4_ := Aside0.mk ((by rw [hg]; exact (below_size (qb HB)) : w.heap.size ≤ gb242)); have n5_ := Aside0.mk ((by rw [hg]; exact Nat.ne_of_lt (blk_lt (bq BK241)) : gb241 ≠ gb242)); have n6_ := Aside0.mk ((by rw [hg]; exact Nat.ne_of_gt (blk_lt (bq BK241)) : gb242 ≠ gb241)); clear BK241; clear HB; have BK241 := n0_; have HB := n1_; have BK242 := n2_; have GW242 := n3_; have GE242 := n4_; have NB241_242 := n5_; have NB242_241 := n6_; clear n0_ n1_ n2_ n3_ n4_ n5_ n6_; clear hb hbox hg; have hnb7 := NB241_242.out; have hnc7 := NB242_241.out; obtain ⟨hcz8_0, hcz8_1, hfz8_0, hfz8_1⟩ := bz2 BK241; obtain ⟨hcz9_0, hcz9_1, hfz9_0, hfz9_1⟩ := bz2 BK242))
   go_ret; exact ⟨eqq, qb HB⟩
  ·rw [if_neg c4] at H; have c4b0 : (a0_1 == a1_1) = false := beq_eq_false_iff_ne.mpr c4; have c4b1 : (a0_1 != a1_1) = true := bne_iff_ne.mpr c4; obtain rfl := Option.some.inj H; go_enter Try.func29, Try.ntmps29
   go_wp2_with (first | ((with_reducible refine gate_dst (N := 2) rfl ?_); refine box_event ?hg (N := 2) ?hd (cs := #[.int .i64 a0_0, .int .i64 a0_1]) (t := 40) ?hr ?_; (case hd => rfl); (case hg => rfl); (case hr => first | (go_simp; done) | (go_simp; rfl)); intro gb241 hg w10 hbox hb; have n0_ := Aside0.mk (below_step (qb HB) hb); have n1_ := Aside0.mk (hbox); have n2_ := Aside0.mk ((by rw [hg]; exact (below_size (qb HB)) : w.heap.size ≤ gb241)); have n3_ := Aside0.mk ((by rw [hg]; exact (below_size (qb HB)) : w.heap.size ≤ gb241)); clear HB; have HB := n0_; have BK241 := n1_; have GW241 := n2_; have GE241 := n3_; clear n0_ n1_ n2_ n3_; clear hb hbox hg) | ((with_reducible refine gate_dst (N := 3) rfl ?_); refine box_event ?hg (N := 3) ?hd (cs := #[.int .i64 a1_0, .int .i64 a1_1]) (t := 40) ?hr ?_; (case hd => rfl); (case hg => rfl); (case hr => first | (go_simp; done) | (go_simp; rfl)); intro gb242 hg w11 hbox hb; have n0_ := Aside0.mk (blk_below (bq BK241) hb); have n1_ := Aside0.mk (below_step (qb HB) hb); have n2_ := Aside0.mk (hbox); have n3_ := Aside0.mk ((by rw [hg]; exact (below_size (qb HB)) : w.heap.size ≤ gb242)); have n4_ := Aside0.mk ((by rw [hg]; exact (below_size (qb HB)) : w.heap.size ≤ gb242)); have n5_ := Aside0.mk ((by rw [hg]; exact Nat.ne_of_lt (blk_lt (bq BK241)) : gb241 ≠ gb242)); have n6_ := Aside0.mk ((by rw [hg]; exact Nat.ne_of_gt (blk_lt (bq BK241)) : gb242 ≠ gb241)); clear BK241; clear HB; have BK241 := n0_; have HB := n1_; have BK242 := n2_; have GW242 := n3_; have GE242 := n4_; have NB241_242 := n5_; have NB242_241 := n6_; clear n0_ n1_ n2_ n3_ n4_ n5_ n6_; clear hb hbox hg; have hnb12 := NB241_242.out; have hnc12 := NB242_241.out; obtain ⟨hcz13_0, hcz13_1, hfz13_0, hfz13_1⟩ := bz2 BK241; obtain ⟨hcz14_0, hcz14_1, hfz14_0, hfz14_1⟩ := bz2 BK242))
   go_ret; exact ⟨eqq, qb HB⟩
 ·rw [if_neg c3] at H; have c3b0 : (a0_0 == a1_0) = false := beq_eq_false_iff_ne.mpr c3; have c3b1 : (a0_0 != a1_0) = true := bne_iff_ne.mpr c3; obtain rfl := Option.some.inj H; go_enter Try.func29, Try.ntmps29
  go_wp2_with (first | ((with_reducible refine gate_dst (N := 2) rfl ?_); refine box_event ?hg (N := 2) ?hd (cs := #[.int .i64 a0_0, .int .i64 a0_1]) (t := 40) ?hr ?_; (case hd => rfl); (case hg => rfl); (case hr => first | (go_simp; done) | (go_simp; rfl)); intro gb241 hg w15 hbox hb; have n0_ := Aside0.mk (below_step (qb HB) hb); have n1_ := Aside0.mk (hbox); have n2_ := Aside0.mk ((by rw [hg]; exact (below_size (qb HB)) : w.heap.size ≤ gb241)); have n3_ := Aside0.mk ((by rw [hg]; exact (below_size (qb HB)) : w.heap.size ≤ gb241)); clear HB; have HB := n0_; have BK241 := n1_; have GW241 := n2_; have GE241 := n3_; clear n0_ n1_ n2_ n3_; clear hb hbox hg) | ((with_reducible refine gate_dst (N := 3) rfl ?_); refine box_event ?hg (N := 3) ?hd (cs := #[.int .i64 a1_0, .int .i64 a1_1]) (t := 40) ?hr ?_; (case hd => rfl); (case hg => rfl); (case hr => first | (go_simp; done) | (go_simp; rfl)); intro gb242 hg w16 hbox hb; have n0_ := Aside0.mk (blk_below (bq BK241) hb); have n1_ := Aside0.mk (below_step (qb HB) hb); have n2_ := Aside0.mk (hbox); have n3_ := Aside0.mk ((by rw [hg]; exact (below_size (qb HB)) : w.heap.size ≤ gb242)); have n4_ := Aside0.mk ((by rw [hg]; exact (below_size (qb HB)) : w.heap.size ≤ gb242)); have n5_ := Aside0.mk ((by rw [hg]; exact Nat.ne_of_lt (blk_lt (bq BK241)) : gb241 ≠ gb242)); have n6_ := Aside0.mk ((by rw [hg]; exact Nat.ne_of_gt (blk_lt (bq BK241)) : gb242 ≠ gb241)); clear BK241; clear HB; have BK241 := n0_; have HB := n1_; have BK242 := n2_; have GW242 := n3_; have GE242 := n4_; have NB241_242 := n5_; have NB242_241 := n6_; clear n0_ n1_ n2_ n3_ n4_ n5_ n6_; clear hb hbox hg; have hnb17 := NB241_242.out; have hnc17 := NB242_241.out; obtain ⟨hcz18_0, hcz18_1, hfz18_0, hfz18_1⟩ := bz2 BK241; obtain ⟨hcz19_0, hcz19_1, hfz19_0, hfz19_1⟩ := bz2 BK242))
  go_ret; exact ⟨eqq, qb HB⟩

/-! ### laws_eqPriceStepS: function 9 -/
def laws_eqPriceStepS.l0 : Nat → List (S40) → List (S40) → Int → Option (Bool)
 | 0, _, _, _ => none
 | k + 1, x0, x1, x5 => if x5 < (x0.length : Int) then (if 0 ≤ x5 then (if x5 < (x1.length : Int) then ((laws_eqPriceStep.f ((rd_T40 x0 x5).f0) ((rd_T40 x0 x5).f1) ((rd_T40 x1 x5).f0) ((rd_T40 x1 x5).f1)).bind fun t245 => (if t245 = true then (laws_eqPriceStepS.l0 k x0 x1 (wrap64 (x5 + 1))) else (some false))) else (none)) else (none)) else (some true)
def laws_eqPriceStepS.f (k : Nat) (l0 : List (S40)) (l1 : List (S40)) : Option (Bool) := if (l0.length : Int) = (l1.length : Int) then (laws_eqPriceStepS.l0 k l0 l1 0) else (some false)
theorem laws_eqPriceStepS.mono_l : ∀ k, (∀ y0 y1 y2, LeO (laws_eqPriceStepS.l0 k y0 y1 y2) (laws_eqPriceStepS.l0 (k + 1) y0 y1 y2))
 | 0 => fun _ _ _ r h => by simp [laws_eqPriceStepS.l0] at h
 | k + 1 => by
  have ih0 := laws_eqPriceStepS.mono_l k
  ·intro y0 y1 y2; unfold laws_eqPriceStepS.l0
   repeat' first
   | (with_reducible exact ih0 _ _ _)
   | (with_reducible exact LeO.refl _)
   | (with_reducible exact LeO.none _)
   | (with_reducible refine LeO.ite ?_ ?_)
   | (with_reducible refine LeO.bind ?_ (fun _ => ?_))
   | exact ih0 _ _ _
   | exact LeO.none _
   | refine LeO.ite ?_ ?_
   | refine LeO.bind ?_ (fun _ => ?_)
theorem laws_eqPriceStepS.mono : ∀ a0 a1 k, LeO (laws_eqPriceStepS.f k a0 a1) (laws_eqPriceStepS.f (k + 1) a0 a1) := by
 intro a0 a1 k; have ih0 := laws_eqPriceStepS.mono_l k; unfold laws_eqPriceStepS.f
 repeat' first
   | (with_reducible exact ih0 _ _ _)
   | (with_reducible exact LeO.refl _)
   | (with_reducible exact LeO.none _)
   | (with_reducible refine LeO.ite ?_ ?_)
   | (with_reducible refine LeO.bind ?_ (fun _ => ?_))
   | exact ih0 _ _ _
   | exact LeO.none _
   | refine LeO.ite ?_ ?_
   | refine LeO.bind ?_ (fun _ => ?_)
def laws_eqPriceStepS.T6 : Bool × List (List Nat × List Nat) := (true, [([], []), ([], []), ([0, 1], [0, 1]), ([2], [2]), ([], []), ([], []), ([4, 5], [4, 5]), ([6], [6]), ([3, 7], [3, 7]), ([8], [8])])
def laws_eqPriceStepS.B6 : List Nat := [0, 0, 3, 7, 0, 0, 48, 112, 255, 511]
theorem laws_eqPriceStepS.tab6 : rtab .any (opsOf Try.f9 6) = laws_eqPriceStepS.T6 := by kernel_rfl
theorem laws_eqPriceStepS.bits6 : waitsOk laws_eqPriceStepS.T6.2 laws_eqPriceStepS.B6 = true := by kernel_rfl
set_option maxHeartbeats 8000000 in
set_option maxRecDepth 100000 in
theorem laws_eqPriceStepS.calls (k : Nat) (A0 : Option Addr) (c0 : Nat) (l0 : List (S40)) (A1 : Option Addr) (c1 : Nat) (l1 : List (S40)) (r : Bool) (w : World) (hr0 : Kd.C k40 w A0 l0.length l0) (hc0 : l0.length ≤ c0) (hr1 : Kd.C k40 w A1 l1.length l1) (hc1 : l1.length ≤ c1) (h : laws_eqPriceStepS.f k l0 l1 = some r) :
  Calls Try.prog 9 #[.slice A0 l0.length c0, .slice A1 l1.length c1] w fun e w' => e = .returned (.bool r) ∧ Below w.heap.size w w' := by
 have hu40 := Try.underlying40; have HR0 := Aside0.mk hr0; have HC0 := Aside0.mk hc0; clear hr0 hc0; have HR1 := Aside0.mk hr1; have HC1 := Aside0.mk hc1; clear hr1 hc1; have HB := Aside0.mk (Below.refl w.heap.size w); have H : (if (l0.length : Int) = (l1.length : Int) then (laws_eqPriceStepS.l0 k l0 l1 0) else (some false)) = some r := h; clear h; by_cases c3 : (l0.length : Int) = (l1.length : Int)
 ·rw [if_pos c3] at H; have c3b0 : ((l0.length : Int) == (l1.length : Int)) = true := beq_iff_eq.mpr c3; have c3b1 : ((l0.length : Int) != (l1.length : Int)) = false := bne_eq_false_iff_eq.mpr c3
  have c3b2 : (l0.length == l1.length) = true := by first | simpa using c3 | (simp at c3 ⊢; omega)
  clear c3; have H' := Aside0.mk H; clear H; go_enter Try.func9, Try.ntmps9; go_wp2
  go_loopg [5] k (fun kq v5 w' => ∃ (x5_1 : Int), v5 = .int .i64 x5_1 ∧ Aside0 (laws_eqPriceStepS.l0 kq l0 l1 x5_1 = some r) ∧ Aside0 (kq ≤ k) ∧ Aside0 (Below w.heap.size w w'))
  case atStart => exact ⟨(0), (by first | rfl | (simp; done) | (simp [*]; done)), H', ⟨Nat.le_refl _⟩, ⟨qb HB⟩⟩
  case round =>
   clear H'; (try clear c1); (try clear p2); (try clear c3); (try clear c3b0); (try clear c3b1); (try clear c3b2); obtain ⟨x5_1, rfl, HA, HK1, HB⟩ := hrel
   cases gk with
   | zero => exact absurd HA.out (by simp [laws_eqPriceStepS.l0])
   | succ k1 =>
    have H := HA.out; clear HA; simp only [laws_eqPriceStepS.l0] at H; by_cases c4 : x5_1 < (l0.length : Int)
    ·rw [if_pos c4] at H; have c4b0 : decide (x5_1 < (l0.length : Int)) = true := decide_eq_true c4; clear c4; by_cases c5 : 0 ≤ x5_1
     ·rw [if_pos c5] at H; have c5b0 : decide (0 ≤ x5_1) = true := decide_eq_true c5; clear c5; by_cases c6 : x5_1 < (l1.length : Int)
      ·rw [if_pos c6] at H; have c6b0 : decide (x5_1 < (l1.length : Int)) = true := decide_eq_true c6; clear c6; replace H := Option.bind_eq_some_iff.mp H; obtain ⟨t245, A70, H⟩ := H; replace H : (if t245 = true then (laws_eqPriceStepS.l0 k1 l0 l1 (wrap64 (x5_1 + 1))) else (some false)) = some r := H; have A7 := Aside0.mk A70; clear A70; by_cases c8 : t245 = true
       ·subst c8
        have H1 : (laws_eqPriceStepS.l0 k1 l0 l1 (wrap64 (x5_1 + 1))) = some r := by rw [if_pos rfl] at H; exact H
        clear H; have H := H1; clear H1; have H' := Aside0.mk H; clear H
        try go_wp2
        have n0_ := Aside0.mk (below_drew1 HB.out); clear HB; have HB := n0_; clear n0_; have p243 : 0 ≤ (x5_1 : Int) := of_decide_eq_true (by first | (with_reducible assumption) | assumption); have q243 : x5_1 < (l0.length : Int) := of_decide_eq_true (by first | (with_reducible assumption) | assumption); obtain ⟨ad243, e243, hx243_0, hx243_1⟩ := at_T40 HR0.out x5_1 p243 q243; have hw243_1 := hx243_1; have hw243_0 := hx243_0
        cases e243
        replace hx243_0 := (HB.out.cell (World.block_lt_of_cell? w _ hx243_0)).trans hx243_0; replace hx243_1 := (HB.out.cell (World.block_lt_of_cell? w _ hx243_1)).trans hx243_1; replace p243 := eq_true p243; replace q243 := eq_true q243; have p244 : 0 ≤ (x5_1 : Int) := of_decide_eq_true (by first | (with_reducible assumption) | assumption); have q244 : x5_1 < (l1.length : Int) := of_decide_eq_true (by first | (with_reducible assumption) | assumption); obtain ⟨ad244, e244, hx244_0, hx244_1⟩ := at_T40 HR1.out x5_1 p244 q244; have hw244_1 := hx244_1; have hw244_0 := hx244_0
        cases e244
        replace hx244_0 := (HB.out.cell (World.block_lt_of_cell? w _ hx244_0)).trans hx244_0; replace hx244_1 := (HB.out.cell (World.block_lt_of_cell? w _ hx244_1)).trans hx244_1; replace p244 := eq_true p244; replace q244 := eq_true q244; refine start_ (n := 10) (S := fun w' => w'.cell? (ad243.add ((x5_1).toNat * 2)) = some (.int .i64 ((rd_T40 l0 x5_1).f0)) ∧ w'.cell? ⟨(ad243.add ((x5_1).toNat * 2)).block, (ad243.add ((x5_1).toNat * 2)).off + 1, none⟩ = some (.int .i64 ((rd_T40 l0 x5_1).f1)) ∧ w'.cell? (ad244.add ((x5_1).toNat * 2)) = some (.int .i64 ((rd_T40 l1 x5_1).f0)) ∧ w'.cell? ⟨(ad244.add ((x5_1).toNat * 2)).block, (ad244.add ((x5_1).toNat * 2)).off + 1, none⟩ = some (.int .i64 ((rd_T40 l1 x5_1).f1))) (ds := []) #[false, false, false, false, false, false, false, false, false, false] (by kernel_rfl) rfl rfl ⟨((HB.out.cell (World.block_lt_of_cell? w _ hw243_0)).trans hw243_0), ((HB.out.cell (World.block_lt_of_cell? w _ hw243_1)).trans hw243_1), ((HB.out.cell (World.block_lt_of_cell? w _ hw244_0)).trans hw244_0), ((HB.out.cell (World.block_lt_of_cell? w _ hw244_1)).trans hw244_1)⟩ (fun hHeld => ?_); refine with_tabW laws_eqPriceStepS.tab6 laws_eqPriceStepS.bits6 (fun HT_ HW_ => ?_); generalize wr.drew = w9 at HB hx243_0 hx243_1 hx244_0 hx244_1 hHeld ⊢; refine pure_ (i := 0) (N := some 17) (v := ?_) (a' := ?_) #[true, false, false, false, false, false, false, false, false, false] rfl rfl (any_of HT_.out (by kernel_rfl)) (fun _ _ _ h => h) (Or.inl ⟨by rfl, ?_⟩) ?_ ?_; rotate_left
        ·intro w'; go_simp; (with_reducible rfl)
        rotate_left
        ·simp only [Act.put, sA, s0, sS, i64_w, i32_w]; rfl
        refine pure_ (i := 1) (N := some 18) (v := ?_) (a' := ?_) #[true, true, false, false, false, false, false, false, false, false] rfl rfl (any_of HT_.out (by kernel_rfl)) (fun _ _ _ h => h) (Or.inl ⟨by rfl, ?_⟩) ?_ ?_; rotate_left
        ·intro w'; go_simp; (with_reducible rfl)
        rotate_left
        ·simp only [Act.put, sA, s0, sS, i64_w, i32_w]; rfl
        refine pure_ (i := 2) (N := some 19) (v := ?_) (a' := ?_) #[true, true, true, false, false, false, false, false, false, false] rfl rfl (any_of HT_.out (by kernel_rfl)) (fun _ _ _ h => h) (Or.inl ⟨by rfl, ?_⟩) ?_ ?_; rotate_left
        ·intro w'; go_simp; (with_reducible rfl)
        rotate_left
        ·simp only [Act.put, sA, s0, sS, i64_w, i32_w]; rfl
        refine pure_ (i := 4) (N := some 21) (v := ?_) (a' := ?_) #[true, true, true, false, true, false, false, false, false, false] rfl rfl (any_of HT_.out (by kernel_rfl)) (fun _ _ _ h => h) (Or.inl ⟨by rfl, ?_⟩) ?_ ?_; rotate_left
        ·intro w'; go_simp; (with_reducible rfl)
        rotate_left
        ·simp only [Act.put, sA, s0, sS, i64_w, i32_w]; rfl
        refine pure_ (i := 5) (N := some 22) (v := ?_) (a' := ?_) #[true, true, true, false, true, true, false, false, false, false] rfl rfl (any_of HT_.out (by kernel_rfl)) (fun _ _ _ h => h) (Or.inl ⟨by rfl, ?_⟩) ?_ ?_; rotate_left
        ·intro w'; go_simp; (with_reducible rfl)
        rotate_left
        ·simp only [Act.put, sA, s0, sS, i64_w, i32_w]; rfl
        refine pure_ (i := 6) (N := some 23) (v := ?_) (a' := ?_) #[true, true, true, false, true, true, true, false, false, false] rfl rfl (any_of HT_.out (by kernel_rfl)) (fun _ _ _ h => h) (Or.inl ⟨by rfl, ?_⟩) ?_ ?_; rotate_left
        ·intro w'; go_simp; (with_reducible rfl)
        rotate_left
        ·simp only [Act.put, sA, s0, sS, i64_w, i32_w]; rfl
        refine take_ (i := 3) (N := some 20) (v := ?_) (a' := ?_) #[true, true, true, true, true, true, true, false, false, false] rfl rfl (take_ofW HT_.out HW_.out (by kernel_rfl)) (fun _ _ _ h => h) (Or.inl ⟨by rfl, ?_⟩) hHeld ?_ ?_; rotate_left
        ·rintro w' ⟨s0, s1, s2, s3⟩; go_simp; (with_reducible rfl)
        rotate_left
        ·simp only [Act.put, sA, s0, sS, i64_w, i32_w]; rfl
        refine take_ (i := 7) (N := some 24) (v := ?_) (a' := ?_) #[true, true, true, true, true, true, true, true, false, false] rfl rfl (take_ofW HT_.out HW_.out (by kernel_rfl)) (fun _ _ _ h => h) (Or.inl ⟨by rfl, ?_⟩) hHeld ?_ ?_; rotate_left
        ·rintro w' ⟨s0, s1, s2, s3⟩; go_simp; (with_reducible rfl)
        rotate_left
        ·simp only [Act.put, sA, s0, sS, i64_w, i32_w]; rfl
        refine one_ (i := 8) (N := some 25) #[true, true, true, true, true, true, true, true, true, false] rfl rfl (one_of HT_.out (by kernel_rfl)) (by decide) (fun K hK => ?_); refine goes_ Try.func29 (by kernel_rfl) rfl #[.agg #[.int .i64 ((rd_T40 l0 x5_1).f0), .int .i64 ((rd_T40 l0 x5_1).f1)], .agg #[.int .i64 ((rd_T40 l1 x5_1).f0), .int .i64 ((rd_T40 l1 x5_1).f1)]] (by rfl) rfl rfl mq ?_; (with_reducible refine (laws_eqPriceStep.calls ((rd_T40 l0 x5_1).f0) ((rd_T40 l0 x5_1).f1) ((rd_T40 l1 x5_1).f0) ((rd_T40 l1 x5_1).f1) true _ A7.out).mono ?_); rintro e w10 ⟨rfl, hb⟩; refine ⟨_, rfl, ?_⟩; have n0_ := Aside0.mk (below_step (qb HB) hb); clear HB; have HB := n0_; clear n0_; (try clear hb); (try clear hb2); (try clear hk); (try clear hi); refine hK.out _ _ ⟨((HB.out.cell (World.block_lt_of_cell? w _ hw243_0)).trans hw243_0), ((HB.out.cell (World.block_lt_of_cell? w _ hw243_1)).trans hw243_1), ((HB.out.cell (World.block_lt_of_cell? w _ hw244_0)).trans hw244_0), ((HB.out.cell (World.block_lt_of_cell? w _ hw244_1)).trans hw244_1)⟩ (fun hHeld => ?_); clear hK K; refine norm_ (a' := ?_) ?_ ?_; rotate_left
        ·show Act.put _ (some 25) _ = _; simp only [Act.put, sA, s0, sS, i64_w, i32_w]; rfl
        refine pure_ (i := 9) (N := some 26) (v := ?_) (a' := ?_) #[true, true, true, true, true, true, true, true, true, true] rfl rfl (any_of HT_.out (by kernel_rfl)) (fun _ _ _ h => h) (Or.inl ⟨by rfl, ?_⟩) ?_ ?_; rotate_left
        ·intro w'; go_simp; (with_reducible rfl)
        rotate_left
        ·simp only [Act.put, sA, s0, sS, i64_w, i32_w]; rfl
        refine done_ (done_of HT_.out (by kernel_rfl)) ?_
        try go_wp2
        go_roundg k1
        case measure => have := HK1.out; omega
        case rel => exact ⟨(wrap64 (x5_1 + 1)), (by first | rfl | (simp; done) | (simp [*]; done)), H', ⟨by have := HK1.out; omega⟩, ⟨qb HB⟩⟩
       ·replace c8 := Bool.eq_false_iff.mpr c8; subst c8
        have H1 : (some false) = some r := by rw [if_neg (show ¬ (false = true) by decide)] at H; exact H
        clear H; have H := H1; clear H1; obtain rfl := Option.some.inj H
        try go_wp2
        have n0_ := Aside0.mk (below_drew1 HB.out); clear HB; have HB := n0_; clear n0_; have p243 : 0 ≤ (x5_1 : Int) := of_decide_eq_true (by first | (with_reducible assumption) | assumption); have q243 : x5_1 < (l0.length : Int) := of_decide_eq_true (by first | (with_reducible assumption) | assumption); obtain ⟨ad243, e243, hx243_0, hx243_1⟩ := at_T40 HR0.out x5_1 p243 q243; have hw243_1 := hx243_1; have hw243_0 := hx243_0
        cases e243
        replace hx243_0 := (HB.out.cell (World.block_lt_of_cell? w _ hx243_0)).trans hx243_0; replace hx243_1 := (HB.out.cell (World.block_lt_of_cell? w _ hx243_1)).trans hx243_1; replace p243 := eq_true p243; replace q243 := eq_true q243; have p244 : 0 ≤ (x5_1 : Int) := of_decide_eq_true (by first | (with_reducible assumption) | assumption); have q244 : x5_1 < (l1.length : Int) := of_decide_eq_true (by first | (with_reducible assumption) | assumption); obtain ⟨ad244, e244, hx244_0, hx244_1⟩ := at_T40 HR1.out x5_1 p244 q244; have hw244_1 := hx244_1; have hw244_0 := hx244_0
        cases e244
        replace hx244_0 := (HB.out.cell (World.block_lt_of_cell? w _ hx244_0)).trans hx244_0; replace hx244_1 := (HB.out.cell (World.block_lt_of_cell? w _ hx244_1)).trans hx244_1; replace p244 := eq_true p244; replace q244 := eq_true q244; refine start_ (n := 10) (S := fun w' => w'.cell? (ad243.add ((x5_1).toNat * 2)) = some (.int .i64 ((rd_T40 l0 x5_1).f0)) ∧ w'.cell? ⟨(ad243.add ((x5_1).toNat * 2)).block, (ad243.add ((x5_1).toNat * 2)).off + 1, none⟩ = some (.int .i64 ((rd_T40 l0 x5_1).f1)) ∧ w'.cell? (ad244.add ((x5_1).toNat * 2)) = some (.int .i64 ((rd_T40 l1 x5_1).f0)) ∧ w'.cell? ⟨(ad244.add ((x5_1).toNat * 2)).block, (ad244.add ((x5_1).toNat * 2)).off + 1, none⟩ = some (.int .i64 ((rd_T40 l1 x5_1).f1))) (ds := []) #[false, false, false, false, false, false, false, false, false, false] (by kernel_rfl) rfl rfl ⟨((HB.out.cell (World.block_lt_of_cell? w _ hw243_0)).trans hw243_0), ((HB.out.cell (World.block_lt_of_cell? w _ hw243_1)).trans hw243_1), ((HB.out.cell (World.block_lt_of_cell? w _ hw244_0)).trans hw244_0), ((HB.out.cell (World.block_lt_of_cell? w _ hw244_1)).trans hw244_1)⟩ (fun hHeld => ?_); refine with_tabW laws_eqPriceStepS.tab6 laws_eqPriceStepS.bits6 (fun HT_ HW_ => ?_); generalize wr.drew = w11 at HB hx243_0 hx243_1 hx244_0 hx244_1 hHeld ⊢; refine pure_ (i := 0) (N := some 17) (v := ?_) (a' := ?_) #[true, false, false, false, false, false, false, false, false, false] rfl rfl (any_of HT_.out (by kernel_rfl)) (fun _ _ _ h => h) (Or.inl ⟨by rfl, ?_⟩) ?_ ?_; rotate_left
        ·intro w'; go_simp; (with_reducible rfl)
        rotate_left
        ·simp only [Act.put, sA, s0, sS, i64_w, i32_w]; rfl
        refine pure_ (i := 1) (N := some 18) (v := ?_) (a' := ?_) #[true, true, false, false, false, false, false, false, false, false] rfl rfl (any_of HT_.out (by kernel_rfl)) (fun _ _ _ h => h) (Or.inl ⟨by rfl, ?_⟩) ?_ ?_; rotate_left
        ·intro w'; go_simp; (with_reducible rfl)
        rotate_left
        ·simp only [Act.put, sA, s0, sS, i64_w, i32_w]; rfl
        refine pure_ (i := 2) (N := some 19) (v := ?_) (a' := ?_) #[true, true, true, false, false, false, false, false, false, false] rfl rfl (any_of HT_.out (by kernel_rfl)) (fun _ _ _ h => h) (Or.inl ⟨by rfl, ?_⟩) ?_ ?_; rotate_left
        ·intro w'; go_simp; (with_reducible rfl)
        rotate_left
        ·simp only [Act.put, sA, s0, sS, i64_w, i32_w]; rfl
        refine pure_ (i := 4) (N := some 21) (v := ?_) (a' := ?_) #[true, true, true, false, true, false, false, false, false, false] rfl rfl (any_of HT_.out (by kernel_rfl)) (fun _ _ _ h => h) (Or.inl ⟨by rfl, ?_⟩) ?_ ?_; rotate_left
        ·intro w'; go_simp; (with_reducible rfl)
        rotate_left
        ·simp only [Act.put, sA, s0, sS, i64_w, i32_w]; rfl
        refine pure_ (i := 5) (N := some 22) (v := ?_) (a' := ?_) #[true, true, true, false, true, true, false, false, false, false] rfl rfl (any_of HT_.out (by kernel_rfl)) (fun _ _ _ h => h) (Or.inl ⟨by rfl, ?_⟩) ?_ ?_; rotate_left
        ·intro w'; go_simp; (with_reducible rfl)
        rotate_left
        ·simp only [Act.put, sA, s0, sS, i64_w, i32_w]; rfl
        refine pure_ (i := 6) (N := some 23) (v := ?_) (a' := ?_) #[true, true, true, false, true, true, true, false, false, false] rfl rfl (any_of HT_.out (by kernel_rfl)) (fun _ _ _ h => h) (Or.inl ⟨by rfl, ?_⟩) ?_ ?_; rotate_left
        ·intro w'; go_simp; (with_reducible rfl)
        rotate_left
        ·simp only [Act.put, sA, s0, sS, i64_w, i32_w]; rfl
        refine take_ (i := 3) (N := some 20) (v := ?_) (a' := ?_) #[true, true, true, true, true, true, true, false, false, false] rfl rfl (take_ofW HT_.out HW_.out (by kernel_rfl)) (fun _ _ _ h => h) (Or.inl ⟨by rfl, ?_⟩) hHeld ?_ ?_; rotate_left
        ·rintro w' ⟨s0, s1, s2, s3⟩; go_simp; (with_reducible rfl)
        rotate_left
        ·simp only [Act.put, sA, s0, sS, i64_w, i32_w]; rfl
        refine take_ (i := 7) (N := some 24) (v := ?_) (a' := ?_) #[true, true, true, true, true, true, true, true, false, false] rfl rfl (take_ofW HT_.out HW_.out (by kernel_rfl)) (fun _ _ _ h => h) (Or.inl ⟨by rfl, ?_⟩) hHeld ?_ ?_; rotate_left
        ·rintro w' ⟨s0, s1, s2, s3⟩; go_simp; (with_reducible rfl)
        rotate_left
        ·simp only [Act.put, sA, s0, sS, i64_w, i32_w]; rfl
        refine one_ (i := 8) (N := some 25) #[true, true, true, true, true, true, true, true, true, false] rfl rfl (one_of HT_.out (by kernel_rfl)) (by decide) (fun K hK => ?_); refine goes_ Try.func29 (by kernel_rfl) rfl #[.agg #[.int .i64 ((rd_T40 l0 x5_1).f0), .int .i64 ((rd_T40 l0 x5_1).f1)], .agg #[.int .i64 ((rd_T40 l1 x5_1).f0), .int .i64 ((rd_T40 l1 x5_1).f1)]] (by rfl) rfl rfl mq ?_; (with_reducible refine (laws_eqPriceStep.calls ((rd_T40 l0 x5_1).f0) ((rd_T40 l0 x5_1).f1) ((rd_T40 l1 x5_1).f0) ((rd_T40 l1 x5_1).f1) false _ A7.out).mono ?_); rintro e w12 ⟨rfl, hb⟩; refine ⟨_, rfl, ?_⟩; have n0_ := Aside0.mk (below_step (qb HB) hb); clear HB; have HB := n0_; clear n0_; (try clear hb); (try clear hb2); (try clear hk); (try clear hi); refine hK.out _ _ ⟨((HB.out.cell (World.block_lt_of_cell? w _ hw243_0)).trans hw243_0), ((HB.out.cell (World.block_lt_of_cell? w _ hw243_1)).trans hw243_1), ((HB.out.cell (World.block_lt_of_cell? w _ hw244_0)).trans hw244_0), ((HB.out.cell (World.block_lt_of_cell? w _ hw244_1)).trans hw244_1)⟩ (fun hHeld => ?_); clear hK K; refine norm_ (a' := ?_) ?_ ?_; rotate_left
        ·show Act.put _ (some 25) _ = _; simp only [Act.put, sA, s0, sS, i64_w, i32_w]; rfl
        refine pure_ (i := 9) (N := some 26) (v := ?_) (a' := ?_) #[true, true, true, true, true, true, true, true, true, true] rfl rfl (any_of HT_.out (by kernel_rfl)) (fun _ _ _ h => h) (Or.inl ⟨by rfl, ?_⟩) ?_ ?_; rotate_left
        ·intro w'; go_simp; (with_reducible rfl)
        rotate_left
        ·simp only [Act.put, sA, s0, sS, i64_w, i32_w]; rfl
        refine done_ (done_of HT_.out (by kernel_rfl)) ?_
        try go_wp2
        go_ret; exact ⟨eqq, qb HB⟩
      ·rw [if_neg c6] at H; exact absurd H (by simp)
     ·rw [if_neg c5] at H; exact absurd H (by simp)
    ·rw [if_neg c4] at H; have c4b0 : decide (x5_1 < (l0.length : Int)) = false := decide_eq_false c4; clear c4; obtain rfl := Option.some.inj H; go_wp2; go_ret; exact ⟨eqq, qb HB⟩
 ·rw [if_neg c3] at H; have c3b0 : ((l0.length : Int) == (l1.length : Int)) = false := beq_eq_false_iff_ne.mpr c3; have c3b1 : ((l0.length : Int) != (l1.length : Int)) = true := bne_iff_ne.mpr c3
  have c3b2 : (l0.length == l1.length) = false := by first | simpa using c3 | (simp at c3 ⊢; omega)
  obtain rfl := Option.some.inj H; go_enter Try.func9, Try.ntmps9; go_wp2; go_ret; exact ⟨eqq, qb HB⟩

end Go.Proofs.Ytembklbofdgmgaa.PAll
