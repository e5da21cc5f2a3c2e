-- Written by wip/tools/hp.py over the kit's print (not by hand): functions and walks of All.
import Derived.Test.YtbmpkggjcnmieaaPAllx0
namespace Go.Proofs.Ytbmpkggjcnmieaa.PAll
open Go.RowKit Go.Proofs.YtbmpkggjcnmieaaW.PrintWords Go.Proofs.YtbmpkggjcnmieaaW.PrintLast Go.Proofs.YtbmpkggjcnmieaaW.PrintMore
attribute [local go_sem] max2_int min2_int max_two min_two max_three min_three max_four min_four   -- for this text's walks alone
set_option linter.unusedVariables false
set_option linter.unusedSimpArgs false

/-! ### laws_szTermS: function 45 -/
def laws_szTermS.f (l0 : List (S101)) (a1 : Int) : Option (Int) := if (wrap64 (a1 - (l0.length : Int))) < 0 then (some (-1)) else (some (wrap64 (a1 - (l0.length : Int))))
set_option maxHeartbeats 8000000 in
set_option maxRecDepth 100000 in
theorem laws_szTermS.calls (A0 : Option Addr) (c0 : Nat) (l0 : List (S101)) (a1 : Int) (r : Int) (w : World) (hr0 : Kd.C k101 w A0 l0.length l0) (hc0 : l0.length ≤ c0) (h : laws_szTermS.f l0 a1 = some r) :
  Calls Try.prog 45 #[.slice A0 l0.length c0, .int .i64 a1] w fun e w' => e = .returned (.int .i64 r) ∧ Drawn0 w w' := by
 have HR0 := Aside0.mk hr0; have HC0 := Aside0.mk hc0; clear hr0 hc0; have H : (if (wrap64 (a1 - (l0.length : Int))) < 0 then (some (-1)) else (some (wrap64 (a1 - (l0.length : Int))))) = some r := h; clear h; by_cases c3 : (wrap64 (a1 - (l0.length : Int))) < 0
 ·rw [if_pos c3] at H; have c3b0 : decide ((wrap64 (a1 - (l0.length : Int))) < 0) = true := decide_eq_true c3; clear c3; obtain rfl := Option.some.inj H; go_enter Try.func45, Try.ntmps45; go_wp2; go_ret; exact ⟨by first | rfl | (simp; done) | (simp [*]; done), by repeat (first | exact Drawn0.refl _ | apply Drawn0.step)⟩
 ·rw [if_neg c3] at H; have c3b0 : decide ((wrap64 (a1 - (l0.length : Int))) < 0) = false := decide_eq_false c3; clear c3; obtain rfl := Option.some.inj H; go_enter Try.func45, Try.ntmps45; go_wp2; go_ret; exact ⟨by first | rfl | (simp; done) | (simp [*]; done), by repeat (first | exact Drawn0.refl _ | apply Drawn0.step)⟩

/-! ### laws_szClause: function 19 -/
def laws_szClause.f (a0_0 : ByteArray) (l0_1 : List (S101)) (a0_2 : Int) (a0_3 : Int) (a1 : Int) : Option (Int) := if (wrap64 (a1 - (a0_0.size : Int))) < 0 then (some (-1)) else ((laws_szTermS.f l0_1 (wrap64 (a1 - (a0_0.size : Int)))).bind fun t102 => (if t102 < 0 then (some (-1)) else (some t102)))
set_option maxHeartbeats 8000000 in
set_option maxRecDepth 100000 in
theorem laws_szClause.calls (a0_0 : ByteArray) (A0_1 : Option Addr) (c0_1 : Nat) (l0_1 : List (S101)) (a0_2 : Int) (a0_3 : Int) (a1 : Int) (r : Int) (w : World) (hr0_1 : Kd.C k101 w A0_1 l0_1.length l0_1) (hc0_1 : l0_1.length ≤ c0_1) (h : laws_szClause.f a0_0 l0_1 a0_2 a0_3 a1 = some r) :
  Calls Try.prog 19 #[.agg #[.string a0_0, .slice A0_1 l0_1.length c0_1, .int .i64 a0_2, .int .i64 a0_3], .int .i64 a1] w fun e w' => e = .returned (.int .i64 r) ∧ Below w.heap.size w w' := by
 have hu54 := Try.underlying54; have HR0_1 := Aside0.mk hr0_1; have HC0_1 := Aside0.mk hc0_1; clear hr0_1 hc0_1; have HB := Aside0.mk (Below.refl w.heap.size w); have H : (if (wrap64 (a1 - (a0_0.size : Int))) < 0 then (some (-1)) else ((laws_szTermS.f l0_1 (wrap64 (a1 - (a0_0.size : Int)))).bind fun t102 => (if t102 < 0 then (some (-1)) else (some t102)))) = some r := h; clear h; by_cases c3 : (wrap64 (a1 - (a0_0.size : Int))) < 0
 ·rw [if_pos c3] at H; have c3b0 : decide ((wrap64 (a1 - (a0_0.size : Int))) < 0) = true := decide_eq_true c3; clear c3; obtain rfl := Option.some.inj H; go_enter Try.func19, Try.ntmps19
  go_wp2_with (first | ((with_reducible refine gate_dst (N := 2) rfl ?_); refine box_event ?hg (N := 2) ?hd (cs := #[.string a0_0, .slice A0_1 l0_1.length c0_1, .int .i64 a0_2, .int .i64 a0_3]) (t := 54) ?hr ?_; (case hd => rfl); (case hg => rfl); (case hr => first | (go_simp; done) | (go_simp; rfl)); intro gb101 hg w4 hbox hb; have n0_ := Aside0.mk (below_step (qb HB) hb); have n1_ := Aside0.mk (hbox); have n2_ := Aside0.mk ((by rw [hg]; exact (below_size (qb HB)) : w.heap.size ≤ gb101)); have n3_ := Aside0.mk ((by rw [hg]; exact (below_size (qb HB)) : w.heap.size ≤ gb101)); clear HB; have HB := n0_; have BK101 := n1_; have GW101 := n2_; have GE101 := n3_; clear n0_ n1_ n2_ n3_; clear hb hbox hg; obtain ⟨hcz5_0, hcz5_1, hcz5_2, hcz5_3, hfz5_0, hfz5_1, hfz5_2, hfz5_3⟩ := bz4 BK101))
  go_ret; exact ⟨eqq, qb HB⟩
 ·rw [if_neg c3] at H; have c3b0 : decide ((wrap64 (a1 - (a0_0.size : Int))) < 0) = false := decide_eq_false c3; clear c3; replace H := Option.bind_eq_some_iff.mp H; obtain ⟨t102, A60, H⟩ := H; replace H : (if t102 < 0 then (some (-1)) else (some t102)) = some r := H; have A6 := Aside0.mk A60; clear A60; by_cases c7 : t102 < 0
  ·rw [if_pos c7] at H; have c7b0 : decide (t102 < 0) = true := decide_eq_true c7; clear c7; obtain rfl := Option.some.inj H; go_enter Try.func19, Try.ntmps19
   go_wp2_with (first | ((with_reducible refine gate_dst (N := 2) rfl ?_); refine box_event ?hg (N := 2) ?hd (cs := #[.string a0_0, .slice A0_1 l0_1.length c0_1, .int .i64 a0_2, .int .i64 a0_3]) (t := 54) ?hr ?_; (case hd => rfl); (case hg => rfl); (case hr => first | (go_simp; done) | (go_simp; rfl)); intro gb101 hg w8 hbox hb; have n0_ := Aside0.mk (below_step (qb HB) hb); have n1_ := Aside0.mk (hbox); have n2_ := Aside0.mk ((by rw [hg]; exact (below_size (qb HB)) : w.heap.size ≤ gb101)); have n3_ := Aside0.mk ((by rw [hg]; exact (below_size (qb HB)) : w.heap.size ≤ gb101)); clear HB; have HB := n0_; have BK101 := n1_; have GW101 := n2_; have GE101 := n3_; clear n0_ n1_ n2_ n3_; clear hb hbox hg; obtain ⟨hcz9_0, hcz9_1, hcz9_2, hcz9_3, hfz9_0, hfz9_1, hfz9_2, hfz9_3⟩ := bz4 BK101) | ((with_reducible refine gate_callee (f := 45) rfl ?_); refine goesL_ (some 15) rfl rfl Try.func45 (by kernel_rfl) rfl #[.slice A0_1 l0_1.length c0_1, .int .i64 (wrap64 (a1 - (a0_0.size : Int)))] rfl mq ?_; (with_reducible refine (laws_szTermS.calls _ _ l0_1 (wrap64 (a1 - (a0_0.size : Int))) t102 _ ?side1 ?side2 A6.out).mono ?_); (case side1 => repeat (first | exact (Kd.C_below HR0_1.out HB.out) | (with_reducible refine Kd.C_alloc ?_ _) | (with_reducible refine Kd.C_drewN ?_ _) | (with_reducible refine Kd.C_drew ?_))); (case side2 => exact HC0_1.out); rintro e w' ⟨rfl, ⟨nd, rfl⟩⟩; refine ⟨_, rfl, ?_⟩))
   go_ret; exact ⟨eqq, qb HB⟩
  ·rw [if_neg c7] at H; have c7b0 : decide (t102 < 0) = false := decide_eq_false c7; clear c7; obtain rfl := Option.some.inj H; go_enter Try.func19, Try.ntmps19
   go_wp2_with (first | ((with_reducible refine gate_dst (N := 2) rfl ?_); refine box_event ?hg (N := 2) ?hd (cs := #[.string a0_0, .slice A0_1 l0_1.length c0_1, .int .i64 a0_2, .int .i64 a0_3]) (t := 54) ?hr ?_; (case hd => rfl); (case hg => rfl); (case hr => first | (go_simp; done) | (go_simp; rfl)); intro gb101 hg w10 hbox hb; have n0_ := Aside0.mk (below_step (qb HB) hb); have n1_ := Aside0.mk (hbox); have n2_ := Aside0.mk ((by rw [hg]; exact (below_size (qb HB)) : w.heap.size ≤ gb101)); have n3_ := Aside0.mk ((by rw [hg]; exact (below_size (qb HB)) : w.heap.size ≤ gb101)); clear HB; have HB := n0_; have BK101 := n1_; have GW101 := n2_; have GE101 := n3_; clear n0_ n1_ n2_ n3_; clear hb hbox hg; obtain ⟨hcz11_0, hcz11_1, hcz11_2, hcz11_3, hfz11_0, hfz11_1, hfz11_2, hfz11_3⟩ := bz4 BK101) | ((with_reducible refine gate_callee (f := 45) rfl ?_); refine goesL_ (some 15) rfl rfl Try.func45 (by kernel_rfl) rfl #[.slice A0_1 l0_1.length c0_1, .int .i64 (wrap64 (a1 - (a0_0.size : Int)))] rfl mq ?_; (with_reducible refine (laws_szTermS.calls _ _ l0_1 (wrap64 (a1 - (a0_0.size : Int))) t102 _ ?side1 ?side2 A6.out).mono ?_); (case side1 => repeat (first | exact (Kd.C_below HR0_1.out HB.out) | (with_reducible refine Kd.C_alloc ?_ _) | (with_reducible refine Kd.C_drewN ?_ _) | (with_reducible refine Kd.C_drew ?_))); (case side2 => exact HC0_1.out); rintro e w' ⟨rfl, ⟨nd, rfl⟩⟩; refine ⟨_, rfl, ?_⟩))
   go_ret; exact ⟨eqq, qb HB⟩

/-! ### laws_szClauseS: function 5 -/
def laws_szClauseS.l0 : Nat → List (S54) → Int → Int → Option (Int)
 | 0, _, _, _ => none
 | k + 1, x0, x1, x5 => if x5 < (x0.length : Int) then (if 0 ≤ x5 then ((laws_szClause.f ((rd_T54 x0 x5).f0) ((rd_T54 x0 x5).f1) ((rd_T54 x0 x5).f2) ((rd_T54 x0 x5).f3) x1).bind fun t104 => (if t104 < 0 then (some (-1)) else (laws_szClauseS.l0 k x0 t104 (wrap64 (x5 + 1))))) else (none)) else (some x1)
def laws_szClauseS.f (k : Nat) (l0 : List (S54)) (a1 : Int) : Option (Int) := if (wrap64 (a1 - (l0.length : Int))) < 0 then (some (-1)) else (laws_szClauseS.l0 k l0 (wrap64 (a1 - (l0.length : Int))) 0)
theorem laws_szClauseS.mono_l : ∀ k, (∀ y0 y1 y2, LeO (laws_szClauseS.l0 k y0 y1 y2) (laws_szClauseS.l0 (k + 1) y0 y1 y2))
 | 0 => fun _ _ _ r h => by simp [laws_szClauseS.l0] at h
 | k + 1 => by
  have ih0 := laws_szClauseS.mono_l k
  ·intro y0 y1 y2; unfold laws_szClauseS.l0
   repeat' first
   | (with_reducible exact ih0 _ _ _)
   | (with_reducible exact LeO.refl _)
   | (with_reducible exact LeO.none _)
   | (with_reducible refine LeO.ite ?_ ?_)
   | (with_reducible refine LeO.bind ?_ (fun _ => ?_))
   | exact ih0 _ _ _
   | exact LeO.none _
   | refine LeO.ite ?_ ?_
   | refine LeO.bind ?_ (fun _ => ?_)
theorem laws_szClauseS.mono : ∀ a0 a1 k, LeO (laws_szClauseS.f k a0 a1) (laws_szClauseS.f (k + 1) a0 a1) := by
 intro a0 a1 k; have ih0 := laws_szClauseS.mono_l k; unfold laws_szClauseS.f
 repeat' first
   | (with_reducible exact ih0 _ _ _)
   | (with_reducible exact LeO.refl _)
   | (with_reducible exact LeO.none _)
   | (with_reducible refine LeO.ite ?_ ?_)
   | (with_reducible refine LeO.bind ?_ (fun _ => ?_))
   | exact ih0 _ _ _
   | exact LeO.none _
   | refine LeO.ite ?_ ?_
   | refine LeO.bind ?_ (fun _ => ?_)
set_option maxHeartbeats 8000000 in
set_option maxRecDepth 100000 in
theorem laws_szClauseS.calls (k : Nat) (A0 : Option Addr) (c0 : Nat) (l0 : List (S54)) (a1 : Int) (r : Int) (w : World) (hr0 : Kd.C k54 w A0 l0.length l0) (hc0 : l0.length ≤ c0) (h : laws_szClauseS.f k l0 a1 = some r) :
  Calls Try.prog 5 #[.slice A0 l0.length c0, .int .i64 a1] w fun e w' => e = .returned (.int .i64 r) ∧ Below w.heap.size w w' := by
 have hu54 := Try.underlying54; have HR0 := Aside0.mk hr0; have HC0 := Aside0.mk hc0; clear hr0 hc0; have HB := Aside0.mk (Below.refl w.heap.size w); have H : (if (wrap64 (a1 - (l0.length : Int))) < 0 then (some (-1)) else (laws_szClauseS.l0 k l0 (wrap64 (a1 - (l0.length : Int))) 0)) = some r := h; clear h; by_cases c3 : (wrap64 (a1 - (l0.length : Int))) < 0
 ·rw [if_pos c3] at H; have c3b0 : decide ((wrap64 (a1 - (l0.length : Int))) < 0) = true := decide_eq_true c3; clear c3; obtain rfl := Option.some.inj H; go_enter Try.func5, Try.ntmps5; go_wp2; go_ret; exact ⟨eqq, qb HB⟩
 ·rw [if_neg c3] at H; have c3b0 : decide ((wrap64 (a1 - (l0.length : Int))) < 0) = false := decide_eq_false c3; clear c3; have H' := Aside0.mk H; clear H; go_enter Try.func5, Try.ntmps5; go_wp2
  go_loopg [1, 5] k (fun kq v1 v5 w' => ∃ (x1_1 : Int) (x5_1 : Int), v1 = .int .i64 x1_1 ∧ v5 = .int .i64 x5_1 ∧ Aside0 (laws_szClauseS.l0 kq l0 x1_1 x5_1 = some r) ∧ Aside0 (kq ≤ k) ∧ Aside0 (Below w.heap.size w w'))
  case atStart => exact ⟨(wrap64 (a1 - (l0.length : Int))), (0), (by first | rfl | (simp; done) | (simp [*]; done)), (by first | rfl | (simp; done) | (simp [*]; done)), H', ⟨Nat.le_refl _⟩, ⟨qb HB⟩⟩
  case round =>
   clear H'; (try clear p2); (try clear c3); (try clear c3b0); obtain ⟨x1_1, x5_1, rfl, rfl, HA, HK1, HB⟩ := hrel
   cases gk with
   | zero => exact absurd HA.out (by simp [laws_szClauseS.l0])
   | succ k1 =>
    have H := HA.out; clear HA; simp only [laws_szClauseS.l0] at H; by_cases c4 : x5_1 < (l0.length : Int)
    ·rw [if_pos c4] at H; have c4b0 : decide (x5_1 < (l0.length : Int)) = true := decide_eq_true c4; clear c4; by_cases c5 : 0 ≤ x5_1
     ·rw [if_pos c5] at H; have c5b0 : decide (0 ≤ x5_1) = true := decide_eq_true c5; clear c5; replace H := Option.bind_eq_some_iff.mp H; obtain ⟨t104, A60, H⟩ := H; replace H : (if t104 < 0 then (some (-1)) else (laws_szClauseS.l0 k1 l0 t104 (wrap64 (x5_1 + 1)))) = some r := H; have A6 := Aside0.mk A60; clear A60; by_cases c7 : t104 < 0
      ·rw [if_pos c7] at H; have c7b0 : decide (t104 < 0) = true := decide_eq_true c7; clear c7; obtain rfl := Option.some.inj H; have p103 : 0 ≤ (x5_1 : Int) := of_decide_eq_true (by first | (with_reducible assumption) | assumption); have q103 : x5_1 < (l0.length : Int) := of_decide_eq_true (by first | (with_reducible assumption) | assumption); obtain ⟨ad103, A103_1, c103_1, e103, hx103_0, hx103_1, hx103_2, hx103_3, hl103_1, hi103_1⟩ := at_T54 HR0.out x5_1 p103 q103
       cases e103
       replace hx103_0 := (HB.out.cell (World.block_lt_of_cell? w _ hx103_0)).trans hx103_0; replace hx103_1 := (HB.out.cell (World.block_lt_of_cell? w _ hx103_1)).trans hx103_1; replace hx103_2 := (HB.out.cell (World.block_lt_of_cell? w _ hx103_2)).trans hx103_2; replace hx103_3 := (HB.out.cell (World.block_lt_of_cell? w _ hx103_3)).trans hx103_3; have HR103_1 := Aside0.mk hi103_1; have HC103_1 := Aside0.mk hl103_1; clear hi103_1 hl103_1; replace p103 := eq_true p103; replace q103 := eq_true q103
       go_wp2_with (first | ((with_reducible refine gate_callee (f := 19) rfl ?_); refine goesL_ (some 23) rfl rfl Try.func19 (by kernel_rfl) rfl #[.agg #[.string ((rd_T54 l0 x5_1).f0), .slice A103_1 ((rd_T54 l0 x5_1).f1).length c103_1, .int .i64 ((rd_T54 l0 x5_1).f2), .int .i64 ((rd_T54 l0 x5_1).f3)], .int .i64 x1_1] rfl mq ?_; (with_reducible refine (laws_szClause.calls ((rd_T54 l0 x5_1).f0) _ _ ((rd_T54 l0 x5_1).f1) ((rd_T54 l0 x5_1).f2) ((rd_T54 l0 x5_1).f3) x1_1 t104 _ ?side1 ?side2 A6.out).mono ?_); (case side1 => repeat (first | exact (Kd.C_below HR103_1.out HB.out) | (with_reducible refine Kd.C_alloc ?_ _) | (with_reducible refine Kd.C_drewN ?_ _) | (with_reducible refine Kd.C_drew ?_))); (case side2 => exact HC103_1.out); rintro e w8 ⟨rfl, hb⟩; refine ⟨_, rfl, ?_⟩; have n0_ := Aside0.mk (below_step (qb HB) hb); clear HB; have HB := n0_; clear n0_; (try clear hb); (try clear hb2); (try clear hk); (try clear hi)))
       go_ret; exact ⟨eqq, qb HB⟩
      ·rw [if_neg c7] at H; have c7b0 : decide (t104 < 0) = false := decide_eq_false c7; clear c7; have H' := Aside0.mk H; clear H; have p103 : 0 ≤ (x5_1 : Int) := of_decide_eq_true (by first | (with_reducible assumption) | assumption); have q103 : x5_1 < (l0.length : Int) := of_decide_eq_true (by first | (with_reducible assumption) | assumption); obtain ⟨ad103, A103_1, c103_1, e103, hx103_0, hx103_1, hx103_2, hx103_3, hl103_1, hi103_1⟩ := at_T54 HR0.out x5_1 p103 q103
       cases e103
       replace hx103_0 := (HB.out.cell (World.block_lt_of_cell? w _ hx103_0)).trans hx103_0; replace hx103_1 := (HB.out.cell (World.block_lt_of_cell? w _ hx103_1)).trans hx103_1; replace hx103_2 := (HB.out.cell (World.block_lt_of_cell? w _ hx103_2)).trans hx103_2; replace hx103_3 := (HB.out.cell (World.block_lt_of_cell? w _ hx103_3)).trans hx103_3; have HR103_1 := Aside0.mk hi103_1; have HC103_1 := Aside0.mk hl103_1; clear hi103_1 hl103_1; replace p103 := eq_true p103; replace q103 := eq_true q103
       go_wp2_with (first | ((with_reducible refine gate_callee (f := 19) rfl ?_); refine goesL_ (some 23) rfl rfl Try.func19 (by kernel_rfl) rfl #[.agg #[.string ((rd_T54 l0 x5_1).f0), .slice A103_1 ((rd_T54 l0 x5_1).f1).length c103_1, .int .i64 ((rd_T54 l0 x5_1).f2), .int .i64 ((rd_T54 l0 x5_1).f3)], .int .i64 x1_1] rfl mq ?_; (with_reducible refine (laws_szClause.calls ((rd_T54 l0 x5_1).f0) _ _ ((rd_T54 l0 x5_1).f1) ((rd_T54 l0 x5_1).f2) ((rd_T54 l0 x5_1).f3) x1_1 t104 _ ?side1 ?side2 A6.out).mono ?_); (case side1 => repeat (first | exact (Kd.C_below HR103_1.out HB.out) | (with_reducible refine Kd.C_alloc ?_ _) | (with_reducible refine Kd.C_drewN ?_ _) | (with_reducible refine Kd.C_drew ?_))); (case side2 => exact HC103_1.out); rintro e w9 ⟨rfl, hb⟩; refine ⟨_, rfl, ?_⟩; have n0_ := Aside0.mk (below_step (qb HB) hb); clear HB; have HB := n0_; clear n0_; (try clear hb); (try clear hb2); (try clear hk); (try clear hi)))
       go_roundg k1
       case measure => have := HK1.out; omega
       case rel => exact ⟨(t104), (wrap64 (x5_1 + 1)), (by first | rfl | (simp; done) | (simp [*]; done)), (by first | rfl | (simp; done) | (simp [*]; done)), H', ⟨by have := HK1.out; omega⟩, ⟨qb HB⟩⟩
     ·rw [if_neg c5] at H; exact absurd H (by simp)
    ·rw [if_neg c4] at H; have c4b0 : decide (x5_1 < (l0.length : Int)) = false := decide_eq_false c4; clear c4; obtain rfl := Option.some.inj H; go_wp2; go_ret; exact ⟨eqq, qb HB⟩

/-! ### spec_l00Letter: function 86 -/
mutual
def spec_l00Letter.j0 : Nat → ByteArray → Int → Int → Bool → Option (Int)
 | 0, _, _, _, _ => none
 | k + 1, x0, x1, x5, x27 => if x27 = true then (some 1) else (if x5 < 194 then (spec_l00Letter.j1 k x0 x1 x5 true) else (if x5 > 223 then (spec_l00Letter.j1 k x0 x1 x5 true) else (if (wrap64 (x1 + 1)) ≥ (x0.size : Int) then (spec_l00Letter.j1 k x0 x1 x5 true) else (if 0 ≤ (wrap64 (x1 + 1)) then (if (wrap64 (x1 + 1)) < (x0.size : Int) then (if (bt x0 (wrap64 (x1 + 1))) < 128 then (spec_l00Letter.j1 k x0 x1 x5 true) else (spec_l00Letter.j1 k x0 x1 x5 (decide ((bt x0 (wrap64 (x1 + 1))) > 191)))) else (none)) else (none)))))
def spec_l00Letter.j1 : Nat → ByteArray → Int → Int → Bool → Option (Int)
 | 0, _, _, _, _ => none
 | k + 1, x0, x1, x5, x54 => if x54 = true then (some 0) else (if 0 ≤ (wrap64 (x1 + 1)) then (if (wrap64 (x1 + 1)) < (x0.size : Int) then (if (wrap64 ((wrap64 ((wrap64 ((wrap64 ((wrap64 (x5)) - 192)) * 64)) + (wrap64 (bt x0 (wrap64 (x1 + 1)))))) - 128)) ≥ 192 then (if (wrap64 ((wrap64 ((wrap64 ((wrap64 ((wrap64 (x5)) - 192)) * 64)) + (wrap64 (bt x0 (wrap64 (x1 + 1)))))) - 128)) ≤ 591 then (if (wrap64 ((wrap64 ((wrap64 ((wrap64 ((wrap64 (x5)) - 192)) * 64)) + (wrap64 (bt x0 (wrap64 (x1 + 1)))))) - 128)) = 215 then (if (wrap64 ((wrap64 ((wrap64 ((wrap64 ((wrap64 (x5)) - 192)) * 64)) + (wrap64 (bt x0 (wrap64 (x1 + 1)))))) - 128)) ≥ 913 then (if (wrap64 ((wrap64 ((wrap64 ((wrap64 ((wrap64 (x5)) - 192)) * 64)) + (wrap64 (bt x0 (wrap64 (x1 + 1)))))) - 128)) ≤ 969 then (some 2) else (if (wrap64 ((wrap64 ((wrap64 ((wrap64 ((wrap64 (x5)) - 192)) * 64)) + (wrap64 (bt x0 (wrap64 (x1 + 1)))))) - 128)) ≥ 1040 then (if (wrap64 ((wrap64 ((wrap64 ((wrap64 ((wrap64 (x5)) - 192)) * 64)) + (wrap64 (bt x0 (wrap64 (x1 + 1)))))) - 128)) ≤ 1103 then (some 2) else (some 0)) else (some 0))) else (if (wrap64 ((wrap64 ((wrap64 ((wrap64 ((wrap64 (x5)) - 192)) * 64)) + (wrap64 (bt x0 (wrap64 (x1 + 1)))))) - 128)) ≥ 1040 then (if (wrap64 ((wrap64 ((wrap64 ((wrap64 ((wrap64 (x5)) - 192)) * 64)) + (wrap64 (bt x0 (wrap64 (x1 + 1)))))) - 128)) ≤ 1103 then (some 2) else (some 0)) else (some 0))) else (if (wrap64 ((wrap64 ((wrap64 ((wrap64 ((wrap64 (x5)) - 192)) * 64)) + (wrap64 (bt x0 (wrap64 (x1 + 1)))))) - 128)) = 247 then (if (wrap64 ((wrap64 ((wrap64 ((wrap64 ((wrap64 (x5)) - 192)) * 64)) + (wrap64 (bt x0 (wrap64 (x1 + 1)))))) - 128)) ≥ 913 then (if (wrap64 ((wrap64 ((wrap64 ((wrap64 ((wrap64 (x5)) - 192)) * 64)) + (wrap64 (bt x0 (wrap64 (x1 + 1)))))) - 128)) ≤ 969 then (some 2) else (if (wrap64 ((wrap64 ((wrap64 ((wrap64 ((wrap64 (x5)) - 192)) * 64)) + (wrap64 (bt x0 (wrap64 (x1 + 1)))))) - 128)) ≥ 1040 then (if (wrap64 ((wrap64 ((wrap64 ((wrap64 ((wrap64 (x5)) - 192)) * 64)) + (wrap64 (bt x0 (wrap64 (x1 + 1)))))) - 128)) ≤ 1103 then (some 2) else (some 0)) else (some 0))) else (if (wrap64 ((wrap64 ((wrap64 ((wrap64 ((wrap64 (x5)) - 192)) * 64)) + (wrap64 (bt x0 (wrap64 (x1 + 1)))))) - 128)) ≥ 1040 then (if (wrap64 ((wrap64 ((wrap64 ((wrap64 ((wrap64 (x5)) - 192)) * 64)) + (wrap64 (bt x0 (wrap64 (x1 + 1)))))) - 128)) ≤ 1103 then (some 2) else (some 0)) else (some 0))) else (some 2))) else (if (wrap64 ((wrap64 ((wrap64 ((wrap64 ((wrap64 (x5)) - 192)) * 64)) + (wrap64 (bt x0 (wrap64 (x1 + 1)))))) - 128)) ≥ 913 then (if (wrap64 ((wrap64 ((wrap64 ((wrap64 ((wrap64 (x5)) - 192)) * 64)) + (wrap64 (bt x0 (wrap64 (x1 + 1)))))) - 128)) ≤ 969 then (some 2) else (if (wrap64 ((wrap64 ((wrap64 ((wrap64 ((wrap64 (x5)) - 192)) * 64)) + (wrap64 (bt x0 (wrap64 (x1 + 1)))))) - 128)) ≥ 1040 then (if (wrap64 ((wrap64 ((wrap64 ((wrap64 ((wrap64 (x5)) - 192)) * 64)) + (wrap64 (bt x0 (wrap64 (x1 + 1)))))) - 128)) ≤ 1103 then (some 2) else (some 0)) else (some 0))) else (if (wrap64 ((wrap64 ((wrap64 ((wrap64 ((wrap64 (x5)) - 192)) * 64)) + (wrap64 (bt x0 (wrap64 (x1 + 1)))))) - 128)) ≥ 1040 then (if (wrap64 ((wrap64 ((wrap64 ((wrap64 ((wrap64 (x5)) - 192)) * 64)) + (wrap64 (bt x0 (wrap64 (x1 + 1)))))) - 128)) ≤ 1103 then (some 2) else (some 0)) else (some 0)))) else (if (wrap64 ((wrap64 ((wrap64 ((wrap64 ((wrap64 (x5)) - 192)) * 64)) + (wrap64 (bt x0 (wrap64 (x1 + 1)))))) - 128)) ≥ 913 then (if (wrap64 ((wrap64 ((wrap64 ((wrap64 ((wrap64 (x5)) - 192)) * 64)) + (wrap64 (bt x0 (wrap64 (x1 + 1)))))) - 128)) ≤ 969 then (some 2) else (if (wrap64 ((wrap64 ((wrap64 ((wrap64 ((wrap64 (x5)) - 192)) * 64)) + (wrap64 (bt x0 (wrap64 (x1 + 1)))))) - 128)) ≥ 1040 then (if (wrap64 ((wrap64 ((wrap64 ((wrap64 ((wrap64 (x5)) - 192)) * 64)) + (wrap64 (bt x0 (wrap64 (x1 + 1)))))) - 128)) ≤ 1103 then (some 2) else (some 0)) else (some 0))) else (if (wrap64 ((wrap64 ((wrap64 ((wrap64 ((wrap64 (x5)) - 192)) * 64)) + (wrap64 (bt x0 (wrap64 (x1 + 1)))))) - 128)) ≥ 1040 then (if (wrap64 ((wrap64 ((wrap64 ((wrap64 ((wrap64 (x5)) - 192)) * 64)) + (wrap64 (bt x0 (wrap64 (x1 + 1)))))) - 128)) ≤ 1103 then (some 2) else (some 0)) else (some 0)))) else (none)) else (none))
end
def spec_l00Letter.f (k : Nat) (a0 : ByteArray) (a1 : Int) : Option (Int) := if 0 ≤ a1 then (if a1 < (a0.size : Int) then (if (bt a0 a1) ≥ 97 then (if (bt a0 a1) ≤ 122 then (spec_l00Letter.j0 k a0 a1 (bt a0 a1) true) else (if (bt a0 a1) ≥ 65 then (if (bt a0 a1) ≤ 90 then (spec_l00Letter.j0 k a0 a1 (bt a0 a1) true) else (spec_l00Letter.j0 k a0 a1 (bt a0 a1) ((bt a0 a1) == 95))) else (spec_l00Letter.j0 k a0 a1 (bt a0 a1) ((bt a0 a1) == 95)))) else (if (bt a0 a1) ≥ 65 then (if (bt a0 a1) ≤ 90 then (spec_l00Letter.j0 k a0 a1 (bt a0 a1) true) else (spec_l00Letter.j0 k a0 a1 (bt a0 a1) ((bt a0 a1) == 95))) else (spec_l00Letter.j0 k a0 a1 (bt a0 a1) ((bt a0 a1) == 95)))) else (none)) else (none)
theorem spec_l00Letter.mono_l : ∀ k, (∀ y0 y1 y2 y3, LeO (spec_l00Letter.j0 k y0 y1 y2 y3) (spec_l00Letter.j0 (k + 1) y0 y1 y2 y3)) ∧ (∀ y0 y1 y2 y3, LeO (spec_l00Letter.j1 k y0 y1 y2 y3) (spec_l00Letter.j1 (k + 1) y0 y1 y2 y3))
 | 0 => ⟨fun _ _ _ _ r h => by simp [spec_l00Letter.j0] at h, fun _ _ _ _ r h => by simp [spec_l00Letter.j1] at h⟩
 | k + 1 => by
  obtain ⟨ih0, ih1⟩ := spec_l00Letter.mono_l k; refine ⟨?_, ?_⟩
  ·intro y0 y1 y2 y3; unfold spec_l00Letter.j0
   repeat' first
   | (with_reducible exact ih0 _ _ _ _)
   | (with_reducible exact ih1 _ _ _ _)
   | (with_reducible exact LeO.refl _)
   | (with_reducible exact LeO.none _)
   | (with_reducible refine LeO.ite ?_ ?_)
   | (with_reducible refine LeO.bind ?_ (fun _ => ?_))
   | exact ih0 _ _ _ _
   | exact ih1 _ _ _ _
   | exact LeO.none _
   | refine LeO.ite ?_ ?_
   | refine LeO.bind ?_ (fun _ => ?_)
  ·intro y0 y1 y2 y3; unfold spec_l00Letter.j1
   repeat' first
   | (with_reducible exact ih0 _ _ _ _)
   | (with_reducible exact ih1 _ _ _ _)
   | (with_reducible exact LeO.refl _)
   | (with_reducible exact LeO.none _)
   | (with_reducible refine LeO.ite ?_ ?_)
   | (with_reducible refine LeO.bind ?_ (fun _ => ?_))
   | exact ih0 _ _ _ _
   | exact ih1 _ _ _ _
   | exact LeO.none _
   | refine LeO.ite ?_ ?_
   | refine LeO.bind ?_ (fun _ => ?_)
theorem spec_l00Letter.mono : ∀ a0 a1 k, LeO (spec_l00Letter.f k a0 a1) (spec_l00Letter.f (k + 1) a0 a1) := by
 intro a0 a1 k; obtain ⟨ih0, ih1⟩ := spec_l00Letter.mono_l k; unfold spec_l00Letter.f
 repeat' first
   | (with_reducible exact ih0 _ _ _ _)
   | (with_reducible exact ih1 _ _ _ _)
   | (with_reducible exact LeO.refl _)
   | (with_reducible exact LeO.none _)
   | (with_reducible refine LeO.ite ?_ ?_)
   | (with_reducible refine LeO.bind ?_ (fun _ => ?_))
   | exact ih0 _ _ _ _
   | exact ih1 _ _ _ _
   | exact LeO.none _
   | refine LeO.ite ?_ ?_
   | refine LeO.bind ?_ (fun _ => ?_)
set_option maxHeartbeats 8000000 in
set_option maxRecDepth 100000 in
theorem spec_l00Letter.calls (k : Nat) (a0 : ByteArray) (a1 : Int) (r : Int) (w : World) (h : spec_l00Letter.f k a0 a1 = some r) :
  Calls Try.prog 86 #[.string a0, .int .i64 a1] w fun e w' => e = .returned (.int .i64 r) ∧ Drawn0 w w' := by
 have H : (if 0 ≤ a1 then (if a1 < (a0.size : Int) then (if (bt a0 a1) ≥ 97 then (if (bt a0 a1) ≤ 122 then (spec_l00Letter.j0 k a0 a1 (bt a0 a1) true) else (if (bt a0 a1) ≥ 65 then (if (bt a0 a1) ≤ 90 then (spec_l00Letter.j0 k a0 a1 (bt a0 a1) true) else (spec_l00Letter.j0 k a0 a1 (bt a0 a1) ((bt a0 a1) == 95))) else (spec_l00Letter.j0 k a0 a1 (bt a0 a1) ((bt a0 a1) == 95)))) else (if (bt a0 a1) ≥ 65 then (if (bt a0 a1) ≤ 90 then (spec_l00Letter.j0 k a0 a1 (bt a0 a1) true) else (spec_l00Letter.j0 k a0 a1 (bt a0 a1) ((bt a0 a1) == 95))) else (spec_l00Letter.j0 k a0 a1 (bt a0 a1) ((bt a0 a1) == 95)))) else (none)) else (none)) = some r := h; clear h; by_cases c3 : 0 ≤ a1
 ·rw [if_pos c3] at H; have c3b0 : decide (0 ≤ a1) = true := decide_eq_true c3; clear c3; by_cases c4 : a1 < (a0.size : Int)
  ·rw [if_pos c4] at H; have c4b0 : decide (a1 < (a0.size : Int)) = true := decide_eq_true c4; clear c4; have HC6 := Aside0.mk H; clear H; have p5 : 0 ≤ (a1 : Int) := of_decide_eq_true (by first | (with_reducible assumption) | assumption); have q5 : a1 < (a0.size : Int) := of_decide_eq_true (by first | (with_reducible assumption) | assumption); have hx5 := bt_at a0 a1; replace p5 := eq_true p5; replace q5 := eq_true q5; go_enter Try.func86, Try.ntmps86
   go_upto_region 2 with (fail)
   go_cut [27] (fun v27 wc => ∃ (kq : Nat) (x27_5 : Bool), v27 = .bool x27_5 ∧ Aside0 (spec_l00Letter.j0 kq a0 a1 (bt a0 a1) x27_5 = some r) ∧ Aside0 (kq ≤ k) ∧ Drawn0 w wc)
   case first =>
    have H := HC6.out; clear HC6; by_cases c7 : (bt a0 a1) ≥ 97
    ·rw [if_pos c7] at H; have c7b0 : decide (97 ≤ (bt a0 a1)) = true := decide_eq_true c7; clear c7
     (first | rw [c7b0] | (simp only [i64_w, i32_w]; rw [c7b0]) | skip)
     by_cases c8 : (bt a0 a1) ≤ 122
     ·rw [if_pos c8] at H; have c8b0 : decide ((bt a0 a1) ≤ 122) = true := decide_eq_true c8; clear c8; have H' := Aside0.mk H; clear H; go_wp2
      go_meet
      case rel => exact ⟨_, (true), (by first | rfl | (simp; done) | (simp [*]; done)), H', ⟨by first | omega | exact Nat.le_refl _⟩, by repeat (first | exact Drawn0.refl _ | apply Drawn0.step)⟩
     ·rw [if_neg c8] at H; have c8b0 : decide ((bt a0 a1) ≤ 122) = false := decide_eq_false c8; clear c8; by_cases c9 : (bt a0 a1) ≥ 65
      ·rw [if_pos c9] at H; have c9b0 : decide (65 ≤ (bt a0 a1)) = true := decide_eq_true c9; clear c9; by_cases c10 : (bt a0 a1) ≤ 90
       ·rw [if_pos c10] at H; have c10b0 : decide ((bt a0 a1) ≤ 90) = true := decide_eq_true c10; clear c10; have H' := Aside0.mk H; clear H; go_wp2
        go_meet
        case rel => exact ⟨_, (true), (by first | rfl | (simp; done) | (simp [*]; done)), H', ⟨by first | omega | exact Nat.le_refl _⟩, by repeat (first | exact Drawn0.refl _ | apply Drawn0.step)⟩
       ·rw [if_neg c10] at H; have c10b0 : decide ((bt a0 a1) ≤ 90) = false := decide_eq_false c10; clear c10; have H' := Aside0.mk H; clear H; go_wp2
        go_meet
        case rel => exact ⟨_, (((bt a0 a1) == 95)), (by first | rfl | (simp; done) | (simp [*]; done)), H', ⟨by first | omega | exact Nat.le_refl _⟩, by repeat (first | exact Drawn0.refl _ | apply Drawn0.step)⟩
      ·rw [if_neg c9] at H; have c9b0 : decide (65 ≤ (bt a0 a1)) = false := decide_eq_false c9; clear c9; have H' := Aside0.mk H; clear H; go_wp2
       go_meet
       case rel => exact ⟨_, (((bt a0 a1) == 95)), (by first | rfl | (simp; done) | (simp [*]; done)), H', ⟨by first | omega | exact Nat.le_refl _⟩, by repeat (first | exact Drawn0.refl _ | apply Drawn0.step)⟩
    ·rw [if_neg c7] at H; have c7b0 : decide (97 ≤ (bt a0 a1)) = false := decide_eq_false c7; clear c7
     (first | rw [c7b0] | (simp only [i64_w, i32_w]; rw [c7b0]) | skip)
     by_cases c11 : (bt a0 a1) ≥ 65
     ·rw [if_pos c11] at H; have c11b0 : decide (65 ≤ (bt a0 a1)) = true := decide_eq_true c11; clear c11; by_cases c12 : (bt a0 a1) ≤ 90
      ·rw [if_pos c12] at H; have c12b0 : decide ((bt a0 a1) ≤ 90) = true := decide_eq_true c12; clear c12; have H' := Aside0.mk H; clear H; go_wp2
       go_meet
       case rel => exact ⟨_, (true), (by first | rfl | (simp; done) | (simp [*]; done)), H', ⟨by first | omega | exact Nat.le_refl _⟩, by repeat (first | exact Drawn0.refl _ | apply Drawn0.step)⟩
      ·rw [if_neg c12] at H; have c12b0 : decide ((bt a0 a1) ≤ 90) = false := decide_eq_false c12; clear c12; have H' := Aside0.mk H; clear H; go_wp2
       go_meet
       case rel => exact ⟨_, (((bt a0 a1) == 95)), (by first | rfl | (simp; done) | (simp [*]; done)), H', ⟨by first | omega | exact Nat.le_refl _⟩, by repeat (first | exact Drawn0.refl _ | apply Drawn0.step)⟩
     ·rw [if_neg c11] at H; have c11b0 : decide (65 ≤ (bt a0 a1)) = false := decide_eq_false c11; clear c11; have H' := Aside0.mk H; clear H; go_wp2
      go_meet
      case rel => exact ⟨_, (((bt a0 a1) == 95)), (by first | rfl | (simp; done) | (simp [*]; done)), H', ⟨by first | omega | exact Nat.le_refl _⟩, by repeat (first | exact Drawn0.refl _ | apply Drawn0.step)⟩
   case rest =>
    clear HC6; (try clear c1); (try clear p2); (try clear c3); (try clear c3b0); (try clear c4); (try clear c4b0); (try clear p5); (try clear q5); (try clear hx5); (try clear c7); (try clear c7b0); (try clear c8); (try clear c8b0); (try clear c9); (try clear c9b0); (try clear c10); (try clear c10b0); (try clear c11); (try clear c11b0); (try clear c12); (try clear c12b0); (try clear p5); (try clear q5); obtain ⟨kq, x27_5, rfl, HA, HJ5, ⟨mc5, rfl⟩⟩ := hcut
    cases kq with
    | zero => exact absurd HA.out (by simp [spec_l00Letter.j0])
    | succ kj5 =>
     have H := HA.out; clear HA; simp only [spec_l00Letter.j0] at H; by_cases c13 : x27_5 = true
     ·subst c13
      have H1 : (some 1) = some r := by rw [if_pos rfl] at H; exact H
      clear H; have H := H1; clear H1; obtain rfl := Option.some.inj H; go_wp2; go_ret; exact ⟨by first | rfl | (simp; done) | (simp [*]; done), by repeat (first | exact Drawn0.refl _ | apply Drawn0.step)⟩
     ·replace c13 := Bool.eq_false_iff.mpr c13; subst c13
      have H1 : (if (bt a0 a1) < 194 then (spec_l00Letter.j1 kj5 a0 a1 (bt a0 a1) true) else (if (bt a0 a1) > 223 then (spec_l00Letter.j1 kj5 a0 a1 (bt a0 a1) true) else (if (wrap64 (a1 + 1)) ≥ (a0.size : Int) then (spec_l00Letter.j1 kj5 a0 a1 (bt a0 a1) true) else (if 0 ≤ (wrap64 (a1 + 1)) then (if (wrap64 (a1 + 1)) < (a0.size : Int) then (if (bt a0 (wrap64 (a1 + 1))) < 128 then (spec_l00Letter.j1 kj5 a0 a1 (bt a0 a1) true) else (spec_l00Letter.j1 kj5 a0 a1 (bt a0 a1) (decide ((bt a0 (wrap64 (a1 + 1))) > 191)))) else (none)) else (none))))) = some r := by rw [if_neg (show ¬ (false = true) by decide)] at H; exact H
      clear H; have H := H1; clear H1; have HC14 := Aside0.mk H; clear H
      go_upto_region 4 with (fail)
      go_cut [54] (fun v54 wc => ∃ (kq : Nat) (x54_13 : Bool), v54 = .bool x54_13 ∧ Aside0 (spec_l00Letter.j1 kq a0 a1 (bt a0 a1) x54_13 = some r) ∧ Aside0 (kq ≤ kj5) ∧ Drawn0 w wc)
      case first =>
       have H := HC14.out; clear HC14; by_cases c15 : (bt a0 a1) < 194
       ·rw [if_pos c15] at H; have c15b0 : decide ((bt a0 a1) < 194) = true := decide_eq_true c15; clear c15
        (first | rw [c15b0] | (simp only [i64_w, i32_w]; rw [c15b0]) | skip)
        have H' := Aside0.mk H; clear H; go_wp2
        go_meet
        case rel => exact ⟨_, (true), (by first | rfl | (simp; done) | (simp [*]; done)), H', ⟨by have := HJ5.out; first | omega | exact Nat.le_refl _⟩, by repeat (first | exact Drawn0.refl _ | apply Drawn0.step)⟩
       ·rw [if_neg c15] at H; have c15b0 : decide ((bt a0 a1) < 194) = false := decide_eq_false c15; clear c15
        (first | rw [c15b0] | (simp only [i64_w, i32_w]; rw [c15b0]) | skip)
        by_cases c16 : (bt a0 a1) > 223
        ·rw [if_pos c16] at H; have c16b0 : decide (223 < (bt a0 a1)) = true := decide_eq_true c16; clear c16; have H' := Aside0.mk H; clear H; go_wp2
         go_meet
         case rel => exact ⟨_, (true), (by first | rfl | (simp; done) | (simp [*]; done)), H', ⟨by have := HJ5.out; first | omega | exact Nat.le_refl _⟩, by repeat (first | exact Drawn0.refl _ | apply Drawn0.step)⟩
        ·rw [if_neg c16] at H; have c16b0 : decide (223 < (bt a0 a1)) = false := decide_eq_false c16; clear c16; by_cases c17 : (wrap64 (a1 + 1)) ≥ (a0.size : Int)
         ·rw [if_pos c17] at H; have c17b0 : decide ((a0.size : Int) ≤ (wrap64 (a1 + 1))) = true := decide_eq_true c17; clear c17; have H' := Aside0.mk H; clear H; go_wp2
          go_meet
          case rel => exact ⟨_, (true), (by first | rfl | (simp; done) | (simp [*]; done)), H', ⟨by have := HJ5.out; first | omega | exact Nat.le_refl _⟩, by repeat (first | exact Drawn0.refl _ | apply Drawn0.step)⟩
         ·rw [if_neg c17] at H; have c17b0 : decide ((a0.size : Int) ≤ (wrap64 (a1 + 1))) = false := decide_eq_false c17; clear c17; obtain ⟨ji18, hji18⟩ : ∃ j_ : Int, (wrap64 (a1 + 1)) = j_ := ⟨_, rfl⟩
          replace H : (if 0 ≤ (ji18) then (if (ji18) < (a0.size : Int) then (if (bt a0 (ji18)) < 128 then (spec_l00Letter.j1 kj5 a0 a1 (bt a0 a1) true) else (spec_l00Letter.j1 kj5 a0 a1 (bt a0 a1) (decide ((bt a0 (ji18)) > 191)))) else (none)) else (none)) = some r := by first | (rw [hji18] at H; exact H) | (simp only [hji18] at H ⊢; exact H)
          (try rw [hji18] at c17b0)
          have hji18w : (IntKind.i64.wrap (a1 + 1)) = ji18 := (i64_w _).trans hji18; by_cases c19 : 0 ≤ (ji18)
          ·rw [if_pos c19] at H; have c19b0 : decide (0 ≤ (ji18)) = true := decide_eq_true c19; clear c19; by_cases c20 : (ji18) < (a0.size : Int)
           ·rw [if_pos c20] at H; have c20b0 : decide ((ji18) < (a0.size : Int)) = true := decide_eq_true c20; clear c20; by_cases c22 : (bt a0 (ji18)) < 128
            ·rw [if_pos c22] at H; have c22b0 : decide ((bt a0 (ji18)) < 128) = true := decide_eq_true c22; clear c22; have H' := Aside0.mk H; clear H; have p21 : 0 ≤ ((ji18) : Int) := of_decide_eq_true (by first | (with_reducible assumption) | assumption); have q21 : (ji18) < (a0.size : Int) := of_decide_eq_true (by first | (with_reducible assumption) | assumption); have hx21 := bt_at a0 (ji18); replace p21 := eq_true p21; replace q21 := eq_true q21; go_wp2
             go_meet
             case rel => exact ⟨_, (true), (by first | rfl | (simp; done) | (simp [*]; done)), H', ⟨by have := HJ5.out; first | omega | exact Nat.le_refl _⟩, by repeat (first | exact Drawn0.refl _ | apply Drawn0.step)⟩
            ·rw [if_neg c22] at H; have c22b0 : decide ((bt a0 (ji18)) < 128) = false := decide_eq_false c22; clear c22; have H' := Aside0.mk H; clear H; have p21 : 0 ≤ ((ji18) : Int) := of_decide_eq_true (by first | (with_reducible assumption) | assumption); have q21 : (ji18) < (a0.size : Int) := of_decide_eq_true (by first | (with_reducible assumption) | assumption); have hx21 := bt_at a0 (ji18); replace p21 := eq_true p21; replace q21 := eq_true q21; have p23 : 0 ≤ ((ji18) : Int) := of_decide_eq_true (by first | (with_reducible assumption) | assumption); have q23 : (ji18) < (a0.size : Int) := of_decide_eq_true (by first | (with_reducible assumption) | assumption); have hx23 := bt_at a0 (ji18); replace p23 := eq_true p23; replace q23 := eq_true q23; go_wp2
             go_meet
             case rel => exact ⟨_, (decide ((bt a0 (ji18)) > 191)), (by first | rfl | (simp; done) | (simp only [← hji18] <;> (first | rfl | simp)) | (simp [*]; done)), H', ⟨by have := HJ5.out; first | omega | exact Nat.le_refl _⟩, by repeat (first | exact Drawn0.refl _ | apply Drawn0.step)⟩
           ·rw [if_neg c20] at H; exact absurd H (by simp)
          ·rw [if_neg c19] at H; exact absurd H (by simp)
      case rest =>
       clear HC14; (try clear c1); (try clear c2); (try clear p2); (try clear q2); (try clear hx2); (try clear c3); (try clear c3b0); (try clear c4); (try clear c4b0); (try clear c5); (try clear p5); (try clear q5); (try clear hx5); (try clear p6); (try clear c7); (try clear c7b0); (try clear c8); (try clear c8b0); (try clear c9); (try clear c9b0); (try clear c10); (try clear c10b0); (try clear c11); (try clear c11b0); (try clear c12); (try clear c12b0); (try clear c13); (try clear c15); (try clear c15b0); (try clear c16); (try clear c16b0); (try clear c17); (try clear c17b0); (try clear c19); (try clear c19b0); (try clear c20); (try clear c20b0); (try clear p21); (try clear q21); (try clear hx21); (try clear c22); (try clear c22b0); (try clear p23); (try clear q23); (try clear hx23); (try clear p2); (try clear p21); (try clear p23); (try clear p5); (try clear q21); (try clear q23); (try clear q5); obtain ⟨kq, x54_13, rfl, HA, HJ13, ⟨mc13, rfl⟩⟩ := hcut
       cases kq with
       | zero => exact absurd HA.out (by simp [spec_l00Letter.j1])
       | succ kj13 =>
        have H := HA.out; clear HA; simp only [spec_l00Letter.j1] at H; by_cases c24 : x54_13 = true
        ·subst c24
         have H1 : (some 0) = some r := by rw [if_pos rfl] at H; exact H
         clear H; have H := H1; clear H1; obtain rfl := Option.some.inj H; go_wp2; go_ret; exact ⟨by first | rfl | (simp; done) | (simp [*]; done), by repeat (first | exact Drawn0.refl _ | apply Drawn0.step)⟩
        ·replace c24 := Bool.eq_false_iff.mpr c24; subst c24
         have H1 : (if 0 ≤ (wrap64 (a1 + 1)) then (if (wrap64 (a1 + 1)) < (a0.size : Int) then (if (wrap64 ((wrap64 ((wrap64 ((wrap64 ((wrap64 ((bt a0 a1))) - 192)) * 64)) + (wrap64 (bt a0 (wrap64 (a1 + 1)))))) - 128)) ≥ 192 then (if (wrap64 ((wrap64 ((wrap64 ((wrap64 ((wrap64 ((bt a0 a1))) - 192)) * 64)) + (wrap64 (bt a0 (wrap64 (a1 + 1)))))) - 128)) ≤ 591 then (if (wrap64 ((wrap64 ((wrap64 ((wrap64 ((wrap64 ((bt a0 a1))) - 192)) * 64)) + (wrap64 (bt a0 (wrap64 (a1 + 1)))))) - 128)) = 215 then (if (wrap64 ((wrap64 ((wrap64 ((wrap64 ((wrap64 ((bt a0 a1))) - 192)) * 64)) + (wrap64 (bt a0 (wrap64 (a1 + 1)))))) - 128)) ≥ 913 then (if (wrap64 ((wrap64 ((wrap64 ((wrap64 ((wrap64 ((bt a0 a1))) - 192)) * 64)) + (wrap64 (bt a0 (wrap64 (a1 + 1)))))) - 128)) ≤ 969 then (some 2) else (if (wrap64 ((wrap64 ((wrap64 ((wrap64 ((wrap64 ((bt a0 a1))) - 192)) * 64)) + (wrap64 (bt a0 (wrap64 (a1 + 1)))))) - 128)) ≥ 1040 then (if (wrap64 ((wrap64 ((wrap64 ((wrap64 ((wrap64 ((bt a0 a1))) - 192)) * 64)) + (wrap64 (bt a0 (wrap64 (a1 + 1)))))) - 128)) ≤ 1103 then (some 2) else (some 0)) else (some 0))) else (if (wrap64 ((wrap64 ((wrap64 ((wrap64 ((wrap64 ((bt a0 a1))) - 192)) * 64)) + (wrap64 (bt a0 (wrap64 (a1 + 1)))))) - 128)) ≥ 1040 then (if (wrap64 ((wrap64 ((wrap64 ((wrap64 ((wrap64 ((bt a0 a1))) - 192)) * 64)) + (wrap64 (bt a0 (wrap64 (a1 + 1)))))) - 128)) ≤ 1103 then (some 2) else (some 0)) else (some 0))) else (if (wrap64 ((wrap64 ((wrap64 ((wrap64 ((wrap64 ((bt a0 a1))) - 192)) * 64)) + (wrap64 (bt a0 (wrap64 (a1 + 1)))))) - 128)) = 247 then (if (wrap64 ((wrap64 ((wrap64 ((wrap64 ((wrap64 ((bt a0 a1))) - 192)) * 64)) + (wrap64 (bt a0 (wrap64 (a1 + 1)))))) - 128)) ≥ 913 then (if (wrap64 ((wrap64 ((wrap64 ((wrap64 ((wrap64 ((bt a0 a1))) - 192)) * 64)) + (wrap64 (bt a0 (wrap64 (a1 + 1)))))) - 128)) ≤ 969 then (some 2) else (if (wrap64 ((wrap64 ((wrap64 ((wrap64 ((wrap64 ((bt a0 a1))) - 192)) * 64)) + (wrap64 (bt a0 (wrap64 (a1 + 1)))))) - 128)) ≥ 1040 then (if (wrap64 ((wrap64 ((wrap64 ((wrap64 ((wrap64 ((bt a0 a1))) - 192)) * 64)) + (wrap64 (bt a0 (wrap64 (a1 + 1)))))) - 128)) ≤ 1103 then (some 2) else (some 0)) else (some 0))) else (if (wrap64 ((wrap64 ((wrap64 ((wrap64 ((wrap64 ((bt a0 a1))) - 192)) * 64)) + (wrap64 (bt a0 (wrap64 (a1 + 1)))))) - 128)) ≥ 1040 then (if (wrap64 ((wrap64 ((wrap64 ((wrap64 ((wrap64 ((bt a0 a1))) - 192)) * 64)) + (wrap64 (bt a0 (wrap64 (a1 + 1)))))) - 128)) ≤ 1103 then (some 2) else (some 0)) else (some 0))) else (some 2))) else (if (wrap64 ((wrap64 ((wrap64 ((wrap64 ((wrap64 ((bt a0 a1))) - 192)) * 64)) + (wrap64 (bt a0 (wrap64 (a1 + 1)))))) - 128)) ≥ 913 then (if (wrap64 ((wrap64 ((wrap64 ((wrap64 ((wrap64 ((bt a0 a1))) - 192)) * 64)) + (wrap64 (bt a0 (wrap64 (a1 + 1)))))) - 128)) ≤ 969 then (some 2) else (if (wrap64 ((wrap64 ((wrap64 ((wrap64 ((wrap64 ((bt a0 a1))) - 192)) * 64)) + (wrap64 (bt a0 (wrap64 (a1 + 1)))))) - 128)) ≥ 1040 then (if (wrap64 ((wrap64 ((wrap64 ((wrap64 ((wrap64 ((bt a0 a1))) - 192)) * 64)) + (wrap64 (bt a0 (wrap64 (a1 + 1)))))) - 128)) ≤ 1103 then (some 2) else (some 0)) else (some 0))) else (if (wrap64 ((wrap64 ((wrap64 ((wrap64 ((wrap64 ((bt a0 a1))) - 192)) * 64)) + (wrap64 (bt a0 (wrap64 (a1 + 1)))))) - 128)) ≥ 1040 then (if (wrap64 ((wrap64 ((wrap64 ((wrap64 ((wrap64 ((bt a0 a1))) - 192)) * 64)) + (wrap64 (bt a0 (wrap64 (a1 + 1)))))) - 128)) ≤ 1103 then (some 2) else (some 0)) else (some 0)))) else (if (wrap64 ((wrap64 ((wrap64 ((wrap64 ((wrap64 ((bt a0 a1))) - 192)) * 64)) + (wrap64 (bt a0 (wrap64 (a1 + 1)))))) - 128)) ≥ 913 then (if (wrap64 ((wrap64 ((wrap64 ((wrap64 ((wrap64 ((bt a0 a1))) - 192)) * 64)) + (wrap64 (bt a0 (wrap64 (a1 + 1)))))) - 128)) ≤ 969 then (some 2) else (if (wrap64 ((wrap64 ((wrap64 ((wrap64 ((wrap64 ((bt a0 a1))) - 192)) * 64)) + (wrap64 (bt a0 (wrap64 (a1 + 1)))))) - 128)) ≥ 1040 then (if (wrap64 ((wrap64 ((wrap64 ((wrap64 ((wrap64 ((bt a0 a1))) - 192)) * 64)) + (wrap64 (bt a0 (wrap64 (a1 + 1)))))) - 128)) ≤ 1103 then (some 2) else (some 0)) else (some 0))) else (if (wrap64 ((wrap64 ((wrap64 ((wrap64 ((wrap64 ((bt a0 a1))) - 192)) * 64)) + (wrap64 (bt a0 (wrap64 (a1 + 1)))))) - 128)) ≥ 1040 then (if (wrap64 ((wrap64 ((wrap64 ((wrap64 ((wrap64 ((bt a0 a1))) - 192)) * 64)) + (wrap64 (bt a0 (wrap64 (a1 + 1)))))) - 128)) ≤ 1103 then (some 2) else (some 0)) else (some 0)))) else (none)) else (none)) = some r := by rw [if_neg (show ¬ (false = true) by decide)] at H; exact H
         clear H; have H := H1; clear H1; obtain ⟨ji25, hji25⟩ : ∃ j_ : Int, (wrap64 (a1 + 1)) = j_ := ⟨_, rfl⟩
         replace H : (if 0 ≤ (ji25) then (if (ji25) < (a0.size : Int) then (if (wrap64 ((wrap64 ((wrap64 ((wrap64 ((wrap64 ((bt a0 a1))) - 192)) * 64)) + (wrap64 (bt a0 (ji25))))) - 128)) ≥ 192 then (if (wrap64 ((wrap64 ((wrap64 ((wrap64 ((wrap64 ((bt a0 a1))) - 192)) * 64)) + (wrap64 (bt a0 (ji25))))) - 128)) ≤ 591 then (if (wrap64 ((wrap64 ((wrap64 ((wrap64 ((wrap64 ((bt a0 a1))) - 192)) * 64)) + (wrap64 (bt a0 (ji25))))) - 128)) = 215 then (if (wrap64 ((wrap64 ((wrap64 ((wrap64 ((wrap64 ((bt a0 a1))) - 192)) * 64)) + (wrap64 (bt a0 (ji25))))) - 128)) ≥ 913 then (if (wrap64 ((wrap64 ((wrap64 ((wrap64 ((wrap64 ((bt a0 a1))) - 192)) * 64)) + (wrap64 (bt a0 (ji25))))) - 128)) ≤ 969 then (some 2) else (if (wrap64 ((wrap64 ((wrap64 ((wrap64 ((wrap64 ((bt a0 a1))) - 192)) * 64)) + (wrap64 (bt a0 (ji25))))) - 128)) ≥ 1040 then (if (wrap64 ((wrap64 ((wrap64 ((wrap64 ((wrap64 ((bt a0 a1))) - 192)) * 64)) + (wrap64 (bt a0 (ji25))))) - 128)) ≤ 1103 then (some 2) else (some 0)) else (some 0))) else (if (wrap64 ((wrap64 ((wrap64 ((wrap64 ((wrap64 ((bt a0 a1))) - 192)) * 64)) + (wrap64 (bt a0 (ji25))))) - 128)) ≥ 1040 then (if (wrap64 ((wrap64 ((wrap64 ((wrap64 ((wrap64 ((bt a0 a1))) - 192)) * 64)) + (wrap64 (bt a0 (ji25))))) - 128)) ≤ 1103 then (some 2) else (some 0)) else (some 0))) else (if (wrap64 ((wrap64 ((wrap64 ((wrap64 ((wrap64 ((bt a0 a1))) - 192)) * 64)) + (wrap64 (bt a0 (ji25))))) - 128)) = 247 then (if (wrap64 ((wrap64 ((wrap64 ((wrap64 ((wrap64 ((bt a0 a1))) - 192)) * 64)) + (wrap64 (bt a0 (ji25))))) - 128)) ≥ 913 then (if (wrap64 ((wrap64 ((wrap64 ((wrap64 ((wrap64 ((bt a0 a1))) - 192)) * 64)) + (wrap64 (bt a0 (ji25))))) - 128)) ≤ 969 then (some 2) else (if (wrap64 ((wrap64 ((wrap64 ((wrap64 ((wrap64 ((bt a0 a1))) - 192)) * 64)) + (wrap64 (bt a0 (ji25))))) - 128)) ≥ 1040 then (if (wrap64 ((wrap64 ((wrap64 ((wrap64 ((wrap64 ((bt a0 a1))) - 192)) * 64)) + (wrap64 (bt a0 (ji25))))) - 128)) ≤ 1103 then (some 2) else (some 0)) else (some 0))) else (if (wrap64 ((wrap64 ((wrap64 ((wrap64 ((wrap64 ((bt a0 a1))) - 192)) * 64)) + (wrap64 (bt a0 (ji25))))) - 128)) ≥ 1040 then (if (wrap64 ((wrap64 ((wrap64 ((wrap64 ((wrap64 ((bt a0 a1))) - 192)) * 64)) + (wrap64 (bt a0 (ji25))))) - 128)) ≤ 1103 then (some 2) else (some 0)) else (some 0))) else (some 2))) else (if (wrap64 ((wrap64 ((wrap64 ((wrap64 ((wrap64 ((bt a0 a1))) - 192)) * 64)) + (wrap64 (bt a0 (ji25))))) - 128)) ≥ 913 then (if (wrap64 ((wrap64 ((wrap64 ((wrap64 ((wrap64 ((bt a0 a1))) - 192)) * 64)) + (wrap64 (bt a0 (ji25))))) - 128)) ≤ 969 then (some 2) else (if (wrap64 ((wrap64 ((wrap64 ((wrap64 ((wrap64 ((bt a0 a1))) - 192)) * 64)) + (wrap64 (bt a0 (ji25))))) - 128)) ≥ 1040 then (if (wrap64 ((wrap64 ((wrap64 ((wrap64 ((wrap64 ((bt a0 a1))) - 192)) * 64)) + (wrap64 (bt a0 (ji25))))) - 128)) ≤ 1103 then (some 2) else (some 0)) else (some 0))) else (if (wrap64 ((wrap64 ((wrap64 ((wrap64 ((wrap64 ((bt a0 a1))) - 192)) * 64)) + (wrap64 (bt a0 (ji25))))) - 128)) ≥ 1040 then (if (wrap64 ((wrap64 ((wrap64 ((wrap64 ((wrap64 ((bt a0 a1))) - 192)) * 64)) + (wrap64 (bt a0 (ji25))))) - 128)) ≤ 1103 then (some 2) else (some 0)) else (some 0)))) else (if (wrap64 ((wrap64 ((wrap64 ((wrap64 ((wrap64 ((bt a0 a1))) - 192)) * 64)) + (wrap64 (bt a0 (ji25))))) - 128)) ≥ 913 then (if (wrap64 ((wrap64 ((wrap64 ((wrap64 ((wrap64 ((bt a0 a1))) - 192)) * 64)) + (wrap64 (bt a0 (ji25))))) - 128)) ≤ 969 then (some 2) else (if (wrap64 ((wrap64 ((wrap64 ((wrap64 ((wrap64 ((bt a0 a1))) - 192)) * 64)) + (wrap64 (bt a0 (ji25))))) - 128)) ≥ 1040 then (if (wrap64 ((wrap64 ((wrap64 ((wrap64 ((wrap64 ((bt a0 a1))) - 192)) * 64)) + (wrap64 (bt a0 (ji25))))) - 128)) ≤ 1103 then (some 2) else (some 0)) else (some 0))) else (if (wrap64 ((wrap64 ((wrap64 ((wrap64 ((wrap64 ((bt a0 a1))) - 192)) * 64)) + (wrap64 (bt a0 (ji25))))) - 128)) ≥ 1040 then (if (wrap64 ((wrap64 ((wrap64 ((wrap64 ((wrap64 ((bt a0 a1))) - 192)) * 64)) + (wrap64 (bt a0 (ji25))))) - 128)) ≤ 1103 then (some 2) else (some 0)) else (some 0)))) else (none)) else (none)) = some r := by first | (rw [hji25] at H; exact H) | (simp only [hji25] at H ⊢; exact H)
         have hji25w : (IntKind.i64.wrap (a1 + 1)) = ji25 := (i64_w _).trans hji25; (try clear hji18w); (try clear hji18); by_cases c26 : 0 ≤ (ji25)
         ·rw [if_pos c26] at H; have c26b0 : decide (0 ≤ (ji25)) = true := decide_eq_true c26; clear c26; by_cases c27 : (ji25) < (a0.size : Int)
          ·rw [if_pos c27] at H; have c27b0 : decide ((ji25) < (a0.size : Int)) = true := decide_eq_true c27; clear c27; by_cases c29 : (wrap64 ((wrap64 ((wrap64 ((wrap64 ((wrap64 ((bt a0 a1))) - 192)) * 64)) + (wrap64 (bt a0 (ji25))))) - 128)) ≥ 192
           ·rw [if_pos c29] at H; have c29b0 : decide (192 ≤ (wrap64 ((wrap64 ((wrap64 ((wrap64 ((wrap64 ((bt a0 a1))) - 192)) * 64)) + (wrap64 (bt a0 (ji25))))) - 128))) = true := decide_eq_true c29; clear c29; by_cases c30 : (wrap64 ((wrap64 ((wrap64 ((wrap64 ((wrap64 ((bt a0 a1))) - 192)) * 64)) + (wrap64 (bt a0 (ji25))))) - 128)) ≤ 591
            ·rw [if_pos c30] at H; have c30b0 : decide ((wrap64 ((wrap64 ((wrap64 ((wrap64 ((wrap64 ((bt a0 a1))) - 192)) * 64)) + (wrap64 (bt a0 (ji25))))) - 128)) ≤ 591) = true := decide_eq_true c30; clear c30; by_cases c31 : (wrap64 ((wrap64 ((wrap64 ((wrap64 ((wrap64 ((bt a0 a1))) - 192)) * 64)) + (wrap64 (bt a0 (ji25))))) - 128)) = 215
             ·rw [if_pos c31] at H; have c31b0 : ((wrap64 ((wrap64 ((wrap64 ((wrap64 ((wrap64 ((bt a0 a1))) - 192)) * 64)) + (wrap64 (bt a0 (ji25))))) - 128)) == 215) = true := beq_iff_eq.mpr c31; have c31b1 : ((wrap64 ((wrap64 ((wrap64 ((wrap64 ((wrap64 ((bt a0 a1))) - 192)) * 64)) + (wrap64 (bt a0 (ji25))))) - 128)) != 215) = false := bne_eq_false_iff_eq.mpr c31; clear c31; by_cases c32 : (wrap64 ((wrap64 ((wrap64 ((wrap64 ((wrap64 ((bt a0 a1))) - 192)) * 64)) + (wrap64 (bt a0 (ji25))))) - 128)) ≥ 913
              ·rw [if_pos c32] at H; have c32b0 : decide (913 ≤ (wrap64 ((wrap64 ((wrap64 ((wrap64 ((wrap64 ((bt a0 a1))) - 192)) * 64)) + (wrap64 (bt a0 (ji25))))) - 128))) = true := decide_eq_true c32; clear c32; by_cases c33 : (wrap64 ((wrap64 ((wrap64 ((wrap64 ((wrap64 ((bt a0 a1))) - 192)) * 64)) + (wrap64 (bt a0 (ji25))))) - 128)) ≤ 969
               ·rw [if_pos c33] at H; have c33b0 : decide ((wrap64 ((wrap64 ((wrap64 ((wrap64 ((wrap64 ((bt a0 a1))) - 192)) * 64)) + (wrap64 (bt a0 (ji25))))) - 128)) ≤ 969) = true := decide_eq_true c33; clear c33; obtain rfl := Option.some.inj H; have p28 : 0 ≤ ((ji25) : Int) := of_decide_eq_true (by first | (with_reducible assumption) | assumption); have q28 : (ji25) < (a0.size : Int) := of_decide_eq_true (by first | (with_reducible assumption) | assumption); have hx28 := bt_at a0 (ji25); replace p28 := eq_true p28; replace q28 := eq_true q28; go_wp2; go_ret; exact ⟨by first | rfl | (simp; done) | (simp only [← hji25] <;> (first | rfl | simp)) | (simp [*]; done), by repeat (first | exact Drawn0.refl _ | apply Drawn0.step)⟩
               ·rw [if_neg c33] at H; have c33b0 : decide ((wrap64 ((wrap64 ((wrap64 ((wrap64 ((wrap64 ((bt a0 a1))) - 192)) * 64)) + (wrap64 (bt a0 (ji25))))) - 128)) ≤ 969) = false := decide_eq_false c33; clear c33; by_cases c34 : (wrap64 ((wrap64 ((wrap64 ((wrap64 ((wrap64 ((bt a0 a1))) - 192)) * 64)) + (wrap64 (bt a0 (ji25))))) - 128)) ≥ 1040
                ·rw [if_pos c34] at H; have c34b0 : decide (1040 ≤ (wrap64 ((wrap64 ((wrap64 ((wrap64 ((wrap64 ((bt a0 a1))) - 192)) * 64)) + (wrap64 (bt a0 (ji25))))) - 128))) = true := decide_eq_true c34; clear c34; by_cases c35 : (wrap64 ((wrap64 ((wrap64 ((wrap64 ((wrap64 ((bt a0 a1))) - 192)) * 64)) + (wrap64 (bt a0 (ji25))))) - 128)) ≤ 1103
                 ·rw [if_pos c35] at H; have c35b0 : decide ((wrap64 ((wrap64 ((wrap64 ((wrap64 ((wrap64 ((bt a0 a1))) - 192)) * 64)) + (wrap64 (bt a0 (ji25))))) - 128)) ≤ 1103) = true := decide_eq_true c35; clear c35; obtain rfl := Option.some.inj H; have p28 : 0 ≤ ((ji25) : Int) := of_decide_eq_true (by first | (with_reducible assumption) | assumption); have q28 : (ji25) < (a0.size : Int) := of_decide_eq_true (by first | (with_reducible assumption) | assumption); have hx28 := bt_at a0 (ji25); replace p28 := eq_true p28; replace q28 := eq_true q28; go_wp2; go_ret; exact ⟨by first | rfl | (simp; done) | (simp only [← hji25] <;> (first | rfl | simp)) | (simp [*]; done), by repeat (first | exact Drawn0.refl _ | apply Drawn0.step)⟩
                 ·rw [if_neg c35] at H; have c35b0 : decide ((wrap64 ((wrap64 ((wrap64 ((wrap64 ((wrap64 ((bt a0 a1))) - 192)) * 64)) + (wrap64 (bt a0 (ji25))))) - 128)) ≤ 1103) = false := decide_eq_false c35; clear c35; obtain rfl := Option.some.inj H; have p28 : 0 ≤ ((ji25) : Int) := of_decide_eq_true (by first | (with_reducible assumption) | assumption); have q28 : (ji25) < (a0.size : Int) := of_decide_eq_true (by first | (with_reducible assumption) | assumption); have hx28 := bt_at a0 (ji25); replace p28 := eq_true p28; replace q28 := eq_true q28; go_wp2; go_ret; exact ⟨by first | rfl | (simp; done) | (simp only [← hji25] <;> (first | rfl | simp)) | (simp [*]; done), by repeat (first | exact Drawn0.refl _ | apply Drawn0.step)⟩
                ·rw [if_neg c34] at H; have c34b0 : decide (1040 ≤ (wrap64 ((wrap64 ((wrap64 ((wrap64 ((wrap64 ((bt a0 a1))) - 192)) * 64)) + (wrap64 (bt a0 (ji25))))) - 128))) = false := decide_eq_false c34; clear c34; obtain rfl := Option.some.inj H; have p28 : 0 ≤ ((ji25) : Int) := of_decide_eq_true (by first | (with_reducible assumption) | assumption); have q28 : (ji25) < (a0.size : Int) := of_decide_eq_true (by first | (with_reducible assumption) | assumption); have hx28 := bt_at a0 (ji25); replace p28 := eq_true p28; replace q28 := eq_true q28; go_wp2; go_ret; exact ⟨by first | rfl | (simp; done) | (simp only [← hji25] <;> (first | rfl | simp)) | (simp [*]; done), by repeat (first | exact Drawn0.refl _ | apply Drawn0.step)⟩
              ·rw [if_neg c32] at H; have c32b0 : decide (913 ≤ (wrap64 ((wrap64 ((wrap64 ((wrap64 ((wrap64 ((bt a0 a1))) - 192)) * 64)) + (wrap64 (bt a0 (ji25))))) - 128))) = false := decide_eq_false c32; clear c32; by_cases c36 : (wrap64 ((wrap64 ((wrap64 ((wrap64 ((wrap64 ((bt a0 a1))) - 192)) * 64)) + (wrap64 (bt a0 (ji25))))) - 128)) ≥ 1040
               ·rw [if_pos c36] at H; have c36b0 : decide (1040 ≤ (wrap64 ((wrap64 ((wrap64 ((wrap64 ((wrap64 ((bt a0 a1))) - 192)) * 64)) + (wrap64 (bt a0 (ji25))))) - 128))) = true := decide_eq_true c36; clear c36; by_cases c37 : (wrap64 ((wrap64 ((wrap64 ((wrap64 ((wrap64 ((bt a0 a1))) - 192)) * 64)) + (wrap64 (bt a0 (ji25))))) - 128)) ≤ 1103
                ·rw [if_pos c37] at H; have c37b0 : decide ((wrap64 ((wrap64 ((wrap64 ((wrap64 ((wrap64 ((bt a0 a1))) - 192)) * 64)) + (wrap64 (bt a0 (ji25))))) - 128)) ≤ 1103) = true := decide_eq_true c37; clear c37; obtain rfl := Option.some.inj H; have p28 : 0 ≤ ((ji25) : Int) := of_decide_eq_true (by first | (with_reducible assumption) | assumption); have q28 : (ji25) < (a0.size : Int) := of_decide_eq_true (by first | (with_reducible assumption) | assumption); have hx28 := bt_at a0 (ji25); replace p28 := eq_true p28; replace q28 := eq_true q28; go_wp2; go_ret; exact ⟨by first | rfl | (simp; done) | (simp only [← hji25] <;> (first | rfl | simp)) | (simp [*]; done), by repeat (first | exact Drawn0.refl _ | apply Drawn0.step)⟩
                ·rw [if_neg c37] at H; have c37b0 : decide ((wrap64 ((wrap64 ((wrap64 ((wrap64 ((wrap64 ((bt a0 a1))) - 192)) * 64)) + (wrap64 (bt a0 (ji25))))) - 128)) ≤ 1103) = false := decide_eq_false c37; clear c37; obtain rfl := Option.some.inj H; have p28 : 0 ≤ ((ji25) : Int) := of_decide_eq_true (by first | (with_reducible assumption) | assumption); have q28 : (ji25) < (a0.size : Int) := of_decide_eq_true (by first | (with_reducible assumption) | assumption); have hx28 := bt_at a0 (ji25); replace p28 := eq_true p28; replace q28 := eq_true q28; go_wp2; go_ret; exact ⟨by first | rfl | (simp; done) | (simp only [← hji25] <;> (first | rfl | simp)) | (simp [*]; done), by repeat (first | exact Drawn0.refl _ | apply Drawn0.step)⟩
               ·rw [if_neg c36] at H; have c36b0 : decide (1040 ≤ (wrap64 ((wrap64 ((wrap64 ((wrap64 ((wrap64 ((bt a0 a1))) - 192)) * 64)) + (wrap64 (bt a0 (ji25))))) - 128))) = false := decide_eq_false c36; clear c36; obtain rfl := Option.some.inj H; have p28 : 0 ≤ ((ji25) : Int) := of_decide_eq_true (by first | (with_reducible assumption) | assumption); have q28 : (ji25) < (a0.size : Int) := of_decide_eq_true (by first | (with_reducible assumption) | assumption); have hx28 := bt_at a0 (ji25); replace p28 := eq_true p28; replace q28 := eq_true q28; go_wp2; go_ret; exact ⟨by first | rfl | (simp; done) | (simp only [← hji25] <;> (first | rfl | simp)) | (simp [*]; done), by repeat (first | exact Drawn0.refl _ | apply Drawn0.step)⟩
             ·rw [if_neg c31] at H; have c31b0 : ((wrap64 ((wrap64 ((wrap64 ((wrap64 ((wrap64 ((bt a0 a1))) - 192)) * 64)) + (wrap64 (bt a0 (ji25))))) - 128)) == 215) = false := beq_eq_false_iff_ne.mpr c31; have c31b1 : ((wrap64 ((wrap64 ((wrap64 ((wrap64 ((wrap64 ((bt a0 a1))) - 192)) * 64)) + (wrap64 (bt a0 (ji25))))) - 128)) != 215) = true := bne_iff_ne.mpr c31; by_cases c38 : (wrap64 ((wrap64 ((wrap64 ((wrap64 ((wrap64 ((bt a0 a1))) - 192)) * 64)) + (wrap64 (bt a0 (ji25))))) - 128)) = 247
              ·rw [if_pos c38] at H; have c38b0 : ((wrap64 ((wrap64 ((wrap64 ((wrap64 ((wrap64 ((bt a0 a1))) - 192)) * 64)) + (wrap64 (bt a0 (ji25))))) - 128)) == 247) = true := beq_iff_eq.mpr c38; have c38b1 : ((wrap64 ((wrap64 ((wrap64 ((wrap64 ((wrap64 ((bt a0 a1))) - 192)) * 64)) + (wrap64 (bt a0 (ji25))))) - 128)) != 247) = false := bne_eq_false_iff_eq.mpr c38; clear c38; by_cases c39 : (wrap64 ((wrap64 ((wrap64 ((wrap64 ((wrap64 ((bt a0 a1))) - 192)) * 64)) + (wrap64 (bt a0 (ji25))))) - 128)) ≥ 913
               ·rw [if_pos c39] at H; have c39b0 : decide (913 ≤ (wrap64 ((wrap64 ((wrap64 ((wrap64 ((wrap64 ((bt a0 a1))) - 192)) * 64)) + (wrap64 (bt a0 (ji25))))) - 128))) = true := decide_eq_true c39; clear c39; by_cases c40 : (wrap64 ((wrap64 ((wrap64 ((wrap64 ((wrap64 ((bt a0 a1))) - 192)) * 64)) + (wrap64 (bt a0 (ji25))))) - 128)) ≤ 969
                ·rw [if_pos c40] at H; have c40b0 : decide ((wrap64 ((wrap64 ((wrap64 ((wrap64 ((wrap64 ((bt a0 a1))) - 192)) * 64)) + (wrap64 (bt a0 (ji25))))) - 128)) ≤ 969) = true := decide_eq_true c40; clear c40; obtain rfl := Option.some.inj H; have p28 : 0 ≤ ((ji25) : Int) := of_decide_eq_true (by first | (with_reducible assumption) | assumption); have q28 : (ji25) < (a0.size : Int) := of_decide_eq_true (by first | (with_reducible assumption) | assumption); have hx28 := bt_at a0 (ji25); replace p28 := eq_true p28; replace q28 := eq_true q28; go_wp2; go_ret; exact ⟨by first | rfl | (simp; done) | (simp only [← hji25] <;> (first | rfl | simp)) | (simp [*]; done), by repeat (first | exact Drawn0.refl _ | apply Drawn0.step)⟩
                ·rw [if_neg c40] at H; have c40b0 : decide ((wrap64 ((wrap64 ((wrap64 ((wrap64 ((wrap64 ((bt a0 a1))) - 192)) * 64)) + (wrap64 (bt a0 (ji25))))) - 128)) ≤ 969) = false := decide_eq_false c40; clear c40; by_cases c41 : (wrap64 ((wrap64 ((wrap64 ((wrap64 ((wrap64 ((bt a0 a1))) - 192)) * 64)) + (wrap64 (bt a0 (ji25))))) - 128)) ≥ 1040
                 ·rw [if_pos c41] at H; have c41b0 : decide (1040 ≤ (wrap64 ((wrap64 ((wrap64 ((wrap64 ((wrap64 ((bt a0 a1))) - 192)) * 64)) + (wrap64 (bt a0 (ji25))))) - 128))) = true := decide_eq_true c41; clear c41; by_cases c42 : (wrap64 ((wrap64 ((wrap64 ((wrap64 ((wrap64 ((bt a0 a1))) - 192)) * 64)) + (wrap64 (bt a0 (ji25))))) - 128)) ≤ 1103
                  ·rw [if_pos c42] at H; have c42b0 : decide ((wrap64 ((wrap64 ((wrap64 ((wrap64 ((wrap64 ((bt a0 a1))) - 192)) * 64)) + (wrap64 (bt a0 (ji25))))) - 128)) ≤ 1103) = true := decide_eq_true c42; clear c42; obtain rfl := Option.some.inj H; have p28 : 0 ≤ ((ji25) : Int) := of_decide_eq_true (by first | (with_reducible assumption) | assumption); have q28 : (ji25) < (a0.size : Int) := of_decide_eq_true (by first | (with_reducible assumption) | assumption); have hx28 := bt_at a0 (ji25); replace p28 := eq_true p28; replace q28 := eq_true q28; go_wp2; go_ret; exact ⟨by first | rfl | (simp; done) | (simp only [← hji25] <;> (first | rfl | simp)) | (simp [*]; done), by repeat (first | exact Drawn0.refl _ | apply Drawn0.step)⟩
                  ·rw [if_neg c42] at H; have c42b0 : decide ((wrap64 ((wrap64 ((wrap64 ((wrap64 ((wrap64 ((bt a0 a1))) - 192)) * 64)) + (wrap64 (bt a0 (ji25))))) - 128)) ≤ 1103) = false := decide_eq_false c42; clear c42; obtain rfl := Option.some.inj H; have p28 : 0 ≤ ((ji25) : Int) := of_decide_eq_true (by first | (with_reducible assumption) | assumption); have q28 : (ji25) < (a0.size : Int) := of_decide_eq_true (by first | (with_reducible assumption) | assumption); have hx28 := bt_at a0 (ji25); replace p28 := eq_true p28; replace q28 := eq_true q28; go_wp2; go_ret; exact ⟨by first | rfl | (simp; done) | (simp only [← hji25] <;> (first | rfl | simp)) | (simp [*]; done), by repeat (first | exact Drawn0.refl _ | apply Drawn0.step)⟩
                 ·rw [if_neg c41] at H; have c41b0 : decide (1040 ≤ (wrap64 ((wrap64 ((wrap64 ((wrap64 ((wrap64 ((bt a0 a1))) - 192)) * 64)) + (wrap64 (bt a0 (ji25))))) - 128))) = false := decide_eq_false c41; clear c41; obtain rfl := Option.some.inj H; have p28 : 0 ≤ ((ji25) : Int) := of_decide_eq_true (by first | (with_reducible assumption) | assumption); have q28 : (ji25) < (a0.size : Int) := of_decide_eq_true (by first | (with_reducible assumption) | assumption); have hx28 := bt_at a0 (ji25); replace p28 := eq_true p28; replace q28 := eq_true q28; go_wp2; go_ret; exact ⟨by first | rfl | (simp; done) | (simp only [← hji25] <;> (first | rfl | simp)) | (simp [*]; done), by repeat (first | exact Drawn0.refl _ | apply Drawn0.step)⟩
               ·rw [if_neg c39] at H; have c39b0 : decide (913 ≤ (wrap64 ((wrap64 ((wrap64 ((wrap64 ((wrap64 ((bt a0 a1))) - 192)) * 64)) + (wrap64 (bt a0 (ji25))))) - 128))) = false := decide_eq_false c39; clear c39; by_cases c43 : (wrap64 ((wrap64 ((wrap64 ((wrap64 ((wrap64 ((bt a0 a1))) - 192)) * 64)) + (wrap64 (bt a0 (ji25))))) - 128)) ≥ 1040
                ·rw [if_pos c43] at H; have c43b0 : decide (1040 ≤ (wrap64 ((wrap64 ((wrap64 ((wrap64 ((wrap64 ((bt a0 a1))) - 192)) * 64)) + (wrap64 (bt a0 (ji25))))) - 128))) = true := decide_eq_true c43; clear c43; by_cases c44 : (wrap64 ((wrap64 ((wrap64 ((wrap64 ((wrap64 ((bt a0 a1))) - 192)) * 64)) + (wrap64 (bt a0 (ji25))))) - 128)) ≤ 1103
                 ·rw [if_pos c44] at H; have c44b0 : decide ((wrap64 ((wrap64 ((wrap64 ((wrap64 ((wrap64 ((bt a0 a1))) - 192)) * 64)) + (wrap64 (bt a0 (ji25))))) - 128)) ≤ 1103) = true := decide_eq_true c44; clear c44; obtain rfl := Option.some.inj H; have p28 : 0 ≤ ((ji25) : Int) := of_decide_eq_true (by first | (with_reducible assumption) | assumption); have q28 : (ji25) < (a0.size : Int) := of_decide_eq_true (by first | (with_reducible assumption) | assumption); have hx28 := bt_at a0 (ji25); replace p28 := eq_true p28; replace q28 := eq_true q28; go_wp2; go_ret; exact ⟨by first | rfl | (simp; done) | (simp only [← hji25] <;> (first | rfl | simp)) | (simp [*]; done), by repeat (first | exact Drawn0.refl _ | apply Drawn0.step)⟩
                 ·rw [if_neg c44] at H; have c44b0 : decide ((wrap64 ((wrap64 ((wrap64 ((wrap64 ((wrap64 ((bt a0 a1))) - 192)) * 64)) + (wrap64 (bt a0 (ji25))))) - 128)) ≤ 1103) = false := decide_eq_false c44; clear c44; obtain rfl := Option.some.inj H; have p28 : 0 ≤ ((ji25) : Int) := of_decide_eq_true (by first | (with_reducible assumption) | assumption); have q28 : (ji25) < (a0.size : Int) := of_decide_eq_true (by first | (with_reducible assumption) | assumption); have hx28 := bt_at a0 (ji25); replace p28 := eq_true p28; replace q28 := eq_true q28; go_wp2; go_ret; exact ⟨by first | rfl | (simp; done) | (simp only [← hji25] <;> (first | rfl | simp)) | (simp [*]; done), by repeat (first | exact Drawn0.refl _ | apply Drawn0.step)⟩
                ·rw [if_neg c43] at H; have c43b0 : decide (1040 ≤ (wrap64 ((wrap64 ((wrap64 ((wrap64 ((wrap64 ((bt a0 a1))) - 192)) * 64)) + (wrap64 (bt a0 (ji25))))) - 128))) = false := decide_eq_false c43; clear c43; obtain rfl := Option.some.inj H; have p28 : 0 ≤ ((ji25) : Int) := of_decide_eq_true (by first | (with_reducible assumption) | assumption); have q28 : (ji25) < (a0.size : Int) := of_decide_eq_true (by first | (with_reducible assumption) | assumption); have hx28 := bt_at a0 (ji25); replace p28 := eq_true p28; replace q28 := eq_true q28; go_wp2; go_ret; exact ⟨by first | rfl | (simp; done) | (simp only [← hji25] <;> (first | rfl | simp)) | (simp [*]; done), by repeat (first | exact Drawn0.refl _ | apply Drawn0.step)⟩
              ·rw [if_neg c38] at H; have c38b0 : ((wrap64 ((wrap64 ((wrap64 ((wrap64 ((wrap64 ((bt a0 a1))) - 192)) * 64)) + (wrap64 (bt a0 (ji25))))) - 128)) == 247) = false := beq_eq_false_iff_ne.mpr c38; have c38b1 : ((wrap64 ((wrap64 ((wrap64 ((wrap64 ((wrap64 ((bt a0 a1))) - 192)) * 64)) + (wrap64 (bt a0 (ji25))))) - 128)) != 247) = true := bne_iff_ne.mpr c38; obtain rfl := Option.some.inj H; have p28 : 0 ≤ ((ji25) : Int) := of_decide_eq_true (by first | (with_reducible assumption) | assumption); have q28 : (ji25) < (a0.size : Int) := of_decide_eq_true (by first | (with_reducible assumption) | assumption); have hx28 := bt_at a0 (ji25); replace p28 := eq_true p28; replace q28 := eq_true q28; go_wp2; go_ret; exact ⟨by first | rfl | (simp; done) | (simp only [← hji25] <;> (first | rfl | simp)) | (simp [*]; done), by repeat (first | exact Drawn0.refl _ | apply Drawn0.step)⟩
            ·rw [if_neg c30] at H; have c30b0 : decide ((wrap64 ((wrap64 ((wrap64 ((wrap64 ((wrap64 ((bt a0 a1))) - 192)) * 64)) + (wrap64 (bt a0 (ji25))))) - 128)) ≤ 591) = false := decide_eq_false c30; clear c30; by_cases c45 : (wrap64 ((wrap64 ((wrap64 ((wrap64 ((wrap64 ((bt a0 a1))) - 192)) * 64)) + (wrap64 (bt a0 (ji25))))) - 128)) ≥ 913
             ·rw [if_pos c45] at H; have c45b0 : decide (913 ≤ (wrap64 ((wrap64 ((wrap64 ((wrap64 ((wrap64 ((bt a0 a1))) - 192)) * 64)) + (wrap64 (bt a0 (ji25))))) - 128))) = true := decide_eq_true c45; clear c45; by_cases c46 : (wrap64 ((wrap64 ((wrap64 ((wrap64 ((wrap64 ((bt a0 a1))) - 192)) * 64)) + (wrap64 (bt a0 (ji25))))) - 128)) ≤ 969
              ·rw [if_pos c46] at H; have c46b0 : decide ((wrap64 ((wrap64 ((wrap64 ((wrap64 ((wrap64 ((bt a0 a1))) - 192)) * 64)) + (wrap64 (bt a0 (ji25))))) - 128)) ≤ 969) = true := decide_eq_true c46; clear c46; obtain rfl := Option.some.inj H; have p28 : 0 ≤ ((ji25) : Int) := of_decide_eq_true (by first | (with_reducible assumption) | assumption); have q28 : (ji25) < (a0.size : Int) := of_decide_eq_true (by first | (with_reducible assumption) | assumption); have hx28 := bt_at a0 (ji25); replace p28 := eq_true p28; replace q28 := eq_true q28; go_wp2; go_ret; exact ⟨by first | rfl | (simp; done) | (simp only [← hji25] <;> (first | rfl | simp)) | (simp [*]; done), by repeat (first | exact Drawn0.refl _ | apply Drawn0.step)⟩
              ·rw [if_neg c46] at H; have c46b0 : decide ((wrap64 ((wrap64 ((wrap64 ((wrap64 ((wrap64 ((bt a0 a1))) - 192)) * 64)) + (wrap64 (bt a0 (ji25))))) - 128)) ≤ 969) = false := decide_eq_false c46; clear c46; by_cases c47 : (wrap64 ((wrap64 ((wrap64 ((wrap64 ((wrap64 ((bt a0 a1))) - 192)) * 64)) + (wrap64 (bt a0 (ji25))))) - 128)) ≥ 1040
               ·rw [if_pos c47] at H; have c47b0 : decide (1040 ≤ (wrap64 ((wrap64 ((wrap64 ((wrap64 ((wrap64 ((bt a0 a1))) - 192)) * 64)) + (wrap64 (bt a0 (ji25))))) - 128))) = true := decide_eq_true c47; clear c47; by_cases c48 : (wrap64 ((wrap64 ((wrap64 ((wrap64 ((wrap64 ((bt a0 a1))) - 192)) * 64)) + (wrap64 (bt a0 (ji25))))) - 128)) ≤ 1103
                ·rw [if_pos c48] at H; have c48b0 : decide ((wrap64 ((wrap64 ((wrap64 ((wrap64 ((wrap64 ((bt a0 a1))) - 192)) * 64)) + (wrap64 (bt a0 (ji25))))) - 128)) ≤ 1103) = true := decide_eq_true c48; clear c48; obtain rfl := Option.some.inj H; have p28 : 0 ≤ ((ji25) : Int) := of_decide_eq_true (by first | (with_reducible assumption) | assumption); have q28 : (ji25) < (a0.size : Int) := of_decide_eq_true (by first | (with_reducible assumption) | assumption); have hx28 := bt_at a0 (ji25); replace p28 := eq_true p28; replace q28 := eq_true q28; go_wp2; go_ret; exact ⟨by first | rfl | (simp; done) | (simp only [← hji25] <;> (first | rfl | simp)) | (simp [*]; done), by repeat (first | exact Drawn0.refl _ | apply Drawn0.step)⟩
                ·rw [if_neg c48] at H; have c48b0 : decide ((wrap64 ((wrap64 ((wrap64 ((wrap64 ((wrap64 ((bt a0 a1))) - 192)) * 64)) + (wrap64 (bt a0 (ji25))))) - 128)) ≤ 1103) = false := decide_eq_false c48; clear c48; obtain rfl := Option.some.inj H; have p28 : 0 ≤ ((ji25) : Int) := of_decide_eq_true (by first | (with_reducible assumption) | assumption); have q28 : (ji25) < (a0.size : Int) := of_decide_eq_true (by first | (with_reducible assumption) | assumption); have hx28 := bt_at a0 (ji25); replace p28 := eq_true p28; replace q28 := eq_true q28; go_wp2; go_ret; exact ⟨by first | rfl | (simp; done) | (simp only [← hji25] <;> (first | rfl | simp)) | (simp [*]; done), by repeat (first | exact Drawn0.refl _ | apply Drawn0.step)⟩
               ·rw [if_neg c47] at H; have c47b0 : decide (1040 ≤ (wrap64 ((wrap64 ((wrap64 ((wrap64 ((wrap64 ((bt a0 a1))) - 192)) * 64)) + (wrap64 (bt a0 (ji25))))) - 128))) = false := decide_eq_false c47; clear c47; obtain rfl := Option.some.inj H; have p28 : 0 ≤ ((ji25) : Int) := of_decide_eq_true (by first | (with_reducible assumption) | assumption); have q28 : (ji25) < (a0.size : Int) := of_decide_eq_true (by first | (with_reducible assumption) | assumption); have hx28 := bt_at a0 (ji25); replace p28 := eq_true p28; replace q28 := eq_true q28; go_wp2; go_ret; exact ⟨by first | rfl | (simp; done) | (simp only [← hji25] <;> (first | rfl | simp)) | (simp [*]; done), by repeat (first | exact Drawn0.refl _ | apply Drawn0.step)⟩
             ·rw [if_neg c45] at H; have c45b0 : decide (913 ≤ (wrap64 ((wrap64 ((wrap64 ((wrap64 ((wrap64 ((bt a0 a1))) - 192)) * 64)) + (wrap64 (bt a0 (ji25))))) - 128))) = false := decide_eq_false c45; clear c45; by_cases c49 : (wrap64 ((wrap64 ((wrap64 ((wrap64 ((wrap64 ((bt a0 a1))) - 192)) * 64)) + (wrap64 (bt a0 (ji25))))) - 128)) ≥ 1040
              ·rw [if_pos c49] at H; have c49b0 : decide (1040 ≤ (wrap64 ((wrap64 ((wrap64 ((wrap64 ((wrap64 ((bt a0 a1))) - 192)) * 64)) + (wrap64 (bt a0 (ji25))))) - 128))) = true := decide_eq_true c49; clear c49; by_cases c50 : (wrap64 ((wrap64 ((wrap64 ((wrap64 ((wrap64 ((bt a0 a1))) - 192)) * 64)) + (wrap64 (bt a0 (ji25))))) - 128)) ≤ 1103
               ·rw [if_pos c50] at H; have c50b0 : decide ((wrap64 ((wrap64 ((wrap64 ((wrap64 ((wrap64 ((bt a0 a1))) - 192)) * 64)) + (wrap64 (bt a0 (ji25))))) - 128)) ≤ 1103) = true := decide_eq_true c50; clear c50; obtain rfl := Option.some.inj H; have p28 : 0 ≤ ((ji25) : Int) := of_decide_eq_true (by first | (with_reducible assumption) | assumption); have q28 : (ji25) < (a0.size : Int) := of_decide_eq_true (by first | (with_reducible assumption) | assumption); have hx28 := bt_at a0 (ji25); replace p28 := eq_true p28; replace q28 := eq_true q28; go_wp2; go_ret; exact ⟨by first | rfl | (simp; done) | (simp only [← hji25] <;> (first | rfl | simp)) | (simp [*]; done), by repeat (first | exact Drawn0.refl _ | apply Drawn0.step)⟩
               ·rw [if_neg c50] at H; have c50b0 : decide ((wrap64 ((wrap64 ((wrap64 ((wrap64 ((wrap64 ((bt a0 a1))) - 192)) * 64)) + (wrap64 (bt a0 (ji25))))) - 128)) ≤ 1103) = false := decide_eq_false c50; clear c50; obtain rfl := Option.some.inj H; have p28 : 0 ≤ ((ji25) : Int) := of_decide_eq_true (by first | (with_reducible assumption) | assumption); have q28 : (ji25) < (a0.size : Int) := of_decide_eq_true (by first | (with_reducible assumption) | assumption); have hx28 := bt_at a0 (ji25); replace p28 := eq_true p28; replace q28 := eq_true q28; go_wp2; go_ret; exact ⟨by first | rfl | (simp; done) | (simp only [← hji25] <;> (first | rfl | simp)) | (simp [*]; done), by repeat (first | exact Drawn0.refl _ | apply Drawn0.step)⟩
              ·rw [if_neg c49] at H; have c49b0 : decide (1040 ≤ (wrap64 ((wrap64 ((wrap64 ((wrap64 ((wrap64 ((bt a0 a1))) - 192)) * 64)) + (wrap64 (bt a0 (ji25))))) - 128))) = false := decide_eq_false c49; clear c49; obtain rfl := Option.some.inj H; have p28 : 0 ≤ ((ji25) : Int) := of_decide_eq_true (by first | (with_reducible assumption) | assumption); have q28 : (ji25) < (a0.size : Int) := of_decide_eq_true (by first | (with_reducible assumption) | assumption); have hx28 := bt_at a0 (ji25); replace p28 := eq_true p28; replace q28 := eq_true q28; go_wp2; go_ret; exact ⟨by first | rfl | (simp; done) | (simp only [← hji25] <;> (first | rfl | simp)) | (simp [*]; done), by repeat (first | exact Drawn0.refl _ | apply Drawn0.step)⟩
           ·rw [if_neg c29] at H; have c29b0 : decide (192 ≤ (wrap64 ((wrap64 ((wrap64 ((wrap64 ((wrap64 ((bt a0 a1))) - 192)) * 64)) + (wrap64 (bt a0 (ji25))))) - 128))) = false := decide_eq_false c29; clear c29; by_cases c51 : (wrap64 ((wrap64 ((wrap64 ((wrap64 ((wrap64 ((bt a0 a1))) - 192)) * 64)) + (wrap64 (bt a0 (ji25))))) - 128)) ≥ 913
            ·rw [if_pos c51] at H; have c51b0 : decide (913 ≤ (wrap64 ((wrap64 ((wrap64 ((wrap64 ((wrap64 ((bt a0 a1))) - 192)) * 64)) + (wrap64 (bt a0 (ji25))))) - 128))) = true := decide_eq_true c51; clear c51; by_cases c52 : (wrap64 ((wrap64 ((wrap64 ((wrap64 ((wrap64 ((bt a0 a1))) - 192)) * 64)) + (wrap64 (bt a0 (ji25))))) - 128)) ≤ 969
             ·rw [if_pos c52] at H; have c52b0 : decide ((wrap64 ((wrap64 ((wrap64 ((wrap64 ((wrap64 ((bt a0 a1))) - 192)) * 64)) + (wrap64 (bt a0 (ji25))))) - 128)) ≤ 969) = true := decide_eq_true c52; clear c52; obtain rfl := Option.some.inj H; have p28 : 0 ≤ ((ji25) : Int) := of_decide_eq_true (by first | (with_reducible assumption) | assumption); have q28 : (ji25) < (a0.size : Int) := of_decide_eq_true (by first | (with_reducible assumption) | assumption); have hx28 := bt_at a0 (ji25); replace p28 := eq_true p28; replace q28 := eq_true q28; go_wp2; go_ret; exact ⟨by first | rfl | (simp; done) | (simp only [← hji25] <;> (first | rfl | simp)) | (simp [*]; done), by repeat (first | exact Drawn0.refl _ | apply Drawn0.step)⟩
             ·rw [if_neg c52] at H; have c52b0 : decide ((wrap64 ((wrap64 ((wrap64 ((wrap64 ((wrap64 ((bt a0 a1))) - 192)) * 64)) + (wrap64 (bt a0 (ji25))))) - 128)) ≤ 969) = false := decide_eq_false c52; clear c52; by_cases c53 : (wrap64 ((wrap64 ((wrap64 ((wrap64 ((wrap64 ((bt a0 a1))) - 192)) * 64)) + (wrap64 (bt a0 (ji25))))) - 128)) ≥ 1040
              ·rw [if_pos c53] at H; have c53b0 : decide (1040 ≤ (wrap64 ((wrap64 ((wrap64 ((wrap64 ((wrap64 ((bt a0 a1))) - 192)) * 64)) + (wrap64 (bt a0 (ji25))))) - 128))) = true := decide_eq_true c53; clear c53; by_cases c54 : (wrap64 ((wrap64 ((wrap64 ((wrap64 ((wrap64 ((bt a0 a1))) - 192)) * 64)) + (wrap64 (bt a0 (ji25))))) - 128)) ≤ 1103
               ·rw [if_pos c54] at H; have c54b0 : decide ((wrap64 ((wrap64 ((wrap64 ((wrap64 ((wrap64 ((bt a0 a1))) - 192)) * 64)) + (wrap64 (bt a0 (ji25))))) - 128)) ≤ 1103) = true := decide_eq_true c54; clear c54; obtain rfl := Option.some.inj H; have p28 : 0 ≤ ((ji25) : Int) := of_decide_eq_true (by first | (with_reducible assumption) | assumption); have q28 : (ji25) < (a0.size : Int) := of_decide_eq_true (by first | (with_reducible assumption) | assumption); have hx28 := bt_at a0 (ji25); replace p28 := eq_true p28; replace q28 := eq_true q28; go_wp2; go_ret; exact ⟨by first | rfl | (simp; done) | (simp only [← hji25] <;> (first | rfl | simp)) | (simp [*]; done), by repeat (first | exact Drawn0.refl _ | apply Drawn0.step)⟩
               ·rw [if_neg c54] at H; have c54b0 : decide ((wrap64 ((wrap64 ((wrap64 ((wrap64 ((wrap64 ((bt a0 a1))) - 192)) * 64)) + (wrap64 (bt a0 (ji25))))) - 128)) ≤ 1103) = false := decide_eq_false c54; clear c54; obtain rfl := Option.some.inj H; have p28 : 0 ≤ ((ji25) : Int) := of_decide_eq_true (by first | (with_reducible assumption) | assumption); have q28 : (ji25) < (a0.size : Int) := of_decide_eq_true (by first | (with_reducible assumption) | assumption); have hx28 := bt_at a0 (ji25); replace p28 := eq_true p28; replace q28 := eq_true q28; go_wp2; go_ret; exact ⟨by first | rfl | (simp; done) | (simp only [← hji25] <;> (first | rfl | simp)) | (simp [*]; done), by repeat (first | exact Drawn0.refl _ | apply Drawn0.step)⟩
              ·rw [if_neg c53] at H; have c53b0 : decide (1040 ≤ (wrap64 ((wrap64 ((wrap64 ((wrap64 ((wrap64 ((bt a0 a1))) - 192)) * 64)) + (wrap64 (bt a0 (ji25))))) - 128))) = false := decide_eq_false c53; clear c53; obtain rfl := Option.some.inj H; have p28 : 0 ≤ ((ji25) : Int) := of_decide_eq_true (by first | (with_reducible assumption) | assumption); have q28 : (ji25) < (a0.size : Int) := of_decide_eq_true (by first | (with_reducible assumption) | assumption); have hx28 := bt_at a0 (ji25); replace p28 := eq_true p28; replace q28 := eq_true q28; go_wp2; go_ret; exact ⟨by first | rfl | (simp; done) | (simp only [← hji25] <;> (first | rfl | simp)) | (simp [*]; done), by repeat (first | exact Drawn0.refl _ | apply Drawn0.step)⟩
            ·rw [if_neg c51] at H; have c51b0 : decide (913 ≤ (wrap64 ((wrap64 ((wrap64 ((wrap64 ((wrap64 ((bt a0 a1))) - 192)) * 64)) + (wrap64 (bt a0 (ji25))))) - 128))) = false := decide_eq_false c51; clear c51; by_cases c55 : (wrap64 ((wrap64 ((wrap64 ((wrap64 ((wrap64 ((bt a0 a1))) - 192)) * 64)) + (wrap64 (bt a0 (ji25))))) - 128)) ≥ 1040
             ·rw [if_pos c55] at H; have c55b0 : decide (1040 ≤ (wrap64 ((wrap64 ((wrap64 ((wrap64 ((wrap64 ((bt a0 a1))) - 192)) * 64)) + (wrap64 (bt a0 (ji25))))) - 128))) = true := decide_eq_true c55; clear c55; by_cases c56 : (wrap64 ((wrap64 ((wrap64 ((wrap64 ((wrap64 ((bt a0 a1))) - 192)) * 64)) + (wrap64 (bt a0 (ji25))))) - 128)) ≤ 1103
              ·rw [if_pos c56] at H; have c56b0 : decide ((wrap64 ((wrap64 ((wrap64 ((wrap64 ((wrap64 ((bt a0 a1))) - 192)) * 64)) + (wrap64 (bt a0 (ji25))))) - 128)) ≤ 1103) = true := decide_eq_true c56; clear c56; obtain rfl := Option.some.inj H; have p28 : 0 ≤ ((ji25) : Int) := of_decide_eq_true (by first | (with_reducible assumption) | assumption); have q28 : (ji25) < (a0.size : Int) := of_decide_eq_true (by first | (with_reducible assumption) | assumption); have hx28 := bt_at a0 (ji25); replace p28 := eq_true p28; replace q28 := eq_true q28; go_wp2; go_ret; exact ⟨by first | rfl | (simp; done) | (simp only [← hji25] <;> (first | rfl | simp)) | (simp [*]; done), by repeat (first | exact Drawn0.refl _ | apply Drawn0.step)⟩
              ·rw [if_neg c56] at H; have c56b0 : decide ((wrap64 ((wrap64 ((wrap64 ((wrap64 ((wrap64 ((bt a0 a1))) - 192)) * 64)) + (wrap64 (bt a0 (ji25))))) - 128)) ≤ 1103) = false := decide_eq_false c56; clear c56; obtain rfl := Option.some.inj H; have p28 : 0 ≤ ((ji25) : Int) := of_decide_eq_true (by first | (with_reducible assumption) | assumption); have q28 : (ji25) < (a0.size : Int) := of_decide_eq_true (by first | (with_reducible assumption) | assumption); have hx28 := bt_at a0 (ji25); replace p28 := eq_true p28; replace q28 := eq_true q28; go_wp2; go_ret; exact ⟨by first | rfl | (simp; done) | (simp only [← hji25] <;> (first | rfl | simp)) | (simp [*]; done), by repeat (first | exact Drawn0.refl _ | apply Drawn0.step)⟩
             ·rw [if_neg c55] at H; have c55b0 : decide (1040 ≤ (wrap64 ((wrap64 ((wrap64 ((wrap64 ((wrap64 ((bt a0 a1))) - 192)) * 64)) + (wrap64 (bt a0 (ji25))))) - 128))) = false := decide_eq_false c55; clear c55; obtain rfl := Option.some.inj H; have p28 : 0 ≤ ((ji25) : Int) := of_decide_eq_true (by first | (with_reducible assumption) | assumption); have q28 : (ji25) < (a0.size : Int) := of_decide_eq_true (by first | (with_reducible assumption) | assumption); have hx28 := bt_at a0 (ji25); replace p28 := eq_true p28; replace q28 := eq_true q28; go_wp2; go_ret; exact ⟨by first | rfl | (simp; done) | (simp only [← hji25] <;> (first | rfl | simp)) | (simp [*]; done), by repeat (first | exact Drawn0.refl _ | apply Drawn0.step)⟩
          ·rw [if_neg c27] at H; exact absurd H (by simp)
         ·rw [if_neg c26] at H; exact absurd H (by simp)
  ·rw [if_neg c4] at H; exact absurd H (by simp)
 ·rw [if_neg c3] at H; exact absurd H (by simp)

/-! ### spec_l00Word: function 85 -/
mutual
def spec_l00Word.l0 : Nat → ByteArray → Int → Int → Option (Int)
 | 0, _, _, _ => none
 | k + 1, x0, x1, x5 => if x5 < (x0.size : Int) then ((spec_l00Letter.f k x0 x5).bind fun t105 => (if t105 = 0 then (if x5 > x1 then (if 0 ≤ x5 then (if (bt x0 x5) ≥ 48 then (spec_l00Word.j1 k x0 x1 x5 t105 (decide ((bt x0 x5) ≤ 57))) else (spec_l00Word.j1 k x0 x1 x5 t105 false)) else (none)) else (spec_l00Word.j1 k x0 x1 x5 t105 false)) else (spec_l00Word.j1 k x0 x1 x5 t105 false))) else (some (wrap64 (x5 - x1)))
def spec_l00Word.j1 : Nat → ByteArray → Int → Int → Int → Bool → Option (Int)
 | 0, _, _, _, _, _ => none
 | k + 1, x0, x1, x5, x6, x33 => if x33 = true then (spec_l00Word.l0 k x0 x1 (wrap64 (x5 + 1))) else (if x6 = 0 then (some (wrap64 (x5 - x1))) else (spec_l00Word.l0 k x0 x1 (wrap64 (x5 + x6))))
end
def spec_l00Word.f (k : Nat) (a0 : ByteArray) (a1 : Int) : Option (Int) := spec_l00Word.l0 k a0 a1 a1
theorem spec_l00Word.mono_l : ∀ k, (∀ y0 y1 y2, LeO (spec_l00Word.l0 k y0 y1 y2) (spec_l00Word.l0 (k + 1) y0 y1 y2)) ∧ (∀ y0 y1 y2 y3 y4, LeO (spec_l00Word.j1 k y0 y1 y2 y3 y4) (spec_l00Word.j1 (k + 1) y0 y1 y2 y3 y4))
 | 0 => ⟨fun _ _ _ r h => by simp [spec_l00Word.l0] at h, fun _ _ _ _ _ r h => by simp [spec_l00Word.j1] at h⟩
 | k + 1 => by
  obtain ⟨ih0, ih1⟩ := spec_l00Word.mono_l k; refine ⟨?_, ?_⟩
  ·intro y0 y1 y2; unfold spec_l00Word.l0
   repeat' first
   | (with_reducible exact ih0 _ _ _)
   | (with_reducible exact ih1 _ _ _ _ _)
   | (with_reducible exact spec_l00Letter.mono _ _ _)
   | (with_reducible exact LeO.refl _)
   | (with_reducible exact LeO.none _)
   | (with_reducible refine LeO.ite ?_ ?_)
   | (with_reducible refine LeO.bind ?_ (fun _ => ?_))
   | exact ih0 _ _ _
   | exact ih1 _ _ _ _ _
   | exact spec_l00Letter.mono _ _ _
   | exact LeO.none _
   | refine LeO.ite ?_ ?_
   | refine LeO.bind ?_ (fun _ => ?_)
  ·intro y0 y1 y2 y3 y4; unfold spec_l00Word.j1
   repeat' first
   | (with_reducible exact ih0 _ _ _)
   | (with_reducible exact ih1 _ _ _ _ _)
   | (with_reducible exact spec_l00Letter.mono _ _ _)
   | (with_reducible exact LeO.refl _)
   | (with_reducible exact LeO.none _)
   | (with_reducible refine LeO.ite ?_ ?_)
   | (with_reducible refine LeO.bind ?_ (fun _ => ?_))
   | exact ih0 _ _ _
   | exact ih1 _ _ _ _ _
   | exact spec_l00Letter.mono _ _ _
   | exact LeO.none _
   | refine LeO.ite ?_ ?_
   | refine LeO.bind ?_ (fun _ => ?_)
theorem spec_l00Word.mono : ∀ a0 a1 k, LeO (spec_l00Word.f k a0 a1) (spec_l00Word.f (k + 1) a0 a1) := by
 intro a0 a1 k; obtain ⟨ih0, ih1⟩ := spec_l00Word.mono_l k; unfold spec_l00Word.f
 repeat' first
   | (with_reducible exact ih0 _ _ _)
   | (with_reducible exact ih1 _ _ _ _ _)
   | (with_reducible exact spec_l00Letter.mono _ _ _)
   | (with_reducible exact LeO.refl _)
   | (with_reducible exact LeO.none _)
   | (with_reducible refine LeO.ite ?_ ?_)
   | (with_reducible refine LeO.bind ?_ (fun _ => ?_))
   | exact ih0 _ _ _
   | exact ih1 _ _ _ _ _
   | exact spec_l00Letter.mono _ _ _
   | exact LeO.none _
   | refine LeO.ite ?_ ?_
   | refine LeO.bind ?_ (fun _ => ?_)
set_option maxHeartbeats 8000000 in
set_option maxRecDepth 100000 in
theorem spec_l00Word.calls (k : Nat) (a0 : ByteArray) (a1 : Int) (r : Int) (w : World) (h : spec_l00Word.f k a0 a1 = some r) :
  Calls Try.prog 85 #[.string a0, .int .i64 a1] w fun e w' => e = .returned (.int .i64 r) ∧ Drawn0 w w' := by
 have H : (spec_l00Word.l0 k a0 a1 a1) = some r := h; clear h; have H' := Aside0.mk H; clear H; go_enter Try.func85, Try.ntmps85; go_wp2
 go_loopg [5] k (fun kq v5 w' => ∃ (x5_1 : Int), v5 = .int .i64 x5_1 ∧ Aside0 (spec_l00Word.l0 kq a0 a1 x5_1 = some r) ∧ Aside0 (kq ≤ k) ∧ Drawn0 w w')
 case atStart => exact ⟨(a1), (by first | rfl | (simp; done) | (simp [*]; done)), H', ⟨Nat.le_refl _⟩, by repeat (first | exact Drawn0.refl _ | apply Drawn0.step)⟩
 case round =>
  clear H'; (try clear p2); obtain ⟨x5_1, rfl, HA, HK1, ⟨m1, rfl⟩⟩ := hrel
  cases gk with
  | zero => exact absurd HA.out (by simp [spec_l00Word.l0])
  | succ k1 =>
   have H := HA.out; clear HA; simp only [spec_l00Word.l0] at H; by_cases c3 : x5_1 < (a0.size : Int)
   ·rw [if_pos c3] at H; have c3b0 : decide (x5_1 < (a0.size : Int)) = true := decide_eq_true c3; clear c3; replace H := Option.bind_eq_some_iff.mp H; obtain ⟨t105, A40, H⟩ := H; replace H : (if t105 = 0 then (if x5_1 > a1 then (if 0 ≤ x5_1 then (if (bt a0 x5_1) ≥ 48 then (spec_l00Word.j1 k1 a0 a1 x5_1 t105 (decide ((bt a0 x5_1) ≤ 57))) else (spec_l00Word.j1 k1 a0 a1 x5_1 t105 false)) else (none)) else (spec_l00Word.j1 k1 a0 a1 x5_1 t105 false)) else (spec_l00Word.j1 k1 a0 a1 x5_1 t105 false)) = some r := H; have A4 := Aside0.mk A40; clear A40; have HC5 := Aside0.mk H; clear H
    go_upto_region 4 with (first | ((with_reducible refine gate_callee (f := 86) rfl ?_); refine goesL_ (some 14) rfl rfl Try.func86 (by kernel_rfl) rfl #[.string a0, .int .i64 x5_1] rfl mq ?_; (with_reducible refine (spec_l00Letter.calls k1 a0 x5_1 t105 _ A4.out).mono ?_); rintro e w' ⟨rfl, ⟨nd, rfl⟩⟩; refine ⟨_, rfl, ?_⟩))
    (try simp only [Act.put, sA, s0, sS])
    go_cut [33] (fun v33 wc => ∃ (kq : Nat) (x33_4 : Bool), v33 = .bool x33_4 ∧ Aside0 (spec_l00Word.j1 kq a0 a1 x5_1 t105 x33_4 = some r) ∧ Aside0 (kq ≤ k1) ∧ Drawn0 w wc)
    case first =>
     have H := HC5.out; clear HC5; by_cases c6 : t105 = 0
     ·rw [if_pos c6] at H; have c6b0 : (t105 == 0) = true := beq_iff_eq.mpr c6; have c6b1 : (t105 != 0) = false := bne_eq_false_iff_eq.mpr c6; clear c6
      (first | rw [c6b0] | (simp only [i64_w, i32_w]; rw [c6b0]) | skip)
      by_cases c7 : x5_1 > a1
      ·rw [if_pos c7] at H; have c7b0 : decide (a1 < x5_1) = true := decide_eq_true c7; clear c7; by_cases c8 : 0 ≤ x5_1
       ·rw [if_pos c8] at H; have c8b0 : decide (0 ≤ x5_1) = true := decide_eq_true c8; clear c8; by_cases c10 : (bt a0 x5_1) ≥ 48
        ·rw [if_pos c10] at H; have c10b0 : decide (48 ≤ (bt a0 x5_1)) = true := decide_eq_true c10; clear c10; have H' := Aside0.mk H; clear H; have p9 : 0 ≤ (x5_1 : Int) := of_decide_eq_true (by first | (with_reducible assumption) | assumption); have q9 : x5_1 < (a0.size : Int) := of_decide_eq_true (by first | (with_reducible assumption) | assumption); have hx9 := bt_at a0 x5_1; replace p9 := eq_true p9; replace q9 := eq_true q9; have p11 : 0 ≤ (x5_1 : Int) := of_decide_eq_true (by first | (with_reducible assumption) | assumption); have q11 : x5_1 < (a0.size : Int) := of_decide_eq_true (by first | (with_reducible assumption) | assumption); have hx11 := bt_at a0 x5_1; replace p11 := eq_true p11; replace q11 := eq_true q11; go_wp2
         go_meet
         case rel => exact ⟨_, (decide ((bt a0 x5_1) ≤ 57)), (by first | rfl | (simp; done) | (simp [*]; done)), H', ⟨by have := HK1.out; first | omega | exact Nat.le_refl _⟩, by repeat (first | exact Drawn0.refl _ | apply Drawn0.step)⟩
        ·rw [if_neg c10] at H; have c10b0 : decide (48 ≤ (bt a0 x5_1)) = false := decide_eq_false c10; clear c10; have H' := Aside0.mk H; clear H; have p9 : 0 ≤ (x5_1 : Int) := of_decide_eq_true (by first | (with_reducible assumption) | assumption); have q9 : x5_1 < (a0.size : Int) := of_decide_eq_true (by first | (with_reducible assumption) | assumption); have hx9 := bt_at a0 x5_1; replace p9 := eq_true p9; replace q9 := eq_true q9; go_wp2
         go_meet
         case rel => exact ⟨_, (false), (by first | rfl | (simp; done) | (simp [*]; done)), H', ⟨by have := HK1.out; first | omega | exact Nat.le_refl _⟩, by repeat (first | exact Drawn0.refl _ | apply Drawn0.step)⟩
       ·rw [if_neg c8] at H; exact absurd H (by simp)
      ·rw [if_neg c7] at H; have c7b0 : decide (a1 < x5_1) = false := decide_eq_false c7; clear c7; have H' := Aside0.mk H; clear H; go_wp2
       go_meet
       case rel => exact ⟨_, (false), (by first | rfl | (simp; done) | (simp [*]; done)), H', ⟨by have := HK1.out; first | omega | exact Nat.le_refl _⟩, by repeat (first | exact Drawn0.refl _ | apply Drawn0.step)⟩
     ·rw [if_neg c6] at H; have c6b0 : (t105 == 0) = false := beq_eq_false_iff_ne.mpr c6; have c6b1 : (t105 != 0) = true := bne_iff_ne.mpr c6
      (first | rw [c6b0] | (simp only [i64_w, i32_w]; rw [c6b0]) | skip)
      have H' := Aside0.mk H; clear H; go_wp2
      go_meet
      case rel => exact ⟨_, (false), (by first | rfl | (simp; done) | (simp [*]; done)), H', ⟨by have := HK1.out; first | omega | exact Nat.le_refl _⟩, by repeat (first | exact Drawn0.refl _ | apply Drawn0.step)⟩
    case rest =>
     clear HC5; (try clear c1); (try clear p1); (try clear q1); (try clear hx1); (try clear p2); (try clear c3); (try clear c3b0); (try clear c6); (try clear c6b0); (try clear c6b1); (try clear c7); (try clear c7b0); (try clear c8); (try clear c8b0); (try clear p9); (try clear q9); (try clear hx9); (try clear c10); (try clear c10b0); (try clear p11); (try clear q11); (try clear hx11); (try clear p11); (try clear p2); (try clear p9); (try clear q11); (try clear q9); obtain ⟨kq, x33_4, rfl, HA, HJ4, ⟨mc4, rfl⟩⟩ := hcut
     cases kq with
     | zero => exact absurd HA.out (by simp [spec_l00Word.j1])
     | succ kj4 =>
      have H := HA.out; clear HA; simp only [spec_l00Word.j1] at H; by_cases c12 : x33_4 = true
      ·subst c12
       have H1 : (spec_l00Word.l0 kj4 a0 a1 (wrap64 (x5_1 + 1))) = some r := by rw [if_pos rfl] at H; exact H
       clear H; have H := H1; clear H1; have H' := Aside0.mk H; clear H; go_wp2
       go_roundg kj4
       case measure => have := HK1.out; have := HJ4.out; omega
       case rel => exact ⟨(wrap64 (x5_1 + 1)), (by first | rfl | (simp; done) | (simp [*]; done)), H', ⟨by have := HK1.out; have := HJ4.out; omega⟩, by repeat (first | exact Drawn0.refl _ | apply Drawn0.step)⟩
      ·replace c12 := Bool.eq_false_iff.mpr c12; subst c12
       have H1 : (if t105 = 0 then (some (wrap64 (x5_1 - a1))) else (spec_l00Word.l0 kj4 a0 a1 (wrap64 (x5_1 + t105)))) = some r := by rw [if_neg (show ¬ (false = true) by decide)] at H; exact H
       clear H; have H := H1; clear H1; by_cases c13 : t105 = 0
       ·rw [if_pos c13] at H; have c13b0 : (t105 == 0) = true := beq_iff_eq.mpr c13; have c13b1 : (t105 != 0) = false := bne_eq_false_iff_eq.mpr c13; clear c13; obtain rfl := Option.some.inj H; go_wp2; go_ret; exact ⟨by first | rfl | (simp; done) | (simp [*]; done), by repeat (first | exact Drawn0.refl _ | apply Drawn0.step)⟩
       ·rw [if_neg c13] at H; have c13b0 : (t105 == 0) = false := beq_eq_false_iff_ne.mpr c13; have c13b1 : (t105 != 0) = true := bne_iff_ne.mpr c13; have H' := Aside0.mk H; clear H; go_wp2
        go_roundg kj4
        case measure => have := HK1.out; have := HJ4.out; omega
        case rel => exact ⟨(wrap64 (x5_1 + t105)), (by first | rfl | (simp; done) | (simp [*]; done)), H', ⟨by have := HK1.out; have := HJ4.out; omega⟩, by repeat (first | exact Drawn0.refl _ | apply Drawn0.step)⟩
   ·rw [if_neg c3] at H; have c3b0 : decide (x5_1 < (a0.size : Int)) = false := decide_eq_false c3; clear c3; obtain rfl := Option.some.inj H; go_wp2; go_ret; exact ⟨by first | rfl | (simp; done) | (simp [*]; done), by repeat (first | exact Drawn0.refl _ | apply Drawn0.step)⟩

/-! ### spec_NameOK: function 69 -/
def spec_NameOK.f (k : Nat) (a0 : ByteArray) : Option (Bool) := if (a0.size : Int) > 0 then (if (a0.size : Int) ≤ 40 then ((spec_l00Word.f k a0 0).bind fun t106 => (some (t106 == (a0.size : Int)))) else (some false)) else (some false)
theorem spec_NameOK.mono : ∀ a0 k, LeO (spec_NameOK.f k a0) (spec_NameOK.f (k + 1) a0) := by
 intro a0 k; unfold spec_NameOK.f
 repeat' first
   | (with_reducible exact spec_l00Word.mono _ _ _)
   | (with_reducible exact LeO.refl _)
   | (with_reducible exact LeO.none _)
   | (with_reducible refine LeO.ite ?_ ?_)
   | (with_reducible refine LeO.bind ?_ (fun _ => ?_))
   | exact spec_l00Word.mono _ _ _
   | exact LeO.none _
   | refine LeO.ite ?_ ?_
   | refine LeO.bind ?_ (fun _ => ?_)
set_option maxHeartbeats 8000000 in
set_option maxRecDepth 100000 in
theorem spec_NameOK.calls (k : Nat) (a0 : ByteArray) (r : Bool) (w : World) (h : spec_NameOK.f k a0 = some r) :
  Calls Try.prog 69 #[.string a0] w fun e w' => e = .returned (.bool r) ∧ Drawn0 w w' := by
 have H : (if (a0.size : Int) > 0 then (if (a0.size : Int) ≤ 40 then ((spec_l00Word.f k a0 0).bind fun t106 => (some (t106 == (a0.size : Int)))) else (some false)) else (some false)) = some r := h; clear h; by_cases c2 : (a0.size : Int) > 0
 ·rw [if_pos c2] at H; have c2b0 : decide (0 < (a0.size : Int)) = true := decide_eq_true c2; have c2b1 : decide (0 < a0.size) = true := decide_eq_true (by omega); clear c2; by_cases c3 : (a0.size : Int) ≤ 40
  ·rw [if_pos c3] at H; have c3b0 : decide ((a0.size : Int) ≤ 40) = true := decide_eq_true c3; have c3b1 : decide (a0.size ≤ 40) = true := decide_eq_true (by omega); clear c3; replace H := Option.bind_eq_some_iff.mp H; obtain ⟨t106, A40, H⟩ := H; replace H : (some (t106 == (a0.size : Int))) = some r := H; have A4 := Aside0.mk A40; clear A40; obtain rfl := Option.some.inj H; go_enter Try.func69, Try.ntmps69
   go_wp2_with (first | (go_at_call 85; (with_reducible refine (spec_l00Word.calls k a0 0 t106 _ A4.out).mono ?_); rintro e w' ⟨rfl, ⟨nd, rfl⟩⟩))
   go_ret; exact ⟨by first | rfl | (simp; done) | (simp [*]; done), by repeat (first | exact Drawn0.refl _ | apply Drawn0.step)⟩
  ·rw [if_neg c3] at H; have c3b0 : decide ((a0.size : Int) ≤ 40) = false := decide_eq_false c3; have c3b1 : decide (a0.size ≤ 40) = false := decide_eq_false (by omega); clear c3; obtain rfl := Option.some.inj H; go_enter Try.func69, Try.ntmps69; go_wp2; go_ret; exact ⟨by first | rfl | (simp; done) | (simp [*]; done), by repeat (first | exact Drawn0.refl _ | apply Drawn0.step)⟩
 ·rw [if_neg c2] at H; have c2b0 : decide (0 < (a0.size : Int)) = false := decide_eq_false c2; have c2b1 : decide (0 < a0.size) = false := decide_eq_false (by omega); clear c2; obtain rfl := Option.some.inj H; go_enter Try.func69, Try.ntmps69; go_wp2; go_ret; exact ⟨by first | rfl | (simp; done) | (simp [*]; done), by repeat (first | exact Drawn0.refl _ | apply Drawn0.step)⟩

/-! ### spec_l01In: function 70 -/
def spec_l01In.f (a0 : Int) (a1 : Int) (a2 : Int) : Option (Bool) := if a0 ≥ a1 then (some (decide (a0 ≤ a2))) else (some false)
set_option maxHeartbeats 8000000 in
set_option maxRecDepth 100000 in
theorem spec_l01In.calls (a0 : Int) (a1 : Int) (a2 : Int) (r : Bool) (w : World) (h : spec_l01In.f a0 a1 a2 = some r) :
  Calls Try.prog 70 #[.int .i64 a0, .int .i64 a1, .int .i64 a2] w fun e w' => e = .returned (.bool r) ∧ Drawn0 w w' := by
 have H : (if a0 ≥ a1 then (some (decide (a0 ≤ a2))) else (some false)) = some r := h; clear h; by_cases c4 : a0 ≥ a1
 ·rw [if_pos c4] at H; have c4b0 : decide (a1 ≤ a0) = true := decide_eq_true c4; clear c4; obtain rfl := Option.some.inj H; go_enter Try.func70, Try.ntmps70; go_wp2; go_ret; exact ⟨by first | rfl | (simp; done) | (simp [*]; done), by repeat (first | exact Drawn0.refl _ | apply Drawn0.step)⟩
 ·rw [if_neg c4] at H; have c4b0 : decide (a1 ≤ a0) = false := decide_eq_false c4; clear c4; obtain rfl := Option.some.inj H; go_enter Try.func70, Try.ntmps70; go_wp2; go_ret; exact ⟨by first | rfl | (simp; done) | (simp [*]; done), by repeat (first | exact Drawn0.refl _ | apply Drawn0.step)⟩

/-! ### spec_l06Act: function 73 -/
def spec_l06Act.f (a0 : Int) (a1 : Int) : Option (Bool) := if a0 = 1 then ((spec_l01In.f a1 0 100).bind fun t115 => (some t115)) else (if a0 = 2 then ((spec_l01In.f a1 0 1000000000).bind fun t116 => (some t116)) else (if a0 = 3 then (some (a1 == 0)) else (some false)))
set_option maxHeartbeats 8000000 in
set_option maxRecDepth 100000 in
theorem spec_l06Act.calls (a0 : Int) (a1 : Int) (r : Bool) (w : World) (h : spec_l06Act.f a0 a1 = some r) :
  Calls Try.prog 73 #[.int .i64 a0, .int .i64 a1] w fun e w' => e = .returned (.bool r) ∧ Drawn0 w w' := by
 have H : (if a0 = 1 then ((spec_l01In.f a1 0 100).bind fun t115 => (some t115)) else (if a0 = 2 then ((spec_l01In.f a1 0 1000000000).bind fun t116 => (some t116)) else (if a0 = 3 then (some (a1 == 0)) else (some false)))) = some r := h; clear h; by_cases c3 : a0 = 1
 ·rw [if_pos c3] at H; have c3b0 : (a0 == 1) = true := beq_iff_eq.mpr c3; have c3b1 : (a0 != 1) = false := bne_eq_false_iff_eq.mpr c3; clear c3; replace H := Option.bind_eq_some_iff.mp H; obtain ⟨t115, A40, H⟩ := H; replace H : (some t115) = some r := H; have A4 := Aside0.mk A40; clear A40; obtain rfl := Option.some.inj H; go_enter Try.func73, Try.ntmps73
  go_wp2_with (first | ((with_reducible refine gate_callee (f := 70) rfl ?_); refine goesL_ (some 9) rfl rfl Try.func70 (by kernel_rfl) rfl #[.int .i64 a1, .int .i64 0, .int .i64 100] rfl mq ?_; (with_reducible refine (spec_l01In.calls a1 0 100 t115 _ A4.out).mono ?_); rintro e w' ⟨rfl, ⟨nd, rfl⟩⟩; refine ⟨_, rfl, ?_⟩))
  go_ret; exact ⟨by first | rfl | (simp; done) | (simp [*]; done), by repeat (first | exact Drawn0.refl _ | apply Drawn0.step)⟩
 ·rw [if_neg c3] at H; have c3b0 : (a0 == 1) = false := beq_eq_false_iff_ne.mpr c3; have c3b1 : (a0 != 1) = true := bne_iff_ne.mpr c3; by_cases c5 : a0 = 2
  ·rw [if_pos c5] at H; have c5b0 : (a0 == 2) = true := beq_iff_eq.mpr c5; have c5b1 : (a0 != 2) = false := bne_eq_false_iff_eq.mpr c5; clear c5; replace H := Option.bind_eq_some_iff.mp H; obtain ⟨t116, A60, H⟩ := H; replace H : (some t116) = some r := H; have A6 := Aside0.mk A60; clear A60; obtain rfl := Option.some.inj H; go_enter Try.func73, Try.ntmps73
   go_wp2_with (first | ((with_reducible refine gate_callee (f := 70) rfl ?_); refine goesL_ (some 13) rfl rfl Try.func70 (by kernel_rfl) rfl #[.int .i64 a1, .int .i64 0, .int .i64 1000000000] rfl mq ?_; (with_reducible refine (spec_l01In.calls a1 0 1000000000 t116 _ A6.out).mono ?_); rintro e w' ⟨rfl, ⟨nd, rfl⟩⟩; refine ⟨_, rfl, ?_⟩))
   go_ret; exact ⟨by first | rfl | (simp; done) | (simp [*]; done), by repeat (first | exact Drawn0.refl _ | apply Drawn0.step)⟩
  ·rw [if_neg c5] at H; have c5b0 : (a0 == 2) = false := beq_eq_false_iff_ne.mpr c5; have c5b1 : (a0 != 2) = true := bne_iff_ne.mpr c5; by_cases c7 : a0 = 3
   ·rw [if_pos c7] at H; have c7b0 : (a0 == 3) = true := beq_iff_eq.mpr c7; have c7b1 : (a0 != 3) = false := bne_eq_false_iff_eq.mpr c7; clear c7; obtain rfl := Option.some.inj H; go_enter Try.func73, Try.ntmps73; go_wp2; go_ret; exact ⟨by first | rfl | (simp; done) | (simp [*]; done), by repeat (first | exact Drawn0.refl _ | apply Drawn0.step)⟩
   ·rw [if_neg c7] at H; have c7b0 : (a0 == 3) = false := beq_eq_false_iff_ne.mpr c7; have c7b1 : (a0 != 3) = true := bne_iff_ne.mpr c7; obtain rfl := Option.some.inj H; go_enter Try.func73, Try.ntmps73; go_wp2; go_ret; exact ⟨by first | rfl | (simp; done) | (simp [*]; done), by repeat (first | exact Drawn0.refl _ | apply Drawn0.step)⟩

end Go.Proofs.Ytbmpkggjcnmieaa.PAll
