-- Written by wip/tools/hp.py over the kit's print (not by hand): functions and walks of FnExactReadRules.
import Derived.Test.YthhhmcijbplcoaaGreatDoorPFnExactReadRulesx0
import Derived.Test.YthhhmcijbplcoaaGreatDoorPFnExactReadRulesx3
import Derived.Test.YthhhmcijbplcoaaGreatDoorPFnExactReadRulesx5
import Derived.Test.YthhhmcijbplcoaaGreatDoorPFnExactReadRulesx7
namespace Go.Proofs.YthhhmcijbplcoaaGreatDoor.PFnExactReadRules
open Go.RowKit Go.Proofs.YthhhmcijbplcoaaGreatDoorW.PrintWords Go.Proofs.YthhhmcijbplcoaaGreatDoorW.PrintLast Go.Proofs.YthhhmcijbplcoaaGreatDoorW.PrintMore
attribute [local go_sem] max2_int min2_int max_two min_two max_three min_three max_four min_four   -- for this text's walks alone
set_option linter.unusedVariables false
set_option linter.unusedSimpArgs false

/-! ### laws_eqClauseS: function 7 -/
def laws_eqClauseS.l0 : Nat → List (S41) → List (S41) → Int → Option (Bool)
 | 0, _, _, _ => none
 | k + 1, x0, x1, x5 => if x5 < (x0.length : Int) then (if 0 ≤ x5 then (if x5 < (x1.length : Int) then ((laws_eqClause.f k ((rd_T41 x0 x5).f0) ((rd_T41 x0 x5).f1) ((rd_T41 x0 x5).f2) ((rd_T41 x0 x5).f3) ((rd_T41 x1 x5).f0) ((rd_T41 x1 x5).f1) ((rd_T41 x1 x5).f2) ((rd_T41 x1 x5).f3)).bind fun t348 => (if t348 = true then (laws_eqClauseS.l0 k x0 x1 (wrap64 (x5 + 1))) else (some false))) else (none)) else (none)) else (some true)
def laws_eqClauseS.f (k : Nat) (l0 : List (S41)) (l1 : List (S41)) : Option (Bool) := if (l0.length : Int) = (l1.length : Int) then (laws_eqClauseS.l0 k l0 l1 0) else (some false)
theorem laws_eqClauseS.mono_l : ∀ k, (∀ y0 y1 y2, LeO (laws_eqClauseS.l0 k y0 y1 y2) (laws_eqClauseS.l0 (k + 1) y0 y1 y2))
 | 0 => fun _ _ _ r h => by simp [laws_eqClauseS.l0] at h
 | k + 1 => by
  have ih0 := laws_eqClauseS.mono_l k
  ·intro y0 y1 y2; unfold laws_eqClauseS.l0
   repeat' first
   | (with_reducible exact ih0 _ _ _)
   | (with_reducible exact laws_eqClause.mono _ _ _ _ _ _ _ _ _)
   | (with_reducible exact LeO.refl _)
   | (with_reducible exact LeO.none _)
   | (with_reducible refine LeO.ite ?_ ?_)
   | (with_reducible refine LeO.bind ?_ (fun _ => ?_))
   | exact ih0 _ _ _
   | exact laws_eqClause.mono _ _ _ _ _ _ _ _ _
   | exact LeO.none _
   | refine LeO.ite ?_ ?_
   | refine LeO.bind ?_ (fun _ => ?_)
theorem laws_eqClauseS.mono : ∀ a0 a1 k, LeO (laws_eqClauseS.f k a0 a1) (laws_eqClauseS.f (k + 1) a0 a1) := by
 intro a0 a1 k; have ih0 := laws_eqClauseS.mono_l k; unfold laws_eqClauseS.f
 repeat' first
   | (with_reducible exact ih0 _ _ _)
   | (with_reducible exact laws_eqClause.mono _ _ _ _ _ _ _ _ _)
   | (with_reducible exact LeO.refl _)
   | (with_reducible exact LeO.none _)
   | (with_reducible refine LeO.ite ?_ ?_)
   | (with_reducible refine LeO.bind ?_ (fun _ => ?_))
   | exact ih0 _ _ _
   | exact laws_eqClause.mono _ _ _ _ _ _ _ _ _
   | exact LeO.none _
   | refine LeO.ite ?_ ?_
   | refine LeO.bind ?_ (fun _ => ?_)
def laws_eqClauseS.T6 : Bool × List (List Nat × List Nat) := (true, [([], []), ([], []), ([0, 1], [0, 1]), ([2], [2]), ([], []), ([], []), ([4, 5], [4, 5]), ([6], [6]), ([3, 7], [3, 7]), ([8], [8])])
def laws_eqClauseS.B6 : List Nat := [0, 0, 3, 7, 0, 0, 48, 112, 255, 511]
theorem laws_eqClauseS.tab6 : rtab .any (opsOf Tryz.f7 6) = laws_eqClauseS.T6 := by kernel_rfl
theorem laws_eqClauseS.bits6 : waitsOk laws_eqClauseS.T6.2 laws_eqClauseS.B6 = true := by kernel_rfl
set_option maxHeartbeats 8000000 in
set_option maxRecDepth 100000 in
theorem laws_eqClauseS.calls (k : Nat) (A0 : Option Addr) (c0 : Nat) (l0 : List (S41)) (A1 : Option Addr) (c1 : Nat) (l1 : List (S41)) (r : Bool) (w : World) (hr0 : Kd.C k41 w A0 l0.length l0) (hc0 : l0.length ≤ c0) (hr1 : Kd.C k41 w A1 l1.length l1) (hc1 : l1.length ≤ c1) (h : laws_eqClauseS.f k l0 l1 = some r) :
  Calls Tryz.prog 7 #[.slice A0 l0.length c0, .slice A1 l1.length c1] w fun e w' => e = .returned (.bool r) ∧ Below w.heap.size w w' := by
 have hu41 := Tryz.underlying41; have HR0 := Aside0.mk hr0; have HC0 := Aside0.mk hc0; clear hr0 hc0; have HR1 := Aside0.mk hr1; have HC1 := Aside0.mk hc1; clear hr1 hc1; have HB := Aside0.mk (Below.refl w.heap.size w); have H : (if (l0.length : Int) = (l1.length : Int) then (laws_eqClauseS.l0 k l0 l1 0) else (some false)) = some r := h; clear h; by_cases c3 : (l0.length : Int) = (l1.length : Int)
 ·rw [if_pos c3] at H; have c3b0 : ((l0.length : Int) == (l1.length : Int)) = true := beq_iff_eq.mpr c3; have c3b1 : ((l0.length : Int) != (l1.length : Int)) = false := bne_eq_false_iff_eq.mpr c3
  have c3b2 : (l0.length == l1.length) = true := by first | simpa using c3 | (simp at c3 ⊢; omega)
  clear c3; have H' := Aside0.mk H; clear H; go_enter Tryz.func7, Tryz.ntmps7; go_wp2
  go_loopg [5] k (fun kq v5 w' => ∃ (x5_1 : Int), v5 = .int .i64 x5_1 ∧ Aside0 (laws_eqClauseS.l0 kq l0 l1 x5_1 = some r) ∧ Aside0 (kq ≤ k) ∧ Aside0 (Below w.heap.size w w'))
  case atStart => exact ⟨(0), (by first | rfl | (simp; done) | (simp [*]; done)), H', ⟨Nat.le_refl _⟩, ⟨qb HB⟩⟩
  case round =>
   clear H'; (try clear c1); (try clear p2); (try clear c3); (try clear c3b0); (try clear c3b1); (try clear c3b2); obtain ⟨x5_1, rfl, HA, HK1, HB⟩ := hrel
   cases gk with
   | zero => exact absurd HA.out (by simp [laws_eqClauseS.l0])
   | succ k1 =>
    have H := HA.out; clear HA; simp only [laws_eqClauseS.l0] at H; by_cases c4 : x5_1 < (l0.length : Int)
    ·rw [if_pos c4] at H; have c4b0 : decide (x5_1 < (l0.length : Int)) = true := decide_eq_true c4; clear c4; by_cases c5 : 0 ≤ x5_1
     ·rw [if_pos c5] at H; have c5b0 : decide (0 ≤ x5_1) = true := decide_eq_true c5; clear c5; by_cases c6 : x5_1 < (l1.length : Int)
      ·rw [if_pos c6] at H; have c6b0 : decide (x5_1 < (l1.length : Int)) = true := decide_eq_true c6; clear c6; replace H := Option.bind_eq_some_iff.mp H; obtain ⟨t348, A70, H⟩ := H; replace H : (if t348 = true then (laws_eqClauseS.l0 k1 l0 l1 (wrap64 (x5_1 + 1))) else (some false)) = some r := H; have A7 := Aside0.mk A70; clear A70; by_cases c8 : t348 = true
       ·subst c8
        have H1 : (laws_eqClauseS.l0 k1 l0 l1 (wrap64 (x5_1 + 1))) = some r := by rw [if_pos rfl] at H; exact H
        clear H; have H := H1; clear H1; have H' := Aside0.mk H; clear H
        try go_wp2
        have n0_ := Aside0.mk (below_drew1 HB.out); clear HB; have HB := n0_; clear n0_; have p346 : 0 ≤ (x5_1 : Int) := of_decide_eq_true (by first | (with_reducible assumption) | assumption); have q346 : x5_1 < (l0.length : Int) := of_decide_eq_true (by first | (with_reducible assumption) | assumption); obtain ⟨ad346, A346_1, c346_1, e346, hx346_0, hx346_1, hx346_2, hx346_3, hl346_1, hi346_1⟩ := at_T41 HR0.out x5_1 p346 q346; have hw346_3 := hx346_3; have hw346_2 := hx346_2; have hw346_1 := hx346_1; have hw346_0 := hx346_0
        cases e346
        replace hx346_0 := (HB.out.cell (World.block_lt_of_cell? w _ hx346_0)).trans hx346_0; replace hx346_1 := (HB.out.cell (World.block_lt_of_cell? w _ hx346_1)).trans hx346_1; replace hx346_2 := (HB.out.cell (World.block_lt_of_cell? w _ hx346_2)).trans hx346_2; replace hx346_3 := (HB.out.cell (World.block_lt_of_cell? w _ hx346_3)).trans hx346_3; have HR346_1 := Aside0.mk hi346_1; have HC346_1 := Aside0.mk hl346_1; clear hi346_1 hl346_1; replace p346 := eq_true p346; replace q346 := eq_true q346; have p347 : 0 ≤ (x5_1 : Int) := of_decide_eq_true (by first | (with_reducible assumption) | assumption); have q347 : x5_1 < (l1.length : Int) := of_decide_eq_true (by first | (with_reducible assumption) | assumption); obtain ⟨ad347, A347_1, c347_1, e347, hx347_0, hx347_1, hx347_2, hx347_3, hl347_1, hi347_1⟩ := at_T41 HR1.out x5_1 p347 q347; have hw347_3 := hx347_3; have hw347_2 := hx347_2; have hw347_1 := hx347_1; have hw347_0 := hx347_0
        cases e347
        replace hx347_0 := (HB.out.cell (World.block_lt_of_cell? w _ hx347_0)).trans hx347_0; replace hx347_1 := (HB.out.cell (World.block_lt_of_cell? w _ hx347_1)).trans hx347_1; replace hx347_2 := (HB.out.cell (World.block_lt_of_cell? w _ hx347_2)).trans hx347_2; replace hx347_3 := (HB.out.cell (World.block_lt_of_cell? w _ hx347_3)).trans hx347_3; have HR347_1 := Aside0.mk hi347_1; have HC347_1 := Aside0.mk hl347_1; clear hi347_1 hl347_1; replace p347 := eq_true p347; replace q347 := eq_true q347; refine start_ (n := 10) (S := fun w' => w'.cell? (ad346.add ((x5_1).toNat * 4)) = some (.string ((rd_T41 l0 x5_1).f0)) ∧ w'.cell? ⟨(ad346.add ((x5_1).toNat * 4)).block, (ad346.add ((x5_1).toNat * 4)).off + 1, none⟩ = some (.slice A346_1 ((rd_T41 l0 x5_1).f1).length c346_1) ∧ w'.cell? ⟨(ad346.add ((x5_1).toNat * 4)).block, (ad346.add ((x5_1).toNat * 4)).off + 2, none⟩ = some (.int .i64 ((rd_T41 l0 x5_1).f2)) ∧ w'.cell? ⟨(ad346.add ((x5_1).toNat * 4)).block, (ad346.add ((x5_1).toNat * 4)).off + 3, none⟩ = some (.int .i64 ((rd_T41 l0 x5_1).f3)) ∧ w'.cell? (ad347.add ((x5_1).toNat * 4)) = some (.string ((rd_T41 l1 x5_1).f0)) ∧ w'.cell? ⟨(ad347.add ((x5_1).toNat * 4)).block, (ad347.add ((x5_1).toNat * 4)).off + 1, none⟩ = some (.slice A347_1 ((rd_T41 l1 x5_1).f1).length c347_1) ∧ w'.cell? ⟨(ad347.add ((x5_1).toNat * 4)).block, (ad347.add ((x5_1).toNat * 4)).off + 2, none⟩ = some (.int .i64 ((rd_T41 l1 x5_1).f2)) ∧ w'.cell? ⟨(ad347.add ((x5_1).toNat * 4)).block, (ad347.add ((x5_1).toNat * 4)).off + 3, none⟩ = some (.int .i64 ((rd_T41 l1 x5_1).f3))) (ds := []) #[false, false, false, false, false, false, false, false, false, false] (by kernel_rfl) rfl rfl ⟨((HB.out.cell (World.block_lt_of_cell? w _ hw346_0)).trans hw346_0), ((HB.out.cell (World.block_lt_of_cell? w _ hw346_1)).trans hw346_1), ((HB.out.cell (World.block_lt_of_cell? w _ hw346_2)).trans hw346_2), ((HB.out.cell (World.block_lt_of_cell? w _ hw346_3)).trans hw346_3), ((HB.out.cell (World.block_lt_of_cell? w _ hw347_0)).trans hw347_0), ((HB.out.cell (World.block_lt_of_cell? w _ hw347_1)).trans hw347_1), ((HB.out.cell (World.block_lt_of_cell? w _ hw347_2)).trans hw347_2), ((HB.out.cell (World.block_lt_of_cell? w _ hw347_3)).trans hw347_3)⟩ (fun hHeld => ?_); refine with_tabW laws_eqClauseS.tab6 laws_eqClauseS.bits6 (fun HT_ HW_ => ?_); generalize wr.drew = w9 at HB HR346_1 HR347_1 hx346_0 hx346_1 hx346_2 hx346_3 hx347_0 hx347_1 hx347_2 hx347_3 hHeld ⊢; refine pure_ (i := 0) (N := some 17) (v := ?_) (a' := ?_) #[true, false, false, false, false, false, false, false, false, false] rfl rfl (any_of HT_.out (by kernel_rfl)) (fun _ _ _ h => h) (Or.inl ⟨by rfl, ?_⟩) ?_ ?_; rotate_left
        ·intro w'; go_simp; (with_reducible rfl)
        rotate_left
        ·simp only [Act.put, sA, s0, sS, i64_w, i32_w]; rfl
        refine pure_ (i := 1) (N := some 18) (v := ?_) (a' := ?_) #[true, true, false, false, false, false, false, false, false, false] rfl rfl (any_of HT_.out (by kernel_rfl)) (fun _ _ _ h => h) (Or.inl ⟨by rfl, ?_⟩) ?_ ?_; rotate_left
        ·intro w'; go_simp; (with_reducible rfl)
        rotate_left
        ·simp only [Act.put, sA, s0, sS, i64_w, i32_w]; rfl
        refine pure_ (i := 2) (N := some 19) (v := ?_) (a' := ?_) #[true, true, true, false, false, false, false, false, false, false] rfl rfl (any_of HT_.out (by kernel_rfl)) (fun _ _ _ h => h) (Or.inl ⟨by rfl, ?_⟩) ?_ ?_; rotate_left
        ·intro w'; go_simp; (with_reducible rfl)
        rotate_left
        ·simp only [Act.put, sA, s0, sS, i64_w, i32_w]; rfl
        refine pure_ (i := 4) (N := some 21) (v := ?_) (a' := ?_) #[true, true, true, false, true, false, false, false, false, false] rfl rfl (any_of HT_.out (by kernel_rfl)) (fun _ _ _ h => h) (Or.inl ⟨by rfl, ?_⟩) ?_ ?_; rotate_left
        ·intro w'; go_simp; (with_reducible rfl)
        rotate_left
        ·simp only [Act.put, sA, s0, sS, i64_w, i32_w]; rfl
        refine pure_ (i := 5) (N := some 22) (v := ?_) (a' := ?_) #[true, true, true, false, true, true, false, false, false, false] rfl rfl (any_of HT_.out (by kernel_rfl)) (fun _ _ _ h => h) (Or.inl ⟨by rfl, ?_⟩) ?_ ?_; rotate_left
        ·intro w'; go_simp; (with_reducible rfl)
        rotate_left
        ·simp only [Act.put, sA, s0, sS, i64_w, i32_w]; rfl
        refine pure_ (i := 6) (N := some 23) (v := ?_) (a' := ?_) #[true, true, true, false, true, true, true, false, false, false] rfl rfl (any_of HT_.out (by kernel_rfl)) (fun _ _ _ h => h) (Or.inl ⟨by rfl, ?_⟩) ?_ ?_; rotate_left
        ·intro w'; go_simp; (with_reducible rfl)
        rotate_left
        ·simp only [Act.put, sA, s0, sS, i64_w, i32_w]; rfl
        refine take_ (i := 3) (N := some 20) (v := ?_) (a' := ?_) #[true, true, true, true, true, true, true, false, false, false] rfl rfl (take_ofW HT_.out HW_.out (by kernel_rfl)) (fun _ _ _ h => h) (Or.inl ⟨by rfl, ?_⟩) hHeld ?_ ?_; rotate_left
        ·rintro w' ⟨s0, s1, s2, s3, s4, s5, s6, s7⟩; go_simp; (with_reducible rfl)
        rotate_left
        ·simp only [Act.put, sA, s0, sS, i64_w, i32_w]; rfl
        refine take_ (i := 7) (N := some 24) (v := ?_) (a' := ?_) #[true, true, true, true, true, true, true, true, false, false] rfl rfl (take_ofW HT_.out HW_.out (by kernel_rfl)) (fun _ _ _ h => h) (Or.inl ⟨by rfl, ?_⟩) hHeld ?_ ?_; rotate_left
        ·rintro w' ⟨s0, s1, s2, s3, s4, s5, s6, s7⟩; go_simp; (with_reducible rfl)
        rotate_left
        ·simp only [Act.put, sA, s0, sS, i64_w, i32_w]; rfl
        refine one_ (i := 8) (N := some 25) #[true, true, true, true, true, true, true, true, true, false] rfl rfl (one_of HT_.out (by kernel_rfl)) (by decide) (fun K hK => ?_); refine goes_ Tryz.func25 (by kernel_rfl) rfl #[.agg #[.string ((rd_T41 l0 x5_1).f0), .slice A346_1 ((rd_T41 l0 x5_1).f1).length c346_1, .int .i64 ((rd_T41 l0 x5_1).f2), .int .i64 ((rd_T41 l0 x5_1).f3)], .agg #[.string ((rd_T41 l1 x5_1).f0), .slice A347_1 ((rd_T41 l1 x5_1).f1).length c347_1, .int .i64 ((rd_T41 l1 x5_1).f2), .int .i64 ((rd_T41 l1 x5_1).f3)]] (by rfl) rfl rfl mq ?_; (with_reducible refine (laws_eqClause.calls k1 ((rd_T41 l0 x5_1).f0) _ _ ((rd_T41 l0 x5_1).f1) ((rd_T41 l0 x5_1).f2) ((rd_T41 l0 x5_1).f3) ((rd_T41 l1 x5_1).f0) _ _ ((rd_T41 l1 x5_1).f1) ((rd_T41 l1 x5_1).f2) ((rd_T41 l1 x5_1).f3) true _ ?side1 ?side2 ?side3 ?side4 A7.out).mono ?_)
        (case side1 => repeat (first | exact (Kd.C_below HR346_1.out HB.out) | (with_reducible refine Kd.C_alloc ?_ _) | (with_reducible refine Kd.C_drewN ?_ _) | (with_reducible refine Kd.C_drew ?_)))
        (case side2 => exact HC346_1.out)
        (case side3 => repeat (first | exact (Kd.C_below HR347_1.out HB.out) | (with_reducible refine Kd.C_alloc ?_ _) | (with_reducible refine Kd.C_drewN ?_ _) | (with_reducible refine Kd.C_drew ?_)))
        (case side4 => exact HC347_1.out)
        rintro e w10 ⟨rfl, hb⟩; refine ⟨_, rfl, ?_⟩; have n0_ := Aside0.mk (below_step (qb HB) hb); clear HB; have HB := n0_; clear n0_; (try clear hb); (try clear hb2); (try clear hk); (try clear hi); refine hK.out _ _ ⟨((HB.out.cell (World.block_lt_of_cell? w _ hw346_0)).trans hw346_0), ((HB.out.cell (World.block_lt_of_cell? w _ hw346_1)).trans hw346_1), ((HB.out.cell (World.block_lt_of_cell? w _ hw346_2)).trans hw346_2), ((HB.out.cell (World.block_lt_of_cell? w _ hw346_3)).trans hw346_3), ((HB.out.cell (World.block_lt_of_cell? w _ hw347_0)).trans hw347_0), ((HB.out.cell (World.block_lt_of_cell? w _ hw347_1)).trans hw347_1), ((HB.out.cell (World.block_lt_of_cell? w _ hw347_2)).trans hw347_2), ((HB.out.cell (World.block_lt_of_cell? w _ hw347_3)).trans hw347_3)⟩ (fun hHeld => ?_); clear hK K; refine norm_ (a' := ?_) ?_ ?_; rotate_left
        ·show Act.put _ (some 25) _ = _; simp only [Act.put, sA, s0, sS, i64_w, i32_w]; rfl
        refine pure_ (i := 9) (N := some 26) (v := ?_) (a' := ?_) #[true, true, true, true, true, true, true, true, true, true] rfl rfl (any_of HT_.out (by kernel_rfl)) (fun _ _ _ h => h) (Or.inl ⟨by rfl, ?_⟩) ?_ ?_; rotate_left
        ·intro w'; go_simp; (with_reducible rfl)
        rotate_left
        ·simp only [Act.put, sA, s0, sS, i64_w, i32_w]; rfl
        refine done_ (done_of HT_.out (by kernel_rfl)) ?_
        try go_wp2
        go_roundg k1
        case measure => have := HK1.out; omega
        case rel => exact ⟨(wrap64 (x5_1 + 1)), (by first | rfl | (simp; done) | (simp [*]; done)), H', ⟨by have := HK1.out; omega⟩, ⟨qb HB⟩⟩
       ·replace c8 := Bool.eq_false_iff.mpr c8; subst c8
        have H1 : (some false) = some r := by rw [if_neg (show ¬ (false = true) by decide)] at H; exact H
        clear H; have H := H1; clear H1; obtain rfl := Option.some.inj H
        try go_wp2
        have n0_ := Aside0.mk (below_drew1 HB.out); clear HB; have HB := n0_; clear n0_; have p346 : 0 ≤ (x5_1 : Int) := of_decide_eq_true (by first | (with_reducible assumption) | assumption); have q346 : x5_1 < (l0.length : Int) := of_decide_eq_true (by first | (with_reducible assumption) | assumption); obtain ⟨ad346, A346_1, c346_1, e346, hx346_0, hx346_1, hx346_2, hx346_3, hl346_1, hi346_1⟩ := at_T41 HR0.out x5_1 p346 q346; have hw346_3 := hx346_3; have hw346_2 := hx346_2; have hw346_1 := hx346_1; have hw346_0 := hx346_0
        cases e346
        replace hx346_0 := (HB.out.cell (World.block_lt_of_cell? w _ hx346_0)).trans hx346_0; replace hx346_1 := (HB.out.cell (World.block_lt_of_cell? w _ hx346_1)).trans hx346_1; replace hx346_2 := (HB.out.cell (World.block_lt_of_cell? w _ hx346_2)).trans hx346_2; replace hx346_3 := (HB.out.cell (World.block_lt_of_cell? w _ hx346_3)).trans hx346_3; have HR346_1 := Aside0.mk hi346_1; have HC346_1 := Aside0.mk hl346_1; clear hi346_1 hl346_1; replace p346 := eq_true p346; replace q346 := eq_true q346; have p347 : 0 ≤ (x5_1 : Int) := of_decide_eq_true (by first | (with_reducible assumption) | assumption); have q347 : x5_1 < (l1.length : Int) := of_decide_eq_true (by first | (with_reducible assumption) | assumption); obtain ⟨ad347, A347_1, c347_1, e347, hx347_0, hx347_1, hx347_2, hx347_3, hl347_1, hi347_1⟩ := at_T41 HR1.out x5_1 p347 q347; have hw347_3 := hx347_3; have hw347_2 := hx347_2; have hw347_1 := hx347_1; have hw347_0 := hx347_0
        cases e347
        replace hx347_0 := (HB.out.cell (World.block_lt_of_cell? w _ hx347_0)).trans hx347_0; replace hx347_1 := (HB.out.cell (World.block_lt_of_cell? w _ hx347_1)).trans hx347_1; replace hx347_2 := (HB.out.cell (World.block_lt_of_cell? w _ hx347_2)).trans hx347_2; replace hx347_3 := (HB.out.cell (World.block_lt_of_cell? w _ hx347_3)).trans hx347_3; have HR347_1 := Aside0.mk hi347_1; have HC347_1 := Aside0.mk hl347_1; clear hi347_1 hl347_1; replace p347 := eq_true p347; replace q347 := eq_true q347; refine start_ (n := 10) (S := fun w' => w'.cell? (ad346.add ((x5_1).toNat * 4)) = some (.string ((rd_T41 l0 x5_1).f0)) ∧ w'.cell? ⟨(ad346.add ((x5_1).toNat * 4)).block, (ad346.add ((x5_1).toNat * 4)).off + 1, none⟩ = some (.slice A346_1 ((rd_T41 l0 x5_1).f1).length c346_1) ∧ w'.cell? ⟨(ad346.add ((x5_1).toNat * 4)).block, (ad346.add ((x5_1).toNat * 4)).off + 2, none⟩ = some (.int .i64 ((rd_T41 l0 x5_1).f2)) ∧ w'.cell? ⟨(ad346.add ((x5_1).toNat * 4)).block, (ad346.add ((x5_1).toNat * 4)).off + 3, none⟩ = some (.int .i64 ((rd_T41 l0 x5_1).f3)) ∧ w'.cell? (ad347.add ((x5_1).toNat * 4)) = some (.string ((rd_T41 l1 x5_1).f0)) ∧ w'.cell? ⟨(ad347.add ((x5_1).toNat * 4)).block, (ad347.add ((x5_1).toNat * 4)).off + 1, none⟩ = some (.slice A347_1 ((rd_T41 l1 x5_1).f1).length c347_1) ∧ w'.cell? ⟨(ad347.add ((x5_1).toNat * 4)).block, (ad347.add ((x5_1).toNat * 4)).off + 2, none⟩ = some (.int .i64 ((rd_T41 l1 x5_1).f2)) ∧ w'.cell? ⟨(ad347.add ((x5_1).toNat * 4)).block, (ad347.add ((x5_1).toNat * 4)).off + 3, none⟩ = some (.int .i64 ((rd_T41 l1 x5_1).f3))) (ds := []) #[false, false, false, false, false, false, false, false, false, false] (by kernel_rfl) rfl rfl ⟨((HB.out.cell (World.block_lt_of_cell? w _ hw346_0)).trans hw346_0), ((HB.out.cell (World.block_lt_of_cell? w _ hw346_1)).trans hw346_1), ((HB.out.cell (World.block_lt_of_cell? w _ hw346_2)).trans hw346_2), ((HB.out.cell (World.block_lt_of_cell? w _ hw346_3)).trans hw346_3), ((HB.out.cell (World.block_lt_of_cell? w _ hw347_0)).trans hw347_0), ((HB.out.cell (World.block_lt_of_cell? w _ hw347_1)).trans hw347_1), ((HB.out.cell (World.block_lt_of_cell? w _ hw347_2)).trans hw347_2), ((HB.out.cell (World.block_lt_of_cell? w _ hw347_3)).trans hw347_3)⟩ (fun hHeld => ?_); refine with_tabW laws_eqClauseS.tab6 laws_eqClauseS.bits6 (fun HT_ HW_ => ?_); generalize wr.drew = w11 at HB HR346_1 HR347_1 hx346_0 hx346_1 hx346_2 hx346_3 hx347_0 hx347_1 hx347_2 hx347_3 hHeld ⊢; refine pure_ (i := 0) (N := some 17) (v := ?_) (a' := ?_) #[true, false, false, false, false, false, false, false, false, false] rfl rfl (any_of HT_.out (by kernel_rfl)) (fun _ _ _ h => h) (Or.inl ⟨by rfl, ?_⟩) ?_ ?_; rotate_left
        ·intro w'; go_simp; (with_reducible rfl)
        rotate_left
        ·simp only [Act.put, sA, s0, sS, i64_w, i32_w]; rfl
        refine pure_ (i := 1) (N := some 18) (v := ?_) (a' := ?_) #[true, true, false, false, false, false, false, false, false, false] rfl rfl (any_of HT_.out (by kernel_rfl)) (fun _ _ _ h => h) (Or.inl ⟨by rfl, ?_⟩) ?_ ?_; rotate_left
        ·intro w'; go_simp; (with_reducible rfl)
        rotate_left
        ·simp only [Act.put, sA, s0, sS, i64_w, i32_w]; rfl
        refine pure_ (i := 2) (N := some 19) (v := ?_) (a' := ?_) #[true, true, true, false, false, false, false, false, false, false] rfl rfl (any_of HT_.out (by kernel_rfl)) (fun _ _ _ h => h) (Or.inl ⟨by rfl, ?_⟩) ?_ ?_; rotate_left
        ·intro w'; go_simp; (with_reducible rfl)
        rotate_left
        ·simp only [Act.put, sA, s0, sS, i64_w, i32_w]; rfl
        refine pure_ (i := 4) (N := some 21) (v := ?_) (a' := ?_) #[true, true, true, false, true, false, false, false, false, false] rfl rfl (any_of HT_.out (by kernel_rfl)) (fun _ _ _ h => h) (Or.inl ⟨by rfl, ?_⟩) ?_ ?_; rotate_left
        ·intro w'; go_simp; (with_reducible rfl)
        rotate_left
        ·simp only [Act.put, sA, s0, sS, i64_w, i32_w]; rfl
        refine pure_ (i := 5) (N := some 22) (v := ?_) (a' := ?_) #[true, true, true, false, true, true, false, false, false, false] rfl rfl (any_of HT_.out (by kernel_rfl)) (fun _ _ _ h => h) (Or.inl ⟨by rfl, ?_⟩) ?_ ?_; rotate_left
        ·intro w'; go_simp; (with_reducible rfl)
        rotate_left
        ·simp only [Act.put, sA, s0, sS, i64_w, i32_w]; rfl
        refine pure_ (i := 6) (N := some 23) (v := ?_) (a' := ?_) #[true, true, true, false, true, true, true, false, false, false] rfl rfl (any_of HT_.out (by kernel_rfl)) (fun _ _ _ h => h) (Or.inl ⟨by rfl, ?_⟩) ?_ ?_; rotate_left
        ·intro w'; go_simp; (with_reducible rfl)
        rotate_left
        ·simp only [Act.put, sA, s0, sS, i64_w, i32_w]; rfl
        refine take_ (i := 3) (N := some 20) (v := ?_) (a' := ?_) #[true, true, true, true, true, true, true, false, false, false] rfl rfl (take_ofW HT_.out HW_.out (by kernel_rfl)) (fun _ _ _ h => h) (Or.inl ⟨by rfl, ?_⟩) hHeld ?_ ?_; rotate_left
        ·rintro w' ⟨s0, s1, s2, s3, s4, s5, s6, s7⟩; go_simp; (with_reducible rfl)
        rotate_left
        ·simp only [Act.put, sA, s0, sS, i64_w, i32_w]; rfl
        refine take_ (i := 7) (N := some 24) (v := ?_) (a' := ?_) #[true, true, true, true, true, true, true, true, false, false] rfl rfl (take_ofW HT_.out HW_.out (by kernel_rfl)) (fun _ _ _ h => h) (Or.inl ⟨by rfl, ?_⟩) hHeld ?_ ?_; rotate_left
        ·rintro w' ⟨s0, s1, s2, s3, s4, s5, s6, s7⟩; go_simp; (with_reducible rfl)
        rotate_left
        ·simp only [Act.put, sA, s0, sS, i64_w, i32_w]; rfl
        refine one_ (i := 8) (N := some 25) #[true, true, true, true, true, true, true, true, true, false] rfl rfl (one_of HT_.out (by kernel_rfl)) (by decide) (fun K hK => ?_); refine goes_ Tryz.func25 (by kernel_rfl) rfl #[.agg #[.string ((rd_T41 l0 x5_1).f0), .slice A346_1 ((rd_T41 l0 x5_1).f1).length c346_1, .int .i64 ((rd_T41 l0 x5_1).f2), .int .i64 ((rd_T41 l0 x5_1).f3)], .agg #[.string ((rd_T41 l1 x5_1).f0), .slice A347_1 ((rd_T41 l1 x5_1).f1).length c347_1, .int .i64 ((rd_T41 l1 x5_1).f2), .int .i64 ((rd_T41 l1 x5_1).f3)]] (by rfl) rfl rfl mq ?_; (with_reducible refine (laws_eqClause.calls k1 ((rd_T41 l0 x5_1).f0) _ _ ((rd_T41 l0 x5_1).f1) ((rd_T41 l0 x5_1).f2) ((rd_T41 l0 x5_1).f3) ((rd_T41 l1 x5_1).f0) _ _ ((rd_T41 l1 x5_1).f1) ((rd_T41 l1 x5_1).f2) ((rd_T41 l1 x5_1).f3) false _ ?side1 ?side2 ?side3 ?side4 A7.out).mono ?_)
        (case side1 => repeat (first | exact (Kd.C_below HR346_1.out HB.out) | (with_reducible refine Kd.C_alloc ?_ _) | (with_reducible refine Kd.C_drewN ?_ _) | (with_reducible refine Kd.C_drew ?_)))
        (case side2 => exact HC346_1.out)
        (case side3 => repeat (first | exact (Kd.C_below HR347_1.out HB.out) | (with_reducible refine Kd.C_alloc ?_ _) | (with_reducible refine Kd.C_drewN ?_ _) | (with_reducible refine Kd.C_drew ?_)))
        (case side4 => exact HC347_1.out)
        rintro e w12 ⟨rfl, hb⟩; refine ⟨_, rfl, ?_⟩; have n0_ := Aside0.mk (below_step (qb HB) hb); clear HB; have HB := n0_; clear n0_; (try clear hb); (try clear hb2); (try clear hk); (try clear hi); refine hK.out _ _ ⟨((HB.out.cell (World.block_lt_of_cell? w _ hw346_0)).trans hw346_0), ((HB.out.cell (World.block_lt_of_cell? w _ hw346_1)).trans hw346_1), ((HB.out.cell (World.block_lt_of_cell? w _ hw346_2)).trans hw346_2), ((HB.out.cell (World.block_lt_of_cell? w _ hw346_3)).trans hw346_3), ((HB.out.cell (World.block_lt_of_cell? w _ hw347_0)).trans hw347_0), ((HB.out.cell (World.block_lt_of_cell? w _ hw347_1)).trans hw347_1), ((HB.out.cell (World.block_lt_of_cell? w _ hw347_2)).trans hw347_2), ((HB.out.cell (World.block_lt_of_cell? w _ hw347_3)).trans hw347_3)⟩ (fun hHeld => ?_); clear hK K; refine norm_ (a' := ?_) ?_ ?_; rotate_left
        ·show Act.put _ (some 25) _ = _; simp only [Act.put, sA, s0, sS, i64_w, i32_w]; rfl
        refine pure_ (i := 9) (N := some 26) (v := ?_) (a' := ?_) #[true, true, true, true, true, true, true, true, true, true] rfl rfl (any_of HT_.out (by kernel_rfl)) (fun _ _ _ h => h) (Or.inl ⟨by rfl, ?_⟩) ?_ ?_; rotate_left
        ·intro w'; go_simp; (with_reducible rfl)
        rotate_left
        ·simp only [Act.put, sA, s0, sS, i64_w, i32_w]; rfl
        refine done_ (done_of HT_.out (by kernel_rfl)) ?_
        try go_wp2
        go_ret; exact ⟨eqq, qb HB⟩
      ·rw [if_neg c6] at H; exact absurd H (by simp)
     ·rw [if_neg c5] at H; exact absurd H (by simp)
    ·rw [if_neg c4] at H; have c4b0 : decide (x5_1 < (l0.length : Int)) = false := decide_eq_false c4; clear c4; obtain rfl := Option.some.inj H; go_wp2; go_ret; exact ⟨eqq, qb HB⟩
 ·rw [if_neg c3] at H; have c3b0 : ((l0.length : Int) == (l1.length : Int)) = false := beq_eq_false_iff_ne.mpr c3; have c3b1 : ((l0.length : Int) != (l1.length : Int)) = true := bne_iff_ne.mpr c3
  have c3b2 : (l0.length == l1.length) = false := by first | simpa using c3 | (simp at c3 ⊢; omega)
  obtain rfl := Option.some.inj H; go_enter Tryz.func7, Tryz.ntmps7; go_wp2; go_ret; exact ⟨eqq, qb HB⟩

/-! ### laws_markText: function 26 -/
def laws_markText.l0 : Nat → Int → ByteArray → Option (ByteArray)
 | 0, _, _ => none
 | k + 1, x0, x3 => if x0 > 0 then ((some (([(wrap64 (48 + (Int.tmod x0 10))) % 256] : List Int) : List Int)).bind fun y349 => (if (strOfNums y349).size + x3.size ≤ 9223372036854775807 then (laws_markText.l0 k (wrap64 (Int.tdiv x0 10)) ((strOfNums y349) ++ x3)) else (none))) else (if 1 + x3.size ≤ 9223372036854775807 then (some ((⟨#[109]⟩ : ByteArray) ++ x3)) else (none))
def laws_markText.f (k : Nat) (a0 : Int) : Option (ByteArray) := if a0 ≤ 0 then (some (⟨#[109, 48]⟩ : ByteArray)) else (laws_markText.l0 k a0 (⟨#[]⟩ : ByteArray))
theorem laws_markText.mono_l : ∀ k, (∀ y0 y1, LeO (laws_markText.l0 k y0 y1) (laws_markText.l0 (k + 1) y0 y1))
 | 0 => fun _ _ r h => by simp [laws_markText.l0] at h
 | k + 1 => by
  have ih0 := laws_markText.mono_l k
  ·intro y0 y1; unfold laws_markText.l0
   repeat' first
   | (with_reducible exact ih0 _ _)
   | (with_reducible exact LeO.refl _)
   | (with_reducible exact LeO.none _)
   | (with_reducible refine LeO.ite ?_ ?_)
   | (with_reducible refine LeO.bind ?_ (fun _ => ?_))
   | exact ih0 _ _
   | exact LeO.none _
   | refine LeO.ite ?_ ?_
   | refine LeO.bind ?_ (fun _ => ?_)
theorem laws_markText.mono : ∀ a0 k, LeO (laws_markText.f k a0) (laws_markText.f (k + 1) a0) := by
 intro a0 k; have ih0 := laws_markText.mono_l k; unfold laws_markText.f
 repeat' first
   | (with_reducible exact ih0 _ _)
   | (with_reducible exact LeO.refl _)
   | (with_reducible exact LeO.none _)
   | (with_reducible refine LeO.ite ?_ ?_)
   | (with_reducible refine LeO.bind ?_ (fun _ => ?_))
   | exact ih0 _ _
   | exact LeO.none _
   | refine LeO.ite ?_ ?_
   | refine LeO.bind ?_ (fun _ => ?_)
set_option maxHeartbeats 8000000 in
set_option maxRecDepth 100000 in
theorem laws_markText.calls (k : Nat) (a0 : Int) (r : ByteArray) (w : World) (h : laws_markText.f k a0 = some r) :
  Calls Tryz.prog 26 #[.int .i64 a0] w fun e w' => e = .returned (.string r) ∧ Below w.heap.size w w' := by
 have HB := Aside0.mk (Below.refl w.heap.size w); have H : (if a0 ≤ 0 then (some (⟨#[109, 48]⟩ : ByteArray)) else (laws_markText.l0 k a0 (⟨#[]⟩ : ByteArray))) = some r := h; clear h; by_cases c2 : a0 ≤ 0
 ·rw [if_pos c2] at H; have c2b0 : decide (a0 ≤ 0) = true := decide_eq_true c2; clear c2; obtain rfl := Option.some.inj H; go_enter Tryz.func26, Tryz.ntmps26; go_wp2; go_ret; exact ⟨eqq, qb HB⟩
 ·rw [if_neg c2] at H; have c2b0 : decide (a0 ≤ 0) = false := decide_eq_false c2; clear c2; have H' := Aside0.mk H; clear H; go_enter Tryz.func26, Tryz.ntmps26; go_wp2
  go_loopg [0, 3] k (fun kq v0 v3 w' => ∃ (x0_1 : Int) (x3_1 : ByteArray), v0 = .int .i64 x0_1 ∧ v3 = .string x3_1 ∧ Aside0 (laws_markText.l0 kq x0_1 x3_1 = some r) ∧ Aside0 (kq ≤ k) ∧ Aside0 (Below w.heap.size w w'))
  case atStart => exact ⟨(a0), ((⟨#[]⟩ : ByteArray)), (by first | rfl | (simp; done) | (simp [*]; done)), (by first | rfl | (simp; done) | (simp [*]; done)), H', ⟨Nat.le_refl _⟩, ⟨qb HB⟩⟩
  case round =>
   clear H'; (try clear c2); (try clear c2b0); (try clear p2); obtain ⟨x0_1, x3_1, rfl, rfl, HA, HK1, HB⟩ := hrel
   cases gk with
   | zero => exact absurd HA.out (by simp [laws_markText.l0])
   | succ k1 =>
    have H := HA.out; clear HA; simp only [laws_markText.l0] at H; by_cases c3 : x0_1 > 0
    ·rw [if_pos c3] at H; have c3b0 : decide (0 < x0_1) = true := decide_eq_true c3; clear c3; obtain ⟨y349, hy349⟩ : ∃ y_ : List Int, y_ = (([(wrap64 (48 + (Int.tmod x0_1 10))) % 256] : List Int)) := ⟨_, rfl⟩
     replace H : (if (strOfNums y349).size + x3_1.size ≤ 9223372036854775807 then (laws_markText.l0 k1 (wrap64 (Int.tdiv x0_1 10)) ((strOfNums y349) ++ x3_1)) else (none)) = some r := by first | (rw [hy349]; with_reducible exact H) | (have H2_ := (Option.bind_some _ _).symm.trans H; rw [hy349]; with_reducible exact H2_) | (have H2_ := (Option.bind_some _ _).symm.trans H; with_reducible exact H2_) | with_reducible exact H | (rw [hy349]; exact H) | exact H
     have Ny349 := Aside0.mk hy349; clear hy349; by_cases c4 : (strOfNums y349).size + x3_1.size ≤ 9223372036854775807
     ·rw [if_pos c4] at H; have c4b0 := eq_true c4; have c4b1 : decide ((strOfNums y349).size + x3_1.size ≤ 9223372036854775807) = true := decide_eq_true c4
      (try have c4b2 : (9223372036854775807 < (strOfNums y349).size + x3_1.size) = False := eq_false (Nat.not_lt.2 c4))
      have H' := Aside0.mk H; clear H
      go_wp2_with (first | ((with_reducible refine gate_dst (N := 12) rfl ?_); refine Kd.R_lit (Kd.int .u8) _ 5 ?hg (N := 12) ?hd (xs := ([(wrap64 (48 + (Int.tmod x0_1 10))) % 256] : List Int)) (inner := [.int .u8 ((wrap64 (48 + (Int.tmod x0_1 10))) % 256)]) (ok := fun _ => True) (okp := fun _ => True) ?hr ?hp (fun _ hk => hk) trivial (Below.refl _ _) (Nat.le_refl _) (by simp) ?_; (case hd => rfl); (case hg => rfl); (case hr => first | (go_simp; done) | (go_simp; rfl)); (case hp => exact (Reps.one (show Kd.M (Kd.int .u8) _ _ _ ((wrap64 (48 + (Int.tmod x0_1 10))) % 256) [.int .u8 ((wrap64 (48 + (Int.tmod x0_1 10))) % 256)] from rfl) (Reps.none _ _))); intro v350 w5 ho6 hb hg_ hnew_; clear hg_ hnew_; (first | rw [← Ny349.out] at ho6 | (simp only [Int.reduceToNat] at ho6; rw [← Ny349.out] at ho6)); have n0_ := Aside0.mk (Kd.R_lower ho6 (below_size (qb HB))); have n1_ := Aside0.mk (below_step (qb HB) hb); clear HB; have HO351 := n0_; have HB := n1_; clear n0_ n1_; clear hb ho6; have hcv7 := own_string (P := Tryz.prog) Tryz.underlying28 Tryz.underlying5 Tryz.underlying9 (Kd.own_of_R HO351.out)))
      go_roundg k1
      case measure => have := HK1.out; omega
      case rel => exact ⟨(wrap64 (Int.tdiv x0_1 10)), ((strOfNums y349) ++ x3_1), (by first | rfl | (simp; done) | (simp [*]; done)), (by first | rfl | (simp; done) | (simp [*]; done)), H', ⟨by have := HK1.out; omega⟩, ⟨qb HB⟩⟩
     ·rw [if_neg c4] at H; exact absurd H (by simp)
    ·rw [if_neg c3] at H; have c3b0 : decide (0 < x0_1) = false := decide_eq_false c3; clear c3; by_cases c8 : 1 + x3_1.size ≤ 9223372036854775807
     ·rw [if_pos c8] at H; have c8b0 := eq_true c8; have c8b1 : decide (1 + x3_1.size ≤ 9223372036854775807) = true := decide_eq_true c8
      (try have c8b2 : (9223372036854775807 < 1 + x3_1.size) = False := eq_false (Nat.not_lt.2 c8))
      obtain rfl := Option.some.inj H; go_wp2; go_ret; exact ⟨eqq, qb HB⟩
     ·rw [if_neg c8] at H; exact absurd H (by simp)

/-! ### laws_markTermS: function 27 -/
def laws_markTermS.l0 : Nat → List (S66) → Int → Int → Option (Int × (List (S66)))
 | 0, _, _, _ => none
 | k + 1, x0, x1, x5 => if x5 < (x0.length : Int) then (if 0 ≤ x5 then ((some (x0.set (x5 : Int).toNat (⟨x1, (rd_T66 x0 x5).f1, (rd_T66 x0 x5).f2⟩ : S66) : List (S66))).bind fun y352 => ((some (y352.set (x5 : Int).toNat (⟨(rd_T66 y352 x5).f0, wrap64 (x1 + 1), (rd_T66 y352 x5).f2⟩ : S66) : List (S66))).bind fun y353 => (laws_markTermS.l0 k (y353.set (x5 : Int).toNat (⟨(rd_T66 y353 x5).f0, (rd_T66 y353 x5).f1, wrap64 ((wrap64 (x1 + 1)) + 1)⟩ : S66)) (wrap64 ((wrap64 ((wrap64 (x1 + 1)) + 1)) + 1)) (wrap64 (x5 + 1))))) else (none)) else (some (x1, x0))
def laws_markTermS.f (k : Nat) (l0 : List (S66)) (a1 : Int) : Option (Int × (List (S66))) := laws_markTermS.l0 k l0 a1 0
theorem laws_markTermS.mono_l : ∀ k, (∀ y0 y1 y2, LeO (laws_markTermS.l0 k y0 y1 y2) (laws_markTermS.l0 (k + 1) y0 y1 y2))
 | 0 => fun _ _ _ r h => by simp [laws_markTermS.l0] at h
 | k + 1 => by
  have ih0 := laws_markTermS.mono_l k
  ·intro y0 y1 y2; unfold laws_markTermS.l0
   repeat' first
   | (with_reducible exact ih0 _ _ _)
   | (with_reducible exact LeO.refl _)
   | (with_reducible exact LeO.none _)
   | (with_reducible refine LeO.ite ?_ ?_)
   | (with_reducible refine LeO.bind ?_ (fun _ => ?_))
   | exact ih0 _ _ _
   | exact LeO.none _
   | refine LeO.ite ?_ ?_
   | refine LeO.bind ?_ (fun _ => ?_)
theorem laws_markTermS.mono : ∀ a0 a1 k, LeO (laws_markTermS.f k a0 a1) (laws_markTermS.f (k + 1) a0 a1) := by
 intro a0 a1 k; have ih0 := laws_markTermS.mono_l k; unfold laws_markTermS.f
 repeat' first
   | (with_reducible exact ih0 _ _ _)
   | (with_reducible exact LeO.refl _)
   | (with_reducible exact LeO.none _)
   | (with_reducible refine LeO.ite ?_ ?_)
   | (with_reducible refine LeO.bind ?_ (fun _ => ?_))
   | exact ih0 _ _ _
   | exact LeO.none _
   | refine LeO.ite ?_ ?_
   | refine LeO.bind ?_ (fun _ => ?_)
set_option maxHeartbeats 8000000 in
set_option maxRecDepth 100000 in
theorem laws_markTermS.calls (k : Nat) (P0_ : Nat → Prop) (u9000_ : Value) (l0 : List (S66)) (a1 : Int) (r1 : Int) (r2 : List (S66)) (w0 w : World) (hB : Below w0.heap.size w0 w) (ho0 : Kd.R k66 66 w w0.heap.size P0_ u9000_ l0) (h : laws_markTermS.f k l0 a1 = some (r1, r2)) :
  Calls Tryz.prog 27 #[u9000_, .int .i64 a1] w fun e w' => e = .returned (.int .i64 r1) ∧ Kd.R k66 66 w' w0.heap.size (fun k_ => (P0_ k_ ∨ w.heap.size ≤ k_)) u9000_ r2 ∧ Below w0.heap.size w0 w' ∧ Kept w w' (fun k_ => P0_ k_) := by
 have HO0 := Aside0.mk (show Kd.R k66 66 w w0.heap.size (fun k_ => (P0_ k_ ∨ w.heap.size ≤ k_)) u9000_ l0 from Kd.R_mono ho0 (fun k_ hk => (.inl hk))); have HK := Aside0.mk (Kept.refl w (fun k_ => P0_ k_)); have HW0 := Aside0.mk hB.size; have HB := Aside0.mk hB; clear hB; have H : (laws_markTermS.l0 k l0 a1 0) = some (r1, r2) := h; clear h; have H' := Aside0.mk H; clear H; go_enter Tryz.func27, Tryz.ntmps27; go_wp2
 go_loopg [1, 5] k (fun kq v1 v5 w' => ∃ (x0_1 : List (S66)) (x1_1 : Int) (x5_1 : Int), v1 = .int .i64 x1_1 ∧ v5 = .int .i64 x5_1 ∧ Aside0 (laws_markTermS.l0 kq x0_1 x1_1 x5_1 = some (r1, r2)) ∧ Aside0 (kq ≤ k) ∧ Aside0 (Kd.R k66 66 w' w0.heap.size (fun k_ => (P0_ k_ ∨ w.heap.size ≤ k_)) u9000_ x0_1) ∧ Aside0 (Kept w w' (fun k_ => P0_ k_)) ∧ Aside0 (Below w0.heap.size w0 w'))
 case atStart => exact ⟨(l0), (a1), (0), (by first | rfl | (simp; done) | (simp [*]; done)), (by first | rfl | (simp; done) | (simp [*]; done)), H', ⟨Nat.le_refl _⟩, ⟨by (with_reducible repeat (first | apply Kd.R_alloc | apply Kd.R_drewN | apply Kd.R_drew)); exact HO0.out⟩, ⟨by repeat (first | (with_reducible first | exact HK.out | apply Kept.alloc | apply Kept.drewN | apply Kept.drew) | exact HK.out)⟩, ⟨qb HB⟩⟩
 case round =>
  clear H'; (try clear c2); (try clear p2); obtain ⟨x0_1, x1_1, x5_1, rfl, rfl, HA, HK1, HO_0, HK, HB⟩ := hrel
  cases gk with
  | zero => exact absurd HA.out (by simp [laws_markTermS.l0])
  | succ k1 =>
   have H := HA.out; clear HA; simp only [laws_markTermS.l0] at H; by_cases c3 : x5_1 < (x0_1.length : Int)
   ·rw [if_pos c3] at H; have c3b0 : decide (x5_1 < (x0_1.length : Int)) = true := decide_eq_true c3; clear c3; by_cases c4 : 0 ≤ x5_1
    ·rw [if_pos c4] at H; have c4b0 : decide (0 ≤ x5_1) = true := decide_eq_true c4; clear c4; obtain ⟨y352, hy352⟩ : ∃ y_ : List (S66), y_ = (x0_1.set (x5_1 : Int).toNat (⟨x1_1, (rd_T66 x0_1 x5_1).f1, (rd_T66 x0_1 x5_1).f2⟩ : S66)) := ⟨_, rfl⟩
     replace H : ((some (y352.set (x5_1 : Int).toNat (⟨(rd_T66 y352 x5_1).f0, wrap64 (x1_1 + 1), (rd_T66 y352 x5_1).f2⟩ : S66) : List (S66))).bind fun y353 => (laws_markTermS.l0 k1 (y353.set (x5_1 : Int).toNat (⟨(rd_T66 y353 x5_1).f0, (rd_T66 y353 x5_1).f1, wrap64 ((wrap64 (x1_1 + 1)) + 1)⟩ : S66)) (wrap64 ((wrap64 ((wrap64 (x1_1 + 1)) + 1)) + 1)) (wrap64 (x5_1 + 1)))) = some (r1, r2) := by first | (rw [hy352]; with_reducible exact H) | (have H2_ := (Option.bind_some _ _).symm.trans H; rw [hy352]; with_reducible exact H2_) | (have H2_ := (Option.bind_some _ _).symm.trans H; with_reducible exact H2_) | with_reducible exact H | (rw [hy352]; exact H) | exact H
     have Ny352 := Aside0.mk hy352; clear hy352; obtain ⟨y353, hy353⟩ : ∃ y_ : List (S66), y_ = (y352.set (x5_1 : Int).toNat (⟨(rd_T66 y352 x5_1).f0, wrap64 (x1_1 + 1), (rd_T66 y352 x5_1).f2⟩ : S66)) := ⟨_, rfl⟩
     replace H : (laws_markTermS.l0 k1 (y353.set (x5_1 : Int).toNat (⟨(rd_T66 y353 x5_1).f0, (rd_T66 y353 x5_1).f1, wrap64 ((wrap64 (x1_1 + 1)) + 1)⟩ : S66)) (wrap64 ((wrap64 ((wrap64 (x1_1 + 1)) + 1)) + 1)) (wrap64 (x5_1 + 1))) = some (r1, r2) := by first | (rw [hy353]; with_reducible exact H) | (have H2_ := (Option.bind_some _ _).symm.trans H; rw [hy353]; with_reducible exact H2_) | (have H2_ := (Option.bind_some _ _).symm.trans H; with_reducible exact H2_) | with_reducible exact H | (rw [hy353]; exact H) | exact H
     have Ny353 := Aside0.mk hy353; clear hy353; obtain ⟨y354, hy354⟩ : ∃ y_ : List (S66), y_ = (y353.set (x5_1 : Int).toNat (⟨(rd_T66 y353 x5_1).f0, (rd_T66 y353 x5_1).f1, wrap64 ((wrap64 (x1_1 + 1)) + 1)⟩ : S66)) := ⟨_, rfl⟩
     replace H : (laws_markTermS.l0 k1 y354 (wrap64 ((wrap64 ((wrap64 (x1_1 + 1)) + 1)) + 1)) (wrap64 (x5_1 + 1))) = some (r1, r2) := by first | (rw [hy354]; with_reducible exact H) | (have H2_ := (Option.bind_some _ _).symm.trans H; rw [hy354]; with_reducible exact H2_) | (have H2_ := (Option.bind_some _ _).symm.trans H; with_reducible exact H2_) | with_reducible exact H | (rw [hy354]; exact H) | exact H
     have Ny354 := Aside0.mk hy354; clear hy354; have H' := Aside0.mk H; clear H; obtain ⟨Ao8, co8, eo8⟩ := Kd.R_slice HO_0.out; subst eo8; have p5 : 0 ≤ (x5_1 : Int) := of_decide_eq_true (by first | (with_reducible assumption) | assumption); have q5 : (x5_1 : Int) < ((x0_1.length : Int) : Int) := of_decide_eq_true (by first | (with_reducible assumption) | assumption); obtain ⟨go5, co5, eo5, gb5, gl5, cl5, HG5⟩ := Kd.R_form HO_0.out (by omega)
     (first | cases eo5 | (injection eo5 with ea_ en_ ec_; (first | subst ea_ | (injection ea_ with ea_; subst ea_)); subst ec_; clear en_))
     have GB5 := Aside0.mk gb5; have GG5 := Aside0.mk HG5; clear gb5 gl5 HG5; have HMgo5 := Aside0.mk (show (P0_ go5 ∨ w.heap.size ≤ go5) from (HO_0.out.1 _ rfl)); obtain ⟨ce5, hcl5, hM5, hcc5, hfr5⟩ := Kd.R_elem HO_0.out z66 (x5_1 : Int) p5 q5; obtain rfl := k66_openM hM5; have hx5_0 : wr.cell? ⟨go5, (x5_1 : Int).toNat * 3, none⟩ = some (.int .i64 ((rd_T66 x0_1 x5_1).f0)) := hcc5 0 _ rfl; have hx5_1 : wr.cell? ⟨go5, (x5_1 : Int).toNat * 3 + 1, none⟩ = some (.int .i64 ((rd_T66 x0_1 x5_1).f1)) := hcc5 1 _ rfl; have hx5_2 : wr.cell? ⟨go5, (x5_1 : Int).toNat * 3 + 2, none⟩ = some (.int .i64 ((rd_T66 x0_1 x5_1).f2)) := hcc5 2 _ rfl; have hf5_0 : wr.frozen? ⟨go5, (x5_1 : Int).toNat * 3, none⟩ = false := hfr5 0; have hf5_1 : wr.frozen? ⟨go5, (x5_1 : Int).toNat * 3 + 1, none⟩ = false := hfr5 1; have hf5_2 : wr.frozen? ⟨go5, (x5_1 : Int).toNat * 3 + 2, none⟩ = false := hfr5 2; clear hcl5 hcc5 hfr5 hM5; replace p5 := eq_true p5; replace q5 := eq_true q5; have HX9 := Aside0.mk (show Kd.R k66 66 wr w0.heap.size (fun k_ => (P0_ k_ ∨ w.heap.size ≤ k_)) (.slice (some ⟨go5, 0, none⟩) x0_1.length co8) x0_1 from (qr HO_0)); obtain ⟨ce9, hcl9, hM9, hcc9, hfr9⟩ := Kd.R_elem HX9.out z66 (x5_1 : Int) (of_decide_eq_true (by first | (with_reducible assumption) | assumption)) (by have h_ : (x5_1 : Int) < ((x0_1.length : Int) : Int) := of_decide_eq_true (by first | (with_reducible assumption) | assumption); first | exact h_ | (have e_ := (Kd.R_reads' HO_0.out).1; omega) | simpa using h_); obtain rfl := k66_openM hM9; have HP9 := Kd.R_seg HX9.out (x5_1 : Int) (of_decide_eq_true (by first | (with_reducible assumption) | assumption)) (by have h_ : (x5_1 : Int) < ((x0_1.length : Int) : Int) := of_decide_eq_true (by first | (with_reducible assumption) | assumption); first | exact h_ | (have e_ := (Kd.R_reads' HO_0.out).1; omega) | simpa using h_) (seg := [.int .i64 x1_1]) (j := 0) hcl9 hcc9 (show 1 ≤ 3 from by decide) (x' := (⟨x1_1, (rd_T66 x0_1 x5_1).f1, (rd_T66 x0_1 x5_1).f2⟩ : S66)) (k66_mkM _ _ _ (⟨x1_1, (rd_T66 x0_1 x5_1).f1, (rd_T66 x0_1 x5_1).f2⟩ : S66) ) (fun _ hk => hk); have hx9_0 := hcc9 0 _ rfl
     (try simp only [show (k66).sz = 3 from rfl, Nat.mul_one, Nat.add_zero] at hx9_0)
     have hf9_0 := hfr9 0
     (try simp only [show (k66).sz = 3 from rfl, Nat.mul_one, Nat.add_zero] at hf9_0)
     clear hcl9 hcc9 hfr9 hM9
     go_wp2_with (first | ((with_reducible refine gate_store (t := 3) (p := 16) rfl ?_); refine store_event (t := 3) (p := 16) (v := ?vo_w10) (w1 := (wr.setCell ⟨go5, (x5_1 : Int).toNat * 3, none⟩ (.int .i64 x1_1))) ?hg ?ho ?hn ?hr ?_; (case ho => rfl); (case hg => rfl); (case hn => rfl); (case hr => first | (go_simp; done) | (go_simp; rfl)); intro w10 hw; have hg : wr.grownBy w10 (some go5) := (by rw [hw]; exact HP9.2); have hp_ : Kd.R k66 66 w10 w0.heap.size (fun k_ => (P0_ k_ ∨ w.heap.size ≤ k_)) (.slice (some ⟨go5, 0, none⟩) x0_1.length co8) y352 := (by rw [hw, Ny352.out]; exact HP9.1); clear HP9; have n0_ := Aside0.mk (hp_); have n1_ := Aside0.mk ((by rw [hw]; exact below_set (HB.out) GB5.out : Below w0.heap.size w0 w10)); have n2_ := Aside0.mk (Kept.of_grown (S := (fun k_ => P0_ k_)) hg (by repeat (first | (with_reducible first | exact HK.out | apply Kept.alloc | apply Kept.drewN | apply Kept.drew) | exact HK.out)) (fun k_ e_ => (HO_0.out.1 k_ e_))); clear HO_0; clear HB; clear HK; have HO_0 := n0_; have HB := n1_; have HK := n2_; clear n0_ n1_ n2_; clear hg hw hp_; have p6 : 0 ≤ (x5_1 : Int) := of_decide_eq_true (by first | (with_reducible assumption) | assumption); have q6 : (x5_1 : Int) < ((x0_1.length : Int) : Int) := of_decide_eq_true (by first | (with_reducible assumption) | assumption); obtain ⟨ce6, hcl6, hM6, hcc6, hfr6⟩ := Kd.R_elem HO_0.out z66 (x5_1 : Int) p6 q6; obtain rfl := k66_openM hM6; have hx6_0 : w10.cell? ⟨go5, (x5_1 : Int).toNat * 3, none⟩ = some (.int .i64 ((rd_T66 y352 x5_1).f0)) := hcc6 0 _ rfl; have hx6_1 : w10.cell? ⟨go5, (x5_1 : Int).toNat * 3 + 1, none⟩ = some (.int .i64 ((rd_T66 y352 x5_1).f1)) := hcc6 1 _ rfl; have hx6_2 : w10.cell? ⟨go5, (x5_1 : Int).toNat * 3 + 2, none⟩ = some (.int .i64 ((rd_T66 y352 x5_1).f2)) := hcc6 2 _ rfl; have hf6_0 : w10.frozen? ⟨go5, (x5_1 : Int).toNat * 3, none⟩ = false := hfr6 0; have hf6_1 : w10.frozen? ⟨go5, (x5_1 : Int).toNat * 3 + 1, none⟩ = false := hfr6 1; have hf6_2 : w10.frozen? ⟨go5, (x5_1 : Int).toNat * 3 + 2, none⟩ = false := hfr6 2; clear hcl6 hcc6 hfr6 hM6; replace p6 := eq_true p6; replace q6 := eq_true q6; have HX11 := Aside0.mk (show Kd.R k66 66 w10 w0.heap.size (fun k_ => (P0_ k_ ∨ w.heap.size ≤ k_)) (.slice (some ⟨go5, 0, none⟩) x0_1.length co8) y352 from (qr HO_0)); obtain ⟨ce11, hcl11, hM11, hcc11, hfr11⟩ := Kd.R_elem HX11.out z66 (x5_1 : Int) (of_decide_eq_true (by first | (with_reducible assumption) | assumption)) (by have h_ : (x5_1 : Int) < ((x0_1.length : Int) : Int) := of_decide_eq_true (by first | (with_reducible assumption) | assumption); first | exact h_ | (have e_ := (Kd.R_reads' HO_0.out).1; omega) | simpa using h_); obtain rfl := k66_openM hM11; have HP11 := Kd.R_seg HX11.out (x5_1 : Int) (of_decide_eq_true (by first | (with_reducible assumption) | assumption)) (by have h_ : (x5_1 : Int) < ((x0_1.length : Int) : Int) := of_decide_eq_true (by first | (with_reducible assumption) | assumption); first | exact h_ | (have e_ := (Kd.R_reads' HO_0.out).1; omega) | simpa using h_) (seg := [.int .i64 (wrap64 (x1_1 + 1))]) (j := 1) hcl11 hcc11 (show 2 ≤ 3 from by decide) (x' := (⟨(rd_T66 y352 x5_1).f0, wrap64 (x1_1 + 1), (rd_T66 y352 x5_1).f2⟩ : S66)) (k66_mkM _ _ _ (⟨(rd_T66 y352 x5_1).f0, wrap64 (x1_1 + 1), (rd_T66 y352 x5_1).f2⟩ : S66) ) (fun _ hk => hk); have hx11_1 := hcc11 1 _ rfl; (try simp only [show (k66).sz = 3 from rfl, Nat.mul_one, Nat.add_zero] at hx11_1); have hf11_1 := hfr11 1; (try simp only [show (k66).sz = 3 from rfl, Nat.mul_one, Nat.add_zero] at hf11_1); clear hcl11 hcc11 hfr11 hM11) | ((with_reducible refine gate_store (t := 3) (p := 23) rfl ?_); refine store_event (t := 3) (p := 23) (v := ?vo_w12) (w1 := (w10.setCell ⟨go5, (x5_1 : Int).toNat * 3 + 1, none⟩ (.int .i64 (wrap64 (x1_1 + 1))))) ?hg ?ho ?hn ?hr ?_; (case ho => rfl); (case hg => rfl); (case hn => rfl); (case hr => first | (go_simp; done) | (go_simp; rfl)); intro w12 hw; have hg : w10.grownBy w12 (some go5) := (by rw [hw]; exact HP11.2); have hp_ : Kd.R k66 66 w12 w0.heap.size (fun k_ => (P0_ k_ ∨ w.heap.size ≤ k_)) (.slice (some ⟨go5, 0, none⟩) x0_1.length co8) y353 := (by rw [hw, Ny353.out]; exact HP11.1); clear HP11; have n0_ := Aside0.mk (hp_); have n1_ := Aside0.mk ((by rw [hw]; exact below_set (HB.out) GB5.out : Below w0.heap.size w0 w12)); have n2_ := Aside0.mk (Kept.of_grown (S := (fun k_ => P0_ k_)) hg (by repeat (first | (with_reducible first | exact HK.out | apply Kept.alloc | apply Kept.drewN | apply Kept.drew) | exact HK.out)) (fun k_ e_ => (HO_0.out.1 k_ e_))); clear HO_0; clear HB; clear HK; have HO_0 := n0_; have HB := n1_; have HK := n2_; clear n0_ n1_ n2_; clear hg hw hp_; have p7 : 0 ≤ (x5_1 : Int) := of_decide_eq_true (by first | (with_reducible assumption) | assumption); have q7 : (x5_1 : Int) < ((x0_1.length : Int) : Int) := of_decide_eq_true (by first | (with_reducible assumption) | assumption); obtain ⟨ce7, hcl7, hM7, hcc7, hfr7⟩ := Kd.R_elem HO_0.out z66 (x5_1 : Int) p7 q7; obtain rfl := k66_openM hM7; have hx7_0 : w12.cell? ⟨go5, (x5_1 : Int).toNat * 3, none⟩ = some (.int .i64 ((rd_T66 y353 x5_1).f0)) := hcc7 0 _ rfl; have hx7_1 : w12.cell? ⟨go5, (x5_1 : Int).toNat * 3 + 1, none⟩ = some (.int .i64 ((rd_T66 y353 x5_1).f1)) := hcc7 1 _ rfl; have hx7_2 : w12.cell? ⟨go5, (x5_1 : Int).toNat * 3 + 2, none⟩ = some (.int .i64 ((rd_T66 y353 x5_1).f2)) := hcc7 2 _ rfl; have hf7_0 : w12.frozen? ⟨go5, (x5_1 : Int).toNat * 3, none⟩ = false := hfr7 0; have hf7_1 : w12.frozen? ⟨go5, (x5_1 : Int).toNat * 3 + 1, none⟩ = false := hfr7 1; have hf7_2 : w12.frozen? ⟨go5, (x5_1 : Int).toNat * 3 + 2, none⟩ = false := hfr7 2; clear hcl7 hcc7 hfr7 hM7; replace p7 := eq_true p7; replace q7 := eq_true q7; have HX13 := Aside0.mk (show Kd.R k66 66 w12 w0.heap.size (fun k_ => (P0_ k_ ∨ w.heap.size ≤ k_)) (.slice (some ⟨go5, 0, none⟩) x0_1.length co8) y353 from (qr HO_0)); obtain ⟨ce13, hcl13, hM13, hcc13, hfr13⟩ := Kd.R_elem HX13.out z66 (x5_1 : Int) (of_decide_eq_true (by first | (with_reducible assumption) | assumption)) (by have h_ : (x5_1 : Int) < ((x0_1.length : Int) : Int) := of_decide_eq_true (by first | (with_reducible assumption) | assumption); first | exact h_ | (have e_ := (Kd.R_reads' HO_0.out).1; omega) | simpa using h_); obtain rfl := k66_openM hM13; have HP13 := Kd.R_seg HX13.out (x5_1 : Int) (of_decide_eq_true (by first | (with_reducible assumption) | assumption)) (by have h_ : (x5_1 : Int) < ((x0_1.length : Int) : Int) := of_decide_eq_true (by first | (with_reducible assumption) | assumption); first | exact h_ | (have e_ := (Kd.R_reads' HO_0.out).1; omega) | simpa using h_) (seg := [.int .i64 (wrap64 ((wrap64 (x1_1 + 1)) + 1))]) (j := 2) hcl13 hcc13 (show 3 ≤ 3 from by decide) (x' := (⟨(rd_T66 y353 x5_1).f0, (rd_T66 y353 x5_1).f1, wrap64 ((wrap64 (x1_1 + 1)) + 1)⟩ : S66)) (k66_mkM _ _ _ (⟨(rd_T66 y353 x5_1).f0, (rd_T66 y353 x5_1).f1, wrap64 ((wrap64 (x1_1 + 1)) + 1)⟩ : S66) ) (fun _ hk => hk); have hx13_2 := hcc13 2 _ rfl; (try simp only [show (k66).sz = 3 from rfl, Nat.mul_one, Nat.add_zero] at hx13_2); have hf13_2 := hfr13 2; (try simp only [show (k66).sz = 3 from rfl, Nat.mul_one, Nat.add_zero] at hf13_2); clear hcl13 hcc13 hfr13 hM13) | ((with_reducible refine gate_store (t := 3) (p := 30) rfl ?_); refine store_event (t := 3) (p := 30) (v := ?vo_w14) (w1 := (w12.setCell ⟨go5, (x5_1 : Int).toNat * 3 + 2, none⟩ (.int .i64 (wrap64 ((wrap64 (x1_1 + 1)) + 1))))) ?hg ?ho ?hn ?hr ?_; (case ho => rfl); (case hg => rfl); (case hn => rfl); (case hr => first | (go_simp; done) | (go_simp; rfl)); intro w14 hw; have hg : w12.grownBy w14 (some go5) := (by rw [hw]; exact HP13.2); have hp_ : Kd.R k66 66 w14 w0.heap.size (fun k_ => (P0_ k_ ∨ w.heap.size ≤ k_)) (.slice (some ⟨go5, 0, none⟩) x0_1.length co8) y354 := (by rw [hw, Ny354.out]; exact HP13.1); clear HP13; have n0_ := Aside0.mk (hp_); have n1_ := Aside0.mk ((by rw [hw]; exact below_set (HB.out) GB5.out : Below w0.heap.size w0 w14)); have n2_ := Aside0.mk (Kept.of_grown (S := (fun k_ => P0_ k_)) hg (by repeat (first | (with_reducible first | exact HK.out | apply Kept.alloc | apply Kept.drewN | apply Kept.drew) | exact HK.out)) (fun k_ e_ => (HO_0.out.1 k_ e_))); clear HO_0; clear HB; clear HK; have HO_0 := n0_; have HB := n1_; have HK := n2_; clear n0_ n1_ n2_; clear hg hw hp_))
     go_roundg k1
     case measure => have := HK1.out; omega
     case rel => exact ⟨(y354), (wrap64 ((wrap64 ((wrap64 (x1_1 + 1)) + 1)) + 1)), (wrap64 (x5_1 + 1)), (by first | rfl | (simp; done) | (simp [*]; done)), (by first | rfl | (simp; done) | (simp [*]; done)), H', ⟨by have := HK1.out; omega⟩, ⟨by (with_reducible repeat (first | apply Kd.R_alloc | apply Kd.R_drewN | apply Kd.R_drew)); exact HO_0.out⟩, ⟨by repeat (first | (with_reducible first | exact HK.out | apply Kept.alloc | apply Kept.drewN | apply Kept.drew) | exact HK.out)⟩, ⟨qb HB⟩⟩
    ·rw [if_neg c4] at H; exact absurd H (by simp)
   ·rw [if_neg c3] at H; have c3b0 : decide (x5_1 < (x0_1.length : Int)) = false := decide_eq_false c3; clear c3; simp only [Option.some.injEq, Prod.mk.injEq] at H; obtain ⟨rfl, rfl⟩ := H; obtain ⟨Ao15, co15, eo15⟩ := Kd.R_slice HO_0.out; subst eo15; go_wp2; go_ret; exact ⟨eqq, by (with_reducible repeat (first | apply Kd.R_alloc | apply Kd.R_drewN | apply Kd.R_drew)); exact HO_0.out, by repeat (first | (with_reducible first | exact HB.out | apply below_alloc | apply pw_below_drewN | apply below_drew1) | exact HB.out), by repeat (first | (with_reducible first | exact HK.out | apply Kept.alloc | apply Kept.drewN | apply Kept.drew) | exact HK.out)⟩

/-! ### laws_markClauseS: function 8, by hand: the rows inside the elements are written, too -/
theorem mc_elem {W : World} {base g n cap : Nat} {P : Nat → Prop} {l : List S41} (h : Kd.S k41 41 W base P (.slice (some ⟨g, 0, none⟩) n cap) l) (i : Int) (h0 : 0 ≤ i) (h1 : i < n) :
  ∃ v1 oki, Kd.R k66 66 W base oki v1 ((l.getD i.toNat z41).f1) ∧ Kd.H k41 41 W base P (.slice (some ⟨g, 0, none⟩) n cap) l i oki [.string (l.getD i.toNat z41).f0, v1, .int .i64 (l.getD i.toNat z41).f2, .int .i64 (l.getD i.toNat z41).f3] ∧
   (∀ k, oki k → P k ∧ k ≠ g) ∧
   W.cell? ⟨g, i.toNat * 4, none⟩ = some (.string (l.getD i.toNat z41).f0) ∧ W.cell? ⟨g, i.toNat * 4 + 1, none⟩ = some v1 ∧ W.cell? ⟨g, i.toNat * 4 + 2, none⟩ = some (.int .i64 (l.getD i.toNat z41).f2) ∧ W.cell? ⟨g, i.toNat * 4 + 3, none⟩ = some (.int .i64 (l.getD i.toNat z41).f3) ∧
   (∀ j, W.frozen? ⟨g, i.toNat * 4 + j, none⟩ = false) := by
 obtain ⟨oki, c, hcl, hM, hcc, hfr, hoki, hH⟩ := Kd.S_elem h z41 i h0 h1; obtain ⟨v1, rfl, ge⟩ := k41_openM hM; exact ⟨v1, oki, ge, hH, hoki, hcc 0 _ rfl, hcc 1 _ rfl, hcc 2 _ rfl, hcc 3 _ rfl, hfr⟩
theorem mc_put {W : World} {base g n cap : Nat} {P : Nat → Prop} {l : List S41} (h : Kd.S k41 41 W base P (.slice (some ⟨g, 0, none⟩) n cap) l) (i : Int) (h0 : 0 ≤ i) (h1 : i < n) (j : Nat) (u : Value) (x' : S41)
  (hx : j = 0 ∧ (∃ t, u = .string t ∧ x' = ⟨t, (l.getD i.toNat z41).f1, (l.getD i.toNat z41).f2, (l.getD i.toNat z41).f3⟩) ∨ j = 2 ∧ (∃ t, u = .int .i64 t ∧ x' = ⟨(l.getD i.toNat z41).f0, (l.getD i.toNat z41).f1, t, (l.getD i.toNat z41).f3⟩) ∨ j = 3 ∧ (∃ t, u = .int .i64 t ∧ x' = ⟨(l.getD i.toNat z41).f0, (l.getD i.toNat z41).f1, (l.getD i.toNat z41).f2, t⟩)) :
  Kd.S k41 41 (W.setCell ⟨g, i.toNat * 4 + j, none⟩ u) base P (.slice (some ⟨g, 0, none⟩) n cap) (l.set i.toNat x') ∧ W.grownBy (W.setCell ⟨g, i.toNat * 4 + j, none⟩ u) (some g) := by
 obtain ⟨v1, oki, ge, hH, hoki, _⟩ := mc_elem h i h0 h1; have hH' : Kd.H k41 41 W base (fun k => P k ∧ ¬ (fun _ : Nat => False) k) (.slice (some ⟨g, 0, none⟩) n cap) l i oki _ := Kd.H_mono hH (fun k hk => ⟨hk, fun h => h⟩)
 rcases hx with ⟨rfl, t, rfl, rfl⟩ | ⟨rfl, t, rfl, rfl⟩ | ⟨rfl, t, rfl, rfl⟩
 ·exact Kd.S_seg hH' h0 h1 (seg := [.string t]) (j := 0) (show 1 ≤ 4 by decide) (x' := ⟨t, _, _, _⟩) (k41_mkM W base oki ⟨t, (l.getD i.toNat z41).f1, (l.getD i.toNat z41).f2, (l.getD i.toNat z41).f3⟩ ge) (fun _ hk => .inl hk) (fun _ hk => hk.elim)
 ·exact Kd.S_seg hH' h0 h1 (seg := [.int .i64 t]) (j := 2) (show 3 ≤ 4 by decide) (x' := ⟨_, _, t, _⟩) (k41_mkM W base oki ⟨(l.getD i.toNat z41).f0, (l.getD i.toNat z41).f1, t, (l.getD i.toNat z41).f3⟩ ge) (fun _ hk => .inl hk) (fun _ hk => hk.elim)
 ·exact Kd.S_seg hH' h0 h1 (seg := [.int .i64 t]) (j := 3) (show 4 ≤ 4 by decide) (x' := ⟨_, _, _, t⟩) (k41_mkM W base oki ⟨(l.getD i.toNat z41).f0, (l.getD i.toNat z41).f1, (l.getD i.toNat z41).f2, t⟩ ge) (fun _ hk => .inl hk) (fun _ hk => hk.elim)
/-- What an element leads to has been written: the element put back. -/
theorem mc_back {W W1 : World} {base g n cap : Nat} {P oki : Nat → Prop} {l : List S41} {i : Int} {v1 : Value} {r ys : List S66}
  (hg : Kd.R k66 66 W base oki v1 ys) (hH : Kd.H k41 41 W base P (.slice (some ⟨g, 0, none⟩) n cap) l i oki [.string (l.getD i.toNat z41).f0, v1, .int .i64 (l.getD i.toNat z41).f2, .int .i64 (l.getD i.toNat z41).f3])
  {ok1 : Nat → Prop} (hy : Kd.R k66 66 W1 base ok1 v1 r) (hk : Kept W W1 (fun k_ => some k_ = v1.ownBlock)) :
  Kd.S k41 41 W1 base P (.slice (some ⟨g, 0, none⟩) n cap) (l.set i.toNat ⟨(l.getD i.toNat z41).f0, r, (l.getD i.toNat z41).f2, (l.getD i.toNat z41).f3⟩) := by
 refine Kd.H_back (okp := oki) (Kd.H_step hH (fun k _ hn hlt => hk.2 k hlt (fun e => hn (hg.1 k e.symm)))) (k41_mkM W1 base oki ⟨(l.getD i.toNat z41).f0, r, (l.getD i.toNat z41).f2, (l.getD i.toNat z41).f3⟩ (Kd.R_reok rfl hy (fun k e => hg.1 k e))) (fun _ h => h)
theorem mc_kept {w W W1 : World} {v v1 : Value} {e1 : TypeId} (h : Kept w W (fun k_ => some k_ = v.ownBlock ∨ ∃ cells, w.heap[k_]? = some (.cells cells e1 (0, 0)))) (hk : Kept W W1 (fun k_ => some k_ = v1.ownBlock)) (ht : ∀ k, v1.ownBlock = some k → ∃ cells, W.heap[k]? = some (.cells cells e1 (0, 0))) :
  Kept w W1 (fun k_ => some k_ = v.ownBlock ∨ ∃ cells, w.heap[k_]? = some (.cells cells e1 (0, 0))) := by
 refine ⟨Nat.le_trans h.1 hk.1, fun k hlt hn => ?_⟩; have e := h.2 k hlt hn
 rw [hk.2 k (Nat.lt_of_lt_of_le hlt h.1) (fun he => hn (.inr (by
  obtain ⟨cells, hc⟩ := ht k he.symm
  exact ⟨cells, by rw [← e]; exact hc⟩))), e]
theorem mc_grown {w W W1 : World} {g n cap : Nat} {S : Nat → Prop} (h : Kept w W (fun k_ => some k_ = (Value.slice (some ⟨g, 0, none⟩) n cap).ownBlock ∨ S k_)) (hg : W.grownBy W1 (some g)) : Kept w W1 (fun k_ => some k_ = (Value.slice (some ⟨g, 0, none⟩) n cap).ownBlock ∨ S k_) :=
 Kept.of_grown hg h (fun k_ e_ => by rw [← e_]; exact Or.inl (by simp [Value.ownBlock]))
theorem mc_map {l : List S41} {i : Nat} (h : i < l.length) (x' : S41) (hx : x'.f1 = (l.getD i z41).f1) : (l.set i x').map (·.f1) = l.map (·.f1) := by
 rw [List.map_set, hx, List.getD_eq_getElem?_getD, List.getElem?_eq_getElem h]; show (l.map (·.f1)).set i l[i].f1 = l.map (·.f1)
 have : l[i].f1 = (l.map (·.f1))[i]'(by simpa using h) := by simp
 rw [this, List.set_getElem_self]
theorem mc_drop {l : List S41} {i : Nat} (x' : S41) : ((l.set i x').map (·.f1)).drop (i + 1) = (l.map (·.f1)).drop (i + 1) := by
 rw [List.map_set, List.drop_set_of_lt (by omega)]
theorem mc_get {l : List S41} {i : Nat} (h : i < l.length) (x : S41) : (l.set i x).getD i z41 = x := by
 rw [List.getD_eq_getElem?_getD, List.getElem?_set_self h]; rfl
theorem mc_put1 {W : World} {base g n cap : Nat} {P : Nat → Prop} {l : List S41} (h : Kd.S k41 41 W base P (.slice (some ⟨g, 0, none⟩) n cap) l) (i : Int) (h0 : 0 ≤ i) (h1 : i < n) (hl : i.toNat < l.length) (j : Nat) (u : Value)
  (hx : j = 0 ∧ (∃ t, u = .string t) ∨ j = 2 ∧ (∃ t, u = .int .i64 t) ∨ j = 3 ∧ (∃ t, u = .int .i64 t)) :
  ∃ l' : List S41, l'.length = l.length ∧ (l'.getD i.toNat z41).f1 = (l.getD i.toNat z41).f1 ∧ (l'.map (·.f1)).drop (i.toNat + 1) = (l.map (·.f1)).drop (i.toNat + 1) ∧
   Kd.S k41 41 (W.setCell ⟨g, i.toNat * 4 + j, none⟩ u) base P (.slice (some ⟨g, 0, none⟩) n cap) l' ∧ W.grownBy (W.setCell ⟨g, i.toNat * 4 + j, none⟩ u) (some g) := by
 rcases hx with ⟨rfl, t, rfl⟩ | ⟨rfl, t, rfl⟩ | ⟨rfl, t, rfl⟩
 ·exact ⟨_, by rw [List.length_set], by rw [mc_get hl], mc_drop _, mc_put h i h0 h1 0 _ _ (.inl ⟨rfl, t, rfl, rfl⟩)⟩
 ·exact ⟨_, by rw [List.length_set], by rw [mc_get hl], mc_drop _, mc_put h i h0 h1 2 _ _ (.inr (.inl ⟨rfl, t, rfl, rfl⟩))⟩
 ·exact ⟨_, by rw [List.length_set], by rw [mc_get hl], mc_drop _, mc_put h i h0 h1 3 _ _ (.inr (.inr ⟨rfl, t, rfl, rfl⟩))⟩
def laws_markClauseS.go (k : Nat) : List (List S66) → Int → Option Int
 | [], a => some a
 | x :: xs, a => (laws_markText.f k a).bind fun _ => (laws_markTermS.f k x (wrap64 (a + 1))).bind fun t => laws_markClauseS.go k xs (wrap64 (wrap64 (t.1 + 1) + 1))
def laws_markClauseS.f (k : Nat) (l0 : List S41) (a1 : Int) : Option Int := laws_markClauseS.go k (l0.map (·.f1)) a1
theorem laws_markClauseS.mono_g (k : Nat) : ∀ l a, LeO (laws_markClauseS.go k l a) (laws_markClauseS.go (k + 1) l a)
 | [], a => LeO.refl _
 | x :: xs, a => LeO.bind (laws_markText.mono _ k) (fun _ => LeO.bind (laws_markTermS.mono _ _ k) (fun t => laws_markClauseS.mono_g k xs _))
theorem laws_markClauseS.mono : ∀ a0 a1 k, LeO (laws_markClauseS.f k a0 a1) (laws_markClauseS.f (k + 1) a0 a1) := fun a0 a1 k => laws_markClauseS.mono_g k _ a1
set_option maxHeartbeats 8000000 in
set_option maxRecDepth 100000 in
theorem laws_markClauseS.calls (k : Nat) (P0_ : Nat → Prop) (u9000_ : Value) (l0 : List S41) (a1 : Int) (r1 : Int) (w0 w : World) (hB : Below w0.heap.size w0 w) (ho0 : ∃ ok_, Kd.S k41 41 w w0.heap.size ok_ u9000_ l0) (h : laws_markClauseS.f k l0 a1 = some r1) :
  Calls Tryz.prog 8 #[u9000_, .int .i64 a1] w fun e w' => e = .returned (.int .i64 r1) ∧ Below w0.heap.size w0 w' ∧ Kept w w' (fun k_ => some k_ = u9000_.ownBlock ∨ ∃ cells, w.heap[k_]? = some (.cells cells 66 (0, 0))) := by
 obtain ⟨P, ho⟩ := ho0; obtain ⟨A, cc, rfl⟩ := Kd.S_slice ho; have hlen : l0.length ≤ 9223372036854775807 := (Kd.S_reads' ho).2.2.2.1; have HO := Aside0.mk ho; have HB := Aside0.mk hB; have HK := Aside0.mk (Kept.refl w (fun k_ => some k_ = (Value.slice A l0.length cc).ownBlock ∨ ∃ cells, w.heap[k_]? = some (.cells cells 66 (0, 0)))); have H := Aside0.mk (show laws_markClauseS.go k ((l0.map (·.f1)).drop (0 : Int).toNat) a1 = some r1 from h); clear ho hB h; go_enter Tryz.func8, Tryz.ntmps8; go_wp2
 go_loopg [1, 5] l0.length (fun gg s1 s5 wr => ∃ (x5 a : Int) (l : List S41), s1 = .int .i64 a ∧ s5 = .int .i64 x5 ∧ 0 ≤ x5 ∧ x5 ≤ l0.length ∧ l0.length - x5.toNat ≤ gg ∧ Aside0 (l.length = l0.length) ∧ Aside0 (laws_markClauseS.go k ((l.map (·.f1)).drop x5.toNat) a = some r1) ∧ Aside0 (Kd.S k41 41 wr w0.heap.size P (.slice A l0.length cc) l) ∧ Aside0 (Below w0.heap.size w0 wr) ∧ Aside0 (Kept w wr (fun k_ => some k_ = (Value.slice A l0.length cc).ownBlock ∨ ∃ cells, w.heap[k_]? = some (.cells cells 66 (0, 0)))))
 case atStart => exact ⟨0, a1, l0, rfl, rfl, by omega, by omega, by simp, ⟨rfl⟩, H, HO, HB, HK⟩
 case round =>
  clear H HO HB HK; obtain ⟨x5, a, l, rfl, rfl, h0, hle, hgg, HL, H, HO, HB, HK⟩ := hrel; by_cases hlt : x5 < (l0.length : Int)
  ·have c3b0 : decide (x5 < (l0.length : Int)) = true := decide_eq_true hlt; have hl := HL.out; obtain ⟨g, cap, e, gb, gl, _⟩ := Kd.S_form HO.out (by omega); injection e with ea en ec; clear en; subst ea; subst ec; have GB := Aside0.mk gb
   have hil : x5.toNat < l.length := by omega
   have hH := H.out; rw [List.drop_eq_getElem_cons (by rw [List.length_map]; exact hil)] at hH; rw [laws_markClauseS.go] at hH; obtain ⟨t, et, hH1⟩ := Option.bind_eq_some_iff.mp hH; obtain ⟨⟨q1, q2⟩, eq, hH2⟩ := Option.bind_eq_some_iff.mp hH1; rw [List.getElem_map] at eq
   have eg : l[x5.toNat].f1 = (l.getD x5.toNat z41).f1 := by rw [List.getD_eq_getElem?_getD, List.getElem?_eq_getElem hil]; rfl
   rw [eg] at eq; have ET := Aside0.mk et; have EQ := Aside0.mk eq; have HH := Aside0.mk hH2; have NX := Aside0.mk (show wrap64 (x5 + 1) = x5 + 1 by unfold wrap64; omega); have HLT := Aside0.mk hlt; have HZ := Aside0.mk h0; have HIL := Aside0.mk hil; clear hH hH1 hH2 H et eq eg gb gl hl; have HG := Aside0.mk hgg; have p5 := eq_true h0; have q5 := eq_true hlt; clear h0 hlt hle hgg hil
   go_wp2_with (first
    | ((with_reducible refine gate_callee (f := 26) rfl ?_); refine goesL_ (some 15) rfl rfl Tryz.func26 (by kernel_rfl) rfl #[.int .i64 a] rfl mq ?_; (with_reducible refine (laws_markText.calls k a t _ ET.out).mono ?_); rintro e w2 ⟨rfl, hb⟩; refine ⟨_, rfl, ?_⟩; have n0_ := Aside0.mk (Kd.S_below HO.out hb); have n1_ := Aside0.mk (below_step HB.out hb); have n2_ := Aside0.mk (Kept.below HK.out hb); clear HO HB HK hb; obtain ⟨_, _, _, _, _, hx0, _, _, _, hfx⟩ := mc_elem n0_.out x5 HZ.out HLT.out; have hf0 := hfx 0; clear hfx; (try simp only [Nat.add_zero] at hf0); obtain ⟨l1, z1, z2, z3, z4, z5⟩ := mc_put1 n0_.out x5 HZ.out HLT.out HIL.out 0 (.string t) (.inl ⟨rfl, t, rfl⟩); have Z1 := Aside0.mk z1; have Z2 := Aside0.mk z2; have Z3 := Aside0.mk z3; have Z4 := Aside0.mk z4; have Z5 := Aside0.mk z5; clear z1 z2 z3 z4 z5)
    | ((with_reducible refine gate_store (t := 9) (p := 17) rfl ?_); refine store_event (t := 9) (p := 17) (v := ?vo_0) (w1 := (w2.setCell ⟨g, x5.toNat * 4, none⟩ (.string t))) ?hg ?ho ?hn ?hr ?_; (case ho => rfl); (case hg => rfl); (case hn => rfl); (case hr => first | (go_simp; done) | (go_simp; rfl)); intro w3 hw; have m0_ := Aside0.mk (show Kd.S k41 41 w3 w0.heap.size P _ l1 from by rw [hw]; exact Z4.out); have m1_ := Aside0.mk (show Below w0.heap.size w0 w3 from by rw [hw]; exact below_set n1_.out GB.out); have m2_ := Aside0.mk (mc_grown n2_.out (W1 := w3) (by rw [hw]; exact Z5.out)); clear hx0 hf0 Z4 Z5 n0_ n1_ n2_ hw; obtain ⟨v1, oki, ge, hh, hoki, _, hx1, _, _, _⟩ := mc_elem m0_.out x5 HZ.out HLT.out; rw [Z2.out] at ge; have GE := Aside0.mk ge; have HHo := Aside0.mk hh; clear ge hh hoki)
    | ((with_reducible refine gate_callee (f := 27) rfl ?_); refine goesL_ (some 26) rfl rfl Tryz.func27 (by kernel_rfl) rfl #[v1, .int .i64 (wrap64 (a + 1))] rfl mq ?_; (with_reducible refine (laws_markTermS.calls k (fun k_ => some k_ = v1.ownBlock) v1 _ (wrap64 (a + 1)) q1 q2 w0 _ m1_.out (Kd.R_tight rfl GE.out) EQ.out).mono ?_); rintro e w4 ⟨rfl, hy, hb, hk⟩; refine ⟨_, rfl, ?_⟩; have s0_ := Aside0.mk (mc_back GE.out HHo.out hy hk); have s1_ := Aside0.mk hb; have s2_ := Aside0.mk (mc_kept m2_.out hk (Kd.R_typed GE.out)); have Y1 := Aside0.mk (show (l1.set x5.toNat ⟨(l1.getD x5.toNat z41).f0, q2, (l1.getD x5.toNat z41).f2, (l1.getD x5.toNat z41).f3⟩).length = l.length from by rw [List.length_set]; exact Z1.out); have Y3 := Aside0.mk (show ((l1.set x5.toNat ⟨(l1.getD x5.toNat z41).f0, q2, (l1.getD x5.toNat z41).f2, (l1.getD x5.toNat z41).f3⟩).map (·.f1)).drop (x5.toNat + 1) = (l.map (·.f1)).drop (x5.toNat + 1) from (mc_drop _).trans Z3.out); clear hy hb hk m0_ m1_ m2_ Z1 Z2 Z3 GE HHo hx1; generalize l1.set x5.toNat ⟨(l1.getD x5.toNat z41).f0, q2, (l1.getD x5.toNat z41).f2, (l1.getD x5.toNat z41).f3⟩ = l2 at *; obtain ⟨_, _, _, _, _, _, _, hx2, _, hfx⟩ := mc_elem s0_.out x5 HZ.out HLT.out; have hf2 := hfx 2; clear hfx; obtain ⟨l3, z1, z2, z3, z4, z5⟩ := mc_put1 s0_.out x5 HZ.out HLT.out (by rw [Y1.out]; exact HIL.out) 2 (.int .i64 q1) (.inr (.inl ⟨rfl, q1, rfl⟩)); have Z1 := Aside0.mk (z1.trans Y1.out); have Z3 := Aside0.mk (z3.trans Y3.out); have Z4 := Aside0.mk z4; have Z5 := Aside0.mk z5; clear z1 z2 z3 z4 z5 Y1 Y3)
    | ((with_reducible refine gate_store (t := 3) (p := 31) rfl ?_); refine store_event (t := 3) (p := 31) (v := ?vo_1) (w1 := (w4.setCell ⟨g, x5.toNat * 4 + 2, none⟩ (.int .i64 q1))) ?hg ?ho ?hn ?hr ?_; (case ho => rfl); (case hg => rfl); (case hn => rfl); (case hr => first | (go_simp; done) | (go_simp; rfl)); intro w5 hw; have t0_ := Aside0.mk (show Kd.S k41 41 w5 w0.heap.size P _ l3 from by rw [hw]; exact Z4.out); have t1_ := Aside0.mk (show Below w0.heap.size w0 w5 from by rw [hw]; exact below_set s1_.out GB.out); have t2_ := Aside0.mk (mc_grown s2_.out (W1 := w5) (by rw [hw]; exact Z5.out)); clear hx2 hf2 Z4 Z5 s0_ s1_ s2_ hw; obtain ⟨_, _, _, _, _, _, _, _, hx3, hfx⟩ := mc_elem t0_.out x5 HZ.out HLT.out; have hf3 := hfx 3; clear hfx; obtain ⟨l4, z1, z2, z3, z4, z5⟩ := mc_put1 t0_.out x5 HZ.out HLT.out (by rw [Z1.out]; exact HIL.out) 3 (.int .i64 (wrap64 (q1 + 1))) (.inr (.inr ⟨rfl, wrap64 (q1 + 1), rfl⟩)); have X1 := Aside0.mk (z1.trans Z1.out); have X3 := Aside0.mk (z3.trans Z3.out); have Z4 := Aside0.mk z4; have Z5 := Aside0.mk z5; clear z1 z2 z3 z4 z5 Z1 Z3)
    | ((with_reducible refine gate_store (t := 3) (p := 38) rfl ?_); refine store_event (t := 3) (p := 38) (v := ?vo_2) (w1 := (w5.setCell ⟨g, x5.toNat * 4 + 3, none⟩ (.int .i64 (wrap64 (q1 + 1))))) ?hg ?ho ?hn ?hr ?_; (case ho => rfl); (case hg => rfl); (case hn => rfl); (case hr => first | (go_simp; done) | (go_simp; rfl)); intro w6 hw; have HO := Aside0.mk (show Kd.S k41 41 w6 w0.heap.size P _ l4 from by rw [hw]; exact Z4.out); have HB := Aside0.mk (show Below w0.heap.size w0 w6 from by rw [hw]; exact below_set t1_.out GB.out); have HK := Aside0.mk (mc_grown t2_.out (W1 := w6) (by rw [hw]; exact Z5.out)); clear hx3 hf3 Z4 Z5 t0_ t1_ t2_ hw))
   go_roundg (l0.length - (x5.toNat + 1))
   case measure => have := HIL.out; have := HL.out; have := HG.out; omega
   case rel => exact ⟨x5 + 1, _, l4, rfl, by rw [NX.out], by have := HZ.out; omega, by have := HLT.out; omega, by have := HZ.out; omega, ⟨X1.out.trans HL.out⟩, ⟨by rw [show (x5 + 1).toNat = x5.toNat + 1 by have := HZ.out; omega, X3.out]; exact HH.out⟩, HO, HB, HK⟩
  ·have c3b0 : decide (x5 < (l0.length : Int)) = false := decide_eq_false hlt; have hH := H.out; rw [List.drop_eq_nil_of_le (by rw [List.length_map, HL.out]; omega), laws_markClauseS.go] at hH; have HR := Aside0.mk (Option.some.inj hH); clear hH hlt; go_wp2; go_ret; exact ⟨by rw [← HR.out]; rfl, HB.out, HK.out⟩

/-! ### laws_heldTermS: function 28 -/
def laws_heldTermS.l0 : Nat → List (S66) → Int → Int → Option (Int)
 | 0, _, _, _ => none
 | k + 1, x0, x1, x5 => if x5 < (x0.length : Int) then (if 0 ≤ x5 then (if ((rd_T66 x0 x5).f0) = x1 then (if ((rd_T66 x0 x5).f1) = (wrap64 (x1 + 1)) then (if ((rd_T66 x0 x5).f2) = (wrap64 ((wrap64 (x1 + 1)) + 1)) then (laws_heldTermS.l0 k x0 (wrap64 ((wrap64 ((wrap64 (x1 + 1)) + 1)) + 1)) (wrap64 (x5 + 1))) else (some (-1))) else (some (-1))) else (some (-1))) else (none)) else (some x1)
def laws_heldTermS.f (k : Nat) (l0 : List (S66)) (a1 : Int) : Option (Int) := laws_heldTermS.l0 k l0 a1 0
theorem laws_heldTermS.mono_l : ∀ k, (∀ y0 y1 y2, LeO (laws_heldTermS.l0 k y0 y1 y2) (laws_heldTermS.l0 (k + 1) y0 y1 y2))
 | 0 => fun _ _ _ r h => by simp [laws_heldTermS.l0] at h
 | k + 1 => by
  have ih0 := laws_heldTermS.mono_l k
  ·intro y0 y1 y2; unfold laws_heldTermS.l0
   repeat' first
   | (with_reducible exact ih0 _ _ _)
   | (with_reducible exact LeO.refl _)
   | (with_reducible exact LeO.none _)
   | (with_reducible refine LeO.ite ?_ ?_)
   | (with_reducible refine LeO.bind ?_ (fun _ => ?_))
   | exact ih0 _ _ _
   | exact LeO.none _
   | refine LeO.ite ?_ ?_
   | refine LeO.bind ?_ (fun _ => ?_)
theorem laws_heldTermS.mono : ∀ a0 a1 k, LeO (laws_heldTermS.f k a0 a1) (laws_heldTermS.f (k + 1) a0 a1) := by
 intro a0 a1 k; have ih0 := laws_heldTermS.mono_l k; unfold laws_heldTermS.f
 repeat' first
   | (with_reducible exact ih0 _ _ _)
   | (with_reducible exact LeO.refl _)
   | (with_reducible exact LeO.none _)
   | (with_reducible refine LeO.ite ?_ ?_)
   | (with_reducible refine LeO.bind ?_ (fun _ => ?_))
   | exact ih0 _ _ _
   | exact LeO.none _
   | refine LeO.ite ?_ ?_
   | refine LeO.bind ?_ (fun _ => ?_)
set_option maxHeartbeats 8000000 in
set_option maxRecDepth 100000 in
theorem laws_heldTermS.calls (k : Nat) (A0 : Option Addr) (c0 : Nat) (l0 : List (S66)) (a1 : Int) (r : Int) (w : World) (hr0 : Kd.C k66 w A0 l0.length l0) (hc0 : l0.length ≤ c0) (h : laws_heldTermS.f k l0 a1 = some r) :
  Calls Tryz.prog 28 #[.slice A0 l0.length c0, .int .i64 a1] w fun e w' => e = .returned (.int .i64 r) ∧ Drawn0 w w' := by
 have HR0 := Aside0.mk hr0; have HC0 := Aside0.mk hc0; clear hr0 hc0; have H : (laws_heldTermS.l0 k l0 a1 0) = some r := h; clear h; have H' := Aside0.mk H; clear H; go_enter Tryz.func28, Tryz.ntmps28; go_wp2
 go_loopg [1, 5] k (fun kq v1 v5 w' => ∃ (x1_1 : Int) (x5_1 : Int), v1 = .int .i64 x1_1 ∧ v5 = .int .i64 x5_1 ∧ Aside0 (laws_heldTermS.l0 kq l0 x1_1 x5_1 = some r) ∧ Aside0 (kq ≤ k) ∧ Drawn0 w w')
 case atStart => exact ⟨(a1), (0), (by first | rfl | (simp; done) | (simp [*]; done)), (by first | rfl | (simp; done) | (simp [*]; done)), H', ⟨Nat.le_refl _⟩, by repeat (first | exact Drawn0.refl _ | apply Drawn0.step)⟩
 case round =>
  clear H'; (try clear c2); (try clear p2); obtain ⟨x1_1, x5_1, rfl, rfl, HA, HK1, ⟨m1, rfl⟩⟩ := hrel
  cases gk with
  | zero => exact absurd HA.out (by simp [laws_heldTermS.l0])
  | succ k1 =>
   have H := HA.out; clear HA; simp only [laws_heldTermS.l0] at H; by_cases c3 : x5_1 < (l0.length : Int)
   ·rw [if_pos c3] at H; have c3b0 : decide (x5_1 < (l0.length : Int)) = true := decide_eq_true c3; clear c3; by_cases c4 : 0 ≤ x5_1
    ·rw [if_pos c4] at H; have c4b0 : decide (0 ≤ x5_1) = true := decide_eq_true c4; clear c4; by_cases c5 : ((rd_T66 l0 x5_1).f0) = x1_1
     ·rw [if_pos c5] at H; have c5b0 : (((rd_T66 l0 x5_1).f0) == x1_1) = true := beq_iff_eq.mpr c5; have c5b1 : (((rd_T66 l0 x5_1).f0) != x1_1) = false := bne_eq_false_iff_eq.mpr c5; clear c5; by_cases c6 : ((rd_T66 l0 x5_1).f1) = (wrap64 (x1_1 + 1))
      ·rw [if_pos c6] at H; have c6b0 : (((rd_T66 l0 x5_1).f1) == (wrap64 (x1_1 + 1))) = true := beq_iff_eq.mpr c6; have c6b1 : (((rd_T66 l0 x5_1).f1) != (wrap64 (x1_1 + 1))) = false := bne_eq_false_iff_eq.mpr c6; clear c6; by_cases c7 : ((rd_T66 l0 x5_1).f2) = (wrap64 ((wrap64 (x1_1 + 1)) + 1))
       ·rw [if_pos c7] at H; have c7b0 : (((rd_T66 l0 x5_1).f2) == (wrap64 ((wrap64 (x1_1 + 1)) + 1))) = true := beq_iff_eq.mpr c7; have c7b1 : (((rd_T66 l0 x5_1).f2) != (wrap64 ((wrap64 (x1_1 + 1)) + 1))) = false := bne_eq_false_iff_eq.mpr c7; clear c7; have H' := Aside0.mk H; clear H; have p355 : 0 ≤ (x5_1 : Int) := of_decide_eq_true (by first | (with_reducible assumption) | assumption); have q355 : x5_1 < (l0.length : Int) := of_decide_eq_true (by first | (with_reducible assumption) | assumption); obtain ⟨ad355, e355, hx355_0, hx355_1, hx355_2⟩ := at_T66 HR0.out x5_1 p355 q355
        cases e355
        replace p355 := eq_true p355; replace q355 := eq_true q355; have p356 : 0 ≤ (x5_1 : Int) := of_decide_eq_true (by first | (with_reducible assumption) | assumption); have q356 : x5_1 < (l0.length : Int) := of_decide_eq_true (by first | (with_reducible assumption) | assumption); obtain ⟨ad356, e356, hx356_0, hx356_1, hx356_2⟩ := at_T66 HR0.out x5_1 p356 q356; obtain rfl : ad355 = ad356 := (by injection e356); replace p356 := eq_true p356; replace q356 := eq_true q356; have p357 : 0 ≤ (x5_1 : Int) := of_decide_eq_true (by first | (with_reducible assumption) | assumption); have q357 : x5_1 < (l0.length : Int) := of_decide_eq_true (by first | (with_reducible assumption) | assumption); obtain ⟨ad357, e357, hx357_0, hx357_1, hx357_2⟩ := at_T66 HR0.out x5_1 p357 q357; obtain rfl : ad355 = ad357 := (by injection e357); replace p357 := eq_true p357; replace q357 := eq_true q357; go_wp2
        go_roundg k1
        case measure => have := HK1.out; omega
        case rel => exact ⟨(wrap64 ((wrap64 ((wrap64 (x1_1 + 1)) + 1)) + 1)), (wrap64 (x5_1 + 1)), (by first | rfl | (simp; done) | (simp [*]; done)), (by first | rfl | (simp; done) | (simp [*]; done)), H', ⟨by have := HK1.out; omega⟩, by repeat (first | exact Drawn0.refl _ | apply Drawn0.step)⟩
       ·rw [if_neg c7] at H; have c7b0 : (((rd_T66 l0 x5_1).f2) == (wrap64 ((wrap64 (x1_1 + 1)) + 1))) = false := beq_eq_false_iff_ne.mpr c7; have c7b1 : (((rd_T66 l0 x5_1).f2) != (wrap64 ((wrap64 (x1_1 + 1)) + 1))) = true := bne_iff_ne.mpr c7; obtain rfl := Option.some.inj H; have p355 : 0 ≤ (x5_1 : Int) := of_decide_eq_true (by first | (with_reducible assumption) | assumption); have q355 : x5_1 < (l0.length : Int) := of_decide_eq_true (by first | (with_reducible assumption) | assumption); obtain ⟨ad355, e355, hx355_0, hx355_1, hx355_2⟩ := at_T66 HR0.out x5_1 p355 q355
        cases e355
        replace p355 := eq_true p355; replace q355 := eq_true q355; have p356 : 0 ≤ (x5_1 : Int) := of_decide_eq_true (by first | (with_reducible assumption) | assumption); have q356 : x5_1 < (l0.length : Int) := of_decide_eq_true (by first | (with_reducible assumption) | assumption); obtain ⟨ad356, e356, hx356_0, hx356_1, hx356_2⟩ := at_T66 HR0.out x5_1 p356 q356; obtain rfl : ad355 = ad356 := (by injection e356); replace p356 := eq_true p356; replace q356 := eq_true q356; have p357 : 0 ≤ (x5_1 : Int) := of_decide_eq_true (by first | (with_reducible assumption) | assumption); have q357 : x5_1 < (l0.length : Int) := of_decide_eq_true (by first | (with_reducible assumption) | assumption); obtain ⟨ad357, e357, hx357_0, hx357_1, hx357_2⟩ := at_T66 HR0.out x5_1 p357 q357; obtain rfl : ad355 = ad357 := (by injection e357); replace p357 := eq_true p357; replace q357 := eq_true q357; go_wp2; go_ret; exact ⟨by first | rfl | (simp; done) | (simp [*]; done), by repeat (first | exact Drawn0.refl _ | apply Drawn0.step)⟩
      ·rw [if_neg c6] at H; have c6b0 : (((rd_T66 l0 x5_1).f1) == (wrap64 (x1_1 + 1))) = false := beq_eq_false_iff_ne.mpr c6; have c6b1 : (((rd_T66 l0 x5_1).f1) != (wrap64 (x1_1 + 1))) = true := bne_iff_ne.mpr c6; obtain rfl := Option.some.inj H; have p355 : 0 ≤ (x5_1 : Int) := of_decide_eq_true (by first | (with_reducible assumption) | assumption); have q355 : x5_1 < (l0.length : Int) := of_decide_eq_true (by first | (with_reducible assumption) | assumption); obtain ⟨ad355, e355, hx355_0, hx355_1, hx355_2⟩ := at_T66 HR0.out x5_1 p355 q355
       cases e355
       replace p355 := eq_true p355; replace q355 := eq_true q355; have p356 : 0 ≤ (x5_1 : Int) := of_decide_eq_true (by first | (with_reducible assumption) | assumption); have q356 : x5_1 < (l0.length : Int) := of_decide_eq_true (by first | (with_reducible assumption) | assumption); obtain ⟨ad356, e356, hx356_0, hx356_1, hx356_2⟩ := at_T66 HR0.out x5_1 p356 q356; obtain rfl : ad355 = ad356 := (by injection e356); replace p356 := eq_true p356; replace q356 := eq_true q356; go_wp2; go_ret; exact ⟨by first | rfl | (simp; done) | (simp [*]; done), by repeat (first | exact Drawn0.refl _ | apply Drawn0.step)⟩
     ·rw [if_neg c5] at H; have c5b0 : (((rd_T66 l0 x5_1).f0) == x1_1) = false := beq_eq_false_iff_ne.mpr c5; have c5b1 : (((rd_T66 l0 x5_1).f0) != x1_1) = true := bne_iff_ne.mpr c5; obtain rfl := Option.some.inj H; have p355 : 0 ≤ (x5_1 : Int) := of_decide_eq_true (by first | (with_reducible assumption) | assumption); have q355 : x5_1 < (l0.length : Int) := of_decide_eq_true (by first | (with_reducible assumption) | assumption); obtain ⟨ad355, e355, hx355_0, hx355_1, hx355_2⟩ := at_T66 HR0.out x5_1 p355 q355
      cases e355
      replace p355 := eq_true p355; replace q355 := eq_true q355; go_wp2; go_ret; exact ⟨by first | rfl | (simp; done) | (simp [*]; done), by repeat (first | exact Drawn0.refl _ | apply Drawn0.step)⟩
    ·rw [if_neg c4] at H; exact absurd H (by simp)
   ·rw [if_neg c3] at H; have c3b0 : decide (x5_1 < (l0.length : Int)) = false := decide_eq_false c3; clear c3; obtain rfl := Option.some.inj H; go_wp2; go_ret; exact ⟨by first | rfl | (simp; done) | (simp [*]; done), by repeat (first | exact Drawn0.refl _ | apply Drawn0.step)⟩

/-! ### laws_heldClauseS: function 9 -/
def laws_heldClauseS.l0 : Nat → List (S41) → Int → Int → Option (Int)
 | 0, _, _, _ => none
 | k + 1, x0, x1, x5 => if x5 < (x0.length : Int) then (if 0 ≤ x5 then ((laws_markText.f k x1).bind fun t359 => (if ((rd_T41 x0 x5).f0).toList = t359.toList then ((laws_heldTermS.f k ((rd_T41 x0 x5).f1) (wrap64 (x1 + 1))).bind fun t361 => (if t361 < 0 then (some (-1)) else (if ((rd_T41 x0 x5).f2) = t361 then (if ((rd_T41 x0 x5).f3) = (wrap64 (t361 + 1)) then (laws_heldClauseS.l0 k x0 (wrap64 ((wrap64 (t361 + 1)) + 1)) (wrap64 (x5 + 1))) else (some (-1))) else (some (-1))))) else (some (-1)))) else (none)) else (some x1)
def laws_heldClauseS.f (k : Nat) (l0 : List (S41)) (a1 : Int) : Option (Int) := laws_heldClauseS.l0 k l0 a1 0
theorem laws_heldClauseS.mono_l : ∀ k, (∀ y0 y1 y2, LeO (laws_heldClauseS.l0 k y0 y1 y2) (laws_heldClauseS.l0 (k + 1) y0 y1 y2))
 | 0 => fun _ _ _ r h => by simp [laws_heldClauseS.l0] at h
 | k + 1 => by
  have ih0 := laws_heldClauseS.mono_l k
  ·intro y0 y1 y2; unfold laws_heldClauseS.l0
   repeat' first
   | (with_reducible exact ih0 _ _ _)
   | (with_reducible exact laws_heldTermS.mono _ _ _)
   | (with_reducible exact laws_markText.mono _ _)
   | (with_reducible exact LeO.refl _)
   | (with_reducible exact LeO.none _)
   | (with_reducible refine LeO.ite ?_ ?_)
   | (with_reducible refine LeO.bind ?_ (fun _ => ?_))
   | exact ih0 _ _ _
   | exact laws_heldTermS.mono _ _ _
   | exact laws_markText.mono _ _
   | exact LeO.none _
   | refine LeO.ite ?_ ?_
   | refine LeO.bind ?_ (fun _ => ?_)
theorem laws_heldClauseS.mono : ∀ a0 a1 k, LeO (laws_heldClauseS.f k a0 a1) (laws_heldClauseS.f (k + 1) a0 a1) := by
 intro a0 a1 k; have ih0 := laws_heldClauseS.mono_l k; unfold laws_heldClauseS.f
 repeat' first
   | (with_reducible exact ih0 _ _ _)
   | (with_reducible exact laws_heldTermS.mono _ _ _)
   | (with_reducible exact laws_markText.mono _ _)
   | (with_reducible exact LeO.refl _)
   | (with_reducible exact LeO.none _)
   | (with_reducible refine LeO.ite ?_ ?_)
   | (with_reducible refine LeO.bind ?_ (fun _ => ?_))
   | exact ih0 _ _ _
   | exact laws_heldTermS.mono _ _ _
   | exact laws_markText.mono _ _
   | exact LeO.none _
   | refine LeO.ite ?_ ?_
   | refine LeO.bind ?_ (fun _ => ?_)
def laws_heldClauseS.T4 : Bool × List (List Nat × List Nat) := (true, [([], []), ([], []), ([0, 1], [0, 1]), ([2], [2]), ([3], [3]), ([], []), ([5], [5]), ([4, 6], [4, 6])])
def laws_heldClauseS.B4 : List Nat := [0, 0, 3, 7, 15, 0, 32, 127]
theorem laws_heldClauseS.tab4 : rtab .any (opsOf Tryz.f9 4) = laws_heldClauseS.T4 := by kernel_rfl
theorem laws_heldClauseS.bits4 : waitsOk laws_heldClauseS.T4.2 laws_heldClauseS.B4 = true := by kernel_rfl
set_option maxHeartbeats 8000000 in
set_option maxRecDepth 100000 in
theorem laws_heldClauseS.calls (k : Nat) (A0 : Option Addr) (c0 : Nat) (l0 : List (S41)) (a1 : Int) (r : Int) (w : World) (hr0 : Kd.C k41 w A0 l0.length l0) (hc0 : l0.length ≤ c0) (h : laws_heldClauseS.f k l0 a1 = some r) :
  Calls Tryz.prog 9 #[.slice A0 l0.length c0, .int .i64 a1] w fun e w' => e = .returned (.int .i64 r) ∧ Below w.heap.size w w' := by
 have HR0 := Aside0.mk hr0; have HC0 := Aside0.mk hc0; clear hr0 hc0; have HB := Aside0.mk (Below.refl w.heap.size w); have H : (laws_heldClauseS.l0 k l0 a1 0) = some r := h; clear h; have H' := Aside0.mk H; clear H; go_enter Tryz.func9, Tryz.ntmps9; go_wp2
 go_loopg [1, 5] k (fun kq v1 v5 w' => ∃ (x1_1 : Int) (x5_1 : Int), v1 = .int .i64 x1_1 ∧ v5 = .int .i64 x5_1 ∧ Aside0 (laws_heldClauseS.l0 kq l0 x1_1 x5_1 = some r) ∧ Aside0 (kq ≤ k) ∧ Aside0 (Below w.heap.size w w'))
 case atStart => exact ⟨(a1), (0), (by first | rfl | (simp; done) | (simp [*]; done)), (by first | rfl | (simp; done) | (simp [*]; done)), H', ⟨Nat.le_refl _⟩, ⟨qb HB⟩⟩
 case round =>
  clear H'; (try clear p2); obtain ⟨x1_1, x5_1, rfl, rfl, HA, HK1, HB⟩ := hrel
  cases gk with
  | zero => exact absurd HA.out (by simp [laws_heldClauseS.l0])
  | succ k1 =>
   have H := HA.out; clear HA; simp only [laws_heldClauseS.l0] at H; by_cases c3 : x5_1 < (l0.length : Int)
   ·rw [if_pos c3] at H; have c3b0 : decide (x5_1 < (l0.length : Int)) = true := decide_eq_true c3; clear c3; by_cases c4 : 0 ≤ x5_1
    ·rw [if_pos c4] at H; have c4b0 : decide (0 ≤ x5_1) = true := decide_eq_true c4; clear c4; replace H := Option.bind_eq_some_iff.mp H; obtain ⟨t359, A50, H⟩ := H; replace H : (if ((rd_T41 l0 x5_1).f0).toList = t359.toList then ((laws_heldTermS.f k1 ((rd_T41 l0 x5_1).f1) (wrap64 (x1_1 + 1))).bind fun t361 => (if t361 < 0 then (some (-1)) else (if ((rd_T41 l0 x5_1).f2) = t361 then (if ((rd_T41 l0 x5_1).f3) = (wrap64 (t361 + 1)) then (laws_heldClauseS.l0 k1 l0 (wrap64 ((wrap64 (t361 + 1)) + 1)) (wrap64 (x5_1 + 1))) else (some (-1))) else (some (-1))))) else (some (-1))) = some r := H; have A5 := Aside0.mk A50; clear A50; by_cases c6 : ((rd_T41 l0 x5_1).f0).toList = t359.toList
     ·rw [if_pos c6] at H; have c6b0 : (((rd_T41 l0 x5_1).f0).toList == t359.toList) = true := beq_iff_eq.mpr c6; have c6b1 : (((rd_T41 l0 x5_1).f0).toList != t359.toList) = false := bne_eq_false_iff_eq.mpr c6; clear c6; replace H := Option.bind_eq_some_iff.mp H; obtain ⟨t361, A70, H⟩ := H; replace H : (if t361 < 0 then (some (-1)) else (if ((rd_T41 l0 x5_1).f2) = t361 then (if ((rd_T41 l0 x5_1).f3) = (wrap64 (t361 + 1)) then (laws_heldClauseS.l0 k1 l0 (wrap64 ((wrap64 (t361 + 1)) + 1)) (wrap64 (x5_1 + 1))) else (some (-1))) else (some (-1)))) = some r := H; have A7 := Aside0.mk A70; clear A70; by_cases c8 : t361 < 0
      ·rw [if_pos c8] at H; have c8b0 : decide (t361 < 0) = true := decide_eq_true c8; clear c8; obtain rfl := Option.some.inj H
       try go_wp2
       have n0_ := Aside0.mk (below_drew1 HB.out); clear HB; have HB := n0_; clear n0_; have p358 : 0 ≤ (x5_1 : Int) := of_decide_eq_true (by first | (with_reducible assumption) | assumption); have q358 : x5_1 < (l0.length : Int) := of_decide_eq_true (by first | (with_reducible assumption) | assumption); obtain ⟨ad358, A358_1, c358_1, e358, hx358_0, hx358_1, hx358_2, hx358_3, hl358_1, hi358_1⟩ := at_T41 HR0.out x5_1 p358 q358; have hw358_3 := hx358_3; have hw358_2 := hx358_2; have hw358_1 := hx358_1; have hw358_0 := hx358_0
       cases e358
       replace hx358_0 := (HB.out.cell (World.block_lt_of_cell? w _ hx358_0)).trans hx358_0; replace hx358_1 := (HB.out.cell (World.block_lt_of_cell? w _ hx358_1)).trans hx358_1; replace hx358_2 := (HB.out.cell (World.block_lt_of_cell? w _ hx358_2)).trans hx358_2; replace hx358_3 := (HB.out.cell (World.block_lt_of_cell? w _ hx358_3)).trans hx358_3; have HR358_1 := Aside0.mk hi358_1; have HC358_1 := Aside0.mk hl358_1; clear hi358_1 hl358_1; replace p358 := eq_true p358; replace q358 := eq_true q358; refine start_ (n := 8) (S := fun w' => w'.cell? (ad358.add ((x5_1).toNat * 4)) = some (.string ((rd_T41 l0 x5_1).f0)) ∧ w'.cell? ⟨(ad358.add ((x5_1).toNat * 4)).block, (ad358.add ((x5_1).toNat * 4)).off + 1, none⟩ = some (.slice A358_1 ((rd_T41 l0 x5_1).f1).length c358_1) ∧ w'.cell? ⟨(ad358.add ((x5_1).toNat * 4)).block, (ad358.add ((x5_1).toNat * 4)).off + 2, none⟩ = some (.int .i64 ((rd_T41 l0 x5_1).f2)) ∧ w'.cell? ⟨(ad358.add ((x5_1).toNat * 4)).block, (ad358.add ((x5_1).toNat * 4)).off + 3, none⟩ = some (.int .i64 ((rd_T41 l0 x5_1).f3))) (ds := []) (rl_ true [0, 8]).toArray (by kernel_rfl) rfl rfl ⟨((HB.out.cell (World.block_lt_of_cell? w _ hw358_0)).trans hw358_0), ((HB.out.cell (World.block_lt_of_cell? w _ hw358_1)).trans hw358_1), ((HB.out.cell (World.block_lt_of_cell? w _ hw358_2)).trans hw358_2), ((HB.out.cell (World.block_lt_of_cell? w _ hw358_3)).trans hw358_3)⟩ (fun hHeld => ?_); refine with_tabW laws_heldClauseS.tab4 laws_heldClauseS.bits4 (fun HT_ HW_ => ?_); generalize wr.drew = w9 at HB HR358_1 hx358_0 hx358_1 hx358_2 hx358_3 hHeld ⊢; refine pure_ (i := 0) (N := some 12) (v := ?_) (a' := ?_) (rl_ true [1, 7]).toArray rfl rfl (any_of HT_.out (by kernel_rfl)) (fun _ _ _ h => h) (Or.inl ⟨by rfl, ?_⟩) ?_ ?_; rotate_left
       ·intro w'; go_simp; (with_reducible rfl)
       rotate_left
       ·simp only [Act.put, sA, s0, sS, i64_w, i32_w]; rfl
       refine pure_ (i := 1) (N := some 13) (v := ?_) (a' := ?_) (rl_ true [2, 6]).toArray rfl rfl (any_of HT_.out (by kernel_rfl)) (fun _ _ _ h => h) (Or.inl ⟨by rfl, ?_⟩) ?_ ?_; rotate_left
       ·intro w'; go_simp; (with_reducible rfl)
       rotate_left
       ·simp only [Act.put, sA, s0, sS, i64_w, i32_w]; rfl
       refine pure_ (i := 2) (N := some 14) (v := ?_) (a' := ?_) (rl_ true [3, 5]).toArray rfl rfl (any_of HT_.out (by kernel_rfl)) (fun _ _ _ h => h) (Or.inl ⟨by rfl, ?_⟩) ?_ ?_; rotate_left
       ·intro w'; go_simp; (with_reducible rfl)
       rotate_left
       ·simp only [Act.put, sA, s0, sS, i64_w, i32_w]; rfl
       refine pure_ (i := 3) (N := some 15) (v := ?_) (a' := ?_) (rl_ true [4, 4]).toArray rfl rfl (any_of HT_.out (by kernel_rfl)) (fun _ _ _ h => h) (Or.inl ⟨by rfl, ?_⟩) ?_ ?_; rotate_left
       ·intro w'; go_simp; (with_reducible rfl)
       rotate_left
       ·simp only [Act.put, sA, s0, sS, i64_w, i32_w]; rfl
       refine pure_ (i := 5) (N := some 17) (v := ?_) (a' := ?_) (rl_ true [4, 1, 1, 2]).toArray rfl rfl (any_of HT_.out (by kernel_rfl)) (fun _ _ _ h => h) (Or.inl ⟨by rfl, ?_⟩) ?_ ?_; rotate_left
       ·intro w'; go_simp; (with_reducible rfl)
       rotate_left
       ·simp only [Act.put, sA, s0, sS, i64_w, i32_w]; rfl
       refine take_ (i := 4) (N := some 16) (v := ?_) (a' := ?_) (rl_ true [6, 2]).toArray rfl rfl (take_ofW HT_.out HW_.out (by kernel_rfl)) (fun _ _ _ h => h) (Or.inl ⟨by rfl, ?_⟩) hHeld ?_ ?_; rotate_left
       ·rintro w' ⟨s0, s1, s2, s3⟩; go_simp; (with_reducible rfl)
       rotate_left
       ·simp only [Act.put, sA, s0, sS, i64_w, i32_w]; rfl
       refine one_ (i := 6) (N := some 18) (rl_ true [7, 1]).toArray rfl rfl (one_of HT_.out (by kernel_rfl)) (by decide) (fun K hK => ?_); refine goes_ Tryz.func26 (by kernel_rfl) rfl #[.int .i64 x1_1] (by rfl) rfl rfl mq ?_; (with_reducible refine (laws_markText.calls k1 x1_1 t359 _ A5.out).mono ?_); rintro e w10 ⟨rfl, hb⟩; refine ⟨_, rfl, ?_⟩; have n0_ := Aside0.mk (below_step (qb HB) hb); clear HB; have HB := n0_; clear n0_; (try clear hb); (try clear hb2); (try clear hk); (try clear hi); refine hK.out _ _ ⟨((HB.out.cell (World.block_lt_of_cell? w _ hw358_0)).trans hw358_0), ((HB.out.cell (World.block_lt_of_cell? w _ hw358_1)).trans hw358_1), ((HB.out.cell (World.block_lt_of_cell? w _ hw358_2)).trans hw358_2), ((HB.out.cell (World.block_lt_of_cell? w _ hw358_3)).trans hw358_3)⟩ (fun hHeld => ?_); clear hK K; refine norm_ (a' := ?_) ?_ ?_; rotate_left
       ·show Act.put _ (some 18) _ = _; simp only [Act.put, sA, s0, sS, i64_w, i32_w]; rfl
       refine pure_ (i := 7) (N := some 19) (v := ?_) (a' := ?_) (rl_ true [8]).toArray rfl rfl (any_of HT_.out (by kernel_rfl)) (fun _ _ _ h => h) (Or.inl ⟨by rfl, ?_⟩) ?_ ?_; rotate_left
       ·intro w'; go_simp; (with_reducible rfl)
       rotate_left
       ·simp only [Act.put, sA, s0, sS, i64_w, i32_w]; rfl
       refine done_ (done_of HT_.out (by kernel_rfl)) ?_; (try clear hHeld); have p360 : 0 ≤ (x5_1 : Int) := of_decide_eq_true (by first | (with_reducible assumption) | assumption); have q360 : x5_1 < (l0.length : Int) := of_decide_eq_true (by first | (with_reducible assumption) | assumption); obtain ⟨ad360, A360_1, c360_1, e360, hx360_0, hx360_1, hx360_2, hx360_3, hl360_1, hi360_1⟩ := at_T41 HR0.out x5_1 p360 q360; obtain rfl : ad358 = ad360 := (by injection e360); replace hx360_0 := (HB.out.cell (World.block_lt_of_cell? w _ hx360_0)).trans hx360_0; replace hx360_1 := (HB.out.cell (World.block_lt_of_cell? w _ hx360_1)).trans hx360_1; replace hx360_2 := (HB.out.cell (World.block_lt_of_cell? w _ hx360_2)).trans hx360_2; replace hx360_3 := (HB.out.cell (World.block_lt_of_cell? w _ hx360_3)).trans hx360_3; have HR360_1 := Aside0.mk hi360_1; have HC360_1 := Aside0.mk hl360_1; clear hi360_1 hl360_1; replace p360 := eq_true p360; replace q360 := eq_true q360
       try go_wp2_with (first | ((with_reducible refine gate_callee (f := 28) rfl ?_); refine goesL_ (some 28) rfl rfl Tryz.func28 (by kernel_rfl) rfl #[.slice A360_1 ((rd_T41 l0 x5_1).f1).length c360_1, .int .i64 (wrap64 (x1_1 + 1))] rfl mq ?_; (with_reducible refine (laws_heldTermS.calls k1 _ _ ((rd_T41 l0 x5_1).f1) (wrap64 (x1_1 + 1)) t361 _ ?side1 ?side2 A7.out).mono ?_); (case side1 => repeat (first | exact (Kd.C_below HR360_1.out HB.out) | (with_reducible refine Kd.C_alloc ?_ _) | (with_reducible refine Kd.C_drewN ?_ _) | (with_reducible refine Kd.C_drew ?_))); (case side2 => exact HC360_1.out); rintro e w' ⟨rfl, ⟨nd, rfl⟩⟩; refine ⟨_, rfl, ?_⟩))
       go_ret; exact ⟨eqq, qb HB⟩
      ·rw [if_neg c8] at H; have c8b0 : decide (t361 < 0) = false := decide_eq_false c8; clear c8; by_cases c11 : ((rd_T41 l0 x5_1).f2) = t361
       ·rw [if_pos c11] at H; have c11b0 : (((rd_T41 l0 x5_1).f2) == t361) = true := beq_iff_eq.mpr c11; have c11b1 : (((rd_T41 l0 x5_1).f2) != t361) = false := bne_eq_false_iff_eq.mpr c11; clear c11; by_cases c12 : ((rd_T41 l0 x5_1).f3) = (wrap64 (t361 + 1))
        ·rw [if_pos c12] at H; have c12b0 : (((rd_T41 l0 x5_1).f3) == (wrap64 (t361 + 1))) = true := beq_iff_eq.mpr c12; have c12b1 : (((rd_T41 l0 x5_1).f3) != (wrap64 (t361 + 1))) = false := bne_eq_false_iff_eq.mpr c12; clear c12; have H' := Aside0.mk H; clear H
         try go_wp2
         have n0_ := Aside0.mk (below_drew1 HB.out); clear HB; have HB := n0_; clear n0_; have p358 : 0 ≤ (x5_1 : Int) := of_decide_eq_true (by first | (with_reducible assumption) | assumption); have q358 : x5_1 < (l0.length : Int) := of_decide_eq_true (by first | (with_reducible assumption) | assumption); obtain ⟨ad358, A358_1, c358_1, e358, hx358_0, hx358_1, hx358_2, hx358_3, hl358_1, hi358_1⟩ := at_T41 HR0.out x5_1 p358 q358; have hw358_3 := hx358_3; have hw358_2 := hx358_2; have hw358_1 := hx358_1; have hw358_0 := hx358_0
         cases e358
         replace hx358_0 := (HB.out.cell (World.block_lt_of_cell? w _ hx358_0)).trans hx358_0; replace hx358_1 := (HB.out.cell (World.block_lt_of_cell? w _ hx358_1)).trans hx358_1; replace hx358_2 := (HB.out.cell (World.block_lt_of_cell? w _ hx358_2)).trans hx358_2; replace hx358_3 := (HB.out.cell (World.block_lt_of_cell? w _ hx358_3)).trans hx358_3; have HR358_1 := Aside0.mk hi358_1; have HC358_1 := Aside0.mk hl358_1; clear hi358_1 hl358_1; replace p358 := eq_true p358; replace q358 := eq_true q358; refine start_ (n := 8) (S := fun w' => w'.cell? (ad358.add ((x5_1).toNat * 4)) = some (.string ((rd_T41 l0 x5_1).f0)) ∧ w'.cell? ⟨(ad358.add ((x5_1).toNat * 4)).block, (ad358.add ((x5_1).toNat * 4)).off + 1, none⟩ = some (.slice A358_1 ((rd_T41 l0 x5_1).f1).length c358_1) ∧ w'.cell? ⟨(ad358.add ((x5_1).toNat * 4)).block, (ad358.add ((x5_1).toNat * 4)).off + 2, none⟩ = some (.int .i64 ((rd_T41 l0 x5_1).f2)) ∧ w'.cell? ⟨(ad358.add ((x5_1).toNat * 4)).block, (ad358.add ((x5_1).toNat * 4)).off + 3, none⟩ = some (.int .i64 ((rd_T41 l0 x5_1).f3))) (ds := []) (rl_ true [0, 8]).toArray (by kernel_rfl) rfl rfl ⟨((HB.out.cell (World.block_lt_of_cell? w _ hw358_0)).trans hw358_0), ((HB.out.cell (World.block_lt_of_cell? w _ hw358_1)).trans hw358_1), ((HB.out.cell (World.block_lt_of_cell? w _ hw358_2)).trans hw358_2), ((HB.out.cell (World.block_lt_of_cell? w _ hw358_3)).trans hw358_3)⟩ (fun hHeld => ?_); refine with_tabW laws_heldClauseS.tab4 laws_heldClauseS.bits4 (fun HT_ HW_ => ?_); generalize wr.drew = w13 at HB HR358_1 hx358_0 hx358_1 hx358_2 hx358_3 hHeld ⊢; refine pure_ (i := 0) (N := some 12) (v := ?_) (a' := ?_) (rl_ true [1, 7]).toArray rfl rfl (any_of HT_.out (by kernel_rfl)) (fun _ _ _ h => h) (Or.inl ⟨by rfl, ?_⟩) ?_ ?_; rotate_left
         ·intro w'; go_simp; (with_reducible rfl)
         rotate_left
         ·simp only [Act.put, sA, s0, sS, i64_w, i32_w]; rfl
         refine pure_ (i := 1) (N := some 13) (v := ?_) (a' := ?_) (rl_ true [2, 6]).toArray rfl rfl (any_of HT_.out (by kernel_rfl)) (fun _ _ _ h => h) (Or.inl ⟨by rfl, ?_⟩) ?_ ?_; rotate_left
         ·intro w'; go_simp; (with_reducible rfl)
         rotate_left
         ·simp only [Act.put, sA, s0, sS, i64_w, i32_w]; rfl
         refine pure_ (i := 2) (N := some 14) (v := ?_) (a' := ?_) (rl_ true [3, 5]).toArray rfl rfl (any_of HT_.out (by kernel_rfl)) (fun _ _ _ h => h) (Or.inl ⟨by rfl, ?_⟩) ?_ ?_; rotate_left
         ·intro w'; go_simp; (with_reducible rfl)
         rotate_left
         ·simp only [Act.put, sA, s0, sS, i64_w, i32_w]; rfl
         refine pure_ (i := 3) (N := some 15) (v := ?_) (a' := ?_) (rl_ true [4, 4]).toArray rfl rfl (any_of HT_.out (by kernel_rfl)) (fun _ _ _ h => h) (Or.inl ⟨by rfl, ?_⟩) ?_ ?_; rotate_left
         ·intro w'; go_simp; (with_reducible rfl)
         rotate_left
         ·simp only [Act.put, sA, s0, sS, i64_w, i32_w]; rfl
         refine pure_ (i := 5) (N := some 17) (v := ?_) (a' := ?_) (rl_ true [4, 1, 1, 2]).toArray rfl rfl (any_of HT_.out (by kernel_rfl)) (fun _ _ _ h => h) (Or.inl ⟨by rfl, ?_⟩) ?_ ?_; rotate_left
         ·intro w'; go_simp; (with_reducible rfl)
         rotate_left
         ·simp only [Act.put, sA, s0, sS, i64_w, i32_w]; rfl
         refine take_ (i := 4) (N := some 16) (v := ?_) (a' := ?_) (rl_ true [6, 2]).toArray rfl rfl (take_ofW HT_.out HW_.out (by kernel_rfl)) (fun _ _ _ h => h) (Or.inl ⟨by rfl, ?_⟩) hHeld ?_ ?_; rotate_left
         ·rintro w' ⟨s0, s1, s2, s3⟩; go_simp; (with_reducible rfl)
         rotate_left
         ·simp only [Act.put, sA, s0, sS, i64_w, i32_w]; rfl
         refine one_ (i := 6) (N := some 18) (rl_ true [7, 1]).toArray rfl rfl (one_of HT_.out (by kernel_rfl)) (by decide) (fun K hK => ?_); refine goes_ Tryz.func26 (by kernel_rfl) rfl #[.int .i64 x1_1] (by rfl) rfl rfl mq ?_; (with_reducible refine (laws_markText.calls k1 x1_1 t359 _ A5.out).mono ?_); rintro e w14 ⟨rfl, hb⟩; refine ⟨_, rfl, ?_⟩; have n0_ := Aside0.mk (below_step (qb HB) hb); clear HB; have HB := n0_; clear n0_; (try clear hb); (try clear hb2); (try clear hk); (try clear hi); refine hK.out _ _ ⟨((HB.out.cell (World.block_lt_of_cell? w _ hw358_0)).trans hw358_0), ((HB.out.cell (World.block_lt_of_cell? w _ hw358_1)).trans hw358_1), ((HB.out.cell (World.block_lt_of_cell? w _ hw358_2)).trans hw358_2), ((HB.out.cell (World.block_lt_of_cell? w _ hw358_3)).trans hw358_3)⟩ (fun hHeld => ?_); clear hK K; refine norm_ (a' := ?_) ?_ ?_; rotate_left
         ·show Act.put _ (some 18) _ = _; simp only [Act.put, sA, s0, sS, i64_w, i32_w]; rfl
         refine pure_ (i := 7) (N := some 19) (v := ?_) (a' := ?_) (rl_ true [8]).toArray rfl rfl (any_of HT_.out (by kernel_rfl)) (fun _ _ _ h => h) (Or.inl ⟨by rfl, ?_⟩) ?_ ?_; rotate_left
         ·intro w'; go_simp; (with_reducible rfl)
         rotate_left
         ·simp only [Act.put, sA, s0, sS, i64_w, i32_w]; rfl
         refine done_ (done_of HT_.out (by kernel_rfl)) ?_; (try clear hHeld); have p360 : 0 ≤ (x5_1 : Int) := of_decide_eq_true (by first | (with_reducible assumption) | assumption); have q360 : x5_1 < (l0.length : Int) := of_decide_eq_true (by first | (with_reducible assumption) | assumption); obtain ⟨ad360, A360_1, c360_1, e360, hx360_0, hx360_1, hx360_2, hx360_3, hl360_1, hi360_1⟩ := at_T41 HR0.out x5_1 p360 q360; obtain rfl : ad358 = ad360 := (by injection e360); replace hx360_0 := (HB.out.cell (World.block_lt_of_cell? w _ hx360_0)).trans hx360_0; replace hx360_1 := (HB.out.cell (World.block_lt_of_cell? w _ hx360_1)).trans hx360_1; replace hx360_2 := (HB.out.cell (World.block_lt_of_cell? w _ hx360_2)).trans hx360_2; replace hx360_3 := (HB.out.cell (World.block_lt_of_cell? w _ hx360_3)).trans hx360_3; have HR360_1 := Aside0.mk hi360_1; have HC360_1 := Aside0.mk hl360_1; clear hi360_1 hl360_1; replace p360 := eq_true p360; replace q360 := eq_true q360
         try go_wp2_with (first | ((with_reducible refine gate_callee (f := 28) rfl ?_); refine goesL_ (some 28) rfl rfl Tryz.func28 (by kernel_rfl) rfl #[.slice A360_1 ((rd_T41 l0 x5_1).f1).length c360_1, .int .i64 (wrap64 (x1_1 + 1))] rfl mq ?_; (with_reducible refine (laws_heldTermS.calls k1 _ _ ((rd_T41 l0 x5_1).f1) (wrap64 (x1_1 + 1)) t361 _ ?side1 ?side2 A7.out).mono ?_); (case side1 => repeat (first | exact (Kd.C_below HR360_1.out HB.out) | (with_reducible refine Kd.C_alloc ?_ _) | (with_reducible refine Kd.C_drewN ?_ _) | (with_reducible refine Kd.C_drew ?_))); (case side2 => exact HC360_1.out); rintro e w' ⟨rfl, ⟨nd, rfl⟩⟩; refine ⟨_, rfl, ?_⟩; have p362 : 0 ≤ (x5_1 : Int) := of_decide_eq_true (by first | (with_reducible assumption) | assumption); have q362 : x5_1 < (l0.length : Int) := of_decide_eq_true (by first | (with_reducible assumption) | assumption); obtain ⟨ad362, A362_1, c362_1, e362, hx362_0, hx362_1, hx362_2, hx362_3, hl362_1, hi362_1⟩ := at_T41 HR0.out x5_1 p362 q362; obtain rfl : ad358 = ad362 := (by injection e362); replace hx362_0 := (HB.out.cell (World.block_lt_of_cell? w _ hx362_0)).trans hx362_0; replace hx362_1 := (HB.out.cell (World.block_lt_of_cell? w _ hx362_1)).trans hx362_1; replace hx362_2 := (HB.out.cell (World.block_lt_of_cell? w _ hx362_2)).trans hx362_2; replace hx362_3 := (HB.out.cell (World.block_lt_of_cell? w _ hx362_3)).trans hx362_3; have HR362_1 := Aside0.mk hi362_1; have HC362_1 := Aside0.mk hl362_1; clear hi362_1 hl362_1; replace p362 := eq_true p362; replace q362 := eq_true q362; have ea_ := Option.some.inj (hx360_1.symm.trans hx362_1); injection ea_ with ea_ en_ ec_; subst ea_; subst ec_; clear en_; have p363 : 0 ≤ (x5_1 : Int) := of_decide_eq_true (by first | (with_reducible assumption) | assumption); have q363 : x5_1 < (l0.length : Int) := of_decide_eq_true (by first | (with_reducible assumption) | assumption); obtain ⟨ad363, A363_1, c363_1, e363, hx363_0, hx363_1, hx363_2, hx363_3, hl363_1, hi363_1⟩ := at_T41 HR0.out x5_1 p363 q363; obtain rfl : ad358 = ad363 := (by injection e363); replace hx363_0 := (HB.out.cell (World.block_lt_of_cell? w _ hx363_0)).trans hx363_0; replace hx363_1 := (HB.out.cell (World.block_lt_of_cell? w _ hx363_1)).trans hx363_1; replace hx363_2 := (HB.out.cell (World.block_lt_of_cell? w _ hx363_2)).trans hx363_2; replace hx363_3 := (HB.out.cell (World.block_lt_of_cell? w _ hx363_3)).trans hx363_3; have HR363_1 := Aside0.mk hi363_1; have HC363_1 := Aside0.mk hl363_1; clear hi363_1 hl363_1; replace p363 := eq_true p363; replace q363 := eq_true q363; have ea_ := Option.some.inj (hx360_1.symm.trans hx363_1); injection ea_ with ea_ en_ ec_; subst ea_; subst ec_; clear en_))
         go_roundg k1
         case measure => have := HK1.out; omega
         case rel => exact ⟨(wrap64 ((wrap64 (t361 + 1)) + 1)), (wrap64 (x5_1 + 1)), (by first | rfl | (simp; done) | (simp [*]; done)), (by first | rfl | (simp; done) | (simp [*]; done)), H', ⟨by have := HK1.out; omega⟩, ⟨qb HB⟩⟩
        ·rw [if_neg c12] at H; have c12b0 : (((rd_T41 l0 x5_1).f3) == (wrap64 (t361 + 1))) = false := beq_eq_false_iff_ne.mpr c12; have c12b1 : (((rd_T41 l0 x5_1).f3) != (wrap64 (t361 + 1))) = true := bne_iff_ne.mpr c12; obtain rfl := Option.some.inj H
         try go_wp2
         have n0_ := Aside0.mk (below_drew1 HB.out); clear HB; have HB := n0_; clear n0_; have p358 : 0 ≤ (x5_1 : Int) := of_decide_eq_true (by first | (with_reducible assumption) | assumption); have q358 : x5_1 < (l0.length : Int) := of_decide_eq_true (by first | (with_reducible assumption) | assumption); obtain ⟨ad358, A358_1, c358_1, e358, hx358_0, hx358_1, hx358_2, hx358_3, hl358_1, hi358_1⟩ := at_T41 HR0.out x5_1 p358 q358; have hw358_3 := hx358_3; have hw358_2 := hx358_2; have hw358_1 := hx358_1; have hw358_0 := hx358_0
         cases e358
         replace hx358_0 := (HB.out.cell (World.block_lt_of_cell? w _ hx358_0)).trans hx358_0; replace hx358_1 := (HB.out.cell (World.block_lt_of_cell? w _ hx358_1)).trans hx358_1; replace hx358_2 := (HB.out.cell (World.block_lt_of_cell? w _ hx358_2)).trans hx358_2; replace hx358_3 := (HB.out.cell (World.block_lt_of_cell? w _ hx358_3)).trans hx358_3; have HR358_1 := Aside0.mk hi358_1; have HC358_1 := Aside0.mk hl358_1; clear hi358_1 hl358_1; replace p358 := eq_true p358; replace q358 := eq_true q358; refine start_ (n := 8) (S := fun w' => w'.cell? (ad358.add ((x5_1).toNat * 4)) = some (.string ((rd_T41 l0 x5_1).f0)) ∧ w'.cell? ⟨(ad358.add ((x5_1).toNat * 4)).block, (ad358.add ((x5_1).toNat * 4)).off + 1, none⟩ = some (.slice A358_1 ((rd_T41 l0 x5_1).f1).length c358_1) ∧ w'.cell? ⟨(ad358.add ((x5_1).toNat * 4)).block, (ad358.add ((x5_1).toNat * 4)).off + 2, none⟩ = some (.int .i64 ((rd_T41 l0 x5_1).f2)) ∧ w'.cell? ⟨(ad358.add ((x5_1).toNat * 4)).block, (ad358.add ((x5_1).toNat * 4)).off + 3, none⟩ = some (.int .i64 ((rd_T41 l0 x5_1).f3))) (ds := []) (rl_ true [0, 8]).toArray (by kernel_rfl) rfl rfl ⟨((HB.out.cell (World.block_lt_of_cell? w _ hw358_0)).trans hw358_0), ((HB.out.cell (World.block_lt_of_cell? w _ hw358_1)).trans hw358_1), ((HB.out.cell (World.block_lt_of_cell? w _ hw358_2)).trans hw358_2), ((HB.out.cell (World.block_lt_of_cell? w _ hw358_3)).trans hw358_3)⟩ (fun hHeld => ?_); refine with_tabW laws_heldClauseS.tab4 laws_heldClauseS.bits4 (fun HT_ HW_ => ?_); generalize wr.drew = w15 at HB HR358_1 hx358_0 hx358_1 hx358_2 hx358_3 hHeld ⊢; refine pure_ (i := 0) (N := some 12) (v := ?_) (a' := ?_) (rl_ true [1, 7]).toArray rfl rfl (any_of HT_.out (by kernel_rfl)) (fun _ _ _ h => h) (Or.inl ⟨by rfl, ?_⟩) ?_ ?_; rotate_left
         ·intro w'; go_simp; (with_reducible rfl)
         rotate_left
         ·simp only [Act.put, sA, s0, sS, i64_w, i32_w]; rfl
         refine pure_ (i := 1) (N := some 13) (v := ?_) (a' := ?_) (rl_ true [2, 6]).toArray rfl rfl (any_of HT_.out (by kernel_rfl)) (fun _ _ _ h => h) (Or.inl ⟨by rfl, ?_⟩) ?_ ?_; rotate_left
         ·intro w'; go_simp; (with_reducible rfl)
         rotate_left
         ·simp only [Act.put, sA, s0, sS, i64_w, i32_w]; rfl
         refine pure_ (i := 2) (N := some 14) (v := ?_) (a' := ?_) (rl_ true [3, 5]).toArray rfl rfl (any_of HT_.out (by kernel_rfl)) (fun _ _ _ h => h) (Or.inl ⟨by rfl, ?_⟩) ?_ ?_; rotate_left
         ·intro w'; go_simp; (with_reducible rfl)
         rotate_left
         ·simp only [Act.put, sA, s0, sS, i64_w, i32_w]; rfl
         refine pure_ (i := 3) (N := some 15) (v := ?_) (a' := ?_) (rl_ true [4, 4]).toArray rfl rfl (any_of HT_.out (by kernel_rfl)) (fun _ _ _ h => h) (Or.inl ⟨by rfl, ?_⟩) ?_ ?_; rotate_left
         ·intro w'; go_simp; (with_reducible rfl)
         rotate_left
         ·simp only [Act.put, sA, s0, sS, i64_w, i32_w]; rfl
         refine pure_ (i := 5) (N := some 17) (v := ?_) (a' := ?_) (rl_ true [4, 1, 1, 2]).toArray rfl rfl (any_of HT_.out (by kernel_rfl)) (fun _ _ _ h => h) (Or.inl ⟨by rfl, ?_⟩) ?_ ?_; rotate_left
         ·intro w'; go_simp; (with_reducible rfl)
         rotate_left
         ·simp only [Act.put, sA, s0, sS, i64_w, i32_w]; rfl
         refine take_ (i := 4) (N := some 16) (v := ?_) (a' := ?_) (rl_ true [6, 2]).toArray rfl rfl (take_ofW HT_.out HW_.out (by kernel_rfl)) (fun _ _ _ h => h) (Or.inl ⟨by rfl, ?_⟩) hHeld ?_ ?_; rotate_left
         ·rintro w' ⟨s0, s1, s2, s3⟩; go_simp; (with_reducible rfl)
         rotate_left
         ·simp only [Act.put, sA, s0, sS, i64_w, i32_w]; rfl
         refine one_ (i := 6) (N := some 18) (rl_ true [7, 1]).toArray rfl rfl (one_of HT_.out (by kernel_rfl)) (by decide) (fun K hK => ?_); refine goes_ Tryz.func26 (by kernel_rfl) rfl #[.int .i64 x1_1] (by rfl) rfl rfl mq ?_; (with_reducible refine (laws_markText.calls k1 x1_1 t359 _ A5.out).mono ?_); rintro e w16 ⟨rfl, hb⟩; refine ⟨_, rfl, ?_⟩; have n0_ := Aside0.mk (below_step (qb HB) hb); clear HB; have HB := n0_; clear n0_; (try clear hb); (try clear hb2); (try clear hk); (try clear hi); refine hK.out _ _ ⟨((HB.out.cell (World.block_lt_of_cell? w _ hw358_0)).trans hw358_0), ((HB.out.cell (World.block_lt_of_cell? w _ hw358_1)).trans hw358_1), ((HB.out.cell (World.block_lt_of_cell? w _ hw358_2)).trans hw358_2), ((HB.out.cell (World.block_lt_of_cell? w _ hw358_3)).trans hw358_3)⟩ (fun hHeld => ?_); clear hK K; refine norm_ (a' := ?_) ?_ ?_; rotate_left
         ·show Act.put _ (some 18) _ = _; simp only [Act.put, sA, s0, sS, i64_w, i32_w]; rfl
         refine pure_ (i := 7) (N := some 19) (v := ?_) (a' := ?_) (rl_ true [8]).toArray rfl rfl (any_of HT_.out (by kernel_rfl)) (fun _ _ _ h => h) (Or.inl ⟨by rfl, ?_⟩) ?_ ?_; rotate_left
         ·intro w'; go_simp; (with_reducible rfl)
         rotate_left
         ·simp only [Act.put, sA, s0, sS, i64_w, i32_w]; rfl
         refine done_ (done_of HT_.out (by kernel_rfl)) ?_; (try clear hHeld); have p360 : 0 ≤ (x5_1 : Int) := of_decide_eq_true (by first | (with_reducible assumption) | assumption); have q360 : x5_1 < (l0.length : Int) := of_decide_eq_true (by first | (with_reducible assumption) | assumption); obtain ⟨ad360, A360_1, c360_1, e360, hx360_0, hx360_1, hx360_2, hx360_3, hl360_1, hi360_1⟩ := at_T41 HR0.out x5_1 p360 q360; obtain rfl : ad358 = ad360 := (by injection e360); replace hx360_0 := (HB.out.cell (World.block_lt_of_cell? w _ hx360_0)).trans hx360_0; replace hx360_1 := (HB.out.cell (World.block_lt_of_cell? w _ hx360_1)).trans hx360_1; replace hx360_2 := (HB.out.cell (World.block_lt_of_cell? w _ hx360_2)).trans hx360_2; replace hx360_3 := (HB.out.cell (World.block_lt_of_cell? w _ hx360_3)).trans hx360_3; have HR360_1 := Aside0.mk hi360_1; have HC360_1 := Aside0.mk hl360_1; clear hi360_1 hl360_1; replace p360 := eq_true p360; replace q360 := eq_true q360
         try go_wp2_with (first | ((with_reducible refine gate_callee (f := 28) rfl ?_); refine goesL_ (some 28) rfl rfl Tryz.func28 (by kernel_rfl) rfl #[.slice A360_1 ((rd_T41 l0 x5_1).f1).length c360_1, .int .i64 (wrap64 (x1_1 + 1))] rfl mq ?_; (with_reducible refine (laws_heldTermS.calls k1 _ _ ((rd_T41 l0 x5_1).f1) (wrap64 (x1_1 + 1)) t361 _ ?side1 ?side2 A7.out).mono ?_); (case side1 => repeat (first | exact (Kd.C_below HR360_1.out HB.out) | (with_reducible refine Kd.C_alloc ?_ _) | (with_reducible refine Kd.C_drewN ?_ _) | (with_reducible refine Kd.C_drew ?_))); (case side2 => exact HC360_1.out); rintro e w' ⟨rfl, ⟨nd, rfl⟩⟩; refine ⟨_, rfl, ?_⟩; have p362 : 0 ≤ (x5_1 : Int) := of_decide_eq_true (by first | (with_reducible assumption) | assumption); have q362 : x5_1 < (l0.length : Int) := of_decide_eq_true (by first | (with_reducible assumption) | assumption); obtain ⟨ad362, A362_1, c362_1, e362, hx362_0, hx362_1, hx362_2, hx362_3, hl362_1, hi362_1⟩ := at_T41 HR0.out x5_1 p362 q362; obtain rfl : ad358 = ad362 := (by injection e362); replace hx362_0 := (HB.out.cell (World.block_lt_of_cell? w _ hx362_0)).trans hx362_0; replace hx362_1 := (HB.out.cell (World.block_lt_of_cell? w _ hx362_1)).trans hx362_1; replace hx362_2 := (HB.out.cell (World.block_lt_of_cell? w _ hx362_2)).trans hx362_2; replace hx362_3 := (HB.out.cell (World.block_lt_of_cell? w _ hx362_3)).trans hx362_3; have HR362_1 := Aside0.mk hi362_1; have HC362_1 := Aside0.mk hl362_1; clear hi362_1 hl362_1; replace p362 := eq_true p362; replace q362 := eq_true q362; have ea_ := Option.some.inj (hx360_1.symm.trans hx362_1); injection ea_ with ea_ en_ ec_; subst ea_; subst ec_; clear en_; have p363 : 0 ≤ (x5_1 : Int) := of_decide_eq_true (by first | (with_reducible assumption) | assumption); have q363 : x5_1 < (l0.length : Int) := of_decide_eq_true (by first | (with_reducible assumption) | assumption); obtain ⟨ad363, A363_1, c363_1, e363, hx363_0, hx363_1, hx363_2, hx363_3, hl363_1, hi363_1⟩ := at_T41 HR0.out x5_1 p363 q363; obtain rfl : ad358 = ad363 := (by injection e363); replace hx363_0 := (HB.out.cell (World.block_lt_of_cell? w _ hx363_0)).trans hx363_0; replace hx363_1 := (HB.out.cell (World.block_lt_of_cell? w _ hx363_1)).trans hx363_1; replace hx363_2 := (HB.out.cell (World.block_lt_of_cell? w _ hx363_2)).trans hx363_2; replace hx363_3 := (HB.out.cell (World.block_lt_of_cell? w _ hx363_3)).trans hx363_3; have HR363_1 := Aside0.mk hi363_1; have HC363_1 := Aside0.mk hl363_1; clear hi363_1 hl363_1; replace p363 := eq_true p363; replace q363 := eq_true q363; have ea_ := Option.some.inj (hx360_1.symm.trans hx363_1); injection ea_ with ea_ en_ ec_; subst ea_; subst ec_; clear en_))
         go_ret; exact ⟨eqq, qb HB⟩
       ·rw [if_neg c11] at H; have c11b0 : (((rd_T41 l0 x5_1).f2) == t361) = false := beq_eq_false_iff_ne.mpr c11; have c11b1 : (((rd_T41 l0 x5_1).f2) != t361) = true := bne_iff_ne.mpr c11; obtain rfl := Option.some.inj H
        try go_wp2
        have n0_ := Aside0.mk (below_drew1 HB.out); clear HB; have HB := n0_; clear n0_; have p358 : 0 ≤ (x5_1 : Int) := of_decide_eq_true (by first | (with_reducible assumption) | assumption); have q358 : x5_1 < (l0.length : Int) := of_decide_eq_true (by first | (with_reducible assumption) | assumption); obtain ⟨ad358, A358_1, c358_1, e358, hx358_0, hx358_1, hx358_2, hx358_3, hl358_1, hi358_1⟩ := at_T41 HR0.out x5_1 p358 q358; have hw358_3 := hx358_3; have hw358_2 := hx358_2; have hw358_1 := hx358_1; have hw358_0 := hx358_0
        cases e358
        replace hx358_0 := (HB.out.cell (World.block_lt_of_cell? w _ hx358_0)).trans hx358_0; replace hx358_1 := (HB.out.cell (World.block_lt_of_cell? w _ hx358_1)).trans hx358_1; replace hx358_2 := (HB.out.cell (World.block_lt_of_cell? w _ hx358_2)).trans hx358_2; replace hx358_3 := (HB.out.cell (World.block_lt_of_cell? w _ hx358_3)).trans hx358_3; have HR358_1 := Aside0.mk hi358_1; have HC358_1 := Aside0.mk hl358_1; clear hi358_1 hl358_1; replace p358 := eq_true p358; replace q358 := eq_true q358; refine start_ (n := 8) (S := fun w' => w'.cell? (ad358.add ((x5_1).toNat * 4)) = some (.string ((rd_T41 l0 x5_1).f0)) ∧ w'.cell? ⟨(ad358.add ((x5_1).toNat * 4)).block, (ad358.add ((x5_1).toNat * 4)).off + 1, none⟩ = some (.slice A358_1 ((rd_T41 l0 x5_1).f1).length c358_1) ∧ w'.cell? ⟨(ad358.add ((x5_1).toNat * 4)).block, (ad358.add ((x5_1).toNat * 4)).off + 2, none⟩ = some (.int .i64 ((rd_T41 l0 x5_1).f2)) ∧ w'.cell? ⟨(ad358.add ((x5_1).toNat * 4)).block, (ad358.add ((x5_1).toNat * 4)).off + 3, none⟩ = some (.int .i64 ((rd_T41 l0 x5_1).f3))) (ds := []) (rl_ true [0, 8]).toArray (by kernel_rfl) rfl rfl ⟨((HB.out.cell (World.block_lt_of_cell? w _ hw358_0)).trans hw358_0), ((HB.out.cell (World.block_lt_of_cell? w _ hw358_1)).trans hw358_1), ((HB.out.cell (World.block_lt_of_cell? w _ hw358_2)).trans hw358_2), ((HB.out.cell (World.block_lt_of_cell? w _ hw358_3)).trans hw358_3)⟩ (fun hHeld => ?_); refine with_tabW laws_heldClauseS.tab4 laws_heldClauseS.bits4 (fun HT_ HW_ => ?_); generalize wr.drew = w17 at HB HR358_1 hx358_0 hx358_1 hx358_2 hx358_3 hHeld ⊢; refine pure_ (i := 0) (N := some 12) (v := ?_) (a' := ?_) (rl_ true [1, 7]).toArray rfl rfl (any_of HT_.out (by kernel_rfl)) (fun _ _ _ h => h) (Or.inl ⟨by rfl, ?_⟩) ?_ ?_; rotate_left
        ·intro w'; go_simp; (with_reducible rfl)
        rotate_left
        ·simp only [Act.put, sA, s0, sS, i64_w, i32_w]; rfl
        refine pure_ (i := 1) (N := some 13) (v := ?_) (a' := ?_) (rl_ true [2, 6]).toArray rfl rfl (any_of HT_.out (by kernel_rfl)) (fun _ _ _ h => h) (Or.inl ⟨by rfl, ?_⟩) ?_ ?_; rotate_left
        ·intro w'; go_simp; (with_reducible rfl)
        rotate_left
        ·simp only [Act.put, sA, s0, sS, i64_w, i32_w]; rfl
        refine pure_ (i := 2) (N := some 14) (v := ?_) (a' := ?_) (rl_ true [3, 5]).toArray rfl rfl (any_of HT_.out (by kernel_rfl)) (fun _ _ _ h => h) (Or.inl ⟨by rfl, ?_⟩) ?_ ?_; rotate_left
        ·intro w'; go_simp; (with_reducible rfl)
        rotate_left
        ·simp only [Act.put, sA, s0, sS, i64_w, i32_w]; rfl
        refine pure_ (i := 3) (N := some 15) (v := ?_) (a' := ?_) (rl_ true [4, 4]).toArray rfl rfl (any_of HT_.out (by kernel_rfl)) (fun _ _ _ h => h) (Or.inl ⟨by rfl, ?_⟩) ?_ ?_; rotate_left
        ·intro w'; go_simp; (with_reducible rfl)
        rotate_left
        ·simp only [Act.put, sA, s0, sS, i64_w, i32_w]; rfl
        refine pure_ (i := 5) (N := some 17) (v := ?_) (a' := ?_) (rl_ true [4, 1, 1, 2]).toArray rfl rfl (any_of HT_.out (by kernel_rfl)) (fun _ _ _ h => h) (Or.inl ⟨by rfl, ?_⟩) ?_ ?_; rotate_left
        ·intro w'; go_simp; (with_reducible rfl)
        rotate_left
        ·simp only [Act.put, sA, s0, sS, i64_w, i32_w]; rfl
        refine take_ (i := 4) (N := some 16) (v := ?_) (a' := ?_) (rl_ true [6, 2]).toArray rfl rfl (take_ofW HT_.out HW_.out (by kernel_rfl)) (fun _ _ _ h => h) (Or.inl ⟨by rfl, ?_⟩) hHeld ?_ ?_; rotate_left
        ·rintro w' ⟨s0, s1, s2, s3⟩; go_simp; (with_reducible rfl)
        rotate_left
        ·simp only [Act.put, sA, s0, sS, i64_w, i32_w]; rfl
        refine one_ (i := 6) (N := some 18) (rl_ true [7, 1]).toArray rfl rfl (one_of HT_.out (by kernel_rfl)) (by decide) (fun K hK => ?_); refine goes_ Tryz.func26 (by kernel_rfl) rfl #[.int .i64 x1_1] (by rfl) rfl rfl mq ?_; (with_reducible refine (laws_markText.calls k1 x1_1 t359 _ A5.out).mono ?_); rintro e w18 ⟨rfl, hb⟩; refine ⟨_, rfl, ?_⟩; have n0_ := Aside0.mk (below_step (qb HB) hb); clear HB; have HB := n0_; clear n0_; (try clear hb); (try clear hb2); (try clear hk); (try clear hi); refine hK.out _ _ ⟨((HB.out.cell (World.block_lt_of_cell? w _ hw358_0)).trans hw358_0), ((HB.out.cell (World.block_lt_of_cell? w _ hw358_1)).trans hw358_1), ((HB.out.cell (World.block_lt_of_cell? w _ hw358_2)).trans hw358_2), ((HB.out.cell (World.block_lt_of_cell? w _ hw358_3)).trans hw358_3)⟩ (fun hHeld => ?_); clear hK K; refine norm_ (a' := ?_) ?_ ?_; rotate_left
        ·show Act.put _ (some 18) _ = _; simp only [Act.put, sA, s0, sS, i64_w, i32_w]; rfl
        refine pure_ (i := 7) (N := some 19) (v := ?_) (a' := ?_) (rl_ true [8]).toArray rfl rfl (any_of HT_.out (by kernel_rfl)) (fun _ _ _ h => h) (Or.inl ⟨by rfl, ?_⟩) ?_ ?_; rotate_left
        ·intro w'; go_simp; (with_reducible rfl)
        rotate_left
        ·simp only [Act.put, sA, s0, sS, i64_w, i32_w]; rfl
        refine done_ (done_of HT_.out (by kernel_rfl)) ?_; (try clear hHeld); have p360 : 0 ≤ (x5_1 : Int) := of_decide_eq_true (by first | (with_reducible assumption) | assumption); have q360 : x5_1 < (l0.length : Int) := of_decide_eq_true (by first | (with_reducible assumption) | assumption); obtain ⟨ad360, A360_1, c360_1, e360, hx360_0, hx360_1, hx360_2, hx360_3, hl360_1, hi360_1⟩ := at_T41 HR0.out x5_1 p360 q360; obtain rfl : ad358 = ad360 := (by injection e360); replace hx360_0 := (HB.out.cell (World.block_lt_of_cell? w _ hx360_0)).trans hx360_0; replace hx360_1 := (HB.out.cell (World.block_lt_of_cell? w _ hx360_1)).trans hx360_1; replace hx360_2 := (HB.out.cell (World.block_lt_of_cell? w _ hx360_2)).trans hx360_2; replace hx360_3 := (HB.out.cell (World.block_lt_of_cell? w _ hx360_3)).trans hx360_3; have HR360_1 := Aside0.mk hi360_1; have HC360_1 := Aside0.mk hl360_1; clear hi360_1 hl360_1; replace p360 := eq_true p360; replace q360 := eq_true q360
        try go_wp2_with (first | ((with_reducible refine gate_callee (f := 28) rfl ?_); refine goesL_ (some 28) rfl rfl Tryz.func28 (by kernel_rfl) rfl #[.slice A360_1 ((rd_T41 l0 x5_1).f1).length c360_1, .int .i64 (wrap64 (x1_1 + 1))] rfl mq ?_; (with_reducible refine (laws_heldTermS.calls k1 _ _ ((rd_T41 l0 x5_1).f1) (wrap64 (x1_1 + 1)) t361 _ ?side1 ?side2 A7.out).mono ?_); (case side1 => repeat (first | exact (Kd.C_below HR360_1.out HB.out) | (with_reducible refine Kd.C_alloc ?_ _) | (with_reducible refine Kd.C_drewN ?_ _) | (with_reducible refine Kd.C_drew ?_))); (case side2 => exact HC360_1.out); rintro e w' ⟨rfl, ⟨nd, rfl⟩⟩; refine ⟨_, rfl, ?_⟩; have p362 : 0 ≤ (x5_1 : Int) := of_decide_eq_true (by first | (with_reducible assumption) | assumption); have q362 : x5_1 < (l0.length : Int) := of_decide_eq_true (by first | (with_reducible assumption) | assumption); obtain ⟨ad362, A362_1, c362_1, e362, hx362_0, hx362_1, hx362_2, hx362_3, hl362_1, hi362_1⟩ := at_T41 HR0.out x5_1 p362 q362; obtain rfl : ad358 = ad362 := (by injection e362); replace hx362_0 := (HB.out.cell (World.block_lt_of_cell? w _ hx362_0)).trans hx362_0; replace hx362_1 := (HB.out.cell (World.block_lt_of_cell? w _ hx362_1)).trans hx362_1; replace hx362_2 := (HB.out.cell (World.block_lt_of_cell? w _ hx362_2)).trans hx362_2; replace hx362_3 := (HB.out.cell (World.block_lt_of_cell? w _ hx362_3)).trans hx362_3; have HR362_1 := Aside0.mk hi362_1; have HC362_1 := Aside0.mk hl362_1; clear hi362_1 hl362_1; replace p362 := eq_true p362; replace q362 := eq_true q362; have ea_ := Option.some.inj (hx360_1.symm.trans hx362_1); injection ea_ with ea_ en_ ec_; subst ea_; subst ec_; clear en_))
        go_ret; exact ⟨eqq, qb HB⟩
     ·rw [if_neg c6] at H; have c6b0 : (((rd_T41 l0 x5_1).f0).toList == t359.toList) = false := beq_eq_false_iff_ne.mpr c6; have c6b1 : (((rd_T41 l0 x5_1).f0).toList != t359.toList) = true := bne_iff_ne.mpr c6; obtain rfl := Option.some.inj H
      try go_wp2
      have n0_ := Aside0.mk (below_drew1 HB.out); clear HB; have HB := n0_; clear n0_; have p358 : 0 ≤ (x5_1 : Int) := of_decide_eq_true (by first | (with_reducible assumption) | assumption); have q358 : x5_1 < (l0.length : Int) := of_decide_eq_true (by first | (with_reducible assumption) | assumption); obtain ⟨ad358, A358_1, c358_1, e358, hx358_0, hx358_1, hx358_2, hx358_3, hl358_1, hi358_1⟩ := at_T41 HR0.out x5_1 p358 q358; have hw358_3 := hx358_3; have hw358_2 := hx358_2; have hw358_1 := hx358_1; have hw358_0 := hx358_0
      cases e358
      replace hx358_0 := (HB.out.cell (World.block_lt_of_cell? w _ hx358_0)).trans hx358_0; replace hx358_1 := (HB.out.cell (World.block_lt_of_cell? w _ hx358_1)).trans hx358_1; replace hx358_2 := (HB.out.cell (World.block_lt_of_cell? w _ hx358_2)).trans hx358_2; replace hx358_3 := (HB.out.cell (World.block_lt_of_cell? w _ hx358_3)).trans hx358_3; have HR358_1 := Aside0.mk hi358_1; have HC358_1 := Aside0.mk hl358_1; clear hi358_1 hl358_1; replace p358 := eq_true p358; replace q358 := eq_true q358; refine start_ (n := 8) (S := fun w' => w'.cell? (ad358.add ((x5_1).toNat * 4)) = some (.string ((rd_T41 l0 x5_1).f0)) ∧ w'.cell? ⟨(ad358.add ((x5_1).toNat * 4)).block, (ad358.add ((x5_1).toNat * 4)).off + 1, none⟩ = some (.slice A358_1 ((rd_T41 l0 x5_1).f1).length c358_1) ∧ w'.cell? ⟨(ad358.add ((x5_1).toNat * 4)).block, (ad358.add ((x5_1).toNat * 4)).off + 2, none⟩ = some (.int .i64 ((rd_T41 l0 x5_1).f2)) ∧ w'.cell? ⟨(ad358.add ((x5_1).toNat * 4)).block, (ad358.add ((x5_1).toNat * 4)).off + 3, none⟩ = some (.int .i64 ((rd_T41 l0 x5_1).f3))) (ds := []) (rl_ true [0, 8]).toArray (by kernel_rfl) rfl rfl ⟨((HB.out.cell (World.block_lt_of_cell? w _ hw358_0)).trans hw358_0), ((HB.out.cell (World.block_lt_of_cell? w _ hw358_1)).trans hw358_1), ((HB.out.cell (World.block_lt_of_cell? w _ hw358_2)).trans hw358_2), ((HB.out.cell (World.block_lt_of_cell? w _ hw358_3)).trans hw358_3)⟩ (fun hHeld => ?_); refine with_tabW laws_heldClauseS.tab4 laws_heldClauseS.bits4 (fun HT_ HW_ => ?_); generalize wr.drew = w19 at HB HR358_1 hx358_0 hx358_1 hx358_2 hx358_3 hHeld ⊢; refine pure_ (i := 0) (N := some 12) (v := ?_) (a' := ?_) (rl_ true [1, 7]).toArray rfl rfl (any_of HT_.out (by kernel_rfl)) (fun _ _ _ h => h) (Or.inl ⟨by rfl, ?_⟩) ?_ ?_; rotate_left
      ·intro w'; go_simp; (with_reducible rfl)
      rotate_left
      ·simp only [Act.put, sA, s0, sS, i64_w, i32_w]; rfl
      refine pure_ (i := 1) (N := some 13) (v := ?_) (a' := ?_) (rl_ true [2, 6]).toArray rfl rfl (any_of HT_.out (by kernel_rfl)) (fun _ _ _ h => h) (Or.inl ⟨by rfl, ?_⟩) ?_ ?_; rotate_left
      ·intro w'; go_simp; (with_reducible rfl)
      rotate_left
      ·simp only [Act.put, sA, s0, sS, i64_w, i32_w]; rfl
      refine pure_ (i := 2) (N := some 14) (v := ?_) (a' := ?_) (rl_ true [3, 5]).toArray rfl rfl (any_of HT_.out (by kernel_rfl)) (fun _ _ _ h => h) (Or.inl ⟨by rfl, ?_⟩) ?_ ?_; rotate_left
      ·intro w'; go_simp; (with_reducible rfl)
      rotate_left
      ·simp only [Act.put, sA, s0, sS, i64_w, i32_w]; rfl
      refine pure_ (i := 3) (N := some 15) (v := ?_) (a' := ?_) (rl_ true [4, 4]).toArray rfl rfl (any_of HT_.out (by kernel_rfl)) (fun _ _ _ h => h) (Or.inl ⟨by rfl, ?_⟩) ?_ ?_; rotate_left
      ·intro w'; go_simp; (with_reducible rfl)
      rotate_left
      ·simp only [Act.put, sA, s0, sS, i64_w, i32_w]; rfl
      refine pure_ (i := 5) (N := some 17) (v := ?_) (a' := ?_) (rl_ true [4, 1, 1, 2]).toArray rfl rfl (any_of HT_.out (by kernel_rfl)) (fun _ _ _ h => h) (Or.inl ⟨by rfl, ?_⟩) ?_ ?_; rotate_left
      ·intro w'; go_simp; (with_reducible rfl)
      rotate_left
      ·simp only [Act.put, sA, s0, sS, i64_w, i32_w]; rfl
      refine take_ (i := 4) (N := some 16) (v := ?_) (a' := ?_) (rl_ true [6, 2]).toArray rfl rfl (take_ofW HT_.out HW_.out (by kernel_rfl)) (fun _ _ _ h => h) (Or.inl ⟨by rfl, ?_⟩) hHeld ?_ ?_; rotate_left
      ·rintro w' ⟨s0, s1, s2, s3⟩; go_simp; (with_reducible rfl)
      rotate_left
      ·simp only [Act.put, sA, s0, sS, i64_w, i32_w]; rfl
      refine one_ (i := 6) (N := some 18) (rl_ true [7, 1]).toArray rfl rfl (one_of HT_.out (by kernel_rfl)) (by decide) (fun K hK => ?_); refine goes_ Tryz.func26 (by kernel_rfl) rfl #[.int .i64 x1_1] (by rfl) rfl rfl mq ?_; (with_reducible refine (laws_markText.calls k1 x1_1 t359 _ A5.out).mono ?_); rintro e w20 ⟨rfl, hb⟩; refine ⟨_, rfl, ?_⟩; have n0_ := Aside0.mk (below_step (qb HB) hb); clear HB; have HB := n0_; clear n0_; (try clear hb); (try clear hb2); (try clear hk); (try clear hi); refine hK.out _ _ ⟨((HB.out.cell (World.block_lt_of_cell? w _ hw358_0)).trans hw358_0), ((HB.out.cell (World.block_lt_of_cell? w _ hw358_1)).trans hw358_1), ((HB.out.cell (World.block_lt_of_cell? w _ hw358_2)).trans hw358_2), ((HB.out.cell (World.block_lt_of_cell? w _ hw358_3)).trans hw358_3)⟩ (fun hHeld => ?_); clear hK K; refine norm_ (a' := ?_) ?_ ?_; rotate_left
      ·show Act.put _ (some 18) _ = _; simp only [Act.put, sA, s0, sS, i64_w, i32_w]; rfl
      refine pure_ (i := 7) (N := some 19) (v := ?_) (a' := ?_) (rl_ true [8]).toArray rfl rfl (any_of HT_.out (by kernel_rfl)) (fun _ _ _ h => h) (Or.inl ⟨by rfl, ?_⟩) ?_ ?_; rotate_left
      ·intro w'; go_simp; (with_reducible rfl)
      rotate_left
      ·simp only [Act.put, sA, s0, sS, i64_w, i32_w]; rfl
      refine done_ (done_of HT_.out (by kernel_rfl)) ?_
      try go_wp2
      go_ret; exact ⟨eqq, qb HB⟩
    ·rw [if_neg c4] at H; exact absurd H (by simp)
   ·rw [if_neg c3] at H; have c3b0 : decide (x5_1 < (l0.length : Int)) = false := decide_eq_false c3; clear c3; obtain rfl := Option.some.inj H; go_wp2; go_ret; exact ⟨eqq, qb HB⟩

/-! ### laws_FnExactReadRules: function 3, by hand (with laws.markClauseS, the marked row given back) -/
theorem mc_self {l : List S41} {i : Nat} (h : i < l.length) : l = l.set i (l.getD i z41) := by
 rw [List.getD_eq_getElem?_getD, List.getElem?_eq_getElem h, Option.getD_some, List.set_getElem_self]
theorem mc_set {W : World} {base g n cap : Nat} {P : Nat → Prop} {L l : List S41} (h : Kd.S k41 41 W base P (.slice (some ⟨g, 0, none⟩) n cap) l) (i : Int) (h0 : 0 ≤ i) (h1 : i < n) (hl : i.toNat < L.length) (x : S41) (e1 : l = L.set i.toNat x) (j : Nat) (u : Value) (x' : S41)
  (hx : j = 0 ∧ (∃ t, u = .string t ∧ x' = ⟨t, x.f1, x.f2, x.f3⟩) ∨ j = 2 ∧ (∃ t, u = .int .i64 t ∧ x' = ⟨x.f0, x.f1, t, x.f3⟩) ∨ j = 3 ∧ (∃ t, u = .int .i64 t ∧ x' = ⟨x.f0, x.f1, x.f2, t⟩)) :
  ∃ l' : List S41, l' = L.set i.toNat x' ∧ l'.getD i.toNat z41 = x' ∧ Kd.S k41 41 (W.setCell ⟨g, i.toNat * 4 + j, none⟩ u) base P (.slice (some ⟨g, 0, none⟩) n cap) l' ∧ W.grownBy (W.setCell ⟨g, i.toNat * 4 + j, none⟩ u) (some g) := by
 have e2 : l.getD i.toNat z41 = x := by rw [e1]; exact mc_get hl x
 have q := mc_put h i h0 h1 j u x' (by rw [e2]; exact hx); rw [e1, List.set_set] at q; exact ⟨_, rfl, mc_get hl x', q⟩
def laws_markClauseS.go2 (k : Nat) : List S41 → Int → Option (Int × List S41)
 | [], a => some (a, [])
 | x :: xs, a => (laws_markText.f k a).bind fun t => (laws_markTermS.f k x.f1 (wrap64 (a + 1))).bind fun q => (laws_markClauseS.go2 k xs (wrap64 (wrap64 (q.1 + 1) + 1))).bind fun z => some (z.1, ⟨t, q.2, q.1, wrap64 (q.1 + 1)⟩ :: z.2)
theorem laws_markClauseS.mono_g2 (k : Nat) : ∀ l a, LeO (laws_markClauseS.go2 k l a) (laws_markClauseS.go2 (k + 1) l a)
 | [], a => LeO.refl _
 | x :: xs, a => LeO.bind (laws_markText.mono _ k) (fun _ => LeO.bind (laws_markTermS.mono _ _ k) (fun t => LeO.bind (laws_markClauseS.mono_g2 k xs _) (fun _ => LeO.refl _)))
theorem mc_join {l : List S41} {i : Nat} (h : i < l.length) (x : S41) (r : List S41) : (l.set i x).take (i + 1) ++ r = l.take i ++ x :: r := by
 rw [List.take_succ_eq_append_getElem (by rw [List.length_set]; exact h), List.getElem_set_self, List.take_set_of_le (by omega), List.append_assoc]; rfl
set_option maxHeartbeats 8000000 in
set_option maxRecDepth 100000 in
theorem laws_markClauseS.back (k : Nat) (P : Nat → Prop) (u9000_ : Value) (l0 : List S41) (a1 : Int) (r1 : Int) (r2 : List S41) (w0 w : World) (hB : Below w0.heap.size w0 w) (ho : Kd.S k41 41 w w0.heap.size P u9000_ l0) (h : laws_markClauseS.go2 k l0 a1 = some (r1, r2)) :
  Calls Tryz.prog 8 #[u9000_, .int .i64 a1] w fun e w' => e = .returned (.int .i64 r1) ∧ Kd.S k41 41 w' w0.heap.size P u9000_ r2 ∧ Below w0.heap.size w0 w' := by
 obtain ⟨A, cc, rfl⟩ := Kd.S_slice ho; have hlen : l0.length ≤ 9223372036854775807 := (Kd.S_reads' ho).2.2.2.1; have HO := Aside0.mk ho; have HB := Aside0.mk hB; have H := Aside0.mk (show ∃ rest, laws_markClauseS.go2 k (l0.drop (0 : Int).toNat) a1 = some (r1, rest) ∧ l0.take (0 : Int).toNat ++ rest = r2 from ⟨r2, h, rfl⟩); clear ho hB h; go_enter Tryz.func8, Tryz.ntmps8; go_wp2
 go_loopg [1, 5] l0.length (fun gg s1 s5 wr => ∃ (x5 a : Int) (l : List S41), s1 = .int .i64 a ∧ s5 = .int .i64 x5 ∧ 0 ≤ x5 ∧ x5 ≤ l0.length ∧ l0.length - x5.toNat ≤ gg ∧ Aside0 (l.length = l0.length) ∧ Aside0 (∃ rest, laws_markClauseS.go2 k (l.drop x5.toNat) a = some (r1, rest) ∧ l.take x5.toNat ++ rest = r2) ∧ Aside0 (Kd.S k41 41 wr w0.heap.size P (.slice A l0.length cc) l) ∧ Aside0 (Below w0.heap.size w0 wr))
 case atStart => exact ⟨0, a1, l0, rfl, rfl, by omega, by omega, by simp, ⟨rfl⟩, H, HO, HB⟩
 case round =>
  clear H HO HB; obtain ⟨x5, a, l, rfl, rfl, h0, hle, hgg, HL, H, HO, HB⟩ := hrel; by_cases hlt : x5 < (l0.length : Int)
  ·have c3b0 : decide (x5 < (l0.length : Int)) = true := decide_eq_true hlt; have hl := HL.out; obtain ⟨g, cap, e, gb, gl, _⟩ := Kd.S_form HO.out (by omega); injection e with ea en ec; clear en; subst ea; subst ec; have GB := Aside0.mk gb
   have hil : x5.toNat < l.length := by omega
   obtain ⟨rest, hH, hJ⟩ := H.out; rw [List.drop_eq_getElem_cons hil] at hH; rw [laws_markClauseS.go2] at hH; obtain ⟨t, et, hH1⟩ := Option.bind_eq_some_iff.mp hH; obtain ⟨⟨q1, q2⟩, eq, hH2⟩ := Option.bind_eq_some_iff.mp hH1; obtain ⟨⟨z1_, z2_⟩, ez, hH3⟩ := Option.bind_eq_some_iff.mp hH2; obtain ⟨hz1, hz2⟩ := Prod.mk.inj (Option.some.inj hH3)
   have eg : l[x5.toNat].f1 = (l.getD x5.toNat z41).f1 := by rw [List.getD_eq_getElem?_getD, List.getElem?_eq_getElem hil]; rfl
   rw [eg] at eq; have ET := Aside0.mk et; have EQ := Aside0.mk eq; have HH := Aside0.mk (show laws_markClauseS.go2 k (l.drop (x5.toNat + 1)) (wrap64 (wrap64 (q1 + 1) + 1)) = some (r1, z2_) from by rw [← hz1]; exact ez); have HJ := Aside0.mk (show l.take x5.toNat ++ ⟨t, q2, q1, wrap64 (q1 + 1)⟩ :: z2_ = r2 from by rw [← hJ, ← hz2]); have NX := Aside0.mk (show wrap64 (x5 + 1) = x5 + 1 by unfold wrap64; omega); have HLT := Aside0.mk hlt; have HZ := Aside0.mk h0; have HIL := Aside0.mk hil; clear hH hH1 hH2 hH3 hz1 hz2 hJ ez H et eq eg gb gl hl; have HG := Aside0.mk hgg; have p5 := eq_true h0; have q5 := eq_true hlt; clear h0 hlt hle hgg hil
   go_wp2_with (first
    | ((with_reducible refine gate_callee (f := 26) rfl ?_); refine goesL_ (some 15) rfl rfl Tryz.func26 (by kernel_rfl) rfl #[.int .i64 a] rfl mq ?_; (with_reducible refine (laws_markText.calls k a t _ ET.out).mono ?_); rintro e w2 ⟨rfl, hb⟩; refine ⟨_, rfl, ?_⟩; have n0_ := Aside0.mk (Kd.S_below HO.out hb); have n1_ := Aside0.mk (below_step HB.out hb); clear HO HB hb; obtain ⟨_, _, _, _, _, hx0, _, _, _, hfx⟩ := mc_elem n0_.out x5 HZ.out HLT.out; have hf0 := hfx 0; clear hfx; (try simp only [Nat.add_zero] at hf0); obtain ⟨l1, z1, z2, z4, z5⟩ := mc_set n0_.out x5 HZ.out HLT.out HIL.out (l.getD x5.toNat z41) (mc_self HIL.out) 0 (.string t) ⟨t, (l.getD x5.toNat z41).f1, (l.getD x5.toNat z41).f2, (l.getD x5.toNat z41).f3⟩ (.inl ⟨rfl, t, rfl, rfl⟩); have Z1 := Aside0.mk z1; have Z2 := Aside0.mk z2; have Z4 := Aside0.mk z4; have Z5 := Aside0.mk z5; clear z1 z2 z4 z5)
    | ((with_reducible refine gate_store (t := 9) (p := 17) rfl ?_); refine store_event (t := 9) (p := 17) (v := ?vo_0) (w1 := (w2.setCell ⟨g, x5.toNat * 4, none⟩ (.string t))) ?hg ?ho ?hn ?hr ?_; (case ho => rfl); (case hg => rfl); (case hn => rfl); (case hr => first | (go_simp; done) | (go_simp; rfl)); intro w3 hw; have m0_ := Aside0.mk (show Kd.S k41 41 w3 w0.heap.size P _ l1 from by rw [hw]; exact Z4.out); have m1_ := Aside0.mk (show Below w0.heap.size w0 w3 from by rw [hw]; exact below_set n1_.out GB.out); clear hx0 hf0 Z4 Z5 n0_ n1_ hw; obtain ⟨v1, oki, ge, hh, hoki, _, hx1, _, _, _⟩ := mc_elem m0_.out x5 HZ.out HLT.out; rw [Z2.out] at ge; have GE := Aside0.mk ge; have HHo := Aside0.mk hh; clear ge hh hoki)
    | ((with_reducible refine gate_callee (f := 27) rfl ?_); refine goesL_ (some 26) rfl rfl Tryz.func27 (by kernel_rfl) rfl #[v1, .int .i64 (wrap64 (a + 1))] rfl mq ?_; (with_reducible refine (laws_markTermS.calls k (fun k_ => some k_ = v1.ownBlock) v1 _ (wrap64 (a + 1)) q1 q2 w0 _ m1_.out (Kd.R_tight rfl GE.out) EQ.out).mono ?_); rintro e w4 ⟨rfl, hy, hb, hk⟩; refine ⟨_, rfl, ?_⟩; obtain ⟨l2, y1, y2⟩ : ∃ l2 : List S41, l2 = l.set x5.toNat ⟨t, q2, (l.getD x5.toNat z41).f2, (l.getD x5.toNat z41).f3⟩ ∧ Kd.S k41 41 w4 w0.heap.size P (.slice (some ⟨g, 0, none⟩) l0.length cc) l2 := ⟨_, rfl, by have q := mc_back GE.out HHo.out hy hk; rw [Z2.out, Z1.out, List.set_set] at q; exact q⟩; have s0_ := Aside0.mk y2; have s1_ := Aside0.mk hb; clear y2 hy hb hk m0_ m1_ Z1 Z2 GE HHo hx1; obtain ⟨_, _, _, _, _, _, _, hx2, _, hfx⟩ := mc_elem s0_.out x5 HZ.out HLT.out; have hf2 := hfx 2; clear hfx; obtain ⟨l3, z1, z2, z4, z5⟩ := mc_set s0_.out x5 HZ.out HLT.out HIL.out ⟨t, q2, (l.getD x5.toNat z41).f2, (l.getD x5.toNat z41).f3⟩ y1 2 (.int .i64 q1) ⟨t, q2, q1, (l.getD x5.toNat z41).f3⟩ (.inr (.inl ⟨rfl, q1, rfl, rfl⟩)); have Z1 := Aside0.mk z1; have Z4 := Aside0.mk z4; have Z5 := Aside0.mk z5; clear y1 z1 z2 z4 z5)
    | ((with_reducible refine gate_store (t := 3) (p := 31) rfl ?_); refine store_event (t := 3) (p := 31) (v := ?vo_1) (w1 := (w4.setCell ⟨g, x5.toNat * 4 + 2, none⟩ (.int .i64 q1))) ?hg ?ho ?hn ?hr ?_; (case ho => rfl); (case hg => rfl); (case hn => rfl); (case hr => first | (go_simp; done) | (go_simp; rfl)); intro w5 hw; have t0_ := Aside0.mk (show Kd.S k41 41 w5 w0.heap.size P _ l3 from by rw [hw]; exact Z4.out); have t1_ := Aside0.mk (show Below w0.heap.size w0 w5 from by rw [hw]; exact below_set s1_.out GB.out); clear hx2 hf2 Z4 Z5 s0_ s1_ hw; obtain ⟨_, _, _, _, _, _, _, _, hx3, hfx⟩ := mc_elem t0_.out x5 HZ.out HLT.out; have hf3 := hfx 3; clear hfx; obtain ⟨l4, z1, z2, z4, z5⟩ := mc_set t0_.out x5 HZ.out HLT.out HIL.out ⟨t, q2, q1, (l.getD x5.toNat z41).f3⟩ Z1.out 3 (.int .i64 (wrap64 (q1 + 1))) ⟨t, q2, q1, wrap64 (q1 + 1)⟩ (.inr (.inr ⟨rfl, wrap64 (q1 + 1), rfl, rfl⟩)); have X1 := Aside0.mk z1; have Z4 := Aside0.mk z4; have Z5 := Aside0.mk z5; clear z1 z2 z4 z5 Z1)
    | ((with_reducible refine gate_store (t := 3) (p := 38) rfl ?_); refine store_event (t := 3) (p := 38) (v := ?vo_2) (w1 := (w5.setCell ⟨g, x5.toNat * 4 + 3, none⟩ (.int .i64 (wrap64 (q1 + 1))))) ?hg ?ho ?hn ?hr ?_; (case ho => rfl); (case hg => rfl); (case hn => rfl); (case hr => first | (go_simp; done) | (go_simp; rfl)); intro w6 hw; have HO := Aside0.mk (show Kd.S k41 41 w6 w0.heap.size P _ l4 from by rw [hw]; exact Z4.out); have HB := Aside0.mk (show Below w0.heap.size w0 w6 from by rw [hw]; exact below_set t1_.out GB.out); clear hx3 hf3 Z4 Z5 t0_ t1_ hw))
   go_roundg (l0.length - (x5.toNat + 1))
   case measure => have := HIL.out; have := HL.out; have := HG.out; omega
   case rel =>
    have hil := HIL.out
    exact ⟨x5 + 1, _, l4, rfl, by rw [NX.out], by have := HZ.out; omega, by have := HLT.out; omega, by have := HZ.out; omega, ⟨by rw [X1.out, List.length_set]; exact HL.out⟩, ⟨⟨z2_, by
     rw [show (x5 + 1).toNat = x5.toNat + 1 by have := HZ.out; omega, X1.out, List.drop_set_of_lt (by omega)]; exact HH.out, by
     rw [show (x5 + 1).toNat = x5.toNat + 1 by have := HZ.out; omega, X1.out, mc_join hil]; exact HJ.out⟩⟩, HO, HB⟩
  ·have c3b0 : decide (x5 < (l0.length : Int)) = false := decide_eq_false hlt; obtain ⟨rest, hH, hJ⟩ := H.out; rw [List.drop_eq_nil_of_le (by rw [HL.out]; omega), laws_markClauseS.go2] at hH; obtain ⟨hr, hn⟩ := Prod.mk.inj (Option.some.inj hH); rw [← hn, List.append_nil, List.take_of_length_le (by rw [HL.out]; omega)] at hJ; have HR := Aside0.mk hr; have HJ := Aside0.mk hJ; clear hH hr hn hJ hlt; go_wp2; go_ret; exact ⟨by rw [← HR.out]; rfl, by rw [← HJ.out]; exact HO.out, HB.out⟩
def laws_FnExactReadRules.f (k : Nat) (a0 : ByteArray) : Option Bool := if (a0.size : Int) > 1048576 then some true else
 (spec_ReadRules.f k a0).bind fun s => (impl_ReadRules.f k a0).bind fun g => (laws_eqClauseS.f k g.1 s.1).bind fun e => if e = true ∧ g.2.1 = s.2.1 ∧ g.2.2 = s.2.2 then
  (laws_markClauseS.go2 k g.1 1).bind fun m => (laws_heldClauseS.f k m.2 1).bind fun q => if 0 ≤ q ∧ q = m.1 then some true else none else none
theorem laws_FnExactReadRules.mono : ∀ a0 k, LeO (laws_FnExactReadRules.f k a0) (laws_FnExactReadRules.f (k + 1) a0) := fun a0 k =>
 LeO.ite (LeO.refl _) (LeO.bind (spec_ReadRules.mono a0 k) (fun _ => LeO.bind (impl_ReadRules.mono a0 k) (fun _ => LeO.bind (laws_eqClauseS.mono _ _ k) (fun _ => LeO.ite (LeO.bind (laws_markClauseS.mono_g2 k _ _) (fun _ => LeO.bind (laws_heldClauseS.mono _ _ k) (fun _ => LeO.refl _))) (LeO.refl _)))))
set_option maxHeartbeats 8000000 in
set_option maxRecDepth 100000 in
theorem laws_FnExactReadRules.calls (k : Nat) (a0 : ByteArray) (r : Bool) (w : World) (h : laws_FnExactReadRules.f k a0 = some r) (ht_ : Tabs w := by exact tabs) :
  Calls Tryz.prog 3 #[.string a0] w fun e w' => e = .returned (.bool r) ∧ Below w.heap.size w w' := by
 have HT0_ := Aside0.mk ht_; clear ht_; unfold laws_FnExactReadRules.f at h; go_enter Tryz.func3, Tryz.ntmps3; by_cases hs : (a0.size : Int) > 1048576
 ·rw [if_pos hs] at h; obtain rfl := Option.some.inj h; have hs2 : (1048576 : Int) < (a0.size : Int) := hs; clear h; go_wp2; go_ret; exact ⟨rfl, Below.refl _ w⟩
 rw [if_neg hs] at h; obtain ⟨⟨s1, s2, s3⟩, es, h⟩ := Option.bind_eq_some_iff.mp h; obtain ⟨⟨g1, g2, g3⟩, eg, h⟩ := Option.bind_eq_some_iff.mp h; obtain ⟨e, ee, h⟩ := Option.bind_eq_some_iff.mp h; have h2 : (if e = true ∧ g2 = s2 ∧ g3 = s3 then (laws_markClauseS.go2 k g1 1).bind fun m => (laws_heldClauseS.f k m.2 1).bind fun q => if 0 ≤ q ∧ q = m.1 then some true else none else none) = some r := h; clear h; by_cases hc : e = true ∧ g2 = s2 ∧ g3 = s3; rotate_left
 ·rw [if_neg hc] at h2; cases h2
 rw [if_pos hc] at h2; obtain ⟨rfl, rfl, rfl⟩ := hc; obtain ⟨⟨m1, m2⟩, em, h3⟩ := Option.bind_eq_some_iff.mp h2; obtain ⟨q, eq, h4⟩ := Option.bind_eq_some_iff.mp h3; have h5 : (if 0 ≤ q ∧ q = m1 then some true else none) = some r := h4; clear h2 h3 h4; by_cases hc : 0 ≤ q ∧ q = m1; rotate_left
 ·rw [if_neg hc] at h5; cases h5
 rw [if_pos hc] at h5; obtain ⟨hq0, rfl⟩ := hc; obtain rfl := Option.some.inj h5; clear h5; have ES := Aside0.mk es; have EG := Aside0.mk eg; have EE := Aside0.mk ee; have EM := Aside0.mk em; have EQ := Aside0.mk eq; have hs2 : ¬ (1048576 : Int) < (a0.size : Int) := hs
 have hq2 : ¬ q < 0 := by omega
 clear es eg ee em eq hs
 go_wp2_with fail
 refine (spec_ReadRules.calls k a0 s1 g2 g3 w ES.out).mono ?_; rintro e w1 ⟨v1, rfl, ho1, hb1⟩; obtain ⟨A1, c1, rfl⟩ := Kd.S_slice ho1; have HO1 := Aside0.mk ho1; have HB1 := Aside0.mk hb1; clear ho1 hb1
 go_wp2_with fail
 refine (impl_ReadRules.calls k a0 g1 g2 g3 w1 EG.out (Tabs.below HT0_.out HB1.out)).mono ?_; rintro e w2 ⟨v2, rfl, ho2, hb2⟩; obtain ⟨A2, c2, rfl⟩ := Kd.S_slice ho2; have HO2 := Aside0.mk ho2; have HB2 := Aside0.mk hb2; clear ho2 hb2
 go_wp2_with fail
 have r1 := Kd.S_reads' HO1.out; have r2 := Kd.S_reads' HO2.out; refine (laws_eqClauseS.calls k A2 c2 g1 A1 c1 s1 true w2 r2.2.2 r2.2.1 (Kd.C_below r1.2.2 HB2.out) r1.2.1 EE.out).mono ?_; rintro e w3 ⟨rfl, hb3⟩; have HO3 := Aside0.mk (Kd.S_below HO2.out hb3); have HB3 := Aside0.mk (below_trans HB2.out hb3); clear r1 r2 hb3 HO2 HB2
 go_wp2_with fail
 refine (laws_markClauseS.back k _ _ g1 1 q m2 w1 w3 HB3.out HO3.out EM.out).mono ?_; rintro e w4 ⟨rfl, ho4, hb4⟩; have HO4 := Aside0.mk ho4; have HB4 := Aside0.mk hb4; clear ho4 hb4 HO3 HB3; have HML := Aside0.mk (Kd.S_reads' HO4.out).1
 go_wp2_with fail
 have r4 := Kd.S_reads' HO4.out
 (try rw [HML.out])
 refine (laws_heldClauseS.calls k A2 c2 m2 1 q w4 r4.2.2 (by rw [← HML.out]; exact r4.2.1) EQ.out).mono ?_; rintro e w5 ⟨rfl, hb5⟩; have HO5 := Aside0.mk (Kd.S_below HO4.out hb5); have HB5 := Aside0.mk (below_trans HB4.out hb5); clear r4 hb5 HO4 HB4
 go_wp2_with fail
 refine (impl_ReadRules.calls k a0 g1 g2 g3 w5 EG.out (Tabs.below HT0_.out (below_trans HB1.out HB5.out))).mono ?_; rintro e w6 ⟨v6, rfl, ho6, hb6⟩; obtain ⟨A6, c6, rfl⟩ := Kd.S_slice ho6; have HO6 := Aside0.mk ho6; have HO7 := Aside0.mk (Kd.S_below HO5.out hb6); have HB6 := Aside0.mk (below_trans HB5.out hb6); clear ho6 hb6 HO5 HB5
 go_wp2_with fail
 have r1 := Kd.S_reads' HO1.out; have r6 := Kd.S_reads' HO6.out; refine (laws_eqClauseS.calls k A6 c6 g1 A1 c1 s1 true w6 r6.2.2 r6.2.1 (Kd.C_below r1.2.2 HB6.out) r1.2.1 EE.out).mono ?_; rintro e w7 ⟨rfl, hb7⟩; have HO8 := Aside0.mk (Kd.S_below HO7.out hb7); have HB7 := Aside0.mk (below_trans HB6.out hb7); clear r1 r6 hb7 HO6 HO7 HB6
 go_wp2_with fail
 have r8 := Kd.S_reads' HO8.out
 (try rw [HML.out])
 refine (laws_heldClauseS.calls k A2 c2 m2 1 q w7 r8.2.2 (by rw [← HML.out]; exact r8.2.1) EQ.out).mono ?_; rintro e w8 ⟨rfl, hb8⟩; have HB8 := Aside0.mk (below_trans HB1.out (below_trans HB7.out hb8)); clear r8 hb8; go_wp2; go_ret; exact ⟨rfl, HB8.out⟩

end Go.Proofs.YthhhmcijbplcoaaGreatDoor.PFnExactReadRules
