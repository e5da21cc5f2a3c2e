-- Written by wip/tools/hp.py over the kit's print (not by hand): functions and walks of All.
import Derived.Test.YtookjankaanhlaaPAllx0
import Derived.Test.YtookjankaanhlaaPAllx1
import Derived.Test.YtookjankaanhlaaPAllx6
namespace Go.Proofs.Ytookjankaanhlaa.PAll
open Go.RowKit Go.Proofs.YtookjankaanhlaaW.PrintWords Go.Proofs.YtookjankaanhlaaW.PrintLast Go.Proofs.YtookjankaanhlaaW.PrintMore
attribute [local go_sem] max2_int min2_int max_two min_two max_three min_three max_four min_four   -- for this text's walks alone
set_option linter.unusedVariables false
set_option linter.unusedSimpArgs false

/-! ### spec_l03Row: function 98 -/
def spec_l03Row.l0 : Nat → List (S111) → Int → ByteArray → Int → Int → Option (Int)
  | 0, _, _, _, _, _ => none
  | k + 1, x0, x1, x2, x3, x9 => if x9 < (x0.length : Int) then (if 0 ≤ x9 then (if ((rd_T111 x0 x9).f0) = x1 then (if ((rd_T111 x0 x9).f1).toList = x2.toList then (if ((rd_T111 x0 x9).f2) ≤ x3 then (if x3 < ((rd_T111 x0 x9).f3) then (some x9) else (spec_l03Row.l0 k x0 x1 x2 x3 (wrap64 (x9 + 1)))) else (spec_l03Row.l0 k x0 x1 x2 x3 (wrap64 (x9 + 1)))) else (spec_l03Row.l0 k x0 x1 x2 x3 (wrap64 (x9 + 1)))) else (spec_l03Row.l0 k x0 x1 x2 x3 (wrap64 (x9 + 1)))) else (none)) else (some (-1))
def spec_l03Row.f (k : Nat) (l0 : List (S111)) (a1 : Int) (a2 : ByteArray) (a3 : Int) : Option (Int) := spec_l03Row.l0 k l0 a1 a2 a3 0
theorem spec_l03Row.mono_l : ∀ k, (∀ y0 y1 y2 y3 y4, LeO (spec_l03Row.l0 k y0 y1 y2 y3 y4) (spec_l03Row.l0 (k + 1) y0 y1 y2 y3 y4))
  | 0 => fun _ _ _ _ _ r h => by simp [spec_l03Row.l0] at h
  | k + 1 => by
    have ih0 := spec_l03Row.mono_l k
    · intro y0 y1 y2 y3 y4
      unfold spec_l03Row.l0
      repeat' first
      | (with_reducible exact ih0 _ _ _ _ _)
      | (with_reducible exact LeO.refl _)
      | (with_reducible exact LeO.none _)
      | (with_reducible refine LeO.ite ?_ ?_)
      | (with_reducible refine LeO.bind ?_ (fun _ => ?_))
      | exact ih0 _ _ _ _ _
      | exact LeO.none _
      | refine LeO.ite ?_ ?_
      | refine LeO.bind ?_ (fun _ => ?_)
theorem spec_l03Row.mono : ∀ a0 a1 a2 a3 k, LeO (spec_l03Row.f k a0 a1 a2 a3) (spec_l03Row.f (k + 1) a0 a1 a2 a3) := by
  intro a0 a1 a2 a3 k
  have ih0 := spec_l03Row.mono_l k
  unfold spec_l03Row.f
  repeat' first
      | (with_reducible exact ih0 _ _ _ _ _)
      | (with_reducible exact LeO.refl _)
      | (with_reducible exact LeO.none _)
      | (with_reducible refine LeO.ite ?_ ?_)
      | (with_reducible refine LeO.bind ?_ (fun _ => ?_))
      | exact ih0 _ _ _ _ _
      | exact LeO.none _
      | refine LeO.ite ?_ ?_
      | refine LeO.bind ?_ (fun _ => ?_)
set_option maxHeartbeats 8000000 in
set_option maxRecDepth 100000 in
theorem spec_l03Row.calls (k : Nat) (A0 : Option Addr) (c0 : Nat) (l0 : List (S111)) (a1 : Int) (a2 : ByteArray) (a3 : Int) (r : Int) (w : World) (hr0 : Kd.C k111 w A0 l0.length l0) (hc0 : l0.length ≤ c0) (h : spec_l03Row.f k l0 a1 a2 a3 = some r) :
    Calls Try.prog 98 #[.slice A0 l0.length c0, .int .i64 a1, .string a2, .int .i64 a3] w fun e w' => e = .returned (.int .i64 r) ∧ Below w.heap.size w w' := by
  have hu111 := Try.underlying111
  have HR0 := Aside0.mk hr0
  have HC0 := Aside0.mk hc0
  clear hr0 hc0
  have HB := Aside0.mk (Below.refl w.heap.size w)
  have H : (spec_l03Row.l0 k l0 a1 a2 a3 0) = some r := h
  clear h
  have H' := Aside0.mk H
  clear H
  go_enter Try.func98, Try.ntmps98
  go_wp2
  go_loopg [9] k (fun kq v9 w' => ∃ (x9_1 : Int), v9 = .int .i64 x9_1 ∧ Aside0 (spec_l03Row.l0 kq l0 a1 a2 a3 x9_1 = some r) ∧ Aside0 (kq ≤ k) ∧ Aside0 (Below w.heap.size w w'))
  case atStart => exact ⟨(0), (by first | rfl | (simp; done) | (simp [*]; done)), H', ⟨Nat.le_refl _⟩, ⟨by repeat (first | (with_reducible first | exact HB.out | apply below_alloc | apply pw_below_drewN | apply below_drew1) | exact HB.out)⟩⟩
  case round =>
    clear H'
    try clear p2
    obtain ⟨x9_1, rfl, HA, HK1, HB⟩ := hrel
    cases gk with
    | zero => exact absurd HA.out (by simp [spec_l03Row.l0])
    | succ k1 =>
      have H := HA.out
      clear HA
      simp only [spec_l03Row.l0] at H
      by_cases c5 : x9_1 < (l0.length : Int)
      · rw [if_pos c5] at H
        have c5b0 : decide (x9_1 < (l0.length : Int)) = true := decide_eq_true c5
        clear c5
        by_cases c6 : 0 ≤ x9_1
        · rw [if_pos c6] at H
          have c6b0 : decide (0 ≤ x9_1) = true := decide_eq_true c6
          clear c6
          by_cases c7 : ((rd_T111 l0 x9_1).f0) = a1
          · rw [if_pos c7] at H
            have c7b0 : (((rd_T111 l0 x9_1).f0) == a1) = true := beq_iff_eq.mpr c7
            have c7b1 : (((rd_T111 l0 x9_1).f0) != a1) = false := bne_eq_false_iff_eq.mpr c7
            clear c7
            by_cases c8 : ((rd_T111 l0 x9_1).f1).toList = a2.toList
            · rw [if_pos c8] at H
              have c8b0 : (((rd_T111 l0 x9_1).f1).toList == a2.toList) = true := beq_iff_eq.mpr c8
              have c8b1 : (((rd_T111 l0 x9_1).f1).toList != a2.toList) = false := bne_eq_false_iff_eq.mpr c8
              clear c8
              by_cases c9 : ((rd_T111 l0 x9_1).f2) ≤ a3
              · rw [if_pos c9] at H
                have c9b0 : decide (((rd_T111 l0 x9_1).f2) ≤ a3) = true := decide_eq_true c9
                clear c9
                by_cases c10 : a3 < ((rd_T111 l0 x9_1).f3)
                · rw [if_pos c10] at H
                  have c10b0 : decide (a3 < ((rd_T111 l0 x9_1).f3)) = true := decide_eq_true c10
                  clear c10
                  obtain rfl := Option.some.inj H
                  have p274 : 0 ≤ (x9_1 : Int) := of_decide_eq_true (by first | (with_reducible assumption) | assumption)
                  have q274 : x9_1 < (l0.length : Int) := of_decide_eq_true (by first | (with_reducible assumption) | assumption)
                  obtain ⟨ad274, e274, hx274_0, hx274_1, hx274_2, hx274_3, hx274_4, hx274_5⟩ := at_T111 HR0.out x9_1 p274 q274
                  cases e274
                  replace hx274_0 := (HB.out.cell (World.block_lt_of_cell? w _ hx274_0)).trans hx274_0
                  replace hx274_1 := (HB.out.cell (World.block_lt_of_cell? w _ hx274_1)).trans hx274_1
                  replace hx274_2 := (HB.out.cell (World.block_lt_of_cell? w _ hx274_2)).trans hx274_2
                  replace hx274_3 := (HB.out.cell (World.block_lt_of_cell? w _ hx274_3)).trans hx274_3
                  replace hx274_4 := (HB.out.cell (World.block_lt_of_cell? w _ hx274_4)).trans hx274_4
                  replace hx274_5 := (HB.out.cell (World.block_lt_of_cell? w _ hx274_5)).trans hx274_5
                  replace p274 := eq_true p274
                  replace q274 := eq_true q274
                  go_wp2_with (first | ((with_reducible refine gate_dst (N := 10) rfl ?_); refine box_event ?hg (N := 10) ?hd (cs := #[.int .i64 0, .string (⟨#[]⟩ : ByteArray), .int .i64 0, .int .i64 0, .int .i64 0, .int .i64 0]) (t := 111) ?hr ?_; (case hd => rfl); (case hg => rfl); (case hr => first | (go_simp; done) | (go_simp; rfl)); intro gb275 hg w11 hbox hb; have n0_ := Aside0.mk (below_step (by repeat (first | (with_reducible first | exact HB.out | apply below_alloc | apply pw_below_drewN | apply below_drew1) | exact HB.out)) hb); have n1_ := Aside0.mk (hbox); have n2_ := Aside0.mk ((by rw [hg]; exact (below_size (by repeat (first | (with_reducible first | exact HB.out | apply below_alloc | apply pw_below_drewN | apply below_drew1) | exact HB.out))) : w.heap.size ≤ gb275)); have n3_ := Aside0.mk ((by rw [hg]; exact (below_size (by repeat (first | (with_reducible first | exact HB.out | apply below_alloc | apply pw_below_drewN | apply below_drew1) | exact HB.out))) : w.heap.size ≤ gb275)); clear HB; have HB := n0_; have BK275 := n1_; have GW275 := n2_; have GE275 := n3_; clear n0_ n1_ n2_ n3_; clear hb hbox hg; have hcz12_0 : w11.cell? ⟨gb275, 0, none⟩ = some (.int .i64 0) := (blk_cell BK275.out 0).trans rfl; have hcz12_1 : w11.cell? ⟨gb275, 1, none⟩ = some (.string (⟨#[]⟩ : ByteArray)) := (blk_cell BK275.out 1).trans rfl; have hcz12_2 : w11.cell? ⟨gb275, 2, none⟩ = some (.int .i64 0) := (blk_cell BK275.out 2).trans rfl; have hcz12_3 : w11.cell? ⟨gb275, 3, none⟩ = some (.int .i64 0) := (blk_cell BK275.out 3).trans rfl; have hcz12_4 : w11.cell? ⟨gb275, 4, none⟩ = some (.int .i64 0) := (blk_cell BK275.out 4).trans rfl; have hcz12_5 : w11.cell? ⟨gb275, 5, none⟩ = some (.int .i64 0) := (blk_cell BK275.out 5).trans rfl; have hfz12_0 := blk_frozen BK275.out 0; have hfz12_1 := blk_frozen BK275.out 1; have hfz12_2 := blk_frozen BK275.out 2; have hfz12_3 := blk_frozen BK275.out 3; have hfz12_4 := blk_frozen BK275.out 4; have hfz12_5 := blk_frozen BK275.out 5))
                  go_ret
                  exact ⟨by first | rfl | (simp [errW_none, errW_some] <;> rfl) | (simp [*, errW_none, errW_some] <;> rfl), by repeat (first | (with_reducible first | exact HB.out | apply below_alloc | apply pw_below_drewN | apply below_drew1 | refine below_set ?_ GE275.out) | exact HB.out)⟩
                · rw [if_neg c10] at H
                  have c10b0 : decide (a3 < ((rd_T111 l0 x9_1).f3)) = false := decide_eq_false c10
                  clear c10
                  have H' := Aside0.mk H
                  clear H
                  have p274 : 0 ≤ (x9_1 : Int) := of_decide_eq_true (by first | (with_reducible assumption) | assumption)
                  have q274 : x9_1 < (l0.length : Int) := of_decide_eq_true (by first | (with_reducible assumption) | assumption)
                  obtain ⟨ad274, e274, hx274_0, hx274_1, hx274_2, hx274_3, hx274_4, hx274_5⟩ := at_T111 HR0.out x9_1 p274 q274
                  cases e274
                  replace hx274_0 := (HB.out.cell (World.block_lt_of_cell? w _ hx274_0)).trans hx274_0
                  replace hx274_1 := (HB.out.cell (World.block_lt_of_cell? w _ hx274_1)).trans hx274_1
                  replace hx274_2 := (HB.out.cell (World.block_lt_of_cell? w _ hx274_2)).trans hx274_2
                  replace hx274_3 := (HB.out.cell (World.block_lt_of_cell? w _ hx274_3)).trans hx274_3
                  replace hx274_4 := (HB.out.cell (World.block_lt_of_cell? w _ hx274_4)).trans hx274_4
                  replace hx274_5 := (HB.out.cell (World.block_lt_of_cell? w _ hx274_5)).trans hx274_5
                  replace p274 := eq_true p274
                  replace q274 := eq_true q274
                  go_wp2_with (first | ((with_reducible refine gate_dst (N := 10) rfl ?_); refine box_event ?hg (N := 10) ?hd (cs := #[.int .i64 0, .string (⟨#[]⟩ : ByteArray), .int .i64 0, .int .i64 0, .int .i64 0, .int .i64 0]) (t := 111) ?hr ?_; (case hd => rfl); (case hg => rfl); (case hr => first | (go_simp; done) | (go_simp; rfl)); intro gb275 hg w13 hbox hb; have n0_ := Aside0.mk (below_step (by repeat (first | (with_reducible first | exact HB.out | apply below_alloc | apply pw_below_drewN | apply below_drew1) | exact HB.out)) hb); have n1_ := Aside0.mk (hbox); have n2_ := Aside0.mk ((by rw [hg]; exact (below_size (by repeat (first | (with_reducible first | exact HB.out | apply below_alloc | apply pw_below_drewN | apply below_drew1) | exact HB.out))) : w.heap.size ≤ gb275)); have n3_ := Aside0.mk ((by rw [hg]; exact (below_size (by repeat (first | (with_reducible first | exact HB.out | apply below_alloc | apply pw_below_drewN | apply below_drew1) | exact HB.out))) : w.heap.size ≤ gb275)); clear HB; have HB := n0_; have BK275 := n1_; have GW275 := n2_; have GE275 := n3_; clear n0_ n1_ n2_ n3_; clear hb hbox hg; have hcz14_0 : w13.cell? ⟨gb275, 0, none⟩ = some (.int .i64 0) := (blk_cell BK275.out 0).trans rfl; have hcz14_1 : w13.cell? ⟨gb275, 1, none⟩ = some (.string (⟨#[]⟩ : ByteArray)) := (blk_cell BK275.out 1).trans rfl; have hcz14_2 : w13.cell? ⟨gb275, 2, none⟩ = some (.int .i64 0) := (blk_cell BK275.out 2).trans rfl; have hcz14_3 : w13.cell? ⟨gb275, 3, none⟩ = some (.int .i64 0) := (blk_cell BK275.out 3).trans rfl; have hcz14_4 : w13.cell? ⟨gb275, 4, none⟩ = some (.int .i64 0) := (blk_cell BK275.out 4).trans rfl; have hcz14_5 : w13.cell? ⟨gb275, 5, none⟩ = some (.int .i64 0) := (blk_cell BK275.out 5).trans rfl; have hfz14_0 := blk_frozen BK275.out 0; have hfz14_1 := blk_frozen BK275.out 1; have hfz14_2 := blk_frozen BK275.out 2; have hfz14_3 := blk_frozen BK275.out 3; have hfz14_4 := blk_frozen BK275.out 4; have hfz14_5 := blk_frozen BK275.out 5))
                  go_roundg k1
                  case measure => have := HK1.out; omega
                  case rel => exact ⟨(wrap64 (x9_1 + 1)), (by first | rfl | (simp; done) | (simp [*]; done)), H', ⟨by have := HK1.out; omega⟩, ⟨by repeat (first | (with_reducible first | exact HB.out | apply below_alloc | apply pw_below_drewN | apply below_drew1 | refine below_set ?_ GE275.out) | exact HB.out)⟩⟩
              · rw [if_neg c9] at H
                have c9b0 : decide (((rd_T111 l0 x9_1).f2) ≤ a3) = false := decide_eq_false c9
                clear c9
                have H' := Aside0.mk H
                clear H
                have p274 : 0 ≤ (x9_1 : Int) := of_decide_eq_true (by first | (with_reducible assumption) | assumption)
                have q274 : x9_1 < (l0.length : Int) := of_decide_eq_true (by first | (with_reducible assumption) | assumption)
                obtain ⟨ad274, e274, hx274_0, hx274_1, hx274_2, hx274_3, hx274_4, hx274_5⟩ := at_T111 HR0.out x9_1 p274 q274
                cases e274
                replace hx274_0 := (HB.out.cell (World.block_lt_of_cell? w _ hx274_0)).trans hx274_0
                replace hx274_1 := (HB.out.cell (World.block_lt_of_cell? w _ hx274_1)).trans hx274_1
                replace hx274_2 := (HB.out.cell (World.block_lt_of_cell? w _ hx274_2)).trans hx274_2
                replace hx274_3 := (HB.out.cell (World.block_lt_of_cell? w _ hx274_3)).trans hx274_3
                replace hx274_4 := (HB.out.cell (World.block_lt_of_cell? w _ hx274_4)).trans hx274_4
                replace hx274_5 := (HB.out.cell (World.block_lt_of_cell? w _ hx274_5)).trans hx274_5
                replace p274 := eq_true p274
                replace q274 := eq_true q274
                go_wp2_with (first | ((with_reducible refine gate_dst (N := 10) rfl ?_); refine box_event ?hg (N := 10) ?hd (cs := #[.int .i64 0, .string (⟨#[]⟩ : ByteArray), .int .i64 0, .int .i64 0, .int .i64 0, .int .i64 0]) (t := 111) ?hr ?_; (case hd => rfl); (case hg => rfl); (case hr => first | (go_simp; done) | (go_simp; rfl)); intro gb275 hg w15 hbox hb; have n0_ := Aside0.mk (below_step (by repeat (first | (with_reducible first | exact HB.out | apply below_alloc | apply pw_below_drewN | apply below_drew1) | exact HB.out)) hb); have n1_ := Aside0.mk (hbox); have n2_ := Aside0.mk ((by rw [hg]; exact (below_size (by repeat (first | (with_reducible first | exact HB.out | apply below_alloc | apply pw_below_drewN | apply below_drew1) | exact HB.out))) : w.heap.size ≤ gb275)); have n3_ := Aside0.mk ((by rw [hg]; exact (below_size (by repeat (first | (with_reducible first | exact HB.out | apply below_alloc | apply pw_below_drewN | apply below_drew1) | exact HB.out))) : w.heap.size ≤ gb275)); clear HB; have HB := n0_; have BK275 := n1_; have GW275 := n2_; have GE275 := n3_; clear n0_ n1_ n2_ n3_; clear hb hbox hg; have hcz16_0 : w15.cell? ⟨gb275, 0, none⟩ = some (.int .i64 0) := (blk_cell BK275.out 0).trans rfl; have hcz16_1 : w15.cell? ⟨gb275, 1, none⟩ = some (.string (⟨#[]⟩ : ByteArray)) := (blk_cell BK275.out 1).trans rfl; have hcz16_2 : w15.cell? ⟨gb275, 2, none⟩ = some (.int .i64 0) := (blk_cell BK275.out 2).trans rfl; have hcz16_3 : w15.cell? ⟨gb275, 3, none⟩ = some (.int .i64 0) := (blk_cell BK275.out 3).trans rfl; have hcz16_4 : w15.cell? ⟨gb275, 4, none⟩ = some (.int .i64 0) := (blk_cell BK275.out 4).trans rfl; have hcz16_5 : w15.cell? ⟨gb275, 5, none⟩ = some (.int .i64 0) := (blk_cell BK275.out 5).trans rfl; have hfz16_0 := blk_frozen BK275.out 0; have hfz16_1 := blk_frozen BK275.out 1; have hfz16_2 := blk_frozen BK275.out 2; have hfz16_3 := blk_frozen BK275.out 3; have hfz16_4 := blk_frozen BK275.out 4; have hfz16_5 := blk_frozen BK275.out 5))
                go_roundg k1
                case measure => have := HK1.out; omega
                case rel => exact ⟨(wrap64 (x9_1 + 1)), (by first | rfl | (simp; done) | (simp [*]; done)), H', ⟨by have := HK1.out; omega⟩, ⟨by repeat (first | (with_reducible first | exact HB.out | apply below_alloc | apply pw_below_drewN | apply below_drew1 | refine below_set ?_ GE275.out) | exact HB.out)⟩⟩
            · rw [if_neg c8] at H
              have c8b0 : (((rd_T111 l0 x9_1).f1).toList == a2.toList) = false := beq_eq_false_iff_ne.mpr c8
              have c8b1 : (((rd_T111 l0 x9_1).f1).toList != a2.toList) = true := bne_iff_ne.mpr c8
              have H' := Aside0.mk H
              clear H
              have p274 : 0 ≤ (x9_1 : Int) := of_decide_eq_true (by first | (with_reducible assumption) | assumption)
              have q274 : x9_1 < (l0.length : Int) := of_decide_eq_true (by first | (with_reducible assumption) | assumption)
              obtain ⟨ad274, e274, hx274_0, hx274_1, hx274_2, hx274_3, hx274_4, hx274_5⟩ := at_T111 HR0.out x9_1 p274 q274
              cases e274
              replace hx274_0 := (HB.out.cell (World.block_lt_of_cell? w _ hx274_0)).trans hx274_0
              replace hx274_1 := (HB.out.cell (World.block_lt_of_cell? w _ hx274_1)).trans hx274_1
              replace hx274_2 := (HB.out.cell (World.block_lt_of_cell? w _ hx274_2)).trans hx274_2
              replace hx274_3 := (HB.out.cell (World.block_lt_of_cell? w _ hx274_3)).trans hx274_3
              replace hx274_4 := (HB.out.cell (World.block_lt_of_cell? w _ hx274_4)).trans hx274_4
              replace hx274_5 := (HB.out.cell (World.block_lt_of_cell? w _ hx274_5)).trans hx274_5
              replace p274 := eq_true p274
              replace q274 := eq_true q274
              go_wp2_with (first | ((with_reducible refine gate_dst (N := 10) rfl ?_); refine box_event ?hg (N := 10) ?hd (cs := #[.int .i64 0, .string (⟨#[]⟩ : ByteArray), .int .i64 0, .int .i64 0, .int .i64 0, .int .i64 0]) (t := 111) ?hr ?_; (case hd => rfl); (case hg => rfl); (case hr => first | (go_simp; done) | (go_simp; rfl)); intro gb275 hg w17 hbox hb; have n0_ := Aside0.mk (below_step (by repeat (first | (with_reducible first | exact HB.out | apply below_alloc | apply pw_below_drewN | apply below_drew1) | exact HB.out)) hb); have n1_ := Aside0.mk (hbox); have n2_ := Aside0.mk ((by rw [hg]; exact (below_size (by repeat (first | (with_reducible first | exact HB.out | apply below_alloc | apply pw_below_drewN | apply below_drew1) | exact HB.out))) : w.heap.size ≤ gb275)); have n3_ := Aside0.mk ((by rw [hg]; exact (below_size (by repeat (first | (with_reducible first | exact HB.out | apply below_alloc | apply pw_below_drewN | apply below_drew1) | exact HB.out))) : w.heap.size ≤ gb275)); clear HB; have HB := n0_; have BK275 := n1_; have GW275 := n2_; have GE275 := n3_; clear n0_ n1_ n2_ n3_; clear hb hbox hg; have hcz18_0 : w17.cell? ⟨gb275, 0, none⟩ = some (.int .i64 0) := (blk_cell BK275.out 0).trans rfl; have hcz18_1 : w17.cell? ⟨gb275, 1, none⟩ = some (.string (⟨#[]⟩ : ByteArray)) := (blk_cell BK275.out 1).trans rfl; have hcz18_2 : w17.cell? ⟨gb275, 2, none⟩ = some (.int .i64 0) := (blk_cell BK275.out 2).trans rfl; have hcz18_3 : w17.cell? ⟨gb275, 3, none⟩ = some (.int .i64 0) := (blk_cell BK275.out 3).trans rfl; have hcz18_4 : w17.cell? ⟨gb275, 4, none⟩ = some (.int .i64 0) := (blk_cell BK275.out 4).trans rfl; have hcz18_5 : w17.cell? ⟨gb275, 5, none⟩ = some (.int .i64 0) := (blk_cell BK275.out 5).trans rfl; have hfz18_0 := blk_frozen BK275.out 0; have hfz18_1 := blk_frozen BK275.out 1; have hfz18_2 := blk_frozen BK275.out 2; have hfz18_3 := blk_frozen BK275.out 3; have hfz18_4 := blk_frozen BK275.out 4; have hfz18_5 := blk_frozen BK275.out 5))
              go_roundg k1
              case measure => have := HK1.out; omega
              case rel => exact ⟨(wrap64 (x9_1 + 1)), (by first | rfl | (simp; done) | (simp [*]; done)), H', ⟨by have := HK1.out; omega⟩, ⟨by repeat (first | (with_reducible first | exact HB.out | apply below_alloc | apply pw_below_drewN | apply below_drew1 | refine below_set ?_ GE275.out) | exact HB.out)⟩⟩
          · rw [if_neg c7] at H
            have c7b0 : (((rd_T111 l0 x9_1).f0) == a1) = false := beq_eq_false_iff_ne.mpr c7
            have c7b1 : (((rd_T111 l0 x9_1).f0) != a1) = true := bne_iff_ne.mpr c7
            have H' := Aside0.mk H
            clear H
            have p274 : 0 ≤ (x9_1 : Int) := of_decide_eq_true (by first | (with_reducible assumption) | assumption)
            have q274 : x9_1 < (l0.length : Int) := of_decide_eq_true (by first | (with_reducible assumption) | assumption)
            obtain ⟨ad274, e274, hx274_0, hx274_1, hx274_2, hx274_3, hx274_4, hx274_5⟩ := at_T111 HR0.out x9_1 p274 q274
            cases e274
            replace hx274_0 := (HB.out.cell (World.block_lt_of_cell? w _ hx274_0)).trans hx274_0
            replace hx274_1 := (HB.out.cell (World.block_lt_of_cell? w _ hx274_1)).trans hx274_1
            replace hx274_2 := (HB.out.cell (World.block_lt_of_cell? w _ hx274_2)).trans hx274_2
            replace hx274_3 := (HB.out.cell (World.block_lt_of_cell? w _ hx274_3)).trans hx274_3
            replace hx274_4 := (HB.out.cell (World.block_lt_of_cell? w _ hx274_4)).trans hx274_4
            replace hx274_5 := (HB.out.cell (World.block_lt_of_cell? w _ hx274_5)).trans hx274_5
            replace p274 := eq_true p274
            replace q274 := eq_true q274
            go_wp2_with (first | ((with_reducible refine gate_dst (N := 10) rfl ?_); refine box_event ?hg (N := 10) ?hd (cs := #[.int .i64 0, .string (⟨#[]⟩ : ByteArray), .int .i64 0, .int .i64 0, .int .i64 0, .int .i64 0]) (t := 111) ?hr ?_; (case hd => rfl); (case hg => rfl); (case hr => first | (go_simp; done) | (go_simp; rfl)); intro gb275 hg w19 hbox hb; have n0_ := Aside0.mk (below_step (by repeat (first | (with_reducible first | exact HB.out | apply below_alloc | apply pw_below_drewN | apply below_drew1) | exact HB.out)) hb); have n1_ := Aside0.mk (hbox); have n2_ := Aside0.mk ((by rw [hg]; exact (below_size (by repeat (first | (with_reducible first | exact HB.out | apply below_alloc | apply pw_below_drewN | apply below_drew1) | exact HB.out))) : w.heap.size ≤ gb275)); have n3_ := Aside0.mk ((by rw [hg]; exact (below_size (by repeat (first | (with_reducible first | exact HB.out | apply below_alloc | apply pw_below_drewN | apply below_drew1) | exact HB.out))) : w.heap.size ≤ gb275)); clear HB; have HB := n0_; have BK275 := n1_; have GW275 := n2_; have GE275 := n3_; clear n0_ n1_ n2_ n3_; clear hb hbox hg; have hcz20_0 : w19.cell? ⟨gb275, 0, none⟩ = some (.int .i64 0) := (blk_cell BK275.out 0).trans rfl; have hcz20_1 : w19.cell? ⟨gb275, 1, none⟩ = some (.string (⟨#[]⟩ : ByteArray)) := (blk_cell BK275.out 1).trans rfl; have hcz20_2 : w19.cell? ⟨gb275, 2, none⟩ = some (.int .i64 0) := (blk_cell BK275.out 2).trans rfl; have hcz20_3 : w19.cell? ⟨gb275, 3, none⟩ = some (.int .i64 0) := (blk_cell BK275.out 3).trans rfl; have hcz20_4 : w19.cell? ⟨gb275, 4, none⟩ = some (.int .i64 0) := (blk_cell BK275.out 4).trans rfl; have hcz20_5 : w19.cell? ⟨gb275, 5, none⟩ = some (.int .i64 0) := (blk_cell BK275.out 5).trans rfl; have hfz20_0 := blk_frozen BK275.out 0; have hfz20_1 := blk_frozen BK275.out 1; have hfz20_2 := blk_frozen BK275.out 2; have hfz20_3 := blk_frozen BK275.out 3; have hfz20_4 := blk_frozen BK275.out 4; have hfz20_5 := blk_frozen BK275.out 5))
            go_roundg k1
            case measure => have := HK1.out; omega
            case rel => exact ⟨(wrap64 (x9_1 + 1)), (by first | rfl | (simp; done) | (simp [*]; done)), H', ⟨by have := HK1.out; omega⟩, ⟨by repeat (first | (with_reducible first | exact HB.out | apply below_alloc | apply pw_below_drewN | apply below_drew1 | refine below_set ?_ GE275.out) | exact HB.out)⟩⟩
        · rw [if_neg c6] at H
          exact absurd H (by simp)
      · rw [if_neg c5] at H
        have c5b0 : decide (x9_1 < (l0.length : Int)) = false := decide_eq_false c5
        clear c5
        obtain rfl := Option.some.inj H
        go_wp2
        go_ret
        exact ⟨by first | rfl | (simp [errW_none, errW_some] <;> rfl) | (simp [*, errW_none, errW_some] <;> rfl), by repeat (first | (with_reducible first | exact HB.out | apply below_alloc | apply pw_below_drewN | apply below_drew1) | exact HB.out)⟩

/-! ### impl_TaxRow_82: function 82 -/
def impl_TaxRow_82.f (l0 : List (S111)) : Option (Bool) := some (decide ((l0.length : Int) ≤ 4096))
set_option maxHeartbeats 8000000 in
set_option maxRecDepth 100000 in
theorem impl_TaxRow_82.calls (A0 : Option Addr) (c0 : Nat) (l0 : List (S111)) (r : Bool) (w : World) (hr0 : Kd.C k111 w A0 l0.length l0) (hc0 : l0.length ≤ c0) (h : impl_TaxRow_82.f l0 = some r) :
    Calls Try.prog 82 #[.slice A0 l0.length c0] w fun e w' => e = .returned (.bool r) ∧ Drawn0 w w' := by
  have HR0 := Aside0.mk hr0
  have HC0 := Aside0.mk hc0
  clear hr0 hc0
  have H : (some (decide ((l0.length : Int) ≤ 4096))) = some r := h
  clear h
  obtain rfl := Option.some.inj H
  go_enter Try.func82, Try.ntmps82
  go_wp2
  go_ret
  exact ⟨by first | rfl | (simp; done) | (simp [*]; done), by repeat (first | exact Drawn0.refl _ | apply Drawn0.step)⟩

/-! ### impl_taxAt_1: function 124, by hand -/
def impl_taxAt_1.p (c : Int) (own : ByteArray) (day : Int) (x : S111) : Option Bool :=
  if x.f0 = c then (if x.f1.toList = own.toList then (impl_within.f day x.f2 (wrap64 (x.f3 - 1))) else some false) else some false
set_option maxHeartbeats 8000000 in
set_option maxRecDepth 100000 in
theorem impl_taxAt_1.calls (c : Int) (own : ByteArray) (day : Int) (x : S111) (g1 g2 g3 : Nat) (r : Bool) (w : World) (h1 : w.cell? ⟨g1, 0, none⟩ = some (.int .i64 c)) (h2 : w.cell? ⟨g2, 0, none⟩ = some (.string own)) (h3 : w.cell? ⟨g3, 0, none⟩ = some (.int .i64 day)) (h : impl_taxAt_1.p c own day x = some r) :
    Calls Try.prog 124 #[.agg #[.int .i64 x.f0, .string x.f1, .int .i64 x.f2, .int .i64 x.f3, .int .i64 x.f4.f0, .int .i64 x.f4.f1], .pointer (some ⟨g1, 0, none⟩), .pointer (some ⟨g2, 0, none⟩), .pointer (some ⟨g3, 0, none⟩)] w fun e w' => e = .returned (.bool r) ∧ Below w.heap.size w w' := by
  have k1 : ∀ o, (w.alloc o).cell? ⟨g1, 0, none⟩ = some (.int .i64 c) := fun o => (World.cell?_alloc_lt _ _ _ (World.block_lt_of_cell? _ _ h1)).trans h1
  have k2 : ∀ o, (w.alloc o).cell? ⟨g2, 0, none⟩ = some (.string own) := fun o => (World.cell?_alloc_lt _ _ _ (World.block_lt_of_cell? _ _ h2)).trans h2
  have k3 : ∀ o, (w.alloc o).cell? ⟨g3, 0, none⟩ = some (.int .i64 day) := fun o => (World.cell?_alloc_lt _ _ _ (World.block_lt_of_cell? _ _ h3)).trans h3
  clear h1 h2 h3
  unfold impl_taxAt_1.p at h
  by_cases a : x.f0 = c
  · rw [if_pos a] at h
    by_cases b : x.f1.toList = own.toList
    · rw [if_pos b] at h
      have H := Aside0.mk h
      have ab : (x.f0 == c) = true := beq_iff_eq.mpr a
      have bb : (x.f1.toList == own.toList) = true := beq_iff_eq.mpr b
      clear h a b
      go_enter Try.func124, Try.ntmps124
      go_wp2_with fail
      refine (impl_within.calls (r := r) (w := _) (h := H.out)).mono ?_
      rintro e w1 ⟨rfl, ⟨nd, rfl⟩⟩
      go_wp2
      go_ret
      exact ⟨rfl, pw_below_drewN ((Below.refl _ w).alloc (Nat.le_refl _) _) _⟩
    · rw [if_neg b] at h
      have ab : (x.f0 == c) = true := beq_iff_eq.mpr a
      have bb : (x.f1.toList == own.toList) = false := beq_eq_false_iff_ne.mpr b
      obtain rfl := Option.some.inj h
      clear h a b
      go_enter Try.func124, Try.ntmps124
      go_wp2
      go_ret
      exact ⟨rfl, (Below.refl _ w).alloc (Nat.le_refl _) _⟩
  · rw [if_neg a] at h
    have ab : (x.f0 == c) = false := beq_eq_false_iff_ne.mpr a
    obtain rfl := Option.some.inj h
    clear h a
    go_enter Try.func124, Try.ntmps124
    go_wp2
    go_ret
    exact ⟨rfl, (Below.refl _ w).alloc (Nat.le_refl _) _⟩

/-! ### impl_taxAt: function 83, by hand -/
def impl_taxAt.go (l0 : List S111) (a1 : Int) (a3 : Int) : List ByteArray → Option (Int × Int × Int)
  | [] => some (0, 0, 8)
  | own :: rest => (impl_TaxRow_119.f (impl_taxAt_1.p a1 own a3) l0 0).bind fun i =>
    if i ≥ 0 then (if i < (l0.length : Int) then some ((rd_T111 l0 i).f4.f0, (rd_T111 l0 i).f4.f1, 0) else none) else impl_taxAt.go l0 a1 a3 rest
theorem impl_taxAt.go_cons (l0 : List S111) (a1 : Int) (a3 : Int) (own : ByteArray) (rest : List ByteArray) : impl_taxAt.go l0 a1 a3 (own :: rest) = (impl_TaxRow_119.f (impl_taxAt_1.p a1 own a3) l0 0).bind fun i =>
    if i ≥ 0 then (if i < (l0.length : Int) then some ((rd_T111 l0 i).f4.f0, (rd_T111 l0 i).f4.f1, 0) else none) else impl_taxAt.go l0 a1 a3 rest := rfl
def impl_taxAt.f (l0 : List S111) (a1 : Int) (a2 : ByteArray) (a3 : Int) : Option (Int × Int × Int) := impl_taxAt.go l0 a1 a3 [a2, (⟨#[]⟩ : ByteArray)]
set_option maxHeartbeats 8000000 in
set_option maxRecDepth 100000 in
theorem impl_taxAt.calls (A0 : Option Addr) (c0 : Nat) (l0 : List S111) (a1 : Int) (a2 : ByteArray) (a3 : Int) (r1 : Int) (r2 : Int) (r3 : Int) (w : World) (hr0 : Kd.C k111 w A0 l0.length l0) (hc0 : l0.length ≤ c0) (h : impl_taxAt.f l0 a1 a2 a3 = some (r1, r2, r3)) :
    Calls Try.prog 83 #[.slice A0 l0.length c0, .int .i64 a1, .string a2, .int .i64 a3] w fun e w' => e = .returned (.tuple #[.agg #[.int .i64 r1, .int .i64 r2], .int .i64 r3]) ∧ Below w.heap.size w w' := by
  have hu40 := Try.underlying40
  have HR := Aside0.mk hr0
  have HC := Aside0.mk hc0
  have H := Aside0.mk h
  clear hr0 hc0 h
  go_enter Try.func83, Try.ntmps83
  go_wp2
  have B4 : Aside0 (Below w.heap.size w ((((w.alloc (.cells #[.int .i64 a1] 3)).alloc (.cells #[.int .i64 a3] 3)).alloc (.cells #[.int .i64 0, .int .i64 0] 40)).alloc (.cells #[.string a2, .string ⟨#[]⟩] 9))) :=
    Aside0.mk ((((Below.refl _ w).alloc (Nat.le_refl _) _).alloc (by simp) _).alloc (by simp; omega) _ |>.alloc (by simp; omega) _)
  have b1 : Aside0 (((((w.alloc (.cells #[.int .i64 a1] 3)).alloc (.cells #[.int .i64 a3] 3)).alloc (.cells #[.int .i64 0, .int .i64 0] 40)).alloc (.cells #[.string a2, .string ⟨#[]⟩] 9)).heap[w.heap.size]? = some (.cells #[.int .i64 a1] 3 (0, 0))) :=
    Aside0.mk (blk_alloc (blk_alloc (blk_alloc (blk_new w _) _) _) _)
  have b2 : Aside0 (((((w.alloc (.cells #[.int .i64 a1] 3)).alloc (.cells #[.int .i64 a3] 3)).alloc (.cells #[.int .i64 0, .int .i64 0] 40)).alloc (.cells #[.string a2, .string ⟨#[]⟩] 9)).heap[w.heap.size + 1]? = some (.cells #[.int .i64 a3] 3 (0, 0))) :=
    Aside0.mk (blk_alloc (blk_alloc (by simpa using blk_new (w.alloc (.cells #[.int .i64 a1] 3)) (.cells #[.int .i64 a3] 3)) _) _)
  have b3 : Aside0 (((((w.alloc (.cells #[.int .i64 a1] 3)).alloc (.cells #[.int .i64 a3] 3)).alloc (.cells #[.int .i64 0, .int .i64 0] 40)).alloc (.cells #[.string a2, .string ⟨#[]⟩] 9)).heap[w.heap.size + 1 + 1]? = some (.cells #[.int .i64 0, .int .i64 0] 40 (0, 0))) :=
    Aside0.mk (blk_alloc (by simpa using blk_new ((w.alloc (.cells #[.int .i64 a1] 3)).alloc (.cells #[.int .i64 a3] 3)) (.cells #[.int .i64 0, .int .i64 0] 40)) _)
  have b4 : Aside0 (((((w.alloc (.cells #[.int .i64 a1] 3)).alloc (.cells #[.int .i64 a3] 3)).alloc (.cells #[.int .i64 0, .int .i64 0] 40)).alloc (.cells #[.string a2, .string ⟨#[]⟩] 9)).heap[w.heap.size + 1 + 1 + 1]? = some (.cells #[.string a2, .string ⟨#[]⟩] 9 (0, 0))) :=
    Aside0.mk (by simpa using blk_new (((w.alloc (.cells #[.int .i64 a1] 3)).alloc (.cells #[.int .i64 a3] 3)).alloc (.cells #[.int .i64 0, .int .i64 0] 40)) (.cells #[.string a2, .string ⟨#[]⟩] 9))
  generalize (((w.alloc (.cells #[.int .i64 a1] 3)).alloc (.cells #[.int .i64 a3] 3)).alloc (.cells #[.int .i64 0, .int .i64 0] 40)).alloc (.cells #[.string a2, .string ⟨#[]⟩] 9) = w4 at *
  go_loopg [16] 2 (fun gg s16 wr => ∃ kk : Nat, kk ≤ 2 ∧ 2 - kk ≤ gg ∧ s16 = .int .i64 kk ∧ Aside0 (Below w4.heap.size w4 wr) ∧ Aside0 (impl_taxAt.go l0 a1 a3 ([a2, (⟨#[]⟩ : ByteArray)].drop kk) = some (r1, r2, r3)))
  case atStart => exact ⟨0, by omega, by omega, rfl, ⟨Below.refl _ _⟩, ⟨H.out⟩⟩
  case round =>
    obtain ⟨kk, hkk, hg, rfl, BW, HF⟩ := hrel
    by_cases hlt : kk < 2
    · have key : ∃ own, [a2, (⟨#[]⟩ : ByteArray)].drop kk = own :: [a2, (⟨#[]⟩ : ByteArray)].drop (kk + 1) ∧ wr.cell? ⟨w.heap.size + 1 + 1 + 1, kk, none⟩ = some (.string own) := by
        have hb := blk_below b4.out BW.out
        match kk, hlt with
        | 0, _ => exact ⟨a2, rfl, (blk_cell hb 0).trans rfl⟩
        | 1, _ => exact ⟨_, rfl, (blk_cell hb 1).trans rfl⟩
      obtain ⟨own, hdrop, hcell⟩ := key
      have hf := HF.out
      rw [hdrop, impl_taxAt.go_cons] at hf
      obtain ⟨i, hi, h2⟩ := Option.bind_eq_some_iff.mp hf
      have HI := Aside0.mk hi
      have H2 := Aside0.mk h2
      clear hf hdrop hi h2
      have hltz : (kk : Int) < 2 := by omega
      have BA : Aside0 (Below w.heap.size w (wr.alloc (.cells #[.string own] 9))) := Aside0.mk ((B4.out.trans (BW.out.mono B4.out.size)).alloc (Nat.le_trans B4.out.size BW.out.size) _)
      have C := impl_TaxRow_119.calls (impl_taxAt_1.p a1 own a3) l0 A0 c0 124 #[.pointer (some ⟨w.heap.size, 0, none⟩), .pointer (some ⟨wr.heap.size, 0, none⟩), .pointer (some ⟨w.heap.size + 1, 0, none⟩)] i (wr.alloc (.cells #[.string own] 9)) (fun args w => enters_of Try.func124 (by kernel_rfl) rfl args w)
        (fun W y b_ hW hy => by
          have hW0 : Below w4.heap.size w4 W := (BW.out.alloc BW.out.size _).trans (hW.mono (Nat.le_trans BW.out.size (by simp)))
          exact impl_taxAt_1.calls a1 own a3 y w.heap.size wr.heap.size (w.heap.size + 1) b_ W ((blk_cell (blk_below b1.out hW0) 0).trans rfl) ((blk_cell (blk_below (blk_new wr _) hW) 0).trans rfl) ((blk_cell (blk_below b2.out hW0) 0).trans rfl) hy)
        (Kd.C_below HR.out BA.out) HC.out HI.out
      have HCC := Aside0.mk C
      clear C
      go_wp2_with fail
      refine HCC.out.mono ?_
      rintro e w5 ⟨rfl, hb5⟩
      have hb5' : Below w4.heap.size w4 w5 := (BW.out.alloc BW.out.size _).trans (hb5.mono (Nat.le_trans BW.out.size (by simp)))
      have BW5 := Aside0.mk hb5'
      clear hb5 hb5' hcell
      by_cases hpos : i ≥ 0
      · have h2 := H2.out
        rw [if_pos hpos] at h2
        by_cases hin : i < (l0.length : Int)
        · rw [if_pos hin] at h2
          have hd : decide (0 ≤ i) = true := decide_eq_true hpos
          have hpos' : 0 ≤ i := hpos
          obtain ⟨ad, rfl, hx0, hx1, hx2, hx3, hx4, hx5⟩ := at_T111 (Kd.C_below HR.out (B4.out.trans (BW5.out.mono B4.out.size))) i hpos hin
          have hblk := blk_below b3.out BW5.out
          have d0 := (blk_cell hblk 0).trans rfl
          have d1 := (blk_cell hblk 1).trans rfl
          have f0 := blk_frozen hblk 0
          have f1 := blk_frozen hblk 1
          have HBLK := Aside0.mk hblk
          simp only [Option.some.injEq, Prod.mk.injEq] at h2
          obtain ⟨rfl, rfl, rfl⟩ := h2
          clear hblk hx0 hx1 hx2 hx3 hpos
          go_wp2
          refine bodyPost_ret (results_ct rfl _ _ (w.heap.size + 1 + 1) 40 #[.int .i64 (rd_T111 l0 i).f4.f0, .int .i64 (rd_T111 l0 i).f4.f1] (0, 0) _ rfl (by simpa using blk_set (blk_set HBLK.out 0 (.int .i64 (rd_T111 l0 i).f4.f0)) 1 (.int .i64 (rd_T111 l0 i).f4.f1)) Try.underlying40 rfl (by kernel_rfl)) rfl ?_
          exact ⟨rfl, ((B4.out.trans (BW5.out.mono B4.out.size)).setCell (p := ⟨w.heap.size + 1 + 1, 0, none⟩) (by show w.heap.size ≤ w.heap.size + 1 + 1; omega) _).setCell (p := ⟨w.heap.size + 1 + 1, 1, none⟩) (by show w.heap.size ≤ w.heap.size + 1 + 1; omega) _⟩
        · rw [if_neg hin] at h2; cases h2
      · have h2 := H2.out
        rw [if_neg hpos] at h2
        have hd : decide (0 ≤ i) = false := decide_eq_false (by omega)
        clear hpos
        have H3 := Aside0.mk h2
        clear h2
        go_wp2
        go_roundg (2 - (kk + 1))
        case measure => omega
        case rel => exact ⟨kk + 1, by omega, by omega, by go_num, ⟨BW5.out⟩, ⟨H3.out⟩⟩
    · have : kk = 2 := by omega
      subst this
      have hltz : ¬ ((2 : Nat) : Int) < 2 := by omega
      have h2 := HF.out
      simp only [List.drop_succ_cons, List.drop_zero, impl_taxAt.go, Option.some.injEq, Prod.mk.injEq] at h2
      obtain ⟨rfl, rfl, rfl⟩ := h2
      have hblk := blk_below b3.out BW.out
      have d0 := (blk_cell hblk 0).trans rfl
      have d1 := (blk_cell hblk 1).trans rfl
      have f0 := blk_frozen hblk 0
      have f1 := blk_frozen hblk 1
      have HBLK := Aside0.mk hblk
      clear hblk
      go_wp2
      refine bodyPost_ret (results_ct rfl _ _ (w.heap.size + 1 + 1) 40 #[.int .i64 0, .int .i64 0] (0, 0) _ rfl (by simpa using blk_set (blk_set HBLK.out 0 (.int .i64 0)) 1 (.int .i64 0)) Try.underlying40 rfl (by kernel_rfl)) rfl ?_
      exact ⟨rfl, ((B4.out.trans (BW.out.mono B4.out.size)).setCell (p := ⟨w.heap.size + 1 + 1, 0, none⟩) (by show w.heap.size ≤ w.heap.size + 1 + 1; omega) _).setCell (p := ⟨w.heap.size + 1 + 1, 1, none⟩) (by show w.heap.size ≤ w.heap.size + 1 + 1; omega) _⟩

end Go.Proofs.Ytookjankaanhlaa.PAll
