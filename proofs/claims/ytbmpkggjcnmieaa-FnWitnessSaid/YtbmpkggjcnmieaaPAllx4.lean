-- Written by wip/tools/hp.py over the kit's print (not by hand): functions and walks of All.
import Derived.Test.YtbmpkggjcnmieaaPAllx0
namespace Go.Proofs.Ytbmpkggjcnmieaa.PAll
open Go.RowKit Go.Proofs.YtbmpkggjcnmieaaW.PrintWords Go.Proofs.YtbmpkggjcnmieaaW.PrintLast Go.Proofs.YtbmpkggjcnmieaaW.PrintMore
attribute [local go_sem] max2_int min2_int max_two min_two max_three min_three max_four min_four   -- for this text's walks alone
set_option linter.unusedVariables false
set_option linter.unusedSimpArgs false

-- NOT PRINTED: function 53 (impl_bounds_isEmpty_1)

/-! ### impl_isEmpty: function 27, by hand -/
set_option maxHeartbeats 8000000 in
set_option maxRecDepth 100000 in
theorem impl_isEmpty_1.calls (lo hi : Int) (w : World) : Calls Try.prog 53 #[.agg #[.int .i64 lo, .int .i64 hi]] w fun e w' => e = .returned (.bool (decide (lo > hi))) ∧ Below w.heap.size w w' := by
 go_enter Try.func53, Try.ntmps53; go_wp2; go_ret; exact ⟨rfl, (Below.refl _ w).alloc (Nat.le_refl _) _⟩
def impl_isEmpty.idx (b : Nat → Int) : Nat → Nat → Int
 | 0, _ => -1
 | d + 1, i => if b (2 * i) > b (2 * i + 1) then (i : Int) else impl_isEmpty.idx b d (i + 1)
set_option maxHeartbeats 8000000 in
set_option maxRecDepth 100000 in
theorem impl_isEmpty.look (b : Nat → Int) (g : Nat) (r : Int) (w : World) (hg : w.heap[g]? = some (.cells #[.int .i64 (b 0), .int .i64 (b 1), .int .i64 (b 2), .int .i64 (b 3), .int .i64 (b 4), .int .i64 (b 5), .int .i64 (b 6), .int .i64 (b 7), .int .i64 (b 8), .int .i64 (b 9), .int .i64 (b 10), .int .i64 (b 11)] 62 (0, 0))) (h : impl_isEmpty.idx b 6 0 = r) :
  Calls Try.prog 76 #[.slice (some ⟨g, 0, none⟩) 6 6, .func (.func 53) #[] #[]] w fun e w' => e = .returned (.int .i64 r) ∧ Below w.heap.size w w' := by
 have HG := Aside0.mk hg; have H := Aside0.mk h; clear hg h; go_enter Try.func76, Try.ntmps76; go_wp2
 go_loopg [5, 8] 6 (fun gg _ s8 wr => ∃ kk : Nat, kk ≤ 6 ∧ 6 - kk ≤ gg ∧ s8 = .int .i64 kk ∧ Aside0 (Below w.heap.size w wr) ∧ Aside0 (impl_isEmpty.idx b (6 - kk) kk = r))
 case atStart => exact ⟨0, by omega, by omega, rfl, ⟨Below.refl _ w⟩, ⟨H.out⟩⟩
 case round =>
  obtain ⟨kk, hkk, hgg, rfl, BW, HF⟩ := hrel; by_cases hlt : kk < 6
  ·have hk6 : kk = 0 ∨ kk = 1 ∨ kk = 2 ∨ kk = 3 ∨ kk = 4 ∨ kk = 5 := by omega
   rcases hk6 with rfl | rfl | rfl | rfl | rfl | rfl
   ·have y0 : wr.cell? ⟨g, 0, none⟩ = some (.int .i64 (b 0)) := (blk_cell (blk_below HG.out BW.out) 0).trans rfl; have y1 : wr.cell? ⟨g, 1, none⟩ = some (.int .i64 (b 1)) := (blk_cell (blk_below HG.out BW.out) 1).trans rfl; have hv : impl_isEmpty.idx b 6 0 = r := HF.out; rw [impl_isEmpty.idx] at hv
    have hcall := fun W => impl_isEmpty_1.calls (b (2 * 0)) (b (2 * 0 + 1)) W
    simp only [Nat.reduceMul, Nat.reduceAdd] at hcall hv; have HCL := Aside0.mk hcall; clear hcall; by_cases c : b 0 > b 1
    ·rw [if_pos c] at hv; have HV := Aside0.mk hv; clear hv; have cd : decide (b 1 < b 0) = true := decide_eq_true c
     go_wp2_with (go_at_call 53; refine (HCL.out _).mono ?_; rintro e w' ⟨rfl, hb'⟩)
     go_ret; exact ⟨by rw [← HV.out]; rfl, BW.out.trans (hb'.mono BW.out.size)⟩
    ·rw [if_neg c] at hv; have HV := Aside0.mk hv; clear hv; have cd : decide (b 1 < b 0) = false := decide_eq_false c
     go_wp2_with (go_at_call 53; refine (HCL.out _).mono ?_; rintro e w' ⟨rfl, hb'⟩)
     go_roundg 5
     case measure => omega
     case rel => exact ⟨1, by omega, by omega, by go_num, ⟨BW.out.trans (hb'.mono BW.out.size)⟩, ⟨HV.out⟩⟩
   ·have y0 : wr.cell? ⟨g, 2, none⟩ = some (.int .i64 (b 2)) := (blk_cell (blk_below HG.out BW.out) 2).trans rfl; have y1 : wr.cell? ⟨g, 3, none⟩ = some (.int .i64 (b 3)) := (blk_cell (blk_below HG.out BW.out) 3).trans rfl; have hv : impl_isEmpty.idx b 5 1 = r := HF.out; rw [impl_isEmpty.idx] at hv
    have hcall := fun W => impl_isEmpty_1.calls (b (2 * 1)) (b (2 * 1 + 1)) W
    simp only [Nat.reduceMul, Nat.reduceAdd] at hcall hv; have HCL := Aside0.mk hcall; clear hcall; by_cases c : b 2 > b 3
    ·rw [if_pos c] at hv; have HV := Aside0.mk hv; clear hv; have cd : decide (b 3 < b 2) = true := decide_eq_true c
     go_wp2_with (go_at_call 53; refine (HCL.out _).mono ?_; rintro e w' ⟨rfl, hb'⟩)
     go_ret; exact ⟨by rw [← HV.out]; rfl, BW.out.trans (hb'.mono BW.out.size)⟩
    ·rw [if_neg c] at hv; have HV := Aside0.mk hv; clear hv; have cd : decide (b 3 < b 2) = false := decide_eq_false c
     go_wp2_with (go_at_call 53; refine (HCL.out _).mono ?_; rintro e w' ⟨rfl, hb'⟩)
     go_roundg 4
     case measure => omega
     case rel => exact ⟨2, by omega, by omega, by go_num, ⟨BW.out.trans (hb'.mono BW.out.size)⟩, ⟨HV.out⟩⟩
   ·have y0 : wr.cell? ⟨g, 4, none⟩ = some (.int .i64 (b 4)) := (blk_cell (blk_below HG.out BW.out) 4).trans rfl; have y1 : wr.cell? ⟨g, 5, none⟩ = some (.int .i64 (b 5)) := (blk_cell (blk_below HG.out BW.out) 5).trans rfl; have hv : impl_isEmpty.idx b 4 2 = r := HF.out; rw [impl_isEmpty.idx] at hv
    have hcall := fun W => impl_isEmpty_1.calls (b (2 * 2)) (b (2 * 2 + 1)) W
    simp only [Nat.reduceMul, Nat.reduceAdd] at hcall hv; have HCL := Aside0.mk hcall; clear hcall; by_cases c : b 4 > b 5
    ·rw [if_pos c] at hv; have HV := Aside0.mk hv; clear hv; have cd : decide (b 5 < b 4) = true := decide_eq_true c
     go_wp2_with (go_at_call 53; refine (HCL.out _).mono ?_; rintro e w' ⟨rfl, hb'⟩)
     go_ret; exact ⟨by rw [← HV.out]; rfl, BW.out.trans (hb'.mono BW.out.size)⟩
    ·rw [if_neg c] at hv; have HV := Aside0.mk hv; clear hv; have cd : decide (b 5 < b 4) = false := decide_eq_false c
     go_wp2_with (go_at_call 53; refine (HCL.out _).mono ?_; rintro e w' ⟨rfl, hb'⟩)
     go_roundg 3
     case measure => omega
     case rel => exact ⟨3, by omega, by omega, by go_num, ⟨BW.out.trans (hb'.mono BW.out.size)⟩, ⟨HV.out⟩⟩
   ·have y0 : wr.cell? ⟨g, 6, none⟩ = some (.int .i64 (b 6)) := (blk_cell (blk_below HG.out BW.out) 6).trans rfl; have y1 : wr.cell? ⟨g, 7, none⟩ = some (.int .i64 (b 7)) := (blk_cell (blk_below HG.out BW.out) 7).trans rfl; have hv : impl_isEmpty.idx b 3 3 = r := HF.out; rw [impl_isEmpty.idx] at hv
    have hcall := fun W => impl_isEmpty_1.calls (b (2 * 3)) (b (2 * 3 + 1)) W
    simp only [Nat.reduceMul, Nat.reduceAdd] at hcall hv; have HCL := Aside0.mk hcall; clear hcall; by_cases c : b 6 > b 7
    ·rw [if_pos c] at hv; have HV := Aside0.mk hv; clear hv; have cd : decide (b 7 < b 6) = true := decide_eq_true c
     go_wp2_with (go_at_call 53; refine (HCL.out _).mono ?_; rintro e w' ⟨rfl, hb'⟩)
     go_ret; exact ⟨by rw [← HV.out]; rfl, BW.out.trans (hb'.mono BW.out.size)⟩
    ·rw [if_neg c] at hv; have HV := Aside0.mk hv; clear hv; have cd : decide (b 7 < b 6) = false := decide_eq_false c
     go_wp2_with (go_at_call 53; refine (HCL.out _).mono ?_; rintro e w' ⟨rfl, hb'⟩)
     go_roundg 2
     case measure => omega
     case rel => exact ⟨4, by omega, by omega, by go_num, ⟨BW.out.trans (hb'.mono BW.out.size)⟩, ⟨HV.out⟩⟩
   ·have y0 : wr.cell? ⟨g, 8, none⟩ = some (.int .i64 (b 8)) := (blk_cell (blk_below HG.out BW.out) 8).trans rfl; have y1 : wr.cell? ⟨g, 9, none⟩ = some (.int .i64 (b 9)) := (blk_cell (blk_below HG.out BW.out) 9).trans rfl; have hv : impl_isEmpty.idx b 2 4 = r := HF.out; rw [impl_isEmpty.idx] at hv
    have hcall := fun W => impl_isEmpty_1.calls (b (2 * 4)) (b (2 * 4 + 1)) W
    simp only [Nat.reduceMul, Nat.reduceAdd] at hcall hv; have HCL := Aside0.mk hcall; clear hcall; by_cases c : b 8 > b 9
    ·rw [if_pos c] at hv; have HV := Aside0.mk hv; clear hv; have cd : decide (b 9 < b 8) = true := decide_eq_true c
     go_wp2_with (go_at_call 53; refine (HCL.out _).mono ?_; rintro e w' ⟨rfl, hb'⟩)
     go_ret; exact ⟨by rw [← HV.out]; rfl, BW.out.trans (hb'.mono BW.out.size)⟩
    ·rw [if_neg c] at hv; have HV := Aside0.mk hv; clear hv; have cd : decide (b 9 < b 8) = false := decide_eq_false c
     go_wp2_with (go_at_call 53; refine (HCL.out _).mono ?_; rintro e w' ⟨rfl, hb'⟩)
     go_roundg 1
     case measure => omega
     case rel => exact ⟨5, by omega, by omega, by go_num, ⟨BW.out.trans (hb'.mono BW.out.size)⟩, ⟨HV.out⟩⟩
   ·have y0 : wr.cell? ⟨g, 10, none⟩ = some (.int .i64 (b 10)) := (blk_cell (blk_below HG.out BW.out) 10).trans rfl; have y1 : wr.cell? ⟨g, 11, none⟩ = some (.int .i64 (b 11)) := (blk_cell (blk_below HG.out BW.out) 11).trans rfl; have hv : impl_isEmpty.idx b 1 5 = r := HF.out; rw [impl_isEmpty.idx] at hv
    have hcall := fun W => impl_isEmpty_1.calls (b (2 * 5)) (b (2 * 5 + 1)) W
    simp only [Nat.reduceMul, Nat.reduceAdd] at hcall hv; have HCL := Aside0.mk hcall; clear hcall; by_cases c : b 10 > b 11
    ·rw [if_pos c] at hv; have HV := Aside0.mk hv; clear hv; have cd : decide (b 11 < b 10) = true := decide_eq_true c
     go_wp2_with (go_at_call 53; refine (HCL.out _).mono ?_; rintro e w' ⟨rfl, hb'⟩)
     go_ret; exact ⟨by rw [← HV.out]; rfl, BW.out.trans (hb'.mono BW.out.size)⟩
    ·rw [if_neg c] at hv; have HV := Aside0.mk hv; clear hv; have cd : decide (b 11 < b 10) = false := decide_eq_false c
     go_wp2_with (go_at_call 53; refine (HCL.out _).mono ?_; rintro e w' ⟨rfl, hb'⟩)
     go_roundg 0
     case measure => omega
     case rel => exact ⟨6, by omega, by omega, by go_num, ⟨BW.out.trans (hb'.mono BW.out.size)⟩, ⟨HV.out⟩⟩
  ·have : kk = 6 := by omega
   subst this; have hr_ : -1 = r := HF.out; have HX := Aside0.mk hr_; clear hr_; go_wp2; go_ret; exact ⟨by rw [← HX.out]; rfl, BW.out⟩
def impl_isEmpty.f (b : Nat → Int) : Bool := decide (0 ≤ impl_isEmpty.idx b 6 0)
set_option maxHeartbeats 8000000 in
set_option maxRecDepth 100000 in
theorem impl_isEmpty.has (b : Nat → Int) (g : Nat) (w : World) (hg : w.heap[g]? = some (.cells #[.int .i64 (b 0), .int .i64 (b 1), .int .i64 (b 2), .int .i64 (b 3), .int .i64 (b 4), .int .i64 (b 5), .int .i64 (b 6), .int .i64 (b 7), .int .i64 (b 8), .int .i64 (b 9), .int .i64 (b 10), .int .i64 (b 11)] 62 (0, 0))) :
  Calls Try.prog 52 #[.slice (some ⟨g, 0, none⟩) 6 6, .func (.func 53) #[] #[]] w fun e w' => e = .returned (.bool (impl_isEmpty.f b)) ∧ Below w.heap.size w w' := by
 have C := impl_isEmpty.look b g _ w hg rfl; unfold impl_isEmpty.f; generalize impl_isEmpty.idx b 6 0 = i at *; go_enter Try.func52, Try.ntmps52
 go_wp2_with (go_at_call 76; refine C.mono ?_; rintro e w' ⟨rfl, hb'⟩)
 go_ret; exact ⟨rfl, hb'⟩
set_option maxHeartbeats 8000000 in
set_option maxRecDepth 100000 in
theorem impl_isEmpty.calls (b : Nat → Int) (w : World) : Calls Try.prog 27 #[.agg #[.int .i64 (b 0), .int .i64 (b 1), .int .i64 (b 2), .int .i64 (b 3), .int .i64 (b 4), .int .i64 (b 5), .int .i64 (b 6), .int .i64 (b 7), .int .i64 (b 8), .int .i64 (b 9), .int .i64 (b 10), .int .i64 (b 11)]] w fun e w' => e = .returned (.bool (impl_isEmpty.f b)) ∧ Below w.heap.size w w' := by
 have B1 : Aside0 (Below w.heap.size w (w.alloc (.cells #[.int .i64 (b 0), .int .i64 (b 1), .int .i64 (b 2), .int .i64 (b 3), .int .i64 (b 4), .int .i64 (b 5), .int .i64 (b 6), .int .i64 (b 7), .int .i64 (b 8), .int .i64 (b 9), .int .i64 (b 10), .int .i64 (b 11)] 62))) := Aside0.mk ((Below.refl _ w).alloc (Nat.le_refl _) _); have C := impl_isEmpty.has b w.heap.size (w.alloc (.cells #[.int .i64 (b 0), .int .i64 (b 1), .int .i64 (b 2), .int .i64 (b 3), .int .i64 (b 4), .int .i64 (b 5), .int .i64 (b 6), .int .i64 (b 7), .int .i64 (b 8), .int .i64 (b 9), .int .i64 (b 10), .int .i64 (b 11)] 62)) (blk_new w _); have HCC := Aside0.mk C; clear C; go_enter Try.func27, Try.ntmps27
 go_wp2_with fail
 refine HCC.out.mono ?_; rintro e w' ⟨rfl, hb'⟩; go_wp2; go_ret; exact ⟨rfl, B1.out.trans (hb'.mono B1.out.size)⟩

end Go.Proofs.Ytbmpkggjcnmieaa.PAll
