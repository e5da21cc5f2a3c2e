-- Written by wip/tools/hp.py over the kit's print (not by hand): functions and walks of All.
import Derived.Test.YtbmpkggjcnmieaaPAllx0
import Derived.Test.YtbmpkggjcnmieaaPAllx4
import Derived.Test.YtbmpkggjcnmieaaPAllx5
namespace Go.Proofs.Ytbmpkggjcnmieaa.PAll
open Go.RowKit Go.Proofs.YtbmpkggjcnmieaaW.PrintWords Go.Proofs.YtbmpkggjcnmieaaW.PrintLast Go.Proofs.YtbmpkggjcnmieaaW.PrintMore
attribute [local go_sem] max2_int min2_int max_two min_two max_three min_three max_four min_four   -- for this text's walks alone
set_option linter.unusedVariables false
set_option linter.unusedSimpArgs false

/-! ### impl_bounds: function 26, by hand -/
def impl_bounds.all : Nat → Int
 | 2 => 1 | 3 => 999 | 5 => 1000000 | 7 => 23 | 8 => 1 | 9 => 7 | 11 => 120 | _ => 0
set_option maxHeartbeats 8000000 in
set_option maxRecDepth 100000 in
theorem impl_bounds.calls (a0_0 : ByteArray) (A1 : Option Addr) (c1 : Nat) (l0_1 : List S47) (a0_2 a0_3 : Int) (w : World) (hr : Kd.C k47 w A1 l0_1.length l0_1) (hc : l0_1.length ≤ c1) (ht : ∀ x ∈ l0_1, 1 ≤ x.f0 ∧ x.f0 ≤ 5) :
  Calls Try.prog 26 #[.agg #[.string a0_0, .slice A1 l0_1.length c1, .int .i64 a0_2, .int .i64 a0_3]] w fun e w' => e = .returned (.agg #[.int .i64 ((impl_narrowed.go impl_bounds.all l0_1) 0), .int .i64 ((impl_narrowed.go impl_bounds.all l0_1) 1), .int .i64 ((impl_narrowed.go impl_bounds.all l0_1) 2), .int .i64 ((impl_narrowed.go impl_bounds.all l0_1) 3), .int .i64 ((impl_narrowed.go impl_bounds.all l0_1) 4), .int .i64 ((impl_narrowed.go impl_bounds.all l0_1) 5), .int .i64 ((impl_narrowed.go impl_bounds.all l0_1) 6), .int .i64 ((impl_narrowed.go impl_bounds.all l0_1) 7), .int .i64 ((impl_narrowed.go impl_bounds.all l0_1) 8), .int .i64 ((impl_narrowed.go impl_bounds.all l0_1) 9), .int .i64 ((impl_narrowed.go impl_bounds.all l0_1) 10), .int .i64 ((impl_narrowed.go impl_bounds.all l0_1) 11)]) ∧ Below w.heap.size w w' := by
 have B2 : Aside0 (Below w.heap.size w ((w.alloc (.cells #[.string a0_0, .slice A1 l0_1.length c1, .int .i64 a0_2, .int .i64 a0_3] 37)).alloc (.cells #[.int .i64 0, .int .i64 0, .int .i64 0, .int .i64 0, .int .i64 0, .int .i64 0, .int .i64 0, .int .i64 0, .int .i64 0, .int .i64 0, .int .i64 0, .int .i64 0] 62))) := Aside0.mk (((Below.refl _ w).alloc (Nat.le_refl _) _).alloc (by simp) _); have D1 : Aside0 (((w.alloc (.cells #[.string a0_0, .slice A1 l0_1.length c1, .int .i64 a0_2, .int .i64 a0_3] 37)).alloc (.cells #[.int .i64 0, .int .i64 0, .int .i64 0, .int .i64 0, .int .i64 0, .int .i64 0, .int .i64 0, .int .i64 0, .int .i64 0, .int .i64 0, .int .i64 0, .int .i64 0] 62)).heap[w.heap.size]? = some (.cells #[.string a0_0, .slice A1 l0_1.length c1, .int .i64 a0_2, .int .i64 a0_3] 37 (0, 0))) := Aside0.mk (blk_alloc (blk_new w _) _); have D2 : Aside0 (((w.alloc (.cells #[.string a0_0, .slice A1 l0_1.length c1, .int .i64 a0_2, .int .i64 a0_3] 37)).alloc (.cells #[.int .i64 0, .int .i64 0, .int .i64 0, .int .i64 0, .int .i64 0, .int .i64 0, .int .i64 0, .int .i64 0, .int .i64 0, .int .i64 0, .int .i64 0, .int .i64 0] 62)).heap[w.heap.size + 1]? = some (.cells #[.int .i64 0, .int .i64 0, .int .i64 0, .int .i64 0, .int .i64 0, .int .i64 0, .int .i64 0, .int .i64 0, .int .i64 0, .int .i64 0, .int .i64 0, .int .i64 0] 62 (0, 0))) := Aside0.mk (by simpa using blk_new (w.alloc (.cells #[.string a0_0, .slice A1 l0_1.length c1, .int .i64 a0_2, .int .i64 a0_3] 37)) (.cells #[.int .i64 0, .int .i64 0, .int .i64 0, .int .i64 0, .int .i64 0, .int .i64 0, .int .i64 0, .int .i64 0, .int .i64 0, .int .i64 0, .int .i64 0, .int .i64 0] 62)); have HR := Aside0.mk hr; have HC := Aside0.mk hc; have HT := Aside0.mk ht; clear hr hc ht; have hsz : w.heap.size + 1 < ((w.alloc (.cells #[.string a0_0, .slice A1 l0_1.length c1, .int .i64 a0_2, .int .i64 a0_3] 37)).alloc (.cells #[.int .i64 0, .int .i64 0, .int .i64 0, .int .i64 0, .int .i64 0, .int .i64 0, .int .i64 0, .int .i64 0, .int .i64 0, .int .i64 0, .int .i64 0, .int .i64 0] 62)).heap.size := blk_lt D2.out; go_enter Try.func26, Try.ntmps26; go_wp2; generalize (w.alloc (.cells #[.string a0_0, .slice A1 l0_1.length c1, .int .i64 a0_2, .int .i64 a0_3] 37)).alloc (.cells #[.int .i64 0, .int .i64 0, .int .i64 0, .int .i64 0, .int .i64 0, .int .i64 0, .int .i64 0, .int .i64 0, .int .i64 0, .int .i64 0, .int .i64 0, .int .i64 0] 62) = w2 at *; have e1 : w2.cell? ⟨w.heap.size, 1, none⟩ = some (.slice A1 l0_1.length c1) := (blk_cell D1.out 1).trans rfl
 go_region_with (first
  | (go_at_call 40; refine (impl_allBounds.calls _).mono ?_; rintro e w3 ⟨rfl, hb1⟩; have hb3 := (below_drew1 (Below.refl w2.heap.size w2)).trans hb1; clear hb1; have e3 : w3.cell? ⟨w.heap.size, 1, none⟩ = some (.slice A1 l0_1.length c1) := (blk_cell (blk_below D1.out hb3) 1).trans rfl)
  | (go_at_call 51; refine (impl_narrowed.calls impl_bounds.all A1 c1 l0_1 _ (Kd.C_below HR.out (B2.out.trans (hb3.mono B2.out.size))) HC.out HT.out).mono ?_; rintro e w4 ⟨rfl, hb4⟩; have hb5 := hb3.trans (hb4.mono hb3.size); have D3 := blk_below D2.out hb5; have z0 := (blk_cell D3 0).trans rfl; have f0 := blk_frozen D3 0; have z1 := (blk_cell D3 1).trans rfl; have f1 := blk_frozen D3 1; have z2 := (blk_cell D3 2).trans rfl; have f2 := blk_frozen D3 2; have z3 := (blk_cell D3 3).trans rfl; have f3 := blk_frozen D3 3; have z4 := (blk_cell D3 4).trans rfl; have f4 := blk_frozen D3 4; have z5 := (blk_cell D3 5).trans rfl; have f5 := blk_frozen D3 5; have z6 := (blk_cell D3 6).trans rfl; have f6 := blk_frozen D3 6; have z7 := (blk_cell D3 7).trans rfl; have f7 := blk_frozen D3 7; have z8 := (blk_cell D3 8).trans rfl; have f8 := blk_frozen D3 8; have z9 := (blk_cell D3 9).trans rfl; have f9 := blk_frozen D3 9; have z10 := (blk_cell D3 10).trans rfl; have f10 := blk_frozen D3 10; have z11 := (blk_cell D3 11).trans rfl; have f11 := blk_frozen D3 11))
 all_goals go_wp2
 all_goals (
  refine bodyPost_ret (results_single rfl (.cell (w.heap.size + 1) 62 #[.int .i64 ((impl_narrowed.go impl_bounds.all l0_1) 0), .int .i64 ((impl_narrowed.go impl_bounds.all l0_1) 1), .int .i64 ((impl_narrowed.go impl_bounds.all l0_1) 2), .int .i64 ((impl_narrowed.go impl_bounds.all l0_1) 3), .int .i64 ((impl_narrowed.go impl_bounds.all l0_1) 4), .int .i64 ((impl_narrowed.go impl_bounds.all l0_1) 5), .int .i64 ((impl_narrowed.go impl_bounds.all l0_1) 6), .int .i64 ((impl_narrowed.go impl_bounds.all l0_1) 7), .int .i64 ((impl_narrowed.go impl_bounds.all l0_1) 8), .int .i64 ((impl_narrowed.go impl_bounds.all l0_1) 9), .int .i64 ((impl_narrowed.go impl_bounds.all l0_1) 10), .int .i64 ((impl_narrowed.go impl_bounds.all l0_1) 11)] (0, 0) _ rfl (by simpa using blk_set (blk_set (blk_set (blk_set (blk_set (blk_set (blk_set (blk_set (blk_set (blk_set (blk_set (blk_set (D3) 0 (.int .i64 ((impl_narrowed.go impl_bounds.all l0_1) 0))) 1 (.int .i64 ((impl_narrowed.go impl_bounds.all l0_1) 1))) 2 (.int .i64 ((impl_narrowed.go impl_bounds.all l0_1) 2))) 3 (.int .i64 ((impl_narrowed.go impl_bounds.all l0_1) 3))) 4 (.int .i64 ((impl_narrowed.go impl_bounds.all l0_1) 4))) 5 (.int .i64 ((impl_narrowed.go impl_bounds.all l0_1) 5))) 6 (.int .i64 ((impl_narrowed.go impl_bounds.all l0_1) 6))) 7 (.int .i64 ((impl_narrowed.go impl_bounds.all l0_1) 7))) 8 (.int .i64 ((impl_narrowed.go impl_bounds.all l0_1) 8))) 9 (.int .i64 ((impl_narrowed.go impl_bounds.all l0_1) 9))) 10 (.int .i64 ((impl_narrowed.go impl_bounds.all l0_1) 10))) 11 (.int .i64 ((impl_narrowed.go impl_bounds.all l0_1) 11))) Try.underlying62 rfl (by kernel_rfl) .nil)) rfl ?_; refine ⟨rfl, ?_⟩
  repeat (refine below_set ?_ (Nat.le_succ _))
  exact B2.out.trans (hb5.mono B2.out.size))

-- NOT PRINTED: function 76 (slices_IndexFunc_2_int_2_int)

-- NOT PRINTED: function 52 (slices_ContainsFunc_2_int_2_int)

-- NOT PRINTED: function 53 (impl_bounds_isEmpty_1)

/-! ### impl_isEmpty: function 27, by hand -/
set_option maxHeartbeats 8000000 in
set_option maxRecDepth 100000 in
theorem impl_isEmpty_1.calls (lo hi : Int) (w : World) : Calls Try.prog 53 #[.agg #[.int .i64 lo, .int .i64 hi]] w fun e w' => e = .returned (.bool (decide (lo > hi))) ∧ Below w.heap.size w w' := by
 go_enter Try.func53, Try.ntmps53; go_wp2; go_ret; exact ⟨rfl, (Below.refl _ w).alloc (Nat.le_refl _) _⟩
def impl_isEmpty.idx (b : Nat → Int) : Nat → Nat → Int
 | 0, _ => -1
 | d + 1, i => if b (2 * i) > b (2 * i + 1) then (i : Int) else impl_isEmpty.idx b d (i + 1)
set_option maxHeartbeats 8000000 in
set_option maxRecDepth 100000 in
theorem impl_isEmpty.look (b : Nat → Int) (g : Nat) (r : Int) (w : World) (hg : w.heap[g]? = some (.cells #[.int .i64 (b 0), .int .i64 (b 1), .int .i64 (b 2), .int .i64 (b 3), .int .i64 (b 4), .int .i64 (b 5), .int .i64 (b 6), .int .i64 (b 7), .int .i64 (b 8), .int .i64 (b 9), .int .i64 (b 10), .int .i64 (b 11)] 62 (0, 0))) (h : impl_isEmpty.idx b 6 0 = r) :
  Calls Try.prog 76 #[.slice (some ⟨g, 0, none⟩) 6 6, .func (.func 53) #[] #[]] w fun e w' => e = .returned (.int .i64 r) ∧ Below w.heap.size w w' := by
 have HG := Aside0.mk hg; have H := Aside0.mk h; clear hg h; go_enter Try.func76, Try.ntmps76; go_wp2
 go_loopg [5, 8] 6 (fun gg _ s8 wr => ∃ kk : Nat, kk ≤ 6 ∧ 6 - kk ≤ gg ∧ s8 = .int .i64 kk ∧ Aside0 (Below w.heap.size w wr) ∧ Aside0 (impl_isEmpty.idx b (6 - kk) kk = r))
 case atStart => exact ⟨0, by omega, by omega, rfl, ⟨Below.refl _ w⟩, ⟨H.out⟩⟩
 case round =>
  obtain ⟨kk, hkk, hgg, rfl, BW, HF⟩ := hrel; by_cases hlt : kk < 6
  ·have hk6 : kk = 0 ∨ kk = 1 ∨ kk = 2 ∨ kk = 3 ∨ kk = 4 ∨ kk = 5 := by omega
   rcases hk6 with rfl | rfl | rfl | rfl | rfl | rfl
   ·have y0 : wr.cell? ⟨g, 0, none⟩ = some (.int .i64 (b 0)) := (blk_cell (blk_below HG.out BW.out) 0).trans rfl; have y1 : wr.cell? ⟨g, 1, none⟩ = some (.int .i64 (b 1)) := (blk_cell (blk_below HG.out BW.out) 1).trans rfl; have hv : impl_isEmpty.idx b 6 0 = r := HF.out; rw [impl_isEmpty.idx] at hv
    have hcall := fun W => impl_isEmpty_1.calls (b (2 * 0)) (b (2 * 0 + 1)) W
    simp only [Nat.reduceMul, Nat.reduceAdd] at hcall hv; have HCL := Aside0.mk hcall; clear hcall; by_cases c : b 0 > b 1
    ·rw [if_pos c] at hv; have HV := Aside0.mk hv; clear hv; have cd : decide (b 1 < b 0) = true := decide_eq_true c
     go_wp2_with (go_at_call 53; refine (HCL.out _).mono ?_; rintro e w' ⟨rfl, hb'⟩)
     go_ret; exact ⟨by rw [← HV.out]; rfl, BW.out.trans (hb'.mono BW.out.size)⟩
    ·rw [if_neg c] at hv; have HV := Aside0.mk hv; clear hv; have cd : decide (b 1 < b 0) = false := decide_eq_false c
     go_wp2_with (go_at_call 53; refine (HCL.out _).mono ?_; rintro e w' ⟨rfl, hb'⟩)
     go_roundg 5
     case measure => omega
     case rel => exact ⟨1, by omega, by omega, by go_num, ⟨BW.out.trans (hb'.mono BW.out.size)⟩, ⟨HV.out⟩⟩
   ·have y0 : wr.cell? ⟨g, 2, none⟩ = some (.int .i64 (b 2)) := (blk_cell (blk_below HG.out BW.out) 2).trans rfl; have y1 : wr.cell? ⟨g, 3, none⟩ = some (.int .i64 (b 3)) := (blk_cell (blk_below HG.out BW.out) 3).trans rfl; have hv : impl_isEmpty.idx b 5 1 = r := HF.out; rw [impl_isEmpty.idx] at hv
    have hcall := fun W => impl_isEmpty_1.calls (b (2 * 1)) (b (2 * 1 + 1)) W
    simp only [Nat.reduceMul, Nat.reduceAdd] at hcall hv; have HCL := Aside0.mk hcall; clear hcall; by_cases c : b 2 > b 3
    ·rw [if_pos c] at hv; have HV := Aside0.mk hv; clear hv; have cd : decide (b 3 < b 2) = true := decide_eq_true c
     go_wp2_with (go_at_call 53; refine (HCL.out _).mono ?_; rintro e w' ⟨rfl, hb'⟩)
     go_ret; exact ⟨by rw [← HV.out]; rfl, BW.out.trans (hb'.mono BW.out.size)⟩
    ·rw [if_neg c] at hv; have HV := Aside0.mk hv; clear hv; have cd : decide (b 3 < b 2) = false := decide_eq_false c
     go_wp2_with (go_at_call 53; refine (HCL.out _).mono ?_; rintro e w' ⟨rfl, hb'⟩)
     go_roundg 4
     case measure => omega
     case rel => exact ⟨2, by omega, by omega, by go_num, ⟨BW.out.trans (hb'.mono BW.out.size)⟩, ⟨HV.out⟩⟩
   ·have y0 : wr.cell? ⟨g, 4, none⟩ = some (.int .i64 (b 4)) := (blk_cell (blk_below HG.out BW.out) 4).trans rfl; have y1 : wr.cell? ⟨g, 5, none⟩ = some (.int .i64 (b 5)) := (blk_cell (blk_below HG.out BW.out) 5).trans rfl; have hv : impl_isEmpty.idx b 4 2 = r := HF.out; rw [impl_isEmpty.idx] at hv
    have hcall := fun W => impl_isEmpty_1.calls (b (2 * 2)) (b (2 * 2 + 1)) W
    simp only [Nat.reduceMul, Nat.reduceAdd] at hcall hv; have HCL := Aside0.mk hcall; clear hcall; by_cases c : b 4 > b 5
    ·rw [if_pos c] at hv; have HV := Aside0.mk hv; clear hv; have cd : decide (b 5 < b 4) = true := decide_eq_true c
     go_wp2_with (go_at_call 53; refine (HCL.out _).mono ?_; rintro e w' ⟨rfl, hb'⟩)
     go_ret; exact ⟨by rw [← HV.out]; rfl, BW.out.trans (hb'.mono BW.out.size)⟩
    ·rw [if_neg c] at hv; have HV := Aside0.mk hv; clear hv; have cd : decide (b 5 < b 4) = false := decide_eq_false c
     go_wp2_with (go_at_call 53; refine (HCL.out _).mono ?_; rintro e w' ⟨rfl, hb'⟩)
     go_roundg 3
     case measure => omega
     case rel => exact ⟨3, by omega, by omega, by go_num, ⟨BW.out.trans (hb'.mono BW.out.size)⟩, ⟨HV.out⟩⟩
   ·have y0 : wr.cell? ⟨g, 6, none⟩ = some (.int .i64 (b 6)) := (blk_cell (blk_below HG.out BW.out) 6).trans rfl; have y1 : wr.cell? ⟨g, 7, none⟩ = some (.int .i64 (b 7)) := (blk_cell (blk_below HG.out BW.out) 7).trans rfl; have hv : impl_isEmpty.idx b 3 3 = r := HF.out; rw [impl_isEmpty.idx] at hv
    have hcall := fun W => impl_isEmpty_1.calls (b (2 * 3)) (b (2 * 3 + 1)) W
    simp only [Nat.reduceMul, Nat.reduceAdd] at hcall hv; have HCL := Aside0.mk hcall; clear hcall; by_cases c : b 6 > b 7
    ·rw [if_pos c] at hv; have HV := Aside0.mk hv; clear hv; have cd : decide (b 7 < b 6) = true := decide_eq_true c
     go_wp2_with (go_at_call 53; refine (HCL.out _).mono ?_; rintro e w' ⟨rfl, hb'⟩)
     go_ret; exact ⟨by rw [← HV.out]; rfl, BW.out.trans (hb'.mono BW.out.size)⟩
    ·rw [if_neg c] at hv; have HV := Aside0.mk hv; clear hv; have cd : decide (b 7 < b 6) = false := decide_eq_false c
     go_wp2_with (go_at_call 53; refine (HCL.out _).mono ?_; rintro e w' ⟨rfl, hb'⟩)
     go_roundg 2
     case measure => omega
     case rel => exact ⟨4, by omega, by omega, by go_num, ⟨BW.out.trans (hb'.mono BW.out.size)⟩, ⟨HV.out⟩⟩
   ·have y0 : wr.cell? ⟨g, 8, none⟩ = some (.int .i64 (b 8)) := (blk_cell (blk_below HG.out BW.out) 8).trans rfl; have y1 : wr.cell? ⟨g, 9, none⟩ = some (.int .i64 (b 9)) := (blk_cell (blk_below HG.out BW.out) 9).trans rfl; have hv : impl_isEmpty.idx b 2 4 = r := HF.out; rw [impl_isEmpty.idx] at hv
    have hcall := fun W => impl_isEmpty_1.calls (b (2 * 4)) (b (2 * 4 + 1)) W
    simp only [Nat.reduceMul, Nat.reduceAdd] at hcall hv; have HCL := Aside0.mk hcall; clear hcall; by_cases c : b 8 > b 9
    ·rw [if_pos c] at hv; have HV := Aside0.mk hv; clear hv; have cd : decide (b 9 < b 8) = true := decide_eq_true c
     go_wp2_with (go_at_call 53; refine (HCL.out _).mono ?_; rintro e w' ⟨rfl, hb'⟩)
     go_ret; exact ⟨by rw [← HV.out]; rfl, BW.out.trans (hb'.mono BW.out.size)⟩
    ·rw [if_neg c] at hv; have HV := Aside0.mk hv; clear hv; have cd : decide (b 9 < b 8) = false := decide_eq_false c
     go_wp2_with (go_at_call 53; refine (HCL.out _).mono ?_; rintro e w' ⟨rfl, hb'⟩)
     go_roundg 1
     case measure => omega
     case rel => exact ⟨5, by omega, by omega, by go_num, ⟨BW.out.trans (hb'.mono BW.out.size)⟩, ⟨HV.out⟩⟩
   ·have y0 : wr.cell? ⟨g, 10, none⟩ = some (.int .i64 (b 10)) := (blk_cell (blk_below HG.out BW.out) 10).trans rfl; have y1 : wr.cell? ⟨g, 11, none⟩ = some (.int .i64 (b 11)) := (blk_cell (blk_below HG.out BW.out) 11).trans rfl; have hv : impl_isEmpty.idx b 1 5 = r := HF.out; rw [impl_isEmpty.idx] at hv
    have hcall := fun W => impl_isEmpty_1.calls (b (2 * 5)) (b (2 * 5 + 1)) W
    simp only [Nat.reduceMul, Nat.reduceAdd] at hcall hv; have HCL := Aside0.mk hcall; clear hcall; by_cases c : b 10 > b 11
    ·rw [if_pos c] at hv; have HV := Aside0.mk hv; clear hv; have cd : decide (b 11 < b 10) = true := decide_eq_true c
     go_wp2_with (go_at_call 53; refine (HCL.out _).mono ?_; rintro e w' ⟨rfl, hb'⟩)
     go_ret; exact ⟨by rw [← HV.out]; rfl, BW.out.trans (hb'.mono BW.out.size)⟩
    ·rw [if_neg c] at hv; have HV := Aside0.mk hv; clear hv; have cd : decide (b 11 < b 10) = false := decide_eq_false c
     go_wp2_with (go_at_call 53; refine (HCL.out _).mono ?_; rintro e w' ⟨rfl, hb'⟩)
     go_roundg 0
     case measure => omega
     case rel => exact ⟨6, by omega, by omega, by go_num, ⟨BW.out.trans (hb'.mono BW.out.size)⟩, ⟨HV.out⟩⟩
  ·have : kk = 6 := by omega
   subst this; have hr_ : -1 = r := HF.out; have HX := Aside0.mk hr_; clear hr_; go_wp2; go_ret; exact ⟨by rw [← HX.out]; rfl, BW.out⟩
def impl_isEmpty.f (b : Nat → Int) : Bool := decide (0 ≤ impl_isEmpty.idx b 6 0)
set_option maxHeartbeats 8000000 in
set_option maxRecDepth 100000 in
theorem impl_isEmpty.has (b : Nat → Int) (g : Nat) (w : World) (hg : w.heap[g]? = some (.cells #[.int .i64 (b 0), .int .i64 (b 1), .int .i64 (b 2), .int .i64 (b 3), .int .i64 (b 4), .int .i64 (b 5), .int .i64 (b 6), .int .i64 (b 7), .int .i64 (b 8), .int .i64 (b 9), .int .i64 (b 10), .int .i64 (b 11)] 62 (0, 0))) :
  Calls Try.prog 52 #[.slice (some ⟨g, 0, none⟩) 6 6, .func (.func 53) #[] #[]] w fun e w' => e = .returned (.bool (impl_isEmpty.f b)) ∧ Below w.heap.size w w' := by
 have C := impl_isEmpty.look b g _ w hg rfl; unfold impl_isEmpty.f; generalize impl_isEmpty.idx b 6 0 = i at *; go_enter Try.func52, Try.ntmps52
 go_wp2_with (go_at_call 76; refine C.mono ?_; rintro e w' ⟨rfl, hb'⟩)
 go_ret; exact ⟨rfl, hb'⟩
set_option maxHeartbeats 8000000 in
set_option maxRecDepth 100000 in
theorem impl_isEmpty.calls (b : Nat → Int) (w : World) : Calls Try.prog 27 #[.agg #[.int .i64 (b 0), .int .i64 (b 1), .int .i64 (b 2), .int .i64 (b 3), .int .i64 (b 4), .int .i64 (b 5), .int .i64 (b 6), .int .i64 (b 7), .int .i64 (b 8), .int .i64 (b 9), .int .i64 (b 10), .int .i64 (b 11)]] w fun e w' => e = .returned (.bool (impl_isEmpty.f b)) ∧ Below w.heap.size w w' := by
 have B1 : Aside0 (Below w.heap.size w (w.alloc (.cells #[.int .i64 (b 0), .int .i64 (b 1), .int .i64 (b 2), .int .i64 (b 3), .int .i64 (b 4), .int .i64 (b 5), .int .i64 (b 6), .int .i64 (b 7), .int .i64 (b 8), .int .i64 (b 9), .int .i64 (b 10), .int .i64 (b 11)] 62))) := Aside0.mk ((Below.refl _ w).alloc (Nat.le_refl _) _); have C := impl_isEmpty.has b w.heap.size (w.alloc (.cells #[.int .i64 (b 0), .int .i64 (b 1), .int .i64 (b 2), .int .i64 (b 3), .int .i64 (b 4), .int .i64 (b 5), .int .i64 (b 6), .int .i64 (b 7), .int .i64 (b 8), .int .i64 (b 9), .int .i64 (b 10), .int .i64 (b 11)] 62)) (blk_new w _); have HCC := Aside0.mk C; clear C; go_enter Try.func27, Try.ntmps27
 go_wp2_with fail
 refine HCC.out.mono ?_; rintro e w' ⟨rfl, hb'⟩; go_wp2; go_ret; exact ⟨rfl, B1.out.trans (hb'.mono B1.out.size)⟩

/-! ### impl_Clause_28: function 28, by hand, over whatever function value -/
def impl_Clause_28.f (p : S37 → Option Bool) (l : List S37) : Option Bool := (impl_Clause_41.f p l 0).bind fun i => some (decide (i ≥ 0))
theorem impl_Clause_28.mono (p q : S37 → Option Bool) (h : ∀ x, LeO (p x) (q x)) (l : List S37) : LeO (impl_Clause_28.f p l) (impl_Clause_28.f q l) := LeO.bind (impl_Clause_41.mono p q h l 0) (fun _ => LeO.refl _)
set_option maxHeartbeats 8000000 in
set_option maxRecDepth 100000 in
theorem impl_Clause_28.calls (p : S37 → Option Bool) (l0 : List S37) (A0 : Option Addr) (c0 : Nat) (g : Nat) (lb : Array Value) (r : Bool) (w : World) (eg : ∀ args w, (callFunc g args).run Try.prog w = .ok (.enter g args) w)
  (hp : ∀ (W_ : World) (x_ : S37) (A_1 : Option Addr) (c_1 : Nat) (b_ : Bool), Below w.heap.size w W_ → Kd.C k47 W_ A_1 x_.f1.length x_.f1 → x_.f1.length ≤ c_1 → p x_ = some b_ → Calls Try.prog g (#[.agg #[.string x_.f0, .slice A_1 x_.f1.length c_1, .int .i64 x_.f2, .int .i64 x_.f3]] ++ lb) W_ fun e w' => e = .returned (.bool b_) ∧ Below W_.heap.size W_ w')
  (hr0 : Kd.C k37 w A0 l0.length l0) (hc0 : l0.length ≤ c0) (h : impl_Clause_28.f p l0 = some r) :
  Calls Try.prog 28 #[.slice A0 l0.length c0, .func (.func g) #[] lb] w fun e w' => e = .returned (.bool r) ∧ Below w.heap.size w w' := by
 obtain ⟨i, hi, h2⟩ := Option.bind_eq_some_iff.mp h; have hr_ : decide (i ≥ 0) = r := Option.some.inj h2; have C := impl_Clause_41.calls p l0 A0 c0 g lb i w eg hp hr0 hc0 hi; have HR_ := Aside0.mk hr_; clear h hi h2 hp hr_; by_cases hpos : 0 ≤ i
 ·have hd : decide (0 ≤ i) = true := decide_eq_true hpos; go_enter Try.func28, Try.ntmps28
  go_wp2_with (go_at_call 41; refine C.mono ?_; rintro e w' ⟨rfl, hb'⟩)
  go_ret; exact ⟨by rw [← HR_.out, decide_eq_true (show i ≥ 0 by omega)]; rfl, hb'⟩
 ·have hd : decide (0 ≤ i) = false := decide_eq_false hpos; go_enter Try.func28, Try.ntmps28
  go_wp2_with (go_at_call 41; refine C.mono ?_; rintro e w' ⟨rfl, hb'⟩)
  go_ret; exact ⟨by rw [← HR_.out, decide_eq_false (show ¬ i ≥ 0 by omega)]; rfl, hb'⟩

/-! ### impl_covers: function 30, by hand -/
def impl_covers.go (b c : Nat → Int) : Nat → Nat → Bool
 | 0, _ => true
 | d + 1, i => if c (2 * i) < b (2 * i) then false else if c (2 * i + 1) > b (2 * i + 1) then false else impl_covers.go b c d (i + 1)
set_option maxHeartbeats 8000000 in
set_option maxRecDepth 100000 in
theorem impl_covers.calls (b c : Nat → Int) (r : Bool) (w : World) (h : impl_covers.go b c 6 0 = r) :
  Calls Try.prog 30 #[.agg #[.int .i64 (b 0), .int .i64 (b 1), .int .i64 (b 2), .int .i64 (b 3), .int .i64 (b 4), .int .i64 (b 5), .int .i64 (b 6), .int .i64 (b 7), .int .i64 (b 8), .int .i64 (b 9), .int .i64 (b 10), .int .i64 (b 11)], .agg #[.int .i64 (c 0), .int .i64 (c 1), .int .i64 (c 2), .int .i64 (c 3), .int .i64 (c 4), .int .i64 (c 5), .int .i64 (c 6), .int .i64 (c 7), .int .i64 (c 8), .int .i64 (c 9), .int .i64 (c 10), .int .i64 (c 11)]] w fun e w' => e = .returned (.bool r) ∧ Below w.heap.size w w' := by
 have H := Aside0.mk h; clear h; have B2 : Aside0 (Below w.heap.size w ((w.alloc (.cells #[.int .i64 (b 0), .int .i64 (b 1), .int .i64 (b 2), .int .i64 (b 3), .int .i64 (b 4), .int .i64 (b 5), .int .i64 (b 6), .int .i64 (b 7), .int .i64 (b 8), .int .i64 (b 9), .int .i64 (b 10), .int .i64 (b 11)] 62)).alloc (.cells #[.int .i64 (c 0), .int .i64 (c 1), .int .i64 (c 2), .int .i64 (c 3), .int .i64 (c 4), .int .i64 (c 5), .int .i64 (c 6), .int .i64 (c 7), .int .i64 (c 8), .int .i64 (c 9), .int .i64 (c 10), .int .i64 (c 11)] 62))) := Aside0.mk (((Below.refl _ w).alloc (Nat.le_refl _) _).alloc (by simp) _); have D1 : Aside0 (((w.alloc (.cells #[.int .i64 (b 0), .int .i64 (b 1), .int .i64 (b 2), .int .i64 (b 3), .int .i64 (b 4), .int .i64 (b 5), .int .i64 (b 6), .int .i64 (b 7), .int .i64 (b 8), .int .i64 (b 9), .int .i64 (b 10), .int .i64 (b 11)] 62)).alloc (.cells #[.int .i64 (c 0), .int .i64 (c 1), .int .i64 (c 2), .int .i64 (c 3), .int .i64 (c 4), .int .i64 (c 5), .int .i64 (c 6), .int .i64 (c 7), .int .i64 (c 8), .int .i64 (c 9), .int .i64 (c 10), .int .i64 (c 11)] 62)).heap[w.heap.size]? = some (.cells #[.int .i64 (b 0), .int .i64 (b 1), .int .i64 (b 2), .int .i64 (b 3), .int .i64 (b 4), .int .i64 (b 5), .int .i64 (b 6), .int .i64 (b 7), .int .i64 (b 8), .int .i64 (b 9), .int .i64 (b 10), .int .i64 (b 11)] 62 (0, 0))) := Aside0.mk (blk_alloc (blk_new w _) _); have D2 : Aside0 (((w.alloc (.cells #[.int .i64 (b 0), .int .i64 (b 1), .int .i64 (b 2), .int .i64 (b 3), .int .i64 (b 4), .int .i64 (b 5), .int .i64 (b 6), .int .i64 (b 7), .int .i64 (b 8), .int .i64 (b 9), .int .i64 (b 10), .int .i64 (b 11)] 62)).alloc (.cells #[.int .i64 (c 0), .int .i64 (c 1), .int .i64 (c 2), .int .i64 (c 3), .int .i64 (c 4), .int .i64 (c 5), .int .i64 (c 6), .int .i64 (c 7), .int .i64 (c 8), .int .i64 (c 9), .int .i64 (c 10), .int .i64 (c 11)] 62)).heap[w.heap.size + 1]? = some (.cells #[.int .i64 (c 0), .int .i64 (c 1), .int .i64 (c 2), .int .i64 (c 3), .int .i64 (c 4), .int .i64 (c 5), .int .i64 (c 6), .int .i64 (c 7), .int .i64 (c 8), .int .i64 (c 9), .int .i64 (c 10), .int .i64 (c 11)] 62 (0, 0))) := Aside0.mk (by simpa using blk_new (w.alloc (.cells #[.int .i64 (b 0), .int .i64 (b 1), .int .i64 (b 2), .int .i64 (b 3), .int .i64 (b 4), .int .i64 (b 5), .int .i64 (b 6), .int .i64 (b 7), .int .i64 (b 8), .int .i64 (b 9), .int .i64 (b 10), .int .i64 (b 11)] 62)) (.cells #[.int .i64 (c 0), .int .i64 (c 1), .int .i64 (c 2), .int .i64 (c 3), .int .i64 (c 4), .int .i64 (c 5), .int .i64 (c 6), .int .i64 (c 7), .int .i64 (c 8), .int .i64 (c 9), .int .i64 (c 10), .int .i64 (c 11)] 62)); go_enter Try.func30, Try.ntmps30; go_wp2; generalize (w.alloc (.cells #[.int .i64 (b 0), .int .i64 (b 1), .int .i64 (b 2), .int .i64 (b 3), .int .i64 (b 4), .int .i64 (b 5), .int .i64 (b 6), .int .i64 (b 7), .int .i64 (b 8), .int .i64 (b 9), .int .i64 (b 10), .int .i64 (b 11)] 62)).alloc (.cells #[.int .i64 (c 0), .int .i64 (c 1), .int .i64 (c 2), .int .i64 (c 3), .int .i64 (c 4), .int .i64 (c 5), .int .i64 (c 6), .int .i64 (c 7), .int .i64 (c 8), .int .i64 (c 9), .int .i64 (c 10), .int .i64 (c 11)] 62) = w2 at *
 go_loopg [5, 6] 6 (fun gg _ s6 wr => ∃ kk : Nat, kk ≤ 6 ∧ 6 - kk ≤ gg ∧ s6 = .int .i64 kk ∧ Aside0 (Below w2.heap.size w2 wr) ∧ Aside0 (impl_covers.go b c (6 - kk) kk = r))
 case atStart => exact ⟨0, by omega, by omega, rfl, ⟨Below.refl _ _⟩, ⟨H.out⟩⟩
 case round =>
  obtain ⟨kk, hkk, hg, rfl, BW, HF⟩ := hrel; by_cases hlt : kk < 6
  ·have hk6 : kk = 0 ∨ kk = 1 ∨ kk = 2 ∨ kk = 3 ∨ kk = 4 ∨ kk = 5 := by omega
   rcases hk6 with rfl | rfl | rfl | rfl | rfl | rfl
   ·have hv : (if c 0 < b 0 then false else if c 1 > b 1 then false else impl_covers.go b c 5 1) = r := HF.out; have yb0 : wr.cell? ⟨w.heap.size, 0, none⟩ = some (.int .i64 (b 0)) := (blk_cell (blk_below D1.out BW.out) 0).trans rfl; have yb1 : wr.cell? ⟨w.heap.size, 1, none⟩ = some (.int .i64 (b 1)) := (blk_cell (blk_below D1.out BW.out) 1).trans rfl; have yc0 : wr.cell? ⟨w.heap.size + 1, 0, none⟩ = some (.int .i64 (c 0)) := (blk_cell (blk_below D2.out BW.out) 0).trans rfl; have yc1 : wr.cell? ⟨w.heap.size + 1, 1, none⟩ = some (.int .i64 (c 1)) := (blk_cell (blk_below D2.out BW.out) 1).trans rfl; by_cases c0 : c 0 < b 0
    ·rw [if_pos c0] at hv; have HV := Aside0.mk hv; clear hv; have c0' : decide (c 0 < b 0) = true := decide_eq_true c0; go_wp2
     go_quiet (fail)
     go_wp2; go_ret; exact ⟨by rw [← HV.out]; rfl, pw_below_drewN (B2.out.trans (BW.out.mono B2.out.size)) _⟩
    ·rw [if_neg c0] at hv; by_cases c1 : c 1 > b 1
     ·rw [if_pos c1] at hv; have HV := Aside0.mk hv; clear hv; have c1' : decide (b 1 < c 1) = true := decide_eq_true c1; have c0' : decide (c 0 < b 0) = false := decide_eq_false c0; go_wp2
      go_quiet (fail)
      go_wp2; go_ret; exact ⟨by rw [← HV.out]; rfl, pw_below_drewN (B2.out.trans (BW.out.mono B2.out.size)) _⟩
     ·rw [if_neg c1] at hv; have HV := Aside0.mk hv; clear hv; have c1' : decide (b 1 < c 1) = false := decide_eq_false c1; have c0' : decide (c 0 < b 0) = false := decide_eq_false c0; go_wp2
      go_quiet (fail)
      go_wp2
      go_roundg 5
      case measure => omega
      case rel => exact ⟨1, by omega, by omega, by go_num, ⟨pw_below_drewN BW.out _⟩, ⟨HV.out⟩⟩
   ·have hv : (if c 2 < b 2 then false else if c 3 > b 3 then false else impl_covers.go b c 4 2) = r := HF.out; have yb0 : wr.cell? ⟨w.heap.size, 2, none⟩ = some (.int .i64 (b 2)) := (blk_cell (blk_below D1.out BW.out) 2).trans rfl; have yb1 : wr.cell? ⟨w.heap.size, 3, none⟩ = some (.int .i64 (b 3)) := (blk_cell (blk_below D1.out BW.out) 3).trans rfl; have yc0 : wr.cell? ⟨w.heap.size + 1, 2, none⟩ = some (.int .i64 (c 2)) := (blk_cell (blk_below D2.out BW.out) 2).trans rfl; have yc1 : wr.cell? ⟨w.heap.size + 1, 3, none⟩ = some (.int .i64 (c 3)) := (blk_cell (blk_below D2.out BW.out) 3).trans rfl; by_cases c0 : c 2 < b 2
    ·rw [if_pos c0] at hv; have HV := Aside0.mk hv; clear hv; have c0' : decide (c 2 < b 2) = true := decide_eq_true c0; go_wp2
     go_quiet (fail)
     go_wp2; go_ret; exact ⟨by rw [← HV.out]; rfl, pw_below_drewN (B2.out.trans (BW.out.mono B2.out.size)) _⟩
    ·rw [if_neg c0] at hv; by_cases c1 : c 3 > b 3
     ·rw [if_pos c1] at hv; have HV := Aside0.mk hv; clear hv; have c1' : decide (b 3 < c 3) = true := decide_eq_true c1; have c0' : decide (c 2 < b 2) = false := decide_eq_false c0; go_wp2
      go_quiet (fail)
      go_wp2; go_ret; exact ⟨by rw [← HV.out]; rfl, pw_below_drewN (B2.out.trans (BW.out.mono B2.out.size)) _⟩
     ·rw [if_neg c1] at hv; have HV := Aside0.mk hv; clear hv; have c1' : decide (b 3 < c 3) = false := decide_eq_false c1; have c0' : decide (c 2 < b 2) = false := decide_eq_false c0; go_wp2
      go_quiet (fail)
      go_wp2
      go_roundg 4
      case measure => omega
      case rel => exact ⟨2, by omega, by omega, by go_num, ⟨pw_below_drewN BW.out _⟩, ⟨HV.out⟩⟩
   ·have hv : (if c 4 < b 4 then false else if c 5 > b 5 then false else impl_covers.go b c 3 3) = r := HF.out; have yb0 : wr.cell? ⟨w.heap.size, 4, none⟩ = some (.int .i64 (b 4)) := (blk_cell (blk_below D1.out BW.out) 4).trans rfl; have yb1 : wr.cell? ⟨w.heap.size, 5, none⟩ = some (.int .i64 (b 5)) := (blk_cell (blk_below D1.out BW.out) 5).trans rfl; have yc0 : wr.cell? ⟨w.heap.size + 1, 4, none⟩ = some (.int .i64 (c 4)) := (blk_cell (blk_below D2.out BW.out) 4).trans rfl; have yc1 : wr.cell? ⟨w.heap.size + 1, 5, none⟩ = some (.int .i64 (c 5)) := (blk_cell (blk_below D2.out BW.out) 5).trans rfl; by_cases c0 : c 4 < b 4
    ·rw [if_pos c0] at hv; have HV := Aside0.mk hv; clear hv; have c0' : decide (c 4 < b 4) = true := decide_eq_true c0; go_wp2
     go_quiet (fail)
     go_wp2; go_ret; exact ⟨by rw [← HV.out]; rfl, pw_below_drewN (B2.out.trans (BW.out.mono B2.out.size)) _⟩
    ·rw [if_neg c0] at hv; by_cases c1 : c 5 > b 5
     ·rw [if_pos c1] at hv; have HV := Aside0.mk hv; clear hv; have c1' : decide (b 5 < c 5) = true := decide_eq_true c1; have c0' : decide (c 4 < b 4) = false := decide_eq_false c0; go_wp2
      go_quiet (fail)
      go_wp2; go_ret; exact ⟨by rw [← HV.out]; rfl, pw_below_drewN (B2.out.trans (BW.out.mono B2.out.size)) _⟩
     ·rw [if_neg c1] at hv; have HV := Aside0.mk hv; clear hv; have c1' : decide (b 5 < c 5) = false := decide_eq_false c1; have c0' : decide (c 4 < b 4) = false := decide_eq_false c0; go_wp2
      go_quiet (fail)
      go_wp2
      go_roundg 3
      case measure => omega
      case rel => exact ⟨3, by omega, by omega, by go_num, ⟨pw_below_drewN BW.out _⟩, ⟨HV.out⟩⟩
   ·have hv : (if c 6 < b 6 then false else if c 7 > b 7 then false else impl_covers.go b c 2 4) = r := HF.out; have yb0 : wr.cell? ⟨w.heap.size, 6, none⟩ = some (.int .i64 (b 6)) := (blk_cell (blk_below D1.out BW.out) 6).trans rfl; have yb1 : wr.cell? ⟨w.heap.size, 7, none⟩ = some (.int .i64 (b 7)) := (blk_cell (blk_below D1.out BW.out) 7).trans rfl; have yc0 : wr.cell? ⟨w.heap.size + 1, 6, none⟩ = some (.int .i64 (c 6)) := (blk_cell (blk_below D2.out BW.out) 6).trans rfl; have yc1 : wr.cell? ⟨w.heap.size + 1, 7, none⟩ = some (.int .i64 (c 7)) := (blk_cell (blk_below D2.out BW.out) 7).trans rfl; by_cases c0 : c 6 < b 6
    ·rw [if_pos c0] at hv; have HV := Aside0.mk hv; clear hv; have c0' : decide (c 6 < b 6) = true := decide_eq_true c0; go_wp2
     go_quiet (fail)
     go_wp2; go_ret; exact ⟨by rw [← HV.out]; rfl, pw_below_drewN (B2.out.trans (BW.out.mono B2.out.size)) _⟩
    ·rw [if_neg c0] at hv; by_cases c1 : c 7 > b 7
     ·rw [if_pos c1] at hv; have HV := Aside0.mk hv; clear hv; have c1' : decide (b 7 < c 7) = true := decide_eq_true c1; have c0' : decide (c 6 < b 6) = false := decide_eq_false c0; go_wp2
      go_quiet (fail)
      go_wp2; go_ret; exact ⟨by rw [← HV.out]; rfl, pw_below_drewN (B2.out.trans (BW.out.mono B2.out.size)) _⟩
     ·rw [if_neg c1] at hv; have HV := Aside0.mk hv; clear hv; have c1' : decide (b 7 < c 7) = false := decide_eq_false c1; have c0' : decide (c 6 < b 6) = false := decide_eq_false c0; go_wp2
      go_quiet (fail)
      go_wp2
      go_roundg 2
      case measure => omega
      case rel => exact ⟨4, by omega, by omega, by go_num, ⟨pw_below_drewN BW.out _⟩, ⟨HV.out⟩⟩
   ·have hv : (if c 8 < b 8 then false else if c 9 > b 9 then false else impl_covers.go b c 1 5) = r := HF.out; have yb0 : wr.cell? ⟨w.heap.size, 8, none⟩ = some (.int .i64 (b 8)) := (blk_cell (blk_below D1.out BW.out) 8).trans rfl; have yb1 : wr.cell? ⟨w.heap.size, 9, none⟩ = some (.int .i64 (b 9)) := (blk_cell (blk_below D1.out BW.out) 9).trans rfl; have yc0 : wr.cell? ⟨w.heap.size + 1, 8, none⟩ = some (.int .i64 (c 8)) := (blk_cell (blk_below D2.out BW.out) 8).trans rfl; have yc1 : wr.cell? ⟨w.heap.size + 1, 9, none⟩ = some (.int .i64 (c 9)) := (blk_cell (blk_below D2.out BW.out) 9).trans rfl; by_cases c0 : c 8 < b 8
    ·rw [if_pos c0] at hv; have HV := Aside0.mk hv; clear hv; have c0' : decide (c 8 < b 8) = true := decide_eq_true c0; go_wp2
     go_quiet (fail)
     go_wp2; go_ret; exact ⟨by rw [← HV.out]; rfl, pw_below_drewN (B2.out.trans (BW.out.mono B2.out.size)) _⟩
    ·rw [if_neg c0] at hv; by_cases c1 : c 9 > b 9
     ·rw [if_pos c1] at hv; have HV := Aside0.mk hv; clear hv; have c1' : decide (b 9 < c 9) = true := decide_eq_true c1; have c0' : decide (c 8 < b 8) = false := decide_eq_false c0; go_wp2
      go_quiet (fail)
      go_wp2; go_ret; exact ⟨by rw [← HV.out]; rfl, pw_below_drewN (B2.out.trans (BW.out.mono B2.out.size)) _⟩
     ·rw [if_neg c1] at hv; have HV := Aside0.mk hv; clear hv; have c1' : decide (b 9 < c 9) = false := decide_eq_false c1; have c0' : decide (c 8 < b 8) = false := decide_eq_false c0; go_wp2
      go_quiet (fail)
      go_wp2
      go_roundg 1
      case measure => omega
      case rel => exact ⟨5, by omega, by omega, by go_num, ⟨pw_below_drewN BW.out _⟩, ⟨HV.out⟩⟩
   ·have hv : (if c 10 < b 10 then false else if c 11 > b 11 then false else impl_covers.go b c 0 6) = r := HF.out; have yb0 : wr.cell? ⟨w.heap.size, 10, none⟩ = some (.int .i64 (b 10)) := (blk_cell (blk_below D1.out BW.out) 10).trans rfl; have yb1 : wr.cell? ⟨w.heap.size, 11, none⟩ = some (.int .i64 (b 11)) := (blk_cell (blk_below D1.out BW.out) 11).trans rfl; have yc0 : wr.cell? ⟨w.heap.size + 1, 10, none⟩ = some (.int .i64 (c 10)) := (blk_cell (blk_below D2.out BW.out) 10).trans rfl; have yc1 : wr.cell? ⟨w.heap.size + 1, 11, none⟩ = some (.int .i64 (c 11)) := (blk_cell (blk_below D2.out BW.out) 11).trans rfl; by_cases c0 : c 10 < b 10
    ·rw [if_pos c0] at hv; have HV := Aside0.mk hv; clear hv; have c0' : decide (c 10 < b 10) = true := decide_eq_true c0; go_wp2
     go_quiet (fail)
     go_wp2; go_ret; exact ⟨by rw [← HV.out]; rfl, pw_below_drewN (B2.out.trans (BW.out.mono B2.out.size)) _⟩
    ·rw [if_neg c0] at hv; by_cases c1 : c 11 > b 11
     ·rw [if_pos c1] at hv; have HV := Aside0.mk hv; clear hv; have c1' : decide (b 11 < c 11) = true := decide_eq_true c1; have c0' : decide (c 10 < b 10) = false := decide_eq_false c0; go_wp2
      go_quiet (fail)
      go_wp2; go_ret; exact ⟨by rw [← HV.out]; rfl, pw_below_drewN (B2.out.trans (BW.out.mono B2.out.size)) _⟩
     ·rw [if_neg c1] at hv; have HV := Aside0.mk hv; clear hv; have c1' : decide (b 11 < c 11) = false := decide_eq_false c1; have c0' : decide (c 10 < b 10) = false := decide_eq_false c0; go_wp2
      go_quiet (fail)
      go_wp2
      go_roundg 0
      case measure => omega
      case rel => exact ⟨6, by omega, by omega, by go_num, ⟨pw_below_drewN BW.out _⟩, ⟨HV.out⟩⟩
  ·have : kk = 6 := by omega
   subst this; have hv : true = r := HF.out; go_wp2; go_ret; exact ⟨by rw [← hv]; rfl, B2.out.trans (BW.out.mono B2.out.size)⟩

/-! ### impl_Hidden_1: function 29, by hand -/
def impl_Hidden_1.p (b : Nat → Int) (x : S37) : Option Bool :=
 if (x.f1.all fun t => decide (1 ≤ t.f0 ∧ t.f0 ≤ 5)) = true then some (impl_covers.go (impl_narrowed.go impl_bounds.all x.f1) b 6 0) else none
set_option maxHeartbeats 8000000 in
set_option maxRecDepth 100000 in
theorem impl_Hidden_1.calls (b : Nat → Int) (x : S37) (A1 : Option Addr) (c1 : Nat) (g : Nat) (r : Bool) (w : World) (hf : w.heap[g]? = some (.cells #[.int .i64 (b 0), .int .i64 (b 1), .int .i64 (b 2), .int .i64 (b 3), .int .i64 (b 4), .int .i64 (b 5), .int .i64 (b 6), .int .i64 (b 7), .int .i64 (b 8), .int .i64 (b 9), .int .i64 (b 10), .int .i64 (b 11)] 62 (0, 0))) (hr : Kd.C k47 w A1 x.f1.length x.f1) (hc : x.f1.length ≤ c1) (h : impl_Hidden_1.p b x = some r) :
  Calls Try.prog 29 #[.agg #[.string x.f0, .slice A1 x.f1.length c1, .int .i64 x.f2, .int .i64 x.f3], .pointer (some ⟨g, 0, none⟩)] w fun e w' => e = .returned (.bool r) ∧ Below w.heap.size w w' := by
 unfold impl_Hidden_1.p at h; by_cases ha : (x.f1.all fun t => decide (1 ≤ t.f0 ∧ t.f0 ≤ 5)) = true; rotate_left
 ·rw [if_neg ha] at h; cases h
 rw [if_pos ha] at h
 have ht : ∀ t ∈ x.f1, 1 ≤ t.f0 ∧ t.f0 ≤ 5 := fun t hm => of_decide_eq_true (List.all_eq_true.1 ha t hm)
 have h' := Option.some.inj h; have B1 : Aside0 (Below w.heap.size w (w.alloc (.cells #[.string x.f0, .slice A1 x.f1.length c1, .int .i64 x.f2, .int .i64 x.f3] 37))) := Aside0.mk ((Below.refl _ w).alloc (Nat.le_refl _) _); have D1 := Aside0.mk (blk_alloc hf (.cells #[.string x.f0, .slice A1 x.f1.length c1, .int .i64 x.f2, .int .i64 x.f3] 37)); have HR := Aside0.mk hr; have HC := Aside0.mk hc; have HT := Aside0.mk ht; have H := Aside0.mk h'; clear hr hc ht h h' ha hf; go_enter Try.func29, Try.ntmps29; go_wp2; have DX := Aside0.mk (blk_new w (.cells #[.string x.f0, .slice A1 x.f1.length c1, .int .i64 x.f2, .int .i64 x.f3] 37)); have v0 := (blk_cell DX.out 0).trans rfl; have v1 := (blk_cell DX.out 1).trans rfl; have v2 := (blk_cell DX.out 2).trans rfl; have v3 := (blk_cell DX.out 3).trans rfl; generalize w.alloc (.cells #[.string x.f0, .slice A1 x.f1.length c1, .int .i64 x.f2, .int .i64 x.f3] 37) = w2 at *; have z0 : w2.cell? ⟨g, 0, none⟩ = some (.int .i64 (b 0)) := (blk_cell D1.out 0).trans rfl; have z1 : w2.cell? ⟨g, 1, none⟩ = some (.int .i64 (b 1)) := (blk_cell D1.out 1).trans rfl; have z2 : w2.cell? ⟨g, 2, none⟩ = some (.int .i64 (b 2)) := (blk_cell D1.out 2).trans rfl; have z3 : w2.cell? ⟨g, 3, none⟩ = some (.int .i64 (b 3)) := (blk_cell D1.out 3).trans rfl; have z4 : w2.cell? ⟨g, 4, none⟩ = some (.int .i64 (b 4)) := (blk_cell D1.out 4).trans rfl; have z5 : w2.cell? ⟨g, 5, none⟩ = some (.int .i64 (b 5)) := (blk_cell D1.out 5).trans rfl; have z6 : w2.cell? ⟨g, 6, none⟩ = some (.int .i64 (b 6)) := (blk_cell D1.out 6).trans rfl; have z7 : w2.cell? ⟨g, 7, none⟩ = some (.int .i64 (b 7)) := (blk_cell D1.out 7).trans rfl; have z8 : w2.cell? ⟨g, 8, none⟩ = some (.int .i64 (b 8)) := (blk_cell D1.out 8).trans rfl; have z9 : w2.cell? ⟨g, 9, none⟩ = some (.int .i64 (b 9)) := (blk_cell D1.out 9).trans rfl; have z10 : w2.cell? ⟨g, 10, none⟩ = some (.int .i64 (b 10)) := (blk_cell D1.out 10).trans rfl; have z11 : w2.cell? ⟨g, 11, none⟩ = some (.int .i64 (b 11)) := (blk_cell D1.out 11).trans rfl
 go_region_with (first
  | (go_at_call 26; refine (impl_bounds.calls x.f0 A1 c1 x.f1 x.f2 x.f3 _ (Kd.C_below HR.out (B1.out.trans ((below_drew1 (Below.refl w2.heap.size w2)).mono B1.out.size))) HC.out HT.out).mono ?_; rintro e w3 ⟨rfl, hb1⟩; have hb3 := (below_drew1 (Below.refl w2.heap.size w2)).trans hb1; clear hb1; have D3 := blk_below D1.out hb3; have y0 : w3.cell? ⟨g, 0, none⟩ = some (.int .i64 (b 0)) := (blk_cell D3 0).trans rfl; have y1 : w3.cell? ⟨g, 1, none⟩ = some (.int .i64 (b 1)) := (blk_cell D3 1).trans rfl; have y2 : w3.cell? ⟨g, 2, none⟩ = some (.int .i64 (b 2)) := (blk_cell D3 2).trans rfl; have y3 : w3.cell? ⟨g, 3, none⟩ = some (.int .i64 (b 3)) := (blk_cell D3 3).trans rfl; have y4 : w3.cell? ⟨g, 4, none⟩ = some (.int .i64 (b 4)) := (blk_cell D3 4).trans rfl; have y5 : w3.cell? ⟨g, 5, none⟩ = some (.int .i64 (b 5)) := (blk_cell D3 5).trans rfl; have y6 : w3.cell? ⟨g, 6, none⟩ = some (.int .i64 (b 6)) := (blk_cell D3 6).trans rfl; have y7 : w3.cell? ⟨g, 7, none⟩ = some (.int .i64 (b 7)) := (blk_cell D3 7).trans rfl; have y8 : w3.cell? ⟨g, 8, none⟩ = some (.int .i64 (b 8)) := (blk_cell D3 8).trans rfl; have y9 : w3.cell? ⟨g, 9, none⟩ = some (.int .i64 (b 9)) := (blk_cell D3 9).trans rfl; have y10 : w3.cell? ⟨g, 10, none⟩ = some (.int .i64 (b 10)) := (blk_cell D3 10).trans rfl; have y11 : w3.cell? ⟨g, 11, none⟩ = some (.int .i64 (b 11)) := (blk_cell D3 11).trans rfl)
  | (go_at_call 30; refine (impl_covers.calls (impl_narrowed.go impl_bounds.all x.f1) b r _ H.out).mono ?_; rintro e w4 ⟨rfl, hb4⟩; have hb5 := hb3.trans (hb4.mono hb3.size)))
 all_goals go_wp2
 all_goals go_ret
 all_goals exact ⟨rfl, B1.out.trans (hb5.mono B1.out.size)⟩

end Go.Proofs.Ytbmpkggjcnmieaa.PAll
