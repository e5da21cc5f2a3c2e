-- Written by wip/tools/hp.py over the kit's print (not by hand): functions and walks of FnExactRulesText.
import Derived.Test.YtplboloibpkdeaaDoorPFnExactRulesTextx0
import Derived.Test.YtplboloibpkdeaaDoorPFnExactRulesTextx3
import Derived.Test.YtplboloibpkdeaaDoorPFnExactRulesTextx4
namespace Go.Proofs.YtplboloibpkdeaaDoor.PFnExactRulesText
open Go.RowKit Go.Proofs.YtplboloibpkdeaaDoorW.PrintWords Go.Proofs.YtplboloibpkdeaaDoorW.PrintLast Go.Proofs.YtplboloibpkdeaaDoorW.PrintMore
attribute [local go_sem] max2_int min2_int max_two min_two max_three min_three max_four min_four   -- for this text's walks alone
set_option linter.unusedVariables false
set_option linter.unusedSimpArgs false

/-! ### impl_isTermNum: function 55, by hand -/
theorem impl_allBounds.calls (w : World) : Calls Tryd.prog 60 #[] w fun e w' => e = .returned (.agg #[.int .i64 0, .int .i64 0, .int .i64 1, .int .i64 999, .int .i64 0, .int .i64 1000000, .int .i64 0, .int .i64 23, .int .i64 1, .int .i64 7, .int .i64 0, .int .i64 120] : Value) ∧ Below w.heap.size w w' := by
 go_enter Tryd.func60, Tryd.ntmps60; go_wp2; refine bodyPost_ret (results_single rfl (.cell w.heap.size 81 #[.int .i64 0, .int .i64 0, .int .i64 1, .int .i64 999, .int .i64 0, .int .i64 1000000, .int .i64 0, .int .i64 23, .int .i64 1, .int .i64 7, .int .i64 0, .int .i64 120] (0, 0) _ rfl (by simpa using blk_new w _) Tryd.underlying81 rfl (by kernel_rfl) .nil)) rfl ?_; exact ⟨rfl, (Below.refl _ w).alloc (Nat.le_refl _) _⟩
def impl_isTermNum.f (a0_0 : Int) (a0_1 : Int) (a0_2 : Int) : Option Bool :=
 if a0_0 = 1 then impl_within.f a0_2 1 999
 else if a0_0 = 2 then impl_within.f a0_2 0 1000000
 else if a0_0 = 3 then impl_within.f a0_2 0 23
 else if a0_0 = 4 then impl_within.f a0_2 1 7
 else if a0_0 = 5 then impl_within.f a0_2 0 120
 else none
theorem impl_isTermNum.drawn {w w1 : World} (h : Drawn0 w w1) : Below w.heap.size w w1 := by
 obtain ⟨n, rfl⟩ := h; exact pw_below_drewN (Below.refl _ _) _
theorem impl_isTermNum.keepS {w1 w2 w3 : World} {g : Nat} {a b c : Value} {t : TypeId} (hblk : w1.heap[g]? = some (.cells #[a, b, c] t (0, 0))) (hS : Below w1.heap.size w1 w2 ∧ w2.cell? ⟨g, 0, none⟩ = some a ∧ w2.cell? ⟨g, 2, none⟩ = some c) (hb : Below w2.heap.size w2 w3) :
  Below w1.heap.size w1 w3 ∧ w3.cell? ⟨g, 0, none⟩ = some a ∧ w3.cell? ⟨g, 2, none⟩ = some c :=
 have h := hS.1.trans (hb.mono hS.1.size)
 ⟨h, (blk_cell (blk_below hblk h) 0).trans rfl, (blk_cell (blk_below hblk h) 2).trans rfl⟩
set_option maxHeartbeats 8000000 in
set_option maxRecDepth 100000 in
theorem impl_isTermNum.at1 (a0_1 a0_2 : Int) (r : Bool) (w : World) (h : impl_within.f a0_2 1 999 = some r) :
  Calls Tryd.prog 55 #[.agg #[.int .i64 1, .int .i64 a0_1, .int .i64 a0_2]] w fun e w' => e = .returned (.bool r) ∧ Below w.heap.size w w' := by
 have H := Aside0.mk h; clear h
 have e1 : ∀ w : World, Sem.run Tryd.prog (Instr.index 81 (.agg #[.int .i64 0, .int .i64 0, .int .i64 1, .int .i64 999, .int .i64 0, .int .i64 1000000, .int .i64 0, .int .i64 23, .int .i64 1, .int .i64 7, .int .i64 0, .int .i64 120] : Value) (.int .i64 1)) w = .ok (.agg #[.int .i64 1, .int .i64 999]) w := fun w => by kernel_rfl
 have e2 : ∀ w : World, Sem.run Tryd.prog (Instr.index 79 (.agg #[.int .i64 1, .int .i64 999]) (.int .i64 0)) w = .ok (.int .i64 1) w := fun w => by kernel_rfl
 have e3 : ∀ w : World, Sem.run Tryd.prog (Instr.index 79 (.agg #[.int .i64 1, .int .i64 999]) (.int .i64 1)) w = .ok (.int .i64 999) w := fun w => by kernel_rfl
 have hblk := blk_new w (.cells #[.int .i64 1, .int .i64 a0_1, .int .i64 a0_2] 47); have h0 : (w.alloc (.cells #[.int .i64 1, .int .i64 a0_1, .int .i64 a0_2] 47)).cell? ⟨w.heap.size, 0, none⟩ = some (.int .i64 1) := (blk_cell hblk 0).trans rfl; have h2 : (w.alloc (.cells #[.int .i64 1, .int .i64 a0_1, .int .i64 a0_2] 47)).cell? ⟨w.heap.size, 2, none⟩ = some (.int .i64 a0_2) := (blk_cell hblk 2).trans rfl; have HB := Aside0.mk ((Below.refl _ w).alloc (Nat.le_refl _) (.cells #[.int .i64 1, .int .i64 a0_1, .int .i64 a0_2] 47)); go_enter Tryd.func55, Tryd.ntmps55; go_wp2; have HBLK := Aside0.mk hblk; clear hblk; generalize w.alloc (.cells #[.int .i64 1, .int .i64 a0_1, .int .i64 a0_2] 47) = w1 at *
 go_region_held3 (fun w' => Below w1.heap.size w1 w' ∧ w'.cell? ⟨w.heap.size, 0, none⟩ = some (.int .i64 1) ∧ w'.cell? ⟨w.heap.size, 2, none⟩ = some (.int .i64 a0_2))
  (first
   | exact impl_isTermNum.keepS HBLK.out ⟨Below.refl _ _, h0, h2⟩ (below_drew1 (Below.refl _ _))
   | assumption
   | (refine impl_isTermNum.keepS HBLK.out ?_ hb_; assumption))
  (first
   | (go_at_call 60; refine (impl_allBounds.calls _).mono ?_; rintro e w' ⟨rfl, hb_⟩)
   | (go_at_call 50; refine (impl_within.calls a0_2 1 999 r _ H.out).mono ?_; rintro e w' ⟨rfl, hd_⟩; have hb_ := impl_isTermNum.drawn hd_; clear hd_))
 all_goals go_wp2
 all_goals go_ret
 all_goals exact ⟨rfl, HB.out.trans (Below.mono (And.left (by assumption)) HB.out.size)⟩
set_option maxHeartbeats 8000000 in
set_option maxRecDepth 100000 in
theorem impl_isTermNum.at2 (a0_1 a0_2 : Int) (r : Bool) (w : World) (h : impl_within.f a0_2 0 1000000 = some r) :
  Calls Tryd.prog 55 #[.agg #[.int .i64 2, .int .i64 a0_1, .int .i64 a0_2]] w fun e w' => e = .returned (.bool r) ∧ Below w.heap.size w w' := by
 have H := Aside0.mk h; clear h
 have e1 : ∀ w : World, Sem.run Tryd.prog (Instr.index 81 (.agg #[.int .i64 0, .int .i64 0, .int .i64 1, .int .i64 999, .int .i64 0, .int .i64 1000000, .int .i64 0, .int .i64 23, .int .i64 1, .int .i64 7, .int .i64 0, .int .i64 120] : Value) (.int .i64 2)) w = .ok (.agg #[.int .i64 0, .int .i64 1000000]) w := fun w => by kernel_rfl
 have e2 : ∀ w : World, Sem.run Tryd.prog (Instr.index 79 (.agg #[.int .i64 0, .int .i64 1000000]) (.int .i64 0)) w = .ok (.int .i64 0) w := fun w => by kernel_rfl
 have e3 : ∀ w : World, Sem.run Tryd.prog (Instr.index 79 (.agg #[.int .i64 0, .int .i64 1000000]) (.int .i64 1)) w = .ok (.int .i64 1000000) w := fun w => by kernel_rfl
 have hblk := blk_new w (.cells #[.int .i64 2, .int .i64 a0_1, .int .i64 a0_2] 47); have h0 : (w.alloc (.cells #[.int .i64 2, .int .i64 a0_1, .int .i64 a0_2] 47)).cell? ⟨w.heap.size, 0, none⟩ = some (.int .i64 2) := (blk_cell hblk 0).trans rfl; have h2 : (w.alloc (.cells #[.int .i64 2, .int .i64 a0_1, .int .i64 a0_2] 47)).cell? ⟨w.heap.size, 2, none⟩ = some (.int .i64 a0_2) := (blk_cell hblk 2).trans rfl; have HB := Aside0.mk ((Below.refl _ w).alloc (Nat.le_refl _) (.cells #[.int .i64 2, .int .i64 a0_1, .int .i64 a0_2] 47)); go_enter Tryd.func55, Tryd.ntmps55; go_wp2; have HBLK := Aside0.mk hblk; clear hblk; generalize w.alloc (.cells #[.int .i64 2, .int .i64 a0_1, .int .i64 a0_2] 47) = w1 at *
 go_region_held3 (fun w' => Below w1.heap.size w1 w' ∧ w'.cell? ⟨w.heap.size, 0, none⟩ = some (.int .i64 2) ∧ w'.cell? ⟨w.heap.size, 2, none⟩ = some (.int .i64 a0_2))
  (first
   | exact impl_isTermNum.keepS HBLK.out ⟨Below.refl _ _, h0, h2⟩ (below_drew1 (Below.refl _ _))
   | assumption
   | (refine impl_isTermNum.keepS HBLK.out ?_ hb_; assumption))
  (first
   | (go_at_call 60; refine (impl_allBounds.calls _).mono ?_; rintro e w' ⟨rfl, hb_⟩)
   | (go_at_call 50; refine (impl_within.calls a0_2 0 1000000 r _ H.out).mono ?_; rintro e w' ⟨rfl, hd_⟩; have hb_ := impl_isTermNum.drawn hd_; clear hd_))
 all_goals go_wp2
 all_goals go_ret
 all_goals exact ⟨rfl, HB.out.trans (Below.mono (And.left (by assumption)) HB.out.size)⟩
set_option maxHeartbeats 8000000 in
set_option maxRecDepth 100000 in
theorem impl_isTermNum.at3 (a0_1 a0_2 : Int) (r : Bool) (w : World) (h : impl_within.f a0_2 0 23 = some r) :
  Calls Tryd.prog 55 #[.agg #[.int .i64 3, .int .i64 a0_1, .int .i64 a0_2]] w fun e w' => e = .returned (.bool r) ∧ Below w.heap.size w w' := by
 have H := Aside0.mk h; clear h
 have e1 : ∀ w : World, Sem.run Tryd.prog (Instr.index 81 (.agg #[.int .i64 0, .int .i64 0, .int .i64 1, .int .i64 999, .int .i64 0, .int .i64 1000000, .int .i64 0, .int .i64 23, .int .i64 1, .int .i64 7, .int .i64 0, .int .i64 120] : Value) (.int .i64 3)) w = .ok (.agg #[.int .i64 0, .int .i64 23]) w := fun w => by kernel_rfl
 have e2 : ∀ w : World, Sem.run Tryd.prog (Instr.index 79 (.agg #[.int .i64 0, .int .i64 23]) (.int .i64 0)) w = .ok (.int .i64 0) w := fun w => by kernel_rfl
 have e3 : ∀ w : World, Sem.run Tryd.prog (Instr.index 79 (.agg #[.int .i64 0, .int .i64 23]) (.int .i64 1)) w = .ok (.int .i64 23) w := fun w => by kernel_rfl
 have hblk := blk_new w (.cells #[.int .i64 3, .int .i64 a0_1, .int .i64 a0_2] 47); have h0 : (w.alloc (.cells #[.int .i64 3, .int .i64 a0_1, .int .i64 a0_2] 47)).cell? ⟨w.heap.size, 0, none⟩ = some (.int .i64 3) := (blk_cell hblk 0).trans rfl; have h2 : (w.alloc (.cells #[.int .i64 3, .int .i64 a0_1, .int .i64 a0_2] 47)).cell? ⟨w.heap.size, 2, none⟩ = some (.int .i64 a0_2) := (blk_cell hblk 2).trans rfl; have HB := Aside0.mk ((Below.refl _ w).alloc (Nat.le_refl _) (.cells #[.int .i64 3, .int .i64 a0_1, .int .i64 a0_2] 47)); go_enter Tryd.func55, Tryd.ntmps55; go_wp2; have HBLK := Aside0.mk hblk; clear hblk; generalize w.alloc (.cells #[.int .i64 3, .int .i64 a0_1, .int .i64 a0_2] 47) = w1 at *
 go_region_held3 (fun w' => Below w1.heap.size w1 w' ∧ w'.cell? ⟨w.heap.size, 0, none⟩ = some (.int .i64 3) ∧ w'.cell? ⟨w.heap.size, 2, none⟩ = some (.int .i64 a0_2))
  (first
   | exact impl_isTermNum.keepS HBLK.out ⟨Below.refl _ _, h0, h2⟩ (below_drew1 (Below.refl _ _))
   | assumption
   | (refine impl_isTermNum.keepS HBLK.out ?_ hb_; assumption))
  (first
   | (go_at_call 60; refine (impl_allBounds.calls _).mono ?_; rintro e w' ⟨rfl, hb_⟩)
   | (go_at_call 50; refine (impl_within.calls a0_2 0 23 r _ H.out).mono ?_; rintro e w' ⟨rfl, hd_⟩; have hb_ := impl_isTermNum.drawn hd_; clear hd_))
 all_goals go_wp2
 all_goals go_ret
 all_goals exact ⟨rfl, HB.out.trans (Below.mono (And.left (by assumption)) HB.out.size)⟩
set_option maxHeartbeats 8000000 in
set_option maxRecDepth 100000 in
theorem impl_isTermNum.at4 (a0_1 a0_2 : Int) (r : Bool) (w : World) (h : impl_within.f a0_2 1 7 = some r) :
  Calls Tryd.prog 55 #[.agg #[.int .i64 4, .int .i64 a0_1, .int .i64 a0_2]] w fun e w' => e = .returned (.bool r) ∧ Below w.heap.size w w' := by
 have H := Aside0.mk h; clear h
 have e1 : ∀ w : World, Sem.run Tryd.prog (Instr.index 81 (.agg #[.int .i64 0, .int .i64 0, .int .i64 1, .int .i64 999, .int .i64 0, .int .i64 1000000, .int .i64 0, .int .i64 23, .int .i64 1, .int .i64 7, .int .i64 0, .int .i64 120] : Value) (.int .i64 4)) w = .ok (.agg #[.int .i64 1, .int .i64 7]) w := fun w => by kernel_rfl
 have e2 : ∀ w : World, Sem.run Tryd.prog (Instr.index 79 (.agg #[.int .i64 1, .int .i64 7]) (.int .i64 0)) w = .ok (.int .i64 1) w := fun w => by kernel_rfl
 have e3 : ∀ w : World, Sem.run Tryd.prog (Instr.index 79 (.agg #[.int .i64 1, .int .i64 7]) (.int .i64 1)) w = .ok (.int .i64 7) w := fun w => by kernel_rfl
 have hblk := blk_new w (.cells #[.int .i64 4, .int .i64 a0_1, .int .i64 a0_2] 47); have h0 : (w.alloc (.cells #[.int .i64 4, .int .i64 a0_1, .int .i64 a0_2] 47)).cell? ⟨w.heap.size, 0, none⟩ = some (.int .i64 4) := (blk_cell hblk 0).trans rfl; have h2 : (w.alloc (.cells #[.int .i64 4, .int .i64 a0_1, .int .i64 a0_2] 47)).cell? ⟨w.heap.size, 2, none⟩ = some (.int .i64 a0_2) := (blk_cell hblk 2).trans rfl; have HB := Aside0.mk ((Below.refl _ w).alloc (Nat.le_refl _) (.cells #[.int .i64 4, .int .i64 a0_1, .int .i64 a0_2] 47)); go_enter Tryd.func55, Tryd.ntmps55; go_wp2; have HBLK := Aside0.mk hblk; clear hblk; generalize w.alloc (.cells #[.int .i64 4, .int .i64 a0_1, .int .i64 a0_2] 47) = w1 at *
 go_region_held3 (fun w' => Below w1.heap.size w1 w' ∧ w'.cell? ⟨w.heap.size, 0, none⟩ = some (.int .i64 4) ∧ w'.cell? ⟨w.heap.size, 2, none⟩ = some (.int .i64 a0_2))
  (first
   | exact impl_isTermNum.keepS HBLK.out ⟨Below.refl _ _, h0, h2⟩ (below_drew1 (Below.refl _ _))
   | assumption
   | (refine impl_isTermNum.keepS HBLK.out ?_ hb_; assumption))
  (first
   | (go_at_call 60; refine (impl_allBounds.calls _).mono ?_; rintro e w' ⟨rfl, hb_⟩)
   | (go_at_call 50; refine (impl_within.calls a0_2 1 7 r _ H.out).mono ?_; rintro e w' ⟨rfl, hd_⟩; have hb_ := impl_isTermNum.drawn hd_; clear hd_))
 all_goals go_wp2
 all_goals go_ret
 all_goals exact ⟨rfl, HB.out.trans (Below.mono (And.left (by assumption)) HB.out.size)⟩
set_option maxHeartbeats 8000000 in
set_option maxRecDepth 100000 in
theorem impl_isTermNum.at5 (a0_1 a0_2 : Int) (r : Bool) (w : World) (h : impl_within.f a0_2 0 120 = some r) :
  Calls Tryd.prog 55 #[.agg #[.int .i64 5, .int .i64 a0_1, .int .i64 a0_2]] w fun e w' => e = .returned (.bool r) ∧ Below w.heap.size w w' := by
 have H := Aside0.mk h; clear h
 have e1 : ∀ w : World, Sem.run Tryd.prog (Instr.index 81 (.agg #[.int .i64 0, .int .i64 0, .int .i64 1, .int .i64 999, .int .i64 0, .int .i64 1000000, .int .i64 0, .int .i64 23, .int .i64 1, .int .i64 7, .int .i64 0, .int .i64 120] : Value) (.int .i64 5)) w = .ok (.agg #[.int .i64 0, .int .i64 120]) w := fun w => by kernel_rfl
 have e2 : ∀ w : World, Sem.run Tryd.prog (Instr.index 79 (.agg #[.int .i64 0, .int .i64 120]) (.int .i64 0)) w = .ok (.int .i64 0) w := fun w => by kernel_rfl
 have e3 : ∀ w : World, Sem.run Tryd.prog (Instr.index 79 (.agg #[.int .i64 0, .int .i64 120]) (.int .i64 1)) w = .ok (.int .i64 120) w := fun w => by kernel_rfl
 have hblk := blk_new w (.cells #[.int .i64 5, .int .i64 a0_1, .int .i64 a0_2] 47); have h0 : (w.alloc (.cells #[.int .i64 5, .int .i64 a0_1, .int .i64 a0_2] 47)).cell? ⟨w.heap.size, 0, none⟩ = some (.int .i64 5) := (blk_cell hblk 0).trans rfl; have h2 : (w.alloc (.cells #[.int .i64 5, .int .i64 a0_1, .int .i64 a0_2] 47)).cell? ⟨w.heap.size, 2, none⟩ = some (.int .i64 a0_2) := (blk_cell hblk 2).trans rfl; have HB := Aside0.mk ((Below.refl _ w).alloc (Nat.le_refl _) (.cells #[.int .i64 5, .int .i64 a0_1, .int .i64 a0_2] 47)); go_enter Tryd.func55, Tryd.ntmps55; go_wp2; have HBLK := Aside0.mk hblk; clear hblk; generalize w.alloc (.cells #[.int .i64 5, .int .i64 a0_1, .int .i64 a0_2] 47) = w1 at *
 go_region_held3 (fun w' => Below w1.heap.size w1 w' ∧ w'.cell? ⟨w.heap.size, 0, none⟩ = some (.int .i64 5) ∧ w'.cell? ⟨w.heap.size, 2, none⟩ = some (.int .i64 a0_2))
  (first
   | exact impl_isTermNum.keepS HBLK.out ⟨Below.refl _ _, h0, h2⟩ (below_drew1 (Below.refl _ _))
   | assumption
   | (refine impl_isTermNum.keepS HBLK.out ?_ hb_; assumption))
  (first
   | (go_at_call 60; refine (impl_allBounds.calls _).mono ?_; rintro e w' ⟨rfl, hb_⟩)
   | (go_at_call 50; refine (impl_within.calls a0_2 0 120 r _ H.out).mono ?_; rintro e w' ⟨rfl, hd_⟩; have hb_ := impl_isTermNum.drawn hd_; clear hd_))
 all_goals go_wp2
 all_goals go_ret
 all_goals exact ⟨rfl, HB.out.trans (Below.mono (And.left (by assumption)) HB.out.size)⟩
theorem impl_isTermNum.calls (a0_0 : Int) (a0_1 : Int) (a0_2 : Int) (r : Bool) (w : World) (h : impl_isTermNum.f a0_0 a0_1 a0_2 = some r) :
  Calls Tryd.prog 55 #[.agg #[.int .i64 a0_0, .int .i64 a0_1, .int .i64 a0_2]] w fun e w' => e = .returned (.bool r) ∧ Below w.heap.size w w' := by
 unfold impl_isTermNum.f at h; by_cases c1 : a0_0 = 1
 ·subst c1; rw [if_pos rfl] at h; exact impl_isTermNum.at1 a0_1 a0_2 r w h
 rw [if_neg c1] at h; by_cases c2 : a0_0 = 2
 ·subst c2; rw [if_pos rfl] at h; exact impl_isTermNum.at2 a0_1 a0_2 r w h
 rw [if_neg c2] at h; by_cases c3 : a0_0 = 3
 ·subst c3; rw [if_pos rfl] at h; exact impl_isTermNum.at3 a0_1 a0_2 r w h
 rw [if_neg c3] at h; by_cases c4 : a0_0 = 4
 ·subst c4; rw [if_pos rfl] at h; exact impl_isTermNum.at4 a0_1 a0_2 r w h
 rw [if_neg c4] at h; by_cases c5 : a0_0 = 5
 ·subst c5; rw [if_pos rfl] at h; exact impl_isTermNum.at5 a0_1 a0_2 r w h
 rw [if_neg c5] at h
 cases h

/-! ### impl_isTerm: function 41 -/
def impl_isTerm.f (a0_0 : Int) (a0_1 : Int) (a0_2 : Int) : Option (Bool) := (impl_within.f a0_0 1 5).bind fun t222 => (if t222 = true then ((impl_within.f a0_1 1 3).bind fun t223 => (if t223 = true then ((impl_isTermNum.f a0_0 a0_1 a0_2).bind fun t224 => (some t224)) else (some false))) else (some false))
set_option maxHeartbeats 8000000 in
set_option maxRecDepth 100000 in
theorem impl_isTerm.calls (a0_0 : Int) (a0_1 : Int) (a0_2 : Int) (r : Bool) (w : World) (h : impl_isTerm.f a0_0 a0_1 a0_2 = some r) :
  Calls Tryd.prog 41 #[.agg #[.int .i64 a0_0, .int .i64 a0_1, .int .i64 a0_2]] w fun e w' => e = .returned (.bool r) ∧ Below w.heap.size w w' := by
 have hu47 := Tryd.underlying47; have HB := Aside0.mk (Below.refl w.heap.size w); have H : ((impl_within.f a0_0 1 5).bind fun t222 => (if t222 = true then ((impl_within.f a0_1 1 3).bind fun t223 => (if t223 = true then ((impl_isTermNum.f a0_0 a0_1 a0_2).bind fun t224 => (some t224)) else (some false))) else (some false))) = some r := h; clear h; replace H := Option.bind_eq_some_iff.mp H; obtain ⟨t222, A20, H⟩ := H; replace H : (if t222 = true then ((impl_within.f a0_1 1 3).bind fun t223 => (if t223 = true then ((impl_isTermNum.f a0_0 a0_1 a0_2).bind fun t224 => (some t224)) else (some false))) else (some false)) = some r := H; have A2 := Aside0.mk A20; clear A20; by_cases c3 : t222 = true
 ·subst c3
  have H1 : ((impl_within.f a0_1 1 3).bind fun t223 => (if t223 = true then ((impl_isTermNum.f a0_0 a0_1 a0_2).bind fun t224 => (some t224)) else (some false))) = some r := by rw [if_pos rfl] at H; exact H
  clear H; have H := H1; clear H1; replace H := Option.bind_eq_some_iff.mp H; obtain ⟨t223, A40, H⟩ := H; replace H : (if t223 = true then ((impl_isTermNum.f a0_0 a0_1 a0_2).bind fun t224 => (some t224)) else (some false)) = some r := H; have A4 := Aside0.mk A40; clear A40; by_cases c5 : t223 = true
  ·subst c5
   have H1 : ((impl_isTermNum.f a0_0 a0_1 a0_2).bind fun t224 => (some t224)) = some r := by rw [if_pos rfl] at H; exact H
   clear H; have H := H1; clear H1; replace H := Option.bind_eq_some_iff.mp H; obtain ⟨t224, A60, H⟩ := H; replace H : (some t224) = some r := H; have A6 := Aside0.mk A60; clear A60; obtain rfl := Option.some.inj H; go_enter Tryd.func41, Tryd.ntmps41
   go_wp2_with (first | ((with_reducible refine gate_dst (N := 1) rfl ?_); refine box_event ?hg (N := 1) ?hd (cs := #[.int .i64 a0_0, .int .i64 a0_1, .int .i64 a0_2]) (t := 47) ?hr ?_; (case hd => rfl); (case hg => rfl); (case hr => first | (go_simp; done) | (go_simp; rfl)); intro gb221 hg w7 hbox hb; have n0_ := Aside0.mk (below_step (qb HB) hb); have n1_ := Aside0.mk (hbox); have n2_ := Aside0.mk ((by rw [hg]; exact (below_size (qb HB)) : w.heap.size ≤ gb221)); have n3_ := Aside0.mk ((by rw [hg]; exact (below_size (qb HB)) : w.heap.size ≤ gb221)); clear HB; have HB := n0_; have BK221 := n1_; have GW221 := n2_; have GE221 := n3_; clear n0_ n1_ n2_ n3_; clear hb hbox hg; obtain ⟨hcz8_0, hcz8_1, hcz8_2, hfz8_0, hfz8_1, hfz8_2⟩ := bz3 BK221) | ((with_reducible refine gate_callee (f := 50) rfl ?_); refine goesL_ (some 5) rfl rfl Tryd.func50 (by kernel_rfl) rfl #[.int .i64 a0_0, .int .i64 1, .int .i64 5] rfl mq ?_; (with_reducible refine (impl_within.calls a0_0 1 5 true _ A2.out).mono ?_); rintro e w' ⟨rfl, ⟨nd, rfl⟩⟩; refine ⟨_, rfl, ?_⟩) | (go_at_call 50; (with_reducible refine (impl_within.calls a0_1 1 3 true _ A4.out).mono ?_); rintro e w' ⟨rfl, ⟨nd, rfl⟩⟩) | (go_at_call 55; (with_reducible refine (impl_isTermNum.calls a0_0 a0_1 a0_2 t224 _ A6.out).mono ?_); rintro e w9 ⟨rfl, hb⟩; have n0_ := Aside0.mk (blk_below (bq BK221) hb); have n1_ := Aside0.mk (below_step (qb HB) hb); clear BK221; clear HB; have BK221 := n0_; have HB := n1_; clear n0_ n1_; (try clear hb); (try clear hb2); (try clear hk); (try clear hi)))
   go_ret; exact ⟨eqq, qb HB⟩
  ·replace c5 := Bool.eq_false_iff.mpr c5; subst c5
   have H1 : (some false) = some r := by rw [if_neg (show ¬ (false = true) by decide)] at H; exact H
   clear H; have H := H1; clear H1; obtain rfl := Option.some.inj H; go_enter Tryd.func41, Tryd.ntmps41
   go_wp2_with (first | ((with_reducible refine gate_dst (N := 1) rfl ?_); refine box_event ?hg (N := 1) ?hd (cs := #[.int .i64 a0_0, .int .i64 a0_1, .int .i64 a0_2]) (t := 47) ?hr ?_; (case hd => rfl); (case hg => rfl); (case hr => first | (go_simp; done) | (go_simp; rfl)); intro gb221 hg w10 hbox hb; have n0_ := Aside0.mk (below_step (qb HB) hb); have n1_ := Aside0.mk (hbox); have n2_ := Aside0.mk ((by rw [hg]; exact (below_size (qb HB)) : w.heap.size ≤ gb221)); have n3_ := Aside0.mk ((by rw [hg]; exact (below_size (qb HB)) : w.heap.size ≤ gb221)); clear HB; have HB := n0_; have BK221 := n1_; have GW221 := n2_; have GE221 := n3_; clear n0_ n1_ n2_ n3_; clear hb hbox hg; obtain ⟨hcz11_0, hcz11_1, hcz11_2, hfz11_0, hfz11_1, hfz11_2⟩ := bz3 BK221) | ((with_reducible refine gate_callee (f := 50) rfl ?_); refine goesL_ (some 5) rfl rfl Tryd.func50 (by kernel_rfl) rfl #[.int .i64 a0_0, .int .i64 1, .int .i64 5] rfl mq ?_; (with_reducible refine (impl_within.calls a0_0 1 5 true _ A2.out).mono ?_); rintro e w' ⟨rfl, ⟨nd, rfl⟩⟩; refine ⟨_, rfl, ?_⟩) | (go_at_call 50; (with_reducible refine (impl_within.calls a0_1 1 3 false _ A4.out).mono ?_); rintro e w' ⟨rfl, ⟨nd, rfl⟩⟩))
   go_ret; exact ⟨eqq, qb HB⟩
 ·replace c3 := Bool.eq_false_iff.mpr c3; subst c3
  have H1 : (some false) = some r := by rw [if_neg (show ¬ (false = true) by decide)] at H; exact H
  clear H; have H := H1; clear H1; obtain rfl := Option.some.inj H; go_enter Tryd.func41, Tryd.ntmps41
  go_wp2_with (first | ((with_reducible refine gate_dst (N := 1) rfl ?_); refine box_event ?hg (N := 1) ?hd (cs := #[.int .i64 a0_0, .int .i64 a0_1, .int .i64 a0_2]) (t := 47) ?hr ?_; (case hd => rfl); (case hg => rfl); (case hr => first | (go_simp; done) | (go_simp; rfl)); intro gb221 hg w12 hbox hb; have n0_ := Aside0.mk (below_step (qb HB) hb); have n1_ := Aside0.mk (hbox); have n2_ := Aside0.mk ((by rw [hg]; exact (below_size (qb HB)) : w.heap.size ≤ gb221)); have n3_ := Aside0.mk ((by rw [hg]; exact (below_size (qb HB)) : w.heap.size ≤ gb221)); clear HB; have HB := n0_; have BK221 := n1_; have GW221 := n2_; have GE221 := n3_; clear n0_ n1_ n2_ n3_; clear hb hbox hg; obtain ⟨hcz13_0, hcz13_1, hcz13_2, hfz13_0, hfz13_1, hfz13_2⟩ := bz3 BK221) | ((with_reducible refine gate_callee (f := 50) rfl ?_); refine goesL_ (some 5) rfl rfl Tryd.func50 (by kernel_rfl) rfl #[.int .i64 a0_0, .int .i64 1, .int .i64 5] rfl mq ?_; (with_reducible refine (impl_within.calls a0_0 1 5 false _ A2.out).mono ?_); rintro e w' ⟨rfl, ⟨nd, rfl⟩⟩; refine ⟨_, rfl, ?_⟩))
  go_ret; exact ⟨eqq, qb HB⟩

/-! ### impl_isClause_1: function 40 -/
def impl_isClause_1.f (a0_0 : Int) (a0_1 : Int) (a0_2 : Int) : Option (Bool) := (impl_isTerm.f a0_0 a0_1 a0_2).bind fun t226 => (some (!t226))
set_option maxHeartbeats 8000000 in
set_option maxRecDepth 100000 in
theorem impl_isClause_1.calls (a0_0 : Int) (a0_1 : Int) (a0_2 : Int) (r : Bool) (w : World) (h : impl_isClause_1.f a0_0 a0_1 a0_2 = some r) :
  Calls Tryd.prog 40 #[.agg #[.int .i64 a0_0, .int .i64 a0_1, .int .i64 a0_2]] w fun e w' => e = .returned (.bool r) ∧ Below w.heap.size w w' := by
 have hu47 := Tryd.underlying47; have HB := Aside0.mk (Below.refl w.heap.size w); have H : ((impl_isTerm.f a0_0 a0_1 a0_2).bind fun t226 => (some (!t226))) = some r := h; clear h; replace H := Option.bind_eq_some_iff.mp H; obtain ⟨t226, A20, H⟩ := H; replace H : (some (!t226)) = some r := H; have A2 := Aside0.mk A20; clear A20; obtain rfl := Option.some.inj H; go_enter Tryd.func40, Tryd.ntmps40
 go_wp2_with (first | ((with_reducible refine gate_dst (N := 1) rfl ?_); refine box_event ?hg (N := 1) ?hd (cs := #[.int .i64 a0_0, .int .i64 a0_1, .int .i64 a0_2]) (t := 47) ?hr ?_; (case hd => rfl); (case hg => rfl); (case hr => first | (go_simp; done) | (go_simp; rfl)); intro gb225 hg w3 hbox hb; have n0_ := Aside0.mk (below_step (qb HB) hb); have n1_ := Aside0.mk (hbox); have n2_ := Aside0.mk ((by rw [hg]; exact (below_size (qb HB)) : w.heap.size ≤ gb225)); have n3_ := Aside0.mk ((by rw [hg]; exact (below_size (qb HB)) : w.heap.size ≤ gb225)); clear HB; have HB := n0_; have BK225 := n1_; have GW225 := n2_; have GE225 := n3_; clear n0_ n1_ n2_ n3_; clear hb hbox hg; obtain ⟨hcz4_0, hcz4_1, hcz4_2, hfz4_0, hfz4_1, hfz4_2⟩ := bz3 BK225) | ((with_reducible refine gate_callee (f := 41) rfl ?_); refine goesL_ (some 4) rfl rfl Tryd.func41 (by kernel_rfl) rfl #[.agg #[.int .i64 a0_0, .int .i64 a0_1, .int .i64 a0_2]] rfl mq ?_; (with_reducible refine (impl_isTerm.calls a0_0 a0_1 a0_2 t226 _ A2.out).mono ?_); rintro e w5 ⟨rfl, hb⟩; refine ⟨_, rfl, ?_⟩; have n0_ := Aside0.mk (blk_below (bq BK225) hb); have n1_ := Aside0.mk (below_step (qb HB) hb); clear BK225; clear HB; have BK225 := n0_; have HB := n1_; clear n0_ n1_; (try clear hb); (try clear hb2); (try clear hk); (try clear hi)))
 go_ret; exact ⟨eqq, qb HB⟩

/-! ### impl_Term_39_impl_isClause_1: function 39 at function 40 -/
def impl_Term_39_impl_isClause_1.f (l0 : List S47) : Option Bool := impl_Term_39.f (fun x_ => impl_isClause_1.f x_.f0 x_.f1 x_.f2) l0
set_option maxHeartbeats 8000000 in
set_option maxRecDepth 100000 in
theorem impl_Term_39_impl_isClause_1.calls (A0 : Option Addr) (c0 : Nat) (l0 : List S47) (r : Bool) (w : World) (hr0 : Kd.C k47 w A0 l0.length l0) (hc0 : l0.length ≤ c0) (h : impl_Term_39_impl_isClause_1.f l0 = some r) :
    Calls Tryd.prog 39 #[.slice A0 l0.length c0, .func (.func 40) #[] #[]] w fun e w' => e = .returned (.bool r) ∧ Below w.heap.size w w' :=
  impl_Term_39.calls (fun x_ => impl_isClause_1.f x_.f0 x_.f1 x_.f2) l0 A0 c0 40 #[] r w (fun args w => enters_of Tryd.func40 (by kernel_rfl) rfl args w)
    (fun W_ x_ b_ hW_ hb_ => (impl_isClause_1.calls (a0_0 := x_.f0) (a0_1 := x_.f1) (a0_2 := x_.f2) (r := b_) (w := W_) (h := hb_)).mono fun e w' hq => ⟨hq.1, by first | exact hq.2 | exact hq.2.below⟩)
    hr0 hc0 h

/-! ### impl_isClause: function 24 -/
def impl_isClause.f (k : Nat) (a0_0 : ByteArray) (l0_1 : List (S47)) (a0_2 : Int) (a0_3 : Int) : Option (Bool) := (impl_NameOK.f k a0_0).bind fun t228 => (if t228 = true then (if (l0_1.length : Int) ≤ 8 then ((impl_isAct.f a0_2 a0_3).bind fun t229 => (if t229 = true then ((impl_Term_39_impl_isClause_1.f l0_1).bind fun t230 => (some (!t230))) else (some false))) else (some false)) else (some false))
theorem impl_isClause.mono : ∀ a0 a1 a2 a3 k, LeO (impl_isClause.f k a0 a1 a2 a3) (impl_isClause.f (k + 1) a0 a1 a2 a3) := by
 intro a0 a1 a2 a3 k; unfold impl_isClause.f
 repeat' first
   | (with_reducible exact impl_NameOK.mono _ _)
   | (with_reducible exact LeO.refl _)
   | (with_reducible exact LeO.none _)
   | (with_reducible refine LeO.ite ?_ ?_)
   | (with_reducible refine LeO.bind ?_ (fun _ => ?_))
   | exact impl_NameOK.mono _ _
   | exact LeO.none _
   | refine LeO.ite ?_ ?_
   | refine LeO.bind ?_ (fun _ => ?_)
set_option maxHeartbeats 8000000 in
set_option maxRecDepth 100000 in
theorem impl_isClause.calls (k : Nat) (a0_0 : ByteArray) (A0_1 : Option Addr) (c0_1 : Nat) (l0_1 : List (S47)) (a0_2 : Int) (a0_3 : Int) (r : Bool) (w : World) (hr0_1 : Kd.C k47 w A0_1 l0_1.length l0_1) (hc0_1 : l0_1.length ≤ c0_1) (h : impl_isClause.f k a0_0 l0_1 a0_2 a0_3 = some r) :
  Calls Tryd.prog 24 #[.agg #[.string a0_0, .slice A0_1 l0_1.length c0_1, .int .i64 a0_2, .int .i64 a0_3]] w fun e w' => e = .returned (.bool r) ∧ Below w.heap.size w w' := by
 have hu38 := Tryd.underlying38; have HR0_1 := Aside0.mk hr0_1; have HC0_1 := Aside0.mk hc0_1; clear hr0_1 hc0_1; have HB := Aside0.mk (Below.refl w.heap.size w); have H : ((impl_NameOK.f k a0_0).bind fun t228 => (if t228 = true then (if (l0_1.length : Int) ≤ 8 then ((impl_isAct.f a0_2 a0_3).bind fun t229 => (if t229 = true then ((impl_Term_39_impl_isClause_1.f l0_1).bind fun t230 => (some (!t230))) else (some false))) else (some false)) else (some false))) = some r := h; clear h; replace H := Option.bind_eq_some_iff.mp H; obtain ⟨t228, A20, H⟩ := H; replace H : (if t228 = true then (if (l0_1.length : Int) ≤ 8 then ((impl_isAct.f a0_2 a0_3).bind fun t229 => (if t229 = true then ((impl_Term_39_impl_isClause_1.f l0_1).bind fun t230 => (some (!t230))) else (some false))) else (some false)) else (some false)) = some r := H; have A2 := Aside0.mk A20; clear A20; by_cases c3 : t228 = true
 ·subst c3
  have H1 : (if (l0_1.length : Int) ≤ 8 then ((impl_isAct.f a0_2 a0_3).bind fun t229 => (if t229 = true then ((impl_Term_39_impl_isClause_1.f l0_1).bind fun t230 => (some (!t230))) else (some false))) else (some false)) = some r := by rw [if_pos rfl] at H; exact H
  clear H; have H := H1; clear H1; by_cases c4 : (l0_1.length : Int) ≤ 8
  ·rw [if_pos c4] at H; have c4b0 : decide ((l0_1.length : Int) ≤ 8) = true := decide_eq_true c4; have c4b1 : decide (l0_1.length ≤ 8) = true := decide_eq_true (by omega); clear c4; replace H := Option.bind_eq_some_iff.mp H; obtain ⟨t229, A50, H⟩ := H; replace H : (if t229 = true then ((impl_Term_39_impl_isClause_1.f l0_1).bind fun t230 => (some (!t230))) else (some false)) = some r := H; have A5 := Aside0.mk A50; clear A50; by_cases c6 : t229 = true
   ·subst c6
    have H1 : ((impl_Term_39_impl_isClause_1.f l0_1).bind fun t230 => (some (!t230))) = some r := by rw [if_pos rfl] at H; exact H
    clear H; have H := H1; clear H1; replace H := Option.bind_eq_some_iff.mp H; obtain ⟨t230, A70, H⟩ := H; replace H : (some (!t230)) = some r := H; have A7 := Aside0.mk A70; clear A70; obtain rfl := Option.some.inj H; go_enter Tryd.func24, Tryd.ntmps24
    go_wp2_with (first | ((with_reducible refine gate_dst (N := 1) rfl ?_); (try (refine gate_guard (by rfl) ?_; dsimp only)); refine box_event ?hg (N := 1) ?hd (cs := #[.string a0_0, .slice A0_1 l0_1.length c0_1, .int .i64 a0_2, .int .i64 a0_3]) (t := 38) ?hr ?_; (case hd => rfl); (case hg => rfl); (case hr => first | (go_simp; done) | (go_simp; rfl)); intro gb227 hg w8 hbox hb; have n0_ := Aside0.mk (below_step (qb HB) hb); have n1_ := Aside0.mk (hbox); have n2_ := Aside0.mk ((by rw [hg]; exact (below_size (qb HB)) : w.heap.size ≤ gb227)); have n3_ := Aside0.mk ((by rw [hg]; exact (below_size (qb HB)) : w.heap.size ≤ gb227)); clear HB; have HB := n0_; have BK227 := n1_; have GW227 := n2_; have GE227 := n3_; clear n0_ n1_ n2_ n3_; clear hb hbox hg; obtain ⟨hcz9_0, hcz9_1, hcz9_2, hcz9_3, hfz9_0, hfz9_1, hfz9_2, hfz9_3⟩ := bz4 BK227) | ((with_reducible refine gate_callee (f := 37) rfl ?_); refine goesL_ (some 5) rfl rfl Tryd.func37 (by kernel_rfl) rfl #[.string a0_0] rfl mq ?_; (with_reducible refine (impl_NameOK.calls k a0_0 true _ A2.out).mono ?_); rintro e w' ⟨rfl, ⟨nd, rfl⟩⟩; refine ⟨_, rfl, ?_⟩) | (go_at_call 38; (with_reducible refine (impl_isAct.calls a0_2 a0_3 true _ A5.out).mono ?_); rintro e w' ⟨rfl, ⟨nd, rfl⟩⟩) | (go_at_call 39; (with_reducible refine (impl_Term_39_impl_isClause_1.calls _ _ l0_1 t230 _ ?side1 ?side2 A7.out).mono ?_); (case side1 => repeat (first | exact (Kd.C_below HR0_1.out (qb HB)) | (with_reducible refine Kd.C_alloc ?_ _) | (with_reducible refine Kd.C_drewN ?_ _) | (with_reducible refine Kd.C_drew ?_))); (case side2 => exact HC0_1.out); rintro e w10 ⟨rfl, hb⟩; have n0_ := Aside0.mk (blk_below (bq BK227) hb); have n1_ := Aside0.mk (below_step (qb HB) hb); clear BK227; clear HB; have BK227 := n0_; have HB := n1_; clear n0_ n1_; (try clear hb); (try clear hb2); (try clear hk); (try clear hi)))
    go_ret; exact ⟨eqq, qb HB⟩
   ·replace c6 := Bool.eq_false_iff.mpr c6; subst c6
    have H1 : (some false) = some r := by rw [if_neg (show ¬ (false = true) by decide)] at H; exact H
    clear H; have H := H1; clear H1; obtain rfl := Option.some.inj H; go_enter Tryd.func24, Tryd.ntmps24
    go_wp2_with (first | ((with_reducible refine gate_dst (N := 1) rfl ?_); (try (refine gate_guard (by rfl) ?_; dsimp only)); refine box_event ?hg (N := 1) ?hd (cs := #[.string a0_0, .slice A0_1 l0_1.length c0_1, .int .i64 a0_2, .int .i64 a0_3]) (t := 38) ?hr ?_; (case hd => rfl); (case hg => rfl); (case hr => first | (go_simp; done) | (go_simp; rfl)); intro gb227 hg w11 hbox hb; have n0_ := Aside0.mk (below_step (qb HB) hb); have n1_ := Aside0.mk (hbox); have n2_ := Aside0.mk ((by rw [hg]; exact (below_size (qb HB)) : w.heap.size ≤ gb227)); have n3_ := Aside0.mk ((by rw [hg]; exact (below_size (qb HB)) : w.heap.size ≤ gb227)); clear HB; have HB := n0_; have BK227 := n1_; have GW227 := n2_; have GE227 := n3_; clear n0_ n1_ n2_ n3_; clear hb hbox hg; obtain ⟨hcz12_0, hcz12_1, hcz12_2, hcz12_3, hfz12_0, hfz12_1, hfz12_2, hfz12_3⟩ := bz4 BK227) | ((with_reducible refine gate_callee (f := 37) rfl ?_); refine goesL_ (some 5) rfl rfl Tryd.func37 (by kernel_rfl) rfl #[.string a0_0] rfl mq ?_; (with_reducible refine (impl_NameOK.calls k a0_0 true _ A2.out).mono ?_); rintro e w' ⟨rfl, ⟨nd, rfl⟩⟩; refine ⟨_, rfl, ?_⟩) | (go_at_call 38; (with_reducible refine (impl_isAct.calls a0_2 a0_3 false _ A5.out).mono ?_); rintro e w' ⟨rfl, ⟨nd, rfl⟩⟩))
    go_ret; exact ⟨eqq, qb HB⟩
  ·rw [if_neg c4] at H; have c4b0 : decide ((l0_1.length : Int) ≤ 8) = false := decide_eq_false c4; have c4b1 : decide (l0_1.length ≤ 8) = false := decide_eq_false (by omega); clear c4; obtain rfl := Option.some.inj H; go_enter Tryd.func24, Tryd.ntmps24
   go_wp2_with (first | ((with_reducible refine gate_dst (N := 1) rfl ?_); (try (refine gate_guard (by rfl) ?_; dsimp only)); refine box_event ?hg (N := 1) ?hd (cs := #[.string a0_0, .slice A0_1 l0_1.length c0_1, .int .i64 a0_2, .int .i64 a0_3]) (t := 38) ?hr ?_; (case hd => rfl); (case hg => rfl); (case hr => first | (go_simp; done) | (go_simp; rfl)); intro gb227 hg w13 hbox hb; have n0_ := Aside0.mk (below_step (qb HB) hb); have n1_ := Aside0.mk (hbox); have n2_ := Aside0.mk ((by rw [hg]; exact (below_size (qb HB)) : w.heap.size ≤ gb227)); have n3_ := Aside0.mk ((by rw [hg]; exact (below_size (qb HB)) : w.heap.size ≤ gb227)); clear HB; have HB := n0_; have BK227 := n1_; have GW227 := n2_; have GE227 := n3_; clear n0_ n1_ n2_ n3_; clear hb hbox hg; obtain ⟨hcz14_0, hcz14_1, hcz14_2, hcz14_3, hfz14_0, hfz14_1, hfz14_2, hfz14_3⟩ := bz4 BK227) | ((with_reducible refine gate_callee (f := 37) rfl ?_); refine goesL_ (some 5) rfl rfl Tryd.func37 (by kernel_rfl) rfl #[.string a0_0] rfl mq ?_; (with_reducible refine (impl_NameOK.calls k a0_0 true _ A2.out).mono ?_); rintro e w' ⟨rfl, ⟨nd, rfl⟩⟩; refine ⟨_, rfl, ?_⟩))
   go_ret; exact ⟨eqq, qb HB⟩
 ·replace c3 := Bool.eq_false_iff.mpr c3; subst c3
  have H1 : (some false) = some r := by rw [if_neg (show ¬ (false = true) by decide)] at H; exact H
  clear H; have H := H1; clear H1; obtain rfl := Option.some.inj H; go_enter Tryd.func24, Tryd.ntmps24
  go_wp2_with (first | ((with_reducible refine gate_dst (N := 1) rfl ?_); (try (refine gate_guard (by rfl) ?_; dsimp only)); refine box_event ?hg (N := 1) ?hd (cs := #[.string a0_0, .slice A0_1 l0_1.length c0_1, .int .i64 a0_2, .int .i64 a0_3]) (t := 38) ?hr ?_; (case hd => rfl); (case hg => rfl); (case hr => first | (go_simp; done) | (go_simp; rfl)); intro gb227 hg w15 hbox hb; have n0_ := Aside0.mk (below_step (qb HB) hb); have n1_ := Aside0.mk (hbox); have n2_ := Aside0.mk ((by rw [hg]; exact (below_size (qb HB)) : w.heap.size ≤ gb227)); have n3_ := Aside0.mk ((by rw [hg]; exact (below_size (qb HB)) : w.heap.size ≤ gb227)); clear HB; have HB := n0_; have BK227 := n1_; have GW227 := n2_; have GE227 := n3_; clear n0_ n1_ n2_ n3_; clear hb hbox hg; obtain ⟨hcz16_0, hcz16_1, hcz16_2, hcz16_3, hfz16_0, hfz16_1, hfz16_2, hfz16_3⟩ := bz4 BK227) | ((with_reducible refine gate_callee (f := 37) rfl ?_); refine goesL_ (some 5) rfl rfl Tryd.func37 (by kernel_rfl) rfl #[.string a0_0] rfl mq ?_; (with_reducible refine (impl_NameOK.calls k a0_0 false _ A2.out).mono ?_); rintro e w' ⟨rfl, ⟨nd, rfl⟩⟩; refine ⟨_, rfl, ?_⟩))
  go_ret; exact ⟨eqq, qb HB⟩

/-! ### impl_Clause_42: function 42, by hand, over whatever function value -/
def impl_Clause_42.f (p : S38 → Option Bool) : List S38 → Int → Option Int
 | [], _ => some (-1)
 | x :: xs, i => (p x).bind fun b => if b = true then some i else impl_Clause_42.f p xs (i + 1)
theorem impl_Clause_42.cons (p : S38 → Option Bool) (x : S38) (xs : List S38) (i : Int) : impl_Clause_42.f p (x :: xs) i = (p x).bind fun b => if b = true then some i else impl_Clause_42.f p xs (i + 1) := rfl
theorem impl_Clause_42.mono (p q : S38 → Option Bool) (h : ∀ x, LeO (p x) (q x)) : ∀ l i, LeO (impl_Clause_42.f p l i) (impl_Clause_42.f q l i)
 | [], _ => LeO.refl _
 | x :: xs, i => LeO.bind (h x) (fun b => LeO.ite (LeO.refl _) (impl_Clause_42.mono p q h xs (i + 1)))
set_option maxHeartbeats 8000000 in
set_option maxRecDepth 100000 in
theorem impl_Clause_42.calls (p : S38 → Option Bool) (l0 : List S38) (A0 : Option Addr) (c0 : Nat) (g : Nat) (lb : Array Value) (r : Int) (w : World) (eg : ∀ args w, (callFunc g args).run Tryd.prog w = .ok (.enter g args) w)
  (hp : ∀ (W_ : World) (x_ : S38) (A_1 : Option Addr) (c_1 : Nat) (b_ : Bool), Below w.heap.size w W_ → Kd.C k47 W_ A_1 x_.f1.length x_.f1 → x_.f1.length ≤ c_1 → p x_ = some b_ → Calls Tryd.prog g (#[.agg #[.string x_.f0, .slice A_1 x_.f1.length c_1, .int .i64 x_.f2, .int .i64 x_.f3]] ++ lb) W_ fun e w' => e = .returned (.bool b_) ∧ Below W_.heap.size W_ w')
  (hr0 : Kd.C k38 w A0 l0.length l0) (hc0 : l0.length ≤ c0) (h : impl_Clause_42.f p l0 0 = some r) :
  Calls Tryd.prog 42 #[.slice A0 l0.length c0, .func (.func g) #[] lb] w fun e w' => e = .returned (.int .i64 r) ∧ Below w.heap.size w w' := by
 have hbig : l0.length ≤ 9223372036854775807 := hr0.2.1; have HP := Aside0.mk hp; have HR := Aside0.mk hr0; have H := Aside0.mk h; clear hp hr0 h; go_enter Tryd.func42, Tryd.ntmps42; go_wp2
 go_loopg [5, 8] l0.length (fun gg _ s8 wr => ∃ kk : Nat, kk ≤ l0.length ∧ l0.length - kk ≤ gg ∧ s8 = .int .i64 kk ∧ Aside0 (Below w.heap.size w wr) ∧ Aside0 (impl_Clause_42.f p (l0.drop kk) kk = some r))
 case atStart => exact ⟨0, Nat.zero_le _, by omega, rfl, ⟨Below.refl _ w⟩, ⟨H.out⟩⟩
 case round =>
  obtain ⟨kk, hkk, hg, rfl, BW, HF⟩ := hrel; by_cases hlt : kk < l0.length
  ·have hltz : (kk : Int) < (l0.length : Int) := by omega
   have hf := HF.out
   have hcons : l0.drop kk = rd_T38 l0 (kk : Int) :: l0.drop (kk + 1) := by
    rw [List.drop_eq_getElem_cons hlt]
    congr 1
    unfold rd_T38; rw [Int.toNat_natCast, List.getD_eq_getElem?_getD, List.getElem?_eq_getElem hlt]; rfl
   obtain ⟨ad, A_1, c_1, rfl, hx0, hx1, hx2, hx3, hl1, hi1⟩ := at_T38 (Kd.C_below HR.out BW.out) (kk : Int) (by omega) hltz; rw [hcons, impl_Clause_42.cons] at hf; clear hcons; simp only [Int.toNat_natCast] at hx0 hx1 hx2 hx3; generalize hxx : rd_T38 l0 (kk : Int) = x_ at *; have HX := Aside0.mk hxx; clear hxx; obtain ⟨b, hb, hf2⟩ := Option.bind_eq_some_iff.mp hf; have hcall := HP.out wr x_ A_1 c_1 b BW.out hi1 hl1 hb; have HB := Aside0.mk hb; have HF2 := Aside0.mk hf2; clear hf hb hf2
   cases b with
   | true =>
    go_wp2_with (go_at_fn g; refine hcall.mono ?_; rintro e w' ⟨rfl, hb'⟩)
    go_ret; have hr_ := HF2.out; simp only [if_true, Option.some.injEq] at hr_; exact ⟨by rw [← hr_]; rfl, BW.out.trans (hb'.mono BW.out.size)⟩
   | false =>
    go_wp2_with (go_at_fn g; refine hcall.mono ?_; rintro e w' ⟨rfl, hb'⟩)
    go_roundg (l0.length - (kk + 1))
    case measure => omega
    case rel =>
     have hr_ := HF2.out; simp only [Bool.false_eq_true, if_false] at hr_; exact ⟨kk + 1, by omega, by omega, by go_num, ⟨BW.out.trans (hb'.mono BW.out.size)⟩, ⟨by rw [show ((kk + 1 : Nat) : Int) = (kk : Int) + 1 by omega]; exact hr_⟩⟩
  ·have hltz : ¬ (kk : Int) < (l0.length : Int) := by omega
   have : kk = l0.length := by omega
   subst this; have hf := HF.out; rw [List.drop_length] at hf; have hr_ : -1 = r := Option.some.inj hf; have HX := Aside0.mk hr_; clear hf hr_; go_wp2; go_ret; exact ⟨by rw [← HX.out]; rfl, BW.out⟩

/-! ### impl_clauseAt_1: function 43, by hand -/
def impl_clauseAt_1.p (s : ByteArray) (x : S38) : Option Bool := some (x.f0.toList == s.toList)
set_option maxHeartbeats 8000000 in
set_option maxRecDepth 100000 in
theorem impl_clauseAt_1.calls (s : ByteArray) (x : S38) (A1 : Option Addr) (c1 : Nat) (g : Nat) (r : Bool) (w : World) (h1 : w.cell? ⟨g, 0, none⟩ = some (.string s)) (h : impl_clauseAt_1.p s x = some r) :
  Calls Tryd.prog 43 #[.agg #[.string x.f0, .slice A1 x.f1.length c1, .int .i64 x.f2, .int .i64 x.f3], .pointer (some ⟨g, 0, none⟩)] w fun e w' => e = .returned (.bool r) ∧ Below w.heap.size w w' := by
 have k1 : ∀ o, (w.alloc o).cell? ⟨g, 0, none⟩ = some (.string s) := fun o => (World.cell?_alloc_lt _ _ _ (World.block_lt_of_cell? _ _ h1)).trans h1
 obtain rfl := Option.some.inj h; clear h h1; go_enter Tryd.func43, Tryd.ntmps43; go_wp2; go_ret; exact ⟨rfl, (Below.refl _ w).alloc (Nat.le_refl _) _⟩

/-! ### impl_clauseAt: function 25, by hand -/
def impl_clauseAt.f (l0 : List S38) (a1 : ByteArray) : Option Int := impl_Clause_42.f (impl_clauseAt_1.p a1) l0 0
set_option maxHeartbeats 8000000 in
set_option maxRecDepth 100000 in
theorem impl_clauseAt.calls (A0 : Option Addr) (c0 : Nat) (l0 : List S38) (a1 : ByteArray) (r : Int) (w : World) (hr0 : Kd.C k38 w A0 l0.length l0) (hc0 : l0.length ≤ c0) (h : impl_clauseAt.f l0 a1 = some r) :
  Calls Tryd.prog 25 #[.slice A0 l0.length c0, .string a1] w fun e w' => e = .returned (.int .i64 r) ∧ Below w.heap.size w w' := by
 have BA : Below w.heap.size w (w.alloc (.cells #[.string a1] 9)) := (Below.refl _ w).alloc (Nat.le_refl _) _; have C := impl_Clause_42.calls (impl_clauseAt_1.p a1) l0 A0 c0 43 #[.pointer (some ⟨w.heap.size, 0, none⟩)] r (w.alloc (.cells #[.string a1] 9)) (fun args w => enters_of Tryd.func43 (by kernel_rfl) rfl args w)
  (fun W y A_1 c_1 b_ hW _ _ hy => impl_clauseAt_1.calls a1 y A_1 c_1 w.heap.size b_ W ((blk_cell (blk_below (blk_new w _) hW) 0).trans rfl) hy)
  (Kd.C_below hr0 BA) hc0 h
 have HCC := Aside0.mk C; have HB := Aside0.mk BA; clear C BA hr0 h; go_enter Tryd.func25, Tryd.ntmps25
 go_wp2_with fail
 refine HCC.out.mono ?_; rintro e w5 ⟨rfl, hb5⟩; go_wp2; go_ret; exact ⟨rfl, HB.out.trans (hb5.mono HB.out.size)⟩

/-! ### impl_ClausesOK: function 14 -/
def impl_ClausesOK.l0 : Nat → List (S38) → List (S38) → Int → Int → Option (Bool)
 | 0, _, _, _, _ => none
 | k + 1, x0, x5, x6, x7 => if x7 < x6 then (if 0 ≤ x7 then (if x7 < (x5.length : Int) then ((impl_isClause.f k ((rd_T38 x5 x7).f0) ((rd_T38 x5 x7).f1) ((rd_T38 x5 x7).f2) ((rd_T38 x5 x7).f3)).bind fun t233 => (if t233 = true then ((impl_clauseAt.f x0 ((rd_T38 x5 x7).f0)).bind fun t234 => (if t234 = x7 then (impl_ClausesOK.l0 k x0 x5 x6 (wrap64 (x7 + 1))) else (some false))) else (some false))) else (none)) else (none)) else (some (decide ((x0.length : Int) ≤ 40)))
def impl_ClausesOK.f (k : Nat) (l0 : List (S38)) : Option (Bool) := impl_ClausesOK.l0 k l0 l0 (l0.length : Int) 0
theorem impl_ClausesOK.mono_l : ∀ k, (∀ y0 y1 y2 y3, LeO (impl_ClausesOK.l0 k y0 y1 y2 y3) (impl_ClausesOK.l0 (k + 1) y0 y1 y2 y3))
 | 0 => fun _ _ _ _ r h => by simp [impl_ClausesOK.l0] at h
 | k + 1 => by
  have ih0 := impl_ClausesOK.mono_l k
  ·intro y0 y1 y2 y3; unfold impl_ClausesOK.l0
   repeat' first
   | (with_reducible exact ih0 _ _ _ _)
   | (with_reducible exact impl_isClause.mono _ _ _ _ _)
   | (with_reducible exact LeO.refl _)
   | (with_reducible exact LeO.none _)
   | (with_reducible refine LeO.ite ?_ ?_)
   | (with_reducible refine LeO.bind ?_ (fun _ => ?_))
   | exact ih0 _ _ _ _
   | exact impl_isClause.mono _ _ _ _ _
   | exact LeO.none _
   | refine LeO.ite ?_ ?_
   | refine LeO.bind ?_ (fun _ => ?_)
theorem impl_ClausesOK.mono : ∀ a0 k, LeO (impl_ClausesOK.f k a0) (impl_ClausesOK.f (k + 1) a0) := by
 intro a0 k; have ih0 := impl_ClausesOK.mono_l k; unfold impl_ClausesOK.f
 repeat' first
   | (with_reducible exact ih0 _ _ _ _)
   | (with_reducible exact impl_isClause.mono _ _ _ _ _)
   | (with_reducible exact LeO.refl _)
   | (with_reducible exact LeO.none _)
   | (with_reducible refine LeO.ite ?_ ?_)
   | (with_reducible refine LeO.bind ?_ (fun _ => ?_))
   | exact ih0 _ _ _ _
   | exact impl_isClause.mono _ _ _ _ _
   | exact LeO.none _
   | refine LeO.ite ?_ ?_
   | refine LeO.bind ?_ (fun _ => ?_)
set_option maxHeartbeats 8000000 in
set_option maxRecDepth 100000 in
theorem impl_ClausesOK.calls (k : Nat) (A0 : Option Addr) (c0 : Nat) (l0 : List (S38)) (r : Bool) (w : World) (hr0 : Kd.C k38 w A0 l0.length l0) (hc0 : l0.length ≤ c0) (h : impl_ClausesOK.f k l0 = some r) :
  Calls Tryd.prog 14 #[.slice A0 l0.length c0] w fun e w' => e = .returned (.bool r) ∧ Below w.heap.size w w' := by
 have hu38 := Tryd.underlying38; have HR0 := Aside0.mk hr0; have HC0 := Aside0.mk hc0; clear hr0 hc0; have HB := Aside0.mk (Below.refl w.heap.size w); have H : (impl_ClausesOK.l0 k l0 l0 (l0.length : Int) 0) = some r := h; clear h; have H' := Aside0.mk H; clear H; go_enter Tryd.func14, Tryd.ntmps14; go_wp2
 go_loopg [7] k (fun kq v7 w' => ∃ (x7_1 : Int), v7 = .int .i64 x7_1 ∧ Aside0 (impl_ClausesOK.l0 kq l0 l0 (l0.length : Int) x7_1 = some r) ∧ Aside0 (kq ≤ k) ∧ Aside0 (Below w.heap.size w w'))
 case atStart => exact ⟨(0), (by first | rfl | (simp; done) | (simp [*]; done)), H', ⟨Nat.le_refl _⟩, ⟨qb HB⟩⟩
 case round =>
  clear H'; (try clear c1); obtain ⟨x7_1, rfl, HA, HK1, HB⟩ := hrel
  cases gk with
  | zero => exact absurd HA.out (by simp [impl_ClausesOK.l0])
  | succ k1 =>
   have H := HA.out; clear HA; simp only [impl_ClausesOK.l0] at H; by_cases c2 : x7_1 < (l0.length : Int)
   ·rw [if_pos c2] at H; have c2b0 : decide (x7_1 < (l0.length : Int)) = true := decide_eq_true c2; clear c2; by_cases c3 : 0 ≤ x7_1
    ·rw [if_pos c3] at H; have c3b0 : decide (0 ≤ x7_1) = true := decide_eq_true c3; clear c3; by_cases c4 : x7_1 < (l0.length : Int)
     ·rw [if_pos c4] at H; have c4b0 : decide (x7_1 < (l0.length : Int)) = true := decide_eq_true c4; clear c4; replace H := Option.bind_eq_some_iff.mp H; obtain ⟨t233, A50, H⟩ := H; replace H : (if t233 = true then ((impl_clauseAt.f l0 ((rd_T38 l0 x7_1).f0)).bind fun t234 => (if t234 = x7_1 then (impl_ClausesOK.l0 k1 l0 l0 (l0.length : Int) (wrap64 (x7_1 + 1))) else (some false))) else (some false)) = some r := H; have A5 := Aside0.mk A50; clear A50; by_cases c6 : t233 = true
      ·subst c6
       have H1 : ((impl_clauseAt.f l0 ((rd_T38 l0 x7_1).f0)).bind fun t234 => (if t234 = x7_1 then (impl_ClausesOK.l0 k1 l0 l0 (l0.length : Int) (wrap64 (x7_1 + 1))) else (some false))) = some r := by rw [if_pos rfl] at H; exact H
       clear H; have H := H1; clear H1; replace H := Option.bind_eq_some_iff.mp H; obtain ⟨t234, A70, H⟩ := H; replace H : (if t234 = x7_1 then (impl_ClausesOK.l0 k1 l0 l0 (l0.length : Int) (wrap64 (x7_1 + 1))) else (some false)) = some r := H; have A7 := Aside0.mk A70; clear A70; by_cases c8 : t234 = x7_1
       ·rw [if_pos c8] at H; have c8b0 : (t234 == x7_1) = true := beq_iff_eq.mpr c8; have c8b1 : (t234 != x7_1) = false := bne_eq_false_iff_eq.mpr c8; clear c8; have H' := Aside0.mk H; clear H; have p231 : 0 ≤ (x7_1 : Int) := of_decide_eq_true (by first | (with_reducible assumption) | assumption); have q231 : x7_1 < (l0.length : Int) := of_decide_eq_true (by first | (with_reducible assumption) | assumption); obtain ⟨ad231, A231_1, c231_1, e231, hx231_0, hx231_1, hx231_2, hx231_3, hl231_1, hi231_1⟩ := at_T38 HR0.out x7_1 p231 q231
        cases e231
        replace hx231_0 := (HB.out.cell (World.block_lt_of_cell? w _ hx231_0)).trans hx231_0; replace hx231_1 := (HB.out.cell (World.block_lt_of_cell? w _ hx231_1)).trans hx231_1; replace hx231_2 := (HB.out.cell (World.block_lt_of_cell? w _ hx231_2)).trans hx231_2; replace hx231_3 := (HB.out.cell (World.block_lt_of_cell? w _ hx231_3)).trans hx231_3; have HR231_1 := Aside0.mk hi231_1; have HC231_1 := Aside0.mk hl231_1; clear hi231_1 hl231_1; replace p231 := eq_true p231; replace q231 := eq_true q231
        go_wp2_with (first | ((with_reducible refine gate_dst (N := 4) rfl ?_); refine box_event ?hg (N := 4) ?hd (cs := #[.string (⟨#[]⟩ : ByteArray), .slice none 0 0, .int .i64 0, .int .i64 0]) (t := 38) ?hr ?_; (case hd => rfl); (case hg => rfl); (case hr => first | (go_simp; done) | (go_simp; rfl)); intro gb232 hg w9 hbox hb; have n0_ := Aside0.mk (below_step (qb HB) hb); have n1_ := Aside0.mk (hbox); have n2_ := Aside0.mk ((by rw [hg]; exact (below_size (qb HB)) : w.heap.size ≤ gb232)); have n3_ := Aside0.mk ((by rw [hg]; exact (below_size (qb HB)) : w.heap.size ≤ gb232)); clear HB; have HB := n0_; have BK232 := n1_; have GW232 := n2_; have GE232 := n3_; clear n0_ n1_ n2_ n3_; clear hb hbox hg; obtain ⟨hcz10_0, hcz10_1, hcz10_2, hcz10_3, hfz10_0, hfz10_1, hfz10_2, hfz10_3⟩ := bz4 BK232) | ((with_reducible refine gate_callee (f := 24) rfl ?_); refine goesL_ (some 13) rfl rfl Tryd.func24 (by kernel_rfl) rfl #[.agg #[.string ((rd_T38 l0 x7_1).f0), .slice A231_1 ((rd_T38 l0 x7_1).f1).length c231_1, .int .i64 ((rd_T38 l0 x7_1).f2), .int .i64 ((rd_T38 l0 x7_1).f3)]] rfl mq ?_; (with_reducible refine (impl_isClause.calls k1 ((rd_T38 l0 x7_1).f0) _ _ ((rd_T38 l0 x7_1).f1) ((rd_T38 l0 x7_1).f2) ((rd_T38 l0 x7_1).f3) true _ ?side1 ?side2 A5.out).mono ?_); (case side1 => exact Kd.C_below HR231_1.out (qb HB)); (case side2 => exact HC231_1.out); rintro e w11 ⟨rfl, hb⟩; refine ⟨_, rfl, ?_⟩; have n0_ := Aside0.mk (blk_below (g := gb232) (o := .cells #[.string ((rd_T38 l0 x7_1).f0), .slice A231_1 ((rd_T38 l0 x7_1).f1).length c231_1, .int .i64 ((rd_T38 l0 x7_1).f2), .int .i64 ((rd_T38 l0 x7_1).f3)] 38 (0, 0)) (by (with_reducible repeat (first | refine blk_drewN ?_ _ | refine blk_drew ?_ | refine blk_alloc ?_ _)); refine blk_put (cs := #[.string ((rd_T38 l0 x7_1).f0), .slice A231_1 ((rd_T38 l0 x7_1).f1).length c231_1, .int .i64 ((rd_T38 l0 x7_1).f2), .int .i64 0]) ?_ 3 _ rfl; (with_reducible repeat (first | refine blk_drewN ?_ _ | refine blk_drew ?_ | refine blk_alloc ?_ _)); refine blk_put (cs := #[.string ((rd_T38 l0 x7_1).f0), .slice A231_1 ((rd_T38 l0 x7_1).f1).length c231_1, .int .i64 0, .int .i64 0]) ?_ 2 _ rfl; (with_reducible repeat (first | refine blk_drewN ?_ _ | refine blk_drew ?_ | refine blk_alloc ?_ _)); refine blk_put (cs := #[.string ((rd_T38 l0 x7_1).f0), .slice none 0 0, .int .i64 0, .int .i64 0]) ?_ 1 _ rfl; (with_reducible repeat (first | refine blk_drewN ?_ _ | refine blk_drew ?_ | refine blk_alloc ?_ _)); refine blk_put (cs := #[.string (⟨#[]⟩ : ByteArray), .slice none 0 0, .int .i64 0, .int .i64 0]) ?_ 0 _ rfl; (with_reducible repeat (first | refine blk_drewN ?_ _ | refine blk_drew ?_ | refine blk_alloc ?_ _)); exact BK232.out) hb); have n1_ := Aside0.mk (below_step (qb HB) hb); clear BK232; clear HB; have BK232 := n0_; have HB := n1_; clear n0_ n1_; (try clear hb); (try clear hb2); (try clear hk); (try clear hi); obtain ⟨hcz12_0, hcz12_1, hcz12_2, hcz12_3, hfz12_0, hfz12_1, hfz12_2, hfz12_3⟩ := bz4 BK232) | (go_at_call 25; (with_reducible refine (impl_clauseAt.calls _ _ l0 ((rd_T38 l0 x7_1).f0) t234 _ ?side1 ?side2 A7.out).mono ?_); (case side1 => repeat (first | exact (Kd.C_below HR0.out HB.out) | (with_reducible refine Kd.C_alloc ?_ _) | (with_reducible refine Kd.C_drewN ?_ _) | (with_reducible refine Kd.C_drew ?_))); (case side2 => exact HC0.out); rintro e w13 ⟨rfl, hb⟩; have n0_ := Aside0.mk (blk_below (bq BK232) hb); have n1_ := Aside0.mk (below_step (qb HB) hb); clear BK232; clear HB; have BK232 := n0_; have HB := n1_; clear n0_ n1_; (try clear hb); (try clear hb2); (try clear hk); (try clear hi)))
        go_roundg k1
        case measure => have := HK1.out; omega
        case rel => exact ⟨(wrap64 (x7_1 + 1)), (by first | rfl | (simp; done) | (simp [*]; done)), H', ⟨by have := HK1.out; omega⟩, ⟨qb HB⟩⟩
       ·rw [if_neg c8] at H; have c8b0 : (t234 == x7_1) = false := beq_eq_false_iff_ne.mpr c8; have c8b1 : (t234 != x7_1) = true := bne_iff_ne.mpr c8; obtain rfl := Option.some.inj H; have p231 : 0 ≤ (x7_1 : Int) := of_decide_eq_true (by first | (with_reducible assumption) | assumption); have q231 : x7_1 < (l0.length : Int) := of_decide_eq_true (by first | (with_reducible assumption) | assumption); obtain ⟨ad231, A231_1, c231_1, e231, hx231_0, hx231_1, hx231_2, hx231_3, hl231_1, hi231_1⟩ := at_T38 HR0.out x7_1 p231 q231
        cases e231
        replace hx231_0 := (HB.out.cell (World.block_lt_of_cell? w _ hx231_0)).trans hx231_0; replace hx231_1 := (HB.out.cell (World.block_lt_of_cell? w _ hx231_1)).trans hx231_1; replace hx231_2 := (HB.out.cell (World.block_lt_of_cell? w _ hx231_2)).trans hx231_2; replace hx231_3 := (HB.out.cell (World.block_lt_of_cell? w _ hx231_3)).trans hx231_3; have HR231_1 := Aside0.mk hi231_1; have HC231_1 := Aside0.mk hl231_1; clear hi231_1 hl231_1; replace p231 := eq_true p231; replace q231 := eq_true q231
        go_wp2_with (first | ((with_reducible refine gate_dst (N := 4) rfl ?_); refine box_event ?hg (N := 4) ?hd (cs := #[.string (⟨#[]⟩ : ByteArray), .slice none 0 0, .int .i64 0, .int .i64 0]) (t := 38) ?hr ?_; (case hd => rfl); (case hg => rfl); (case hr => first | (go_simp; done) | (go_simp; rfl)); intro gb232 hg w14 hbox hb; have n0_ := Aside0.mk (below_step (qb HB) hb); have n1_ := Aside0.mk (hbox); have n2_ := Aside0.mk ((by rw [hg]; exact (below_size (qb HB)) : w.heap.size ≤ gb232)); have n3_ := Aside0.mk ((by rw [hg]; exact (below_size (qb HB)) : w.heap.size ≤ gb232)); clear HB; have HB := n0_; have BK232 := n1_; have GW232 := n2_; have GE232 := n3_; clear n0_ n1_ n2_ n3_; clear hb hbox hg; obtain ⟨hcz15_0, hcz15_1, hcz15_2, hcz15_3, hfz15_0, hfz15_1, hfz15_2, hfz15_3⟩ := bz4 BK232) | ((with_reducible refine gate_callee (f := 24) rfl ?_); refine goesL_ (some 13) rfl rfl Tryd.func24 (by kernel_rfl) rfl #[.agg #[.string ((rd_T38 l0 x7_1).f0), .slice A231_1 ((rd_T38 l0 x7_1).f1).length c231_1, .int .i64 ((rd_T38 l0 x7_1).f2), .int .i64 ((rd_T38 l0 x7_1).f3)]] rfl mq ?_; (with_reducible refine (impl_isClause.calls k1 ((rd_T38 l0 x7_1).f0) _ _ ((rd_T38 l0 x7_1).f1) ((rd_T38 l0 x7_1).f2) ((rd_T38 l0 x7_1).f3) true _ ?side1 ?side2 A5.out).mono ?_); (case side1 => exact Kd.C_below HR231_1.out (qb HB)); (case side2 => exact HC231_1.out); rintro e w16 ⟨rfl, hb⟩; refine ⟨_, rfl, ?_⟩; have n0_ := Aside0.mk (blk_below (g := gb232) (o := .cells #[.string ((rd_T38 l0 x7_1).f0), .slice A231_1 ((rd_T38 l0 x7_1).f1).length c231_1, .int .i64 ((rd_T38 l0 x7_1).f2), .int .i64 ((rd_T38 l0 x7_1).f3)] 38 (0, 0)) (by (with_reducible repeat (first | refine blk_drewN ?_ _ | refine blk_drew ?_ | refine blk_alloc ?_ _)); refine blk_put (cs := #[.string ((rd_T38 l0 x7_1).f0), .slice A231_1 ((rd_T38 l0 x7_1).f1).length c231_1, .int .i64 ((rd_T38 l0 x7_1).f2), .int .i64 0]) ?_ 3 _ rfl; (with_reducible repeat (first | refine blk_drewN ?_ _ | refine blk_drew ?_ | refine blk_alloc ?_ _)); refine blk_put (cs := #[.string ((rd_T38 l0 x7_1).f0), .slice A231_1 ((rd_T38 l0 x7_1).f1).length c231_1, .int .i64 0, .int .i64 0]) ?_ 2 _ rfl; (with_reducible repeat (first | refine blk_drewN ?_ _ | refine blk_drew ?_ | refine blk_alloc ?_ _)); refine blk_put (cs := #[.string ((rd_T38 l0 x7_1).f0), .slice none 0 0, .int .i64 0, .int .i64 0]) ?_ 1 _ rfl; (with_reducible repeat (first | refine blk_drewN ?_ _ | refine blk_drew ?_ | refine blk_alloc ?_ _)); refine blk_put (cs := #[.string (⟨#[]⟩ : ByteArray), .slice none 0 0, .int .i64 0, .int .i64 0]) ?_ 0 _ rfl; (with_reducible repeat (first | refine blk_drewN ?_ _ | refine blk_drew ?_ | refine blk_alloc ?_ _)); exact BK232.out) hb); have n1_ := Aside0.mk (below_step (qb HB) hb); clear BK232; clear HB; have BK232 := n0_; have HB := n1_; clear n0_ n1_; (try clear hb); (try clear hb2); (try clear hk); (try clear hi); obtain ⟨hcz17_0, hcz17_1, hcz17_2, hcz17_3, hfz17_0, hfz17_1, hfz17_2, hfz17_3⟩ := bz4 BK232) | (go_at_call 25; (with_reducible refine (impl_clauseAt.calls _ _ l0 ((rd_T38 l0 x7_1).f0) t234 _ ?side1 ?side2 A7.out).mono ?_); (case side1 => repeat (first | exact (Kd.C_below HR0.out HB.out) | (with_reducible refine Kd.C_alloc ?_ _) | (with_reducible refine Kd.C_drewN ?_ _) | (with_reducible refine Kd.C_drew ?_))); (case side2 => exact HC0.out); rintro e w18 ⟨rfl, hb⟩; have n0_ := Aside0.mk (blk_below (bq BK232) hb); have n1_ := Aside0.mk (below_step (qb HB) hb); clear BK232; clear HB; have BK232 := n0_; have HB := n1_; clear n0_ n1_; (try clear hb); (try clear hb2); (try clear hk); (try clear hi)))
        go_ret; exact ⟨eqq, qb HB⟩
      ·replace c6 := Bool.eq_false_iff.mpr c6; subst c6
       have H1 : (some false) = some r := by rw [if_neg (show ¬ (false = true) by decide)] at H; exact H
       clear H; have H := H1; clear H1; obtain rfl := Option.some.inj H; have p231 : 0 ≤ (x7_1 : Int) := of_decide_eq_true (by first | (with_reducible assumption) | assumption); have q231 : x7_1 < (l0.length : Int) := of_decide_eq_true (by first | (with_reducible assumption) | assumption); obtain ⟨ad231, A231_1, c231_1, e231, hx231_0, hx231_1, hx231_2, hx231_3, hl231_1, hi231_1⟩ := at_T38 HR0.out x7_1 p231 q231
       cases e231
       replace hx231_0 := (HB.out.cell (World.block_lt_of_cell? w _ hx231_0)).trans hx231_0; replace hx231_1 := (HB.out.cell (World.block_lt_of_cell? w _ hx231_1)).trans hx231_1; replace hx231_2 := (HB.out.cell (World.block_lt_of_cell? w _ hx231_2)).trans hx231_2; replace hx231_3 := (HB.out.cell (World.block_lt_of_cell? w _ hx231_3)).trans hx231_3; have HR231_1 := Aside0.mk hi231_1; have HC231_1 := Aside0.mk hl231_1; clear hi231_1 hl231_1; replace p231 := eq_true p231; replace q231 := eq_true q231
       go_wp2_with (first | ((with_reducible refine gate_dst (N := 4) rfl ?_); refine box_event ?hg (N := 4) ?hd (cs := #[.string (⟨#[]⟩ : ByteArray), .slice none 0 0, .int .i64 0, .int .i64 0]) (t := 38) ?hr ?_; (case hd => rfl); (case hg => rfl); (case hr => first | (go_simp; done) | (go_simp; rfl)); intro gb232 hg w19 hbox hb; have n0_ := Aside0.mk (below_step (qb HB) hb); have n1_ := Aside0.mk (hbox); have n2_ := Aside0.mk ((by rw [hg]; exact (below_size (qb HB)) : w.heap.size ≤ gb232)); have n3_ := Aside0.mk ((by rw [hg]; exact (below_size (qb HB)) : w.heap.size ≤ gb232)); clear HB; have HB := n0_; have BK232 := n1_; have GW232 := n2_; have GE232 := n3_; clear n0_ n1_ n2_ n3_; clear hb hbox hg; obtain ⟨hcz20_0, hcz20_1, hcz20_2, hcz20_3, hfz20_0, hfz20_1, hfz20_2, hfz20_3⟩ := bz4 BK232) | ((with_reducible refine gate_callee (f := 24) rfl ?_); refine goesL_ (some 13) rfl rfl Tryd.func24 (by kernel_rfl) rfl #[.agg #[.string ((rd_T38 l0 x7_1).f0), .slice A231_1 ((rd_T38 l0 x7_1).f1).length c231_1, .int .i64 ((rd_T38 l0 x7_1).f2), .int .i64 ((rd_T38 l0 x7_1).f3)]] rfl mq ?_; (with_reducible refine (impl_isClause.calls k1 ((rd_T38 l0 x7_1).f0) _ _ ((rd_T38 l0 x7_1).f1) ((rd_T38 l0 x7_1).f2) ((rd_T38 l0 x7_1).f3) false _ ?side1 ?side2 A5.out).mono ?_); (case side1 => exact Kd.C_below HR231_1.out (qb HB)); (case side2 => exact HC231_1.out); rintro e w21 ⟨rfl, hb⟩; refine ⟨_, rfl, ?_⟩; have n0_ := Aside0.mk (blk_below (g := gb232) (o := .cells #[.string ((rd_T38 l0 x7_1).f0), .slice A231_1 ((rd_T38 l0 x7_1).f1).length c231_1, .int .i64 ((rd_T38 l0 x7_1).f2), .int .i64 ((rd_T38 l0 x7_1).f3)] 38 (0, 0)) (by (with_reducible repeat (first | refine blk_drewN ?_ _ | refine blk_drew ?_ | refine blk_alloc ?_ _)); refine blk_put (cs := #[.string ((rd_T38 l0 x7_1).f0), .slice A231_1 ((rd_T38 l0 x7_1).f1).length c231_1, .int .i64 ((rd_T38 l0 x7_1).f2), .int .i64 0]) ?_ 3 _ rfl; (with_reducible repeat (first | refine blk_drewN ?_ _ | refine blk_drew ?_ | refine blk_alloc ?_ _)); refine blk_put (cs := #[.string ((rd_T38 l0 x7_1).f0), .slice A231_1 ((rd_T38 l0 x7_1).f1).length c231_1, .int .i64 0, .int .i64 0]) ?_ 2 _ rfl; (with_reducible repeat (first | refine blk_drewN ?_ _ | refine blk_drew ?_ | refine blk_alloc ?_ _)); refine blk_put (cs := #[.string ((rd_T38 l0 x7_1).f0), .slice none 0 0, .int .i64 0, .int .i64 0]) ?_ 1 _ rfl; (with_reducible repeat (first | refine blk_drewN ?_ _ | refine blk_drew ?_ | refine blk_alloc ?_ _)); refine blk_put (cs := #[.string (⟨#[]⟩ : ByteArray), .slice none 0 0, .int .i64 0, .int .i64 0]) ?_ 0 _ rfl; (with_reducible repeat (first | refine blk_drewN ?_ _ | refine blk_drew ?_ | refine blk_alloc ?_ _)); exact BK232.out) hb); have n1_ := Aside0.mk (below_step (qb HB) hb); clear BK232; clear HB; have BK232 := n0_; have HB := n1_; clear n0_ n1_; (try clear hb); (try clear hb2); (try clear hk); (try clear hi)))
       go_ret; exact ⟨eqq, qb HB⟩
     ·rw [if_neg c4] at H; exact absurd H (by simp)
    ·rw [if_neg c3] at H; exact absurd H (by simp)
   ·rw [if_neg c2] at H; have c2b0 : decide (x7_1 < (l0.length : Int)) = false := decide_eq_false c2; clear c2; obtain rfl := Option.some.inj H; go_wp2; go_ret; exact ⟨eqq, qb HB⟩

end Go.Proofs.YtplboloibpkdeaaDoor.PFnExactRulesText
