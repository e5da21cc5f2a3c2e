-- Written by wip/tools/hp.py over the kit's print (not by hand): functions and walks of All.
import Derived.Test.YtbmpkggjcnmieaaPAllx0
import Derived.Test.YtbmpkggjcnmieaaPAllx1
namespace Go.Proofs.Ytbmpkggjcnmieaa.PAll
open Go.RowKit Go.Proofs.YtbmpkggjcnmieaaW.PrintWords Go.Proofs.YtbmpkggjcnmieaaW.PrintLast Go.Proofs.YtbmpkggjcnmieaaW.PrintMore
attribute [local go_sem] max2_int min2_int max_two min_two max_three min_three max_four min_four   -- for this text's walks alone
set_option linter.unusedVariables false
set_option linter.unusedSimpArgs false

/-! ### impl_isAct: function 58 -/
def impl_isAct.f (a0 : Int) (a1 : Int) : Option (Bool) := if a0 = 1 then ((impl_within.f a1 0 100).bind fun t226 => (some t226)) else (if a0 = 2 then ((impl_within.f a1 0 1000000000).bind fun t227 => (some t227)) else (if a0 = 3 then (some (a1 == 0)) else (some false)))
set_option maxHeartbeats 8000000 in
set_option maxRecDepth 100000 in
theorem impl_isAct.calls (a0 : Int) (a1 : Int) (r : Bool) (w : World) (h : impl_isAct.f a0 a1 = some r) :
  Calls Try.prog 58 #[.int .i64 a0, .int .i64 a1] w fun e w' => e = .returned (.bool r) ∧ Drawn0 w w' := by
 have H : (if a0 = 1 then ((impl_within.f a1 0 100).bind fun t226 => (some t226)) else (if a0 = 2 then ((impl_within.f a1 0 1000000000).bind fun t227 => (some t227)) else (if a0 = 3 then (some (a1 == 0)) else (some false)))) = some r := h; clear h; by_cases c3 : a0 = 1
 ·rw [if_pos c3] at H; have c3b0 : (a0 == 1) = true := beq_iff_eq.mpr c3; have c3b1 : (a0 != 1) = false := bne_eq_false_iff_eq.mpr c3; clear c3; replace H := Option.bind_eq_some_iff.mp H; obtain ⟨t226, A40, H⟩ := H; replace H : (some t226) = some r := H; have A4 := Aside0.mk A40; clear A40; obtain rfl := Option.some.inj H; go_enter Try.func58, Try.ntmps58
  go_wp2_with (first | ((with_reducible refine gate_callee (f := 66) rfl ?_); refine goesL_ (some 9) rfl rfl Try.func66 (by kernel_rfl) rfl #[.int .i64 a1, .int .i64 0, .int .i64 100] rfl mq ?_; (with_reducible refine (impl_within.calls a1 0 100 t226 _ A4.out).mono ?_); rintro e w' ⟨rfl, ⟨nd, rfl⟩⟩; refine ⟨_, rfl, ?_⟩))
  go_ret; exact ⟨by first | rfl | (simp; done) | (simp [*]; done), by repeat (first | exact Drawn0.refl _ | apply Drawn0.step)⟩
 ·rw [if_neg c3] at H; have c3b0 : (a0 == 1) = false := beq_eq_false_iff_ne.mpr c3; have c3b1 : (a0 != 1) = true := bne_iff_ne.mpr c3; by_cases c5 : a0 = 2
  ·rw [if_pos c5] at H; have c5b0 : (a0 == 2) = true := beq_iff_eq.mpr c5; have c5b1 : (a0 != 2) = false := bne_eq_false_iff_eq.mpr c5; clear c5; replace H := Option.bind_eq_some_iff.mp H; obtain ⟨t227, A60, H⟩ := H; replace H : (some t227) = some r := H; have A6 := Aside0.mk A60; clear A60; obtain rfl := Option.some.inj H; go_enter Try.func58, Try.ntmps58
   go_wp2_with (first | ((with_reducible refine gate_callee (f := 66) rfl ?_); refine goesL_ (some 13) rfl rfl Try.func66 (by kernel_rfl) rfl #[.int .i64 a1, .int .i64 0, .int .i64 1000000000] rfl mq ?_; (with_reducible refine (impl_within.calls a1 0 1000000000 t227 _ A6.out).mono ?_); rintro e w' ⟨rfl, ⟨nd, rfl⟩⟩; refine ⟨_, rfl, ?_⟩))
   go_ret; exact ⟨by first | rfl | (simp; done) | (simp [*]; done), by repeat (first | exact Drawn0.refl _ | apply Drawn0.step)⟩
  ·rw [if_neg c5] at H; have c5b0 : (a0 == 2) = false := beq_eq_false_iff_ne.mpr c5; have c5b1 : (a0 != 2) = true := bne_iff_ne.mpr c5; by_cases c7 : a0 = 3
   ·rw [if_pos c7] at H; have c7b0 : (a0 == 3) = true := beq_iff_eq.mpr c7; have c7b1 : (a0 != 3) = false := bne_eq_false_iff_eq.mpr c7; clear c7; obtain rfl := Option.some.inj H; go_enter Try.func58, Try.ntmps58; go_wp2; go_ret; exact ⟨by first | rfl | (simp; done) | (simp [*]; done), by repeat (first | exact Drawn0.refl _ | apply Drawn0.step)⟩
   ·rw [if_neg c7] at H; have c7b0 : (a0 == 3) = false := beq_eq_false_iff_ne.mpr c7; have c7b1 : (a0 != 3) = true := bne_iff_ne.mpr c7; obtain rfl := Option.some.inj H; go_enter Try.func58, Try.ntmps58; go_wp2; go_ret; exact ⟨by first | rfl | (simp; done) | (simp [*]; done), by repeat (first | exact Drawn0.refl _ | apply Drawn0.step)⟩

/-! ### impl_Term_82: function 82, by hand, over whatever function value -/
def impl_Term_82.f (p : S47 → Option Bool) : List S47 → Int → Option Int
 | [], _ => some (-1)
 | x :: xs, i => (p x).bind fun b => if b = true then some i else impl_Term_82.f p xs (i + 1)
theorem impl_Term_82.cons (p : S47 → Option Bool) (x : S47) (xs : List S47) (i : Int) : impl_Term_82.f p (x :: xs) i = (p x).bind fun b => if b = true then some i else impl_Term_82.f p xs (i + 1) := rfl
theorem impl_Term_82.mono (p q : S47 → Option Bool) (h : ∀ x, LeO (p x) (q x)) : ∀ l i, LeO (impl_Term_82.f p l i) (impl_Term_82.f q l i)
 | [], _ => LeO.refl _
 | x :: xs, i => LeO.bind (h x) (fun b => LeO.ite (LeO.refl _) (impl_Term_82.mono p q h xs (i + 1)))
set_option maxHeartbeats 8000000 in
set_option maxRecDepth 100000 in
theorem impl_Term_82.calls (p : S47 → Option Bool) (l0 : List S47) (A0 : Option Addr) (c0 : Nat) (g : Nat) (lb : Array Value) (r : Int) (w : World) (eg : ∀ args w, (callFunc g args).run Try.prog w = .ok (.enter g args) w)
  (hp : ∀ (W_ : World) (x_ : S47) (b_ : Bool), Below w.heap.size w W_ → p x_ = some b_ → Calls Try.prog g (#[.agg #[.int .i64 x_.f0, .int .i64 x_.f1, .int .i64 x_.f2]] ++ lb) W_ fun e w' => e = .returned (.bool b_) ∧ Below W_.heap.size W_ w')
  (hr0 : Kd.C k47 w A0 l0.length l0) (hc0 : l0.length ≤ c0) (h : impl_Term_82.f p l0 0 = some r) :
  Calls Try.prog 82 #[.slice A0 l0.length c0, .func (.func g) #[] lb] w fun e w' => e = .returned (.int .i64 r) ∧ Below w.heap.size w w' := by
 have hbig : l0.length ≤ 9223372036854775807 := hr0.2.1; have HP := Aside0.mk hp; have HR := Aside0.mk hr0; have H := Aside0.mk h; clear hp hr0 h; go_enter Try.func82, Try.ntmps82; go_wp2
 go_loopg [5, 8] l0.length (fun gg _ s8 wr => ∃ kk : Nat, kk ≤ l0.length ∧ l0.length - kk ≤ gg ∧ s8 = .int .i64 kk ∧ Aside0 (Below w.heap.size w wr) ∧ Aside0 (impl_Term_82.f p (l0.drop kk) kk = some r))
 case atStart => exact ⟨0, Nat.zero_le _, by omega, rfl, ⟨Below.refl _ w⟩, ⟨H.out⟩⟩
 case round =>
  obtain ⟨kk, hkk, hg, rfl, BW, HF⟩ := hrel; by_cases hlt : kk < l0.length
  ·have hltz : (kk : Int) < (l0.length : Int) := by omega
   have hf := HF.out
   have hcons : l0.drop kk = rd_T47 l0 (kk : Int) :: l0.drop (kk + 1) := by
    rw [List.drop_eq_getElem_cons hlt]
    congr 1
    unfold rd_T47; rw [Int.toNat_natCast, List.getD_eq_getElem?_getD, List.getElem?_eq_getElem hlt]; rfl
   obtain ⟨ad, rfl, hx0, hx1, hx2⟩ := at_T47 (Kd.C_below HR.out BW.out) (kk : Int) (by omega) hltz; rw [hcons, impl_Term_82.cons] at hf; clear hcons; simp only [Int.toNat_natCast] at hx0 hx1 hx2; generalize hxx : rd_T47 l0 (kk : Int) = x_ at *; have HX := Aside0.mk hxx; clear hxx; obtain ⟨b, hb, hf2⟩ := Option.bind_eq_some_iff.mp hf; have hcall := HP.out wr x_ b BW.out hb; have HB := Aside0.mk hb; have HF2 := Aside0.mk hf2; clear hf hb hf2
   cases b with
   | true =>
    go_wp2_with (go_at_fn g; refine hcall.mono ?_; rintro e w' ⟨rfl, hb'⟩)
    go_ret; have hr_ := HF2.out; simp only [if_true, Option.some.injEq] at hr_; exact ⟨by rw [← hr_]; rfl, BW.out.trans (hb'.mono BW.out.size)⟩
   | false =>
    go_wp2_with (go_at_fn g; refine hcall.mono ?_; rintro e w' ⟨rfl, hb'⟩)
    go_roundg (l0.length - (kk + 1))
    case measure => omega
    case rel =>
     have hr_ := HF2.out; simp only [Bool.false_eq_true, if_false] at hr_; exact ⟨kk + 1, by omega, by omega, by go_num, ⟨BW.out.trans (hb'.mono BW.out.size)⟩, ⟨by rw [show ((kk + 1 : Nat) : Int) = (kk : Int) + 1 by omega]; exact hr_⟩⟩
  ·have hltz : ¬ (kk : Int) < (l0.length : Int) := by omega
   have : kk = l0.length := by omega
   subst this; have hf := HF.out; rw [List.drop_length] at hf; have hr_ : -1 = r := Option.some.inj hf; have HX := Aside0.mk hr_; clear hf hr_; go_wp2; go_ret; exact ⟨by rw [← HX.out]; rfl, BW.out⟩

/-! ### impl_Term_59: function 59, by hand, over whatever function value -/
def impl_Term_59.f (p : S47 → Option Bool) (l : List S47) : Option Bool := (impl_Term_82.f p l 0).bind fun i => some (decide (i ≥ 0))
theorem impl_Term_59.mono (p q : S47 → Option Bool) (h : ∀ x, LeO (p x) (q x)) (l : List S47) : LeO (impl_Term_59.f p l) (impl_Term_59.f q l) := LeO.bind (impl_Term_82.mono p q h l 0) (fun _ => LeO.refl _)
set_option maxHeartbeats 8000000 in
set_option maxRecDepth 100000 in
theorem impl_Term_59.calls (p : S47 → Option Bool) (l0 : List S47) (A0 : Option Addr) (c0 : Nat) (g : Nat) (lb : Array Value) (r : Bool) (w : World) (eg : ∀ args w, (callFunc g args).run Try.prog w = .ok (.enter g args) w)
  (hp : ∀ (W_ : World) (x_ : S47) (b_ : Bool), Below w.heap.size w W_ → p x_ = some b_ → Calls Try.prog g (#[.agg #[.int .i64 x_.f0, .int .i64 x_.f1, .int .i64 x_.f2]] ++ lb) W_ fun e w' => e = .returned (.bool b_) ∧ Below W_.heap.size W_ w')
  (hr0 : Kd.C k47 w A0 l0.length l0) (hc0 : l0.length ≤ c0) (h : impl_Term_59.f p l0 = some r) :
  Calls Try.prog 59 #[.slice A0 l0.length c0, .func (.func g) #[] lb] w fun e w' => e = .returned (.bool r) ∧ Below w.heap.size w w' := by
 obtain ⟨i, hi, h2⟩ := Option.bind_eq_some_iff.mp h; have hr_ : decide (i ≥ 0) = r := Option.some.inj h2; have C := impl_Term_82.calls p l0 A0 c0 g lb i w eg hp hr0 hc0 hi; have HR_ := Aside0.mk hr_; clear h hi h2 hp hr_; by_cases hpos : 0 ≤ i
 ·have hd : decide (0 ≤ i) = true := decide_eq_true hpos; go_enter Try.func59, Try.ntmps59
  go_wp2_with (go_at_call 82; refine C.mono ?_; rintro e w' ⟨rfl, hb'⟩)
  go_ret; exact ⟨by rw [← HR_.out, decide_eq_true (show i ≥ 0 by omega)]; rfl, hb'⟩
 ·have hd : decide (0 ≤ i) = false := decide_eq_false hpos; go_enter Try.func59, Try.ntmps59
  go_wp2_with (go_at_call 82; refine C.mono ?_; rintro e w' ⟨rfl, hb'⟩)
  go_ret; exact ⟨by rw [← HR_.out, decide_eq_false (show ¬ i ≥ 0 by omega)]; rfl, hb'⟩

-- NOT PRINTED: function 40 (impl_allBounds)

/-! ### impl_isTermNum: function 83, by hand -/
theorem impl_allBounds.calls (w : World) : Calls Try.prog 40 #[] w fun e w' => e = .returned (.agg #[.int .i64 0, .int .i64 0, .int .i64 1, .int .i64 999, .int .i64 0, .int .i64 1000000, .int .i64 0, .int .i64 23, .int .i64 1, .int .i64 7, .int .i64 0, .int .i64 120] : Value) ∧ Below w.heap.size w w' := by
 go_enter Try.func40, Try.ntmps40; go_wp2; refine bodyPost_ret (results_single rfl (.cell w.heap.size 62 #[.int .i64 0, .int .i64 0, .int .i64 1, .int .i64 999, .int .i64 0, .int .i64 1000000, .int .i64 0, .int .i64 23, .int .i64 1, .int .i64 7, .int .i64 0, .int .i64 120] (0, 0) _ rfl (by simpa using blk_new w _) Try.underlying62 rfl (by kernel_rfl) .nil)) rfl ?_; exact ⟨rfl, (Below.refl _ w).alloc (Nat.le_refl _) _⟩
def impl_isTermNum.f (a0_0 : Int) (a0_1 : Int) (a0_2 : Int) : Option Bool :=
 if a0_0 = 1 then impl_within.f a0_2 1 999
 else if a0_0 = 2 then impl_within.f a0_2 0 1000000
 else if a0_0 = 3 then impl_within.f a0_2 0 23
 else if a0_0 = 4 then impl_within.f a0_2 1 7
 else if a0_0 = 5 then impl_within.f a0_2 0 120
 else none
theorem impl_isTermNum.drawn {w w1 : World} (h : Drawn0 w w1) : Below w.heap.size w w1 := by
 obtain ⟨n, rfl⟩ := h; exact pw_below_drewN (Below.refl _ _) _
theorem impl_isTermNum.keepS {w1 w2 w3 : World} {g : Nat} {a b c : Value} {t : TypeId} (hblk : w1.heap[g]? = some (.cells #[a, b, c] t (0, 0))) (hS : Below w1.heap.size w1 w2 ∧ w2.cell? ⟨g, 0, none⟩ = some a ∧ w2.cell? ⟨g, 2, none⟩ = some c) (hb : Below w2.heap.size w2 w3) :
  Below w1.heap.size w1 w3 ∧ w3.cell? ⟨g, 0, none⟩ = some a ∧ w3.cell? ⟨g, 2, none⟩ = some c :=
 have h := hS.1.trans (hb.mono hS.1.size)
 ⟨h, (blk_cell (blk_below hblk h) 0).trans rfl, (blk_cell (blk_below hblk h) 2).trans rfl⟩
set_option maxHeartbeats 8000000 in
set_option maxRecDepth 100000 in
theorem impl_isTermNum.at1 (a0_1 a0_2 : Int) (r : Bool) (w : World) (h : impl_within.f a0_2 1 999 = some r) :
  Calls Try.prog 83 #[.agg #[.int .i64 1, .int .i64 a0_1, .int .i64 a0_2]] w fun e w' => e = .returned (.bool r) ∧ Below w.heap.size w w' := by
 have H := Aside0.mk h; clear h
 have e1 : ∀ w : World, Sem.run Try.prog (Instr.index 62 (.agg #[.int .i64 0, .int .i64 0, .int .i64 1, .int .i64 999, .int .i64 0, .int .i64 1000000, .int .i64 0, .int .i64 23, .int .i64 1, .int .i64 7, .int .i64 0, .int .i64 120] : Value) (.int .i64 1)) w = .ok (.agg #[.int .i64 1, .int .i64 999]) w := fun w => by kernel_rfl
 have e2 : ∀ w : World, Sem.run Try.prog (Instr.index 60 (.agg #[.int .i64 1, .int .i64 999]) (.int .i64 0)) w = .ok (.int .i64 1) w := fun w => by kernel_rfl
 have e3 : ∀ w : World, Sem.run Try.prog (Instr.index 60 (.agg #[.int .i64 1, .int .i64 999]) (.int .i64 1)) w = .ok (.int .i64 999) w := fun w => by kernel_rfl
 have hblk := blk_new w (.cells #[.int .i64 1, .int .i64 a0_1, .int .i64 a0_2] 47); have h0 : (w.alloc (.cells #[.int .i64 1, .int .i64 a0_1, .int .i64 a0_2] 47)).cell? ⟨w.heap.size, 0, none⟩ = some (.int .i64 1) := (blk_cell hblk 0).trans rfl; have h2 : (w.alloc (.cells #[.int .i64 1, .int .i64 a0_1, .int .i64 a0_2] 47)).cell? ⟨w.heap.size, 2, none⟩ = some (.int .i64 a0_2) := (blk_cell hblk 2).trans rfl; have HB := Aside0.mk ((Below.refl _ w).alloc (Nat.le_refl _) (.cells #[.int .i64 1, .int .i64 a0_1, .int .i64 a0_2] 47)); go_enter Try.func83, Try.ntmps83; go_wp2; have HBLK := Aside0.mk hblk; clear hblk; generalize w.alloc (.cells #[.int .i64 1, .int .i64 a0_1, .int .i64 a0_2] 47) = w1 at *
 go_region_held3 (fun w' => Below w1.heap.size w1 w' ∧ w'.cell? ⟨w.heap.size, 0, none⟩ = some (.int .i64 1) ∧ w'.cell? ⟨w.heap.size, 2, none⟩ = some (.int .i64 a0_2))
  (first
   | exact impl_isTermNum.keepS HBLK.out ⟨Below.refl _ _, h0, h2⟩ (below_drew1 (Below.refl _ _))
   | assumption
   | (refine impl_isTermNum.keepS HBLK.out ?_ hb_; assumption))
  (first
   | (go_at_call 40; refine (impl_allBounds.calls _).mono ?_; rintro e w' ⟨rfl, hb_⟩)
   | (go_at_call 66; refine (impl_within.calls a0_2 1 999 r _ H.out).mono ?_; rintro e w' ⟨rfl, hd_⟩; have hb_ := impl_isTermNum.drawn hd_; clear hd_))
 all_goals go_wp2
 all_goals go_ret
 all_goals exact ⟨rfl, HB.out.trans (Below.mono (And.left (by assumption)) HB.out.size)⟩
set_option maxHeartbeats 8000000 in
set_option maxRecDepth 100000 in
theorem impl_isTermNum.at2 (a0_1 a0_2 : Int) (r : Bool) (w : World) (h : impl_within.f a0_2 0 1000000 = some r) :
  Calls Try.prog 83 #[.agg #[.int .i64 2, .int .i64 a0_1, .int .i64 a0_2]] w fun e w' => e = .returned (.bool r) ∧ Below w.heap.size w w' := by
 have H := Aside0.mk h; clear h
 have e1 : ∀ w : World, Sem.run Try.prog (Instr.index 62 (.agg #[.int .i64 0, .int .i64 0, .int .i64 1, .int .i64 999, .int .i64 0, .int .i64 1000000, .int .i64 0, .int .i64 23, .int .i64 1, .int .i64 7, .int .i64 0, .int .i64 120] : Value) (.int .i64 2)) w = .ok (.agg #[.int .i64 0, .int .i64 1000000]) w := fun w => by kernel_rfl
 have e2 : ∀ w : World, Sem.run Try.prog (Instr.index 60 (.agg #[.int .i64 0, .int .i64 1000000]) (.int .i64 0)) w = .ok (.int .i64 0) w := fun w => by kernel_rfl
 have e3 : ∀ w : World, Sem.run Try.prog (Instr.index 60 (.agg #[.int .i64 0, .int .i64 1000000]) (.int .i64 1)) w = .ok (.int .i64 1000000) w := fun w => by kernel_rfl
 have hblk := blk_new w (.cells #[.int .i64 2, .int .i64 a0_1, .int .i64 a0_2] 47); have h0 : (w.alloc (.cells #[.int .i64 2, .int .i64 a0_1, .int .i64 a0_2] 47)).cell? ⟨w.heap.size, 0, none⟩ = some (.int .i64 2) := (blk_cell hblk 0).trans rfl; have h2 : (w.alloc (.cells #[.int .i64 2, .int .i64 a0_1, .int .i64 a0_2] 47)).cell? ⟨w.heap.size, 2, none⟩ = some (.int .i64 a0_2) := (blk_cell hblk 2).trans rfl; have HB := Aside0.mk ((Below.refl _ w).alloc (Nat.le_refl _) (.cells #[.int .i64 2, .int .i64 a0_1, .int .i64 a0_2] 47)); go_enter Try.func83, Try.ntmps83; go_wp2; have HBLK := Aside0.mk hblk; clear hblk; generalize w.alloc (.cells #[.int .i64 2, .int .i64 a0_1, .int .i64 a0_2] 47) = w1 at *
 go_region_held3 (fun w' => Below w1.heap.size w1 w' ∧ w'.cell? ⟨w.heap.size, 0, none⟩ = some (.int .i64 2) ∧ w'.cell? ⟨w.heap.size, 2, none⟩ = some (.int .i64 a0_2))
  (first
   | exact impl_isTermNum.keepS HBLK.out ⟨Below.refl _ _, h0, h2⟩ (below_drew1 (Below.refl _ _))
   | assumption
   | (refine impl_isTermNum.keepS HBLK.out ?_ hb_; assumption))
  (first
   | (go_at_call 40; refine (impl_allBounds.calls _).mono ?_; rintro e w' ⟨rfl, hb_⟩)
   | (go_at_call 66; refine (impl_within.calls a0_2 0 1000000 r _ H.out).mono ?_; rintro e w' ⟨rfl, hd_⟩; have hb_ := impl_isTermNum.drawn hd_; clear hd_))
 all_goals go_wp2
 all_goals go_ret
 all_goals exact ⟨rfl, HB.out.trans (Below.mono (And.left (by assumption)) HB.out.size)⟩
set_option maxHeartbeats 8000000 in
set_option maxRecDepth 100000 in
theorem impl_isTermNum.at3 (a0_1 a0_2 : Int) (r : Bool) (w : World) (h : impl_within.f a0_2 0 23 = some r) :
  Calls Try.prog 83 #[.agg #[.int .i64 3, .int .i64 a0_1, .int .i64 a0_2]] w fun e w' => e = .returned (.bool r) ∧ Below w.heap.size w w' := by
 have H := Aside0.mk h; clear h
 have e1 : ∀ w : World, Sem.run Try.prog (Instr.index 62 (.agg #[.int .i64 0, .int .i64 0, .int .i64 1, .int .i64 999, .int .i64 0, .int .i64 1000000, .int .i64 0, .int .i64 23, .int .i64 1, .int .i64 7, .int .i64 0, .int .i64 120] : Value) (.int .i64 3)) w = .ok (.agg #[.int .i64 0, .int .i64 23]) w := fun w => by kernel_rfl
 have e2 : ∀ w : World, Sem.run Try.prog (Instr.index 60 (.agg #[.int .i64 0, .int .i64 23]) (.int .i64 0)) w = .ok (.int .i64 0) w := fun w => by kernel_rfl
 have e3 : ∀ w : World, Sem.run Try.prog (Instr.index 60 (.agg #[.int .i64 0, .int .i64 23]) (.int .i64 1)) w = .ok (.int .i64 23) w := fun w => by kernel_rfl
 have hblk := blk_new w (.cells #[.int .i64 3, .int .i64 a0_1, .int .i64 a0_2] 47); have h0 : (w.alloc (.cells #[.int .i64 3, .int .i64 a0_1, .int .i64 a0_2] 47)).cell? ⟨w.heap.size, 0, none⟩ = some (.int .i64 3) := (blk_cell hblk 0).trans rfl; have h2 : (w.alloc (.cells #[.int .i64 3, .int .i64 a0_1, .int .i64 a0_2] 47)).cell? ⟨w.heap.size, 2, none⟩ = some (.int .i64 a0_2) := (blk_cell hblk 2).trans rfl; have HB := Aside0.mk ((Below.refl _ w).alloc (Nat.le_refl _) (.cells #[.int .i64 3, .int .i64 a0_1, .int .i64 a0_2] 47)); go_enter Try.func83, Try.ntmps83; go_wp2; have HBLK := Aside0.mk hblk; clear hblk; generalize w.alloc (.cells #[.int .i64 3, .int .i64 a0_1, .int .i64 a0_2] 47) = w1 at *
 go_region_held3 (fun w' => Below w1.heap.size w1 w' ∧ w'.cell? ⟨w.heap.size, 0, none⟩ = some (.int .i64 3) ∧ w'.cell? ⟨w.heap.size, 2, none⟩ = some (.int .i64 a0_2))
  (first
   | exact impl_isTermNum.keepS HBLK.out ⟨Below.refl _ _, h0, h2⟩ (below_drew1 (Below.refl _ _))
   | assumption
   | (refine impl_isTermNum.keepS HBLK.out ?_ hb_; assumption))
  (first
   | (go_at_call 40; refine (impl_allBounds.calls _).mono ?_; rintro e w' ⟨rfl, hb_⟩)
   | (go_at_call 66; refine (impl_within.calls a0_2 0 23 r _ H.out).mono ?_; rintro e w' ⟨rfl, hd_⟩; have hb_ := impl_isTermNum.drawn hd_; clear hd_))
 all_goals go_wp2
 all_goals go_ret
 all_goals exact ⟨rfl, HB.out.trans (Below.mono (And.left (by assumption)) HB.out.size)⟩
set_option maxHeartbeats 8000000 in
set_option maxRecDepth 100000 in
theorem impl_isTermNum.at4 (a0_1 a0_2 : Int) (r : Bool) (w : World) (h : impl_within.f a0_2 1 7 = some r) :
  Calls Try.prog 83 #[.agg #[.int .i64 4, .int .i64 a0_1, .int .i64 a0_2]] w fun e w' => e = .returned (.bool r) ∧ Below w.heap.size w w' := by
 have H := Aside0.mk h; clear h
 have e1 : ∀ w : World, Sem.run Try.prog (Instr.index 62 (.agg #[.int .i64 0, .int .i64 0, .int .i64 1, .int .i64 999, .int .i64 0, .int .i64 1000000, .int .i64 0, .int .i64 23, .int .i64 1, .int .i64 7, .int .i64 0, .int .i64 120] : Value) (.int .i64 4)) w = .ok (.agg #[.int .i64 1, .int .i64 7]) w := fun w => by kernel_rfl
 have e2 : ∀ w : World, Sem.run Try.prog (Instr.index 60 (.agg #[.int .i64 1, .int .i64 7]) (.int .i64 0)) w = .ok (.int .i64 1) w := fun w => by kernel_rfl
 have e3 : ∀ w : World, Sem.run Try.prog (Instr.index 60 (.agg #[.int .i64 1, .int .i64 7]) (.int .i64 1)) w = .ok (.int .i64 7) w := fun w => by kernel_rfl
 have hblk := blk_new w (.cells #[.int .i64 4, .int .i64 a0_1, .int .i64 a0_2] 47); have h0 : (w.alloc (.cells #[.int .i64 4, .int .i64 a0_1, .int .i64 a0_2] 47)).cell? ⟨w.heap.size, 0, none⟩ = some (.int .i64 4) := (blk_cell hblk 0).trans rfl; have h2 : (w.alloc (.cells #[.int .i64 4, .int .i64 a0_1, .int .i64 a0_2] 47)).cell? ⟨w.heap.size, 2, none⟩ = some (.int .i64 a0_2) := (blk_cell hblk 2).trans rfl; have HB := Aside0.mk ((Below.refl _ w).alloc (Nat.le_refl _) (.cells #[.int .i64 4, .int .i64 a0_1, .int .i64 a0_2] 47)); go_enter Try.func83, Try.ntmps83; go_wp2; have HBLK := Aside0.mk hblk; clear hblk; generalize w.alloc (.cells #[.int .i64 4, .int .i64 a0_1, .int .i64 a0_2] 47) = w1 at *
 go_region_held3 (fun w' => Below w1.heap.size w1 w' ∧ w'.cell? ⟨w.heap.size, 0, none⟩ = some (.int .i64 4) ∧ w'.cell? ⟨w.heap.size, 2, none⟩ = some (.int .i64 a0_2))
  (first
   | exact impl_isTermNum.keepS HBLK.out ⟨Below.refl _ _, h0, h2⟩ (below_drew1 (Below.refl _ _))
   | assumption
   | (refine impl_isTermNum.keepS HBLK.out ?_ hb_; assumption))
  (first
   | (go_at_call 40; refine (impl_allBounds.calls _).mono ?_; rintro e w' ⟨rfl, hb_⟩)
   | (go_at_call 66; refine (impl_within.calls a0_2 1 7 r _ H.out).mono ?_; rintro e w' ⟨rfl, hd_⟩; have hb_ := impl_isTermNum.drawn hd_; clear hd_))
 all_goals go_wp2
 all_goals go_ret
 all_goals exact ⟨rfl, HB.out.trans (Below.mono (And.left (by assumption)) HB.out.size)⟩
set_option maxHeartbeats 8000000 in
set_option maxRecDepth 100000 in
theorem impl_isTermNum.at5 (a0_1 a0_2 : Int) (r : Bool) (w : World) (h : impl_within.f a0_2 0 120 = some r) :
  Calls Try.prog 83 #[.agg #[.int .i64 5, .int .i64 a0_1, .int .i64 a0_2]] w fun e w' => e = .returned (.bool r) ∧ Below w.heap.size w w' := by
 have H := Aside0.mk h; clear h
 have e1 : ∀ w : World, Sem.run Try.prog (Instr.index 62 (.agg #[.int .i64 0, .int .i64 0, .int .i64 1, .int .i64 999, .int .i64 0, .int .i64 1000000, .int .i64 0, .int .i64 23, .int .i64 1, .int .i64 7, .int .i64 0, .int .i64 120] : Value) (.int .i64 5)) w = .ok (.agg #[.int .i64 0, .int .i64 120]) w := fun w => by kernel_rfl
 have e2 : ∀ w : World, Sem.run Try.prog (Instr.index 60 (.agg #[.int .i64 0, .int .i64 120]) (.int .i64 0)) w = .ok (.int .i64 0) w := fun w => by kernel_rfl
 have e3 : ∀ w : World, Sem.run Try.prog (Instr.index 60 (.agg #[.int .i64 0, .int .i64 120]) (.int .i64 1)) w = .ok (.int .i64 120) w := fun w => by kernel_rfl
 have hblk := blk_new w (.cells #[.int .i64 5, .int .i64 a0_1, .int .i64 a0_2] 47); have h0 : (w.alloc (.cells #[.int .i64 5, .int .i64 a0_1, .int .i64 a0_2] 47)).cell? ⟨w.heap.size, 0, none⟩ = some (.int .i64 5) := (blk_cell hblk 0).trans rfl; have h2 : (w.alloc (.cells #[.int .i64 5, .int .i64 a0_1, .int .i64 a0_2] 47)).cell? ⟨w.heap.size, 2, none⟩ = some (.int .i64 a0_2) := (blk_cell hblk 2).trans rfl; have HB := Aside0.mk ((Below.refl _ w).alloc (Nat.le_refl _) (.cells #[.int .i64 5, .int .i64 a0_1, .int .i64 a0_2] 47)); go_enter Try.func83, Try.ntmps83; go_wp2; have HBLK := Aside0.mk hblk; clear hblk; generalize w.alloc (.cells #[.int .i64 5, .int .i64 a0_1, .int .i64 a0_2] 47) = w1 at *
 go_region_held3 (fun w' => Below w1.heap.size w1 w' ∧ w'.cell? ⟨w.heap.size, 0, none⟩ = some (.int .i64 5) ∧ w'.cell? ⟨w.heap.size, 2, none⟩ = some (.int .i64 a0_2))
  (first
   | exact impl_isTermNum.keepS HBLK.out ⟨Below.refl _ _, h0, h2⟩ (below_drew1 (Below.refl _ _))
   | assumption
   | (refine impl_isTermNum.keepS HBLK.out ?_ hb_; assumption))
  (first
   | (go_at_call 40; refine (impl_allBounds.calls _).mono ?_; rintro e w' ⟨rfl, hb_⟩)
   | (go_at_call 66; refine (impl_within.calls a0_2 0 120 r _ H.out).mono ?_; rintro e w' ⟨rfl, hd_⟩; have hb_ := impl_isTermNum.drawn hd_; clear hd_))
 all_goals go_wp2
 all_goals go_ret
 all_goals exact ⟨rfl, HB.out.trans (Below.mono (And.left (by assumption)) HB.out.size)⟩
theorem impl_isTermNum.calls (a0_0 : Int) (a0_1 : Int) (a0_2 : Int) (r : Bool) (w : World) (h : impl_isTermNum.f a0_0 a0_1 a0_2 = some r) :
  Calls Try.prog 83 #[.agg #[.int .i64 a0_0, .int .i64 a0_1, .int .i64 a0_2]] w fun e w' => e = .returned (.bool r) ∧ Below w.heap.size w w' := by
 unfold impl_isTermNum.f at h; by_cases c1 : a0_0 = 1
 ·subst c1; rw [if_pos rfl] at h; exact impl_isTermNum.at1 a0_1 a0_2 r w h
 rw [if_neg c1] at h; by_cases c2 : a0_0 = 2
 ·subst c2; rw [if_pos rfl] at h; exact impl_isTermNum.at2 a0_1 a0_2 r w h
 rw [if_neg c2] at h; by_cases c3 : a0_0 = 3
 ·subst c3; rw [if_pos rfl] at h; exact impl_isTermNum.at3 a0_1 a0_2 r w h
 rw [if_neg c3] at h; by_cases c4 : a0_0 = 4
 ·subst c4; rw [if_pos rfl] at h; exact impl_isTermNum.at4 a0_1 a0_2 r w h
 rw [if_neg c4] at h; by_cases c5 : a0_0 = 5
 ·subst c5; rw [if_pos rfl] at h; exact impl_isTermNum.at5 a0_1 a0_2 r w h
 rw [if_neg c5] at h
 cases h

/-! ### impl_isTerm: function 61 -/
def impl_isTerm.f (a0_0 : Int) (a0_1 : Int) (a0_2 : Int) : Option (Bool) := (impl_within.f a0_0 1 5).bind fun t229 => (if t229 = true then ((impl_within.f a0_1 1 3).bind fun t230 => (if t230 = true then ((impl_isTermNum.f a0_0 a0_1 a0_2).bind fun t231 => (some t231)) else (some false))) else (some false))
set_option maxHeartbeats 8000000 in
set_option maxRecDepth 100000 in
theorem impl_isTerm.calls (a0_0 : Int) (a0_1 : Int) (a0_2 : Int) (r : Bool) (w : World) (h : impl_isTerm.f a0_0 a0_1 a0_2 = some r) :
  Calls Try.prog 61 #[.agg #[.int .i64 a0_0, .int .i64 a0_1, .int .i64 a0_2]] w fun e w' => e = .returned (.bool r) ∧ Below w.heap.size w w' := by
 have hu47 := Try.underlying47; have HB := Aside0.mk (Below.refl w.heap.size w); have H : ((impl_within.f a0_0 1 5).bind fun t229 => (if t229 = true then ((impl_within.f a0_1 1 3).bind fun t230 => (if t230 = true then ((impl_isTermNum.f a0_0 a0_1 a0_2).bind fun t231 => (some t231)) else (some false))) else (some false))) = some r := h; clear h; replace H := Option.bind_eq_some_iff.mp H; obtain ⟨t229, A20, H⟩ := H; replace H : (if t229 = true then ((impl_within.f a0_1 1 3).bind fun t230 => (if t230 = true then ((impl_isTermNum.f a0_0 a0_1 a0_2).bind fun t231 => (some t231)) else (some false))) else (some false)) = some r := H; have A2 := Aside0.mk A20; clear A20; by_cases c3 : t229 = true
 ·subst c3
  have H1 : ((impl_within.f a0_1 1 3).bind fun t230 => (if t230 = true then ((impl_isTermNum.f a0_0 a0_1 a0_2).bind fun t231 => (some t231)) else (some false))) = some r := by rw [if_pos rfl] at H; exact H
  clear H; have H := H1; clear H1; replace H := Option.bind_eq_some_iff.mp H; obtain ⟨t230, A40, H⟩ := H; replace H : (if t230 = true then ((impl_isTermNum.f a0_0 a0_1 a0_2).bind fun t231 => (some t231)) else (some false)) = some r := H; have A4 := Aside0.mk A40; clear A40; by_cases c5 : t230 = true
  ·subst c5
   have H1 : ((impl_isTermNum.f a0_0 a0_1 a0_2).bind fun t231 => (some t231)) = some r := by rw [if_pos rfl] at H; exact H
   clear H; have H := H1; clear H1; replace H := Option.bind_eq_some_iff.mp H; obtain ⟨t231, A60, H⟩ := H; replace H : (some t231) = some r := H; have A6 := Aside0.mk A60; clear A60; obtain rfl := Option.some.inj H; go_enter Try.func61, Try.ntmps61
   go_wp2_with (first | ((with_reducible refine gate_dst (N := 1) rfl ?_); refine box_event ?hg (N := 1) ?hd (cs := #[.int .i64 a0_0, .int .i64 a0_1, .int .i64 a0_2]) (t := 47) ?hr ?_; (case hd => rfl); (case hg => rfl); (case hr => first | (go_simp; done) | (go_simp; rfl)); intro gb228 hg w7 hbox hb; have n0_ := Aside0.mk (below_step (qb HB) hb); have n1_ := Aside0.mk (hbox); have n2_ := Aside0.mk ((by rw [hg]; exact (below_size (qb HB)) : w.heap.size ≤ gb228)); have n3_ := Aside0.mk ((by rw [hg]; exact (below_size (qb HB)) : w.heap.size ≤ gb228)); clear HB; have HB := n0_; have BK228 := n1_; have GW228 := n2_; have GE228 := n3_; clear n0_ n1_ n2_ n3_; clear hb hbox hg; obtain ⟨hcz8_0, hcz8_1, hcz8_2, hfz8_0, hfz8_1, hfz8_2⟩ := bz3 BK228) | ((with_reducible refine gate_callee (f := 66) rfl ?_); refine goesL_ (some 5) rfl rfl Try.func66 (by kernel_rfl) rfl #[.int .i64 a0_0, .int .i64 1, .int .i64 5] rfl mq ?_; (with_reducible refine (impl_within.calls a0_0 1 5 true _ A2.out).mono ?_); rintro e w' ⟨rfl, ⟨nd, rfl⟩⟩; refine ⟨_, rfl, ?_⟩) | (go_at_call 66; (with_reducible refine (impl_within.calls a0_1 1 3 true _ A4.out).mono ?_); rintro e w' ⟨rfl, ⟨nd, rfl⟩⟩) | (go_at_call 83; (with_reducible refine (impl_isTermNum.calls a0_0 a0_1 a0_2 t231 _ A6.out).mono ?_); rintro e w9 ⟨rfl, hb⟩; have n0_ := Aside0.mk (blk_below (bq BK228) hb); have n1_ := Aside0.mk (below_step (qb HB) hb); clear BK228; clear HB; have BK228 := n0_; have HB := n1_; clear n0_ n1_; (try clear hb); (try clear hb2); (try clear hk); (try clear hi)))
   go_ret; exact ⟨eqq, qb HB⟩
  ·replace c5 := Bool.eq_false_iff.mpr c5; subst c5
   have H1 : (some false) = some r := by rw [if_neg (show ¬ (false = true) by decide)] at H; exact H
   clear H; have H := H1; clear H1; obtain rfl := Option.some.inj H; go_enter Try.func61, Try.ntmps61
   go_wp2_with (first | ((with_reducible refine gate_dst (N := 1) rfl ?_); refine box_event ?hg (N := 1) ?hd (cs := #[.int .i64 a0_0, .int .i64 a0_1, .int .i64 a0_2]) (t := 47) ?hr ?_; (case hd => rfl); (case hg => rfl); (case hr => first | (go_simp; done) | (go_simp; rfl)); intro gb228 hg w10 hbox hb; have n0_ := Aside0.mk (below_step (qb HB) hb); have n1_ := Aside0.mk (hbox); have n2_ := Aside0.mk ((by rw [hg]; exact (below_size (qb HB)) : w.heap.size ≤ gb228)); have n3_ := Aside0.mk ((by rw [hg]; exact (below_size (qb HB)) : w.heap.size ≤ gb228)); clear HB; have HB := n0_; have BK228 := n1_; have GW228 := n2_; have GE228 := n3_; clear n0_ n1_ n2_ n3_; clear hb hbox hg; obtain ⟨hcz11_0, hcz11_1, hcz11_2, hfz11_0, hfz11_1, hfz11_2⟩ := bz3 BK228) | ((with_reducible refine gate_callee (f := 66) rfl ?_); refine goesL_ (some 5) rfl rfl Try.func66 (by kernel_rfl) rfl #[.int .i64 a0_0, .int .i64 1, .int .i64 5] rfl mq ?_; (with_reducible refine (impl_within.calls a0_0 1 5 true _ A2.out).mono ?_); rintro e w' ⟨rfl, ⟨nd, rfl⟩⟩; refine ⟨_, rfl, ?_⟩) | (go_at_call 66; (with_reducible refine (impl_within.calls a0_1 1 3 false _ A4.out).mono ?_); rintro e w' ⟨rfl, ⟨nd, rfl⟩⟩))
   go_ret; exact ⟨eqq, qb HB⟩
 ·replace c3 := Bool.eq_false_iff.mpr c3; subst c3
  have H1 : (some false) = some r := by rw [if_neg (show ¬ (false = true) by decide)] at H; exact H
  clear H; have H := H1; clear H1; obtain rfl := Option.some.inj H; go_enter Try.func61, Try.ntmps61
  go_wp2_with (first | ((with_reducible refine gate_dst (N := 1) rfl ?_); refine box_event ?hg (N := 1) ?hd (cs := #[.int .i64 a0_0, .int .i64 a0_1, .int .i64 a0_2]) (t := 47) ?hr ?_; (case hd => rfl); (case hg => rfl); (case hr => first | (go_simp; done) | (go_simp; rfl)); intro gb228 hg w12 hbox hb; have n0_ := Aside0.mk (below_step (qb HB) hb); have n1_ := Aside0.mk (hbox); have n2_ := Aside0.mk ((by rw [hg]; exact (below_size (qb HB)) : w.heap.size ≤ gb228)); have n3_ := Aside0.mk ((by rw [hg]; exact (below_size (qb HB)) : w.heap.size ≤ gb228)); clear HB; have HB := n0_; have BK228 := n1_; have GW228 := n2_; have GE228 := n3_; clear n0_ n1_ n2_ n3_; clear hb hbox hg; obtain ⟨hcz13_0, hcz13_1, hcz13_2, hfz13_0, hfz13_1, hfz13_2⟩ := bz3 BK228) | ((with_reducible refine gate_callee (f := 66) rfl ?_); refine goesL_ (some 5) rfl rfl Try.func66 (by kernel_rfl) rfl #[.int .i64 a0_0, .int .i64 1, .int .i64 5] rfl mq ?_; (with_reducible refine (impl_within.calls a0_0 1 5 false _ A2.out).mono ?_); rintro e w' ⟨rfl, ⟨nd, rfl⟩⟩; refine ⟨_, rfl, ?_⟩))
  go_ret; exact ⟨eqq, qb HB⟩

/-! ### impl_isClause_1: function 60 -/
def impl_isClause_1.f (a0_0 : Int) (a0_1 : Int) (a0_2 : Int) : Option (Bool) := (impl_isTerm.f a0_0 a0_1 a0_2).bind fun t233 => (some (!t233))
set_option maxHeartbeats 8000000 in
set_option maxRecDepth 100000 in
theorem impl_isClause_1.calls (a0_0 : Int) (a0_1 : Int) (a0_2 : Int) (r : Bool) (w : World) (h : impl_isClause_1.f a0_0 a0_1 a0_2 = some r) :
  Calls Try.prog 60 #[.agg #[.int .i64 a0_0, .int .i64 a0_1, .int .i64 a0_2]] w fun e w' => e = .returned (.bool r) ∧ Below w.heap.size w w' := by
 have hu47 := Try.underlying47; have HB := Aside0.mk (Below.refl w.heap.size w); have H : ((impl_isTerm.f a0_0 a0_1 a0_2).bind fun t233 => (some (!t233))) = some r := h; clear h; replace H := Option.bind_eq_some_iff.mp H; obtain ⟨t233, A20, H⟩ := H; replace H : (some (!t233)) = some r := H; have A2 := Aside0.mk A20; clear A20; obtain rfl := Option.some.inj H; go_enter Try.func60, Try.ntmps60
 go_wp2_with (first | ((with_reducible refine gate_dst (N := 1) rfl ?_); refine box_event ?hg (N := 1) ?hd (cs := #[.int .i64 a0_0, .int .i64 a0_1, .int .i64 a0_2]) (t := 47) ?hr ?_; (case hd => rfl); (case hg => rfl); (case hr => first | (go_simp; done) | (go_simp; rfl)); intro gb232 hg w3 hbox hb; have n0_ := Aside0.mk (below_step (qb HB) hb); have n1_ := Aside0.mk (hbox); have n2_ := Aside0.mk ((by rw [hg]; exact (below_size (qb HB)) : w.heap.size ≤ gb232)); have n3_ := Aside0.mk ((by rw [hg]; exact (below_size (qb HB)) : w.heap.size ≤ gb232)); clear HB; have HB := n0_; have BK232 := n1_; have GW232 := n2_; have GE232 := n3_; clear n0_ n1_ n2_ n3_; clear hb hbox hg; obtain ⟨hcz4_0, hcz4_1, hcz4_2, hfz4_0, hfz4_1, hfz4_2⟩ := bz3 BK232) | ((with_reducible refine gate_callee (f := 61) rfl ?_); refine goesL_ (some 4) rfl rfl Try.func61 (by kernel_rfl) rfl #[.agg #[.int .i64 a0_0, .int .i64 a0_1, .int .i64 a0_2]] rfl mq ?_; (with_reducible refine (impl_isTerm.calls a0_0 a0_1 a0_2 t233 _ A2.out).mono ?_); rintro e w5 ⟨rfl, hb⟩; refine ⟨_, rfl, ?_⟩; have n0_ := Aside0.mk (blk_below (bq BK232) hb); have n1_ := Aside0.mk (below_step (qb HB) hb); clear BK232; clear HB; have BK232 := n0_; have HB := n1_; clear n0_ n1_; (try clear hb); (try clear hb2); (try clear hk); (try clear hi)))
 go_ret; exact ⟨eqq, qb HB⟩

/-! ### impl_Term_59_impl_isClause_1: function 59 at function 60 -/
def impl_Term_59_impl_isClause_1.f (l0 : List S47) : Option Bool := impl_Term_59.f (fun x_ => impl_isClause_1.f x_.f0 x_.f1 x_.f2) l0
set_option maxHeartbeats 8000000 in
set_option maxRecDepth 100000 in
theorem impl_Term_59_impl_isClause_1.calls (A0 : Option Addr) (c0 : Nat) (l0 : List S47) (r : Bool) (w : World) (hr0 : Kd.C k47 w A0 l0.length l0) (hc0 : l0.length ≤ c0) (h : impl_Term_59_impl_isClause_1.f l0 = some r) :
    Calls Try.prog 59 #[.slice A0 l0.length c0, .func (.func 60) #[] #[]] w fun e w' => e = .returned (.bool r) ∧ Below w.heap.size w w' :=
  impl_Term_59.calls (fun x_ => impl_isClause_1.f x_.f0 x_.f1 x_.f2) l0 A0 c0 60 #[] r w (fun args w => enters_of Try.func60 (by kernel_rfl) rfl args w)
    (fun W_ x_ b_ hW_ hb_ => (impl_isClause_1.calls (a0_0 := x_.f0) (a0_1 := x_.f1) (a0_2 := x_.f2) (r := b_) (w := W_) (h := hb_)).mono fun e w' hq => ⟨hq.1, by first | exact hq.2 | exact hq.2.below⟩)
    hr0 hc0 h

/-! ### impl_isClause: function 36 -/
def impl_isClause.f (k : Nat) (a0_0 : ByteArray) (l0_1 : List (S47)) (a0_2 : Int) (a0_3 : Int) : Option (Bool) := (impl_NameOK.f k a0_0).bind fun t235 => (if t235 = true then (if (l0_1.length : Int) ≤ 8 then ((impl_isAct.f a0_2 a0_3).bind fun t236 => (if t236 = true then ((impl_Term_59_impl_isClause_1.f l0_1).bind fun t237 => (some (!t237))) else (some false))) else (some false)) else (some false))
theorem impl_isClause.mono : ∀ a0 a1 a2 a3 k, LeO (impl_isClause.f k a0 a1 a2 a3) (impl_isClause.f (k + 1) a0 a1 a2 a3) := by
 intro a0 a1 a2 a3 k; unfold impl_isClause.f
 repeat' first
   | (with_reducible exact impl_NameOK.mono _ _)
   | (with_reducible exact LeO.refl _)
   | (with_reducible exact LeO.none _)
   | (with_reducible refine LeO.ite ?_ ?_)
   | (with_reducible refine LeO.bind ?_ (fun _ => ?_))
   | exact impl_NameOK.mono _ _
   | exact LeO.none _
   | refine LeO.ite ?_ ?_
   | refine LeO.bind ?_ (fun _ => ?_)
set_option maxHeartbeats 8000000 in
set_option maxRecDepth 100000 in
theorem impl_isClause.calls (k : Nat) (a0_0 : ByteArray) (A0_1 : Option Addr) (c0_1 : Nat) (l0_1 : List (S47)) (a0_2 : Int) (a0_3 : Int) (r : Bool) (w : World) (hr0_1 : Kd.C k47 w A0_1 l0_1.length l0_1) (hc0_1 : l0_1.length ≤ c0_1) (h : impl_isClause.f k a0_0 l0_1 a0_2 a0_3 = some r) :
  Calls Try.prog 36 #[.agg #[.string a0_0, .slice A0_1 l0_1.length c0_1, .int .i64 a0_2, .int .i64 a0_3]] w fun e w' => e = .returned (.bool r) ∧ Below w.heap.size w w' := by
 have hu37 := Try.underlying37; have HR0_1 := Aside0.mk hr0_1; have HC0_1 := Aside0.mk hc0_1; clear hr0_1 hc0_1; have HB := Aside0.mk (Below.refl w.heap.size w); have H : ((impl_NameOK.f k a0_0).bind fun t235 => (if t235 = true then (if (l0_1.length : Int) ≤ 8 then ((impl_isAct.f a0_2 a0_3).bind fun t236 => (if t236 = true then ((impl_Term_59_impl_isClause_1.f l0_1).bind fun t237 => (some (!t237))) else (some false))) else (some false)) else (some false))) = some r := h; clear h; replace H := Option.bind_eq_some_iff.mp H; obtain ⟨t235, A20, H⟩ := H; replace H : (if t235 = true then (if (l0_1.length : Int) ≤ 8 then ((impl_isAct.f a0_2 a0_3).bind fun t236 => (if t236 = true then ((impl_Term_59_impl_isClause_1.f l0_1).bind fun t237 => (some (!t237))) else (some false))) else (some false)) else (some false)) = some r := H; have A2 := Aside0.mk A20; clear A20; by_cases c3 : t235 = true
 ·subst c3
  have H1 : (if (l0_1.length : Int) ≤ 8 then ((impl_isAct.f a0_2 a0_3).bind fun t236 => (if t236 = true then ((impl_Term_59_impl_isClause_1.f l0_1).bind fun t237 => (some (!t237))) else (some false))) else (some false)) = some r := by rw [if_pos rfl] at H; exact H
  clear H; have H := H1; clear H1; by_cases c4 : (l0_1.length : Int) ≤ 8
  ·rw [if_pos c4] at H; have c4b0 : decide ((l0_1.length : Int) ≤ 8) = true := decide_eq_true c4; have c4b1 : decide (l0_1.length ≤ 8) = true := decide_eq_true (by omega); clear c4; replace H := Option.bind_eq_some_iff.mp H; obtain ⟨t236, A50, H⟩ := H; replace H : (if t236 = true then ((impl_Term_59_impl_isClause_1.f l0_1).bind fun t237 => (some (!t237))) else (some false)) = some r := H; have A5 := Aside0.mk A50; clear A50; by_cases c6 : t236 = true
   ·subst c6
    have H1 : ((impl_Term_59_impl_isClause_1.f l0_1).bind fun t237 => (some (!t237))) = some r := by rw [if_pos rfl] at H; exact H
    clear H; have H := H1; clear H1; replace H := Option.bind_eq_some_iff.mp H; obtain ⟨t237, A70, H⟩ := H; replace H : (some (!t237)) = some r := H; have A7 := Aside0.mk A70; clear A70; obtain rfl := Option.some.inj H; go_enter Try.func36, Try.ntmps36
    go_wp2_with (first | ((with_reducible refine gate_dst (N := 1) rfl ?_); (try (refine gate_guard (by rfl) ?_; dsimp only)); refine box_event ?hg (N := 1) ?hd (cs := #[.string a0_0, .slice A0_1 l0_1.length c0_1, .int .i64 a0_2, .int .i64 a0_3]) (t := 37) ?hr ?_; (case hd => rfl); (case hg => rfl); (case hr => first | (go_simp; done) | (go_simp; rfl)); intro gb234 hg w8 hbox hb; have n0_ := Aside0.mk (below_step (qb HB) hb); have n1_ := Aside0.mk (hbox); have n2_ := Aside0.mk ((by rw [hg]; exact (below_size (qb HB)) : w.heap.size ≤ gb234)); have n3_ := Aside0.mk ((by rw [hg]; exact (below_size (qb HB)) : w.heap.size ≤ gb234)); clear HB; have HB := n0_; have BK234 := n1_; have GW234 := n2_; have GE234 := n3_; clear n0_ n1_ n2_ n3_; clear hb hbox hg; obtain ⟨hcz9_0, hcz9_1, hcz9_2, hcz9_3, hfz9_0, hfz9_1, hfz9_2, hfz9_3⟩ := bz4 BK234) | ((with_reducible refine gate_callee (f := 57) rfl ?_); refine goesL_ (some 5) rfl rfl Try.func57 (by kernel_rfl) rfl #[.string a0_0] rfl mq ?_; (with_reducible refine (impl_NameOK.calls k a0_0 true _ A2.out).mono ?_); rintro e w' ⟨rfl, ⟨nd, rfl⟩⟩; refine ⟨_, rfl, ?_⟩) | (go_at_call 58; (with_reducible refine (impl_isAct.calls a0_2 a0_3 true _ A5.out).mono ?_); rintro e w' ⟨rfl, ⟨nd, rfl⟩⟩) | (go_at_call 59; (with_reducible refine (impl_Term_59_impl_isClause_1.calls _ _ l0_1 t237 _ ?side1 ?side2 A7.out).mono ?_); (case side1 => repeat (first | exact (Kd.C_below HR0_1.out (qb HB)) | (with_reducible refine Kd.C_alloc ?_ _) | (with_reducible refine Kd.C_drewN ?_ _) | (with_reducible refine Kd.C_drew ?_))); (case side2 => exact HC0_1.out); rintro e w10 ⟨rfl, hb⟩; have n0_ := Aside0.mk (blk_below (bq BK234) hb); have n1_ := Aside0.mk (below_step (qb HB) hb); clear BK234; clear HB; have BK234 := n0_; have HB := n1_; clear n0_ n1_; (try clear hb); (try clear hb2); (try clear hk); (try clear hi)))
    go_ret; exact ⟨eqq, qb HB⟩
   ·replace c6 := Bool.eq_false_iff.mpr c6; subst c6
    have H1 : (some false) = some r := by rw [if_neg (show ¬ (false = true) by decide)] at H; exact H
    clear H; have H := H1; clear H1; obtain rfl := Option.some.inj H; go_enter Try.func36, Try.ntmps36
    go_wp2_with (first | ((with_reducible refine gate_dst (N := 1) rfl ?_); (try (refine gate_guard (by rfl) ?_; dsimp only)); refine box_event ?hg (N := 1) ?hd (cs := #[.string a0_0, .slice A0_1 l0_1.length c0_1, .int .i64 a0_2, .int .i64 a0_3]) (t := 37) ?hr ?_; (case hd => rfl); (case hg => rfl); (case hr => first | (go_simp; done) | (go_simp; rfl)); intro gb234 hg w11 hbox hb; have n0_ := Aside0.mk (below_step (qb HB) hb); have n1_ := Aside0.mk (hbox); have n2_ := Aside0.mk ((by rw [hg]; exact (below_size (qb HB)) : w.heap.size ≤ gb234)); have n3_ := Aside0.mk ((by rw [hg]; exact (below_size (qb HB)) : w.heap.size ≤ gb234)); clear HB; have HB := n0_; have BK234 := n1_; have GW234 := n2_; have GE234 := n3_; clear n0_ n1_ n2_ n3_; clear hb hbox hg; obtain ⟨hcz12_0, hcz12_1, hcz12_2, hcz12_3, hfz12_0, hfz12_1, hfz12_2, hfz12_3⟩ := bz4 BK234) | ((with_reducible refine gate_callee (f := 57) rfl ?_); refine goesL_ (some 5) rfl rfl Try.func57 (by kernel_rfl) rfl #[.string a0_0] rfl mq ?_; (with_reducible refine (impl_NameOK.calls k a0_0 true _ A2.out).mono ?_); rintro e w' ⟨rfl, ⟨nd, rfl⟩⟩; refine ⟨_, rfl, ?_⟩) | (go_at_call 58; (with_reducible refine (impl_isAct.calls a0_2 a0_3 false _ A5.out).mono ?_); rintro e w' ⟨rfl, ⟨nd, rfl⟩⟩))
    go_ret; exact ⟨eqq, qb HB⟩
  ·rw [if_neg c4] at H; have c4b0 : decide ((l0_1.length : Int) ≤ 8) = false := decide_eq_false c4; have c4b1 : decide (l0_1.length ≤ 8) = false := decide_eq_false (by omega); clear c4; obtain rfl := Option.some.inj H; go_enter Try.func36, Try.ntmps36
   go_wp2_with (first | ((with_reducible refine gate_dst (N := 1) rfl ?_); (try (refine gate_guard (by rfl) ?_; dsimp only)); refine box_event ?hg (N := 1) ?hd (cs := #[.string a0_0, .slice A0_1 l0_1.length c0_1, .int .i64 a0_2, .int .i64 a0_3]) (t := 37) ?hr ?_; (case hd => rfl); (case hg => rfl); (case hr => first | (go_simp; done) | (go_simp; rfl)); intro gb234 hg w13 hbox hb; have n0_ := Aside0.mk (below_step (qb HB) hb); have n1_ := Aside0.mk (hbox); have n2_ := Aside0.mk ((by rw [hg]; exact (below_size (qb HB)) : w.heap.size ≤ gb234)); have n3_ := Aside0.mk ((by rw [hg]; exact (below_size (qb HB)) : w.heap.size ≤ gb234)); clear HB; have HB := n0_; have BK234 := n1_; have GW234 := n2_; have GE234 := n3_; clear n0_ n1_ n2_ n3_; clear hb hbox hg; obtain ⟨hcz14_0, hcz14_1, hcz14_2, hcz14_3, hfz14_0, hfz14_1, hfz14_2, hfz14_3⟩ := bz4 BK234) | ((with_reducible refine gate_callee (f := 57) rfl ?_); refine goesL_ (some 5) rfl rfl Try.func57 (by kernel_rfl) rfl #[.string a0_0] rfl mq ?_; (with_reducible refine (impl_NameOK.calls k a0_0 true _ A2.out).mono ?_); rintro e w' ⟨rfl, ⟨nd, rfl⟩⟩; refine ⟨_, rfl, ?_⟩))
   go_ret; exact ⟨eqq, qb HB⟩
 ·replace c3 := Bool.eq_false_iff.mpr c3; subst c3
  have H1 : (some false) = some r := by rw [if_neg (show ¬ (false = true) by decide)] at H; exact H
  clear H; have H := H1; clear H1; obtain rfl := Option.some.inj H; go_enter Try.func36, Try.ntmps36
  go_wp2_with (first | ((with_reducible refine gate_dst (N := 1) rfl ?_); (try (refine gate_guard (by rfl) ?_; dsimp only)); refine box_event ?hg (N := 1) ?hd (cs := #[.string a0_0, .slice A0_1 l0_1.length c0_1, .int .i64 a0_2, .int .i64 a0_3]) (t := 37) ?hr ?_; (case hd => rfl); (case hg => rfl); (case hr => first | (go_simp; done) | (go_simp; rfl)); intro gb234 hg w15 hbox hb; have n0_ := Aside0.mk (below_step (qb HB) hb); have n1_ := Aside0.mk (hbox); have n2_ := Aside0.mk ((by rw [hg]; exact (below_size (qb HB)) : w.heap.size ≤ gb234)); have n3_ := Aside0.mk ((by rw [hg]; exact (below_size (qb HB)) : w.heap.size ≤ gb234)); clear HB; have HB := n0_; have BK234 := n1_; have GW234 := n2_; have GE234 := n3_; clear n0_ n1_ n2_ n3_; clear hb hbox hg; obtain ⟨hcz16_0, hcz16_1, hcz16_2, hcz16_3, hfz16_0, hfz16_1, hfz16_2, hfz16_3⟩ := bz4 BK234) | ((with_reducible refine gate_callee (f := 57) rfl ?_); refine goesL_ (some 5) rfl rfl Try.func57 (by kernel_rfl) rfl #[.string a0_0] rfl mq ?_; (with_reducible refine (impl_NameOK.calls k a0_0 false _ A2.out).mono ?_); rintro e w' ⟨rfl, ⟨nd, rfl⟩⟩; refine ⟨_, rfl, ?_⟩))
  go_ret; exact ⟨eqq, qb HB⟩

end Go.Proofs.Ytbmpkggjcnmieaa.PAll
