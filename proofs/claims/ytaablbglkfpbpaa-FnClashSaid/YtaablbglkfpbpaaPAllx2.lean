-- Written by wip/tools/hp.py over the kit's print (not by hand): functions and walks of All.
import Derived.Test.YtaablbglkfpbpaaPAllx0
import Derived.Test.YtaablbglkfpbpaaPAllx1
namespace Go.Proofs.Ytaablbglkfpbpaa.PAll
open Go.RowKit Go.Proofs.YtaablbglkfpbpaaW.PrintWords Go.Proofs.YtaablbglkfpbpaaW.PrintLast Go.Proofs.YtaablbglkfpbpaaW.PrintMore
attribute [local go_sem] max2_int min2_int max_two min_two max_three min_three max_four min_four   -- for this text's walks alone
set_option linter.unusedVariables false
set_option linter.unusedSimpArgs false

/-! ### impl_Term_90: function 90, by hand, over whatever function value -/
def impl_Term_90.f (p : S59 → Option Bool) : List S59 → Int → Option Int
 | [], _ => some (-1)
 | x :: xs, i => (p x).bind fun b => if b = true then some i else impl_Term_90.f p xs (i + 1)
theorem impl_Term_90.cons (p : S59 → Option Bool) (x : S59) (xs : List S59) (i : Int) : impl_Term_90.f p (x :: xs) i = (p x).bind fun b => if b = true then some i else impl_Term_90.f p xs (i + 1) := rfl
theorem impl_Term_90.mono (p q : S59 → Option Bool) (h : ∀ x, LeO (p x) (q x)) : ∀ l i, LeO (impl_Term_90.f p l i) (impl_Term_90.f q l i)
 | [], _ => LeO.refl _
 | x :: xs, i => LeO.bind (h x) (fun b => LeO.ite (LeO.refl _) (impl_Term_90.mono p q h xs (i + 1)))
set_option maxHeartbeats 8000000 in
set_option maxRecDepth 100000 in
theorem impl_Term_90.calls (p : S59 → Option Bool) (l0 : List S59) (A0 : Option Addr) (c0 : Nat) (g : Nat) (lb : Array Value) (r : Int) (w : World) (eg : ∀ args w, (callFunc g args).run Try.prog w = .ok (.enter g args) w)
  (hp : ∀ (W_ : World) (x_ : S59) (b_ : Bool), Below w.heap.size w W_ → p x_ = some b_ → Calls Try.prog g (#[.agg #[.int .i64 x_.f0, .int .i64 x_.f1, .int .i64 x_.f2]] ++ lb) W_ fun e w' => e = .returned (.bool b_) ∧ Below W_.heap.size W_ w')
  (hr0 : Kd.C k59 w A0 l0.length l0) (hc0 : l0.length ≤ c0) (h : impl_Term_90.f p l0 0 = some r) :
  Calls Try.prog 90 #[.slice A0 l0.length c0, .func (.func g) #[] lb] w fun e w' => e = .returned (.int .i64 r) ∧ Below w.heap.size w w' := by
 have hbig : l0.length ≤ 9223372036854775807 := hr0.2.1; have HP := Aside0.mk hp; have HR := Aside0.mk hr0; have H := Aside0.mk h; clear hp hr0 h; go_enter Try.func90, Try.ntmps90; go_wp2
 go_loopg [5, 8] l0.length (fun gg _ s8 wr => ∃ kk : Nat, kk ≤ l0.length ∧ l0.length - kk ≤ gg ∧ s8 = .int .i64 kk ∧ Aside0 (Below w.heap.size w wr) ∧ Aside0 (impl_Term_90.f p (l0.drop kk) kk = some r))
 case atStart => exact ⟨0, Nat.zero_le _, by omega, rfl, ⟨Below.refl _ w⟩, ⟨H.out⟩⟩
 case round =>
  obtain ⟨kk, hkk, hg, rfl, BW, HF⟩ := hrel; by_cases hlt : kk < l0.length
  ·have hltz : (kk : Int) < (l0.length : Int) := by omega
   have hf := HF.out
   have hcons : l0.drop kk = rd_T59 l0 (kk : Int) :: l0.drop (kk + 1) := by
    rw [List.drop_eq_getElem_cons hlt]
    congr 1
    unfold rd_T59; rw [Int.toNat_natCast, List.getD_eq_getElem?_getD, List.getElem?_eq_getElem hlt]; rfl
   obtain ⟨ad, rfl, hx0, hx1, hx2⟩ := at_T59 (Kd.C_below HR.out BW.out) (kk : Int) (by omega) hltz; rw [hcons, impl_Term_90.cons] at hf; clear hcons; simp only [Int.toNat_natCast] at hx0 hx1 hx2; generalize hxx : rd_T59 l0 (kk : Int) = x_ at *; have HX := Aside0.mk hxx; clear hxx; obtain ⟨b, hb, hf2⟩ := Option.bind_eq_some_iff.mp hf; have hcall := HP.out wr x_ b BW.out hb; have HB := Aside0.mk hb; have HF2 := Aside0.mk hf2; clear hf hb hf2
   cases b with
   | true =>
    go_wp2_with (go_at_fn g; refine hcall.mono ?_; rintro e w' ⟨rfl, hb'⟩)
    go_ret; have hr_ := HF2.out; simp only [if_true, Option.some.injEq] at hr_; exact ⟨by rw [← hr_]; rfl, BW.out.trans (hb'.mono BW.out.size)⟩
   | false =>
    go_wp2_with (go_at_fn g; refine hcall.mono ?_; rintro e w' ⟨rfl, hb'⟩)
    go_roundg (l0.length - (kk + 1))
    case measure => omega
    case rel =>
     have hr_ := HF2.out; simp only [Bool.false_eq_true, if_false] at hr_; exact ⟨kk + 1, by omega, by omega, by go_num, ⟨BW.out.trans (hb'.mono BW.out.size)⟩, ⟨by rw [show ((kk + 1 : Nat) : Int) = (kk : Int) + 1 by omega]; exact hr_⟩⟩
  ·have hltz : ¬ (kk : Int) < (l0.length : Int) := by omega
   have : kk = l0.length := by omega
   subst this; have hf := HF.out; rw [List.drop_length] at hf; have hr_ : -1 = r := Option.some.inj hf; have HX := Aside0.mk hr_; clear hf hr_; go_wp2; go_ret; exact ⟨by rw [← HX.out]; rfl, BW.out⟩

/-! ### impl_Term_69: function 69, by hand, over whatever function value -/
def impl_Term_69.f (p : S59 → Option Bool) (l : List S59) : Option Bool := (impl_Term_90.f p l 0).bind fun i => some (decide (i ≥ 0))
theorem impl_Term_69.mono (p q : S59 → Option Bool) (h : ∀ x, LeO (p x) (q x)) (l : List S59) : LeO (impl_Term_69.f p l) (impl_Term_69.f q l) := LeO.bind (impl_Term_90.mono p q h l 0) (fun _ => LeO.refl _)
set_option maxHeartbeats 8000000 in
set_option maxRecDepth 100000 in
theorem impl_Term_69.calls (p : S59 → Option Bool) (l0 : List S59) (A0 : Option Addr) (c0 : Nat) (g : Nat) (lb : Array Value) (r : Bool) (w : World) (eg : ∀ args w, (callFunc g args).run Try.prog w = .ok (.enter g args) w)
  (hp : ∀ (W_ : World) (x_ : S59) (b_ : Bool), Below w.heap.size w W_ → p x_ = some b_ → Calls Try.prog g (#[.agg #[.int .i64 x_.f0, .int .i64 x_.f1, .int .i64 x_.f2]] ++ lb) W_ fun e w' => e = .returned (.bool b_) ∧ Below W_.heap.size W_ w')
  (hr0 : Kd.C k59 w A0 l0.length l0) (hc0 : l0.length ≤ c0) (h : impl_Term_69.f p l0 = some r) :
  Calls Try.prog 69 #[.slice A0 l0.length c0, .func (.func g) #[] lb] w fun e w' => e = .returned (.bool r) ∧ Below w.heap.size w w' := by
 obtain ⟨i, hi, h2⟩ := Option.bind_eq_some_iff.mp h; have hr_ : decide (i ≥ 0) = r := Option.some.inj h2; have C := impl_Term_90.calls p l0 A0 c0 g lb i w eg hp hr0 hc0 hi; have HR_ := Aside0.mk hr_; clear h hi h2 hp hr_; by_cases hpos : 0 ≤ i
 ·have hd : decide (0 ≤ i) = true := decide_eq_true hpos; go_enter Try.func69, Try.ntmps69
  go_wp2_with (go_at_call 90; refine C.mono ?_; rintro e w' ⟨rfl, hb'⟩)
  go_ret; exact ⟨by rw [← HR_.out, decide_eq_true (show i ≥ 0 by omega)]; rfl, hb'⟩
 ·have hd : decide (0 ≤ i) = false := decide_eq_false hpos; go_enter Try.func69, Try.ntmps69
  go_wp2_with (go_at_call 90; refine C.mono ?_; rintro e w' ⟨rfl, hb'⟩)
  go_ret; exact ⟨by rw [← HR_.out, decide_eq_false (show ¬ i ≥ 0 by omega)]; rfl, hb'⟩

-- NOT PRINTED: function 55 (impl_allBounds)

/-! ### impl_isTermNum: function 91, by hand -/
theorem impl_allBounds.calls (w : World) : Calls Try.prog 55 #[] w fun e w' => e = .returned (.agg #[.int .i64 0, .int .i64 0, .int .i64 1, .int .i64 999, .int .i64 0, .int .i64 1000000, .int .i64 0, .int .i64 23, .int .i64 1, .int .i64 7, .int .i64 0, .int .i64 120] : Value) ∧ Below w.heap.size w w' := by
 go_enter Try.func55, Try.ntmps55; go_wp2; refine bodyPost_ret (results_single rfl (.cell w.heap.size 71 #[.int .i64 0, .int .i64 0, .int .i64 1, .int .i64 999, .int .i64 0, .int .i64 1000000, .int .i64 0, .int .i64 23, .int .i64 1, .int .i64 7, .int .i64 0, .int .i64 120] (0, 0) _ rfl (by simpa using blk_new w _) Try.underlying71 rfl (by kernel_rfl) .nil)) rfl ?_; exact ⟨rfl, (Below.refl _ w).alloc (Nat.le_refl _) _⟩
def impl_isTermNum.f (a0_0 : Int) (a0_1 : Int) (a0_2 : Int) : Option Bool :=
 if a0_0 = 1 then impl_within.f a0_2 1 999
 else if a0_0 = 2 then impl_within.f a0_2 0 1000000
 else if a0_0 = 3 then impl_within.f a0_2 0 23
 else if a0_0 = 4 then impl_within.f a0_2 1 7
 else if a0_0 = 5 then impl_within.f a0_2 0 120
 else none
theorem impl_isTermNum.drawn {w w1 : World} (h : Drawn0 w w1) : Below w.heap.size w w1 := by
 obtain ⟨n, rfl⟩ := h; exact pw_below_drewN (Below.refl _ _) _
theorem impl_isTermNum.keepS {w1 w2 w3 : World} {g : Nat} {a b c : Value} {t : TypeId} (hblk : w1.heap[g]? = some (.cells #[a, b, c] t (0, 0))) (hS : Below w1.heap.size w1 w2 ∧ w2.cell? ⟨g, 0, none⟩ = some a ∧ w2.cell? ⟨g, 2, none⟩ = some c) (hb : Below w2.heap.size w2 w3) :
  Below w1.heap.size w1 w3 ∧ w3.cell? ⟨g, 0, none⟩ = some a ∧ w3.cell? ⟨g, 2, none⟩ = some c :=
 have h := hS.1.trans (hb.mono hS.1.size)
 ⟨h, (blk_cell (blk_below hblk h) 0).trans rfl, (blk_cell (blk_below hblk h) 2).trans rfl⟩
set_option maxHeartbeats 8000000 in
set_option maxRecDepth 100000 in
theorem impl_isTermNum.at1 (a0_1 a0_2 : Int) (r : Bool) (w : World) (h : impl_within.f a0_2 1 999 = some r) :
  Calls Try.prog 91 #[.agg #[.int .i64 1, .int .i64 a0_1, .int .i64 a0_2]] w fun e w' => e = .returned (.bool r) ∧ Below w.heap.size w w' := by
 have H := Aside0.mk h; clear h
 have e1 : ∀ w : World, Sem.run Try.prog (Instr.index 71 (.agg #[.int .i64 0, .int .i64 0, .int .i64 1, .int .i64 999, .int .i64 0, .int .i64 1000000, .int .i64 0, .int .i64 23, .int .i64 1, .int .i64 7, .int .i64 0, .int .i64 120] : Value) (.int .i64 1)) w = .ok (.agg #[.int .i64 1, .int .i64 999]) w := fun w => by kernel_rfl
 have e2 : ∀ w : World, Sem.run Try.prog (Instr.index 69 (.agg #[.int .i64 1, .int .i64 999]) (.int .i64 0)) w = .ok (.int .i64 1) w := fun w => by kernel_rfl
 have e3 : ∀ w : World, Sem.run Try.prog (Instr.index 69 (.agg #[.int .i64 1, .int .i64 999]) (.int .i64 1)) w = .ok (.int .i64 999) w := fun w => by kernel_rfl
 have hblk := blk_new w (.cells #[.int .i64 1, .int .i64 a0_1, .int .i64 a0_2] 59); have h0 : (w.alloc (.cells #[.int .i64 1, .int .i64 a0_1, .int .i64 a0_2] 59)).cell? ⟨w.heap.size, 0, none⟩ = some (.int .i64 1) := (blk_cell hblk 0).trans rfl; have h2 : (w.alloc (.cells #[.int .i64 1, .int .i64 a0_1, .int .i64 a0_2] 59)).cell? ⟨w.heap.size, 2, none⟩ = some (.int .i64 a0_2) := (blk_cell hblk 2).trans rfl; have HB := Aside0.mk ((Below.refl _ w).alloc (Nat.le_refl _) (.cells #[.int .i64 1, .int .i64 a0_1, .int .i64 a0_2] 59)); go_enter Try.func91, Try.ntmps91; go_wp2; have HBLK := Aside0.mk hblk; clear hblk; generalize w.alloc (.cells #[.int .i64 1, .int .i64 a0_1, .int .i64 a0_2] 59) = w1 at *
 go_region_held3 (fun w' => Below w1.heap.size w1 w' ∧ w'.cell? ⟨w.heap.size, 0, none⟩ = some (.int .i64 1) ∧ w'.cell? ⟨w.heap.size, 2, none⟩ = some (.int .i64 a0_2))
  (first
   | exact impl_isTermNum.keepS HBLK.out ⟨Below.refl _ _, h0, h2⟩ (below_drew1 (Below.refl _ _))
   | assumption
   | (refine impl_isTermNum.keepS HBLK.out ?_ hb_; assumption))
  (first
   | (go_at_call 55; refine (impl_allBounds.calls _).mono ?_; rintro e w' ⟨rfl, hb_⟩)
   | (go_at_call 83; refine (impl_within.calls a0_2 1 999 r _ H.out).mono ?_; rintro e w' ⟨rfl, hd_⟩; have hb_ := impl_isTermNum.drawn hd_; clear hd_))
 all_goals go_wp2
 all_goals go_ret
 all_goals exact ⟨rfl, HB.out.trans (Below.mono (And.left (by assumption)) HB.out.size)⟩
set_option maxHeartbeats 8000000 in
set_option maxRecDepth 100000 in
theorem impl_isTermNum.at2 (a0_1 a0_2 : Int) (r : Bool) (w : World) (h : impl_within.f a0_2 0 1000000 = some r) :
  Calls Try.prog 91 #[.agg #[.int .i64 2, .int .i64 a0_1, .int .i64 a0_2]] w fun e w' => e = .returned (.bool r) ∧ Below w.heap.size w w' := by
 have H := Aside0.mk h; clear h
 have e1 : ∀ w : World, Sem.run Try.prog (Instr.index 71 (.agg #[.int .i64 0, .int .i64 0, .int .i64 1, .int .i64 999, .int .i64 0, .int .i64 1000000, .int .i64 0, .int .i64 23, .int .i64 1, .int .i64 7, .int .i64 0, .int .i64 120] : Value) (.int .i64 2)) w = .ok (.agg #[.int .i64 0, .int .i64 1000000]) w := fun w => by kernel_rfl
 have e2 : ∀ w : World, Sem.run Try.prog (Instr.index 69 (.agg #[.int .i64 0, .int .i64 1000000]) (.int .i64 0)) w = .ok (.int .i64 0) w := fun w => by kernel_rfl
 have e3 : ∀ w : World, Sem.run Try.prog (Instr.index 69 (.agg #[.int .i64 0, .int .i64 1000000]) (.int .i64 1)) w = .ok (.int .i64 1000000) w := fun w => by kernel_rfl
 have hblk := blk_new w (.cells #[.int .i64 2, .int .i64 a0_1, .int .i64 a0_2] 59); have h0 : (w.alloc (.cells #[.int .i64 2, .int .i64 a0_1, .int .i64 a0_2] 59)).cell? ⟨w.heap.size, 0, none⟩ = some (.int .i64 2) := (blk_cell hblk 0).trans rfl; have h2 : (w.alloc (.cells #[.int .i64 2, .int .i64 a0_1, .int .i64 a0_2] 59)).cell? ⟨w.heap.size, 2, none⟩ = some (.int .i64 a0_2) := (blk_cell hblk 2).trans rfl; have HB := Aside0.mk ((Below.refl _ w).alloc (Nat.le_refl _) (.cells #[.int .i64 2, .int .i64 a0_1, .int .i64 a0_2] 59)); go_enter Try.func91, Try.ntmps91; go_wp2; have HBLK := Aside0.mk hblk; clear hblk; generalize w.alloc (.cells #[.int .i64 2, .int .i64 a0_1, .int .i64 a0_2] 59) = w1 at *
 go_region_held3 (fun w' => Below w1.heap.size w1 w' ∧ w'.cell? ⟨w.heap.size, 0, none⟩ = some (.int .i64 2) ∧ w'.cell? ⟨w.heap.size, 2, none⟩ = some (.int .i64 a0_2))
  (first
   | exact impl_isTermNum.keepS HBLK.out ⟨Below.refl _ _, h0, h2⟩ (below_drew1 (Below.refl _ _))
   | assumption
   | (refine impl_isTermNum.keepS HBLK.out ?_ hb_; assumption))
  (first
   | (go_at_call 55; refine (impl_allBounds.calls _).mono ?_; rintro e w' ⟨rfl, hb_⟩)
   | (go_at_call 83; refine (impl_within.calls a0_2 0 1000000 r _ H.out).mono ?_; rintro e w' ⟨rfl, hd_⟩; have hb_ := impl_isTermNum.drawn hd_; clear hd_))
 all_goals go_wp2
 all_goals go_ret
 all_goals exact ⟨rfl, HB.out.trans (Below.mono (And.left (by assumption)) HB.out.size)⟩
set_option maxHeartbeats 8000000 in
set_option maxRecDepth 100000 in
theorem impl_isTermNum.at3 (a0_1 a0_2 : Int) (r : Bool) (w : World) (h : impl_within.f a0_2 0 23 = some r) :
  Calls Try.prog 91 #[.agg #[.int .i64 3, .int .i64 a0_1, .int .i64 a0_2]] w fun e w' => e = .returned (.bool r) ∧ Below w.heap.size w w' := by
 have H := Aside0.mk h; clear h
 have e1 : ∀ w : World, Sem.run Try.prog (Instr.index 71 (.agg #[.int .i64 0, .int .i64 0, .int .i64 1, .int .i64 999, .int .i64 0, .int .i64 1000000, .int .i64 0, .int .i64 23, .int .i64 1, .int .i64 7, .int .i64 0, .int .i64 120] : Value) (.int .i64 3)) w = .ok (.agg #[.int .i64 0, .int .i64 23]) w := fun w => by kernel_rfl
 have e2 : ∀ w : World, Sem.run Try.prog (Instr.index 69 (.agg #[.int .i64 0, .int .i64 23]) (.int .i64 0)) w = .ok (.int .i64 0) w := fun w => by kernel_rfl
 have e3 : ∀ w : World, Sem.run Try.prog (Instr.index 69 (.agg #[.int .i64 0, .int .i64 23]) (.int .i64 1)) w = .ok (.int .i64 23) w := fun w => by kernel_rfl
 have hblk := blk_new w (.cells #[.int .i64 3, .int .i64 a0_1, .int .i64 a0_2] 59); have h0 : (w.alloc (.cells #[.int .i64 3, .int .i64 a0_1, .int .i64 a0_2] 59)).cell? ⟨w.heap.size, 0, none⟩ = some (.int .i64 3) := (blk_cell hblk 0).trans rfl; have h2 : (w.alloc (.cells #[.int .i64 3, .int .i64 a0_1, .int .i64 a0_2] 59)).cell? ⟨w.heap.size, 2, none⟩ = some (.int .i64 a0_2) := (blk_cell hblk 2).trans rfl; have HB := Aside0.mk ((Below.refl _ w).alloc (Nat.le_refl _) (.cells #[.int .i64 3, .int .i64 a0_1, .int .i64 a0_2] 59)); go_enter Try.func91, Try.ntmps91; go_wp2; have HBLK := Aside0.mk hblk; clear hblk; generalize w.alloc (.cells #[.int .i64 3, .int .i64 a0_1, .int .i64 a0_2] 59) = w1 at *
 go_region_held3 (fun w' => Below w1.heap.size w1 w' ∧ w'.cell? ⟨w.heap.size, 0, none⟩ = some (.int .i64 3) ∧ w'.cell? ⟨w.heap.size, 2, none⟩ = some (.int .i64 a0_2))
  (first
   | exact impl_isTermNum.keepS HBLK.out ⟨Below.refl _ _, h0, h2⟩ (below_drew1 (Below.refl _ _))
   | assumption
   | (refine impl_isTermNum.keepS HBLK.out ?_ hb_; assumption))
  (first
   | (go_at_call 55; refine (impl_allBounds.calls _).mono ?_; rintro e w' ⟨rfl, hb_⟩)
   | (go_at_call 83; refine (impl_within.calls a0_2 0 23 r _ H.out).mono ?_; rintro e w' ⟨rfl, hd_⟩; have hb_ := impl_isTermNum.drawn hd_; clear hd_))
 all_goals go_wp2
 all_goals go_ret
 all_goals exact ⟨rfl, HB.out.trans (Below.mono (And.left (by assumption)) HB.out.size)⟩
set_option maxHeartbeats 8000000 in
set_option maxRecDepth 100000 in
theorem impl_isTermNum.at4 (a0_1 a0_2 : Int) (r : Bool) (w : World) (h : impl_within.f a0_2 1 7 = some r) :
  Calls Try.prog 91 #[.agg #[.int .i64 4, .int .i64 a0_1, .int .i64 a0_2]] w fun e w' => e = .returned (.bool r) ∧ Below w.heap.size w w' := by
 have H := Aside0.mk h; clear h
 have e1 : ∀ w : World, Sem.run Try.prog (Instr.index 71 (.agg #[.int .i64 0, .int .i64 0, .int .i64 1, .int .i64 999, .int .i64 0, .int .i64 1000000, .int .i64 0, .int .i64 23, .int .i64 1, .int .i64 7, .int .i64 0, .int .i64 120] : Value) (.int .i64 4)) w = .ok (.agg #[.int .i64 1, .int .i64 7]) w := fun w => by kernel_rfl
 have e2 : ∀ w : World, Sem.run Try.prog (Instr.index 69 (.agg #[.int .i64 1, .int .i64 7]) (.int .i64 0)) w = .ok (.int .i64 1) w := fun w => by kernel_rfl
 have e3 : ∀ w : World, Sem.run Try.prog (Instr.index 69 (.agg #[.int .i64 1, .int .i64 7]) (.int .i64 1)) w = .ok (.int .i64 7) w := fun w => by kernel_rfl
 have hblk := blk_new w (.cells #[.int .i64 4, .int .i64 a0_1, .int .i64 a0_2] 59); have h0 : (w.alloc (.cells #[.int .i64 4, .int .i64 a0_1, .int .i64 a0_2] 59)).cell? ⟨w.heap.size, 0, none⟩ = some (.int .i64 4) := (blk_cell hblk 0).trans rfl; have h2 : (w.alloc (.cells #[.int .i64 4, .int .i64 a0_1, .int .i64 a0_2] 59)).cell? ⟨w.heap.size, 2, none⟩ = some (.int .i64 a0_2) := (blk_cell hblk 2).trans rfl; have HB := Aside0.mk ((Below.refl _ w).alloc (Nat.le_refl _) (.cells #[.int .i64 4, .int .i64 a0_1, .int .i64 a0_2] 59)); go_enter Try.func91, Try.ntmps91; go_wp2; have HBLK := Aside0.mk hblk; clear hblk; generalize w.alloc (.cells #[.int .i64 4, .int .i64 a0_1, .int .i64 a0_2] 59) = w1 at *
 go_region_held3 (fun w' => Below w1.heap.size w1 w' ∧ w'.cell? ⟨w.heap.size, 0, none⟩ = some (.int .i64 4) ∧ w'.cell? ⟨w.heap.size, 2, none⟩ = some (.int .i64 a0_2))
  (first
   | exact impl_isTermNum.keepS HBLK.out ⟨Below.refl _ _, h0, h2⟩ (below_drew1 (Below.refl _ _))
   | assumption
   | (refine impl_isTermNum.keepS HBLK.out ?_ hb_; assumption))
  (first
   | (go_at_call 55; refine (impl_allBounds.calls _).mono ?_; rintro e w' ⟨rfl, hb_⟩)
   | (go_at_call 83; refine (impl_within.calls a0_2 1 7 r _ H.out).mono ?_; rintro e w' ⟨rfl, hd_⟩; have hb_ := impl_isTermNum.drawn hd_; clear hd_))
 all_goals go_wp2
 all_goals go_ret
 all_goals exact ⟨rfl, HB.out.trans (Below.mono (And.left (by assumption)) HB.out.size)⟩
set_option maxHeartbeats 8000000 in
set_option maxRecDepth 100000 in
theorem impl_isTermNum.at5 (a0_1 a0_2 : Int) (r : Bool) (w : World) (h : impl_within.f a0_2 0 120 = some r) :
  Calls Try.prog 91 #[.agg #[.int .i64 5, .int .i64 a0_1, .int .i64 a0_2]] w fun e w' => e = .returned (.bool r) ∧ Below w.heap.size w w' := by
 have H := Aside0.mk h; clear h
 have e1 : ∀ w : World, Sem.run Try.prog (Instr.index 71 (.agg #[.int .i64 0, .int .i64 0, .int .i64 1, .int .i64 999, .int .i64 0, .int .i64 1000000, .int .i64 0, .int .i64 23, .int .i64 1, .int .i64 7, .int .i64 0, .int .i64 120] : Value) (.int .i64 5)) w = .ok (.agg #[.int .i64 0, .int .i64 120]) w := fun w => by kernel_rfl
 have e2 : ∀ w : World, Sem.run Try.prog (Instr.index 69 (.agg #[.int .i64 0, .int .i64 120]) (.int .i64 0)) w = .ok (.int .i64 0) w := fun w => by kernel_rfl
 have e3 : ∀ w : World, Sem.run Try.prog (Instr.index 69 (.agg #[.int .i64 0, .int .i64 120]) (.int .i64 1)) w = .ok (.int .i64 120) w := fun w => by kernel_rfl
 have hblk := blk_new w (.cells #[.int .i64 5, .int .i64 a0_1, .int .i64 a0_2] 59); have h0 : (w.alloc (.cells #[.int .i64 5, .int .i64 a0_1, .int .i64 a0_2] 59)).cell? ⟨w.heap.size, 0, none⟩ = some (.int .i64 5) := (blk_cell hblk 0).trans rfl; have h2 : (w.alloc (.cells #[.int .i64 5, .int .i64 a0_1, .int .i64 a0_2] 59)).cell? ⟨w.heap.size, 2, none⟩ = some (.int .i64 a0_2) := (blk_cell hblk 2).trans rfl; have HB := Aside0.mk ((Below.refl _ w).alloc (Nat.le_refl _) (.cells #[.int .i64 5, .int .i64 a0_1, .int .i64 a0_2] 59)); go_enter Try.func91, Try.ntmps91; go_wp2; have HBLK := Aside0.mk hblk; clear hblk; generalize w.alloc (.cells #[.int .i64 5, .int .i64 a0_1, .int .i64 a0_2] 59) = w1 at *
 go_region_held3 (fun w' => Below w1.heap.size w1 w' ∧ w'.cell? ⟨w.heap.size, 0, none⟩ = some (.int .i64 5) ∧ w'.cell? ⟨w.heap.size, 2, none⟩ = some (.int .i64 a0_2))
  (first
   | exact impl_isTermNum.keepS HBLK.out ⟨Below.refl _ _, h0, h2⟩ (below_drew1 (Below.refl _ _))
   | assumption
   | (refine impl_isTermNum.keepS HBLK.out ?_ hb_; assumption))
  (first
   | (go_at_call 55; refine (impl_allBounds.calls _).mono ?_; rintro e w' ⟨rfl, hb_⟩)
   | (go_at_call 83; refine (impl_within.calls a0_2 0 120 r _ H.out).mono ?_; rintro e w' ⟨rfl, hd_⟩; have hb_ := impl_isTermNum.drawn hd_; clear hd_))
 all_goals go_wp2
 all_goals go_ret
 all_goals exact ⟨rfl, HB.out.trans (Below.mono (And.left (by assumption)) HB.out.size)⟩
theorem impl_isTermNum.calls (a0_0 : Int) (a0_1 : Int) (a0_2 : Int) (r : Bool) (w : World) (h : impl_isTermNum.f a0_0 a0_1 a0_2 = some r) :
  Calls Try.prog 91 #[.agg #[.int .i64 a0_0, .int .i64 a0_1, .int .i64 a0_2]] w fun e w' => e = .returned (.bool r) ∧ Below w.heap.size w w' := by
 unfold impl_isTermNum.f at h; by_cases c1 : a0_0 = 1
 ·subst c1; rw [if_pos rfl] at h; exact impl_isTermNum.at1 a0_1 a0_2 r w h
 rw [if_neg c1] at h; by_cases c2 : a0_0 = 2
 ·subst c2; rw [if_pos rfl] at h; exact impl_isTermNum.at2 a0_1 a0_2 r w h
 rw [if_neg c2] at h; by_cases c3 : a0_0 = 3
 ·subst c3; rw [if_pos rfl] at h; exact impl_isTermNum.at3 a0_1 a0_2 r w h
 rw [if_neg c3] at h; by_cases c4 : a0_0 = 4
 ·subst c4; rw [if_pos rfl] at h; exact impl_isTermNum.at4 a0_1 a0_2 r w h
 rw [if_neg c4] at h; by_cases c5 : a0_0 = 5
 ·subst c5; rw [if_pos rfl] at h; exact impl_isTermNum.at5 a0_1 a0_2 r w h
 rw [if_neg c5] at h
 cases h

/-! ### impl_isTerm: function 71 -/
def impl_isTerm.f (a0_0 : Int) (a0_1 : Int) (a0_2 : Int) : Option (Bool) := (impl_within.f a0_0 1 5).bind fun t195 => (if t195 = true then ((impl_within.f a0_1 1 3).bind fun t196 => (if t196 = true then ((impl_isTermNum.f a0_0 a0_1 a0_2).bind fun t197 => (some t197)) else (some false))) else (some false))
set_option maxHeartbeats 8000000 in
set_option maxRecDepth 100000 in
theorem impl_isTerm.calls (a0_0 : Int) (a0_1 : Int) (a0_2 : Int) (r : Bool) (w : World) (h : impl_isTerm.f a0_0 a0_1 a0_2 = some r) :
  Calls Try.prog 71 #[.agg #[.int .i64 a0_0, .int .i64 a0_1, .int .i64 a0_2]] w fun e w' => e = .returned (.bool r) ∧ Below w.heap.size w w' := by
 have hu59 := Try.underlying59; have HB := Aside0.mk (Below.refl w.heap.size w); have H : ((impl_within.f a0_0 1 5).bind fun t195 => (if t195 = true then ((impl_within.f a0_1 1 3).bind fun t196 => (if t196 = true then ((impl_isTermNum.f a0_0 a0_1 a0_2).bind fun t197 => (some t197)) else (some false))) else (some false))) = some r := h; clear h; replace H := Option.bind_eq_some_iff.mp H; obtain ⟨t195, A20, H⟩ := H; replace H : (if t195 = true then ((impl_within.f a0_1 1 3).bind fun t196 => (if t196 = true then ((impl_isTermNum.f a0_0 a0_1 a0_2).bind fun t197 => (some t197)) else (some false))) else (some false)) = some r := H; have A2 := Aside0.mk A20; clear A20; by_cases c3 : t195 = true
 ·subst c3
  have H1 : ((impl_within.f a0_1 1 3).bind fun t196 => (if t196 = true then ((impl_isTermNum.f a0_0 a0_1 a0_2).bind fun t197 => (some t197)) else (some false))) = some r := by rw [if_pos rfl] at H; exact H
  clear H; have H := H1; clear H1; replace H := Option.bind_eq_some_iff.mp H; obtain ⟨t196, A40, H⟩ := H; replace H : (if t196 = true then ((impl_isTermNum.f a0_0 a0_1 a0_2).bind fun t197 => (some t197)) else (some false)) = some r := H; have A4 := Aside0.mk A40; clear A40; by_cases c5 : t196 = true
  ·subst c5
   have H1 : ((impl_isTermNum.f a0_0 a0_1 a0_2).bind fun t197 => (some t197)) = some r := by rw [if_pos rfl] at H; exact H
   clear H; have H := H1; clear H1; replace H := Option.bind_eq_some_iff.mp H; obtain ⟨t197, A60, H⟩ := H; replace H : (some t197) = some r := H; have A6 := Aside0.mk A60; clear A60; obtain rfl := Option.some.inj H; go_enter Try.func71, Try.ntmps71
   go_wp2_with (first | ((with_reducible refine gate_dst (N := 1) rfl ?_); refine box_event ?hg (N := 1) ?hd (cs := #[.int .i64 a0_0, .int .i64 a0_1, .int .i64 a0_2]) (t := 59) ?hr ?_; (case hd => rfl); (case hg => rfl); (case hr => first | (go_simp; done) | (go_simp; rfl)); intro gb194 hg w7 hbox hb; have n0_ := Aside0.mk (below_step (qb HB) hb); have n1_ := Aside0.mk (hbox); have n2_ := Aside0.mk ((by rw [hg]; exact (below_size (qb HB)) : w.heap.size ≤ gb194)); have n3_ := Aside0.mk ((by rw [hg]; exact (below_size (qb HB)) : w.heap.size ≤ gb194)); clear HB; have HB := n0_; have BK194 := n1_; have GW194 := n2_; have GE194 := n3_; clear n0_ n1_ n2_ n3_; clear hb hbox hg; obtain ⟨hcz8_0, hcz8_1, hcz8_2, hfz8_0, hfz8_1, hfz8_2⟩ := bz3 BK194) | ((with_reducible refine gate_callee (f := 83) rfl ?_); refine goesL_ (some 5) rfl rfl Try.func83 (by kernel_rfl) rfl #[.int .i64 a0_0, .int .i64 1, .int .i64 5] rfl mq ?_; (with_reducible refine (impl_within.calls a0_0 1 5 true _ A2.out).mono ?_); rintro e w' ⟨rfl, ⟨nd, rfl⟩⟩; refine ⟨_, rfl, ?_⟩) | (go_at_call 83; (with_reducible refine (impl_within.calls a0_1 1 3 true _ A4.out).mono ?_); rintro e w' ⟨rfl, ⟨nd, rfl⟩⟩) | (go_at_call 91; (with_reducible refine (impl_isTermNum.calls a0_0 a0_1 a0_2 t197 _ A6.out).mono ?_); rintro e w9 ⟨rfl, hb⟩; have n0_ := Aside0.mk (blk_below (bq BK194) hb); have n1_ := Aside0.mk (below_step (qb HB) hb); clear BK194; clear HB; have BK194 := n0_; have HB := n1_; clear n0_ n1_; (try clear hb); (try clear hb2); (try clear hk); (try clear hi)))
   go_ret; exact ⟨eqq, qb HB⟩
  ·replace c5 := Bool.eq_false_iff.mpr c5; subst c5
   have H1 : (some false) = some r := by rw [if_neg (show ¬ (false = true) by decide)] at H; exact H
   clear H; have H := H1; clear H1; obtain rfl := Option.some.inj H; go_enter Try.func71, Try.ntmps71
   go_wp2_with (first | ((with_reducible refine gate_dst (N := 1) rfl ?_); refine box_event ?hg (N := 1) ?hd (cs := #[.int .i64 a0_0, .int .i64 a0_1, .int .i64 a0_2]) (t := 59) ?hr ?_; (case hd => rfl); (case hg => rfl); (case hr => first | (go_simp; done) | (go_simp; rfl)); intro gb194 hg w10 hbox hb; have n0_ := Aside0.mk (below_step (qb HB) hb); have n1_ := Aside0.mk (hbox); have n2_ := Aside0.mk ((by rw [hg]; exact (below_size (qb HB)) : w.heap.size ≤ gb194)); have n3_ := Aside0.mk ((by rw [hg]; exact (below_size (qb HB)) : w.heap.size ≤ gb194)); clear HB; have HB := n0_; have BK194 := n1_; have GW194 := n2_; have GE194 := n3_; clear n0_ n1_ n2_ n3_; clear hb hbox hg; obtain ⟨hcz11_0, hcz11_1, hcz11_2, hfz11_0, hfz11_1, hfz11_2⟩ := bz3 BK194) | ((with_reducible refine gate_callee (f := 83) rfl ?_); refine goesL_ (some 5) rfl rfl Try.func83 (by kernel_rfl) rfl #[.int .i64 a0_0, .int .i64 1, .int .i64 5] rfl mq ?_; (with_reducible refine (impl_within.calls a0_0 1 5 true _ A2.out).mono ?_); rintro e w' ⟨rfl, ⟨nd, rfl⟩⟩; refine ⟨_, rfl, ?_⟩) | (go_at_call 83; (with_reducible refine (impl_within.calls a0_1 1 3 false _ A4.out).mono ?_); rintro e w' ⟨rfl, ⟨nd, rfl⟩⟩))
   go_ret; exact ⟨eqq, qb HB⟩
 ·replace c3 := Bool.eq_false_iff.mpr c3; subst c3
  have H1 : (some false) = some r := by rw [if_neg (show ¬ (false = true) by decide)] at H; exact H
  clear H; have H := H1; clear H1; obtain rfl := Option.some.inj H; go_enter Try.func71, Try.ntmps71
  go_wp2_with (first | ((with_reducible refine gate_dst (N := 1) rfl ?_); refine box_event ?hg (N := 1) ?hd (cs := #[.int .i64 a0_0, .int .i64 a0_1, .int .i64 a0_2]) (t := 59) ?hr ?_; (case hd => rfl); (case hg => rfl); (case hr => first | (go_simp; done) | (go_simp; rfl)); intro gb194 hg w12 hbox hb; have n0_ := Aside0.mk (below_step (qb HB) hb); have n1_ := Aside0.mk (hbox); have n2_ := Aside0.mk ((by rw [hg]; exact (below_size (qb HB)) : w.heap.size ≤ gb194)); have n3_ := Aside0.mk ((by rw [hg]; exact (below_size (qb HB)) : w.heap.size ≤ gb194)); clear HB; have HB := n0_; have BK194 := n1_; have GW194 := n2_; have GE194 := n3_; clear n0_ n1_ n2_ n3_; clear hb hbox hg; obtain ⟨hcz13_0, hcz13_1, hcz13_2, hfz13_0, hfz13_1, hfz13_2⟩ := bz3 BK194) | ((with_reducible refine gate_callee (f := 83) rfl ?_); refine goesL_ (some 5) rfl rfl Try.func83 (by kernel_rfl) rfl #[.int .i64 a0_0, .int .i64 1, .int .i64 5] rfl mq ?_; (with_reducible refine (impl_within.calls a0_0 1 5 false _ A2.out).mono ?_); rintro e w' ⟨rfl, ⟨nd, rfl⟩⟩; refine ⟨_, rfl, ?_⟩))
  go_ret; exact ⟨eqq, qb HB⟩

/-! ### impl_isClause_1: function 70 -/
def impl_isClause_1.f (a0_0 : Int) (a0_1 : Int) (a0_2 : Int) : Option (Bool) := (impl_isTerm.f a0_0 a0_1 a0_2).bind fun t199 => (some (!t199))
set_option maxHeartbeats 8000000 in
set_option maxRecDepth 100000 in
theorem impl_isClause_1.calls (a0_0 : Int) (a0_1 : Int) (a0_2 : Int) (r : Bool) (w : World) (h : impl_isClause_1.f a0_0 a0_1 a0_2 = some r) :
  Calls Try.prog 70 #[.agg #[.int .i64 a0_0, .int .i64 a0_1, .int .i64 a0_2]] w fun e w' => e = .returned (.bool r) ∧ Below w.heap.size w w' := by
 have hu59 := Try.underlying59; have HB := Aside0.mk (Below.refl w.heap.size w); have H : ((impl_isTerm.f a0_0 a0_1 a0_2).bind fun t199 => (some (!t199))) = some r := h; clear h; replace H := Option.bind_eq_some_iff.mp H; obtain ⟨t199, A20, H⟩ := H; replace H : (some (!t199)) = some r := H; have A2 := Aside0.mk A20; clear A20; obtain rfl := Option.some.inj H; go_enter Try.func70, Try.ntmps70
 go_wp2_with (first | ((with_reducible refine gate_dst (N := 1) rfl ?_); refine box_event ?hg (N := 1) ?hd (cs := #[.int .i64 a0_0, .int .i64 a0_1, .int .i64 a0_2]) (t := 59) ?hr ?_; (case hd => rfl); (case hg => rfl); (case hr => first | (go_simp; done) | (go_simp; rfl)); intro gb198 hg w3 hbox hb; have n0_ := Aside0.mk (below_step (qb HB) hb); have n1_ := Aside0.mk (hbox); have n2_ := Aside0.mk ((by rw [hg]; exact (below_size (qb HB)) : w.heap.size ≤ gb198)); have n3_ := Aside0.mk ((by rw [hg]; exact (below_size (qb HB)) : w.heap.size ≤ gb198)); clear HB; have HB := n0_; have BK198 := n1_; have GW198 := n2_; have GE198 := n3_; clear n0_ n1_ n2_ n3_; clear hb hbox hg; obtain ⟨hcz4_0, hcz4_1, hcz4_2, hfz4_0, hfz4_1, hfz4_2⟩ := bz3 BK198) | ((with_reducible refine gate_callee (f := 71) rfl ?_); refine goesL_ (some 4) rfl rfl Try.func71 (by kernel_rfl) rfl #[.agg #[.int .i64 a0_0, .int .i64 a0_1, .int .i64 a0_2]] rfl mq ?_; (with_reducible refine (impl_isTerm.calls a0_0 a0_1 a0_2 t199 _ A2.out).mono ?_); rintro e w5 ⟨rfl, hb⟩; refine ⟨_, rfl, ?_⟩; have n0_ := Aside0.mk (blk_below (bq BK198) hb); have n1_ := Aside0.mk (below_step (qb HB) hb); clear BK198; clear HB; have BK198 := n0_; have HB := n1_; clear n0_ n1_; (try clear hb); (try clear hb2); (try clear hk); (try clear hi)))
 go_ret; exact ⟨eqq, qb HB⟩

/-! ### impl_Term_69_impl_isClause_1: function 69 at function 70 -/
def impl_Term_69_impl_isClause_1.f (l0 : List S59) : Option Bool := impl_Term_69.f (fun x_ => impl_isClause_1.f x_.f0 x_.f1 x_.f2) l0
set_option maxHeartbeats 8000000 in
set_option maxRecDepth 100000 in
theorem impl_Term_69_impl_isClause_1.calls (A0 : Option Addr) (c0 : Nat) (l0 : List S59) (r : Bool) (w : World) (hr0 : Kd.C k59 w A0 l0.length l0) (hc0 : l0.length ≤ c0) (h : impl_Term_69_impl_isClause_1.f l0 = some r) :
    Calls Try.prog 69 #[.slice A0 l0.length c0, .func (.func 70) #[] #[]] w fun e w' => e = .returned (.bool r) ∧ Below w.heap.size w w' :=
  impl_Term_69.calls (fun x_ => impl_isClause_1.f x_.f0 x_.f1 x_.f2) l0 A0 c0 70 #[] r w (fun args w => enters_of Try.func70 (by kernel_rfl) rfl args w)
    (fun W_ x_ b_ hW_ hb_ => (impl_isClause_1.calls (a0_0 := x_.f0) (a0_1 := x_.f1) (a0_2 := x_.f2) (r := b_) (w := W_) (h := hb_)).mono fun e w' hq => ⟨hq.1, by first | exact hq.2 | exact hq.2.below⟩)
    hr0 hc0 h

/-! ### impl_isClause: function 36 -/
def impl_isClause.f (k : Nat) (a0_0 : ByteArray) (l0_1 : List (S59)) (a0_2 : Int) (a0_3 : Int) : Option (Bool) := (impl_NameOK.f k a0_0).bind fun t201 => (if t201 = true then (if (l0_1.length : Int) ≤ 8 then ((impl_isAct.f a0_2 a0_3).bind fun t202 => (if t202 = true then ((impl_Term_69_impl_isClause_1.f l0_1).bind fun t203 => (some (!t203))) else (some false))) else (some false)) else (some false))
theorem impl_isClause.mono : ∀ a0 a1 a2 a3 k, LeO (impl_isClause.f k a0 a1 a2 a3) (impl_isClause.f (k + 1) a0 a1 a2 a3) := by
 intro a0 a1 a2 a3 k; unfold impl_isClause.f
 repeat' first
   | (with_reducible exact impl_NameOK.mono _ _)
   | (with_reducible exact LeO.refl _)
   | (with_reducible exact LeO.none _)
   | (with_reducible refine LeO.ite ?_ ?_)
   | (with_reducible refine LeO.bind ?_ (fun _ => ?_))
   | exact impl_NameOK.mono _ _
   | exact LeO.none _
   | refine LeO.ite ?_ ?_
   | refine LeO.bind ?_ (fun _ => ?_)
set_option maxHeartbeats 8000000 in
set_option maxRecDepth 100000 in
theorem impl_isClause.calls (k : Nat) (a0_0 : ByteArray) (A0_1 : Option Addr) (c0_1 : Nat) (l0_1 : List (S59)) (a0_2 : Int) (a0_3 : Int) (r : Bool) (w : World) (hr0_1 : Kd.C k59 w A0_1 l0_1.length l0_1) (hc0_1 : l0_1.length ≤ c0_1) (h : impl_isClause.f k a0_0 l0_1 a0_2 a0_3 = some r) :
  Calls Try.prog 36 #[.agg #[.string a0_0, .slice A0_1 l0_1.length c0_1, .int .i64 a0_2, .int .i64 a0_3]] w fun e w' => e = .returned (.bool r) ∧ Below w.heap.size w w' := by
 have hu32 := Try.underlying32; have HR0_1 := Aside0.mk hr0_1; have HC0_1 := Aside0.mk hc0_1; clear hr0_1 hc0_1; have HB := Aside0.mk (Below.refl w.heap.size w); have H : ((impl_NameOK.f k a0_0).bind fun t201 => (if t201 = true then (if (l0_1.length : Int) ≤ 8 then ((impl_isAct.f a0_2 a0_3).bind fun t202 => (if t202 = true then ((impl_Term_69_impl_isClause_1.f l0_1).bind fun t203 => (some (!t203))) else (some false))) else (some false)) else (some false))) = some r := h; clear h; replace H := Option.bind_eq_some_iff.mp H; obtain ⟨t201, A20, H⟩ := H; replace H : (if t201 = true then (if (l0_1.length : Int) ≤ 8 then ((impl_isAct.f a0_2 a0_3).bind fun t202 => (if t202 = true then ((impl_Term_69_impl_isClause_1.f l0_1).bind fun t203 => (some (!t203))) else (some false))) else (some false)) else (some false)) = some r := H; have A2 := Aside0.mk A20; clear A20; by_cases c3 : t201 = true
 ·subst c3
  have H1 : (if (l0_1.length : Int) ≤ 8 then ((impl_isAct.f a0_2 a0_3).bind fun t202 => (if t202 = true then ((impl_Term_69_impl_isClause_1.f l0_1).bind fun t203 => (some (!t203))) else (some false))) else (some false)) = some r := by rw [if_pos rfl] at H; exact H
  clear H; have H := H1; clear H1; by_cases c4 : (l0_1.length : Int) ≤ 8
  ·rw [if_pos c4] at H; have c4b0 : decide ((l0_1.length : Int) ≤ 8) = true := decide_eq_true c4; have c4b1 : decide (l0_1.length ≤ 8) = true := decide_eq_true (by omega); clear c4; replace H := Option.bind_eq_some_iff.mp H; obtain ⟨t202, A50, H⟩ := H; replace H : (if t202 = true then ((impl_Term_69_impl_isClause_1.f l0_1).bind fun t203 => (some (!t203))) else (some false)) = some r := H; have A5 := Aside0.mk A50; clear A50; by_cases c6 : t202 = true
   ·subst c6
    have H1 : ((impl_Term_69_impl_isClause_1.f l0_1).bind fun t203 => (some (!t203))) = some r := by rw [if_pos rfl] at H; exact H
    clear H; have H := H1; clear H1; replace H := Option.bind_eq_some_iff.mp H; obtain ⟨t203, A70, H⟩ := H; replace H : (some (!t203)) = some r := H; have A7 := Aside0.mk A70; clear A70; obtain rfl := Option.some.inj H; go_enter Try.func36, Try.ntmps36
    go_wp2_with (first | ((with_reducible refine gate_dst (N := 1) rfl ?_); (try (refine gate_guard (by rfl) ?_; dsimp only)); refine box_event ?hg (N := 1) ?hd (cs := #[.string a0_0, .slice A0_1 l0_1.length c0_1, .int .i64 a0_2, .int .i64 a0_3]) (t := 32) ?hr ?_; (case hd => rfl); (case hg => rfl); (case hr => first | (go_simp; done) | (go_simp; rfl)); intro gb200 hg w8 hbox hb; have n0_ := Aside0.mk (below_step (qb HB) hb); have n1_ := Aside0.mk (hbox); have n2_ := Aside0.mk ((by rw [hg]; exact (below_size (qb HB)) : w.heap.size ≤ gb200)); have n3_ := Aside0.mk ((by rw [hg]; exact (below_size (qb HB)) : w.heap.size ≤ gb200)); clear HB; have HB := n0_; have BK200 := n1_; have GW200 := n2_; have GE200 := n3_; clear n0_ n1_ n2_ n3_; clear hb hbox hg; obtain ⟨hcz9_0, hcz9_1, hcz9_2, hcz9_3, hfz9_0, hfz9_1, hfz9_2, hfz9_3⟩ := bz4 BK200) | ((with_reducible refine gate_callee (f := 67) rfl ?_); refine goesL_ (some 5) rfl rfl Try.func67 (by kernel_rfl) rfl #[.string a0_0] rfl mq ?_; (with_reducible refine (impl_NameOK.calls k a0_0 true _ A2.out).mono ?_); rintro e w' ⟨rfl, ⟨nd, rfl⟩⟩; refine ⟨_, rfl, ?_⟩) | (go_at_call 68; (with_reducible refine (impl_isAct.calls a0_2 a0_3 true _ A5.out).mono ?_); rintro e w' ⟨rfl, ⟨nd, rfl⟩⟩) | (go_at_call 69; (with_reducible refine (impl_Term_69_impl_isClause_1.calls _ _ l0_1 t203 _ ?side1 ?side2 A7.out).mono ?_); (case side1 => repeat (first | exact (Kd.C_below HR0_1.out (qb HB)) | (with_reducible refine Kd.C_alloc ?_ _) | (with_reducible refine Kd.C_drewN ?_ _) | (with_reducible refine Kd.C_drew ?_))); (case side2 => exact HC0_1.out); rintro e w10 ⟨rfl, hb⟩; have n0_ := Aside0.mk (blk_below (bq BK200) hb); have n1_ := Aside0.mk (below_step (qb HB) hb); clear BK200; clear HB; have BK200 := n0_; have HB := n1_; clear n0_ n1_; (try clear hb); (try clear hb2); (try clear hk); (try clear hi)))
    go_ret; exact ⟨eqq, qb HB⟩
   ·replace c6 := Bool.eq_false_iff.mpr c6; subst c6
    have H1 : (some false) = some r := by rw [if_neg (show ¬ (false = true) by decide)] at H; exact H
    clear H; have H := H1; clear H1; obtain rfl := Option.some.inj H; go_enter Try.func36, Try.ntmps36
    go_wp2_with (first | ((with_reducible refine gate_dst (N := 1) rfl ?_); (try (refine gate_guard (by rfl) ?_; dsimp only)); refine box_event ?hg (N := 1) ?hd (cs := #[.string a0_0, .slice A0_1 l0_1.length c0_1, .int .i64 a0_2, .int .i64 a0_3]) (t := 32) ?hr ?_; (case hd => rfl); (case hg => rfl); (case hr => first | (go_simp; done) | (go_simp; rfl)); intro gb200 hg w11 hbox hb; have n0_ := Aside0.mk (below_step (qb HB) hb); have n1_ := Aside0.mk (hbox); have n2_ := Aside0.mk ((by rw [hg]; exact (below_size (qb HB)) : w.heap.size ≤ gb200)); have n3_ := Aside0.mk ((by rw [hg]; exact (below_size (qb HB)) : w.heap.size ≤ gb200)); clear HB; have HB := n0_; have BK200 := n1_; have GW200 := n2_; have GE200 := n3_; clear n0_ n1_ n2_ n3_; clear hb hbox hg; obtain ⟨hcz12_0, hcz12_1, hcz12_2, hcz12_3, hfz12_0, hfz12_1, hfz12_2, hfz12_3⟩ := bz4 BK200) | ((with_reducible refine gate_callee (f := 67) rfl ?_); refine goesL_ (some 5) rfl rfl Try.func67 (by kernel_rfl) rfl #[.string a0_0] rfl mq ?_; (with_reducible refine (impl_NameOK.calls k a0_0 true _ A2.out).mono ?_); rintro e w' ⟨rfl, ⟨nd, rfl⟩⟩; refine ⟨_, rfl, ?_⟩) | (go_at_call 68; (with_reducible refine (impl_isAct.calls a0_2 a0_3 false _ A5.out).mono ?_); rintro e w' ⟨rfl, ⟨nd, rfl⟩⟩))
    go_ret; exact ⟨eqq, qb HB⟩
  ·rw [if_neg c4] at H; have c4b0 : decide ((l0_1.length : Int) ≤ 8) = false := decide_eq_false c4; have c4b1 : decide (l0_1.length ≤ 8) = false := decide_eq_false (by omega); clear c4; obtain rfl := Option.some.inj H; go_enter Try.func36, Try.ntmps36
   go_wp2_with (first | ((with_reducible refine gate_dst (N := 1) rfl ?_); (try (refine gate_guard (by rfl) ?_; dsimp only)); refine box_event ?hg (N := 1) ?hd (cs := #[.string a0_0, .slice A0_1 l0_1.length c0_1, .int .i64 a0_2, .int .i64 a0_3]) (t := 32) ?hr ?_; (case hd => rfl); (case hg => rfl); (case hr => first | (go_simp; done) | (go_simp; rfl)); intro gb200 hg w13 hbox hb; have n0_ := Aside0.mk (below_step (qb HB) hb); have n1_ := Aside0.mk (hbox); have n2_ := Aside0.mk ((by rw [hg]; exact (below_size (qb HB)) : w.heap.size ≤ gb200)); have n3_ := Aside0.mk ((by rw [hg]; exact (below_size (qb HB)) : w.heap.size ≤ gb200)); clear HB; have HB := n0_; have BK200 := n1_; have GW200 := n2_; have GE200 := n3_; clear n0_ n1_ n2_ n3_; clear hb hbox hg; obtain ⟨hcz14_0, hcz14_1, hcz14_2, hcz14_3, hfz14_0, hfz14_1, hfz14_2, hfz14_3⟩ := bz4 BK200) | ((with_reducible refine gate_callee (f := 67) rfl ?_); refine goesL_ (some 5) rfl rfl Try.func67 (by kernel_rfl) rfl #[.string a0_0] rfl mq ?_; (with_reducible refine (impl_NameOK.calls k a0_0 true _ A2.out).mono ?_); rintro e w' ⟨rfl, ⟨nd, rfl⟩⟩; refine ⟨_, rfl, ?_⟩))
   go_ret; exact ⟨eqq, qb HB⟩
 ·replace c3 := Bool.eq_false_iff.mpr c3; subst c3
  have H1 : (some false) = some r := by rw [if_neg (show ¬ (false = true) by decide)] at H; exact H
  clear H; have H := H1; clear H1; obtain rfl := Option.some.inj H; go_enter Try.func36, Try.ntmps36
  go_wp2_with (first | ((with_reducible refine gate_dst (N := 1) rfl ?_); (try (refine gate_guard (by rfl) ?_; dsimp only)); refine box_event ?hg (N := 1) ?hd (cs := #[.string a0_0, .slice A0_1 l0_1.length c0_1, .int .i64 a0_2, .int .i64 a0_3]) (t := 32) ?hr ?_; (case hd => rfl); (case hg => rfl); (case hr => first | (go_simp; done) | (go_simp; rfl)); intro gb200 hg w15 hbox hb; have n0_ := Aside0.mk (below_step (qb HB) hb); have n1_ := Aside0.mk (hbox); have n2_ := Aside0.mk ((by rw [hg]; exact (below_size (qb HB)) : w.heap.size ≤ gb200)); have n3_ := Aside0.mk ((by rw [hg]; exact (below_size (qb HB)) : w.heap.size ≤ gb200)); clear HB; have HB := n0_; have BK200 := n1_; have GW200 := n2_; have GE200 := n3_; clear n0_ n1_ n2_ n3_; clear hb hbox hg; obtain ⟨hcz16_0, hcz16_1, hcz16_2, hcz16_3, hfz16_0, hfz16_1, hfz16_2, hfz16_3⟩ := bz4 BK200) | ((with_reducible refine gate_callee (f := 67) rfl ?_); refine goesL_ (some 5) rfl rfl Try.func67 (by kernel_rfl) rfl #[.string a0_0] rfl mq ?_; (with_reducible refine (impl_NameOK.calls k a0_0 false _ A2.out).mono ?_); rintro e w' ⟨rfl, ⟨nd, rfl⟩⟩; refine ⟨_, rfl, ?_⟩))
  go_ret; exact ⟨eqq, qb HB⟩

/-! ### impl_narrowed: function 38, by hand -/
/-- Bounds with one term more: the lower and the upper number of field f stand at 2 f and 2 f + 1. -/
def impl_narrowed.one (b : Nat → Int) (x : S59) : Nat → Int := fun i =>
 if i = 2 * x.f0.toNat ∧ x.f1 ≠ 2 then mx (b i) x.f2 else if i = 2 * x.f0.toNat + 1 ∧ x.f1 ≠ 1 then mn (b i) x.f2 else b i
def impl_narrowed.nC (b : Nat → Int) : Array Value := #[.int .i64 (b 0), .int .i64 (b 1), .int .i64 (b 2), .int .i64 (b 3), .int .i64 (b 4), .int .i64 (b 5), .int .i64 (b 6), .int .i64 (b 7), .int .i64 (b 8), .int .i64 (b 9), .int .i64 (b 10), .int .i64 (b 11)]
def impl_narrowed.go (b : Nat → Int) : List S59 → Nat → Int
 | [] => b
 | x :: xs => impl_narrowed.go (impl_narrowed.one b x) xs
set_option maxHeartbeats 8000000 in
set_option maxRecDepth 100000 in
theorem impl_narrowed.calls (b0 : Nat → Int) (A0 : Option Addr) (c0 : Nat) (l0 : List S59) (w : World) (hr0 : Kd.C k59 w A0 l0.length l0) (hc0 : l0.length ≤ c0) (ht : ∀ x ∈ l0, 1 ≤ x.f0 ∧ x.f0 ≤ 5) :
  Calls Try.prog 38 #[.agg #[.int .i64 (b0 0), .int .i64 (b0 1), .int .i64 (b0 2), .int .i64 (b0 3), .int .i64 (b0 4), .int .i64 (b0 5), .int .i64 (b0 6), .int .i64 (b0 7), .int .i64 (b0 8), .int .i64 (b0 9), .int .i64 (b0 10), .int .i64 (b0 11)], .slice A0 l0.length c0] w fun e w' => e = .returned (.agg #[.int .i64 ((impl_narrowed.go b0 l0) 0), .int .i64 ((impl_narrowed.go b0 l0) 1), .int .i64 ((impl_narrowed.go b0 l0) 2), .int .i64 ((impl_narrowed.go b0 l0) 3), .int .i64 ((impl_narrowed.go b0 l0) 4), .int .i64 ((impl_narrowed.go b0 l0) 5), .int .i64 ((impl_narrowed.go b0 l0) 6), .int .i64 ((impl_narrowed.go b0 l0) 7), .int .i64 ((impl_narrowed.go b0 l0) 8), .int .i64 ((impl_narrowed.go b0 l0) 9), .int .i64 ((impl_narrowed.go b0 l0) 10), .int .i64 ((impl_narrowed.go b0 l0) 11)]) ∧ Below w.heap.size w w' := by
 have HT := Aside0.mk ht; have HR := Aside0.mk hr0; have HC := Aside0.mk hc0; have hbig : l0.length ≤ 9223372036854775807 := hr0.2.1; clear ht hr0 hc0; go_enter Try.func38, Try.ntmps38; go_wp2; have B2 : Aside0 (Below w.heap.size w ((w.alloc (.cells #[.int .i64 (b0 0), .int .i64 (b0 1), .int .i64 (b0 2), .int .i64 (b0 3), .int .i64 (b0 4), .int .i64 (b0 5), .int .i64 (b0 6), .int .i64 (b0 7), .int .i64 (b0 8), .int .i64 (b0 9), .int .i64 (b0 10), .int .i64 (b0 11)] 71)).alloc (.cells #[.int .i64 0, .int .i64 0, .int .i64 0, .int .i64 0, .int .i64 0, .int .i64 0, .int .i64 0, .int .i64 0, .int .i64 0, .int .i64 0, .int .i64 0, .int .i64 0] 71))) := Aside0.mk (((Below.refl _ w).alloc (Nat.le_refl _) _).alloc (by simp) _); have b1 : Aside0 (((w.alloc (.cells #[.int .i64 (b0 0), .int .i64 (b0 1), .int .i64 (b0 2), .int .i64 (b0 3), .int .i64 (b0 4), .int .i64 (b0 5), .int .i64 (b0 6), .int .i64 (b0 7), .int .i64 (b0 8), .int .i64 (b0 9), .int .i64 (b0 10), .int .i64 (b0 11)] 71)).alloc (.cells #[.int .i64 0, .int .i64 0, .int .i64 0, .int .i64 0, .int .i64 0, .int .i64 0, .int .i64 0, .int .i64 0, .int .i64 0, .int .i64 0, .int .i64 0, .int .i64 0] 71)).heap[w.heap.size]? = some (.cells #[.int .i64 (b0 0), .int .i64 (b0 1), .int .i64 (b0 2), .int .i64 (b0 3), .int .i64 (b0 4), .int .i64 (b0 5), .int .i64 (b0 6), .int .i64 (b0 7), .int .i64 (b0 8), .int .i64 (b0 9), .int .i64 (b0 10), .int .i64 (b0 11)] 71 (0, 0))) := Aside0.mk (blk_alloc (blk_new w _) _); have b2 : Aside0 (((w.alloc (.cells #[.int .i64 (b0 0), .int .i64 (b0 1), .int .i64 (b0 2), .int .i64 (b0 3), .int .i64 (b0 4), .int .i64 (b0 5), .int .i64 (b0 6), .int .i64 (b0 7), .int .i64 (b0 8), .int .i64 (b0 9), .int .i64 (b0 10), .int .i64 (b0 11)] 71)).alloc (.cells #[.int .i64 0, .int .i64 0, .int .i64 0, .int .i64 0, .int .i64 0, .int .i64 0, .int .i64 0, .int .i64 0, .int .i64 0, .int .i64 0, .int .i64 0, .int .i64 0] 71)).heap[w.heap.size + 1]? = some (.cells #[.int .i64 0, .int .i64 0, .int .i64 0, .int .i64 0, .int .i64 0, .int .i64 0, .int .i64 0, .int .i64 0, .int .i64 0, .int .i64 0, .int .i64 0, .int .i64 0] 71 (0, 0))) := Aside0.mk (by simpa using blk_new (w.alloc (.cells #[.int .i64 (b0 0), .int .i64 (b0 1), .int .i64 (b0 2), .int .i64 (b0 3), .int .i64 (b0 4), .int .i64 (b0 5), .int .i64 (b0 6), .int .i64 (b0 7), .int .i64 (b0 8), .int .i64 (b0 9), .int .i64 (b0 10), .int .i64 (b0 11)] 71)) (.cells #[.int .i64 0, .int .i64 0, .int .i64 0, .int .i64 0, .int .i64 0, .int .i64 0, .int .i64 0, .int .i64 0, .int .i64 0, .int .i64 0, .int .i64 0, .int .i64 0] 71)); generalize (w.alloc (.cells #[.int .i64 (b0 0), .int .i64 (b0 1), .int .i64 (b0 2), .int .i64 (b0 3), .int .i64 (b0 4), .int .i64 (b0 5), .int .i64 (b0 6), .int .i64 (b0 7), .int .i64 (b0 8), .int .i64 (b0 9), .int .i64 (b0 10), .int .i64 (b0 11)] 71)).alloc (.cells #[.int .i64 0, .int .i64 0, .int .i64 0, .int .i64 0, .int .i64 0, .int .i64 0, .int .i64 0, .int .i64 0, .int .i64 0, .int .i64 0, .int .i64 0, .int .i64 0] 71) = w2 at *
 go_loopg [6, 7, 10] l0.length (fun gg _ _ s10 wr => ∃ (kk : Nat) (b : Nat → Int), kk ≤ l0.length ∧ l0.length - kk ≤ gg ∧ s10 = .int .i64 kk ∧ Aside0 (Below w.heap.size w wr) ∧ Aside0 (wr.heap[w.heap.size]? = some (.cells (impl_narrowed.nC b) 71 (0, 0))) ∧ Aside0 (wr.heap[w.heap.size + 1]? = some (.cells #[.int .i64 0, .int .i64 0, .int .i64 0, .int .i64 0, .int .i64 0, .int .i64 0, .int .i64 0, .int .i64 0, .int .i64 0, .int .i64 0, .int .i64 0, .int .i64 0] 71 (0, 0))) ∧ Aside0 (impl_narrowed.go b (l0.drop kk) = impl_narrowed.go b0 l0))
 case atStart => exact ⟨0, b0, by omega, by omega, rfl, ⟨B2.out⟩, ⟨b1.out⟩, ⟨b2.out⟩, ⟨rfl⟩⟩
 case round =>
  obtain ⟨kk, b, hkk, hg, rfl, BW, D1, D2, HF⟩ := hrel; by_cases hlt : kk < l0.length
  ·have hltz : (kk : Int) < (l0.length : Int) := by omega
   have hf := HF.out
   have hcons : l0.drop kk = rd_T59 l0 (kk : Int) :: l0.drop (kk + 1) := by
    rw [List.drop_eq_getElem_cons hlt]
    congr 1
    unfold rd_T59; rw [Int.toNat_natCast, List.getD_eq_getElem?_getD, List.getElem?_eq_getElem hlt]; rfl
   have hx := HT.out (rd_T59 l0 (kk : Int)) (List.mem_of_mem_drop (by rw [hcons]; exact List.mem_cons_self ..)); rw [hcons, impl_narrowed.go] at hf; clear hcons; obtain ⟨ad, rfl, hx0, hx1, hx2⟩ := at_T59 (Kd.C_below HR.out BW.out) (kk : Int) (by omega) hltz; simp only [Int.toNat_natCast] at hx0 hx1 hx2; generalize rd_T59 l0 (kk : Int) = x_ at *; obtain ⟨xf, xo, xn⟩ := x_; simp only at hx hx0 hx1 hx2; have HF2 := Aside0.mk hf; have HX := Aside0.mk hx; clear hf hx; have hgx : w.heap.size + 1 < wr.heap.size := blk_lt D2.out; have D1a := Aside0.mk (blk_alloc D1.out (.cells #[.int .i64 xf, .int .i64 xo, .int .i64 xn] 59)); have D2a := Aside0.mk (blk_alloc D2.out (.cells #[.int .i64 xf, .int .i64 xo, .int .i64 xn] 59)); have DX := Aside0.mk (blk_new wr (.cells #[.int .i64 xf, .int .i64 xo, .int .i64 xn] 59)); have BWa := Aside0.mk (BW.out.alloc BW.out.size (.cells #[.int .i64 xf, .int .i64 xo, .int .i64 xn] 59)); have hxc : 1 ≤ xf ∧ xf ≤ 5 := HX.out
   have hxf : xf = 1 ∨ xf = 2 ∨ xf = 3 ∨ xf = 4 ∨ xf = 5 := by omega
   clear hxc HX BW D1 D2
   rcases hxf with rfl | rfl | rfl | rfl | rfl
   ·by_cases o2 : xo = 2
    ·subst o2; have q2 : ((2 : Int) != 2) = false := rfl; have q1 : ((2 : Int) != 1) = true := rfl; have x1 : (wr.alloc (.cells #[.int .i64 1, .int .i64 2, .int .i64 xn] 59)).cell? ⟨wr.heap.size, 1, none⟩ = some (.int .i64 2) := (blk_cell DX.out 1).trans rfl; have x2 : (wr.alloc (.cells #[.int .i64 1, .int .i64 2, .int .i64 xn] 59)).cell? ⟨wr.heap.size, 2, none⟩ = some (.int .i64 xn) := (blk_cell DX.out 2).trans rfl; have EB := Aside0.mk (show (impl_narrowed.nC b).setIfInBounds 3 (.int .i64 (mn (b 3) xn)) = impl_narrowed.nC (impl_narrowed.one b ⟨1, 2, xn⟩) by simp [impl_narrowed.nC, impl_narrowed.one]); go_wp2; clear x1 x2; generalize wr.alloc (.cells #[.int .i64 1, .int .i64 2, .int .i64 xn] 59) = wn at *; generalize wr.heap.size = gx at *; have hlo : wn.cell? ⟨w.heap.size, 3, none⟩ = some (.int .i64 (b 3)) := (blk_cell D1a.out 3).trans rfl; have flo := blk_frozen D1a.out 3; have x2 : wn.cell? ⟨gx, 2, none⟩ = some (.int .i64 xn) := (blk_cell DX.out 2).trans rfl
     go_region
     rw [show (if xn < b 3 then xn else b 3) = mn (b 3) xn from rfl]; generalize hv : Value.int .i64 (mn (b 3) xn) = v at *; replace D1a := Aside0.mk (blk_drew (blk_set D1a.out 3 v)); replace D2a := Aside0.mk (blk_drew (blk_far D2a.out (p := ⟨w.heap.size, 3, none⟩) (fun e => Nat.succ_ne_self _ e) v)); replace BWa := Aside0.mk (below_drew1 (below_set (j := 3) (v := v) BWa.out (Nat.le_refl _))); clear hlo flo x2; generalize (wn.setCell ⟨w.heap.size, 3, none⟩ v).drew = wn at *; go_wp2
     go_roundg (l0.length - (kk + 1))
     case measure => omega
     case rel => exact ⟨kk + 1, impl_narrowed.one b ⟨1, 2, xn⟩, by omega, by omega, by go_num, ⟨BWa.out⟩, ⟨by rw [← EB.out]; exact D1a.out⟩, ⟨D2a.out⟩, ⟨HF2.out⟩⟩
    ·by_cases o1 : xo = 1
     ·subst o1; have q2 : ((1 : Int) != 2) = true := rfl; have q1 : ((1 : Int) != 1) = false := rfl; clear o2; have x1 : (wr.alloc (.cells #[.int .i64 1, .int .i64 1, .int .i64 xn] 59)).cell? ⟨wr.heap.size, 1, none⟩ = some (.int .i64 1) := (blk_cell DX.out 1).trans rfl; have x2 : (wr.alloc (.cells #[.int .i64 1, .int .i64 1, .int .i64 xn] 59)).cell? ⟨wr.heap.size, 2, none⟩ = some (.int .i64 xn) := (blk_cell DX.out 2).trans rfl; have EB := Aside0.mk (show (impl_narrowed.nC b).setIfInBounds 2 (.int .i64 (mx (b 2) xn)) = impl_narrowed.nC (impl_narrowed.one b ⟨1, 1, xn⟩) by simp [impl_narrowed.nC, impl_narrowed.one]); go_wp2; clear x1 x2; generalize wr.alloc (.cells #[.int .i64 1, .int .i64 1, .int .i64 xn] 59) = wn at *; generalize wr.heap.size = gx at *; have hlo : wn.cell? ⟨w.heap.size, 2, none⟩ = some (.int .i64 (b 2)) := (blk_cell D1a.out 2).trans rfl; have flo := blk_frozen D1a.out 2; have x2 : wn.cell? ⟨gx, 2, none⟩ = some (.int .i64 xn) := (blk_cell DX.out 2).trans rfl
      go_region
      rw [show (if b 2 < xn then xn else b 2) = mx (b 2) xn from rfl]; generalize hv : Value.int .i64 (mx (b 2) xn) = v at *; replace D1a := Aside0.mk (blk_drew (blk_set D1a.out 2 v)); replace D2a := Aside0.mk (blk_drew (blk_far D2a.out (p := ⟨w.heap.size, 2, none⟩) (fun e => Nat.succ_ne_self _ e) v)); replace DX := Aside0.mk (blk_drew (blk_far DX.out (p := ⟨w.heap.size, 2, none⟩) (show gx ≠ w.heap.size by omega) v)); replace BWa := Aside0.mk (below_drew1 (below_set (j := 2) (v := v) BWa.out (Nat.le_refl _))); clear hlo flo x2; generalize (wn.setCell ⟨w.heap.size, 2, none⟩ v).drew = wn at *; have x1 : wn.cell? ⟨gx, 1, none⟩ = some (.int .i64 1) := (blk_cell DX.out 1).trans rfl; go_wp2; clear x1
      go_roundg (l0.length - (kk + 1))
      case measure => omega
      case rel => exact ⟨kk + 1, impl_narrowed.one b ⟨1, 1, xn⟩, by omega, by omega, by go_num, ⟨BWa.out⟩, ⟨by rw [← EB.out]; exact D1a.out⟩, ⟨D2a.out⟩, ⟨HF2.out⟩⟩
     ·have q2 : (xo != 2) = true := bne_iff_ne.mpr o2; have q1 : (xo != 1) = true := bne_iff_ne.mpr o1; have x1 : (wr.alloc (.cells #[.int .i64 1, .int .i64 xo, .int .i64 xn] 59)).cell? ⟨wr.heap.size, 1, none⟩ = some (.int .i64 xo) := (blk_cell DX.out 1).trans rfl; have x2 : (wr.alloc (.cells #[.int .i64 1, .int .i64 xo, .int .i64 xn] 59)).cell? ⟨wr.heap.size, 2, none⟩ = some (.int .i64 xn) := (blk_cell DX.out 2).trans rfl; have EB := Aside0.mk (show ((impl_narrowed.nC b).setIfInBounds 2 (.int .i64 (mx (b 2) xn))).setIfInBounds 3 (.int .i64 (mn (b 3) xn)) = impl_narrowed.nC (impl_narrowed.one b ⟨1, xo, xn⟩) by simp [impl_narrowed.nC, impl_narrowed.one, o1, o2]); clear o1 o2; go_wp2; clear x1 x2; generalize wr.alloc (.cells #[.int .i64 1, .int .i64 xo, .int .i64 xn] 59) = wn at *; generalize wr.heap.size = gx at *; have hlo : wn.cell? ⟨w.heap.size, 2, none⟩ = some (.int .i64 (b 2)) := (blk_cell D1a.out 2).trans rfl; have flo := blk_frozen D1a.out 2; have x2 : wn.cell? ⟨gx, 2, none⟩ = some (.int .i64 xn) := (blk_cell DX.out 2).trans rfl
      go_region
      rw [show (if b 2 < xn then xn else b 2) = mx (b 2) xn from rfl]; generalize hv : Value.int .i64 (mx (b 2) xn) = v at *; replace D1a := Aside0.mk (blk_drew (blk_set D1a.out 2 v)); replace D2a := Aside0.mk (blk_drew (blk_far D2a.out (p := ⟨w.heap.size, 2, none⟩) (fun e => Nat.succ_ne_self _ e) v)); replace DX := Aside0.mk (blk_drew (blk_far DX.out (p := ⟨w.heap.size, 2, none⟩) (show gx ≠ w.heap.size by omega) v)); replace BWa := Aside0.mk (below_drew1 (below_set (j := 2) (v := v) BWa.out (Nat.le_refl _))); clear hlo flo x2; generalize (wn.setCell ⟨w.heap.size, 2, none⟩ v).drew = wn at *; have x1 : wn.cell? ⟨gx, 1, none⟩ = some (.int .i64 xo) := (blk_cell DX.out 1).trans rfl; go_wp2; clear x1; have hlo : wn.cell? ⟨w.heap.size, 3, none⟩ = some (.int .i64 (b 3)) := (blk_cell D1a.out 3).trans rfl; have flo := blk_frozen D1a.out 3; have x2 : wn.cell? ⟨gx, 2, none⟩ = some (.int .i64 xn) := (blk_cell DX.out 2).trans rfl
      go_region
      rw [show (if xn < b 3 then xn else b 3) = mn (b 3) xn from rfl]; generalize hv : Value.int .i64 (mn (b 3) xn) = v at *; replace D1a := Aside0.mk (blk_drew (blk_set D1a.out 3 v)); replace D2a := Aside0.mk (blk_drew (blk_far D2a.out (p := ⟨w.heap.size, 3, none⟩) (fun e => Nat.succ_ne_self _ e) v)); replace BWa := Aside0.mk (below_drew1 (below_set (j := 3) (v := v) BWa.out (Nat.le_refl _))); clear hlo flo x2; generalize (wn.setCell ⟨w.heap.size, 3, none⟩ v).drew = wn at *; go_wp2
      go_roundg (l0.length - (kk + 1))
      case measure => omega
      case rel => exact ⟨kk + 1, impl_narrowed.one b ⟨1, xo, xn⟩, by omega, by omega, by go_num, ⟨BWa.out⟩, ⟨by rw [← EB.out]; exact D1a.out⟩, ⟨D2a.out⟩, ⟨HF2.out⟩⟩
   ·by_cases o2 : xo = 2
    ·subst o2; have q2 : ((2 : Int) != 2) = false := rfl; have q1 : ((2 : Int) != 1) = true := rfl; have x1 : (wr.alloc (.cells #[.int .i64 2, .int .i64 2, .int .i64 xn] 59)).cell? ⟨wr.heap.size, 1, none⟩ = some (.int .i64 2) := (blk_cell DX.out 1).trans rfl; have x2 : (wr.alloc (.cells #[.int .i64 2, .int .i64 2, .int .i64 xn] 59)).cell? ⟨wr.heap.size, 2, none⟩ = some (.int .i64 xn) := (blk_cell DX.out 2).trans rfl; have EB := Aside0.mk (show (impl_narrowed.nC b).setIfInBounds 5 (.int .i64 (mn (b 5) xn)) = impl_narrowed.nC (impl_narrowed.one b ⟨2, 2, xn⟩) by simp [impl_narrowed.nC, impl_narrowed.one]); go_wp2; clear x1 x2; generalize wr.alloc (.cells #[.int .i64 2, .int .i64 2, .int .i64 xn] 59) = wn at *; generalize wr.heap.size = gx at *; have hlo : wn.cell? ⟨w.heap.size, 5, none⟩ = some (.int .i64 (b 5)) := (blk_cell D1a.out 5).trans rfl; have flo := blk_frozen D1a.out 5; have x2 : wn.cell? ⟨gx, 2, none⟩ = some (.int .i64 xn) := (blk_cell DX.out 2).trans rfl
     go_region
     rw [show (if xn < b 5 then xn else b 5) = mn (b 5) xn from rfl]; generalize hv : Value.int .i64 (mn (b 5) xn) = v at *; replace D1a := Aside0.mk (blk_drew (blk_set D1a.out 5 v)); replace D2a := Aside0.mk (blk_drew (blk_far D2a.out (p := ⟨w.heap.size, 5, none⟩) (fun e => Nat.succ_ne_self _ e) v)); replace BWa := Aside0.mk (below_drew1 (below_set (j := 5) (v := v) BWa.out (Nat.le_refl _))); clear hlo flo x2; generalize (wn.setCell ⟨w.heap.size, 5, none⟩ v).drew = wn at *; go_wp2
     go_roundg (l0.length - (kk + 1))
     case measure => omega
     case rel => exact ⟨kk + 1, impl_narrowed.one b ⟨2, 2, xn⟩, by omega, by omega, by go_num, ⟨BWa.out⟩, ⟨by rw [← EB.out]; exact D1a.out⟩, ⟨D2a.out⟩, ⟨HF2.out⟩⟩
    ·by_cases o1 : xo = 1
     ·subst o1; have q2 : ((1 : Int) != 2) = true := rfl; have q1 : ((1 : Int) != 1) = false := rfl; clear o2; have x1 : (wr.alloc (.cells #[.int .i64 2, .int .i64 1, .int .i64 xn] 59)).cell? ⟨wr.heap.size, 1, none⟩ = some (.int .i64 1) := (blk_cell DX.out 1).trans rfl; have x2 : (wr.alloc (.cells #[.int .i64 2, .int .i64 1, .int .i64 xn] 59)).cell? ⟨wr.heap.size, 2, none⟩ = some (.int .i64 xn) := (blk_cell DX.out 2).trans rfl; have EB := Aside0.mk (show (impl_narrowed.nC b).setIfInBounds 4 (.int .i64 (mx (b 4) xn)) = impl_narrowed.nC (impl_narrowed.one b ⟨2, 1, xn⟩) by simp [impl_narrowed.nC, impl_narrowed.one]); go_wp2; clear x1 x2; generalize wr.alloc (.cells #[.int .i64 2, .int .i64 1, .int .i64 xn] 59) = wn at *; generalize wr.heap.size = gx at *; have hlo : wn.cell? ⟨w.heap.size, 4, none⟩ = some (.int .i64 (b 4)) := (blk_cell D1a.out 4).trans rfl; have flo := blk_frozen D1a.out 4; have x2 : wn.cell? ⟨gx, 2, none⟩ = some (.int .i64 xn) := (blk_cell DX.out 2).trans rfl
      go_region
      rw [show (if b 4 < xn then xn else b 4) = mx (b 4) xn from rfl]; generalize hv : Value.int .i64 (mx (b 4) xn) = v at *; replace D1a := Aside0.mk (blk_drew (blk_set D1a.out 4 v)); replace D2a := Aside0.mk (blk_drew (blk_far D2a.out (p := ⟨w.heap.size, 4, none⟩) (fun e => Nat.succ_ne_self _ e) v)); replace DX := Aside0.mk (blk_drew (blk_far DX.out (p := ⟨w.heap.size, 4, none⟩) (show gx ≠ w.heap.size by omega) v)); replace BWa := Aside0.mk (below_drew1 (below_set (j := 4) (v := v) BWa.out (Nat.le_refl _))); clear hlo flo x2; generalize (wn.setCell ⟨w.heap.size, 4, none⟩ v).drew = wn at *; have x1 : wn.cell? ⟨gx, 1, none⟩ = some (.int .i64 1) := (blk_cell DX.out 1).trans rfl; go_wp2; clear x1
      go_roundg (l0.length - (kk + 1))
      case measure => omega
      case rel => exact ⟨kk + 1, impl_narrowed.one b ⟨2, 1, xn⟩, by omega, by omega, by go_num, ⟨BWa.out⟩, ⟨by rw [← EB.out]; exact D1a.out⟩, ⟨D2a.out⟩, ⟨HF2.out⟩⟩
     ·have q2 : (xo != 2) = true := bne_iff_ne.mpr o2; have q1 : (xo != 1) = true := bne_iff_ne.mpr o1; have x1 : (wr.alloc (.cells #[.int .i64 2, .int .i64 xo, .int .i64 xn] 59)).cell? ⟨wr.heap.size, 1, none⟩ = some (.int .i64 xo) := (blk_cell DX.out 1).trans rfl; have x2 : (wr.alloc (.cells #[.int .i64 2, .int .i64 xo, .int .i64 xn] 59)).cell? ⟨wr.heap.size, 2, none⟩ = some (.int .i64 xn) := (blk_cell DX.out 2).trans rfl; have EB := Aside0.mk (show ((impl_narrowed.nC b).setIfInBounds 4 (.int .i64 (mx (b 4) xn))).setIfInBounds 5 (.int .i64 (mn (b 5) xn)) = impl_narrowed.nC (impl_narrowed.one b ⟨2, xo, xn⟩) by simp [impl_narrowed.nC, impl_narrowed.one, o1, o2]); clear o1 o2; go_wp2; clear x1 x2; generalize wr.alloc (.cells #[.int .i64 2, .int .i64 xo, .int .i64 xn] 59) = wn at *; generalize wr.heap.size = gx at *; have hlo : wn.cell? ⟨w.heap.size, 4, none⟩ = some (.int .i64 (b 4)) := (blk_cell D1a.out 4).trans rfl; have flo := blk_frozen D1a.out 4; have x2 : wn.cell? ⟨gx, 2, none⟩ = some (.int .i64 xn) := (blk_cell DX.out 2).trans rfl
      go_region
      rw [show (if b 4 < xn then xn else b 4) = mx (b 4) xn from rfl]; generalize hv : Value.int .i64 (mx (b 4) xn) = v at *; replace D1a := Aside0.mk (blk_drew (blk_set D1a.out 4 v)); replace D2a := Aside0.mk (blk_drew (blk_far D2a.out (p := ⟨w.heap.size, 4, none⟩) (fun e => Nat.succ_ne_self _ e) v)); replace DX := Aside0.mk (blk_drew (blk_far DX.out (p := ⟨w.heap.size, 4, none⟩) (show gx ≠ w.heap.size by omega) v)); replace BWa := Aside0.mk (below_drew1 (below_set (j := 4) (v := v) BWa.out (Nat.le_refl _))); clear hlo flo x2; generalize (wn.setCell ⟨w.heap.size, 4, none⟩ v).drew = wn at *; have x1 : wn.cell? ⟨gx, 1, none⟩ = some (.int .i64 xo) := (blk_cell DX.out 1).trans rfl; go_wp2; clear x1; have hlo : wn.cell? ⟨w.heap.size, 5, none⟩ = some (.int .i64 (b 5)) := (blk_cell D1a.out 5).trans rfl; have flo := blk_frozen D1a.out 5; have x2 : wn.cell? ⟨gx, 2, none⟩ = some (.int .i64 xn) := (blk_cell DX.out 2).trans rfl
      go_region
      rw [show (if xn < b 5 then xn else b 5) = mn (b 5) xn from rfl]; generalize hv : Value.int .i64 (mn (b 5) xn) = v at *; replace D1a := Aside0.mk (blk_drew (blk_set D1a.out 5 v)); replace D2a := Aside0.mk (blk_drew (blk_far D2a.out (p := ⟨w.heap.size, 5, none⟩) (fun e => Nat.succ_ne_self _ e) v)); replace BWa := Aside0.mk (below_drew1 (below_set (j := 5) (v := v) BWa.out (Nat.le_refl _))); clear hlo flo x2; generalize (wn.setCell ⟨w.heap.size, 5, none⟩ v).drew = wn at *; go_wp2
      go_roundg (l0.length - (kk + 1))
      case measure => omega
      case rel => exact ⟨kk + 1, impl_narrowed.one b ⟨2, xo, xn⟩, by omega, by omega, by go_num, ⟨BWa.out⟩, ⟨by rw [← EB.out]; exact D1a.out⟩, ⟨D2a.out⟩, ⟨HF2.out⟩⟩
   ·by_cases o2 : xo = 2
    ·subst o2; have q2 : ((2 : Int) != 2) = false := rfl; have q1 : ((2 : Int) != 1) = true := rfl; have x1 : (wr.alloc (.cells #[.int .i64 3, .int .i64 2, .int .i64 xn] 59)).cell? ⟨wr.heap.size, 1, none⟩ = some (.int .i64 2) := (blk_cell DX.out 1).trans rfl; have x2 : (wr.alloc (.cells #[.int .i64 3, .int .i64 2, .int .i64 xn] 59)).cell? ⟨wr.heap.size, 2, none⟩ = some (.int .i64 xn) := (blk_cell DX.out 2).trans rfl; have EB := Aside0.mk (show (impl_narrowed.nC b).setIfInBounds 7 (.int .i64 (mn (b 7) xn)) = impl_narrowed.nC (impl_narrowed.one b ⟨3, 2, xn⟩) by simp [impl_narrowed.nC, impl_narrowed.one]); go_wp2; clear x1 x2; generalize wr.alloc (.cells #[.int .i64 3, .int .i64 2, .int .i64 xn] 59) = wn at *; generalize wr.heap.size = gx at *; have hlo : wn.cell? ⟨w.heap.size, 7, none⟩ = some (.int .i64 (b 7)) := (blk_cell D1a.out 7).trans rfl; have flo := blk_frozen D1a.out 7; have x2 : wn.cell? ⟨gx, 2, none⟩ = some (.int .i64 xn) := (blk_cell DX.out 2).trans rfl
     go_region
     rw [show (if xn < b 7 then xn else b 7) = mn (b 7) xn from rfl]; generalize hv : Value.int .i64 (mn (b 7) xn) = v at *; replace D1a := Aside0.mk (blk_drew (blk_set D1a.out 7 v)); replace D2a := Aside0.mk (blk_drew (blk_far D2a.out (p := ⟨w.heap.size, 7, none⟩) (fun e => Nat.succ_ne_self _ e) v)); replace BWa := Aside0.mk (below_drew1 (below_set (j := 7) (v := v) BWa.out (Nat.le_refl _))); clear hlo flo x2; generalize (wn.setCell ⟨w.heap.size, 7, none⟩ v).drew = wn at *; go_wp2
     go_roundg (l0.length - (kk + 1))
     case measure => omega
     case rel => exact ⟨kk + 1, impl_narrowed.one b ⟨3, 2, xn⟩, by omega, by omega, by go_num, ⟨BWa.out⟩, ⟨by rw [← EB.out]; exact D1a.out⟩, ⟨D2a.out⟩, ⟨HF2.out⟩⟩
    ·by_cases o1 : xo = 1
     ·subst o1; have q2 : ((1 : Int) != 2) = true := rfl; have q1 : ((1 : Int) != 1) = false := rfl; clear o2; have x1 : (wr.alloc (.cells #[.int .i64 3, .int .i64 1, .int .i64 xn] 59)).cell? ⟨wr.heap.size, 1, none⟩ = some (.int .i64 1) := (blk_cell DX.out 1).trans rfl; have x2 : (wr.alloc (.cells #[.int .i64 3, .int .i64 1, .int .i64 xn] 59)).cell? ⟨wr.heap.size, 2, none⟩ = some (.int .i64 xn) := (blk_cell DX.out 2).trans rfl; have EB := Aside0.mk (show (impl_narrowed.nC b).setIfInBounds 6 (.int .i64 (mx (b 6) xn)) = impl_narrowed.nC (impl_narrowed.one b ⟨3, 1, xn⟩) by simp [impl_narrowed.nC, impl_narrowed.one]); go_wp2; clear x1 x2; generalize wr.alloc (.cells #[.int .i64 3, .int .i64 1, .int .i64 xn] 59) = wn at *; generalize wr.heap.size = gx at *; have hlo : wn.cell? ⟨w.heap.size, 6, none⟩ = some (.int .i64 (b 6)) := (blk_cell D1a.out 6).trans rfl; have flo := blk_frozen D1a.out 6; have x2 : wn.cell? ⟨gx, 2, none⟩ = some (.int .i64 xn) := (blk_cell DX.out 2).trans rfl
      go_region
      rw [show (if b 6 < xn then xn else b 6) = mx (b 6) xn from rfl]; generalize hv : Value.int .i64 (mx (b 6) xn) = v at *; replace D1a := Aside0.mk (blk_drew (blk_set D1a.out 6 v)); replace D2a := Aside0.mk (blk_drew (blk_far D2a.out (p := ⟨w.heap.size, 6, none⟩) (fun e => Nat.succ_ne_self _ e) v)); replace DX := Aside0.mk (blk_drew (blk_far DX.out (p := ⟨w.heap.size, 6, none⟩) (show gx ≠ w.heap.size by omega) v)); replace BWa := Aside0.mk (below_drew1 (below_set (j := 6) (v := v) BWa.out (Nat.le_refl _))); clear hlo flo x2; generalize (wn.setCell ⟨w.heap.size, 6, none⟩ v).drew = wn at *; have x1 : wn.cell? ⟨gx, 1, none⟩ = some (.int .i64 1) := (blk_cell DX.out 1).trans rfl; go_wp2; clear x1
      go_roundg (l0.length - (kk + 1))
      case measure => omega
      case rel => exact ⟨kk + 1, impl_narrowed.one b ⟨3, 1, xn⟩, by omega, by omega, by go_num, ⟨BWa.out⟩, ⟨by rw [← EB.out]; exact D1a.out⟩, ⟨D2a.out⟩, ⟨HF2.out⟩⟩
     ·have q2 : (xo != 2) = true := bne_iff_ne.mpr o2; have q1 : (xo != 1) = true := bne_iff_ne.mpr o1; have x1 : (wr.alloc (.cells #[.int .i64 3, .int .i64 xo, .int .i64 xn] 59)).cell? ⟨wr.heap.size, 1, none⟩ = some (.int .i64 xo) := (blk_cell DX.out 1).trans rfl; have x2 : (wr.alloc (.cells #[.int .i64 3, .int .i64 xo, .int .i64 xn] 59)).cell? ⟨wr.heap.size, 2, none⟩ = some (.int .i64 xn) := (blk_cell DX.out 2).trans rfl; have EB := Aside0.mk (show ((impl_narrowed.nC b).setIfInBounds 6 (.int .i64 (mx (b 6) xn))).setIfInBounds 7 (.int .i64 (mn (b 7) xn)) = impl_narrowed.nC (impl_narrowed.one b ⟨3, xo, xn⟩) by simp [impl_narrowed.nC, impl_narrowed.one, o1, o2]); clear o1 o2; go_wp2; clear x1 x2; generalize wr.alloc (.cells #[.int .i64 3, .int .i64 xo, .int .i64 xn] 59) = wn at *; generalize wr.heap.size = gx at *; have hlo : wn.cell? ⟨w.heap.size, 6, none⟩ = some (.int .i64 (b 6)) := (blk_cell D1a.out 6).trans rfl; have flo := blk_frozen D1a.out 6; have x2 : wn.cell? ⟨gx, 2, none⟩ = some (.int .i64 xn) := (blk_cell DX.out 2).trans rfl
      go_region
      rw [show (if b 6 < xn then xn else b 6) = mx (b 6) xn from rfl]; generalize hv : Value.int .i64 (mx (b 6) xn) = v at *; replace D1a := Aside0.mk (blk_drew (blk_set D1a.out 6 v)); replace D2a := Aside0.mk (blk_drew (blk_far D2a.out (p := ⟨w.heap.size, 6, none⟩) (fun e => Nat.succ_ne_self _ e) v)); replace DX := Aside0.mk (blk_drew (blk_far DX.out (p := ⟨w.heap.size, 6, none⟩) (show gx ≠ w.heap.size by omega) v)); replace BWa := Aside0.mk (below_drew1 (below_set (j := 6) (v := v) BWa.out (Nat.le_refl _))); clear hlo flo x2; generalize (wn.setCell ⟨w.heap.size, 6, none⟩ v).drew = wn at *; have x1 : wn.cell? ⟨gx, 1, none⟩ = some (.int .i64 xo) := (blk_cell DX.out 1).trans rfl; go_wp2; clear x1; have hlo : wn.cell? ⟨w.heap.size, 7, none⟩ = some (.int .i64 (b 7)) := (blk_cell D1a.out 7).trans rfl; have flo := blk_frozen D1a.out 7; have x2 : wn.cell? ⟨gx, 2, none⟩ = some (.int .i64 xn) := (blk_cell DX.out 2).trans rfl
      go_region
      rw [show (if xn < b 7 then xn else b 7) = mn (b 7) xn from rfl]; generalize hv : Value.int .i64 (mn (b 7) xn) = v at *; replace D1a := Aside0.mk (blk_drew (blk_set D1a.out 7 v)); replace D2a := Aside0.mk (blk_drew (blk_far D2a.out (p := ⟨w.heap.size, 7, none⟩) (fun e => Nat.succ_ne_self _ e) v)); replace BWa := Aside0.mk (below_drew1 (below_set (j := 7) (v := v) BWa.out (Nat.le_refl _))); clear hlo flo x2; generalize (wn.setCell ⟨w.heap.size, 7, none⟩ v).drew = wn at *; go_wp2
      go_roundg (l0.length - (kk + 1))
      case measure => omega
      case rel => exact ⟨kk + 1, impl_narrowed.one b ⟨3, xo, xn⟩, by omega, by omega, by go_num, ⟨BWa.out⟩, ⟨by rw [← EB.out]; exact D1a.out⟩, ⟨D2a.out⟩, ⟨HF2.out⟩⟩
   ·by_cases o2 : xo = 2
    ·subst o2; have q2 : ((2 : Int) != 2) = false := rfl; have q1 : ((2 : Int) != 1) = true := rfl; have x1 : (wr.alloc (.cells #[.int .i64 4, .int .i64 2, .int .i64 xn] 59)).cell? ⟨wr.heap.size, 1, none⟩ = some (.int .i64 2) := (blk_cell DX.out 1).trans rfl; have x2 : (wr.alloc (.cells #[.int .i64 4, .int .i64 2, .int .i64 xn] 59)).cell? ⟨wr.heap.size, 2, none⟩ = some (.int .i64 xn) := (blk_cell DX.out 2).trans rfl; have EB := Aside0.mk (show (impl_narrowed.nC b).setIfInBounds 9 (.int .i64 (mn (b 9) xn)) = impl_narrowed.nC (impl_narrowed.one b ⟨4, 2, xn⟩) by simp [impl_narrowed.nC, impl_narrowed.one]); go_wp2; clear x1 x2; generalize wr.alloc (.cells #[.int .i64 4, .int .i64 2, .int .i64 xn] 59) = wn at *; generalize wr.heap.size = gx at *; have hlo : wn.cell? ⟨w.heap.size, 9, none⟩ = some (.int .i64 (b 9)) := (blk_cell D1a.out 9).trans rfl; have flo := blk_frozen D1a.out 9; have x2 : wn.cell? ⟨gx, 2, none⟩ = some (.int .i64 xn) := (blk_cell DX.out 2).trans rfl
     go_region
     rw [show (if xn < b 9 then xn else b 9) = mn (b 9) xn from rfl]; generalize hv : Value.int .i64 (mn (b 9) xn) = v at *; replace D1a := Aside0.mk (blk_drew (blk_set D1a.out 9 v)); replace D2a := Aside0.mk (blk_drew (blk_far D2a.out (p := ⟨w.heap.size, 9, none⟩) (fun e => Nat.succ_ne_self _ e) v)); replace BWa := Aside0.mk (below_drew1 (below_set (j := 9) (v := v) BWa.out (Nat.le_refl _))); clear hlo flo x2; generalize (wn.setCell ⟨w.heap.size, 9, none⟩ v).drew = wn at *; go_wp2
     go_roundg (l0.length - (kk + 1))
     case measure => omega
     case rel => exact ⟨kk + 1, impl_narrowed.one b ⟨4, 2, xn⟩, by omega, by omega, by go_num, ⟨BWa.out⟩, ⟨by rw [← EB.out]; exact D1a.out⟩, ⟨D2a.out⟩, ⟨HF2.out⟩⟩
    ·by_cases o1 : xo = 1
     ·subst o1; have q2 : ((1 : Int) != 2) = true := rfl; have q1 : ((1 : Int) != 1) = false := rfl; clear o2; have x1 : (wr.alloc (.cells #[.int .i64 4, .int .i64 1, .int .i64 xn] 59)).cell? ⟨wr.heap.size, 1, none⟩ = some (.int .i64 1) := (blk_cell DX.out 1).trans rfl; have x2 : (wr.alloc (.cells #[.int .i64 4, .int .i64 1, .int .i64 xn] 59)).cell? ⟨wr.heap.size, 2, none⟩ = some (.int .i64 xn) := (blk_cell DX.out 2).trans rfl; have EB := Aside0.mk (show (impl_narrowed.nC b).setIfInBounds 8 (.int .i64 (mx (b 8) xn)) = impl_narrowed.nC (impl_narrowed.one b ⟨4, 1, xn⟩) by simp [impl_narrowed.nC, impl_narrowed.one]); go_wp2; clear x1 x2; generalize wr.alloc (.cells #[.int .i64 4, .int .i64 1, .int .i64 xn] 59) = wn at *; generalize wr.heap.size = gx at *; have hlo : wn.cell? ⟨w.heap.size, 8, none⟩ = some (.int .i64 (b 8)) := (blk_cell D1a.out 8).trans rfl; have flo := blk_frozen D1a.out 8; have x2 : wn.cell? ⟨gx, 2, none⟩ = some (.int .i64 xn) := (blk_cell DX.out 2).trans rfl
      go_region
      rw [show (if b 8 < xn then xn else b 8) = mx (b 8) xn from rfl]; generalize hv : Value.int .i64 (mx (b 8) xn) = v at *; replace D1a := Aside0.mk (blk_drew (blk_set D1a.out 8 v)); replace D2a := Aside0.mk (blk_drew (blk_far D2a.out (p := ⟨w.heap.size, 8, none⟩) (fun e => Nat.succ_ne_self _ e) v)); replace DX := Aside0.mk (blk_drew (blk_far DX.out (p := ⟨w.heap.size, 8, none⟩) (show gx ≠ w.heap.size by omega) v)); replace BWa := Aside0.mk (below_drew1 (below_set (j := 8) (v := v) BWa.out (Nat.le_refl _))); clear hlo flo x2; generalize (wn.setCell ⟨w.heap.size, 8, none⟩ v).drew = wn at *; have x1 : wn.cell? ⟨gx, 1, none⟩ = some (.int .i64 1) := (blk_cell DX.out 1).trans rfl; go_wp2; clear x1
      go_roundg (l0.length - (kk + 1))
      case measure => omega
      case rel => exact ⟨kk + 1, impl_narrowed.one b ⟨4, 1, xn⟩, by omega, by omega, by go_num, ⟨BWa.out⟩, ⟨by rw [← EB.out]; exact D1a.out⟩, ⟨D2a.out⟩, ⟨HF2.out⟩⟩
     ·have q2 : (xo != 2) = true := bne_iff_ne.mpr o2; have q1 : (xo != 1) = true := bne_iff_ne.mpr o1; have x1 : (wr.alloc (.cells #[.int .i64 4, .int .i64 xo, .int .i64 xn] 59)).cell? ⟨wr.heap.size, 1, none⟩ = some (.int .i64 xo) := (blk_cell DX.out 1).trans rfl; have x2 : (wr.alloc (.cells #[.int .i64 4, .int .i64 xo, .int .i64 xn] 59)).cell? ⟨wr.heap.size, 2, none⟩ = some (.int .i64 xn) := (blk_cell DX.out 2).trans rfl; have EB := Aside0.mk (show ((impl_narrowed.nC b).setIfInBounds 8 (.int .i64 (mx (b 8) xn))).setIfInBounds 9 (.int .i64 (mn (b 9) xn)) = impl_narrowed.nC (impl_narrowed.one b ⟨4, xo, xn⟩) by simp [impl_narrowed.nC, impl_narrowed.one, o1, o2]); clear o1 o2; go_wp2; clear x1 x2; generalize wr.alloc (.cells #[.int .i64 4, .int .i64 xo, .int .i64 xn] 59) = wn at *; generalize wr.heap.size = gx at *; have hlo : wn.cell? ⟨w.heap.size, 8, none⟩ = some (.int .i64 (b 8)) := (blk_cell D1a.out 8).trans rfl; have flo := blk_frozen D1a.out 8; have x2 : wn.cell? ⟨gx, 2, none⟩ = some (.int .i64 xn) := (blk_cell DX.out 2).trans rfl
      go_region
      rw [show (if b 8 < xn then xn else b 8) = mx (b 8) xn from rfl]; generalize hv : Value.int .i64 (mx (b 8) xn) = v at *; replace D1a := Aside0.mk (blk_drew (blk_set D1a.out 8 v)); replace D2a := Aside0.mk (blk_drew (blk_far D2a.out (p := ⟨w.heap.size, 8, none⟩) (fun e => Nat.succ_ne_self _ e) v)); replace DX := Aside0.mk (blk_drew (blk_far DX.out (p := ⟨w.heap.size, 8, none⟩) (show gx ≠ w.heap.size by omega) v)); replace BWa := Aside0.mk (below_drew1 (below_set (j := 8) (v := v) BWa.out (Nat.le_refl _))); clear hlo flo x2; generalize (wn.setCell ⟨w.heap.size, 8, none⟩ v).drew = wn at *; have x1 : wn.cell? ⟨gx, 1, none⟩ = some (.int .i64 xo) := (blk_cell DX.out 1).trans rfl; go_wp2; clear x1; have hlo : wn.cell? ⟨w.heap.size, 9, none⟩ = some (.int .i64 (b 9)) := (blk_cell D1a.out 9).trans rfl; have flo := blk_frozen D1a.out 9; have x2 : wn.cell? ⟨gx, 2, none⟩ = some (.int .i64 xn) := (blk_cell DX.out 2).trans rfl
      go_region
      rw [show (if xn < b 9 then xn else b 9) = mn (b 9) xn from rfl]; generalize hv : Value.int .i64 (mn (b 9) xn) = v at *; replace D1a := Aside0.mk (blk_drew (blk_set D1a.out 9 v)); replace D2a := Aside0.mk (blk_drew (blk_far D2a.out (p := ⟨w.heap.size, 9, none⟩) (fun e => Nat.succ_ne_self _ e) v)); replace BWa := Aside0.mk (below_drew1 (below_set (j := 9) (v := v) BWa.out (Nat.le_refl _))); clear hlo flo x2; generalize (wn.setCell ⟨w.heap.size, 9, none⟩ v).drew = wn at *; go_wp2
      go_roundg (l0.length - (kk + 1))
      case measure => omega
      case rel => exact ⟨kk + 1, impl_narrowed.one b ⟨4, xo, xn⟩, by omega, by omega, by go_num, ⟨BWa.out⟩, ⟨by rw [← EB.out]; exact D1a.out⟩, ⟨D2a.out⟩, ⟨HF2.out⟩⟩
   ·by_cases o2 : xo = 2
    ·subst o2; have q2 : ((2 : Int) != 2) = false := rfl; have q1 : ((2 : Int) != 1) = true := rfl; have x1 : (wr.alloc (.cells #[.int .i64 5, .int .i64 2, .int .i64 xn] 59)).cell? ⟨wr.heap.size, 1, none⟩ = some (.int .i64 2) := (blk_cell DX.out 1).trans rfl; have x2 : (wr.alloc (.cells #[.int .i64 5, .int .i64 2, .int .i64 xn] 59)).cell? ⟨wr.heap.size, 2, none⟩ = some (.int .i64 xn) := (blk_cell DX.out 2).trans rfl; have EB := Aside0.mk (show (impl_narrowed.nC b).setIfInBounds 11 (.int .i64 (mn (b 11) xn)) = impl_narrowed.nC (impl_narrowed.one b ⟨5, 2, xn⟩) by simp [impl_narrowed.nC, impl_narrowed.one]); go_wp2; clear x1 x2; generalize wr.alloc (.cells #[.int .i64 5, .int .i64 2, .int .i64 xn] 59) = wn at *; generalize wr.heap.size = gx at *; have hlo : wn.cell? ⟨w.heap.size, 11, none⟩ = some (.int .i64 (b 11)) := (blk_cell D1a.out 11).trans rfl; have flo := blk_frozen D1a.out 11; have x2 : wn.cell? ⟨gx, 2, none⟩ = some (.int .i64 xn) := (blk_cell DX.out 2).trans rfl
     go_region
     rw [show (if xn < b 11 then xn else b 11) = mn (b 11) xn from rfl]; generalize hv : Value.int .i64 (mn (b 11) xn) = v at *; replace D1a := Aside0.mk (blk_drew (blk_set D1a.out 11 v)); replace D2a := Aside0.mk (blk_drew (blk_far D2a.out (p := ⟨w.heap.size, 11, none⟩) (fun e => Nat.succ_ne_self _ e) v)); replace BWa := Aside0.mk (below_drew1 (below_set (j := 11) (v := v) BWa.out (Nat.le_refl _))); clear hlo flo x2; generalize (wn.setCell ⟨w.heap.size, 11, none⟩ v).drew = wn at *; go_wp2
     go_roundg (l0.length - (kk + 1))
     case measure => omega
     case rel => exact ⟨kk + 1, impl_narrowed.one b ⟨5, 2, xn⟩, by omega, by omega, by go_num, ⟨BWa.out⟩, ⟨by rw [← EB.out]; exact D1a.out⟩, ⟨D2a.out⟩, ⟨HF2.out⟩⟩
    ·by_cases o1 : xo = 1
     ·subst o1; have q2 : ((1 : Int) != 2) = true := rfl; have q1 : ((1 : Int) != 1) = false := rfl; clear o2; have x1 : (wr.alloc (.cells #[.int .i64 5, .int .i64 1, .int .i64 xn] 59)).cell? ⟨wr.heap.size, 1, none⟩ = some (.int .i64 1) := (blk_cell DX.out 1).trans rfl; have x2 : (wr.alloc (.cells #[.int .i64 5, .int .i64 1, .int .i64 xn] 59)).cell? ⟨wr.heap.size, 2, none⟩ = some (.int .i64 xn) := (blk_cell DX.out 2).trans rfl; have EB := Aside0.mk (show (impl_narrowed.nC b).setIfInBounds 10 (.int .i64 (mx (b 10) xn)) = impl_narrowed.nC (impl_narrowed.one b ⟨5, 1, xn⟩) by simp [impl_narrowed.nC, impl_narrowed.one]); go_wp2; clear x1 x2; generalize wr.alloc (.cells #[.int .i64 5, .int .i64 1, .int .i64 xn] 59) = wn at *; generalize wr.heap.size = gx at *; have hlo : wn.cell? ⟨w.heap.size, 10, none⟩ = some (.int .i64 (b 10)) := (blk_cell D1a.out 10).trans rfl; have flo := blk_frozen D1a.out 10; have x2 : wn.cell? ⟨gx, 2, none⟩ = some (.int .i64 xn) := (blk_cell DX.out 2).trans rfl
      go_region
      rw [show (if b 10 < xn then xn else b 10) = mx (b 10) xn from rfl]; generalize hv : Value.int .i64 (mx (b 10) xn) = v at *; replace D1a := Aside0.mk (blk_drew (blk_set D1a.out 10 v)); replace D2a := Aside0.mk (blk_drew (blk_far D2a.out (p := ⟨w.heap.size, 10, none⟩) (fun e => Nat.succ_ne_self _ e) v)); replace DX := Aside0.mk (blk_drew (blk_far DX.out (p := ⟨w.heap.size, 10, none⟩) (show gx ≠ w.heap.size by omega) v)); replace BWa := Aside0.mk (below_drew1 (below_set (j := 10) (v := v) BWa.out (Nat.le_refl _))); clear hlo flo x2; generalize (wn.setCell ⟨w.heap.size, 10, none⟩ v).drew = wn at *; have x1 : wn.cell? ⟨gx, 1, none⟩ = some (.int .i64 1) := (blk_cell DX.out 1).trans rfl; go_wp2; clear x1
      go_roundg (l0.length - (kk + 1))
      case measure => omega
      case rel => exact ⟨kk + 1, impl_narrowed.one b ⟨5, 1, xn⟩, by omega, by omega, by go_num, ⟨BWa.out⟩, ⟨by rw [← EB.out]; exact D1a.out⟩, ⟨D2a.out⟩, ⟨HF2.out⟩⟩
     ·have q2 : (xo != 2) = true := bne_iff_ne.mpr o2; have q1 : (xo != 1) = true := bne_iff_ne.mpr o1; have x1 : (wr.alloc (.cells #[.int .i64 5, .int .i64 xo, .int .i64 xn] 59)).cell? ⟨wr.heap.size, 1, none⟩ = some (.int .i64 xo) := (blk_cell DX.out 1).trans rfl; have x2 : (wr.alloc (.cells #[.int .i64 5, .int .i64 xo, .int .i64 xn] 59)).cell? ⟨wr.heap.size, 2, none⟩ = some (.int .i64 xn) := (blk_cell DX.out 2).trans rfl; have EB := Aside0.mk (show ((impl_narrowed.nC b).setIfInBounds 10 (.int .i64 (mx (b 10) xn))).setIfInBounds 11 (.int .i64 (mn (b 11) xn)) = impl_narrowed.nC (impl_narrowed.one b ⟨5, xo, xn⟩) by simp [impl_narrowed.nC, impl_narrowed.one, o1, o2]); clear o1 o2; go_wp2; clear x1 x2; generalize wr.alloc (.cells #[.int .i64 5, .int .i64 xo, .int .i64 xn] 59) = wn at *; generalize wr.heap.size = gx at *; have hlo : wn.cell? ⟨w.heap.size, 10, none⟩ = some (.int .i64 (b 10)) := (blk_cell D1a.out 10).trans rfl; have flo := blk_frozen D1a.out 10; have x2 : wn.cell? ⟨gx, 2, none⟩ = some (.int .i64 xn) := (blk_cell DX.out 2).trans rfl
      go_region
      rw [show (if b 10 < xn then xn else b 10) = mx (b 10) xn from rfl]; generalize hv : Value.int .i64 (mx (b 10) xn) = v at *; replace D1a := Aside0.mk (blk_drew (blk_set D1a.out 10 v)); replace D2a := Aside0.mk (blk_drew (blk_far D2a.out (p := ⟨w.heap.size, 10, none⟩) (fun e => Nat.succ_ne_self _ e) v)); replace DX := Aside0.mk (blk_drew (blk_far DX.out (p := ⟨w.heap.size, 10, none⟩) (show gx ≠ w.heap.size by omega) v)); replace BWa := Aside0.mk (below_drew1 (below_set (j := 10) (v := v) BWa.out (Nat.le_refl _))); clear hlo flo x2; generalize (wn.setCell ⟨w.heap.size, 10, none⟩ v).drew = wn at *; have x1 : wn.cell? ⟨gx, 1, none⟩ = some (.int .i64 xo) := (blk_cell DX.out 1).trans rfl; go_wp2; clear x1; have hlo : wn.cell? ⟨w.heap.size, 11, none⟩ = some (.int .i64 (b 11)) := (blk_cell D1a.out 11).trans rfl; have flo := blk_frozen D1a.out 11; have x2 : wn.cell? ⟨gx, 2, none⟩ = some (.int .i64 xn) := (blk_cell DX.out 2).trans rfl
      go_region
      rw [show (if xn < b 11 then xn else b 11) = mn (b 11) xn from rfl]; generalize hv : Value.int .i64 (mn (b 11) xn) = v at *; replace D1a := Aside0.mk (blk_drew (blk_set D1a.out 11 v)); replace D2a := Aside0.mk (blk_drew (blk_far D2a.out (p := ⟨w.heap.size, 11, none⟩) (fun e => Nat.succ_ne_self _ e) v)); replace BWa := Aside0.mk (below_drew1 (below_set (j := 11) (v := v) BWa.out (Nat.le_refl _))); clear hlo flo x2; generalize (wn.setCell ⟨w.heap.size, 11, none⟩ v).drew = wn at *; go_wp2
      go_roundg (l0.length - (kk + 1))
      case measure => omega
      case rel => exact ⟨kk + 1, impl_narrowed.one b ⟨5, xo, xn⟩, by omega, by omega, by go_num, ⟨BWa.out⟩, ⟨by rw [← EB.out]; exact D1a.out⟩, ⟨D2a.out⟩, ⟨HF2.out⟩⟩
  ·have hltz : ¬ (kk : Int) < (l0.length : Int) := by omega
   have : kk = l0.length := by omega
   subst this; have hf := HF.out; rw [List.drop_length, impl_narrowed.go] at hf; have HFF := Aside0.mk hf; clear hf; have z := blk_cell (show wr.heap[w.heap.size]? = some (.cells #[.int .i64 (b 0), .int .i64 (b 1), .int .i64 (b 2), .int .i64 (b 3), .int .i64 (b 4), .int .i64 (b 5), .int .i64 (b 6), .int .i64 (b 7), .int .i64 (b 8), .int .i64 (b 9), .int .i64 (b 10), .int .i64 (b 11)] 71 (0, 0)) from D1.out); have zz := blk_cell D2.out; have ff := blk_frozen D2.out; go_wp2; refine bodyPost_ret (results_single rfl (.cell (w.heap.size + 1) 71 #[.int .i64 (b 0), .int .i64 (b 1), .int .i64 (b 2), .int .i64 (b 3), .int .i64 (b 4), .int .i64 (b 5), .int .i64 (b 6), .int .i64 (b 7), .int .i64 (b 8), .int .i64 (b 9), .int .i64 (b 10), .int .i64 (b 11)] (0, 0) _ rfl (by simpa using blk_set (blk_set (blk_set (blk_set (blk_set (blk_set (blk_set (blk_set (blk_set (blk_set (blk_set (blk_set (D2.out) 0 (.int .i64 (b 0))) 1 (.int .i64 (b 1))) 2 (.int .i64 (b 2))) 3 (.int .i64 (b 3))) 4 (.int .i64 (b 4))) 5 (.int .i64 (b 5))) 6 (.int .i64 (b 6))) 7 (.int .i64 (b 7))) 8 (.int .i64 (b 8))) 9 (.int .i64 (b 9))) 10 (.int .i64 (b 10))) 11 (.int .i64 (b 11))) Try.underlying71 rfl (by kernel_rfl) .nil)) rfl ?_; refine ⟨by rw [← HFF.out], ?_⟩
   repeat (refine below_set ?_ (Nat.le_succ _))
   exact BW.out

end Go.Proofs.Ytaablbglkfpbpaa.PAll
