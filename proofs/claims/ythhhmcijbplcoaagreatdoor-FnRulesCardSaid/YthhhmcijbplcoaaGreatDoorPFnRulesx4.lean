-- Written by wip/tools/hp.py over the kit's print (not by hand): functions and walks of FnRules.
import Derived.Test.YthhhmcijbplcoaaGreatDoorPFnRulesx0
import Derived.Test.YthhhmcijbplcoaaGreatDoorPFnRulesx2
namespace Go.Proofs.YthhhmcijbplcoaaGreatDoor.PFnRules
open Go.RowKit Go.Proofs.YthhhmcijbplcoaaGreatDoorW.PrintWords Go.Proofs.YthhhmcijbplcoaaGreatDoorW.PrintLast Go.Proofs.YthhhmcijbplcoaaGreatDoorW.PrintMore
attribute [local go_sem] max2_int min2_int max_two min_two max_three min_three max_four min_four   -- for this text's walks alone
set_option linter.unusedVariables false
set_option linter.unusedSimpArgs false

/-! ### impl_Clause_38: function 38, by hand, over whatever function value -/
def impl_Clause_38.f (p : S41 → Option Bool) : List S41 → Int → Option Int
 | [], _ => some (-1)
 | x :: xs, i => (p x).bind fun b => if b = true then some i else impl_Clause_38.f p xs (i + 1)
theorem impl_Clause_38.cons (p : S41 → Option Bool) (x : S41) (xs : List S41) (i : Int) : impl_Clause_38.f p (x :: xs) i = (p x).bind fun b => if b = true then some i else impl_Clause_38.f p xs (i + 1) := rfl
theorem impl_Clause_38.mono (p q : S41 → Option Bool) (h : ∀ x, LeO (p x) (q x)) : ∀ l i, LeO (impl_Clause_38.f p l i) (impl_Clause_38.f q l i)
 | [], _ => LeO.refl _
 | x :: xs, i => LeO.bind (h x) (fun b => LeO.ite (LeO.refl _) (impl_Clause_38.mono p q h xs (i + 1)))
set_option maxHeartbeats 8000000 in
set_option maxRecDepth 100000 in
theorem impl_Clause_38.calls (p : S41 → Option Bool) (l0 : List S41) (A0 : Option Addr) (c0 : Nat) (g : Nat) (lb : Array Value) (r : Int) (w : World) (eg : ∀ args w, (callFunc g args).run Tryz.prog w = .ok (.enter g args) w)
  (hp : ∀ (W_ : World) (x_ : S41) (A_1 : Option Addr) (c_1 : Nat) (b_ : Bool), Below w.heap.size w W_ → Kd.C k66 W_ A_1 x_.f1.length x_.f1 → x_.f1.length ≤ c_1 → p x_ = some b_ → Calls Tryz.prog g (#[.agg #[.string x_.f0, .slice A_1 x_.f1.length c_1, .int .i64 x_.f2, .int .i64 x_.f3]] ++ lb) W_ fun e w' => e = .returned (.bool b_) ∧ Below W_.heap.size W_ w')
  (hr0 : Kd.C k41 w A0 l0.length l0) (hc0 : l0.length ≤ c0) (h : impl_Clause_38.f p l0 0 = some r) :
  Calls Tryz.prog 38 #[.slice A0 l0.length c0, .func (.func g) #[] lb] w fun e w' => e = .returned (.int .i64 r) ∧ Below w.heap.size w w' := by
 have hbig : l0.length ≤ 9223372036854775807 := hr0.2.1; have HP := Aside0.mk hp; have HR := Aside0.mk hr0; have H := Aside0.mk h; clear hp hr0 h; go_enter Tryz.func38, Tryz.ntmps38; go_wp2
 go_loopg [5, 8] l0.length (fun gg _ s8 wr => ∃ kk : Nat, kk ≤ l0.length ∧ l0.length - kk ≤ gg ∧ s8 = .int .i64 kk ∧ Aside0 (Below w.heap.size w wr) ∧ Aside0 (impl_Clause_38.f p (l0.drop kk) kk = some r))
 case atStart => exact ⟨0, Nat.zero_le _, by omega, rfl, ⟨Below.refl _ w⟩, ⟨H.out⟩⟩
 case round =>
  obtain ⟨kk, hkk, hg, rfl, BW, HF⟩ := hrel; by_cases hlt : kk < l0.length
  ·have hltz : (kk : Int) < (l0.length : Int) := by omega
   have hf := HF.out
   have hcons : l0.drop kk = rd_T41 l0 (kk : Int) :: l0.drop (kk + 1) := by
    rw [List.drop_eq_getElem_cons hlt]
    congr 1
    unfold rd_T41; rw [Int.toNat_natCast, List.getD_eq_getElem?_getD, List.getElem?_eq_getElem hlt]; rfl
   obtain ⟨ad, A_1, c_1, rfl, hx0, hx1, hx2, hx3, hl1, hi1⟩ := at_T41 (Kd.C_below HR.out BW.out) (kk : Int) (by omega) hltz; rw [hcons, impl_Clause_38.cons] at hf; clear hcons; simp only [Int.toNat_natCast] at hx0 hx1 hx2 hx3; generalize hxx : rd_T41 l0 (kk : Int) = x_ at *; have HX := Aside0.mk hxx; clear hxx; obtain ⟨b, hb, hf2⟩ := Option.bind_eq_some_iff.mp hf; have hcall := HP.out wr x_ A_1 c_1 b BW.out hi1 hl1 hb; have HB := Aside0.mk hb; have HF2 := Aside0.mk hf2; clear hf hb hf2
   cases b with
   | true =>
    go_wp2_with (go_at_fn g; refine hcall.mono ?_; rintro e w' ⟨rfl, hb'⟩)
    go_ret; have hr_ := HF2.out; simp only [if_true, Option.some.injEq] at hr_; exact ⟨by rw [← hr_]; rfl, BW.out.trans (hb'.mono BW.out.size)⟩
   | false =>
    go_wp2_with (go_at_fn g; refine hcall.mono ?_; rintro e w' ⟨rfl, hb'⟩)
    go_roundg (l0.length - (kk + 1))
    case measure => omega
    case rel =>
     have hr_ := HF2.out; simp only [Bool.false_eq_true, if_false] at hr_; exact ⟨kk + 1, by omega, by omega, by go_num, ⟨BW.out.trans (hb'.mono BW.out.size)⟩, ⟨by rw [show ((kk + 1 : Nat) : Int) = (kk : Int) + 1 by omega]; exact hr_⟩⟩
  ·have hltz : ¬ (kk : Int) < (l0.length : Int) := by omega
   have : kk = l0.length := by omega
   subst this; have hf := HF.out; rw [List.drop_length] at hf; have hr_ : -1 = r := Option.some.inj hf; have HX := Aside0.mk hr_; clear hf hr_; go_wp2; go_ret; exact ⟨by rw [← HX.out]; rfl, BW.out⟩

/-! ### impl_clauseAt_1: function 73, by hand -/
def impl_clauseAt_1.p (s : ByteArray) (x : S41) : Option Bool := some (x.f0.toList == s.toList)
set_option maxHeartbeats 8000000 in
set_option maxRecDepth 100000 in
theorem impl_clauseAt_1.calls (s : ByteArray) (x : S41) (A1 : Option Addr) (c1 : Nat) (g : Nat) (r : Bool) (w : World) (h1 : w.cell? ⟨g, 0, none⟩ = some (.string s)) (h : impl_clauseAt_1.p s x = some r) :
  Calls Tryz.prog 73 #[.agg #[.string x.f0, .slice A1 x.f1.length c1, .int .i64 x.f2, .int .i64 x.f3], .pointer (some ⟨g, 0, none⟩)] w fun e w' => e = .returned (.bool r) ∧ Below w.heap.size w w' := by
 have k1 : ∀ o, (w.alloc o).cell? ⟨g, 0, none⟩ = some (.string s) := fun o => (World.cell?_alloc_lt _ _ _ (World.block_lt_of_cell? _ _ h1)).trans h1
 obtain rfl := Option.some.inj h; clear h h1; go_enter Tryz.func73, Tryz.ntmps73; go_wp2; go_ret; exact ⟨rfl, (Below.refl _ w).alloc (Nat.le_refl _) _⟩

/-! ### impl_clauseAt: function 35, by hand -/
def impl_clauseAt.f (l0 : List S41) (a1 : ByteArray) : Option Int := impl_Clause_38.f (impl_clauseAt_1.p a1) l0 0
set_option maxHeartbeats 8000000 in
set_option maxRecDepth 100000 in
theorem impl_clauseAt.calls (A0 : Option Addr) (c0 : Nat) (l0 : List S41) (a1 : ByteArray) (r : Int) (w : World) (hr0 : Kd.C k41 w A0 l0.length l0) (hc0 : l0.length ≤ c0) (h : impl_clauseAt.f l0 a1 = some r) :
  Calls Tryz.prog 35 #[.slice A0 l0.length c0, .string a1] w fun e w' => e = .returned (.int .i64 r) ∧ Below w.heap.size w w' := by
 have BA : Below w.heap.size w (w.alloc (.cells #[.string a1] 9)) := (Below.refl _ w).alloc (Nat.le_refl _) _; have C := impl_Clause_38.calls (impl_clauseAt_1.p a1) l0 A0 c0 73 #[.pointer (some ⟨w.heap.size, 0, none⟩)] r (w.alloc (.cells #[.string a1] 9)) (fun args w => enters_of Tryz.func73 (by kernel_rfl) rfl args w)
  (fun W y A_1 c_1 b_ hW _ _ hy => impl_clauseAt_1.calls a1 y A_1 c_1 w.heap.size b_ W ((blk_cell (blk_below (blk_new w _) hW) 0).trans rfl) hy)
  (Kd.C_below hr0 BA) hc0 h
 have HCC := Aside0.mk C; have HB := Aside0.mk BA; clear C BA hr0 h; go_enter Tryz.func35, Tryz.ntmps35
 go_wp2_with fail
 refine HCC.out.mono ?_; rintro e w5 ⟨rfl, hb5⟩; go_wp2; go_ret; exact ⟨rfl, HB.out.trans (hb5.mono HB.out.size)⟩

/-! ### impl_isAct: function 59 -/
def impl_isAct.f (a0 : Int) (a1 : Int) : Option (Bool) := if a0 = 1 then ((impl_within.f a1 0 100).bind fun t190 => (some t190)) else (if a0 = 2 then ((impl_within.f a1 0 1000000000).bind fun t191 => (some t191)) else (if a0 = 3 then (some (a1 == 0)) else (some false)))
set_option maxHeartbeats 8000000 in
set_option maxRecDepth 100000 in
theorem impl_isAct.calls (a0 : Int) (a1 : Int) (r : Bool) (w : World) (h : impl_isAct.f a0 a1 = some r) :
  Calls Tryz.prog 59 #[.int .i64 a0, .int .i64 a1] w fun e w' => e = .returned (.bool r) ∧ Drawn0 w w' := by
 have H : (if a0 = 1 then ((impl_within.f a1 0 100).bind fun t190 => (some t190)) else (if a0 = 2 then ((impl_within.f a1 0 1000000000).bind fun t191 => (some t191)) else (if a0 = 3 then (some (a1 == 0)) else (some false)))) = some r := h; clear h; by_cases c3 : a0 = 1
 ·rw [if_pos c3] at H; have c3b0 : (a0 == 1) = true := beq_iff_eq.mpr c3; have c3b1 : (a0 != 1) = false := bne_eq_false_iff_eq.mpr c3; clear c3; replace H := Option.bind_eq_some_iff.mp H; obtain ⟨t190, A40, H⟩ := H; replace H : (some t190) = some r := H; have A4 := Aside0.mk A40; clear A40; obtain rfl := Option.some.inj H; go_enter Tryz.func59, Tryz.ntmps59
  go_wp2_with (first | ((with_reducible refine gate_callee (f := 75) rfl ?_); refine goesL_ (some 9) rfl rfl Tryz.func75 (by kernel_rfl) rfl #[.int .i64 a1, .int .i64 0, .int .i64 100] rfl mq ?_; (with_reducible refine (impl_within.calls a1 0 100 t190 _ A4.out).mono ?_); rintro e w' ⟨rfl, ⟨nd, rfl⟩⟩; refine ⟨_, rfl, ?_⟩))
  go_ret; exact ⟨by first | rfl | (simp; done) | (simp [*]; done), by repeat (first | exact Drawn0.refl _ | apply Drawn0.step)⟩
 ·rw [if_neg c3] at H; have c3b0 : (a0 == 1) = false := beq_eq_false_iff_ne.mpr c3; have c3b1 : (a0 != 1) = true := bne_iff_ne.mpr c3; by_cases c5 : a0 = 2
  ·rw [if_pos c5] at H; have c5b0 : (a0 == 2) = true := beq_iff_eq.mpr c5; have c5b1 : (a0 != 2) = false := bne_eq_false_iff_eq.mpr c5; clear c5; replace H := Option.bind_eq_some_iff.mp H; obtain ⟨t191, A60, H⟩ := H; replace H : (some t191) = some r := H; have A6 := Aside0.mk A60; clear A60; obtain rfl := Option.some.inj H; go_enter Tryz.func59, Tryz.ntmps59
   go_wp2_with (first | ((with_reducible refine gate_callee (f := 75) rfl ?_); refine goesL_ (some 13) rfl rfl Tryz.func75 (by kernel_rfl) rfl #[.int .i64 a1, .int .i64 0, .int .i64 1000000000] rfl mq ?_; (with_reducible refine (impl_within.calls a1 0 1000000000 t191 _ A6.out).mono ?_); rintro e w' ⟨rfl, ⟨nd, rfl⟩⟩; refine ⟨_, rfl, ?_⟩))
   go_ret; exact ⟨by first | rfl | (simp; done) | (simp [*]; done), by repeat (first | exact Drawn0.refl _ | apply Drawn0.step)⟩
  ·rw [if_neg c5] at H; have c5b0 : (a0 == 2) = false := beq_eq_false_iff_ne.mpr c5; have c5b1 : (a0 != 2) = true := bne_iff_ne.mpr c5; by_cases c7 : a0 = 3
   ·rw [if_pos c7] at H; have c7b0 : (a0 == 3) = true := beq_iff_eq.mpr c7; have c7b1 : (a0 != 3) = false := bne_eq_false_iff_eq.mpr c7; clear c7; obtain rfl := Option.some.inj H; go_enter Tryz.func59, Tryz.ntmps59; go_wp2; go_ret; exact ⟨by first | rfl | (simp; done) | (simp [*]; done), by repeat (first | exact Drawn0.refl _ | apply Drawn0.step)⟩
   ·rw [if_neg c7] at H; have c7b0 : (a0 == 3) = false := beq_eq_false_iff_ne.mpr c7; have c7b1 : (a0 != 3) = true := bne_iff_ne.mpr c7; obtain rfl := Option.some.inj H; go_enter Tryz.func59, Tryz.ntmps59; go_wp2; go_ret; exact ⟨by first | rfl | (simp; done) | (simp [*]; done), by repeat (first | exact Drawn0.refl _ | apply Drawn0.step)⟩

/-! ### impl_Term_85: function 85, by hand, over whatever function value -/
def impl_Term_85.f (p : S66 → Option Bool) : List S66 → Int → Option Int
 | [], _ => some (-1)
 | x :: xs, i => (p x).bind fun b => if b = true then some i else impl_Term_85.f p xs (i + 1)
theorem impl_Term_85.cons (p : S66 → Option Bool) (x : S66) (xs : List S66) (i : Int) : impl_Term_85.f p (x :: xs) i = (p x).bind fun b => if b = true then some i else impl_Term_85.f p xs (i + 1) := rfl
theorem impl_Term_85.mono (p q : S66 → Option Bool) (h : ∀ x, LeO (p x) (q x)) : ∀ l i, LeO (impl_Term_85.f p l i) (impl_Term_85.f q l i)
 | [], _ => LeO.refl _
 | x :: xs, i => LeO.bind (h x) (fun b => LeO.ite (LeO.refl _) (impl_Term_85.mono p q h xs (i + 1)))
set_option maxHeartbeats 8000000 in
set_option maxRecDepth 100000 in
theorem impl_Term_85.calls (p : S66 → Option Bool) (l0 : List S66) (A0 : Option Addr) (c0 : Nat) (g : Nat) (lb : Array Value) (r : Int) (w : World) (eg : ∀ args w, (callFunc g args).run Tryz.prog w = .ok (.enter g args) w)
  (hp : ∀ (W_ : World) (x_ : S66) (b_ : Bool), Below w.heap.size w W_ → p x_ = some b_ → Calls Tryz.prog g (#[.agg #[.int .i64 x_.f0, .int .i64 x_.f1, .int .i64 x_.f2]] ++ lb) W_ fun e w' => e = .returned (.bool b_) ∧ Below W_.heap.size W_ w')
  (hr0 : Kd.C k66 w A0 l0.length l0) (hc0 : l0.length ≤ c0) (h : impl_Term_85.f p l0 0 = some r) :
  Calls Tryz.prog 85 #[.slice A0 l0.length c0, .func (.func g) #[] lb] w fun e w' => e = .returned (.int .i64 r) ∧ Below w.heap.size w w' := by
 have hbig : l0.length ≤ 9223372036854775807 := hr0.2.1; have HP := Aside0.mk hp; have HR := Aside0.mk hr0; have H := Aside0.mk h; clear hp hr0 h; go_enter Tryz.func85, Tryz.ntmps85; go_wp2
 go_loopg [5, 8] l0.length (fun gg _ s8 wr => ∃ kk : Nat, kk ≤ l0.length ∧ l0.length - kk ≤ gg ∧ s8 = .int .i64 kk ∧ Aside0 (Below w.heap.size w wr) ∧ Aside0 (impl_Term_85.f p (l0.drop kk) kk = some r))
 case atStart => exact ⟨0, Nat.zero_le _, by omega, rfl, ⟨Below.refl _ w⟩, ⟨H.out⟩⟩
 case round =>
  obtain ⟨kk, hkk, hg, rfl, BW, HF⟩ := hrel; by_cases hlt : kk < l0.length
  ·have hltz : (kk : Int) < (l0.length : Int) := by omega
   have hf := HF.out
   have hcons : l0.drop kk = rd_T66 l0 (kk : Int) :: l0.drop (kk + 1) := by
    rw [List.drop_eq_getElem_cons hlt]
    congr 1
    unfold rd_T66; rw [Int.toNat_natCast, List.getD_eq_getElem?_getD, List.getElem?_eq_getElem hlt]; rfl
   obtain ⟨ad, rfl, hx0, hx1, hx2⟩ := at_T66 (Kd.C_below HR.out BW.out) (kk : Int) (by omega) hltz; rw [hcons, impl_Term_85.cons] at hf; clear hcons; simp only [Int.toNat_natCast] at hx0 hx1 hx2; generalize hxx : rd_T66 l0 (kk : Int) = x_ at *; have HX := Aside0.mk hxx; clear hxx; obtain ⟨b, hb, hf2⟩ := Option.bind_eq_some_iff.mp hf; have hcall := HP.out wr x_ b BW.out hb; have HB := Aside0.mk hb; have HF2 := Aside0.mk hf2; clear hf hb hf2
   cases b with
   | true =>
    go_wp2_with (go_at_fn g; refine hcall.mono ?_; rintro e w' ⟨rfl, hb'⟩)
    go_ret; have hr_ := HF2.out; simp only [if_true, Option.some.injEq] at hr_; exact ⟨by rw [← hr_]; rfl, BW.out.trans (hb'.mono BW.out.size)⟩
   | false =>
    go_wp2_with (go_at_fn g; refine hcall.mono ?_; rintro e w' ⟨rfl, hb'⟩)
    go_roundg (l0.length - (kk + 1))
    case measure => omega
    case rel =>
     have hr_ := HF2.out; simp only [Bool.false_eq_true, if_false] at hr_; exact ⟨kk + 1, by omega, by omega, by go_num, ⟨BW.out.trans (hb'.mono BW.out.size)⟩, ⟨by rw [show ((kk + 1 : Nat) : Int) = (kk : Int) + 1 by omega]; exact hr_⟩⟩
  ·have hltz : ¬ (kk : Int) < (l0.length : Int) := by omega
   have : kk = l0.length := by omega
   subst this; have hf := HF.out; rw [List.drop_length] at hf; have hr_ : -1 = r := Option.some.inj hf; have HX := Aside0.mk hr_; clear hf hr_; go_wp2; go_ret; exact ⟨by rw [← HX.out]; rfl, BW.out⟩

/-! ### impl_Term_60: function 60, by hand, over whatever function value -/
def impl_Term_60.f (p : S66 → Option Bool) (l : List S66) : Option Bool := (impl_Term_85.f p l 0).bind fun i => some (decide (i ≥ 0))
theorem impl_Term_60.mono (p q : S66 → Option Bool) (h : ∀ x, LeO (p x) (q x)) (l : List S66) : LeO (impl_Term_60.f p l) (impl_Term_60.f q l) := LeO.bind (impl_Term_85.mono p q h l 0) (fun _ => LeO.refl _)
set_option maxHeartbeats 8000000 in
set_option maxRecDepth 100000 in
theorem impl_Term_60.calls (p : S66 → Option Bool) (l0 : List S66) (A0 : Option Addr) (c0 : Nat) (g : Nat) (lb : Array Value) (r : Bool) (w : World) (eg : ∀ args w, (callFunc g args).run Tryz.prog w = .ok (.enter g args) w)
  (hp : ∀ (W_ : World) (x_ : S66) (b_ : Bool), Below w.heap.size w W_ → p x_ = some b_ → Calls Tryz.prog g (#[.agg #[.int .i64 x_.f0, .int .i64 x_.f1, .int .i64 x_.f2]] ++ lb) W_ fun e w' => e = .returned (.bool b_) ∧ Below W_.heap.size W_ w')
  (hr0 : Kd.C k66 w A0 l0.length l0) (hc0 : l0.length ≤ c0) (h : impl_Term_60.f p l0 = some r) :
  Calls Tryz.prog 60 #[.slice A0 l0.length c0, .func (.func g) #[] lb] w fun e w' => e = .returned (.bool r) ∧ Below w.heap.size w w' := by
 obtain ⟨i, hi, h2⟩ := Option.bind_eq_some_iff.mp h; have hr_ : decide (i ≥ 0) = r := Option.some.inj h2; have C := impl_Term_85.calls p l0 A0 c0 g lb i w eg hp hr0 hc0 hi; have HR_ := Aside0.mk hr_; clear h hi h2 hp hr_; by_cases hpos : 0 ≤ i
 ·have hd : decide (0 ≤ i) = true := decide_eq_true hpos; go_enter Tryz.func60, Tryz.ntmps60
  go_wp2_with (go_at_call 85; refine C.mono ?_; rintro e w' ⟨rfl, hb'⟩)
  go_ret; exact ⟨by rw [← HR_.out, decide_eq_true (show i ≥ 0 by omega)]; rfl, hb'⟩
 ·have hd : decide (0 ≤ i) = false := decide_eq_false hpos; go_enter Tryz.func60, Tryz.ntmps60
  go_wp2_with (go_at_call 85; refine C.mono ?_; rintro e w' ⟨rfl, hb'⟩)
  go_ret; exact ⟨by rw [← HR_.out, decide_eq_false (show ¬ i ≥ 0 by omega)]; rfl, hb'⟩

-- NOT PRINTED: function 37 (impl_allBounds)

/-! ### impl_isTermNum: function 62, by hand -/
theorem impl_allBounds.calls (w : World) : Calls Tryz.prog 37 #[] w fun e w' => e = .returned (.agg #[.int .i64 0, .int .i64 0, .int .i64 1, .int .i64 999, .int .i64 0, .int .i64 1000000, .int .i64 0, .int .i64 23, .int .i64 1, .int .i64 7, .int .i64 0, .int .i64 120] : Value) ∧ Below w.heap.size w w' := by
 go_enter Tryz.func37, Tryz.ntmps37; go_wp2; refine bodyPost_ret (results_single rfl (.cell w.heap.size 62 #[.int .i64 0, .int .i64 0, .int .i64 1, .int .i64 999, .int .i64 0, .int .i64 1000000, .int .i64 0, .int .i64 23, .int .i64 1, .int .i64 7, .int .i64 0, .int .i64 120] (0, 0) _ rfl (by simpa using blk_new w _) Tryz.underlying62 rfl (by kernel_rfl) .nil)) rfl ?_; exact ⟨rfl, (Below.refl _ w).alloc (Nat.le_refl _) _⟩
def impl_isTermNum.f (a0_0 : Int) (a0_1 : Int) (a0_2 : Int) : Option Bool :=
 if a0_0 = 1 then impl_within.f a0_2 1 999
 else if a0_0 = 2 then impl_within.f a0_2 0 1000000
 else if a0_0 = 3 then impl_within.f a0_2 0 23
 else if a0_0 = 4 then impl_within.f a0_2 1 7
 else if a0_0 = 5 then impl_within.f a0_2 0 120
 else none
theorem impl_isTermNum.drawn {w w1 : World} (h : Drawn0 w w1) : Below w.heap.size w w1 := by
 obtain ⟨n, rfl⟩ := h; exact pw_below_drewN (Below.refl _ _) _
theorem impl_isTermNum.keepS {w1 w2 w3 : World} {g : Nat} {a b c : Value} {t : TypeId} (hblk : w1.heap[g]? = some (.cells #[a, b, c] t (0, 0))) (hS : Below w1.heap.size w1 w2 ∧ w2.cell? ⟨g, 0, none⟩ = some a ∧ w2.cell? ⟨g, 2, none⟩ = some c) (hb : Below w2.heap.size w2 w3) :
  Below w1.heap.size w1 w3 ∧ w3.cell? ⟨g, 0, none⟩ = some a ∧ w3.cell? ⟨g, 2, none⟩ = some c :=
 have h := hS.1.trans (hb.mono hS.1.size)
 ⟨h, (blk_cell (blk_below hblk h) 0).trans rfl, (blk_cell (blk_below hblk h) 2).trans rfl⟩
set_option maxHeartbeats 8000000 in
set_option maxRecDepth 100000 in
theorem impl_isTermNum.at1 (a0_1 a0_2 : Int) (r : Bool) (w : World) (h : impl_within.f a0_2 1 999 = some r) :
  Calls Tryz.prog 62 #[.agg #[.int .i64 1, .int .i64 a0_1, .int .i64 a0_2]] w fun e w' => e = .returned (.bool r) ∧ Below w.heap.size w w' := by
 have H := Aside0.mk h; clear h
 have e1 : ∀ w : World, Sem.run Tryz.prog (Instr.index 62 (.agg #[.int .i64 0, .int .i64 0, .int .i64 1, .int .i64 999, .int .i64 0, .int .i64 1000000, .int .i64 0, .int .i64 23, .int .i64 1, .int .i64 7, .int .i64 0, .int .i64 120] : Value) (.int .i64 1)) w = .ok (.agg #[.int .i64 1, .int .i64 999]) w := fun w => by kernel_rfl
 have e2 : ∀ w : World, Sem.run Tryz.prog (Instr.index 60 (.agg #[.int .i64 1, .int .i64 999]) (.int .i64 0)) w = .ok (.int .i64 1) w := fun w => by kernel_rfl
 have e3 : ∀ w : World, Sem.run Tryz.prog (Instr.index 60 (.agg #[.int .i64 1, .int .i64 999]) (.int .i64 1)) w = .ok (.int .i64 999) w := fun w => by kernel_rfl
 have hblk := blk_new w (.cells #[.int .i64 1, .int .i64 a0_1, .int .i64 a0_2] 66); have h0 : (w.alloc (.cells #[.int .i64 1, .int .i64 a0_1, .int .i64 a0_2] 66)).cell? ⟨w.heap.size, 0, none⟩ = some (.int .i64 1) := (blk_cell hblk 0).trans rfl; have h2 : (w.alloc (.cells #[.int .i64 1, .int .i64 a0_1, .int .i64 a0_2] 66)).cell? ⟨w.heap.size, 2, none⟩ = some (.int .i64 a0_2) := (blk_cell hblk 2).trans rfl; have HB := Aside0.mk ((Below.refl _ w).alloc (Nat.le_refl _) (.cells #[.int .i64 1, .int .i64 a0_1, .int .i64 a0_2] 66)); go_enter Tryz.func62, Tryz.ntmps62; go_wp2; have HBLK := Aside0.mk hblk; clear hblk; generalize w.alloc (.cells #[.int .i64 1, .int .i64 a0_1, .int .i64 a0_2] 66) = w1 at *
 go_region_held3 (fun w' => Below w1.heap.size w1 w' ∧ w'.cell? ⟨w.heap.size, 0, none⟩ = some (.int .i64 1) ∧ w'.cell? ⟨w.heap.size, 2, none⟩ = some (.int .i64 a0_2))
  (first
   | exact impl_isTermNum.keepS HBLK.out ⟨Below.refl _ _, h0, h2⟩ (below_drew1 (Below.refl _ _))
   | assumption
   | (refine impl_isTermNum.keepS HBLK.out ?_ hb_; assumption))
  (first
   | (go_at_call 37; refine (impl_allBounds.calls _).mono ?_; rintro e w' ⟨rfl, hb_⟩)
   | (go_at_call 75; refine (impl_within.calls a0_2 1 999 r _ H.out).mono ?_; rintro e w' ⟨rfl, hd_⟩; have hb_ := impl_isTermNum.drawn hd_; clear hd_))
 all_goals go_wp2
 all_goals go_ret
 all_goals exact ⟨rfl, HB.out.trans (Below.mono (And.left (by assumption)) HB.out.size)⟩
set_option maxHeartbeats 8000000 in
set_option maxRecDepth 100000 in
theorem impl_isTermNum.at2 (a0_1 a0_2 : Int) (r : Bool) (w : World) (h : impl_within.f a0_2 0 1000000 = some r) :
  Calls Tryz.prog 62 #[.agg #[.int .i64 2, .int .i64 a0_1, .int .i64 a0_2]] w fun e w' => e = .returned (.bool r) ∧ Below w.heap.size w w' := by
 have H := Aside0.mk h; clear h
 have e1 : ∀ w : World, Sem.run Tryz.prog (Instr.index 62 (.agg #[.int .i64 0, .int .i64 0, .int .i64 1, .int .i64 999, .int .i64 0, .int .i64 1000000, .int .i64 0, .int .i64 23, .int .i64 1, .int .i64 7, .int .i64 0, .int .i64 120] : Value) (.int .i64 2)) w = .ok (.agg #[.int .i64 0, .int .i64 1000000]) w := fun w => by kernel_rfl
 have e2 : ∀ w : World, Sem.run Tryz.prog (Instr.index 60 (.agg #[.int .i64 0, .int .i64 1000000]) (.int .i64 0)) w = .ok (.int .i64 0) w := fun w => by kernel_rfl
 have e3 : ∀ w : World, Sem.run Tryz.prog (Instr.index 60 (.agg #[.int .i64 0, .int .i64 1000000]) (.int .i64 1)) w = .ok (.int .i64 1000000) w := fun w => by kernel_rfl
 have hblk := blk_new w (.cells #[.int .i64 2, .int .i64 a0_1, .int .i64 a0_2] 66); have h0 : (w.alloc (.cells #[.int .i64 2, .int .i64 a0_1, .int .i64 a0_2] 66)).cell? ⟨w.heap.size, 0, none⟩ = some (.int .i64 2) := (blk_cell hblk 0).trans rfl; have h2 : (w.alloc (.cells #[.int .i64 2, .int .i64 a0_1, .int .i64 a0_2] 66)).cell? ⟨w.heap.size, 2, none⟩ = some (.int .i64 a0_2) := (blk_cell hblk 2).trans rfl; have HB := Aside0.mk ((Below.refl _ w).alloc (Nat.le_refl _) (.cells #[.int .i64 2, .int .i64 a0_1, .int .i64 a0_2] 66)); go_enter Tryz.func62, Tryz.ntmps62; go_wp2; have HBLK := Aside0.mk hblk; clear hblk; generalize w.alloc (.cells #[.int .i64 2, .int .i64 a0_1, .int .i64 a0_2] 66) = w1 at *
 go_region_held3 (fun w' => Below w1.heap.size w1 w' ∧ w'.cell? ⟨w.heap.size, 0, none⟩ = some (.int .i64 2) ∧ w'.cell? ⟨w.heap.size, 2, none⟩ = some (.int .i64 a0_2))
  (first
   | exact impl_isTermNum.keepS HBLK.out ⟨Below.refl _ _, h0, h2⟩ (below_drew1 (Below.refl _ _))
   | assumption
   | (refine impl_isTermNum.keepS HBLK.out ?_ hb_; assumption))
  (first
   | (go_at_call 37; refine (impl_allBounds.calls _).mono ?_; rintro e w' ⟨rfl, hb_⟩)
   | (go_at_call 75; refine (impl_within.calls a0_2 0 1000000 r _ H.out).mono ?_; rintro e w' ⟨rfl, hd_⟩; have hb_ := impl_isTermNum.drawn hd_; clear hd_))
 all_goals go_wp2
 all_goals go_ret
 all_goals exact ⟨rfl, HB.out.trans (Below.mono (And.left (by assumption)) HB.out.size)⟩
set_option maxHeartbeats 8000000 in
set_option maxRecDepth 100000 in
theorem impl_isTermNum.at3 (a0_1 a0_2 : Int) (r : Bool) (w : World) (h : impl_within.f a0_2 0 23 = some r) :
  Calls Tryz.prog 62 #[.agg #[.int .i64 3, .int .i64 a0_1, .int .i64 a0_2]] w fun e w' => e = .returned (.bool r) ∧ Below w.heap.size w w' := by
 have H := Aside0.mk h; clear h
 have e1 : ∀ w : World, Sem.run Tryz.prog (Instr.index 62 (.agg #[.int .i64 0, .int .i64 0, .int .i64 1, .int .i64 999, .int .i64 0, .int .i64 1000000, .int .i64 0, .int .i64 23, .int .i64 1, .int .i64 7, .int .i64 0, .int .i64 120] : Value) (.int .i64 3)) w = .ok (.agg #[.int .i64 0, .int .i64 23]) w := fun w => by kernel_rfl
 have e2 : ∀ w : World, Sem.run Tryz.prog (Instr.index 60 (.agg #[.int .i64 0, .int .i64 23]) (.int .i64 0)) w = .ok (.int .i64 0) w := fun w => by kernel_rfl
 have e3 : ∀ w : World, Sem.run Tryz.prog (Instr.index 60 (.agg #[.int .i64 0, .int .i64 23]) (.int .i64 1)) w = .ok (.int .i64 23) w := fun w => by kernel_rfl
 have hblk := blk_new w (.cells #[.int .i64 3, .int .i64 a0_1, .int .i64 a0_2] 66); have h0 : (w.alloc (.cells #[.int .i64 3, .int .i64 a0_1, .int .i64 a0_2] 66)).cell? ⟨w.heap.size, 0, none⟩ = some (.int .i64 3) := (blk_cell hblk 0).trans rfl; have h2 : (w.alloc (.cells #[.int .i64 3, .int .i64 a0_1, .int .i64 a0_2] 66)).cell? ⟨w.heap.size, 2, none⟩ = some (.int .i64 a0_2) := (blk_cell hblk 2).trans rfl; have HB := Aside0.mk ((Below.refl _ w).alloc (Nat.le_refl _) (.cells #[.int .i64 3, .int .i64 a0_1, .int .i64 a0_2] 66)); go_enter Tryz.func62, Tryz.ntmps62; go_wp2; have HBLK := Aside0.mk hblk; clear hblk; generalize w.alloc (.cells #[.int .i64 3, .int .i64 a0_1, .int .i64 a0_2] 66) = w1 at *
 go_region_held3 (fun w' => Below w1.heap.size w1 w' ∧ w'.cell? ⟨w.heap.size, 0, none⟩ = some (.int .i64 3) ∧ w'.cell? ⟨w.heap.size, 2, none⟩ = some (.int .i64 a0_2))
  (first
   | exact impl_isTermNum.keepS HBLK.out ⟨Below.refl _ _, h0, h2⟩ (below_drew1 (Below.refl _ _))
   | assumption
   | (refine impl_isTermNum.keepS HBLK.out ?_ hb_; assumption))
  (first
   | (go_at_call 37; refine (impl_allBounds.calls _).mono ?_; rintro e w' ⟨rfl, hb_⟩)
   | (go_at_call 75; refine (impl_within.calls a0_2 0 23 r _ H.out).mono ?_; rintro e w' ⟨rfl, hd_⟩; have hb_ := impl_isTermNum.drawn hd_; clear hd_))
 all_goals go_wp2
 all_goals go_ret
 all_goals exact ⟨rfl, HB.out.trans (Below.mono (And.left (by assumption)) HB.out.size)⟩
set_option maxHeartbeats 8000000 in
set_option maxRecDepth 100000 in
theorem impl_isTermNum.at4 (a0_1 a0_2 : Int) (r : Bool) (w : World) (h : impl_within.f a0_2 1 7 = some r) :
  Calls Tryz.prog 62 #[.agg #[.int .i64 4, .int .i64 a0_1, .int .i64 a0_2]] w fun e w' => e = .returned (.bool r) ∧ Below w.heap.size w w' := by
 have H := Aside0.mk h; clear h
 have e1 : ∀ w : World, Sem.run Tryz.prog (Instr.index 62 (.agg #[.int .i64 0, .int .i64 0, .int .i64 1, .int .i64 999, .int .i64 0, .int .i64 1000000, .int .i64 0, .int .i64 23, .int .i64 1, .int .i64 7, .int .i64 0, .int .i64 120] : Value) (.int .i64 4)) w = .ok (.agg #[.int .i64 1, .int .i64 7]) w := fun w => by kernel_rfl
 have e2 : ∀ w : World, Sem.run Tryz.prog (Instr.index 60 (.agg #[.int .i64 1, .int .i64 7]) (.int .i64 0)) w = .ok (.int .i64 1) w := fun w => by kernel_rfl
 have e3 : ∀ w : World, Sem.run Tryz.prog (Instr.index 60 (.agg #[.int .i64 1, .int .i64 7]) (.int .i64 1)) w = .ok (.int .i64 7) w := fun w => by kernel_rfl
 have hblk := blk_new w (.cells #[.int .i64 4, .int .i64 a0_1, .int .i64 a0_2] 66); have h0 : (w.alloc (.cells #[.int .i64 4, .int .i64 a0_1, .int .i64 a0_2] 66)).cell? ⟨w.heap.size, 0, none⟩ = some (.int .i64 4) := (blk_cell hblk 0).trans rfl; have h2 : (w.alloc (.cells #[.int .i64 4, .int .i64 a0_1, .int .i64 a0_2] 66)).cell? ⟨w.heap.size, 2, none⟩ = some (.int .i64 a0_2) := (blk_cell hblk 2).trans rfl; have HB := Aside0.mk ((Below.refl _ w).alloc (Nat.le_refl _) (.cells #[.int .i64 4, .int .i64 a0_1, .int .i64 a0_2] 66)); go_enter Tryz.func62, Tryz.ntmps62; go_wp2; have HBLK := Aside0.mk hblk; clear hblk; generalize w.alloc (.cells #[.int .i64 4, .int .i64 a0_1, .int .i64 a0_2] 66) = w1 at *
 go_region_held3 (fun w' => Below w1.heap.size w1 w' ∧ w'.cell? ⟨w.heap.size, 0, none⟩ = some (.int .i64 4) ∧ w'.cell? ⟨w.heap.size, 2, none⟩ = some (.int .i64 a0_2))
  (first
   | exact impl_isTermNum.keepS HBLK.out ⟨Below.refl _ _, h0, h2⟩ (below_drew1 (Below.refl _ _))
   | assumption
   | (refine impl_isTermNum.keepS HBLK.out ?_ hb_; assumption))
  (first
   | (go_at_call 37; refine (impl_allBounds.calls _).mono ?_; rintro e w' ⟨rfl, hb_⟩)
   | (go_at_call 75; refine (impl_within.calls a0_2 1 7 r _ H.out).mono ?_; rintro e w' ⟨rfl, hd_⟩; have hb_ := impl_isTermNum.drawn hd_; clear hd_))
 all_goals go_wp2
 all_goals go_ret
 all_goals exact ⟨rfl, HB.out.trans (Below.mono (And.left (by assumption)) HB.out.size)⟩
set_option maxHeartbeats 8000000 in
set_option maxRecDepth 100000 in
theorem impl_isTermNum.at5 (a0_1 a0_2 : Int) (r : Bool) (w : World) (h : impl_within.f a0_2 0 120 = some r) :
  Calls Tryz.prog 62 #[.agg #[.int .i64 5, .int .i64 a0_1, .int .i64 a0_2]] w fun e w' => e = .returned (.bool r) ∧ Below w.heap.size w w' := by
 have H := Aside0.mk h; clear h
 have e1 : ∀ w : World, Sem.run Tryz.prog (Instr.index 62 (.agg #[.int .i64 0, .int .i64 0, .int .i64 1, .int .i64 999, .int .i64 0, .int .i64 1000000, .int .i64 0, .int .i64 23, .int .i64 1, .int .i64 7, .int .i64 0, .int .i64 120] : Value) (.int .i64 5)) w = .ok (.agg #[.int .i64 0, .int .i64 120]) w := fun w => by kernel_rfl
 have e2 : ∀ w : World, Sem.run Tryz.prog (Instr.index 60 (.agg #[.int .i64 0, .int .i64 120]) (.int .i64 0)) w = .ok (.int .i64 0) w := fun w => by kernel_rfl
 have e3 : ∀ w : World, Sem.run Tryz.prog (Instr.index 60 (.agg #[.int .i64 0, .int .i64 120]) (.int .i64 1)) w = .ok (.int .i64 120) w := fun w => by kernel_rfl
 have hblk := blk_new w (.cells #[.int .i64 5, .int .i64 a0_1, .int .i64 a0_2] 66); have h0 : (w.alloc (.cells #[.int .i64 5, .int .i64 a0_1, .int .i64 a0_2] 66)).cell? ⟨w.heap.size, 0, none⟩ = some (.int .i64 5) := (blk_cell hblk 0).trans rfl; have h2 : (w.alloc (.cells #[.int .i64 5, .int .i64 a0_1, .int .i64 a0_2] 66)).cell? ⟨w.heap.size, 2, none⟩ = some (.int .i64 a0_2) := (blk_cell hblk 2).trans rfl; have HB := Aside0.mk ((Below.refl _ w).alloc (Nat.le_refl _) (.cells #[.int .i64 5, .int .i64 a0_1, .int .i64 a0_2] 66)); go_enter Tryz.func62, Tryz.ntmps62; go_wp2; have HBLK := Aside0.mk hblk; clear hblk; generalize w.alloc (.cells #[.int .i64 5, .int .i64 a0_1, .int .i64 a0_2] 66) = w1 at *
 go_region_held3 (fun w' => Below w1.heap.size w1 w' ∧ w'.cell? ⟨w.heap.size, 0, none⟩ = some (.int .i64 5) ∧ w'.cell? ⟨w.heap.size, 2, none⟩ = some (.int .i64 a0_2))
  (first
   | exact impl_isTermNum.keepS HBLK.out ⟨Below.refl _ _, h0, h2⟩ (below_drew1 (Below.refl _ _))
   | assumption
   | (refine impl_isTermNum.keepS HBLK.out ?_ hb_; assumption))
  (first
   | (go_at_call 37; refine (impl_allBounds.calls _).mono ?_; rintro e w' ⟨rfl, hb_⟩)
   | (go_at_call 75; refine (impl_within.calls a0_2 0 120 r _ H.out).mono ?_; rintro e w' ⟨rfl, hd_⟩; have hb_ := impl_isTermNum.drawn hd_; clear hd_))
 all_goals go_wp2
 all_goals go_ret
 all_goals exact ⟨rfl, HB.out.trans (Below.mono (And.left (by assumption)) HB.out.size)⟩
theorem impl_isTermNum.calls (a0_0 : Int) (a0_1 : Int) (a0_2 : Int) (r : Bool) (w : World) (h : impl_isTermNum.f a0_0 a0_1 a0_2 = some r) :
  Calls Tryz.prog 62 #[.agg #[.int .i64 a0_0, .int .i64 a0_1, .int .i64 a0_2]] w fun e w' => e = .returned (.bool r) ∧ Below w.heap.size w w' := by
 unfold impl_isTermNum.f at h; by_cases c1 : a0_0 = 1
 ·subst c1; rw [if_pos rfl] at h; exact impl_isTermNum.at1 a0_1 a0_2 r w h
 rw [if_neg c1] at h; by_cases c2 : a0_0 = 2
 ·subst c2; rw [if_pos rfl] at h; exact impl_isTermNum.at2 a0_1 a0_2 r w h
 rw [if_neg c2] at h; by_cases c3 : a0_0 = 3
 ·subst c3; rw [if_pos rfl] at h; exact impl_isTermNum.at3 a0_1 a0_2 r w h
 rw [if_neg c3] at h; by_cases c4 : a0_0 = 4
 ·subst c4; rw [if_pos rfl] at h; exact impl_isTermNum.at4 a0_1 a0_2 r w h
 rw [if_neg c4] at h; by_cases c5 : a0_0 = 5
 ·subst c5; rw [if_pos rfl] at h; exact impl_isTermNum.at5 a0_1 a0_2 r w h
 rw [if_neg c5] at h
 cases h

end Go.Proofs.YthhhmcijbplcoaaGreatDoor.PFnRules
