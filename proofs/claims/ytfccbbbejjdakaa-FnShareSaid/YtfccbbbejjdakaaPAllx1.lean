-- Written by wip/tools/hp.py over the kit's print (not by hand): functions and walks of All.
import Derived.Test.YtfccbbbejjdakaaPAllx0
namespace Go.Proofs.Ytfccbbbejjdakaa.PAll
open Go.RowKit Go.Proofs.YtfccbbbejjdakaaW.PrintWords Go.Proofs.YtfccbbbejjdakaaW.PrintLast Go.Proofs.YtfccbbbejjdakaaW.PrintMore
attribute [local go_sem] max2_int min2_int max_two min_two max_three min_three max_four min_four   -- for this text's walks alone
set_option linter.unusedVariables false
set_option linter.unusedSimpArgs false

/-! ### impl_isList_int: function 16 -/
def impl_isList_int.f (l0 : List Int) : Option (Bool) := some (decide ((l0.length : Int) ≤ 4096))
set_option maxHeartbeats 8000000 in
set_option maxRecDepth 100000 in
theorem impl_isList_int.calls (A0 : Option Addr) (c0 : Nat) (l0 : List Int) (r : Bool) (w : World) (hr0 : Kd.C (Kd.int .i64) w A0 l0.length l0) (hc0 : l0.length ≤ c0) (h : impl_isList_int.f l0 = some r) :
  Calls Try.prog 16 #[.slice A0 l0.length c0] w fun e w' => e = .returned (.bool r) ∧ Drawn0 w w' := by
 have HR0 := Aside0.mk hr0; have HC0 := Aside0.mk hc0; clear hr0 hc0; have H : (some (decide ((l0.length : Int) ≤ 4096))) = some r := h; clear h; obtain rfl := Option.some.inj H; go_enter Try.func16, Try.ntmps16; go_wp2; go_ret; exact ⟨by first | rfl | (simp; done) | (simp [*]; done), by repeat (first | exact Drawn0.refl _ | apply Drawn0.step)⟩

/-! ### impl_within: function 18 -/
def impl_within.f (a0 : Int) (a1 : Int) (a2 : Int) : Option (Bool) := if a0 ≥ a1 then (some (decide (a0 ≤ a2))) else (some false)
set_option maxHeartbeats 8000000 in
set_option maxRecDepth 100000 in
theorem impl_within.calls (a0 : Int) (a1 : Int) (a2 : Int) (r : Bool) (w : World) (h : impl_within.f a0 a1 a2 = some r) :
  Calls Try.prog 18 #[.int .i64 a0, .int .i64 a1, .int .i64 a2] w fun e w' => e = .returned (.bool r) ∧ Drawn0 w w' := by
 have H : (if a0 ≥ a1 then (some (decide (a0 ≤ a2))) else (some false)) = some r := h; clear h; by_cases c4 : a0 ≥ a1
 ·rw [if_pos c4] at H; have c4b0 : decide (a1 ≤ a0) = true := decide_eq_true c4; clear c4; obtain rfl := Option.some.inj H; go_enter Try.func18, Try.ntmps18; go_wp2; go_ret; exact ⟨by first | rfl | (simp; done) | (simp [*]; done), by repeat (first | exact Drawn0.refl _ | apply Drawn0.step)⟩
 ·rw [if_neg c4] at H; have c4b0 : decide (a1 ≤ a0) = false := decide_eq_false c4; clear c4; obtain rfl := Option.some.inj H; go_enter Try.func18, Try.ntmps18; go_wp2; go_ret; exact ⟨by first | rfl | (simp; done) | (simp [*]; done), by repeat (first | exact Drawn0.refl _ | apply Drawn0.step)⟩

/-! ### impl_isMoney: function 17 -/
def impl_isMoney.f (a0 : Int) : Option (Bool) := (impl_within.f a0 (-1000000000) 1000000000).bind fun t145 => (some t145)
set_option maxHeartbeats 8000000 in
set_option maxRecDepth 100000 in
theorem impl_isMoney.calls (a0 : Int) (r : Bool) (w : World) (h : impl_isMoney.f a0 = some r) :
  Calls Try.prog 17 #[.int .i64 a0] w fun e w' => e = .returned (.bool r) ∧ Drawn0 w w' := by
 have H : ((impl_within.f a0 (-1000000000) 1000000000).bind fun t145 => (some t145)) = some r := h; clear h; replace H := Option.bind_eq_some_iff.mp H; obtain ⟨t145, A20, H⟩ := H; replace H : (some t145) = some r := H; have A2 := Aside0.mk A20; clear A20; obtain rfl := Option.some.inj H; go_enter Try.func17, Try.ntmps17
 go_wp2_with (first | ((with_reducible refine gate_callee (f := 18) rfl ?_); refine goesL_ (some 4) rfl rfl Try.func18 (by kernel_rfl) rfl #[.int .i64 a0, .int .i64 (-1000000000), .int .i64 1000000000] rfl mq ?_; (with_reducible refine (impl_within.calls a0 (-1000000000) 1000000000 t145 _ A2.out).mono ?_); rintro e w' ⟨rfl, ⟨nd, rfl⟩⟩; refine ⟨_, rfl, ?_⟩))
 go_ret; exact ⟨by first | rfl | (simp; done) | (simp [*]; done), by repeat (first | exact Drawn0.refl _ | apply Drawn0.step)⟩

/-! ### slices_IndexFunc_int_int: function 29, by hand, over whatever function value -/
def slices_IndexFunc_int_int.f (p : Int → Option Bool) : List Int → Int → Option Int
 | [], _ => some (-1)
 | x :: xs, i => (p x).bind fun b => if b = true then some i else slices_IndexFunc_int_int.f p xs (i + 1)
theorem slices_IndexFunc_int_int.cons (p : Int → Option Bool) (x : Int) (xs : List Int) (i : Int) : slices_IndexFunc_int_int.f p (x :: xs) i = (p x).bind fun b => if b = true then some i else slices_IndexFunc_int_int.f p xs (i + 1) := rfl
theorem slices_IndexFunc_int_int.mono (p q : Int → Option Bool) (h : ∀ x, LeO (p x) (q x)) : ∀ l i, LeO (slices_IndexFunc_int_int.f p l i) (slices_IndexFunc_int_int.f q l i)
 | [], _ => LeO.refl _
 | x :: xs, i => LeO.bind (h x) (fun b => LeO.ite (LeO.refl _) (slices_IndexFunc_int_int.mono p q h xs (i + 1)))
set_option maxHeartbeats 8000000 in
set_option maxRecDepth 100000 in
theorem slices_IndexFunc_int_int.calls (p : Int → Option Bool) (l0 : List Int) (A0 : Option Addr) (c0 : Nat) (g : Nat) (lb : Array Value) (r : Int) (w : World) (eg : ∀ args w, (callFunc g args).run Try.prog w = .ok (.enter g args) w)
  (hp : ∀ (W_ : World) (x_ : Int) (b_ : Bool), Below w.heap.size w W_ → p x_ = some b_ → Calls Try.prog g (#[.int .i64 x_] ++ lb) W_ fun e w' => e = .returned (.bool b_) ∧ Below W_.heap.size W_ w')
  (hr0 : Kd.C (Kd.int .i64) w A0 l0.length l0) (hc0 : l0.length ≤ c0) (h : slices_IndexFunc_int_int.f p l0 0 = some r) :
  Calls Try.prog 29 #[.slice A0 l0.length c0, .func (.func g) #[] lb] w fun e w' => e = .returned (.int .i64 r) ∧ Below w.heap.size w w' := by
 have hbig : l0.length ≤ 9223372036854775807 := hr0.2.1; have HP := Aside0.mk hp; have HR := Aside0.mk hr0; have H := Aside0.mk h; clear hp hr0 h; go_enter Try.func29, Try.ntmps29; go_wp2
 go_loopg [5, 8] l0.length (fun gg _ s8 wr => ∃ kk : Nat, kk ≤ l0.length ∧ l0.length - kk ≤ gg ∧ s8 = .int .i64 kk ∧ Aside0 (Below w.heap.size w wr) ∧ Aside0 (slices_IndexFunc_int_int.f p (l0.drop kk) kk = some r))
 case atStart => exact ⟨0, Nat.zero_le _, by omega, rfl, ⟨Below.refl _ w⟩, ⟨H.out⟩⟩
 case round =>
  obtain ⟨kk, hkk, hg, rfl, BW, HF⟩ := hrel; by_cases hlt : kk < l0.length
  ·have hltz : (kk : Int) < (l0.length : Int) := by omega
   have hf := HF.out
   have hcons : l0.drop kk = rd l0 (kk : Int) :: l0.drop (kk + 1) := by
    rw [List.drop_eq_getElem_cons hlt]
    congr 1
    unfold rd; rw [Int.toNat_natCast, List.getD_eq_getElem?_getD, List.getElem?_eq_getElem hlt]; rfl
   obtain ⟨ad, rfl, hx0⟩ := Kd.at_int (Kd.C_below HR.out BW.out) (kk : Int) (by omega) hltz; rw [hcons, slices_IndexFunc_int_int.cons] at hf; clear hcons; simp only [Int.toNat_natCast] at hx0; generalize hxx : rd l0 (kk : Int) = x_ at *; have HX := Aside0.mk hxx; clear hxx; obtain ⟨b, hb, hf2⟩ := Option.bind_eq_some_iff.mp hf; have hcall := HP.out wr x_ b BW.out hb; have HB := Aside0.mk hb; have HF2 := Aside0.mk hf2; clear hf hb hf2
   cases b with
   | true =>
    go_wp2_with (go_at_fn g; refine hcall.mono ?_; rintro e w' ⟨rfl, hb'⟩)
    go_ret; have hr_ := HF2.out; simp only [if_true, Option.some.injEq] at hr_; exact ⟨by rw [← hr_]; rfl, BW.out.trans (hb'.mono BW.out.size)⟩
   | false =>
    go_wp2_with (go_at_fn g; refine hcall.mono ?_; rintro e w' ⟨rfl, hb'⟩)
    go_roundg (l0.length - (kk + 1))
    case measure => omega
    case rel =>
     have hr_ := HF2.out; simp only [Bool.false_eq_true, if_false] at hr_; exact ⟨kk + 1, by omega, by omega, by go_num, ⟨BW.out.trans (hb'.mono BW.out.size)⟩, ⟨by rw [show ((kk + 1 : Nat) : Int) = (kk : Int) + 1 by omega]; exact hr_⟩⟩
  ·have hltz : ¬ (kk : Int) < (l0.length : Int) := by omega
   have : kk = l0.length := by omega
   subst this; have hf := HF.out; rw [List.drop_length] at hf; have hr_ : -1 = r := Option.some.inj hf; have HX := Aside0.mk hr_; clear hf hr_; go_wp2; go_ret; exact ⟨by rw [← HX.out]; rfl, BW.out⟩

/-! ### slices_ContainsFunc_int_int: function 19, by hand, over whatever function value -/
def slices_ContainsFunc_int_int.f (p : Int → Option Bool) (l : List Int) : Option Bool := (slices_IndexFunc_int_int.f p l 0).bind fun i => some (decide (i ≥ 0))
theorem slices_ContainsFunc_int_int.mono (p q : Int → Option Bool) (h : ∀ x, LeO (p x) (q x)) (l : List Int) : LeO (slices_ContainsFunc_int_int.f p l) (slices_ContainsFunc_int_int.f q l) := LeO.bind (slices_IndexFunc_int_int.mono p q h l 0) (fun _ => LeO.refl _)
set_option maxHeartbeats 8000000 in
set_option maxRecDepth 100000 in
theorem slices_ContainsFunc_int_int.calls (p : Int → Option Bool) (l0 : List Int) (A0 : Option Addr) (c0 : Nat) (g : Nat) (lb : Array Value) (r : Bool) (w : World) (eg : ∀ args w, (callFunc g args).run Try.prog w = .ok (.enter g args) w)
  (hp : ∀ (W_ : World) (x_ : Int) (b_ : Bool), Below w.heap.size w W_ → p x_ = some b_ → Calls Try.prog g (#[.int .i64 x_] ++ lb) W_ fun e w' => e = .returned (.bool b_) ∧ Below W_.heap.size W_ w')
  (hr0 : Kd.C (Kd.int .i64) w A0 l0.length l0) (hc0 : l0.length ≤ c0) (h : slices_ContainsFunc_int_int.f p l0 = some r) :
  Calls Try.prog 19 #[.slice A0 l0.length c0, .func (.func g) #[] lb] w fun e w' => e = .returned (.bool r) ∧ Below w.heap.size w w' := by
 obtain ⟨i, hi, h2⟩ := Option.bind_eq_some_iff.mp h; have hr_ : decide (i ≥ 0) = r := Option.some.inj h2; have C := slices_IndexFunc_int_int.calls p l0 A0 c0 g lb i w eg hp hr0 hc0 hi; have HR_ := Aside0.mk hr_; clear h hi h2 hp hr_; by_cases hpos : 0 ≤ i
 ·have hd : decide (0 ≤ i) = true := decide_eq_true hpos; go_enter Try.func19, Try.ntmps19
  go_wp2_with (go_at_call 29; refine C.mono ?_; rintro e w' ⟨rfl, hb'⟩)
  go_ret; exact ⟨by rw [← HR_.out, decide_eq_true (show i ≥ 0 by omega)]; rfl, hb'⟩
 ·have hd : decide (0 ≤ i) = false := decide_eq_false hpos; go_enter Try.func19, Try.ntmps19
  go_wp2_with (go_at_call 29; refine C.mono ?_; rintro e w' ⟨rfl, hb'⟩)
  go_ret; exact ⟨by rw [← HR_.out, decide_eq_false (show ¬ i ≥ 0 by omega)]; rfl, hb'⟩

/-! ### impl_Share_1: function 20 -/
def impl_Share_1.f (a0 : Int) : Option (Bool) := (impl_within.f a0 0 1000000).bind fun t146 => (some (!t146))
set_option maxHeartbeats 8000000 in
set_option maxRecDepth 100000 in
theorem impl_Share_1.calls (a0 : Int) (r : Bool) (w : World) (h : impl_Share_1.f a0 = some r) :
  Calls Try.prog 20 #[.int .i64 a0] w fun e w' => e = .returned (.bool r) ∧ Drawn0 w w' := by
 have H : ((impl_within.f a0 0 1000000).bind fun t146 => (some (!t146))) = some r := h; clear h; replace H := Option.bind_eq_some_iff.mp H; obtain ⟨t146, A20, H⟩ := H; replace H : (some (!t146)) = some r := H; have A2 := Aside0.mk A20; clear A20; obtain rfl := Option.some.inj H; go_enter Try.func20, Try.ntmps20
 go_wp2_with (first | ((with_reducible refine gate_callee (f := 18) rfl ?_); refine goesL_ (some 4) rfl rfl Try.func18 (by kernel_rfl) rfl #[.int .i64 a0, .int .i64 0, .int .i64 1000000] rfl mq ?_; (with_reducible refine (impl_within.calls a0 0 1000000 t146 _ A2.out).mono ?_); rintro e w' ⟨rfl, ⟨nd, rfl⟩⟩; refine ⟨_, rfl, ?_⟩))
 go_ret; exact ⟨by first | rfl | (simp; done) | (simp [*]; done), by repeat (first | exact Drawn0.refl _ | apply Drawn0.step)⟩

/-! ### impl_sumOf: function 21 -/
def impl_sumOf.l0 : Nat → Int → List Int → Int → Int → Option (Int)
 | 0, _, _, _, _ => none
 | k + 1, x3, x6, x7, x8 => if x8 < x7 then (if 0 ≤ x8 then (if x8 < (x6.length : Int) then (impl_sumOf.l0 k (wrap64 (x3 + (rd x6 x8))) x6 x7 (wrap64 (x8 + 1))) else (none)) else (none)) else (some x3)
def impl_sumOf.f (k : Nat) (l0 : List Int) : Option (Int) := impl_sumOf.l0 k 0 l0 (l0.length : Int) 0
theorem impl_sumOf.mono_l : ∀ k, (∀ y0 y1 y2 y3, LeO (impl_sumOf.l0 k y0 y1 y2 y3) (impl_sumOf.l0 (k + 1) y0 y1 y2 y3))
 | 0 => fun _ _ _ _ r h => by simp [impl_sumOf.l0] at h
 | k + 1 => by
  have ih0 := impl_sumOf.mono_l k
  ·intro y0 y1 y2 y3; unfold impl_sumOf.l0
   repeat' first
   | (with_reducible exact ih0 _ _ _ _)
   | (with_reducible exact LeO.refl _)
   | (with_reducible exact LeO.none _)
   | (with_reducible refine LeO.ite ?_ ?_)
   | (with_reducible refine LeO.bind ?_ (fun _ => ?_))
   | exact ih0 _ _ _ _
   | exact LeO.none _
   | refine LeO.ite ?_ ?_
   | refine LeO.bind ?_ (fun _ => ?_)
theorem impl_sumOf.mono : ∀ a0 k, LeO (impl_sumOf.f k a0) (impl_sumOf.f (k + 1) a0) := by
 intro a0 k; have ih0 := impl_sumOf.mono_l k; unfold impl_sumOf.f
 repeat' first
   | (with_reducible exact ih0 _ _ _ _)
   | (with_reducible exact LeO.refl _)
   | (with_reducible exact LeO.none _)
   | (with_reducible refine LeO.ite ?_ ?_)
   | (with_reducible refine LeO.bind ?_ (fun _ => ?_))
   | exact ih0 _ _ _ _
   | exact LeO.none _
   | refine LeO.ite ?_ ?_
   | refine LeO.bind ?_ (fun _ => ?_)
set_option maxHeartbeats 8000000 in
set_option maxRecDepth 100000 in
theorem impl_sumOf.calls (k : Nat) (A0 : Option Addr) (c0 : Nat) (l0 : List Int) (r : Int) (w : World) (hr0 : Kd.C (Kd.int .i64) w A0 l0.length l0) (hc0 : l0.length ≤ c0) (h : impl_sumOf.f k l0 = some r) :
  Calls Try.prog 21 #[.slice A0 l0.length c0] w fun e w' => e = .returned (.int .i64 r) ∧ Drawn0 w w' := by
 have HR0 := Aside0.mk hr0; have HC0 := Aside0.mk hc0; clear hr0 hc0; have H : (impl_sumOf.l0 k 0 l0 (l0.length : Int) 0) = some r := h; clear h; have H' := Aside0.mk H; clear H; go_enter Try.func21, Try.ntmps21; go_wp2
 go_loopg [3, 8] k (fun kq v3 v8 w' => ∃ (x3_1 : Int) (x8_1 : Int), v3 = .int .i64 x3_1 ∧ v8 = .int .i64 x8_1 ∧ Aside0 (impl_sumOf.l0 kq x3_1 l0 (l0.length : Int) x8_1 = some r) ∧ Aside0 (kq ≤ k) ∧ Drawn0 w w')
 case atStart => exact ⟨(0), (0), (by first | rfl | (simp; done) | (simp [*]; done)), (by first | rfl | (simp; done) | (simp [*]; done)), H', ⟨Nat.le_refl _⟩, by repeat (first | exact Drawn0.refl _ | apply Drawn0.step)⟩
 case round =>
  clear H'; obtain ⟨x3_1, x8_1, rfl, rfl, HA, HK1, ⟨m1, rfl⟩⟩ := hrel
  cases gk with
  | zero => exact absurd HA.out (by simp [impl_sumOf.l0])
  | succ k1 =>
   have H := HA.out; clear HA; simp only [impl_sumOf.l0] at H; by_cases c2 : x8_1 < (l0.length : Int)
   ·rw [if_pos c2] at H; have c2b0 : decide (x8_1 < (l0.length : Int)) = true := decide_eq_true c2; clear c2; by_cases c3 : 0 ≤ x8_1
    ·rw [if_pos c3] at H; have c3b0 : decide (0 ≤ x8_1) = true := decide_eq_true c3; clear c3; by_cases c4 : x8_1 < (l0.length : Int)
     ·rw [if_pos c4] at H; have c4b0 : decide (x8_1 < (l0.length : Int)) = true := decide_eq_true c4; clear c4; have H' := Aside0.mk H; clear H; have p147 : 0 ≤ (x8_1 : Int) := of_decide_eq_true (by first | (with_reducible assumption) | assumption); have q147 : x8_1 < (l0.length : Int) := of_decide_eq_true (by first | (with_reducible assumption) | assumption); obtain ⟨ad147, e147, hx147_0⟩ := Kd.at_int HR0.out x8_1 p147 q147
      cases e147
      replace p147 := eq_true p147; replace q147 := eq_true q147; go_wp2
      go_roundg k1
      case measure => have := HK1.out; omega
      case rel => exact ⟨(wrap64 (x3_1 + (rd l0 x8_1))), (wrap64 (x8_1 + 1)), (by first | rfl | (simp; done) | (simp [*]; done)), (by first | rfl | (simp; done) | (simp [*]; done)), H', ⟨by have := HK1.out; omega⟩, by repeat (first | exact Drawn0.refl _ | apply Drawn0.step)⟩
     ·rw [if_neg c4] at H; exact absurd H (by simp)
    ·rw [if_neg c3] at H; exact absurd H (by simp)
   ·rw [if_neg c2] at H; have c2b0 : decide (x8_1 < (l0.length : Int)) = false := decide_eq_false c2; clear c2; obtain rfl := Option.some.inj H; go_wp2; go_ret; exact ⟨by first | rfl | (simp; done) | (simp [*]; done), by repeat (first | exact Drawn0.refl _ | apply Drawn0.step)⟩

/-! ### impl_sizeOf: function 22 -/
def impl_sizeOf.f (a0 : Int) : Option (Int) := some (mx a0 (wrap64 (-a0)))
set_option maxHeartbeats 8000000 in
set_option maxRecDepth 100000 in
theorem impl_sizeOf.calls (a0 : Int) (r : Int) (w : World) (h : impl_sizeOf.f a0 = some r) :
  Calls Try.prog 22 #[.int .i64 a0] w fun e w' => e = .returned (.int .i64 r) ∧ Below w.heap.size w w' := by
 have HB := Aside0.mk (Below.refl w.heap.size w); have H : (some (mx a0 (wrap64 (-a0)))) = some r := h; clear h; obtain ⟨ji2, hji2⟩ : ∃ j_ : Int, (mx a0 (wrap64 (-a0))) = j_ := ⟨_, rfl⟩
 replace H : (some ji2) = some r := by first | (rw [hji2] at H; exact H) | (simp only [hji2] at H ⊢; exact H)
 have hji2_ : (if a0 < (wrap64 (-a0)) then (wrap64 (-a0)) else a0) = ji2 := hji2; obtain rfl := Option.some.inj H; go_enter Try.func22, Try.ntmps22; go_wp2; go_ret; exact ⟨by first | rfl | (simp [errW_none, errW_some] <;> rfl) | (simp only [← hji2]; first | rfl | (simp [errW_none, errW_some] <;> rfl)) | (simp [*, errW_none, errW_some] <;> rfl), qb HB⟩

end Go.Proofs.Ytfccbbbejjdakaa.PAll
