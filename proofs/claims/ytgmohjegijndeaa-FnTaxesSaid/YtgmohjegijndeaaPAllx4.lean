-- Written by wip/tools/hp.py over the kit's print (not by hand): functions and walks of All.
import Derived.Test.YtgmohjegijndeaaPAllx0
import Derived.Test.YtgmohjegijndeaaPAllx1
import Derived.Test.YtgmohjegijndeaaPAllx2
namespace Go.Proofs.Ytgmohjegijndeaa.PAll
open Go.RowKit Go.Proofs.YtgmohjegijndeaaW.PrintWords Go.Proofs.YtgmohjegijndeaaW.PrintLast Go.Proofs.YtgmohjegijndeaaW.PrintMore
attribute [local go_sem] max2_int min2_int max_two min_two max_three min_three max_four min_four   -- for this text's walks alone
set_option linter.unusedVariables false
set_option linter.unusedSimpArgs false

/-! ### impl_TaxLine_31: function 31 -/
def impl_TaxLine_31.f (l0 : List (S45)) : Option (Bool) := some (decide ((l0.length : Int) ≤ 4096))
set_option maxHeartbeats 8000000 in
set_option maxRecDepth 100000 in
theorem impl_TaxLine_31.calls (A0 : Option Addr) (c0 : Nat) (l0 : List (S45)) (r : Bool) (w : World) (hr0 : Kd.C k45 w A0 l0.length l0) (hc0 : l0.length ≤ c0) (h : impl_TaxLine_31.f l0 = some r) :
  Calls Try.prog 31 #[.slice A0 l0.length c0] w fun e w' => e = .returned (.bool r) ∧ Drawn0 w w' := by
 have HR0 := Aside0.mk hr0; have HC0 := Aside0.mk hc0; clear hr0 hc0; have H : (some (decide ((l0.length : Int) ≤ 4096))) = some r := h; clear h; obtain rfl := Option.some.inj H; go_enter Try.func31, Try.ntmps31; go_wp2; go_ret; exact ⟨by first | rfl | (simp; done) | (simp [*]; done), by repeat (first | exact Drawn0.refl _ | apply Drawn0.step)⟩

/-! ### impl_TaxLine_56: function 56, by hand, over whatever function value -/
def impl_TaxLine_56.f (p : S45 → Option Bool) : List S45 → Int → Option Int
 | [], _ => some (-1)
 | x :: xs, i => (p x).bind fun b => if b = true then some i else impl_TaxLine_56.f p xs (i + 1)
theorem impl_TaxLine_56.cons (p : S45 → Option Bool) (x : S45) (xs : List S45) (i : Int) : impl_TaxLine_56.f p (x :: xs) i = (p x).bind fun b => if b = true then some i else impl_TaxLine_56.f p xs (i + 1) := rfl
theorem impl_TaxLine_56.mono (p q : S45 → Option Bool) (h : ∀ x, LeO (p x) (q x)) : ∀ l i, LeO (impl_TaxLine_56.f p l i) (impl_TaxLine_56.f q l i)
 | [], _ => LeO.refl _
 | x :: xs, i => LeO.bind (h x) (fun b => LeO.ite (LeO.refl _) (impl_TaxLine_56.mono p q h xs (i + 1)))
set_option maxHeartbeats 8000000 in
set_option maxRecDepth 100000 in
theorem impl_TaxLine_56.calls (p : S45 → Option Bool) (l0 : List S45) (A0 : Option Addr) (c0 : Nat) (g : Nat) (lb : Array Value) (r : Int) (w : World) (eg : ∀ args w, (callFunc g args).run Try.prog w = .ok (.enter g args) w)
  (hp : ∀ (W_ : World) (x_ : S45) (b_ : Bool), Below w.heap.size w W_ → p x_ = some b_ → Calls Try.prog g (#[.agg #[.int .i64 x_.f0, .int .i64 x_.f1]] ++ lb) W_ fun e w' => e = .returned (.bool b_) ∧ Below W_.heap.size W_ w')
  (hr0 : Kd.C k45 w A0 l0.length l0) (hc0 : l0.length ≤ c0) (h : impl_TaxLine_56.f p l0 0 = some r) :
  Calls Try.prog 56 #[.slice A0 l0.length c0, .func (.func g) #[] lb] w fun e w' => e = .returned (.int .i64 r) ∧ Below w.heap.size w w' := by
 have hbig : l0.length ≤ 9223372036854775807 := hr0.2.1; have HP := Aside0.mk hp; have HR := Aside0.mk hr0; have H := Aside0.mk h; clear hp hr0 h; go_enter Try.func56, Try.ntmps56; go_wp2
 go_loopg [5, 8] l0.length (fun gg _ s8 wr => ∃ kk : Nat, kk ≤ l0.length ∧ l0.length - kk ≤ gg ∧ s8 = .int .i64 kk ∧ Aside0 (Below w.heap.size w wr) ∧ Aside0 (impl_TaxLine_56.f p (l0.drop kk) kk = some r))
 case atStart => exact ⟨0, Nat.zero_le _, by omega, rfl, ⟨Below.refl _ w⟩, ⟨H.out⟩⟩
 case round =>
  obtain ⟨kk, hkk, hg, rfl, BW, HF⟩ := hrel; by_cases hlt : kk < l0.length
  ·have hltz : (kk : Int) < (l0.length : Int) := by omega
   have hf := HF.out
   have hcons : l0.drop kk = rd_T45 l0 (kk : Int) :: l0.drop (kk + 1) := by
    rw [List.drop_eq_getElem_cons hlt]
    congr 1
    unfold rd_T45; rw [Int.toNat_natCast, List.getD_eq_getElem?_getD, List.getElem?_eq_getElem hlt]; rfl
   obtain ⟨ad, rfl, hx0, hx1⟩ := at_T45 (Kd.C_below HR.out BW.out) (kk : Int) (by omega) hltz; rw [hcons, impl_TaxLine_56.cons] at hf; clear hcons; simp only [Int.toNat_natCast] at hx0 hx1; generalize hxx : rd_T45 l0 (kk : Int) = x_ at *; have HX := Aside0.mk hxx; clear hxx; obtain ⟨b, hb, hf2⟩ := Option.bind_eq_some_iff.mp hf; have hcall := HP.out wr x_ b BW.out hb; have HB := Aside0.mk hb; have HF2 := Aside0.mk hf2; clear hf hb hf2
   cases b with
   | true =>
    go_wp2_with (go_at_fn g; refine hcall.mono ?_; rintro e w' ⟨rfl, hb'⟩)
    go_ret; have hr_ := HF2.out; simp only [if_true, Option.some.injEq] at hr_; exact ⟨by rw [← hr_]; rfl, BW.out.trans (hb'.mono BW.out.size)⟩
   | false =>
    go_wp2_with (go_at_fn g; refine hcall.mono ?_; rintro e w' ⟨rfl, hb'⟩)
    go_roundg (l0.length - (kk + 1))
    case measure => omega
    case rel =>
     have hr_ := HF2.out; simp only [Bool.false_eq_true, if_false] at hr_; exact ⟨kk + 1, by omega, by omega, by go_num, ⟨BW.out.trans (hb'.mono BW.out.size)⟩, ⟨by rw [show ((kk + 1 : Nat) : Int) = (kk : Int) + 1 by omega]; exact hr_⟩⟩
  ·have hltz : ¬ (kk : Int) < (l0.length : Int) := by omega
   have : kk = l0.length := by omega
   subst this; have hf := HF.out; rw [List.drop_length] at hf; have hr_ : -1 = r := Option.some.inj hf; have HX := Aside0.mk hr_; clear hf hr_; go_wp2; go_ret; exact ⟨by rw [← HX.out]; rfl, BW.out⟩

/-! ### impl_TaxLine_32: function 32, by hand, over whatever function value -/
def impl_TaxLine_32.f (p : S45 → Option Bool) (l : List S45) : Option Bool := (impl_TaxLine_56.f p l 0).bind fun i => some (decide (i ≥ 0))
theorem impl_TaxLine_32.mono (p q : S45 → Option Bool) (h : ∀ x, LeO (p x) (q x)) (l : List S45) : LeO (impl_TaxLine_32.f p l) (impl_TaxLine_32.f q l) := LeO.bind (impl_TaxLine_56.mono p q h l 0) (fun _ => LeO.refl _)
set_option maxHeartbeats 8000000 in
set_option maxRecDepth 100000 in
theorem impl_TaxLine_32.calls (p : S45 → Option Bool) (l0 : List S45) (A0 : Option Addr) (c0 : Nat) (g : Nat) (lb : Array Value) (r : Bool) (w : World) (eg : ∀ args w, (callFunc g args).run Try.prog w = .ok (.enter g args) w)
  (hp : ∀ (W_ : World) (x_ : S45) (b_ : Bool), Below w.heap.size w W_ → p x_ = some b_ → Calls Try.prog g (#[.agg #[.int .i64 x_.f0, .int .i64 x_.f1]] ++ lb) W_ fun e w' => e = .returned (.bool b_) ∧ Below W_.heap.size W_ w')
  (hr0 : Kd.C k45 w A0 l0.length l0) (hc0 : l0.length ≤ c0) (h : impl_TaxLine_32.f p l0 = some r) :
  Calls Try.prog 32 #[.slice A0 l0.length c0, .func (.func g) #[] lb] w fun e w' => e = .returned (.bool r) ∧ Below w.heap.size w w' := by
 obtain ⟨i, hi, h2⟩ := Option.bind_eq_some_iff.mp h; have hr_ : decide (i ≥ 0) = r := Option.some.inj h2; have C := impl_TaxLine_56.calls p l0 A0 c0 g lb i w eg hp hr0 hc0 hi; have HR_ := Aside0.mk hr_; clear h hi h2 hp hr_; by_cases hpos : 0 ≤ i
 ·have hd : decide (0 ≤ i) = true := decide_eq_true hpos; go_enter Try.func32, Try.ntmps32
  go_wp2_with (go_at_call 56; refine C.mono ?_; rintro e w' ⟨rfl, hb'⟩)
  go_ret; exact ⟨by rw [← HR_.out, decide_eq_true (show i ≥ 0 by omega)]; rfl, hb'⟩
 ·have hd : decide (0 ≤ i) = false := decide_eq_false hpos; go_enter Try.func32, Try.ntmps32
  go_wp2_with (go_at_call 56; refine C.mono ?_; rintro e w' ⟨rfl, hb'⟩)
  go_ret; exact ⟨by rw [← HR_.out, decide_eq_false (show ¬ i ≥ 0 by omega)]; rfl, hb'⟩

/-! ### impl_isMoney: function 35 -/
def impl_isMoney.f (a0 : Int) : Option (Bool) := (impl_within.f a0 (-1000000000) 1000000000).bind fun t223 => (some t223)
set_option maxHeartbeats 8000000 in
set_option maxRecDepth 100000 in
theorem impl_isMoney.calls (a0 : Int) (r : Bool) (w : World) (h : impl_isMoney.f a0 = some r) :
  Calls Try.prog 35 #[.int .i64 a0] w fun e w' => e = .returned (.bool r) ∧ Drawn0 w w' := by
 have H : ((impl_within.f a0 (-1000000000) 1000000000).bind fun t223 => (some t223)) = some r := h; clear h; replace H := Option.bind_eq_some_iff.mp H; obtain ⟨t223, A20, H⟩ := H; replace H : (some t223) = some r := H; have A2 := Aside0.mk A20; clear A20; obtain rfl := Option.some.inj H; go_enter Try.func35, Try.ntmps35
 go_wp2_with (first | ((with_reducible refine gate_callee (f := 34) rfl ?_); refine goesL_ (some 4) rfl rfl Try.func34 (by kernel_rfl) rfl #[.int .i64 a0, .int .i64 (-1000000000), .int .i64 1000000000] rfl mq ?_; (with_reducible refine (impl_within.calls a0 (-1000000000) 1000000000 t223 _ A2.out).mono ?_); rintro e w' ⟨rfl, ⟨nd, rfl⟩⟩; refine ⟨_, rfl, ?_⟩))
 go_ret; exact ⟨by first | rfl | (simp; done) | (simp [*]; done), by repeat (first | exact Drawn0.refl _ | apply Drawn0.step)⟩

/-! ### impl_TaxBook_1: function 33 -/
def impl_TaxBook_1.f (a0_0 : Int) (a0_1 : Int) : Option (Bool) := (impl_within.f a0_0 1 9).bind fun t225 => (if t225 = true then ((impl_isMoney.f a0_1).bind fun t226 => (some (!t226))) else (some true))
set_option maxHeartbeats 8000000 in
set_option maxRecDepth 100000 in
theorem impl_TaxBook_1.calls (a0_0 : Int) (a0_1 : Int) (r : Bool) (w : World) (h : impl_TaxBook_1.f a0_0 a0_1 = some r) :
  Calls Try.prog 33 #[.agg #[.int .i64 a0_0, .int .i64 a0_1]] w fun e w' => e = .returned (.bool r) ∧ Below w.heap.size w w' := by
 have hu45 := Try.underlying45; have HB := Aside0.mk (Below.refl w.heap.size w); have H : ((impl_within.f a0_0 1 9).bind fun t225 => (if t225 = true then ((impl_isMoney.f a0_1).bind fun t226 => (some (!t226))) else (some true))) = some r := h; clear h; replace H := Option.bind_eq_some_iff.mp H; obtain ⟨t225, A20, H⟩ := H; replace H : (if t225 = true then ((impl_isMoney.f a0_1).bind fun t226 => (some (!t226))) else (some true)) = some r := H; have A2 := Aside0.mk A20; clear A20; by_cases c3 : t225 = true
 ·subst c3
  have H1 : ((impl_isMoney.f a0_1).bind fun t226 => (some (!t226))) = some r := by rw [if_pos rfl] at H; exact H
  clear H; have H := H1; clear H1; replace H := Option.bind_eq_some_iff.mp H; obtain ⟨t226, A40, H⟩ := H; replace H : (some (!t226)) = some r := H; have A4 := Aside0.mk A40; clear A40; obtain rfl := Option.some.inj H; go_enter Try.func33, Try.ntmps33
  go_wp2_with (first | ((with_reducible refine gate_dst (N := 1) rfl ?_); refine box_event ?hg (N := 1) ?hd (cs := #[.int .i64 a0_0, .int .i64 a0_1]) (t := 45) ?hr ?_; (case hd => rfl); (case hg => rfl); (case hr => first | (go_simp; done) | (go_simp; rfl)); intro gb224 hg w5 hbox hb; have n0_ := Aside0.mk (below_step (qb HB) hb); have n1_ := Aside0.mk (hbox); have n2_ := Aside0.mk ((by rw [hg]; exact (below_size (qb HB)) : w.heap.size ≤ gb224)); have n3_ := Aside0.mk ((by rw [hg]; exact (below_size (qb HB)) : w.heap.size ≤ gb224)); clear HB; have HB := n0_; have BK224 := n1_; have GW224 := n2_; have GE224 := n3_; clear n0_ n1_ n2_ n3_; clear hb hbox hg; obtain ⟨hcz6_0, hcz6_1, hfz6_0, hfz6_1⟩ := bz2 BK224) | ((with_reducible refine gate_callee (f := 34) rfl ?_); refine goesL_ (some 5) rfl rfl Try.func34 (by kernel_rfl) rfl #[.int .i64 a0_0, .int .i64 1, .int .i64 9] rfl mq ?_; (with_reducible refine (impl_within.calls a0_0 1 9 true _ A2.out).mono ?_); rintro e w' ⟨rfl, ⟨nd, rfl⟩⟩; refine ⟨_, rfl, ?_⟩) | (go_at_call 35; (with_reducible refine (impl_isMoney.calls a0_1 t226 _ A4.out).mono ?_); rintro e w' ⟨rfl, ⟨nd, rfl⟩⟩))
  go_ret; exact ⟨eqq, qb HB⟩
 ·replace c3 := Bool.eq_false_iff.mpr c3; subst c3
  have H1 : (some true) = some r := by rw [if_neg (show ¬ (false = true) by decide)] at H; exact H
  clear H; have H := H1; clear H1; obtain rfl := Option.some.inj H; go_enter Try.func33, Try.ntmps33
  go_wp2_with (first | ((with_reducible refine gate_dst (N := 1) rfl ?_); refine box_event ?hg (N := 1) ?hd (cs := #[.int .i64 a0_0, .int .i64 a0_1]) (t := 45) ?hr ?_; (case hd => rfl); (case hg => rfl); (case hr => first | (go_simp; done) | (go_simp; rfl)); intro gb224 hg w7 hbox hb; have n0_ := Aside0.mk (below_step (qb HB) hb); have n1_ := Aside0.mk (hbox); have n2_ := Aside0.mk ((by rw [hg]; exact (below_size (qb HB)) : w.heap.size ≤ gb224)); have n3_ := Aside0.mk ((by rw [hg]; exact (below_size (qb HB)) : w.heap.size ≤ gb224)); clear HB; have HB := n0_; have BK224 := n1_; have GW224 := n2_; have GE224 := n3_; clear n0_ n1_ n2_ n3_; clear hb hbox hg; obtain ⟨hcz8_0, hcz8_1, hfz8_0, hfz8_1⟩ := bz2 BK224) | ((with_reducible refine gate_callee (f := 34) rfl ?_); refine goesL_ (some 5) rfl rfl Try.func34 (by kernel_rfl) rfl #[.int .i64 a0_0, .int .i64 1, .int .i64 9] rfl mq ?_; (with_reducible refine (impl_within.calls a0_0 1 9 false _ A2.out).mono ?_); rintro e w' ⟨rfl, ⟨nd, rfl⟩⟩; refine ⟨_, rfl, ?_⟩))
  go_ret; exact ⟨eqq, qb HB⟩

/-! ### impl_taxAt_1: function 58, by hand -/
def impl_taxAt_1.p (c : Int) (own : ByteArray) (day : Int) (x : S66) : Option Bool :=
 if x.f0 = c then (if x.f1.toList = own.toList then (impl_within.f day x.f2 (wrap64 (x.f3 - 1))) else some false) else some false
set_option maxHeartbeats 8000000 in
set_option maxRecDepth 100000 in
theorem impl_taxAt_1.calls (c : Int) (own : ByteArray) (day : Int) (x : S66) (g1 g2 g3 : Nat) (r : Bool) (w : World) (h1 : w.cell? ⟨g1, 0, none⟩ = some (.int .i64 c)) (h2 : w.cell? ⟨g2, 0, none⟩ = some (.string own)) (h3 : w.cell? ⟨g3, 0, none⟩ = some (.int .i64 day)) (h : impl_taxAt_1.p c own day x = some r) :
  Calls Try.prog 58 #[.agg #[.int .i64 x.f0, .string x.f1, .int .i64 x.f2, .int .i64 x.f3, .int .i64 x.f4.f0, .int .i64 x.f4.f1], .pointer (some ⟨g1, 0, none⟩), .pointer (some ⟨g2, 0, none⟩), .pointer (some ⟨g3, 0, none⟩)] w fun e w' => e = .returned (.bool r) ∧ Below w.heap.size w w' := by
 have k1 : ∀ o, (w.alloc o).cell? ⟨g1, 0, none⟩ = some (.int .i64 c) := fun o => (World.cell?_alloc_lt _ _ _ (World.block_lt_of_cell? _ _ h1)).trans h1
 have k2 : ∀ o, (w.alloc o).cell? ⟨g2, 0, none⟩ = some (.string own) := fun o => (World.cell?_alloc_lt _ _ _ (World.block_lt_of_cell? _ _ h2)).trans h2
 have k3 : ∀ o, (w.alloc o).cell? ⟨g3, 0, none⟩ = some (.int .i64 day) := fun o => (World.cell?_alloc_lt _ _ _ (World.block_lt_of_cell? _ _ h3)).trans h3
 clear h1 h2 h3; unfold impl_taxAt_1.p at h; by_cases a : x.f0 = c
 ·rw [if_pos a] at h; by_cases b : x.f1.toList = own.toList
  ·rw [if_pos b] at h; have H := Aside0.mk h; have ab : (x.f0 == c) = true := beq_iff_eq.mpr a; have bb : (x.f1.toList == own.toList) = true := beq_iff_eq.mpr b; clear h a b; go_enter Try.func58, Try.ntmps58
   go_wp2_with fail
   refine (impl_within.calls (r := r) (w := _) (h := H.out)).mono ?_; rintro e w1 ⟨rfl, ⟨nd, rfl⟩⟩; go_wp2; go_ret; exact ⟨rfl, pw_below_drewN ((Below.refl _ w).alloc (Nat.le_refl _) _) _⟩
  ·rw [if_neg b] at h; have ab : (x.f0 == c) = true := beq_iff_eq.mpr a; have bb : (x.f1.toList == own.toList) = false := beq_eq_false_iff_ne.mpr b; obtain rfl := Option.some.inj h; clear h a b; go_enter Try.func58, Try.ntmps58; go_wp2; go_ret; exact ⟨rfl, (Below.refl _ w).alloc (Nat.le_refl _) _⟩
 ·rw [if_neg a] at h; have ab : (x.f0 == c) = false := beq_eq_false_iff_ne.mpr a; obtain rfl := Option.some.inj h; clear h a; go_enter Try.func58, Try.ntmps58; go_wp2; go_ret; exact ⟨rfl, (Below.refl _ w).alloc (Nat.le_refl _) _⟩

/-! ### impl_taxAt: function 36, by hand -/
def impl_taxAt.go (l0 : List S66) (a1 : Int) (a3 : Int) : List ByteArray → Option (Int × Int × Int)
 | [] => some (0, 0, 8)
 | own :: rest => (impl_TaxRow_57.f (impl_taxAt_1.p a1 own a3) l0 0).bind fun i =>
  if i ≥ 0 then (if i < (l0.length : Int) then some ((rd_T66 l0 i).f4.f0, (rd_T66 l0 i).f4.f1, 0) else none) else impl_taxAt.go l0 a1 a3 rest
theorem impl_taxAt.go_cons (l0 : List S66) (a1 : Int) (a3 : Int) (own : ByteArray) (rest : List ByteArray) : impl_taxAt.go l0 a1 a3 (own :: rest) = (impl_TaxRow_57.f (impl_taxAt_1.p a1 own a3) l0 0).bind fun i =>
  if i ≥ 0 then (if i < (l0.length : Int) then some ((rd_T66 l0 i).f4.f0, (rd_T66 l0 i).f4.f1, 0) else none) else impl_taxAt.go l0 a1 a3 rest := rfl
def impl_taxAt.f (l0 : List S66) (a1 : Int) (a2 : ByteArray) (a3 : Int) : Option (Int × Int × Int) := impl_taxAt.go l0 a1 a3 [a2, (⟨#[]⟩ : ByteArray)]
set_option maxHeartbeats 8000000 in
set_option maxRecDepth 100000 in
theorem impl_taxAt.calls (A0 : Option Addr) (c0 : Nat) (l0 : List S66) (a1 : Int) (a2 : ByteArray) (a3 : Int) (r1 : Int) (r2 : Int) (r3 : Int) (w : World) (hr0 : Kd.C k66 w A0 l0.length l0) (hc0 : l0.length ≤ c0) (h : impl_taxAt.f l0 a1 a2 a3 = some (r1, r2, r3)) :
  Calls Try.prog 36 #[.slice A0 l0.length c0, .int .i64 a1, .string a2, .int .i64 a3] w fun e w' => e = .returned (.tuple #[.agg #[.int .i64 r1, .int .i64 r2], .int .i64 r3]) ∧ Below w.heap.size w w' := by
 have hu40 := Try.underlying49; have HR := Aside0.mk hr0; have HC := Aside0.mk hc0; have H := Aside0.mk h; clear hr0 hc0 h; go_enter Try.func36, Try.ntmps36; go_wp2
 have B4 : Aside0 (Below w.heap.size w ((((w.alloc (.cells #[.int .i64 a1] 3)).alloc (.cells #[.int .i64 a3] 3)).alloc (.cells #[.int .i64 0, .int .i64 0] 49)).alloc (.cells #[.string a2, .string ⟨#[]⟩] 9))) :=
  Aside0.mk ((((Below.refl _ w).alloc (Nat.le_refl _) _).alloc (by simp) _).alloc (by simp; omega) _ |>.alloc (by simp; omega) _)
 have b1 : Aside0 (((((w.alloc (.cells #[.int .i64 a1] 3)).alloc (.cells #[.int .i64 a3] 3)).alloc (.cells #[.int .i64 0, .int .i64 0] 49)).alloc (.cells #[.string a2, .string ⟨#[]⟩] 9)).heap[w.heap.size]? = some (.cells #[.int .i64 a1] 3 (0, 0))) :=
  Aside0.mk (blk_alloc (blk_alloc (blk_alloc (blk_new w _) _) _) _)
 have b2 : Aside0 (((((w.alloc (.cells #[.int .i64 a1] 3)).alloc (.cells #[.int .i64 a3] 3)).alloc (.cells #[.int .i64 0, .int .i64 0] 49)).alloc (.cells #[.string a2, .string ⟨#[]⟩] 9)).heap[w.heap.size + 1]? = some (.cells #[.int .i64 a3] 3 (0, 0))) :=
  Aside0.mk (blk_alloc (blk_alloc (by simpa using blk_new (w.alloc (.cells #[.int .i64 a1] 3)) (.cells #[.int .i64 a3] 3)) _) _)
 have b3 : Aside0 (((((w.alloc (.cells #[.int .i64 a1] 3)).alloc (.cells #[.int .i64 a3] 3)).alloc (.cells #[.int .i64 0, .int .i64 0] 49)).alloc (.cells #[.string a2, .string ⟨#[]⟩] 9)).heap[w.heap.size + 1 + 1]? = some (.cells #[.int .i64 0, .int .i64 0] 49 (0, 0))) :=
  Aside0.mk (blk_alloc (by simpa using blk_new ((w.alloc (.cells #[.int .i64 a1] 3)).alloc (.cells #[.int .i64 a3] 3)) (.cells #[.int .i64 0, .int .i64 0] 49)) _)
 have b4 : Aside0 (((((w.alloc (.cells #[.int .i64 a1] 3)).alloc (.cells #[.int .i64 a3] 3)).alloc (.cells #[.int .i64 0, .int .i64 0] 49)).alloc (.cells #[.string a2, .string ⟨#[]⟩] 9)).heap[w.heap.size + 1 + 1 + 1]? = some (.cells #[.string a2, .string ⟨#[]⟩] 9 (0, 0))) :=
  Aside0.mk (by simpa using blk_new (((w.alloc (.cells #[.int .i64 a1] 3)).alloc (.cells #[.int .i64 a3] 3)).alloc (.cells #[.int .i64 0, .int .i64 0] 49)) (.cells #[.string a2, .string ⟨#[]⟩] 9))
 generalize (((w.alloc (.cells #[.int .i64 a1] 3)).alloc (.cells #[.int .i64 a3] 3)).alloc (.cells #[.int .i64 0, .int .i64 0] 49)).alloc (.cells #[.string a2, .string ⟨#[]⟩] 9) = w4 at *
 go_loopg [16] 2 (fun gg s16 wr => ∃ kk : Nat, kk ≤ 2 ∧ 2 - kk ≤ gg ∧ s16 = .int .i64 kk ∧ Aside0 (Below w4.heap.size w4 wr) ∧ Aside0 (impl_taxAt.go l0 a1 a3 ([a2, (⟨#[]⟩ : ByteArray)].drop kk) = some (r1, r2, r3)))
 case atStart => exact ⟨0, by omega, by omega, rfl, ⟨Below.refl _ _⟩, ⟨H.out⟩⟩
 case round =>
  obtain ⟨kk, hkk, hg, rfl, BW, HF⟩ := hrel; by_cases hlt : kk < 2
  ·have key : ∃ own, [a2, (⟨#[]⟩ : ByteArray)].drop kk = own :: [a2, (⟨#[]⟩ : ByteArray)].drop (kk + 1) ∧ wr.cell? ⟨w.heap.size + 1 + 1 + 1, kk, none⟩ = some (.string own) := by
    have hb := blk_below b4.out BW.out
    match kk, hlt with
    | 0, _ => exact ⟨a2, rfl, (blk_cell hb 0).trans rfl⟩
    | 1, _ => exact ⟨_, rfl, (blk_cell hb 1).trans rfl⟩
   obtain ⟨own, hdrop, hcell⟩ := key; have hf := HF.out; rw [hdrop, impl_taxAt.go_cons] at hf; obtain ⟨i, hi, h2⟩ := Option.bind_eq_some_iff.mp hf; have HI := Aside0.mk hi; have H2 := Aside0.mk h2; clear hf hdrop hi h2
   have hltz : (kk : Int) < 2 := by omega
   have BA : Aside0 (Below w.heap.size w (wr.alloc (.cells #[.string own] 9))) := Aside0.mk ((B4.out.trans (BW.out.mono B4.out.size)).alloc (Nat.le_trans B4.out.size BW.out.size) _); have C := impl_TaxRow_57.calls (impl_taxAt_1.p a1 own a3) l0 A0 c0 58 #[.pointer (some ⟨w.heap.size, 0, none⟩), .pointer (some ⟨wr.heap.size, 0, none⟩), .pointer (some ⟨w.heap.size + 1, 0, none⟩)] i (wr.alloc (.cells #[.string own] 9)) (fun args w => enters_of Try.func58 (by kernel_rfl) rfl args w)
    (fun W y b_ hW hy => by
     have hW0 : Below w4.heap.size w4 W := (BW.out.alloc BW.out.size _).trans (hW.mono (Nat.le_trans BW.out.size (by simp)))
     exact impl_taxAt_1.calls a1 own a3 y w.heap.size wr.heap.size (w.heap.size + 1) b_ W ((blk_cell (blk_below b1.out hW0) 0).trans rfl) ((blk_cell (blk_below (blk_new wr _) hW) 0).trans rfl) ((blk_cell (blk_below b2.out hW0) 0).trans rfl) hy)
    (Kd.C_below HR.out BA.out) HC.out HI.out
   have HCC := Aside0.mk C; clear C
   go_wp2_with fail
   refine HCC.out.mono ?_; rintro e w5 ⟨rfl, hb5⟩; have hb5' : Below w4.heap.size w4 w5 := (BW.out.alloc BW.out.size _).trans (hb5.mono (Nat.le_trans BW.out.size (by simp))); have BW5 := Aside0.mk hb5'; clear hb5 hb5' hcell; by_cases hpos : i ≥ 0
   ·have h2 := H2.out; rw [if_pos hpos] at h2; by_cases hin : i < (l0.length : Int)
    ·rw [if_pos hin] at h2; have hd : decide (0 ≤ i) = true := decide_eq_true hpos; have hpos' : 0 ≤ i := hpos; obtain ⟨ad, rfl, hx0, hx1, hx2, hx3, hx4, hx5⟩ := at_T66 (Kd.C_below HR.out (B4.out.trans (BW5.out.mono B4.out.size))) i hpos hin; have hblk := blk_below b3.out BW5.out; have d0 := (blk_cell hblk 0).trans rfl; have d1 := (blk_cell hblk 1).trans rfl; have f0 := blk_frozen hblk 0; have f1 := blk_frozen hblk 1; have HBLK := Aside0.mk hblk; simp only [Option.some.injEq, Prod.mk.injEq] at h2; obtain ⟨rfl, rfl, rfl⟩ := h2; clear hblk hx0 hx1 hx2 hx3 hpos; go_wp2; refine bodyPost_ret (results_ct rfl _ _ (w.heap.size + 1 + 1) 49 #[.int .i64 (rd_T66 l0 i).f4.f0, .int .i64 (rd_T66 l0 i).f4.f1] (0, 0) _ rfl (by simpa using blk_set (blk_set HBLK.out 0 (.int .i64 (rd_T66 l0 i).f4.f0)) 1 (.int .i64 (rd_T66 l0 i).f4.f1)) Try.underlying49 rfl (by kernel_rfl)) rfl ?_; exact ⟨rfl, ((B4.out.trans (BW5.out.mono B4.out.size)).setCell (p := ⟨w.heap.size + 1 + 1, 0, none⟩) (by show w.heap.size ≤ w.heap.size + 1 + 1; omega) _).setCell (p := ⟨w.heap.size + 1 + 1, 1, none⟩) (by show w.heap.size ≤ w.heap.size + 1 + 1; omega) _⟩
    ·rw [if_neg hin] at h2; cases h2
   ·have h2 := H2.out; rw [if_neg hpos] at h2; have hd : decide (0 ≤ i) = false := decide_eq_false (by omega); clear hpos; have H3 := Aside0.mk h2; clear h2; go_wp2
    go_roundg (2 - (kk + 1))
    case measure => omega
    case rel => exact ⟨kk + 1, by omega, by omega, by go_num, ⟨BW5.out⟩, ⟨H3.out⟩⟩
  ·have : kk = 2 := by omega
   subst this
   have hltz : ¬ ((2 : Nat) : Int) < 2 := by omega
   have h2 := HF.out; simp only [List.drop_succ_cons, List.drop_zero, impl_taxAt.go, Option.some.injEq, Prod.mk.injEq] at h2; obtain ⟨rfl, rfl, rfl⟩ := h2; have hblk := blk_below b3.out BW.out; have d0 := (blk_cell hblk 0).trans rfl; have d1 := (blk_cell hblk 1).trans rfl; have f0 := blk_frozen hblk 0; have f1 := blk_frozen hblk 1; have HBLK := Aside0.mk hblk; clear hblk; go_wp2; refine bodyPost_ret (results_ct rfl _ _ (w.heap.size + 1 + 1) 49 #[.int .i64 0, .int .i64 0] (0, 0) _ rfl (by simpa using blk_set (blk_set HBLK.out 0 (.int .i64 0)) 1 (.int .i64 0)) Try.underlying49 rfl (by kernel_rfl)) rfl ?_; exact ⟨rfl, ((B4.out.trans (BW.out.mono B4.out.size)).setCell (p := ⟨w.heap.size + 1 + 1, 0, none⟩) (by show w.heap.size ≤ w.heap.size + 1 + 1; omega) _).setCell (p := ⟨w.heap.size + 1 + 1, 1, none⟩) (by show w.heap.size ≤ w.heap.size + 1 + 1; omega) _⟩

/-! ### impl_floorOf: function 68 -/
def impl_floorOf.f (a0 : Int) (a1 : Int) : Option (Int × Int) := if a1 = 0 then (none) else (if (Int.tmod a0 a1) < 0 then (some (wrap64 ((wrap64 (Int.tdiv a0 a1)) - 1), wrap64 ((Int.tmod a0 a1) + a1))) else (some (wrap64 (Int.tdiv a0 a1), Int.tmod a0 a1)))
set_option maxHeartbeats 8000000 in
set_option maxRecDepth 100000 in
theorem impl_floorOf.calls (a0 : Int) (a1 : Int) (r1 : Int) (r2 : Int) (w : World) (h : impl_floorOf.f a0 a1 = some (r1, r2)) :
  Calls Try.prog 68 #[.int .i64 a0, .int .i64 a1] w fun e w' => e = .returned (.tuple #[.int .i64 r1, .int .i64 r2]) ∧ Drawn0 w w' := by
 have H : (if a1 = 0 then (none) else (if (Int.tmod a0 a1) < 0 then (some (wrap64 ((wrap64 (Int.tdiv a0 a1)) - 1), wrap64 ((Int.tmod a0 a1) + a1))) else (some (wrap64 (Int.tdiv a0 a1), Int.tmod a0 a1)))) = some (r1, r2) := h; clear h; by_cases c3 : a1 = 0
 ·rw [if_pos c3] at H; exact absurd H (by simp)
 ·rw [if_neg c3] at H; have c3b0 : (a1 == 0) = false := beq_eq_false_iff_ne.mpr c3; have c3b1 : (a1 != 0) = true := bne_iff_ne.mpr c3; by_cases c4 : (Int.tmod a0 a1) < 0
  ·rw [if_pos c4] at H; have c4b0 : decide ((Int.tmod a0 a1) < 0) = true := decide_eq_true c4; clear c4; simp only [Option.some.injEq, Prod.mk.injEq] at H; obtain ⟨rfl, rfl⟩ := H; go_enter Try.func68, Try.ntmps68; go_wp2
   repeat (go_quiet (fail); try go_wp2)
   go_ret2; exact ⟨by first | rfl | (simp; done) | (simp [*]; done), by repeat (first | exact Drawn0.refl _ | apply Drawn0.step)⟩
  ·rw [if_neg c4] at H; have c4b0 : decide ((Int.tmod a0 a1) < 0) = false := decide_eq_false c4; clear c4; simp only [Option.some.injEq, Prod.mk.injEq] at H; obtain ⟨rfl, rfl⟩ := H; go_enter Try.func68, Try.ntmps68; go_wp2
   repeat (go_quiet (fail); try go_wp2)
   go_ret2; exact ⟨by first | rfl | (simp; done) | (simp [*]; done), by repeat (first | exact Drawn0.refl _ | apply Drawn0.step)⟩

end Go.Proofs.Ytgmohjegijndeaa.PAll
