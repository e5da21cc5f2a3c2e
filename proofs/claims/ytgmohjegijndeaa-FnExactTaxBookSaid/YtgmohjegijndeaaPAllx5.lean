-- Written by wip/tools/hp.py over the kit's print (not by hand): functions and walks of All.
import Derived.Test.YtgmohjegijndeaaPAllx0
import Derived.Test.YtgmohjegijndeaaPAllx4
namespace Go.Proofs.Ytgmohjegijndeaa.PAll
open Go.RowKit Go.Proofs.YtgmohjegijndeaaW.PrintWords Go.Proofs.YtgmohjegijndeaaW.PrintLast Go.Proofs.YtgmohjegijndeaaW.PrintMore
attribute [local go_sem] max2_int min2_int max_two min_two max_three min_three max_four min_four   -- for this text's walks alone
set_option linter.unusedVariables false
set_option linter.unusedSimpArgs false

/-! ### impl_TaxRowsOK: function 19, by hand -/
def impl_TaxRowsOK.p (r x : S66) : Option Bool := (impl_TaxRowsOK_1.f x.f0 x.f1 x.f2 x.f3 x.f4.f0 x.f4.f1 r.f0 r.f1 r.f2 r.f3 r.f4.f0 r.f4.f1).bind fun t => some t.1
def impl_TaxRowsOK.go (k : Nat) (rows : List S66) : List S66 → Nat → Option Bool
 | [], _ => some true
 | r :: rest, i => (impl_isTaxRow.f k r.f0 r.f1 r.f2 r.f3 r.f4.f0 r.f4.f1).bind fun ok => if ok = true then ((impl_TaxRow_48.f (impl_TaxRowsOK.p r) (rows.take i)).bind fun b => if b = true then some false else impl_TaxRowsOK.go k rows rest (i + 1)) else some false
def impl_TaxRowsOK.f (k : Nat) (l0 : List S66) : Option Bool := if (l0.length : Int) > 60 then some false else impl_TaxRowsOK.go k l0 l0 0
theorem impl_TaxRowsOK.mono_go (k : Nat) (rows : List S66) : ∀ l i, LeO (impl_TaxRowsOK.go k rows l i) (impl_TaxRowsOK.go (k + 1) rows l i)
 | [], _ => LeO.refl _
 | r :: rest, i => LeO.bind (impl_isTaxRow.mono _ _ _ _ _ _ k) (fun _ => LeO.ite (LeO.bind (LeO.refl _) (fun _ => LeO.ite (LeO.refl _) (impl_TaxRowsOK.mono_go k rows rest (i + 1)))) (LeO.refl _))
theorem impl_TaxRowsOK.mono : ∀ l0 k, LeO (impl_TaxRowsOK.f k l0) (impl_TaxRowsOK.f (k + 1) l0) := fun l0 k => LeO.ite (LeO.refl _) (impl_TaxRowsOK.mono_go k l0 l0 0)
theorem impl_TaxRowsOK.go_cons (k : Nat) (rows : List S66) (r : S66) (rest : List S66) (i : Nat) : impl_TaxRowsOK.go k rows (r :: rest) i = (impl_isTaxRow.f k r.f0 r.f1 r.f2 r.f3 r.f4.f0 r.f4.f1).bind fun ok => if ok = true then ((impl_TaxRow_48.f (impl_TaxRowsOK.p r) (rows.take i)).bind fun b => if b = true then some false else impl_TaxRowsOK.go k rows rest (i + 1)) else some false := rfl
set_option maxHeartbeats 8000000 in
set_option maxRecDepth 100000 in
theorem impl_TaxRowsOK.calls (k : Nat) (A0 : Option Addr) (c0 : Nat) (l0 : List S66) (r : Bool) (w : World) (hr0 : Kd.C k66 w A0 l0.length l0) (hc0 : l0.length ≤ c0) (h : impl_TaxRowsOK.f k l0 = some r) :
  Calls Try.prog 19 #[.slice A0 l0.length c0] w fun e w' => e = .returned (.bool r) ∧ Below w.heap.size w w' := by
 have hbig : l0.length ≤ 9223372036854775807 := hr0.2.1; have HR := Aside0.mk hr0; have HC := Aside0.mk hc0; clear hr0 hc0; unfold impl_TaxRowsOK.f at h; by_cases c1 : (l0.length : Int) > 60
 ·rw [if_pos c1] at h; obtain rfl := Option.some.inj h; have c1b : decide (60 < (l0.length : Int)) = true := decide_eq_true c1; have c1n : decide (60 < l0.length) = true := decide_eq_true (by omega); clear c1 h; go_enter Try.func19, Try.ntmps19; go_wp2; go_ret; exact ⟨rfl, Below.refl _ _⟩
 ·rw [if_neg c1] at h; have H := Aside0.mk h; have c1b : decide (60 < (l0.length : Int)) = false := decide_eq_false c1; have c1n : decide (60 < l0.length) = false := decide_eq_false (by omega); clear c1 h; go_enter Try.func19, Try.ntmps19; go_wp2
  go_loopg [10] l0.length (fun gg s10 wr => ∃ kk : Nat, kk ≤ l0.length ∧ l0.length - kk ≤ gg ∧ s10 = .int .i64 kk ∧ Aside0 (Below w.heap.size w wr) ∧ Aside0 (impl_TaxRowsOK.go k l0 (l0.drop kk) kk = some r))
  case atStart => exact ⟨0, Nat.zero_le _, by omega, rfl, ⟨Below.refl _ w⟩, ⟨H.out⟩⟩
  case round =>
   obtain ⟨kk, hkk, hg, rfl, BW, HF⟩ := hrel; by_cases hlt : kk < l0.length
   ·have hltz : (kk : Int) < (l0.length : Int) := by omega
    have hf := HF.out
    have hcons : l0.drop kk = rd_T66 l0 (kk : Int) :: l0.drop (kk + 1) := by
     rw [List.drop_eq_getElem_cons hlt]
     congr 1
     unfold rd_T66; rw [Int.toNat_natCast, List.getD_eq_getElem?_getD, List.getElem?_eq_getElem hlt]; rfl
    obtain ⟨ad, rfl, hx0, hx1, hx2, hx3, hx4, hx5⟩ := at_T66 (Kd.C_below HR.out BW.out) (kk : Int) (by omega) hltz; rw [hcons, impl_TaxRowsOK.go_cons] at hf; clear hcons; simp only [Int.toNat_natCast] at hx0 hx1 hx2 hx3 hx4 hx5; generalize hxx : rd_T66 l0 (kk : Int) = x_ at *; have HX := Aside0.mk hxx; clear hxx; obtain ⟨ok, hok, hf2⟩ := Option.bind_eq_some_iff.mp hf; have HOK := Aside0.mk hok; have HF2 := Aside0.mk hf2; clear hf hok hf2; have HT : Aside0 (Kd.C k66 wr (some ad) (l0.take kk).length (l0.take kk)) := Aside0.mk (Kd.C_take (Kd.C_below HR.out BW.out) (by omega))
    have hlen : (l0.take kk).length = kk := by rw [List.length_take]; omega
    have HLEN := Aside0.mk hlen; clear hlen
    have hkc : kk ≤ c0 := by have := HC.out; omega
    have hkn : (kk : Int) ≤ (c0 : Int) := by omega
    go_wp2_with fail
    refine (impl_isTaxRow.calls (k := k) (r := ok) (w := _) (h := HOK.out)).mono ?_; rintro e w1 ⟨rfl, hb1⟩
    have hb1' : Below (wr.heap.size + 1) (wr.alloc (.cells #[.int .i64 x_.f0, .string x_.f1, .int .i64 x_.f2, .int .i64 x_.f3, .int .i64 x_.f4.f0, .int .i64 x_.f4.f1] 66)) w1 := by simpa using hb1
    have hblk : w1.heap[wr.heap.size]? = some (.cells #[.int .i64 x_.f0, .string x_.f1, .int .i64 x_.f2, .int .i64 x_.f3, .int .i64 x_.f4.f0, .int .i64 x_.f4.f1] 66 (0, 0)) := blk_below (blk_new wr _) hb1; have B1 : Aside0 (Below wr.heap.size wr w1) := Aside0.mk (((Below.refl _ wr).alloc (Nat.le_refl _) _).trans (hb1.mono (by simp))); have HBLK := Aside0.mk hblk; clear hb1 hb1' hblk
    cases ok with
    | false =>
     have h2 := HF2.out; simp only [Bool.false_eq_true, if_false, Option.some.injEq] at h2; subst h2; go_wp2; go_ret; exact ⟨rfl, below_trans BW.out B1.out⟩
    | true =>
     have h2 := HF2.out; simp only [if_true] at h2; obtain ⟨b, hb, h3⟩ := Option.bind_eq_some_iff.mp h2; have HB2 := Aside0.mk hb; have H3 := Aside0.mk h3; clear h2 hb h3; have C := impl_TaxRow_48.calls (impl_TaxRowsOK.p x_) (l0.take kk) (some ad) c0 49 #[.pointer (some ⟨wr.heap.size, 0, none⟩)] b w1 (fun args w => enters_of Try.func49 (by kernel_rfl) rfl args w)
      (fun W y b_ hW hy => by
       obtain ⟨t, ht, h4⟩ := Option.bind_eq_some_iff.mp hy; obtain rfl : t.1 = b_ := Option.some.inj h4; have hWb : W.heap[wr.heap.size]? = some (.cells #[.int .i64 x_.f0, .string x_.f1, .int .i64 x_.f2, .int .i64 x_.f3, .int .i64 x_.f4.f0, .int .i64 x_.f4.f1] 66 (0, 0)) := blk_below HBLK.out hW
       have hs : t = (t.1, x_.f0, x_.f1, x_.f2, x_.f3, x_.f4.f0, x_.f4.f1) := by
        unfold impl_TaxRowsOK_1.f at ht
        repeat' split at ht
        all_goals (obtain rfl := Option.some.inj ht; rfl)
       rw [hs] at ht; have hB : Below wr.heap.size wr W := below_trans B1.out hW; refine (impl_TaxRowsOK_1.calls (w0 := wr) (w := W) (g := wr.heap.size) (hI := ⟨hWb, Nat.le_refl _⟩) (hB := hB) (h := ht)).mono ?_; rintro e w2 ⟨rfl, ⟨hI2, _⟩, hB2, hk2⟩
       exact ⟨rfl, below_keep hB hB2 hk2 hWb hI2⟩)
      (Kd.C_below HT.out B1.out) (by rw [HLEN.out]; exact hkc) HB2.out
     rw [HLEN.out] at C; have HCC := Aside0.mk C; clear C
     go_wp2_with fail
     refine HCC.out.mono ?_; rintro e w2 ⟨rfl, hb2⟩
     cases b with
     | true =>
      have h4 := H3.out; simp only [if_true, Option.some.injEq] at h4; subst h4; go_wp2; go_ret; exact ⟨rfl, below_trans (below_trans BW.out B1.out) hb2⟩
     | false =>
      have h4 := H3.out; simp only [Bool.false_eq_true, if_false] at h4; go_wp2
      go_roundg (l0.length - (kk + 1))
      case measure => omega
      case rel => exact ⟨kk + 1, by omega, by omega, by go_num, ⟨below_trans (below_trans BW.out B1.out) hb2⟩, ⟨h4⟩⟩
   ·have : kk = l0.length := by omega
    subst this
    have hltz : ¬ (l0.length : Int) < (l0.length : Int) := by omega
    have hf := HF.out; rw [List.drop_length] at hf; obtain rfl := Option.some.inj hf; clear hf; go_wp2; go_ret; exact ⟨rfl, BW.out⟩

/-! ### impl_TaxRow_29: function 29 -/
def impl_TaxRow_29.f (l0 : List (S66)) : Option (Bool) := some (decide ((l0.length : Int) ≤ 4096))
set_option maxHeartbeats 8000000 in
set_option maxRecDepth 100000 in
theorem impl_TaxRow_29.calls (A0 : Option Addr) (c0 : Nat) (l0 : List (S66)) (r : Bool) (w : World) (hr0 : Kd.C k66 w A0 l0.length l0) (hc0 : l0.length ≤ c0) (h : impl_TaxRow_29.f l0 = some r) :
  Calls Try.prog 29 #[.slice A0 l0.length c0] w fun e w' => e = .returned (.bool r) ∧ Drawn0 w w' := by
 have HR0 := Aside0.mk hr0; have HC0 := Aside0.mk hc0; clear hr0 hc0; have H : (some (decide ((l0.length : Int) ≤ 4096))) = some r := h; clear h; obtain rfl := Option.some.inj H; go_enter Try.func29, Try.ntmps29; go_wp2; go_ret; exact ⟨by first | rfl | (simp; done) | (simp [*]; done), by repeat (first | exact Drawn0.refl _ | apply Drawn0.step)⟩

/-! ### slices_IndexFunc_string_string: function 67, by hand, over whatever function value -/
def slices_IndexFunc_string_string.f (p : ByteArray → Option Bool) : List ByteArray → Int → Option Int
 | [], _ => some (-1)
 | x :: xs, i => (p x).bind fun b => if b = true then some i else slices_IndexFunc_string_string.f p xs (i + 1)
theorem slices_IndexFunc_string_string.cons (p : ByteArray → Option Bool) (x : ByteArray) (xs : List ByteArray) (i : Int) : slices_IndexFunc_string_string.f p (x :: xs) i = (p x).bind fun b => if b = true then some i else slices_IndexFunc_string_string.f p xs (i + 1) := rfl
theorem slices_IndexFunc_string_string.mono (p q : ByteArray → Option Bool) (h : ∀ x, LeO (p x) (q x)) : ∀ l i, LeO (slices_IndexFunc_string_string.f p l i) (slices_IndexFunc_string_string.f q l i)
 | [], _ => LeO.refl _
 | x :: xs, i => LeO.bind (h x) (fun b => LeO.ite (LeO.refl _) (slices_IndexFunc_string_string.mono p q h xs (i + 1)))
set_option maxHeartbeats 8000000 in
set_option maxRecDepth 100000 in
theorem slices_IndexFunc_string_string.calls (p : ByteArray → Option Bool) (l0 : List ByteArray) (A0 : Option Addr) (c0 : Nat) (g : Nat) (lb : Array Value) (r : Int) (w : World) (eg : ∀ args w, (callFunc g args).run Try.prog w = .ok (.enter g args) w)
  (hp : ∀ (W_ : World) (x_ : ByteArray) (b_ : Bool), Below w.heap.size w W_ → p x_ = some b_ → Calls Try.prog g (#[.string x_] ++ lb) W_ fun e w' => e = .returned (.bool b_) ∧ Below W_.heap.size W_ w')
  (hr0 : Kd.C Kd.string w A0 l0.length l0) (hc0 : l0.length ≤ c0) (h : slices_IndexFunc_string_string.f p l0 0 = some r) :
  Calls Try.prog 67 #[.slice A0 l0.length c0, .func (.func g) #[] lb] w fun e w' => e = .returned (.int .i64 r) ∧ Below w.heap.size w w' := by
 have hbig : l0.length ≤ 9223372036854775807 := hr0.2.1; have HP := Aside0.mk hp; have HR := Aside0.mk hr0; have H := Aside0.mk h; clear hp hr0 h; go_enter Try.func67, Try.ntmps67; go_wp2
 go_loopg [5, 8] l0.length (fun gg _ s8 wr => ∃ kk : Nat, kk ≤ l0.length ∧ l0.length - kk ≤ gg ∧ s8 = .int .i64 kk ∧ Aside0 (Below w.heap.size w wr) ∧ Aside0 (slices_IndexFunc_string_string.f p (l0.drop kk) kk = some r))
 case atStart => exact ⟨0, Nat.zero_le _, by omega, rfl, ⟨Below.refl _ w⟩, ⟨H.out⟩⟩
 case round =>
  obtain ⟨kk, hkk, hg, rfl, BW, HF⟩ := hrel; by_cases hlt : kk < l0.length
  ·have hltz : (kk : Int) < (l0.length : Int) := by omega
   have hf := HF.out
   have hcons : l0.drop kk = rdOf ByteArray.empty l0 (kk : Int) :: l0.drop (kk + 1) := by
    rw [List.drop_eq_getElem_cons hlt]
    congr 1
    unfold rdOf; rw [Int.toNat_natCast, List.getD_eq_getElem?_getD, List.getElem?_eq_getElem hlt]; rfl
   obtain ⟨ad, rfl, hx0⟩ := Kd.at_string (Kd.C_below HR.out BW.out) (kk : Int) (by omega) hltz; rw [hcons, slices_IndexFunc_string_string.cons] at hf; clear hcons; simp only [Int.toNat_natCast] at hx0; generalize hxx : rdOf ByteArray.empty l0 (kk : Int) = x_ at *; have HX := Aside0.mk hxx; clear hxx; obtain ⟨b, hb, hf2⟩ := Option.bind_eq_some_iff.mp hf; have hcall := HP.out wr x_ b BW.out hb; have HB := Aside0.mk hb; have HF2 := Aside0.mk hf2; clear hf hb hf2
   cases b with
   | true =>
    go_wp2_with (go_at_fn g; refine hcall.mono ?_; rintro e w' ⟨rfl, hb'⟩)
    go_ret; have hr_ := HF2.out; simp only [if_true, Option.some.injEq] at hr_; exact ⟨by rw [← hr_]; rfl, BW.out.trans (hb'.mono BW.out.size)⟩
   | false =>
    go_wp2_with (go_at_fn g; refine hcall.mono ?_; rintro e w' ⟨rfl, hb'⟩)
    go_roundg (l0.length - (kk + 1))
    case measure => omega
    case rel =>
     have hr_ := HF2.out; simp only [Bool.false_eq_true, if_false] at hr_; exact ⟨kk + 1, by omega, by omega, by go_num, ⟨BW.out.trans (hb'.mono BW.out.size)⟩, ⟨by rw [show ((kk + 1 : Nat) : Int) = (kk : Int) + 1 by omega]; exact hr_⟩⟩
  ·have hltz : ¬ (kk : Int) < (l0.length : Int) := by omega
   have : kk = l0.length := by omega
   subst this; have hf := HF.out; rw [List.drop_length] at hf; have hr_ : -1 = r := Option.some.inj hf; have HX := Aside0.mk hr_; clear hf hr_; go_wp2; go_ret; exact ⟨by rw [← HX.out]; rfl, BW.out⟩

/-! ### slices_ContainsFunc_string_string: function 54, by hand, over whatever function value -/
def slices_ContainsFunc_string_string.f (p : ByteArray → Option Bool) (l : List ByteArray) : Option Bool := (slices_IndexFunc_string_string.f p l 0).bind fun i => some (decide (i ≥ 0))
theorem slices_ContainsFunc_string_string.mono (p q : ByteArray → Option Bool) (h : ∀ x, LeO (p x) (q x)) (l : List ByteArray) : LeO (slices_ContainsFunc_string_string.f p l) (slices_ContainsFunc_string_string.f q l) := LeO.bind (slices_IndexFunc_string_string.mono p q h l 0) (fun _ => LeO.refl _)
set_option maxHeartbeats 8000000 in
set_option maxRecDepth 100000 in
theorem slices_ContainsFunc_string_string.calls (p : ByteArray → Option Bool) (l0 : List ByteArray) (A0 : Option Addr) (c0 : Nat) (g : Nat) (lb : Array Value) (r : Bool) (w : World) (eg : ∀ args w, (callFunc g args).run Try.prog w = .ok (.enter g args) w)
  (hp : ∀ (W_ : World) (x_ : ByteArray) (b_ : Bool), Below w.heap.size w W_ → p x_ = some b_ → Calls Try.prog g (#[.string x_] ++ lb) W_ fun e w' => e = .returned (.bool b_) ∧ Below W_.heap.size W_ w')
  (hr0 : Kd.C Kd.string w A0 l0.length l0) (hc0 : l0.length ≤ c0) (h : slices_ContainsFunc_string_string.f p l0 = some r) :
  Calls Try.prog 54 #[.slice A0 l0.length c0, .func (.func g) #[] lb] w fun e w' => e = .returned (.bool r) ∧ Below w.heap.size w w' := by
 obtain ⟨i, hi, h2⟩ := Option.bind_eq_some_iff.mp h; have hr_ : decide (i ≥ 0) = r := Option.some.inj h2; have C := slices_IndexFunc_string_string.calls p l0 A0 c0 g lb i w eg hp hr0 hc0 hi; have HR_ := Aside0.mk hr_; clear h hi h2 hp hr_; by_cases hpos : 0 ≤ i
 ·have hd : decide (0 ≤ i) = true := decide_eq_true hpos; go_enter Try.func54, Try.ntmps54
  go_wp2_with (go_at_call 67; refine C.mono ?_; rintro e w' ⟨rfl, hb'⟩)
  go_ret; exact ⟨by rw [← HR_.out, decide_eq_true (show i ≥ 0 by omega)]; rfl, hb'⟩
 ·have hd : decide (0 ≤ i) = false := decide_eq_false hpos; go_enter Try.func54, Try.ntmps54
  go_wp2_with (go_at_call 67; refine C.mono ?_; rintro e w' ⟨rfl, hb'⟩)
  go_ret; exact ⟨by rw [← HR_.out, decide_eq_false (show ¬ i ≥ 0 by omega)]; rfl, hb'⟩

/-! ### impl_areTexts_1: function 55 -/
def impl_areTexts_1.f (a0 : ByteArray) : Option (Bool) := some (decide ((a0.size : Int) > 65536))
set_option maxHeartbeats 8000000 in
set_option maxRecDepth 100000 in
theorem impl_areTexts_1.calls (a0 : ByteArray) (r : Bool) (w : World) (h : impl_areTexts_1.f a0 = some r) :
  Calls Try.prog 55 #[.string a0] w fun e w' => e = .returned (.bool r) ∧ Drawn0 w w' := by
 have H : (some (decide ((a0.size : Int) > 65536))) = some r := h; clear h; obtain rfl := Option.some.inj H; go_enter Try.func55, Try.ntmps55; go_wp2; go_ret; exact ⟨by first | rfl | (simp; done) | (simp [*]; done), by repeat (first | exact Drawn0.refl _ | apply Drawn0.step)⟩

/-! ### slices_ContainsFunc_string_string_impl_areTexts_1: function 54 at function 55 -/
def slices_ContainsFunc_string_string_impl_areTexts_1.f (l0 : List ByteArray) : Option Bool := slices_ContainsFunc_string_string.f (fun x_ => impl_areTexts_1.f x_) l0
set_option maxHeartbeats 8000000 in
set_option maxRecDepth 100000 in
theorem slices_ContainsFunc_string_string_impl_areTexts_1.calls (A0 : Option Addr) (c0 : Nat) (l0 : List ByteArray) (r : Bool) (w : World) (hr0 : Kd.C Kd.string w A0 l0.length l0) (hc0 : l0.length ≤ c0) (h : slices_ContainsFunc_string_string_impl_areTexts_1.f l0 = some r) :
    Calls Try.prog 54 #[.slice A0 l0.length c0, .func (.func 55) #[] #[]] w fun e w' => e = .returned (.bool r) ∧ Below w.heap.size w w' :=
  slices_ContainsFunc_string_string.calls (fun x_ => impl_areTexts_1.f x_) l0 A0 c0 55 #[] r w (fun args w => enters_of Try.func55 (by kernel_rfl) rfl args w)
    (fun W_ x_ b_ hW_ hb_ => (impl_areTexts_1.calls (a0 := x_) (r := b_) (w := W_) (h := hb_)).mono fun e w' hq => ⟨hq.1, by first | exact hq.2 | exact hq.2.below⟩)
    hr0 hc0 h

/-! ### impl_areTexts: function 30 -/
def impl_areTexts.f (l0 : List ByteArray) : Option (Bool) := (slices_ContainsFunc_string_string_impl_areTexts_1.f l0).bind fun t222 => (some (!t222))
set_option maxHeartbeats 8000000 in
set_option maxRecDepth 100000 in
theorem impl_areTexts.calls (A0 : Option Addr) (c0 : Nat) (l0 : List ByteArray) (r : Bool) (w : World) (hr0 : Kd.C Kd.string w A0 l0.length l0) (hc0 : l0.length ≤ c0) (h : impl_areTexts.f l0 = some r) :
  Calls Try.prog 30 #[.slice A0 l0.length c0] w fun e w' => e = .returned (.bool r) ∧ Below w.heap.size w w' := by
 have HR0 := Aside0.mk hr0; have HC0 := Aside0.mk hc0; clear hr0 hc0; have HB := Aside0.mk (Below.refl w.heap.size w); have H : ((slices_ContainsFunc_string_string_impl_areTexts_1.f l0).bind fun t222 => (some (!t222))) = some r := h; clear h; replace H := Option.bind_eq_some_iff.mp H; obtain ⟨t222, A20, H⟩ := H; replace H : (some (!t222)) = some r := H; have A2 := Aside0.mk A20; clear A20; obtain rfl := Option.some.inj H; go_enter Try.func30, Try.ntmps30
 go_wp2_with (first | ((with_reducible refine gate_callee (f := 54) rfl ?_); refine goesL_ (some 4) rfl rfl Try.func54 (by kernel_rfl) rfl #[.slice A0 l0.length c0, .func (.func 55) #[] #[]] rfl mq ?_; (with_reducible refine (slices_ContainsFunc_string_string_impl_areTexts_1.calls _ _ l0 t222 _ ?side1 ?side2 A2.out).mono ?_); (case side1 => repeat (first | exact HR0.out | (with_reducible refine Kd.C_alloc ?_ _) | (with_reducible refine Kd.C_drewN ?_ _) | (with_reducible refine Kd.C_drew ?_))); (case side2 => exact HC0.out); rintro e w3 ⟨rfl, hb⟩; refine ⟨_, rfl, ?_⟩; have n0_ := Aside0.mk (below_step (qb HB) hb); clear HB; have HB := n0_; clear n0_; (try clear hb); (try clear hb2); (try clear hk); (try clear hi)))
 go_ret; exact ⟨eqq, qb HB⟩

/-! ### impl_TaxLine_31: function 31 -/
def impl_TaxLine_31.f (l0 : List (S45)) : Option (Bool) := some (decide ((l0.length : Int) ≤ 4096))
set_option maxHeartbeats 8000000 in
set_option maxRecDepth 100000 in
theorem impl_TaxLine_31.calls (A0 : Option Addr) (c0 : Nat) (l0 : List (S45)) (r : Bool) (w : World) (hr0 : Kd.C k45 w A0 l0.length l0) (hc0 : l0.length ≤ c0) (h : impl_TaxLine_31.f l0 = some r) :
  Calls Try.prog 31 #[.slice A0 l0.length c0] w fun e w' => e = .returned (.bool r) ∧ Drawn0 w w' := by
 have HR0 := Aside0.mk hr0; have HC0 := Aside0.mk hc0; clear hr0 hc0; have H : (some (decide ((l0.length : Int) ≤ 4096))) = some r := h; clear h; obtain rfl := Option.some.inj H; go_enter Try.func31, Try.ntmps31; go_wp2; go_ret; exact ⟨by first | rfl | (simp; done) | (simp [*]; done), by repeat (first | exact Drawn0.refl _ | apply Drawn0.step)⟩

/-! ### impl_TaxLine_56: function 56, by hand, over whatever function value -/
def impl_TaxLine_56.f (p : S45 → Option Bool) : List S45 → Int → Option Int
 | [], _ => some (-1)
 | x :: xs, i => (p x).bind fun b => if b = true then some i else impl_TaxLine_56.f p xs (i + 1)
theorem impl_TaxLine_56.cons (p : S45 → Option Bool) (x : S45) (xs : List S45) (i : Int) : impl_TaxLine_56.f p (x :: xs) i = (p x).bind fun b => if b = true then some i else impl_TaxLine_56.f p xs (i + 1) := rfl
theorem impl_TaxLine_56.mono (p q : S45 → Option Bool) (h : ∀ x, LeO (p x) (q x)) : ∀ l i, LeO (impl_TaxLine_56.f p l i) (impl_TaxLine_56.f q l i)
 | [], _ => LeO.refl _
 | x :: xs, i => LeO.bind (h x) (fun b => LeO.ite (LeO.refl _) (impl_TaxLine_56.mono p q h xs (i + 1)))
set_option maxHeartbeats 8000000 in
set_option maxRecDepth 100000 in
theorem impl_TaxLine_56.calls (p : S45 → Option Bool) (l0 : List S45) (A0 : Option Addr) (c0 : Nat) (g : Nat) (lb : Array Value) (r : Int) (w : World) (eg : ∀ args w, (callFunc g args).run Try.prog w = .ok (.enter g args) w)
  (hp : ∀ (W_ : World) (x_ : S45) (b_ : Bool), Below w.heap.size w W_ → p x_ = some b_ → Calls Try.prog g (#[.agg #[.int .i64 x_.f0, .int .i64 x_.f1]] ++ lb) W_ fun e w' => e = .returned (.bool b_) ∧ Below W_.heap.size W_ w')
  (hr0 : Kd.C k45 w A0 l0.length l0) (hc0 : l0.length ≤ c0) (h : impl_TaxLine_56.f p l0 0 = some r) :
  Calls Try.prog 56 #[.slice A0 l0.length c0, .func (.func g) #[] lb] w fun e w' => e = .returned (.int .i64 r) ∧ Below w.heap.size w w' := by
 have hbig : l0.length ≤ 9223372036854775807 := hr0.2.1; have HP := Aside0.mk hp; have HR := Aside0.mk hr0; have H := Aside0.mk h; clear hp hr0 h; go_enter Try.func56, Try.ntmps56; go_wp2
 go_loopg [5, 8] l0.length (fun gg _ s8 wr => ∃ kk : Nat, kk ≤ l0.length ∧ l0.length - kk ≤ gg ∧ s8 = .int .i64 kk ∧ Aside0 (Below w.heap.size w wr) ∧ Aside0 (impl_TaxLine_56.f p (l0.drop kk) kk = some r))
 case atStart => exact ⟨0, Nat.zero_le _, by omega, rfl, ⟨Below.refl _ w⟩, ⟨H.out⟩⟩
 case round =>
  obtain ⟨kk, hkk, hg, rfl, BW, HF⟩ := hrel; by_cases hlt : kk < l0.length
  ·have hltz : (kk : Int) < (l0.length : Int) := by omega
   have hf := HF.out
   have hcons : l0.drop kk = rd_T45 l0 (kk : Int) :: l0.drop (kk + 1) := by
    rw [List.drop_eq_getElem_cons hlt]
    congr 1
    unfold rd_T45; rw [Int.toNat_natCast, List.getD_eq_getElem?_getD, List.getElem?_eq_getElem hlt]; rfl
   obtain ⟨ad, rfl, hx0, hx1⟩ := at_T45 (Kd.C_below HR.out BW.out) (kk : Int) (by omega) hltz; rw [hcons, impl_TaxLine_56.cons] at hf; clear hcons; simp only [Int.toNat_natCast] at hx0 hx1; generalize hxx : rd_T45 l0 (kk : Int) = x_ at *; have HX := Aside0.mk hxx; clear hxx; obtain ⟨b, hb, hf2⟩ := Option.bind_eq_some_iff.mp hf; have hcall := HP.out wr x_ b BW.out hb; have HB := Aside0.mk hb; have HF2 := Aside0.mk hf2; clear hf hb hf2
   cases b with
   | true =>
    go_wp2_with (go_at_fn g; refine hcall.mono ?_; rintro e w' ⟨rfl, hb'⟩)
    go_ret; have hr_ := HF2.out; simp only [if_true, Option.some.injEq] at hr_; exact ⟨by rw [← hr_]; rfl, BW.out.trans (hb'.mono BW.out.size)⟩
   | false =>
    go_wp2_with (go_at_fn g; refine hcall.mono ?_; rintro e w' ⟨rfl, hb'⟩)
    go_roundg (l0.length - (kk + 1))
    case measure => omega
    case rel =>
     have hr_ := HF2.out; simp only [Bool.false_eq_true, if_false] at hr_; exact ⟨kk + 1, by omega, by omega, by go_num, ⟨BW.out.trans (hb'.mono BW.out.size)⟩, ⟨by rw [show ((kk + 1 : Nat) : Int) = (kk : Int) + 1 by omega]; exact hr_⟩⟩
  ·have hltz : ¬ (kk : Int) < (l0.length : Int) := by omega
   have : kk = l0.length := by omega
   subst this; have hf := HF.out; rw [List.drop_length] at hf; have hr_ : -1 = r := Option.some.inj hf; have HX := Aside0.mk hr_; clear hf hr_; go_wp2; go_ret; exact ⟨by rw [← HX.out]; rfl, BW.out⟩

end Go.Proofs.Ytgmohjegijndeaa.PAll
