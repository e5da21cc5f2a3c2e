-- Written by wip/tools/hp.py over the kit's print (not by hand): functions and walks of All.
import Derived.Test.YtgmohjegijndeaaPAllx0
import Derived.Test.YtgmohjegijndeaaPAllx2
namespace Go.Proofs.Ytgmohjegijndeaa.PAll
open Go.RowKit Go.Proofs.YtgmohjegijndeaaW.PrintWords Go.Proofs.YtgmohjegijndeaaW.PrintLast Go.Proofs.YtgmohjegijndeaaW.PrintMore
attribute [local go_sem] max2_int min2_int max_two min_two max_three min_three max_four min_four   -- for this text's walks alone
set_option linter.unusedVariables false
set_option linter.unusedSimpArgs false

/-! ### impl_TaxRow_48: function 48, by hand, over whatever function value -/
def impl_TaxRow_48.f (p : S66 → Option Bool) (l : List S66) : Option Bool := (impl_TaxRow_57.f p l 0).bind fun i => some (decide (i ≥ 0))
theorem impl_TaxRow_48.mono (p q : S66 → Option Bool) (h : ∀ x, LeO (p x) (q x)) (l : List S66) : LeO (impl_TaxRow_48.f p l) (impl_TaxRow_48.f q l) := LeO.bind (impl_TaxRow_57.mono p q h l 0) (fun _ => LeO.refl _)
set_option maxHeartbeats 8000000 in
set_option maxRecDepth 100000 in
theorem impl_TaxRow_48.calls (p : S66 → Option Bool) (l0 : List S66) (A0 : Option Addr) (c0 : Nat) (g : Nat) (lb : Array Value) (r : Bool) (w : World) (eg : ∀ args w, (callFunc g args).run Try.prog w = .ok (.enter g args) w)
  (hp : ∀ (W_ : World) (x_ : S66) (b_ : Bool), Below w.heap.size w W_ → p x_ = some b_ → Calls Try.prog g (#[.agg #[.int .i64 x_.f0, .string x_.f1, .int .i64 x_.f2, .int .i64 x_.f3, .int .i64 x_.f4.f0, .int .i64 x_.f4.f1]] ++ lb) W_ fun e w' => e = .returned (.bool b_) ∧ Below W_.heap.size W_ w')
  (hr0 : Kd.C k66 w A0 l0.length l0) (hc0 : l0.length ≤ c0) (h : impl_TaxRow_48.f p l0 = some r) :
  Calls Try.prog 48 #[.slice A0 l0.length c0, .func (.func g) #[] lb] w fun e w' => e = .returned (.bool r) ∧ Below w.heap.size w w' := by
 obtain ⟨i, hi, h2⟩ := Option.bind_eq_some_iff.mp h; have hr_ : decide (i ≥ 0) = r := Option.some.inj h2; have C := impl_TaxRow_57.calls p l0 A0 c0 g lb i w eg hp hr0 hc0 hi; have HR_ := Aside0.mk hr_; clear h hi h2 hp hr_; by_cases hpos : 0 ≤ i
 ·have hd : decide (0 ≤ i) = true := decide_eq_true hpos; go_enter Try.func48, Try.ntmps48
  go_wp2_with (go_at_call 57; refine C.mono ?_; rintro e w' ⟨rfl, hb'⟩)
  go_ret; exact ⟨by rw [← HR_.out, decide_eq_true (show i ≥ 0 by omega)]; rfl, hb'⟩
 ·have hd : decide (0 ≤ i) = false := decide_eq_false hpos; go_enter Try.func48, Try.ntmps48
  go_wp2_with (go_at_call 57; refine C.mono ?_; rintro e w' ⟨rfl, hb'⟩)
  go_ret; exact ⟨by rw [← HR_.out, decide_eq_false (show ¬ i ≥ 0 by omega)]; rfl, hb'⟩

/-- A state of type 66 at block g of W; what its slices lead to came in by w0. -/
def IsS66 (w0 W : World) (g : Nat) (f0 : Int) (f1 : ByteArray) (f2 : Int) (f3 : Int) (f4 : Int) (f5 : Int) : Prop := W.heap[g]? = some (.cells #[.int .i64 f0, .string f1, .int .i64 f2, .int .i64 f3, .int .i64 f4, .int .i64 f5] 66 (0, 0)) ∧ w0.heap.size ≤ g
theorem IsS66.grown {w0 W : World} {g : Nat} {f0 : Int} {f1 : ByteArray} {f2 : Int} {f3 : Int} {f4 : Int} {f5 : Int} {W1 : World} {row : Option Nat} (h : IsS66 w0 W g f0 f1 f2 f3 f4 f5) (hw : W.grownBy W1 row) (hne : some g ≠ row) : IsS66 w0 W1 g f0 f1 f2 f3 f4 f5 := by
 obtain ⟨hb, hg⟩ := h; exact ⟨blk_grown hb hw hne, hg⟩
theorem IsS66.own_neN {w0 W : World} {g : Nat} {f0 : Int} {f1 : ByteArray} {f2 : Int} {f3 : Int} {f4 : Int} {f5 : Int} {α : Type} {d : Kd α} {e : Nat} {base : Nat} {ok : Nat → Prop} {v : Value} {xs : List α} (h : IsS66 w0 W g f0 f1 f2 f3 f4 f5) (ho : Kd.N d e W base ok v xs) (ht : e ≠ 66) : some g ≠ v.ownBlock := by
 obtain ⟨hb, hg⟩ := h; exact Kd.N_ne ho hb ht
theorem IsS66.fresh {w0 W : World} {g : Nat} {f0 : Int} {f1 : ByteArray} {f2 : Int} {f3 : Int} {f4 : Int} {f5 : Int} (h : IsS66 w0 W g f0 f1 f2 f3 f4 f5) : ∀ k, W.heap.size ≤ k → k ≠ g := by
 obtain ⟨hb, hg⟩ := h; exact Kd.freshB hb
theorem IsS66.kept {w0 W : World} {g : Nat} {f0 : Int} {f1 : ByteArray} {f2 : Int} {f3 : Int} {f4 : Int} {f5 : Int} {W1 : World} {S : Nat → Prop} (h : IsS66 w0 W g f0 f1 f2 f3 f4 f5) (hk : Kept W W1 S) (hne : ¬ S g) : IsS66 w0 W1 g f0 f1 f2 f3 f4 f5 := by
 obtain ⟨hb, hg⟩ := h; exact ⟨blk_kept hb hk hne, hg⟩
theorem IsS66.below {w0 W : World} {g : Nat} {f0 : Int} {f1 : ByteArray} {f2 : Int} {f3 : Int} {f4 : Int} {f5 : Int} {W1 : World} (h : IsS66 w0 W g f0 f1 f2 f3 f4 f5) (hw : Below W.heap.size W W1) : IsS66 w0 W1 g f0 f1 f2 f3 f4 f5 := h.grown (grown_of_below hw none) (by simp)
theorem IsS66.alloc {w0 W : World} {g : Nat} {f0 : Int} {f1 : ByteArray} {f2 : Int} {f3 : Int} {f4 : Int} {f5 : Int} (h : IsS66 w0 W g f0 f1 f2 f3 f4 f5) (o : Obj) : IsS66 w0 (W.alloc o) g f0 f1 f2 f3 f4 f5 := h.below (below_alloc (Below.refl _ _) o)
theorem IsS66.drewN {w0 W : World} {g : Nat} {f0 : Int} {f1 : ByteArray} {f2 : Int} {f3 : Int} {f4 : Int} {f5 : Int} (h : IsS66 w0 W g f0 f1 f2 f3 f4 f5) (m : Nat) : IsS66 w0 (W.drewN m) g f0 f1 f2 f3 f4 f5 := h
theorem IsS66.drew {w0 W : World} {g : Nat} {f0 : Int} {f1 : ByteArray} {f2 : Int} {f3 : Int} {f4 : Int} {f5 : Int} (h : IsS66 w0 W g f0 f1 f2 f3 f4 f5) : IsS66 w0 W.drew g f0 f1 f2 f3 f4 f5 := h
theorem IsS66.at_ {w0 W : World} {g : Nat} {f0 : Int} {f1 : ByteArray} {f2 : Int} {f3 : Int} {f4 : Int} {f5 : Int} {w' : World} {m : Nat} (hq : W.drewN m = w') (h : IsS66 w0 W g f0 f1 f2 f3 f4 f5) : IsS66 w0 w' g f0 f1 f2 f3 f4 f5 := by subst hq; exact IsS66.drewN h m
theorem IsS66.apart {w0 W : World} {g : Nat} {f0 : Int} {f1 : ByteArray} {f2 : Int} {f3 : Int} {f4 : Int} {f5 : Int} {α : Type} {d : Kd α} {e : Nat} {base : Nat} {ok : Nat → Prop} {v : Value} {xs : List α} (h : IsS66 w0 W g f0 f1 f2 f3 f4 f5) (ho : d.R e W base ok v xs) (ht : ∀ q, q ∈ e :: d.E → q ≠ 66) : d.R e W base (fun k => ok k ∧ k ≠ g) v xs := by
 obtain ⟨hb, hg⟩ := h; exact Kd.R_types ho hb ht
theorem IsS66.own_ne {w0 W : World} {g : Nat} {f0 : Int} {f1 : ByteArray} {f2 : Int} {f3 : Int} {f4 : Int} {f5 : Int} {α : Type} {d : Kd α} {e : Nat} {base : Nat} {ok : Nat → Prop} {v : Value} {xs : List α} (h : IsS66 w0 W g f0 f1 f2 f3 f4 f5) (ho : d.R e W base ok v xs) (ht : e ≠ 66) : some g ≠ v.ownBlock := by
 obtain ⟨hb, hg⟩ := h; exact Kd.R_ne ho hb ht
theorem IsS66.apartQ {w0 W : World} {g : Nat} {f0 : Int} {f1 : ByteArray} {f2 : Int} {f3 : Int} {f4 : Int} {f5 : Int} {α : Type} {d : Kd α} {e : Nat} {base : Nat} {ok : Nat → Prop} {v : Value} {xs : List α} (h : IsS66 w0 W g f0 f1 f2 f3 f4 f5) (ho : d.Q e W base ok v xs) (ht : ∀ q, q ∈ e :: d.E → q ≠ 66) : d.Q e W base (fun k => ok k ∧ k ≠ g) v xs := by
 obtain ⟨hb, hg⟩ := h; exact Kd.Q_types ho hb ht
theorem IsS66.own_neQ {w0 W : World} {g : Nat} {f0 : Int} {f1 : ByteArray} {f2 : Int} {f3 : Int} {f4 : Int} {f5 : Int} {α : Type} {d : Kd α} {e : Nat} {base : Nat} {ok : Nat → Prop} {v : Value} {xs : List α} (h : IsS66 w0 W g f0 f1 f2 f3 f4 f5) (ho : d.Q e W base ok v xs) (ht : e ≠ 66) : some g ≠ v.ownBlock := by
 obtain ⟨hb, hg⟩ := h; exact Kd.Q_ne ho hb ht
theorem IsS66.apartS {w0 W : World} {g : Nat} {f0 : Int} {f1 : ByteArray} {f2 : Int} {f3 : Int} {f4 : Int} {f5 : Int} {α : Type} {d : Kd α} {e : Nat} {base : Nat} {ok : Nat → Prop} {v : Value} {xs : List α} (h : IsS66 w0 W g f0 f1 f2 f3 f4 f5) (ho : d.S e W base ok v xs) (ht : ∀ q, q ∈ e :: d.E → q ≠ 66) : d.S e W base (fun k => ok k ∧ k ≠ g) v xs := by
 obtain ⟨hb, hg⟩ := h; exact Kd.S_types ho hb ht
theorem IsS66.own_neS {w0 W : World} {g : Nat} {f0 : Int} {f1 : ByteArray} {f2 : Int} {f3 : Int} {f4 : Int} {f5 : Int} {α : Type} {d : Kd α} {e : Nat} {base : Nat} {ok : Nat → Prop} {v : Value} {xs : List α} (h : IsS66 w0 W g f0 f1 f2 f3 f4 f5) (ho : d.S e W base ok v xs) (ht : e ≠ 66) : some g ≠ v.ownBlock := by
 obtain ⟨hb, hg⟩ := h; exact Kd.S_ne ho hb ht
theorem IsS66.lt {w0 W : World} {g : Nat} {f0 : Int} {f1 : ByteArray} {f2 : Int} {f3 : Int} {f4 : Int} {f5 : Int} (h : IsS66 w0 W g f0 f1 f2 f3 f4 f5) : g < W.heap.size := by
 obtain ⟨hb, hg⟩ := h; exact blk_lt hb
theorem IsS66.ge {w0 W : World} {g : Nat} {f0 : Int} {f1 : ByteArray} {f2 : Int} {f3 : Int} {f4 : Int} {f5 : Int} (h : IsS66 w0 W g f0 f1 f2 f3 f4 f5) : w0.heap.size ≤ g := by
 obtain ⟨hb, hg⟩ := h; exact hg
theorem IsS66.ne_blk {w0 W : World} {g : Nat} {f0 : Int} {f1 : ByteArray} {f2 : Int} {f3 : Int} {f4 : Int} {f5 : Int} {a : Nat} {cs : Array Value} {t : TypeId} {fr : Nat × Nat} (h : IsS66 w0 W g f0 f1 f2 f3 f4 f5) (hb2 : W.heap[a]? = some (.cells cs t fr)) (ht : t ≠ 66) : g ≠ a := by
 obtain ⟨hb, hg⟩ := h; rintro rfl; rw [hb] at hb2; injection hb2 with hb2; injection hb2 with _ ht2; exact ht ht2.symm
theorem IsS66.far {w0 W : World} {g : Nat} {f0 : Int} {f1 : ByteArray} {f2 : Int} {f3 : Int} {f4 : Int} {f5 : Int} {p : Addr} (h : IsS66 w0 W g f0 f1 f2 f3 f4 f5) (hne : g ≠ p.block) (u : Value) : IsS66 w0 (W.setCell p u) g f0 f1 f2 f3 f4 f5 := by
 obtain ⟨hb, hg⟩ := h; exact ⟨blk_far hb hne u, hg⟩
theorem cellS66_0 {W : World} {g : Nat} {f0 : Int} {f1 : ByteArray} {f2 : Int} {f3 : Int} {f4 : Int} {f5 : Int} (h : W.heap[g]? = some (.cells #[.int .i64 f0, .string f1, .int .i64 f2, .int .i64 f3, .int .i64 f4, .int .i64 f5] 66 (0, 0))) : W.cell? ⟨g, 0, none⟩ = some (.int .i64 f0) := (blk_cell h 0).trans rfl
theorem IsS66.set_0 {w0 W : World} {g : Nat} {f0 : Int} {f1 : ByteArray} {f2 : Int} {f3 : Int} {f4 : Int} {f5 : Int} (h : IsS66 w0 W g f0 f1 f2 f3 f4 f5) (x : Int) : IsS66 w0 (W.setCell ⟨g, 0, none⟩ (.int .i64 x)) g x f1 f2 f3 f4 f5 := by
 obtain ⟨hb, hg⟩ := h; exact ⟨by simpa using blk_set hb 0 (.int .i64 x), hg⟩
theorem cellS66_1 {W : World} {g : Nat} {f0 : Int} {f1 : ByteArray} {f2 : Int} {f3 : Int} {f4 : Int} {f5 : Int} (h : W.heap[g]? = some (.cells #[.int .i64 f0, .string f1, .int .i64 f2, .int .i64 f3, .int .i64 f4, .int .i64 f5] 66 (0, 0))) : W.cell? ⟨g, 1, none⟩ = some (.string f1) := (blk_cell h 1).trans rfl
theorem IsS66.set_1 {w0 W : World} {g : Nat} {f0 : Int} {f1 : ByteArray} {f2 : Int} {f3 : Int} {f4 : Int} {f5 : Int} (h : IsS66 w0 W g f0 f1 f2 f3 f4 f5) (x : ByteArray) : IsS66 w0 (W.setCell ⟨g, 1, none⟩ (.string x)) g f0 x f2 f3 f4 f5 := by
 obtain ⟨hb, hg⟩ := h; exact ⟨by simpa using blk_set hb 1 (.string x), hg⟩
theorem cellS66_2 {W : World} {g : Nat} {f0 : Int} {f1 : ByteArray} {f2 : Int} {f3 : Int} {f4 : Int} {f5 : Int} (h : W.heap[g]? = some (.cells #[.int .i64 f0, .string f1, .int .i64 f2, .int .i64 f3, .int .i64 f4, .int .i64 f5] 66 (0, 0))) : W.cell? ⟨g, 2, none⟩ = some (.int .i64 f2) := (blk_cell h 2).trans rfl
theorem IsS66.set_2 {w0 W : World} {g : Nat} {f0 : Int} {f1 : ByteArray} {f2 : Int} {f3 : Int} {f4 : Int} {f5 : Int} (h : IsS66 w0 W g f0 f1 f2 f3 f4 f5) (x : Int) : IsS66 w0 (W.setCell ⟨g, 2, none⟩ (.int .i64 x)) g f0 f1 x f3 f4 f5 := by
 obtain ⟨hb, hg⟩ := h; exact ⟨by simpa using blk_set hb 2 (.int .i64 x), hg⟩
theorem cellS66_3 {W : World} {g : Nat} {f0 : Int} {f1 : ByteArray} {f2 : Int} {f3 : Int} {f4 : Int} {f5 : Int} (h : W.heap[g]? = some (.cells #[.int .i64 f0, .string f1, .int .i64 f2, .int .i64 f3, .int .i64 f4, .int .i64 f5] 66 (0, 0))) : W.cell? ⟨g, 3, none⟩ = some (.int .i64 f3) := (blk_cell h 3).trans rfl
theorem IsS66.set_3 {w0 W : World} {g : Nat} {f0 : Int} {f1 : ByteArray} {f2 : Int} {f3 : Int} {f4 : Int} {f5 : Int} (h : IsS66 w0 W g f0 f1 f2 f3 f4 f5) (x : Int) : IsS66 w0 (W.setCell ⟨g, 3, none⟩ (.int .i64 x)) g f0 f1 f2 x f4 f5 := by
 obtain ⟨hb, hg⟩ := h; exact ⟨by simpa using blk_set hb 3 (.int .i64 x), hg⟩
theorem cellS66_4 {W : World} {g : Nat} {f0 : Int} {f1 : ByteArray} {f2 : Int} {f3 : Int} {f4 : Int} {f5 : Int} (h : W.heap[g]? = some (.cells #[.int .i64 f0, .string f1, .int .i64 f2, .int .i64 f3, .int .i64 f4, .int .i64 f5] 66 (0, 0))) : W.cell? ⟨g, 4, none⟩ = some (.int .i64 f4) := (blk_cell h 4).trans rfl
theorem IsS66.set_4 {w0 W : World} {g : Nat} {f0 : Int} {f1 : ByteArray} {f2 : Int} {f3 : Int} {f4 : Int} {f5 : Int} (h : IsS66 w0 W g f0 f1 f2 f3 f4 f5) (x : Int) : IsS66 w0 (W.setCell ⟨g, 4, none⟩ (.int .i64 x)) g f0 f1 f2 f3 x f5 := by
 obtain ⟨hb, hg⟩ := h; exact ⟨by simpa using blk_set hb 4 (.int .i64 x), hg⟩
theorem cellS66_5 {W : World} {g : Nat} {f0 : Int} {f1 : ByteArray} {f2 : Int} {f3 : Int} {f4 : Int} {f5 : Int} (h : W.heap[g]? = some (.cells #[.int .i64 f0, .string f1, .int .i64 f2, .int .i64 f3, .int .i64 f4, .int .i64 f5] 66 (0, 0))) : W.cell? ⟨g, 5, none⟩ = some (.int .i64 f5) := (blk_cell h 5).trans rfl
theorem IsS66.set_5 {w0 W : World} {g : Nat} {f0 : Int} {f1 : ByteArray} {f2 : Int} {f3 : Int} {f4 : Int} {f5 : Int} (h : IsS66 w0 W g f0 f1 f2 f3 f4 f5) (x : Int) : IsS66 w0 (W.setCell ⟨g, 5, none⟩ (.int .i64 x)) g f0 f1 f2 f3 f4 x := by
 obtain ⟨hb, hg⟩ := h; exact ⟨by simpa using blk_set hb 5 (.int .i64 x), hg⟩
theorem IsS66.new (w0 W : World) (f0 : Int) (f1 : ByteArray) (f2 : Int) (f3 : Int) (f4 : Int) (f5 : Int) (hB : Below w0.heap.size w0 W) : IsS66 w0 (W.alloc (.cells #[.int .i64 f0, .string f1, .int .i64 f2, .int .i64 f3, .int .i64 f4, .int .i64 f5] 66)) W.heap.size f0 f1 f2 f3 f4 f5 := ⟨by simpa using heap_alloc_new W _, hB.size⟩

/-! ### impl_TaxRowsOK_1: function 49 -/
def impl_TaxRowsOK_1.f (a0_0 : Int) (a0_1 : ByteArray) (a0_2 : Int) (a0_3 : Int) (a0_4 : Int) (a0_5 : Int) (s1_0 : Int) (s1_1 : ByteArray) (s1_2 : Int) (s1_3 : Int) (s1_4 : Int) (s1_5 : Int) : Option (Bool × Int × ByteArray × Int × Int × Int × Int) := if a0_0 = s1_0 then (if a0_1.toList = s1_1.toList then (if a0_2 < s1_3 then (some (decide (s1_2 < a0_3), s1_0, s1_1, s1_2, s1_3, s1_4, s1_5)) else (some (false, s1_0, s1_1, s1_2, s1_3, s1_4, s1_5))) else (some (false, s1_0, s1_1, s1_2, s1_3, s1_4, s1_5))) else (some (false, s1_0, s1_1, s1_2, s1_3, s1_4, s1_5))
set_option maxHeartbeats 8000000 in
set_option maxRecDepth 100000 in
theorem impl_TaxRowsOK_1.calls (a0_0 : Int) (a0_1 : ByteArray) (a0_2 : Int) (a0_3 : Int) (a0_4 : Int) (a0_5 : Int) (g : Nat) (s1_0 : Int) (s1_1 : ByteArray) (s1_2 : Int) (s1_3 : Int) (s1_4 : Int) (s1_5 : Int) (r1 : Bool) (r2 : Int) (r3 : ByteArray) (r4 : Int) (r5 : Int) (r6 : Int) (r7 : Int) (w0 w : World) (hI : IsS66 w0 w g s1_0 s1_1 s1_2 s1_3 s1_4 s1_5) (hB : Below w0.heap.size w0 w) (h : impl_TaxRowsOK_1.f a0_0 a0_1 a0_2 a0_3 a0_4 a0_5 s1_0 s1_1 s1_2 s1_3 s1_4 s1_5 = some (r1, r2, r3, r4, r5, r6, r7)) :
  Calls Try.prog 49 #[.agg #[.int .i64 a0_0, .string a0_1, .int .i64 a0_2, .int .i64 a0_3, .int .i64 a0_4, .int .i64 a0_5], .pointer (some ⟨g, 0, none⟩)] w fun e w' => e = .returned (.bool r1) ∧ IsS66 w0 w' g r2 r3 r4 r5 r6 r7 ∧ Below w0.heap.size w0 w' ∧ KeepBut w w' g none := by
 have hu66 := Try.underlying66; have HI1 := Aside0.mk hI; have HK := Aside0.mk (KeepBut.refl w g none); have HL := Aside0.mk hB.size; clear hI; have HW0 := Aside0.mk hB.size; have HB := Aside0.mk hB; clear hB; have H : (if a0_0 = s1_0 then (if a0_1.toList = s1_1.toList then (if a0_2 < s1_3 then (some (decide (s1_2 < a0_3), s1_0, s1_1, s1_2, s1_3, s1_4, s1_5)) else (some (false, s1_0, s1_1, s1_2, s1_3, s1_4, s1_5))) else (some (false, s1_0, s1_1, s1_2, s1_3, s1_4, s1_5))) else (some (false, s1_0, s1_1, s1_2, s1_3, s1_4, s1_5))) = some (r1, r2, r3, r4, r5, r6, r7) := h; clear h; by_cases c3 : a0_0 = s1_0
 ·rw [if_pos c3] at H; have c3b0 : (a0_0 == s1_0) = true := beq_iff_eq.mpr c3; have c3b1 : (a0_0 != s1_0) = false := bne_eq_false_iff_eq.mpr c3; clear c3; by_cases c4 : a0_1.toList = s1_1.toList
  ·rw [if_pos c4] at H; have c4b0 : (a0_1.toList == s1_1.toList) = true := beq_iff_eq.mpr c4; have c4b1 : (a0_1.toList != s1_1.toList) = false := bne_eq_false_iff_eq.mpr c4; clear c4; by_cases c5 : a0_2 < s1_3
   ·rw [if_pos c5] at H; have c5b0 : decide (a0_2 < s1_3) = true := decide_eq_true c5; clear c5; simp only [Option.some.injEq, Prod.mk.injEq] at H; obtain ⟨rfl, rfl, rfl, rfl, rfl, rfl, rfl⟩ := H; go_enter Try.func49, Try.ntmps49
    go_wp2_with (first | ((with_reducible refine gate_dst (N := 2) rfl ?_); refine box_event ?hg (N := 2) ?hd (cs := #[.int .i64 a0_0, .string a0_1, .int .i64 a0_2, .int .i64 a0_3, .int .i64 a0_4, .int .i64 a0_5]) (t := 66) ?hr ?_; (case hd => rfl); (case hg => rfl); (case hr => first | (go_simp; done) | (go_simp; rfl)); intro gb221 hg w6 hbox hb; have n0_ := Aside0.mk (IsS66.below (by repeat (first | (with_reducible first | exact HI1.out | apply IsS66.alloc | apply IsS66.drewN | apply IsS66.drew | apply IsS66.set_0 | apply IsS66.set_1 | apply IsS66.set_2 | apply IsS66.set_3 | apply IsS66.set_4 | apply IsS66.set_5) | exact HI1.out)) hb); have n1_ := Aside0.mk (KeepBut.trans (by repeat (first | (with_reducible first | exact HK.out | apply KeepBut.set_ | apply keep_drewN | apply keep_drew | apply keep_alloc) | exact HK.out)) (KeepBut.of_below hb g none) (.inl rfl)); have n2_ := Aside0.mk (below_step (by repeat (first | (with_reducible first | exact HB.out | apply below_alloc | apply pw_below_drewN | apply below_drew1 | refine below_set ?_ (IsS66.ge HI1.out)) | exact HB.out)) hb); have n3_ := Aside0.mk (hbox); have n4_ := Aside0.mk ((by rw [hg]; exact (keep_size (w := w) (g := g) (row := none) (by repeat (first | (with_reducible first | exact HK.out | apply KeepBut.set_ | apply keep_drewN | apply keep_drew | apply keep_alloc) | exact HK.out))) : w.heap.size ≤ gb221)); have n5_ := Aside0.mk ((Nat.le_trans HW0.out (by rw [hg]; exact (keep_size (w := w) (g := g) (row := none) (by repeat (first | (with_reducible first | exact HK.out | apply KeepBut.set_ | apply keep_drewN | apply keep_drew | apply keep_alloc) | exact HK.out))) : w.heap.size ≤ gb221) : w0.heap.size ≤ gb221)); have n6_ := Aside0.mk ((by rw [hg]; exact Nat.ne_of_lt (IsS66.lt (show IsS66 w0 _ g s1_0 s1_1 s1_2 s1_3 s1_4 s1_5 from by repeat (first | (with_reducible first | exact HI1.out | apply IsS66.alloc | apply IsS66.drewN | apply IsS66.drew | apply IsS66.set_0 | apply IsS66.set_1 | apply IsS66.set_2 | apply IsS66.set_3 | apply IsS66.set_4 | apply IsS66.set_5) | exact HI1.out))) : g ≠ gb221)); have n7_ := Aside0.mk ((by rw [hg]; exact Nat.ne_of_gt (IsS66.lt (show IsS66 w0 _ g s1_0 s1_1 s1_2 s1_3 s1_4 s1_5 from by repeat (first | (with_reducible first | exact HI1.out | apply IsS66.alloc | apply IsS66.drewN | apply IsS66.drew | apply IsS66.set_0 | apply IsS66.set_1 | apply IsS66.set_2 | apply IsS66.set_3 | apply IsS66.set_4 | apply IsS66.set_5) | exact HI1.out))) : gb221 ≠ g)); clear HI1; clear HK; clear HB; have HI1 := n0_; have HK := n1_; have HB := n2_; have BK221 := n3_; have GW221 := n4_; have GE221 := n5_; have NB1_221 := n6_; have NB221_1 := n7_; clear n0_ n1_ n2_ n3_ n4_ n5_ n6_ n7_; clear hb hbox hg; have hnb7 := NB221_1.out; have hnc7 := NB1_221.out; obtain ⟨hcz8_0, hcz8_1, hcz8_2, hcz8_3, hcz8_4, hcz8_5, hfz8_0, hfz8_1, hfz8_2, hfz8_3, hfz8_4, hfz8_5⟩ := bz6 BK221; obtain ⟨HGz9, hgz9⟩ := HI1.out; have hcz9_0 := cellS66_0 HGz9; have hcz9_1 := cellS66_1 HGz9; have hcz9_2 := cellS66_2 HGz9; have hcz9_3 := cellS66_3 HGz9; have hcz9_4 := cellS66_4 HGz9; have hcz9_5 := cellS66_5 HGz9; have hfz9_0 := blk_frozen HGz9 0; have hfz9_1 := blk_frozen HGz9 1; have hfz9_2 := blk_frozen HGz9 2; have hfz9_3 := blk_frozen HGz9 3; have hfz9_4 := blk_frozen HGz9 4; have hfz9_5 := blk_frozen HGz9 5; clear HGz9 hgz9))
    go_ret; exact ⟨eqq, by repeat (first | (with_reducible first | exact HI1.out | apply IsS66.alloc | apply IsS66.drewN | apply IsS66.drew | apply IsS66.set_0 | apply IsS66.set_1 | apply IsS66.set_2 | apply IsS66.set_3 | apply IsS66.set_4 | apply IsS66.set_5 | refine IsS66.far ?_ NB1_221.out _) | exact HI1.out), by repeat (first | (with_reducible first | exact HB.out | apply below_alloc | apply pw_below_drewN | apply below_drew1 | refine below_set ?_ (IsS66.ge HI1.out) | refine below_set ?_ GE221.out) | exact HB.out), by repeat (first | (with_reducible first | exact HK.out | apply KeepBut.set_ | apply keep_drewN | apply keep_drew | apply keep_alloc | refine keep_far ?_ GW221.out _) | exact HK.out)⟩
   ·rw [if_neg c5] at H; have c5b0 : decide (a0_2 < s1_3) = false := decide_eq_false c5; clear c5; simp only [Option.some.injEq, Prod.mk.injEq] at H; obtain ⟨rfl, rfl, rfl, rfl, rfl, rfl, rfl⟩ := H; go_enter Try.func49, Try.ntmps49
    go_wp2_with (first | ((with_reducible refine gate_dst (N := 2) rfl ?_); refine box_event ?hg (N := 2) ?hd (cs := #[.int .i64 a0_0, .string a0_1, .int .i64 a0_2, .int .i64 a0_3, .int .i64 a0_4, .int .i64 a0_5]) (t := 66) ?hr ?_; (case hd => rfl); (case hg => rfl); (case hr => first | (go_simp; done) | (go_simp; rfl)); intro gb221 hg w10 hbox hb; have n0_ := Aside0.mk (IsS66.below (by repeat (first | (with_reducible first | exact HI1.out | apply IsS66.alloc | apply IsS66.drewN | apply IsS66.drew | apply IsS66.set_0 | apply IsS66.set_1 | apply IsS66.set_2 | apply IsS66.set_3 | apply IsS66.set_4 | apply IsS66.set_5) | exact HI1.out)) hb); have n1_ := Aside0.mk (KeepBut.trans (by repeat (first | (with_reducible first | exact HK.out | apply KeepBut.set_ | apply keep_drewN | apply keep_drew | apply keep_alloc) | exact HK.out)) (KeepBut.of_below hb g none) (.inl rfl)); have n2_ := Aside0.mk (below_step (by repeat (first | (with_reducible first | exact HB.out | apply below_alloc | apply pw_below_drewN | apply below_drew1 | refine below_set ?_ (IsS66.ge HI1.out)) | exact HB.out)) hb); have n3_ := Aside0.mk (hbox); have n4_ := Aside0.mk ((by rw [hg]; exact (keep_size (w := w) (g := g) (row := none) (by repeat (first | (with_reducible first | exact HK.out | apply KeepBut.set_ | apply keep_drewN | apply keep_drew | apply keep_alloc) | exact HK.out))) : w.heap.size ≤ gb221)); have n5_ := Aside0.mk ((Nat.le_trans HW0.out (by rw [hg]; exact (keep_size (w := w) (g := g) (row := none) (by repeat (first | (with_reducible first | exact HK.out | apply KeepBut.set_ | apply keep_drewN | apply keep_drew | apply keep_alloc) | exact HK.out))) : w.heap.size ≤ gb221) : w0.heap.size ≤ gb221)); have n6_ := Aside0.mk ((by rw [hg]; exact Nat.ne_of_lt (IsS66.lt (show IsS66 w0 _ g s1_0 s1_1 s1_2 s1_3 s1_4 s1_5 from by repeat (first | (with_reducible first | exact HI1.out | apply IsS66.alloc | apply IsS66.drewN | apply IsS66.drew | apply IsS66.set_0 | apply IsS66.set_1 | apply IsS66.set_2 | apply IsS66.set_3 | apply IsS66.set_4 | apply IsS66.set_5) | exact HI1.out))) : g ≠ gb221)); have n7_ := Aside0.mk ((by rw [hg]; exact Nat.ne_of_gt (IsS66.lt (show IsS66 w0 _ g s1_0 s1_1 s1_2 s1_3 s1_4 s1_5 from by repeat (first | (with_reducible first | exact HI1.out | apply IsS66.alloc | apply IsS66.drewN | apply IsS66.drew | apply IsS66.set_0 | apply IsS66.set_1 | apply IsS66.set_2 | apply IsS66.set_3 | apply IsS66.set_4 | apply IsS66.set_5) | exact HI1.out))) : gb221 ≠ g)); clear HI1; clear HK; clear HB; have HI1 := n0_; have HK := n1_; have HB := n2_; have BK221 := n3_; have GW221 := n4_; have GE221 := n5_; have NB1_221 := n6_; have NB221_1 := n7_; clear n0_ n1_ n2_ n3_ n4_ n5_ n6_ n7_; clear hb hbox hg; have hnb11 := NB221_1.out; have hnc11 := NB1_221.out; obtain ⟨hcz12_0, hcz12_1, hcz12_2, hcz12_3, hcz12_4, hcz12_5, hfz12_0, hfz12_1, hfz12_2, hfz12_3, hfz12_4, hfz12_5⟩ := bz6 BK221; obtain ⟨HGz13, hgz13⟩ := HI1.out; have hcz13_0 := cellS66_0 HGz13; have hcz13_1 := cellS66_1 HGz13; have hcz13_2 := cellS66_2 HGz13; have hcz13_3 := cellS66_3 HGz13; have hcz13_4 := cellS66_4 HGz13; have hcz13_5 := cellS66_5 HGz13; have hfz13_0 := blk_frozen HGz13 0; have hfz13_1 := blk_frozen HGz13 1; have hfz13_2 := blk_frozen HGz13 2; have hfz13_3 := blk_frozen HGz13 3; have hfz13_4 := blk_frozen HGz13 4; have hfz13_5 := blk_frozen HGz13 5; clear HGz13 hgz13))
    go_ret; exact ⟨eqq, by repeat (first | (with_reducible first | exact HI1.out | apply IsS66.alloc | apply IsS66.drewN | apply IsS66.drew | apply IsS66.set_0 | apply IsS66.set_1 | apply IsS66.set_2 | apply IsS66.set_3 | apply IsS66.set_4 | apply IsS66.set_5 | refine IsS66.far ?_ NB1_221.out _) | exact HI1.out), by repeat (first | (with_reducible first | exact HB.out | apply below_alloc | apply pw_below_drewN | apply below_drew1 | refine below_set ?_ (IsS66.ge HI1.out) | refine below_set ?_ GE221.out) | exact HB.out), by repeat (first | (with_reducible first | exact HK.out | apply KeepBut.set_ | apply keep_drewN | apply keep_drew | apply keep_alloc | refine keep_far ?_ GW221.out _) | exact HK.out)⟩
  ·rw [if_neg c4] at H; have c4b0 : (a0_1.toList == s1_1.toList) = false := beq_eq_false_iff_ne.mpr c4; have c4b1 : (a0_1.toList != s1_1.toList) = true := bne_iff_ne.mpr c4; simp only [Option.some.injEq, Prod.mk.injEq] at H; obtain ⟨rfl, rfl, rfl, rfl, rfl, rfl, rfl⟩ := H; go_enter Try.func49, Try.ntmps49
   go_wp2_with (first | ((with_reducible refine gate_dst (N := 2) rfl ?_); refine box_event ?hg (N := 2) ?hd (cs := #[.int .i64 a0_0, .string a0_1, .int .i64 a0_2, .int .i64 a0_3, .int .i64 a0_4, .int .i64 a0_5]) (t := 66) ?hr ?_; (case hd => rfl); (case hg => rfl); (case hr => first | (go_simp; done) | (go_simp; rfl)); intro gb221 hg w14 hbox hb; have n0_ := Aside0.mk (IsS66.below (by repeat (first | (with_reducible first | exact HI1.out | apply IsS66.alloc | apply IsS66.drewN | apply IsS66.drew | apply IsS66.set_0 | apply IsS66.set_1 | apply IsS66.set_2 | apply IsS66.set_3 | apply IsS66.set_4 | apply IsS66.set_5) | exact HI1.out)) hb); have n1_ := Aside0.mk (KeepBut.trans (by repeat (first | (with_reducible first | exact HK.out | apply KeepBut.set_ | apply keep_drewN | apply keep_drew | apply keep_alloc) | exact HK.out)) (KeepBut.of_below hb g none) (.inl rfl)); have n2_ := Aside0.mk (below_step (by repeat (first | (with_reducible first | exact HB.out | apply below_alloc | apply pw_below_drewN | apply below_drew1 | refine below_set ?_ (IsS66.ge HI1.out)) | exact HB.out)) hb); have n3_ := Aside0.mk (hbox); have n4_ := Aside0.mk ((by rw [hg]; exact (keep_size (w := w) (g := g) (row := none) (by repeat (first | (with_reducible first | exact HK.out | apply KeepBut.set_ | apply keep_drewN | apply keep_drew | apply keep_alloc) | exact HK.out))) : w.heap.size ≤ gb221)); have n5_ := Aside0.mk ((Nat.le_trans HW0.out (by rw [hg]; exact (keep_size (w := w) (g := g) (row := none) (by repeat (first | (with_reducible first | exact HK.out | apply KeepBut.set_ | apply keep_drewN | apply keep_drew | apply keep_alloc) | exact HK.out))) : w.heap.size ≤ gb221) : w0.heap.size ≤ gb221)); have n6_ := Aside0.mk ((by rw [hg]; exact Nat.ne_of_lt (IsS66.lt (show IsS66 w0 _ g s1_0 s1_1 s1_2 s1_3 s1_4 s1_5 from by repeat (first | (with_reducible first | exact HI1.out | apply IsS66.alloc | apply IsS66.drewN | apply IsS66.drew | apply IsS66.set_0 | apply IsS66.set_1 | apply IsS66.set_2 | apply IsS66.set_3 | apply IsS66.set_4 | apply IsS66.set_5) | exact HI1.out))) : g ≠ gb221)); have n7_ := Aside0.mk ((by rw [hg]; exact Nat.ne_of_gt (IsS66.lt (show IsS66 w0 _ g s1_0 s1_1 s1_2 s1_3 s1_4 s1_5 from by repeat (first | (with_reducible first | exact HI1.out | apply IsS66.alloc | apply IsS66.drewN | apply IsS66.drew | apply IsS66.set_0 | apply IsS66.set_1 | apply IsS66.set_2 | apply IsS66.set_3 | apply IsS66.set_4 | apply IsS66.set_5) | exact HI1.out))) : gb221 ≠ g)); clear HI1; clear HK; clear HB; have HI1 := n0_; have HK := n1_; have HB := n2_; have BK221 := n3_; have GW221 := n4_; have GE221 := n5_; have NB1_221 := n6_; have NB221_1 := n7_; clear n0_ n1_ n2_ n3_ n4_ n5_ n6_ n7_; clear hb hbox hg; have hnb15 := NB221_1.out; have hnc15 := NB1_221.out; obtain ⟨hcz16_0, hcz16_1, hcz16_2, hcz16_3, hcz16_4, hcz16_5, hfz16_0, hfz16_1, hfz16_2, hfz16_3, hfz16_4, hfz16_5⟩ := bz6 BK221; obtain ⟨HGz17, hgz17⟩ := HI1.out; have hcz17_0 := cellS66_0 HGz17; have hcz17_1 := cellS66_1 HGz17; have hcz17_2 := cellS66_2 HGz17; have hcz17_3 := cellS66_3 HGz17; have hcz17_4 := cellS66_4 HGz17; have hcz17_5 := cellS66_5 HGz17; have hfz17_0 := blk_frozen HGz17 0; have hfz17_1 := blk_frozen HGz17 1; have hfz17_2 := blk_frozen HGz17 2; have hfz17_3 := blk_frozen HGz17 3; have hfz17_4 := blk_frozen HGz17 4; have hfz17_5 := blk_frozen HGz17 5; clear HGz17 hgz17))
   go_ret; exact ⟨eqq, by repeat (first | (with_reducible first | exact HI1.out | apply IsS66.alloc | apply IsS66.drewN | apply IsS66.drew | apply IsS66.set_0 | apply IsS66.set_1 | apply IsS66.set_2 | apply IsS66.set_3 | apply IsS66.set_4 | apply IsS66.set_5 | refine IsS66.far ?_ NB1_221.out _) | exact HI1.out), by repeat (first | (with_reducible first | exact HB.out | apply below_alloc | apply pw_below_drewN | apply below_drew1 | refine below_set ?_ (IsS66.ge HI1.out) | refine below_set ?_ GE221.out) | exact HB.out), by repeat (first | (with_reducible first | exact HK.out | apply KeepBut.set_ | apply keep_drewN | apply keep_drew | apply keep_alloc | refine keep_far ?_ GW221.out _) | exact HK.out)⟩
 ·rw [if_neg c3] at H; have c3b0 : (a0_0 == s1_0) = false := beq_eq_false_iff_ne.mpr c3; have c3b1 : (a0_0 != s1_0) = true := bne_iff_ne.mpr c3; simp only [Option.some.injEq, Prod.mk.injEq] at H; obtain ⟨rfl, rfl, rfl, rfl, rfl, rfl, rfl⟩ := H; go_enter Try.func49, Try.ntmps49
  go_wp2_with (first | ((with_reducible refine gate_dst (N := 2) rfl ?_); refine box_event ?hg (N := 2) ?hd (cs := #[.int .i64 a0_0, .string a0_1, .int .i64 a0_2, .int .i64 a0_3, .int .i64 a0_4, .int .i64 a0_5]) (t := 66) ?hr ?_; (case hd => rfl); (case hg => rfl); (case hr => first | (go_simp; done) | (go_simp; rfl)); intro gb221 hg w18 hbox hb; have n0_ := Aside0.mk (IsS66.below (by repeat (first | (with_reducible first | exact HI1.out | apply IsS66.alloc | apply IsS66.drewN | apply IsS66.drew | apply IsS66.set_0 | apply IsS66.set_1 | apply IsS66.set_2 | apply IsS66.set_3 | apply IsS66.set_4 | apply IsS66.set_5) | exact HI1.out)) hb); have n1_ := Aside0.mk (KeepBut.trans (by repeat (first | (with_reducible first | exact HK.out | apply KeepBut.set_ | apply keep_drewN | apply keep_drew | apply keep_alloc) | exact HK.out)) (KeepBut.of_below hb g none) (.inl rfl)); have n2_ := Aside0.mk (below_step (by repeat (first | (with_reducible first | exact HB.out | apply below_alloc | apply pw_below_drewN | apply below_drew1 | refine below_set ?_ (IsS66.ge HI1.out)) | exact HB.out)) hb); have n3_ := Aside0.mk (hbox); have n4_ := Aside0.mk ((by rw [hg]; exact (keep_size (w := w) (g := g) (row := none) (by repeat (first | (with_reducible first | exact HK.out | apply KeepBut.set_ | apply keep_drewN | apply keep_drew | apply keep_alloc) | exact HK.out))) : w.heap.size ≤ gb221)); have n5_ := Aside0.mk ((Nat.le_trans HW0.out (by rw [hg]; exact (keep_size (w := w) (g := g) (row := none) (by repeat (first | (with_reducible first | exact HK.out | apply KeepBut.set_ | apply keep_drewN | apply keep_drew | apply keep_alloc) | exact HK.out))) : w.heap.size ≤ gb221) : w0.heap.size ≤ gb221)); have n6_ := Aside0.mk ((by rw [hg]; exact Nat.ne_of_lt (IsS66.lt (show IsS66 w0 _ g s1_0 s1_1 s1_2 s1_3 s1_4 s1_5 from by repeat (first | (with_reducible first | exact HI1.out | apply IsS66.alloc | apply IsS66.drewN | apply IsS66.drew | apply IsS66.set_0 | apply IsS66.set_1 | apply IsS66.set_2 | apply IsS66.set_3 | apply IsS66.set_4 | apply IsS66.set_5) | exact HI1.out))) : g ≠ gb221)); have n7_ := Aside0.mk ((by rw [hg]; exact Nat.ne_of_gt (IsS66.lt (show IsS66 w0 _ g s1_0 s1_1 s1_2 s1_3 s1_4 s1_5 from by repeat (first | (with_reducible first | exact HI1.out | apply IsS66.alloc | apply IsS66.drewN | apply IsS66.drew | apply IsS66.set_0 | apply IsS66.set_1 | apply IsS66.set_2 | apply IsS66.set_3 | apply IsS66.set_4 | apply IsS66.set_5) | exact HI1.out))) : gb221 ≠ g)); clear HI1; clear HK; clear HB; have HI1 := n0_; have HK := n1_; have HB := n2_; have BK221 := n3_; have GW221 := n4_; have GE221 := n5_; have NB1_221 := n6_; have NB221_1 := n7_; clear n0_ n1_ n2_ n3_ n4_ n5_ n6_ n7_; clear hb hbox hg; have hnb19 := NB221_1.out; have hnc19 := NB1_221.out; obtain ⟨hcz20_0, hcz20_1, hcz20_2, hcz20_3, hcz20_4, hcz20_5, hfz20_0, hfz20_1, hfz20_2, hfz20_3, hfz20_4, hfz20_5⟩ := bz6 BK221; obtain ⟨HGz21, hgz21⟩ := HI1.out; have hcz21_0 := cellS66_0 HGz21; have hcz21_1 := cellS66_1 HGz21; have hcz21_2 := cellS66_2 HGz21; have hcz21_3 := cellS66_3 HGz21; have hcz21_4 := cellS66_4 HGz21; have hcz21_5 := cellS66_5 HGz21; have hfz21_0 := blk_frozen HGz21 0; have hfz21_1 := blk_frozen HGz21 1; have hfz21_2 := blk_frozen HGz21 2; have hfz21_3 := blk_frozen HGz21 3; have hfz21_4 := blk_frozen HGz21 4; have hfz21_5 := blk_frozen HGz21 5; clear HGz21 hgz21))
  go_ret; exact ⟨eqq, by repeat (first | (with_reducible first | exact HI1.out | apply IsS66.alloc | apply IsS66.drewN | apply IsS66.drew | apply IsS66.set_0 | apply IsS66.set_1 | apply IsS66.set_2 | apply IsS66.set_3 | apply IsS66.set_4 | apply IsS66.set_5 | refine IsS66.far ?_ NB1_221.out _) | exact HI1.out), by repeat (first | (with_reducible first | exact HB.out | apply below_alloc | apply pw_below_drewN | apply below_drew1 | refine below_set ?_ (IsS66.ge HI1.out) | refine below_set ?_ GE221.out) | exact HB.out), by repeat (first | (with_reducible first | exact HK.out | apply KeepBut.set_ | apply keep_drewN | apply keep_drew | apply keep_alloc | refine keep_far ?_ GW221.out _) | exact HK.out)⟩

/-! ### impl_TaxRowsOK: function 19, by hand -/
def impl_TaxRowsOK.p (r x : S66) : Option Bool := (impl_TaxRowsOK_1.f x.f0 x.f1 x.f2 x.f3 x.f4.f0 x.f4.f1 r.f0 r.f1 r.f2 r.f3 r.f4.f0 r.f4.f1).bind fun t => some t.1
def impl_TaxRowsOK.go (k : Nat) (rows : List S66) : List S66 → Nat → Option Bool
 | [], _ => some true
 | r :: rest, i => (impl_isTaxRow.f k r.f0 r.f1 r.f2 r.f3 r.f4.f0 r.f4.f1).bind fun ok => if ok = true then ((impl_TaxRow_48.f (impl_TaxRowsOK.p r) (rows.take i)).bind fun b => if b = true then some false else impl_TaxRowsOK.go k rows rest (i + 1)) else some false
def impl_TaxRowsOK.f (k : Nat) (l0 : List S66) : Option Bool := if (l0.length : Int) > 60 then some false else impl_TaxRowsOK.go k l0 l0 0
theorem impl_TaxRowsOK.mono_go (k : Nat) (rows : List S66) : ∀ l i, LeO (impl_TaxRowsOK.go k rows l i) (impl_TaxRowsOK.go (k + 1) rows l i)
 | [], _ => LeO.refl _
 | r :: rest, i => LeO.bind (impl_isTaxRow.mono _ _ _ _ _ _ k) (fun _ => LeO.ite (LeO.bind (LeO.refl _) (fun _ => LeO.ite (LeO.refl _) (impl_TaxRowsOK.mono_go k rows rest (i + 1)))) (LeO.refl _))
theorem impl_TaxRowsOK.mono : ∀ l0 k, LeO (impl_TaxRowsOK.f k l0) (impl_TaxRowsOK.f (k + 1) l0) := fun l0 k => LeO.ite (LeO.refl _) (impl_TaxRowsOK.mono_go k l0 l0 0)
theorem impl_TaxRowsOK.go_cons (k : Nat) (rows : List S66) (r : S66) (rest : List S66) (i : Nat) : impl_TaxRowsOK.go k rows (r :: rest) i = (impl_isTaxRow.f k r.f0 r.f1 r.f2 r.f3 r.f4.f0 r.f4.f1).bind fun ok => if ok = true then ((impl_TaxRow_48.f (impl_TaxRowsOK.p r) (rows.take i)).bind fun b => if b = true then some false else impl_TaxRowsOK.go k rows rest (i + 1)) else some false := rfl
set_option maxHeartbeats 8000000 in
set_option maxRecDepth 100000 in
theorem impl_TaxRowsOK.calls (k : Nat) (A0 : Option Addr) (c0 : Nat) (l0 : List S66) (r : Bool) (w : World) (hr0 : Kd.C k66 w A0 l0.length l0) (hc0 : l0.length ≤ c0) (h : impl_TaxRowsOK.f k l0 = some r) :
  Calls Try.prog 19 #[.slice A0 l0.length c0] w fun e w' => e = .returned (.bool r) ∧ Below w.heap.size w w' := by
 have hbig : l0.length ≤ 9223372036854775807 := hr0.2.1; have HR := Aside0.mk hr0; have HC := Aside0.mk hc0; clear hr0 hc0; unfold impl_TaxRowsOK.f at h; by_cases c1 : (l0.length : Int) > 60
 ·rw [if_pos c1] at h; obtain rfl := Option.some.inj h; have c1b : decide (60 < (l0.length : Int)) = true := decide_eq_true c1; have c1n : decide (60 < l0.length) = true := decide_eq_true (by omega); clear c1 h; go_enter Try.func19, Try.ntmps19; go_wp2; go_ret; exact ⟨rfl, Below.refl _ _⟩
 ·rw [if_neg c1] at h; have H := Aside0.mk h; have c1b : decide (60 < (l0.length : Int)) = false := decide_eq_false c1; have c1n : decide (60 < l0.length) = false := decide_eq_false (by omega); clear c1 h; go_enter Try.func19, Try.ntmps19; go_wp2
  go_loopg [10] l0.length (fun gg s10 wr => ∃ kk : Nat, kk ≤ l0.length ∧ l0.length - kk ≤ gg ∧ s10 = .int .i64 kk ∧ Aside0 (Below w.heap.size w wr) ∧ Aside0 (impl_TaxRowsOK.go k l0 (l0.drop kk) kk = some r))
  case atStart => exact ⟨0, Nat.zero_le _, by omega, rfl, ⟨Below.refl _ w⟩, ⟨H.out⟩⟩
  case round =>
   obtain ⟨kk, hkk, hg, rfl, BW, HF⟩ := hrel; by_cases hlt : kk < l0.length
   ·have hltz : (kk : Int) < (l0.length : Int) := by omega
    have hf := HF.out
    have hcons : l0.drop kk = rd_T66 l0 (kk : Int) :: l0.drop (kk + 1) := by
     rw [List.drop_eq_getElem_cons hlt]
     congr 1
     unfold rd_T66; rw [Int.toNat_natCast, List.getD_eq_getElem?_getD, List.getElem?_eq_getElem hlt]; rfl
    obtain ⟨ad, rfl, hx0, hx1, hx2, hx3, hx4, hx5⟩ := at_T66 (Kd.C_below HR.out BW.out) (kk : Int) (by omega) hltz; rw [hcons, impl_TaxRowsOK.go_cons] at hf; clear hcons; simp only [Int.toNat_natCast] at hx0 hx1 hx2 hx3 hx4 hx5; generalize hxx : rd_T66 l0 (kk : Int) = x_ at *; have HX := Aside0.mk hxx; clear hxx; obtain ⟨ok, hok, hf2⟩ := Option.bind_eq_some_iff.mp hf; have HOK := Aside0.mk hok; have HF2 := Aside0.mk hf2; clear hf hok hf2; have HT : Aside0 (Kd.C k66 wr (some ad) (l0.take kk).length (l0.take kk)) := Aside0.mk (Kd.C_take (Kd.C_below HR.out BW.out) (by omega))
    have hlen : (l0.take kk).length = kk := by rw [List.length_take]; omega
    have HLEN := Aside0.mk hlen; clear hlen
    have hkc : kk ≤ c0 := by have := HC.out; omega
    have hkn : (kk : Int) ≤ (c0 : Int) := by omega
    go_wp2_with fail
    refine (impl_isTaxRow.calls (k := k) (r := ok) (w := _) (h := HOK.out)).mono ?_; rintro e w1 ⟨rfl, hb1⟩
    have hb1' : Below (wr.heap.size + 1) (wr.alloc (.cells #[.int .i64 x_.f0, .string x_.f1, .int .i64 x_.f2, .int .i64 x_.f3, .int .i64 x_.f4.f0, .int .i64 x_.f4.f1] 66)) w1 := by simpa using hb1
    have hblk : w1.heap[wr.heap.size]? = some (.cells #[.int .i64 x_.f0, .string x_.f1, .int .i64 x_.f2, .int .i64 x_.f3, .int .i64 x_.f4.f0, .int .i64 x_.f4.f1] 66 (0, 0)) := blk_below (blk_new wr _) hb1; have B1 : Aside0 (Below wr.heap.size wr w1) := Aside0.mk (((Below.refl _ wr).alloc (Nat.le_refl _) _).trans (hb1.mono (by simp))); have HBLK := Aside0.mk hblk; clear hb1 hb1' hblk
    cases ok with
    | false =>
     have h2 := HF2.out; simp only [Bool.false_eq_true, if_false, Option.some.injEq] at h2; subst h2; go_wp2; go_ret; exact ⟨rfl, below_trans BW.out B1.out⟩
    | true =>
     have h2 := HF2.out; simp only [if_true] at h2; obtain ⟨b, hb, h3⟩ := Option.bind_eq_some_iff.mp h2; have HB2 := Aside0.mk hb; have H3 := Aside0.mk h3; clear h2 hb h3; have C := impl_TaxRow_48.calls (impl_TaxRowsOK.p x_) (l0.take kk) (some ad) c0 49 #[.pointer (some ⟨wr.heap.size, 0, none⟩)] b w1 (fun args w => enters_of Try.func49 (by kernel_rfl) rfl args w)
      (fun W y b_ hW hy => by
       obtain ⟨t, ht, h4⟩ := Option.bind_eq_some_iff.mp hy; obtain rfl : t.1 = b_ := Option.some.inj h4; have hWb : W.heap[wr.heap.size]? = some (.cells #[.int .i64 x_.f0, .string x_.f1, .int .i64 x_.f2, .int .i64 x_.f3, .int .i64 x_.f4.f0, .int .i64 x_.f4.f1] 66 (0, 0)) := blk_below HBLK.out hW
       have hs : t = (t.1, x_.f0, x_.f1, x_.f2, x_.f3, x_.f4.f0, x_.f4.f1) := by
        unfold impl_TaxRowsOK_1.f at ht
        repeat' split at ht
        all_goals (obtain rfl := Option.some.inj ht; rfl)
       rw [hs] at ht; have hB : Below wr.heap.size wr W := below_trans B1.out hW; refine (impl_TaxRowsOK_1.calls (w0 := wr) (w := W) (g := wr.heap.size) (hI := ⟨hWb, Nat.le_refl _⟩) (hB := hB) (h := ht)).mono ?_; rintro e w2 ⟨rfl, ⟨hI2, _⟩, hB2, hk2⟩
       exact ⟨rfl, below_keep hB hB2 hk2 hWb hI2⟩)
      (Kd.C_below HT.out B1.out) (by rw [HLEN.out]; exact hkc) HB2.out
     rw [HLEN.out] at C; have HCC := Aside0.mk C; clear C
     go_wp2_with fail
     refine HCC.out.mono ?_; rintro e w2 ⟨rfl, hb2⟩
     cases b with
     | true =>
      have h4 := H3.out; simp only [if_true, Option.some.injEq] at h4; subst h4; go_wp2; go_ret; exact ⟨rfl, below_trans (below_trans BW.out B1.out) hb2⟩
     | false =>
      have h4 := H3.out; simp only [Bool.false_eq_true, if_false] at h4; go_wp2
      go_roundg (l0.length - (kk + 1))
      case measure => omega
      case rel => exact ⟨kk + 1, by omega, by omega, by go_num, ⟨below_trans (below_trans BW.out B1.out) hb2⟩, ⟨h4⟩⟩
   ·have : kk = l0.length := by omega
    subst this
    have hltz : ¬ (l0.length : Int) < (l0.length : Int) := by omega
    have hf := HF.out; rw [List.drop_length] at hf; obtain rfl := Option.some.inj hf; clear hf; go_wp2; go_ret; exact ⟨rfl, BW.out⟩

/-! ### impl_TaxRow_29: function 29 -/
def impl_TaxRow_29.f (l0 : List (S66)) : Option (Bool) := some (decide ((l0.length : Int) ≤ 4096))
set_option maxHeartbeats 8000000 in
set_option maxRecDepth 100000 in
theorem impl_TaxRow_29.calls (A0 : Option Addr) (c0 : Nat) (l0 : List (S66)) (r : Bool) (w : World) (hr0 : Kd.C k66 w A0 l0.length l0) (hc0 : l0.length ≤ c0) (h : impl_TaxRow_29.f l0 = some r) :
  Calls Try.prog 29 #[.slice A0 l0.length c0] w fun e w' => e = .returned (.bool r) ∧ Drawn0 w w' := by
 have HR0 := Aside0.mk hr0; have HC0 := Aside0.mk hc0; clear hr0 hc0; have H : (some (decide ((l0.length : Int) ≤ 4096))) = some r := h; clear h; obtain rfl := Option.some.inj H; go_enter Try.func29, Try.ntmps29; go_wp2; go_ret; exact ⟨by first | rfl | (simp; done) | (simp [*]; done), by repeat (first | exact Drawn0.refl _ | apply Drawn0.step)⟩

/-! ### slices_IndexFunc_string_string: function 67, by hand, over whatever function value -/
def slices_IndexFunc_string_string.f (p : ByteArray → Option Bool) : List ByteArray → Int → Option Int
 | [], _ => some (-1)
 | x :: xs, i => (p x).bind fun b => if b = true then some i else slices_IndexFunc_string_string.f p xs (i + 1)
theorem slices_IndexFunc_string_string.cons (p : ByteArray → Option Bool) (x : ByteArray) (xs : List ByteArray) (i : Int) : slices_IndexFunc_string_string.f p (x :: xs) i = (p x).bind fun b => if b = true then some i else slices_IndexFunc_string_string.f p xs (i + 1) := rfl
theorem slices_IndexFunc_string_string.mono (p q : ByteArray → Option Bool) (h : ∀ x, LeO (p x) (q x)) : ∀ l i, LeO (slices_IndexFunc_string_string.f p l i) (slices_IndexFunc_string_string.f q l i)
 | [], _ => LeO.refl _
 | x :: xs, i => LeO.bind (h x) (fun b => LeO.ite (LeO.refl _) (slices_IndexFunc_string_string.mono p q h xs (i + 1)))
set_option maxHeartbeats 8000000 in
set_option maxRecDepth 100000 in
theorem slices_IndexFunc_string_string.calls (p : ByteArray → Option Bool) (l0 : List ByteArray) (A0 : Option Addr) (c0 : Nat) (g : Nat) (lb : Array Value) (r : Int) (w : World) (eg : ∀ args w, (callFunc g args).run Try.prog w = .ok (.enter g args) w)
  (hp : ∀ (W_ : World) (x_ : ByteArray) (b_ : Bool), Below w.heap.size w W_ → p x_ = some b_ → Calls Try.prog g (#[.string x_] ++ lb) W_ fun e w' => e = .returned (.bool b_) ∧ Below W_.heap.size W_ w')
  (hr0 : Kd.C Kd.string w A0 l0.length l0) (hc0 : l0.length ≤ c0) (h : slices_IndexFunc_string_string.f p l0 0 = some r) :
  Calls Try.prog 67 #[.slice A0 l0.length c0, .func (.func g) #[] lb] w fun e w' => e = .returned (.int .i64 r) ∧ Below w.heap.size w w' := by
 have hbig : l0.length ≤ 9223372036854775807 := hr0.2.1; have HP := Aside0.mk hp; have HR := Aside0.mk hr0; have H := Aside0.mk h; clear hp hr0 h; go_enter Try.func67, Try.ntmps67; go_wp2
 go_loopg [5, 8] l0.length (fun gg _ s8 wr => ∃ kk : Nat, kk ≤ l0.length ∧ l0.length - kk ≤ gg ∧ s8 = .int .i64 kk ∧ Aside0 (Below w.heap.size w wr) ∧ Aside0 (slices_IndexFunc_string_string.f p (l0.drop kk) kk = some r))
 case atStart => exact ⟨0, Nat.zero_le _, by omega, rfl, ⟨Below.refl _ w⟩, ⟨H.out⟩⟩
 case round =>
  obtain ⟨kk, hkk, hg, rfl, BW, HF⟩ := hrel; by_cases hlt : kk < l0.length
  ·have hltz : (kk : Int) < (l0.length : Int) := by omega
   have hf := HF.out
   have hcons : l0.drop kk = rdOf ByteArray.empty l0 (kk : Int) :: l0.drop (kk + 1) := by
    rw [List.drop_eq_getElem_cons hlt]
    congr 1
    unfold rdOf; rw [Int.toNat_natCast, List.getD_eq_getElem?_getD, List.getElem?_eq_getElem hlt]; rfl
   obtain ⟨ad, rfl, hx0⟩ := Kd.at_string (Kd.C_below HR.out BW.out) (kk : Int) (by omega) hltz; rw [hcons, slices_IndexFunc_string_string.cons] at hf; clear hcons; simp only [Int.toNat_natCast] at hx0; generalize hxx : rdOf ByteArray.empty l0 (kk : Int) = x_ at *; have HX := Aside0.mk hxx; clear hxx; obtain ⟨b, hb, hf2⟩ := Option.bind_eq_some_iff.mp hf; have hcall := HP.out wr x_ b BW.out hb; have HB := Aside0.mk hb; have HF2 := Aside0.mk hf2; clear hf hb hf2
   cases b with
   | true =>
    go_wp2_with (go_at_fn g; refine hcall.mono ?_; rintro e w' ⟨rfl, hb'⟩)
    go_ret; have hr_ := HF2.out; simp only [if_true, Option.some.injEq] at hr_; exact ⟨by rw [← hr_]; rfl, BW.out.trans (hb'.mono BW.out.size)⟩
   | false =>
    go_wp2_with (go_at_fn g; refine hcall.mono ?_; rintro e w' ⟨rfl, hb'⟩)
    go_roundg (l0.length - (kk + 1))
    case measure => omega
    case rel =>
     have hr_ := HF2.out; simp only [Bool.false_eq_true, if_false] at hr_; exact ⟨kk + 1, by omega, by omega, by go_num, ⟨BW.out.trans (hb'.mono BW.out.size)⟩, ⟨by rw [show ((kk + 1 : Nat) : Int) = (kk : Int) + 1 by omega]; exact hr_⟩⟩
  ·have hltz : ¬ (kk : Int) < (l0.length : Int) := by omega
   have : kk = l0.length := by omega
   subst this; have hf := HF.out; rw [List.drop_length] at hf; have hr_ : -1 = r := Option.some.inj hf; have HX := Aside0.mk hr_; clear hf hr_; go_wp2; go_ret; exact ⟨by rw [← HX.out]; rfl, BW.out⟩

/-! ### slices_ContainsFunc_string_string: function 54, by hand, over whatever function value -/
def slices_ContainsFunc_string_string.f (p : ByteArray → Option Bool) (l : List ByteArray) : Option Bool := (slices_IndexFunc_string_string.f p l 0).bind fun i => some (decide (i ≥ 0))
theorem slices_ContainsFunc_string_string.mono (p q : ByteArray → Option Bool) (h : ∀ x, LeO (p x) (q x)) (l : List ByteArray) : LeO (slices_ContainsFunc_string_string.f p l) (slices_ContainsFunc_string_string.f q l) := LeO.bind (slices_IndexFunc_string_string.mono p q h l 0) (fun _ => LeO.refl _)
set_option maxHeartbeats 8000000 in
set_option maxRecDepth 100000 in
theorem slices_ContainsFunc_string_string.calls (p : ByteArray → Option Bool) (l0 : List ByteArray) (A0 : Option Addr) (c0 : Nat) (g : Nat) (lb : Array Value) (r : Bool) (w : World) (eg : ∀ args w, (callFunc g args).run Try.prog w = .ok (.enter g args) w)
  (hp : ∀ (W_ : World) (x_ : ByteArray) (b_ : Bool), Below w.heap.size w W_ → p x_ = some b_ → Calls Try.prog g (#[.string x_] ++ lb) W_ fun e w' => e = .returned (.bool b_) ∧ Below W_.heap.size W_ w')
  (hr0 : Kd.C Kd.string w A0 l0.length l0) (hc0 : l0.length ≤ c0) (h : slices_ContainsFunc_string_string.f p l0 = some r) :
  Calls Try.prog 54 #[.slice A0 l0.length c0, .func (.func g) #[] lb] w fun e w' => e = .returned (.bool r) ∧ Below w.heap.size w w' := by
 obtain ⟨i, hi, h2⟩ := Option.bind_eq_some_iff.mp h; have hr_ : decide (i ≥ 0) = r := Option.some.inj h2; have C := slices_IndexFunc_string_string.calls p l0 A0 c0 g lb i w eg hp hr0 hc0 hi; have HR_ := Aside0.mk hr_; clear h hi h2 hp hr_; by_cases hpos : 0 ≤ i
 ·have hd : decide (0 ≤ i) = true := decide_eq_true hpos; go_enter Try.func54, Try.ntmps54
  go_wp2_with (go_at_call 67; refine C.mono ?_; rintro e w' ⟨rfl, hb'⟩)
  go_ret; exact ⟨by rw [← HR_.out, decide_eq_true (show i ≥ 0 by omega)]; rfl, hb'⟩
 ·have hd : decide (0 ≤ i) = false := decide_eq_false hpos; go_enter Try.func54, Try.ntmps54
  go_wp2_with (go_at_call 67; refine C.mono ?_; rintro e w' ⟨rfl, hb'⟩)
  go_ret; exact ⟨by rw [← HR_.out, decide_eq_false (show ¬ i ≥ 0 by omega)]; rfl, hb'⟩

/-! ### impl_areTexts_1: function 55 -/
def impl_areTexts_1.f (a0 : ByteArray) : Option (Bool) := some (decide ((a0.size : Int) > 65536))
set_option maxHeartbeats 8000000 in
set_option maxRecDepth 100000 in
theorem impl_areTexts_1.calls (a0 : ByteArray) (r : Bool) (w : World) (h : impl_areTexts_1.f a0 = some r) :
  Calls Try.prog 55 #[.string a0] w fun e w' => e = .returned (.bool r) ∧ Drawn0 w w' := by
 have H : (some (decide ((a0.size : Int) > 65536))) = some r := h; clear h; obtain rfl := Option.some.inj H; go_enter Try.func55, Try.ntmps55; go_wp2; go_ret; exact ⟨by first | rfl | (simp; done) | (simp [*]; done), by repeat (first | exact Drawn0.refl _ | apply Drawn0.step)⟩

/-! ### slices_ContainsFunc_string_string_impl_areTexts_1: function 54 at function 55 -/
def slices_ContainsFunc_string_string_impl_areTexts_1.f (l0 : List ByteArray) : Option Bool := slices_ContainsFunc_string_string.f (fun x_ => impl_areTexts_1.f x_) l0
set_option maxHeartbeats 8000000 in
set_option maxRecDepth 100000 in
theorem slices_ContainsFunc_string_string_impl_areTexts_1.calls (A0 : Option Addr) (c0 : Nat) (l0 : List ByteArray) (r : Bool) (w : World) (hr0 : Kd.C Kd.string w A0 l0.length l0) (hc0 : l0.length ≤ c0) (h : slices_ContainsFunc_string_string_impl_areTexts_1.f l0 = some r) :
    Calls Try.prog 54 #[.slice A0 l0.length c0, .func (.func 55) #[] #[]] w fun e w' => e = .returned (.bool r) ∧ Below w.heap.size w w' :=
  slices_ContainsFunc_string_string.calls (fun x_ => impl_areTexts_1.f x_) l0 A0 c0 55 #[] r w (fun args w => enters_of Try.func55 (by kernel_rfl) rfl args w)
    (fun W_ x_ b_ hW_ hb_ => (impl_areTexts_1.calls (a0 := x_) (r := b_) (w := W_) (h := hb_)).mono fun e w' hq => ⟨hq.1, by first | exact hq.2 | exact hq.2.below⟩)
    hr0 hc0 h

/-! ### impl_areTexts: function 30 -/
def impl_areTexts.f (l0 : List ByteArray) : Option (Bool) := (slices_ContainsFunc_string_string_impl_areTexts_1.f l0).bind fun t222 => (some (!t222))
set_option maxHeartbeats 8000000 in
set_option maxRecDepth 100000 in
theorem impl_areTexts.calls (A0 : Option Addr) (c0 : Nat) (l0 : List ByteArray) (r : Bool) (w : World) (hr0 : Kd.C Kd.string w A0 l0.length l0) (hc0 : l0.length ≤ c0) (h : impl_areTexts.f l0 = some r) :
  Calls Try.prog 30 #[.slice A0 l0.length c0] w fun e w' => e = .returned (.bool r) ∧ Below w.heap.size w w' := by
 have HR0 := Aside0.mk hr0; have HC0 := Aside0.mk hc0; clear hr0 hc0; have HB := Aside0.mk (Below.refl w.heap.size w); have H : ((slices_ContainsFunc_string_string_impl_areTexts_1.f l0).bind fun t222 => (some (!t222))) = some r := h; clear h; replace H := Option.bind_eq_some_iff.mp H; obtain ⟨t222, A20, H⟩ := H; replace H : (some (!t222)) = some r := H; have A2 := Aside0.mk A20; clear A20; obtain rfl := Option.some.inj H; go_enter Try.func30, Try.ntmps30
 go_wp2_with (first | ((with_reducible refine gate_callee (f := 54) rfl ?_); refine goesL_ (some 4) rfl rfl Try.func54 (by kernel_rfl) rfl #[.slice A0 l0.length c0, .func (.func 55) #[] #[]] rfl mq ?_; (with_reducible refine (slices_ContainsFunc_string_string_impl_areTexts_1.calls _ _ l0 t222 _ ?side1 ?side2 A2.out).mono ?_); (case side1 => repeat (first | exact HR0.out | (with_reducible refine Kd.C_alloc ?_ _) | (with_reducible refine Kd.C_drewN ?_ _) | (with_reducible refine Kd.C_drew ?_))); (case side2 => exact HC0.out); rintro e w3 ⟨rfl, hb⟩; refine ⟨_, rfl, ?_⟩; have n0_ := Aside0.mk (below_step (qb HB) hb); clear HB; have HB := n0_; clear n0_; (try clear hb); (try clear hb2); (try clear hk); (try clear hi)))
 go_ret; exact ⟨eqq, qb HB⟩

end Go.Proofs.Ytgmohjegijndeaa.PAll
