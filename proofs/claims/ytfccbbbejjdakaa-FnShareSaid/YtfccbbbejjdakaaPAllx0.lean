-- Written by wip/tools/hp.py over the kit's print (not by hand): functions and walks of All.
import Derived.Test.YtfccbbbejjdakaaProg
import Derived.Below
import Derived.Deep.Draws
import Derived.Deep.AppendLies
import Derived.Maps.AppendAt
import Derived.OwnWalk
import Derived.Laws.BytesArg
import Derived.Laws.MakeOwn
import Derived.Laws.OwnMore
import Derived.Deep.OwnRows
import Derived.Tactics
import Derived.Lib.ConvBytes
import Derived.Laws.Slices
import Derived.WalkKit
import Derived.KernelRfl
import Derived.RowKit3
import Derived.Deep.LoopGhost
import Derived.Deep.QuietTactic
import Derived.BigQuiet
import Derived.WideLaws
import Derived.Deep.DeepCutAuto
import Derived.Deep.CutBlock
import Derived.Deep.RegionHeld3
import Derived.Laws.Rows
import Derived.Lib.AppendStr
import Derived.ArgAppend
import Derived.Laws.IdiomCopy
import Derived.OrdersHeld
import Derived.Laws.BitsLemmas
import Derived.RowKit
import Derived.Test.YtfccbbbejjdakaaShelf
import Derived.Test.YtfccbbbejjdakaaSortD
import Derived.Test.YtfccbbbejjdakaaGreedy
import Derived.Deep.RegionLaw
import Derived.BigRegion
import Derived.Shelf.Abstract
import Derived.Deep.Cut
import Derived.Test.YtfccbbbejjdakaaWords0
namespace Go.Proofs.Ytfccbbbejjdakaa.PAll
open Go.RowKit Go.Proofs.YtfccbbbejjdakaaW.PrintWords Go.Proofs.YtfccbbbejjdakaaW.PrintLast Go.Proofs.YtfccbbbejjdakaaW.PrintMore
attribute [local go_sem] max2_int min2_int max_two min_two max_three min_three max_four min_four   -- for this text's walks alone
set_option linter.unusedVariables false
set_option linter.unusedSimpArgs false



def errW : Option Int → Value
  | none => .nilIface
  | some c => .iface 0 (.int .i64 c)
theorem errW_none : errW none = .nilIface := rfl
theorem errW_some (c : Int) : errW (some c) = .iface 0 (.int .i64 c) := rfl

/-! ### small words for what is proved by hand -/
/-- A row of truth values by the lengths of its runs. -/
def rl_ : Bool → List Nat → List Bool | _, [] => [] | b, n :: r => List.replicate n b ++ rl_ (!b) r
/-- A call that keeps all but one block, and that one stands as it stood: what lay, lies. -/
theorem below_keep {w0 W w1 : World} {g : Nat} {o : Obj} (h0 : Below w0.heap.size w0 W) (h1 : Below w0.heap.size w0 w1) (hk : KeepBut W w1 g none) (ho : W.heap[g]? = some o) (ho1 : w1.heap[g]? = some o) : Below W.heap.size W w1 :=
  ⟨h1.os.trans h0.os.symm, h1.tape.trans h0.tape.symm, h1.output.trans h0.output.symm, hk.1, fun i hi => by
    by_cases e : i = g
    · subst e; rw [ho1, ho]
    · exact hk.2 i hi e (by simp)⟩
theorem below_trans {w W w1 : World} (h : Below w.heap.size w W) (k : Below W.heap.size W w1) : Below w.heap.size w w1 := h.trans (k.mono h.size)
/-- An empty literal's row. -/
theorem row_empty {α : Type} (d : Kd α) (w : World) (e : Nat) : Kd.R d e (w.alloc (.cells #[] e)) w.heap.size (fun _ => True) (.slice (some ⟨w.heap.size, 0, none⟩) 0 0) [] := by
  have h2 := World.ownsRow_lit (base := w.heap.size) (e := e) (size := d.sz) w (#[] : Array Value) 0 (Nat.le_refl _) (by simp [maxLen])
  exact ⟨fun _ _ => trivial, [], by simpa using h2, Reps.none _ _⟩
theorem row_empty2 {α : Type} (d : Kd α) (w : World) (e base : Nat) (h : base ≤ w.heap.size) : Kd.R d e (w.alloc (.cells #[] e)) base (fun _ => True) (.slice (some ⟨w.heap.size, 0, none⟩) 0 0) [] := by
  have h2 := World.ownsRow_lit (base := base) (e := e) (size := d.sz) w (#[] : Array Value) 0 h (by simp [maxLen])
  exact ⟨fun _ _ => trivial, [], by simpa using h2, Reps.none _ _⟩
/-- A known block still stands in a world that has drawn or grown since. -/
theorem bq {w0 w : World} {g : Nat} {o : Obj} (_h : Aside0 (w0.heap[g]? = some o)) (k : w.heap[g]? = some o := by (with_reducible repeat (first | refine blk_drewN ?_ _ | refine blk_drew ?_ | refine blk_alloc ?_ _)); exact Aside0.out (by with_reducible assumption)) : w.heap[g]? = some o := k
/-- Nothing of what came in has turned, in a world that has drawn, grown or set a cell of its own since. -/
theorem qb {b : Nat} {w0 w1 w : World} (_h : Aside0 (Below b w0 w1)) (k : Below b w0 w := by repeat (first | (with_reducible first | exact Aside0.out (by with_reducible assumption) | apply below_alloc | apply pw_below_drewN | apply below_drew1 | refine below_set ?_ (Aside0.out (by with_reducible assumption))) | exact Aside0.out (by assumption))) : Below b w0 w := k
theorem sA {α : Type} (l : List α) (i : Nat) (a : α) : l.toArray.setIfInBounds i a = (l.set i a).toArray := List.setIfInBounds_toArray ..
theorem s0 {α : Type} {x : α} {xs : List α} {a : α} : (x :: xs).set 0 a = a :: xs := List.set_cons_zero
theorem sS {α : Type} {x : α} {xs : List α} {n : Nat} {a : α} : (x :: xs).set (n + 1) a = x :: xs.set n a := List.set_cons_succ
/-- The same, where cells of other blocks were set, too. -/
theorem bf {w0 w : World} {g : Nat} {o : Obj} (_h : Aside0 (w0.heap[g]? = some o)) (k : w.heap[g]? = some o := by (repeat (first | (with_reducible first | exact Aside0.out (by with_reducible assumption) | refine blk_drewN ?_ _ | refine blk_drew ?_ | refine blk_alloc ?_ _) | refine blk_far ?_ (Aside0.out (by with_reducible assumption)) _))) : w.heap[g]? = some o := k
/-- A row of the call's own still stands. -/
theorem qr {α : Type} {d : Kd α} {e : TypeId} {w0 w : World} {b : Nat} {F : Nat → Prop} {v : Value} {l : List α} (_h : Aside0 (Kd.R d e w0 b F v l)) (k : Kd.R d e w b F v l := by (with_reducible repeat (first | apply Kd.R_alloc | apply Kd.R_drewN | apply Kd.R_drew)); exact Aside0.out (by with_reducible assumption)) : Kd.R d e w b F v l := k
theorem qs {α : Type} {d : Kd α} {e : TypeId} {w0 w : World} {b : Nat} {F : Nat → Prop} {v : Value} {l : List α} (_h : Aside0 (Kd.S d e w0 b F v l)) (k : Kd.S d e w b F v l := by (with_reducible repeat (first | apply Kd.S_alloc | apply Kd.S_drewN | apply Kd.S_drew)); exact Aside0.out (by with_reducible assumption)) : Kd.S d e w b F v l := k
theorem eqq {α : Type} {a b : α} (h : a = b := by first | rfl | (simp [errW_none, errW_some] <;> rfl) | (simp [*, errW_none, errW_some] <;> rfl)) : a = b := h
theorem bz1 {w : World} {g : Nat} {t : TypeId} {a0 : Value} (h : Aside0 (w.heap[g]? = some (.cells #[a0] t (0, 0)))) : w.cell? ⟨g, 0, none⟩ = some a0 ∧ w.frozen? ⟨g, 0, none⟩ = false :=
  ⟨(blk_cell h.out 0).trans rfl, blk_frozen h.out 0⟩
theorem bz2 {w : World} {g : Nat} {t : TypeId} {a0 a1 : Value} (h : Aside0 (w.heap[g]? = some (.cells #[a0, a1] t (0, 0)))) : w.cell? ⟨g, 0, none⟩ = some a0 ∧ w.cell? ⟨g, 1, none⟩ = some a1 ∧ w.frozen? ⟨g, 0, none⟩ = false ∧ w.frozen? ⟨g, 1, none⟩ = false :=
  ⟨(blk_cell h.out 0).trans rfl, (blk_cell h.out 1).trans rfl, blk_frozen h.out 0, blk_frozen h.out 1⟩
theorem bz3 {w : World} {g : Nat} {t : TypeId} {a0 a1 a2 : Value} (h : Aside0 (w.heap[g]? = some (.cells #[a0, a1, a2] t (0, 0)))) : w.cell? ⟨g, 0, none⟩ = some a0 ∧ w.cell? ⟨g, 1, none⟩ = some a1 ∧ w.cell? ⟨g, 2, none⟩ = some a2 ∧ w.frozen? ⟨g, 0, none⟩ = false ∧ w.frozen? ⟨g, 1, none⟩ = false ∧ w.frozen? ⟨g, 2, none⟩ = false :=
  ⟨(blk_cell h.out 0).trans rfl, (blk_cell h.out 1).trans rfl, (blk_cell h.out 2).trans rfl, blk_frozen h.out 0, blk_frozen h.out 1, blk_frozen h.out 2⟩
theorem bz4 {w : World} {g : Nat} {t : TypeId} {a0 a1 a2 a3 : Value} (h : Aside0 (w.heap[g]? = some (.cells #[a0, a1, a2, a3] t (0, 0)))) : w.cell? ⟨g, 0, none⟩ = some a0 ∧ w.cell? ⟨g, 1, none⟩ = some a1 ∧ w.cell? ⟨g, 2, none⟩ = some a2 ∧ w.cell? ⟨g, 3, none⟩ = some a3 ∧ w.frozen? ⟨g, 0, none⟩ = false ∧ w.frozen? ⟨g, 1, none⟩ = false ∧ w.frozen? ⟨g, 2, none⟩ = false ∧ w.frozen? ⟨g, 3, none⟩ = false :=
  ⟨(blk_cell h.out 0).trans rfl, (blk_cell h.out 1).trans rfl, (blk_cell h.out 2).trans rfl, (blk_cell h.out 3).trans rfl, blk_frozen h.out 0, blk_frozen h.out 1, blk_frozen h.out 2, blk_frozen h.out 3⟩
theorem bz5 {w : World} {g : Nat} {t : TypeId} {a0 a1 a2 a3 a4 : Value} (h : Aside0 (w.heap[g]? = some (.cells #[a0, a1, a2, a3, a4] t (0, 0)))) : w.cell? ⟨g, 0, none⟩ = some a0 ∧ w.cell? ⟨g, 1, none⟩ = some a1 ∧ w.cell? ⟨g, 2, none⟩ = some a2 ∧ w.cell? ⟨g, 3, none⟩ = some a3 ∧ w.cell? ⟨g, 4, none⟩ = some a4 ∧ w.frozen? ⟨g, 0, none⟩ = false ∧ w.frozen? ⟨g, 1, none⟩ = false ∧ w.frozen? ⟨g, 2, none⟩ = false ∧ w.frozen? ⟨g, 3, none⟩ = false ∧ w.frozen? ⟨g, 4, none⟩ = false :=
  ⟨(blk_cell h.out 0).trans rfl, (blk_cell h.out 1).trans rfl, (blk_cell h.out 2).trans rfl, (blk_cell h.out 3).trans rfl, (blk_cell h.out 4).trans rfl, blk_frozen h.out 0, blk_frozen h.out 1, blk_frozen h.out 2, blk_frozen h.out 3, blk_frozen h.out 4⟩
theorem bz6 {w : World} {g : Nat} {t : TypeId} {a0 a1 a2 a3 a4 a5 : Value} (h : Aside0 (w.heap[g]? = some (.cells #[a0, a1, a2, a3, a4, a5] t (0, 0)))) : w.cell? ⟨g, 0, none⟩ = some a0 ∧ w.cell? ⟨g, 1, none⟩ = some a1 ∧ w.cell? ⟨g, 2, none⟩ = some a2 ∧ w.cell? ⟨g, 3, none⟩ = some a3 ∧ w.cell? ⟨g, 4, none⟩ = some a4 ∧ w.cell? ⟨g, 5, none⟩ = some a5 ∧ w.frozen? ⟨g, 0, none⟩ = false ∧ w.frozen? ⟨g, 1, none⟩ = false ∧ w.frozen? ⟨g, 2, none⟩ = false ∧ w.frozen? ⟨g, 3, none⟩ = false ∧ w.frozen? ⟨g, 4, none⟩ = false ∧ w.frozen? ⟨g, 5, none⟩ = false :=
  ⟨(blk_cell h.out 0).trans rfl, (blk_cell h.out 1).trans rfl, (blk_cell h.out 2).trans rfl, (blk_cell h.out 3).trans rfl, (blk_cell h.out 4).trans rfl, (blk_cell h.out 5).trans rfl, blk_frozen h.out 0, blk_frozen h.out 1, blk_frozen h.out 2, blk_frozen h.out 3, blk_frozen h.out 4, blk_frozen h.out 5⟩
theorem mq {α : Type} {a b : α} (h : a = b := by (try simp only [List.map_toArray, List.map_cons, List.map_nil]); first | done | rfl | (simp only [List.length_drop, List.length_take]; rfl)) : a = b := h
theorem u8_back (x : Int) : wrap64 (x % 256) = x % 256 ∧ wrap64 (IntKind.u8.wrap x) = x % 256 := by
  have h : wrap64 (x % 256) = x % 256 := by unfold wrap64; omega
  have e : IntKind.u8.wrap x = x % 256 := by unfold IntKind.wrap; rfl
  exact ⟨h, by rw [e]; exact h⟩
theorem u8_two (x : Int) : wrap64 (2 + wrap64 (IntKind.u8.wrap x)) = 2 + x % 256 := by
  rw [(u8_back x).2]; unfold wrap64; omega
/-- In a region's midst: more may be held from here on. -/
theorem strong_ds {P : Program} {md : Region.Mode} {ops : Array Oper} {Q : Exit → Act → World → Prop} {S S' : World → Prop} {ds : List Nat} : ∀ (fuel : Nat) (l : Array Bool) (a : Act) (w : World), (∀ j, l.getD j true = false → j ∈ ds) → wpAnyLast P md ops Q S' ds fuel l a w → wpAnyLast P md ops Q S ds fuel l a w
  | 0, _, _, _, _, h => h
  | fuel + 1, l, _, _, hl, h => ⟨h.1, fun i hi => wpOp_mono (fun a' w' h' => ⟨fun hn _ => absurd (hl i (mem_ready.1 hi).1) hn, strong_ds fuel _ a' w' (fun j hj => by
      by_cases e : i = j
      · subst e; exact hl i (mem_ready.1 hi).1
      · rw [getD_set_ne true e] at hj; exact hl j hj) h'.2⟩) (h.2 i hi)⟩
theorem strong_aux {P : Program} {md : Region.Mode} {ops : Array Oper} {Q : Exit → Act → World → Prop} {S S' : World → Prop} {ds : List Nat} (n : Nat) (hSS : ∀ w, S' w → S w) : ∀ (fuel : Nat) (l : Array Bool) (a : Act) (w : World), ListedClosed md ops l → (∀ i, i ∉ ds → l.getD i true = false → ∀ d ∈ ds, l.getD d true = false → Region.reachB md ops i n d = true) → S' w → wpAnyLast P md ops Q S' ds fuel l a w → wpAnyLast P md ops Q S ds fuel l a w
  | 0, _, _, _, _, _, _, h => h
  | fuel + 1, l, _, _, hc, hr, hS, h => ⟨h.1, fun i hi => by
      by_cases hd : i ∈ ds
      · refine wpOp_mono (fun a' w' h' => ⟨fun hn _ => absurd hd hn, strong_ds fuel _ a' w' (fun j hj => ?_) h'.2⟩) (h.2 i hi)
        by_cases e : i = j
        · subst e; exact hd
        · rw [getD_set_ne true e] at hj
          by_cases hj2 : j ∈ ds
          · exact hj2
          · exact absurd hi (Region.reach_not_ready hc (hr j hj2 hj i hd (mem_ready.1 hi).1) hj)
      · refine wpOp_mono (fun a' w' h' => ⟨fun hn _ => hSS w' (h'.1 hn hS), strong_aux n hSS fuel _ a' w' (hc.set hi) (fun j hj hl d hd' hld => ?_) (h'.1 hd hS) h'.2⟩) (h.2 i hi)
        have h1 : l.getD j true = false := by
          by_cases e : i = j
          · subst e; exact (mem_ready.1 hi).1
          · rw [getD_set_ne true e] at hl; exact hl
        have h2 : l.getD d true = false := by
          by_cases e : i = d
          · subst e; exact (mem_ready.1 hi).1
          · rw [getD_set_ne true e] at hld; exact hld
        exact hr j hj h1 d hd' h2⟩
def strongB (md : Region.Mode) (ops : Array Oper) (ds : List Nat) (n : Nat) (l : Array Bool) : Bool :=
  Region.closedB md ops l && (List.range l.size).all fun i => ds.contains i || l.getD i true || ds.all fun d => l.getD d true || Region.reachB md ops i n d
theorem strong_ {P : Program} {md : Region.Mode} {ops : Array Oper} {Q : Exit → Act → World → Prop} {S : World → Prop} {ds : List Nat} (S' : World → Prop) {fuel : Nat} {l : Array Bool} {a : Act} {w : World} (hb : strongB md ops ds ops.size l = true) (hSS : ∀ w, S' w → S w) (hS : S' w) (h : S' w → wpAnyLast P md ops Q S' ds fuel l a w) : wpAnyLast P md ops Q S ds fuel l a w := by
  unfold strongB at hb
  rw [Bool.and_eq_true] at hb
  refine strong_aux ops.size hSS fuel l a w (Region.closedB_spec hb.1) (fun i hi hl d hd hld => ?_) hS (h hS)
  have hlt : i < l.size := by
    rcases Nat.lt_or_ge i l.size with q | q
    · exact q
    · rw [Array.getD_eq_getD_getElem?, Array.getElem?_eq_none q] at hl; cases hl
  have h1 := List.all_eq_true.1 hb.2 i (List.mem_range.2 hlt)
  simp only [Bool.or_eq_true, List.contains_iff_mem, hl, Bool.false_eq_true, or_false] at h1
  have h2 := List.all_eq_true.1 (h1.resolve_left hi) d hd
  simpa [hld] using h2
theorem R_apartT {α : Type} {d : Kd α} {e e' base : Nat} {W : World} {ok : Nat → Prop} {u : Value} {xs : List α} (h : d.R e W base ok u xs) (ht : ∀ q, q ∈ e :: d.E → q ≠ e') : d.R e W base (fun k => ok k ∧ ¬ ∃ cells, W.heap[k]? = some (.cells cells e' (0, 0))) u xs := by
  refine Kd.R_mono (Kd.R_bound h) (fun k hk => ⟨hk.1, ?_⟩)
  rintro ⟨cells', hc'⟩
  obtain ⟨_, _, _, q, hq, cells, hc⟩ := hk
  rw [hc] at hc'
  injection hc' with hc'
  injection hc' with _ hc'
  exact ht q hq hc'
theorem S_apartT {α : Type} {d : Kd α} {e e' base : Nat} {W : World} {ok : Nat → Prop} {u : Value} {xs : List α} (h : Kd.S d e W base ok u xs) (ht : ∀ q, q ∈ e :: d.E → q ≠ e') : Kd.S d e W base (fun k => ok k ∧ ¬ ∃ cells, W.heap[k]? = some (.cells cells e' (0, 0))) u xs := by
  obtain ⟨f, h⟩ := h
  exact ⟨f, R_apartT h ht⟩

theorem info3 : (Try.prog.info? 3).map (fun i => (i.zero, i.size, i.bytes)) = some (some (.int .i64 0), 1, 8) := by kernel_rfl
-- the values' own types
def rd_L1 (xs : List (List Int)) (i : Int) : (List Int) := xs.getD i.toNat ([] : List Int)
theorem at_L1 {w : World} {A : Option Addr} {n : Nat} {xs : List (List Int)} (h : Kd.C (Kd.slice 3 (Kd.int .i64)) w A n xs) (i : Int) (h0 : 0 ≤ i) (h1 : i < n) : ∃ ad A0 c0, A = some ad ∧ w.cell? (ad.add i.toNat) = some (.slice A0 (rd_L1 xs i).length c0) ∧ (rd_L1 xs i).length ≤ c0 ∧ (Kd.int .i64).C w A0 (rd_L1 xs i).length (rd_L1 xs i) := by
  obtain ⟨ad, c, e, _, hK, hc0⟩ := Kd.C_get h ([] : List Int) i h0 h1
  have hc : ∀ j u, c[j]? = some u → w.cell? (ad.add (i.toNat * 1 + j)) = some u := hc0
  obtain ⟨A0, c0, rfl, l0, g0⟩ := hK
  exact ⟨ad, A0, c0, e, by have hq := hc 0 _ rfl; rwa [Nat.mul_one, Nat.add_zero] at hq, l0, g0⟩

def rd_L3 (xs : List (List Int)) (i : Int) : (List Int) := xs.getD i.toNat ([] : List Int)
theorem at_L3 {w : World} {A : Option Addr} {n : Nat} {xs : List (List Int)} (h : Kd.C (Kd.slice 5 (Kd.int .u8)) w A n xs) (i : Int) (h0 : 0 ≤ i) (h1 : i < n) : ∃ ad A0 c0, A = some ad ∧ w.cell? (ad.add i.toNat) = some (.slice A0 (rd_L3 xs i).length c0) ∧ (rd_L3 xs i).length ≤ c0 ∧ (Kd.int .u8).C w A0 (rd_L3 xs i).length (rd_L3 xs i) := by
  obtain ⟨ad, c, e, _, hK, hc0⟩ := Kd.C_get h ([] : List Int) i h0 h1
  have hc : ∀ j u, c[j]? = some u → w.cell? (ad.add (i.toNat * 1 + j)) = some u := hc0
  obtain ⟨A0, c0, rfl, l0, g0⟩ := hK
  exact ⟨ad, A0, c0, e, by have hq := hc 0 _ rfl; rwa [Nat.mul_one, Nat.add_zero] at hq, l0, g0⟩

end Go.Proofs.Ytfccbbbejjdakaa.PAll
