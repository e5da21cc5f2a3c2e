-- Written by wip/tools/hp.py over the kit's print (not by hand): functions and walks of FnRules.

import Derived.Test.YthhhmcijbplcoaaGreatDoorProg
import Derived.Below
import Derived.Deep.Draws
import Derived.Deep.AppendLies
import Derived.Maps.AppendAt
import Derived.OwnWalk
import Derived.Laws.BytesArg
import Derived.Laws.MakeOwn
import Derived.Laws.OwnMore
import Derived.Deep.OwnRows
import Derived.Tactics
import Derived.Lib.ConvBytes
import Derived.Laws.Slices
import Derived.WalkKit
import Derived.KernelRfl
import Derived.RowKit3
import Derived.Deep.LoopGhost
import Derived.Deep.QuietTactic
import Derived.BigQuiet
import Derived.WideLaws
import Derived.Deep.DeepCutAuto
import Derived.Deep.CutBlock
import Derived.Deep.RegionHeld3
import Derived.Laws.Rows
import Derived.Lib.AppendStr
import Derived.ArgAppend
import Derived.Laws.IdiomCopy
import Derived.OrdersHeld
import Derived.Laws.BitsLemmas
import Derived.RowKit
import Derived.Test.YthhhmcijbplcoaaGreatDoorShelf
import Derived.BigRegion
import Derived.Shelf.Abstract
import Derived.Deep.Cut
import Derived.Deep.RegionHeld3
import Derived.Test.YthhhmcijbplcoaaGreatDoorWords0
namespace Go.Proofs.YthhhmcijbplcoaaGreatDoor.PFnRules
open Go.RowKit Go.Proofs.YthhhmcijbplcoaaGreatDoorW.PrintWords Go.Proofs.YthhhmcijbplcoaaGreatDoorW.PrintLast Go.Proofs.YthhhmcijbplcoaaGreatDoorW.PrintMore
attribute [local go_sem] max2_int min2_int max_two min_two max_three min_three max_four min_four   -- for this text's walks alone
set_option linter.unusedVariables false
set_option linter.unusedSimpArgs false



def errW : Option Int → Value
  | none => .nilIface
  | some c => .iface 0 (.int .i64 c)
theorem errW_none : errW none = .nilIface := rfl
theorem errW_some (c : Int) : errW (some c) = .iface 0 (.int .i64 c) := rfl

/-! ### small words for what is proved by hand -/
/-- A row of truth values by the lengths of its runs. -/
def rl_ : Bool → List Nat → List Bool | _, [] => [] | b, n :: r => List.replicate n b ++ rl_ (!b) r
/-- A call that keeps all but one block, and that one stands as it stood: what lay, lies. -/
theorem below_keep {w0 W w1 : World} {g : Nat} {o : Obj} (h0 : Below w0.heap.size w0 W) (h1 : Below w0.heap.size w0 w1) (hk : KeepBut W w1 g none) (ho : W.heap[g]? = some o) (ho1 : w1.heap[g]? = some o) : Below W.heap.size W w1 :=
  ⟨h1.os.trans h0.os.symm, h1.tape.trans h0.tape.symm, h1.output.trans h0.output.symm, hk.1, fun i hi => by
    by_cases e : i = g
    · subst e; rw [ho1, ho]
    · exact hk.2 i hi e (by simp)⟩
theorem below_trans {w W w1 : World} (h : Below w.heap.size w W) (k : Below W.heap.size W w1) : Below w.heap.size w w1 := h.trans (k.mono h.size)
/-- An empty literal's row. -/
theorem row_empty {α : Type} (d : Kd α) (w : World) (e : Nat) : Kd.R d e (w.alloc (.cells #[] e)) w.heap.size (fun _ => True) (.slice (some ⟨w.heap.size, 0, none⟩) 0 0) [] := by
  have h2 := World.ownsRow_lit (base := w.heap.size) (e := e) (size := d.sz) w (#[] : Array Value) 0 (Nat.le_refl _) (by simp [maxLen])
  exact ⟨fun _ _ => trivial, [], by simpa using h2, Reps.none _ _⟩
/-- A known block still stands in a world that has drawn or grown since. -/
theorem bq {w0 w : World} {g : Nat} {o : Obj} (_h : Aside0 (w0.heap[g]? = some o)) (k : w.heap[g]? = some o := by (with_reducible repeat (first | refine blk_drewN ?_ _ | refine blk_drew ?_ | refine blk_alloc ?_ _)); exact Aside0.out (by with_reducible assumption)) : w.heap[g]? = some o := k
/-- Nothing of what came in has turned, in a world that has drawn, grown or set a cell of its own since. -/
theorem qb {b : Nat} {w0 w1 w : World} (_h : Aside0 (Below b w0 w1)) (k : Below b w0 w := by repeat (first | (with_reducible first | exact Aside0.out (by with_reducible assumption) | apply below_alloc | apply pw_below_drewN | apply below_drew1 | refine below_set ?_ (Aside0.out (by with_reducible assumption))) | exact Aside0.out (by assumption))) : Below b w0 w := k
theorem sA {α : Type} (l : List α) (i : Nat) (a : α) : l.toArray.setIfInBounds i a = (l.set i a).toArray := List.setIfInBounds_toArray ..
theorem s0 {α : Type} {x : α} {xs : List α} {a : α} : (x :: xs).set 0 a = a :: xs := List.set_cons_zero
theorem sS {α : Type} {x : α} {xs : List α} {n : Nat} {a : α} : (x :: xs).set (n + 1) a = x :: xs.set n a := List.set_cons_succ
/-- The same, where cells of other blocks were set, too. -/
theorem bf {w0 w : World} {g : Nat} {o : Obj} (_h : Aside0 (w0.heap[g]? = some o)) (k : w.heap[g]? = some o := by (repeat (first | (with_reducible first | exact Aside0.out (by with_reducible assumption) | refine blk_drewN ?_ _ | refine blk_drew ?_ | refine blk_alloc ?_ _) | refine blk_far ?_ (Aside0.out (by with_reducible assumption)) _))) : w.heap[g]? = some o := k
/-- A row of the call's own still stands. -/
theorem qr {α : Type} {d : Kd α} {e : TypeId} {w0 w : World} {b : Nat} {F : Nat → Prop} {v : Value} {l : List α} (_h : Aside0 (Kd.R d e w0 b F v l)) (k : Kd.R d e w b F v l := by (with_reducible repeat (first | apply Kd.R_alloc | apply Kd.R_drewN | apply Kd.R_drew)); exact Aside0.out (by with_reducible assumption)) : Kd.R d e w b F v l := k
theorem qs {α : Type} {d : Kd α} {e : TypeId} {w0 w : World} {b : Nat} {F : Nat → Prop} {v : Value} {l : List α} (_h : Aside0 (Kd.S d e w0 b F v l)) (k : Kd.S d e w b F v l := by (with_reducible repeat (first | apply Kd.S_alloc | apply Kd.S_drewN | apply Kd.S_drew)); exact Aside0.out (by with_reducible assumption)) : Kd.S d e w b F v l := k
theorem eqq {α : Type} {a b : α} (h : a = b := by first | rfl | (simp [errW_none, errW_some] <;> rfl) | (simp [*, errW_none, errW_some] <;> rfl)) : a = b := h
theorem bz3 {w : World} {g : Nat} {t : TypeId} {a0 a1 a2 : Value} (h : Aside0 (w.heap[g]? = some (.cells #[a0, a1, a2] t (0, 0)))) : w.cell? ⟨g, 0, none⟩ = some a0 ∧ w.cell? ⟨g, 1, none⟩ = some a1 ∧ w.cell? ⟨g, 2, none⟩ = some a2 ∧ w.frozen? ⟨g, 0, none⟩ = false ∧ w.frozen? ⟨g, 1, none⟩ = false ∧ w.frozen? ⟨g, 2, none⟩ = false :=
  ⟨(blk_cell h.out 0).trans rfl, (blk_cell h.out 1).trans rfl, (blk_cell h.out 2).trans rfl, blk_frozen h.out 0, blk_frozen h.out 1, blk_frozen h.out 2⟩
theorem bz4 {w : World} {g : Nat} {t : TypeId} {a0 a1 a2 a3 : Value} (h : Aside0 (w.heap[g]? = some (.cells #[a0, a1, a2, a3] t (0, 0)))) : w.cell? ⟨g, 0, none⟩ = some a0 ∧ w.cell? ⟨g, 1, none⟩ = some a1 ∧ w.cell? ⟨g, 2, none⟩ = some a2 ∧ w.cell? ⟨g, 3, none⟩ = some a3 ∧ w.frozen? ⟨g, 0, none⟩ = false ∧ w.frozen? ⟨g, 1, none⟩ = false ∧ w.frozen? ⟨g, 2, none⟩ = false ∧ w.frozen? ⟨g, 3, none⟩ = false :=
  ⟨(blk_cell h.out 0).trans rfl, (blk_cell h.out 1).trans rfl, (blk_cell h.out 2).trans rfl, (blk_cell h.out 3).trans rfl, blk_frozen h.out 0, blk_frozen h.out 1, blk_frozen h.out 2, blk_frozen h.out 3⟩
theorem bz5 {w : World} {g : Nat} {t : TypeId} {a0 a1 a2 a3 a4 : Value} (h : Aside0 (w.heap[g]? = some (.cells #[a0, a1, a2, a3, a4] t (0, 0)))) : w.cell? ⟨g, 0, none⟩ = some a0 ∧ w.cell? ⟨g, 1, none⟩ = some a1 ∧ w.cell? ⟨g, 2, none⟩ = some a2 ∧ w.cell? ⟨g, 3, none⟩ = some a3 ∧ w.cell? ⟨g, 4, none⟩ = some a4 ∧ w.frozen? ⟨g, 0, none⟩ = false ∧ w.frozen? ⟨g, 1, none⟩ = false ∧ w.frozen? ⟨g, 2, none⟩ = false ∧ w.frozen? ⟨g, 3, none⟩ = false ∧ w.frozen? ⟨g, 4, none⟩ = false :=
  ⟨(blk_cell h.out 0).trans rfl, (blk_cell h.out 1).trans rfl, (blk_cell h.out 2).trans rfl, (blk_cell h.out 3).trans rfl, (blk_cell h.out 4).trans rfl, blk_frozen h.out 0, blk_frozen h.out 1, blk_frozen h.out 2, blk_frozen h.out 3, blk_frozen h.out 4⟩
theorem mq {α : Type} {a b : α} (h : a = b := by (try simp only [List.map_toArray, List.map_cons, List.map_nil]); first | done | rfl | (simp only [List.length_drop, List.length_take]; rfl)) : a = b := h
/-- In a region's midst: more may be held from here on. -/
theorem strong_ds {P : Program} {md : Region.Mode} {ops : Array Oper} {Q : Exit → Act → World → Prop} {S S' : World → Prop} {ds : List Nat} : ∀ (fuel : Nat) (l : Array Bool) (a : Act) (w : World), (∀ j, l.getD j true = false → j ∈ ds) → wpAnyLast P md ops Q S' ds fuel l a w → wpAnyLast P md ops Q S ds fuel l a w
  | 0, _, _, _, _, h => h
  | fuel + 1, l, _, _, hl, h => ⟨h.1, fun i hi => wpOp_mono (fun a' w' h' => ⟨fun hn _ => absurd (hl i (mem_ready.1 hi).1) hn, strong_ds fuel _ a' w' (fun j hj => by
      by_cases e : i = j
      · subst e; exact hl i (mem_ready.1 hi).1
      · rw [getD_set_ne true e] at hj; exact hl j hj) h'.2⟩) (h.2 i hi)⟩
theorem strong_aux {P : Program} {md : Region.Mode} {ops : Array Oper} {Q : Exit → Act → World → Prop} {S S' : World → Prop} {ds : List Nat} (n : Nat) (hSS : ∀ w, S' w → S w) : ∀ (fuel : Nat) (l : Array Bool) (a : Act) (w : World), ListedClosed md ops l → (∀ i, i ∉ ds → l.getD i true = false → ∀ d ∈ ds, l.getD d true = false → Region.reachB md ops i n d = true) → S' w → wpAnyLast P md ops Q S' ds fuel l a w → wpAnyLast P md ops Q S ds fuel l a w
  | 0, _, _, _, _, _, _, h => h
  | fuel + 1, l, _, _, hc, hr, hS, h => ⟨h.1, fun i hi => by
      by_cases hd : i ∈ ds
      · refine wpOp_mono (fun a' w' h' => ⟨fun hn _ => absurd hd hn, strong_ds fuel _ a' w' (fun j hj => ?_) h'.2⟩) (h.2 i hi)
        by_cases e : i = j
        · subst e; exact hd
        · rw [getD_set_ne true e] at hj
          by_cases hj2 : j ∈ ds
          · exact hj2
          · exact absurd hi (Region.reach_not_ready hc (hr j hj2 hj i hd (mem_ready.1 hi).1) hj)
      · refine wpOp_mono (fun a' w' h' => ⟨fun hn _ => hSS w' (h'.1 hn hS), strong_aux n hSS fuel _ a' w' (hc.set hi) (fun j hj hl d hd' hld => ?_) (h'.1 hd hS) h'.2⟩) (h.2 i hi)
        have h1 : l.getD j true = false := by
          by_cases e : i = j
          · subst e; exact (mem_ready.1 hi).1
          · rw [getD_set_ne true e] at hl; exact hl
        have h2 : l.getD d true = false := by
          by_cases e : i = d
          · subst e; exact (mem_ready.1 hi).1
          · rw [getD_set_ne true e] at hld; exact hld
        exact hr j hj h1 d hd' h2⟩
def strongB (md : Region.Mode) (ops : Array Oper) (ds : List Nat) (n : Nat) (l : Array Bool) : Bool :=
  Region.closedB md ops l && (List.range l.size).all fun i => ds.contains i || l.getD i true || ds.all fun d => l.getD d true || Region.reachB md ops i n d
theorem strong_ {P : Program} {md : Region.Mode} {ops : Array Oper} {Q : Exit → Act → World → Prop} {S : World → Prop} {ds : List Nat} (S' : World → Prop) {fuel : Nat} {l : Array Bool} {a : Act} {w : World} (hb : strongB md ops ds ops.size l = true) (hSS : ∀ w, S' w → S w) (hS : S' w) (h : S' w → wpAnyLast P md ops Q S' ds fuel l a w) : wpAnyLast P md ops Q S ds fuel l a w := by
  unfold strongB at hb
  rw [Bool.and_eq_true] at hb
  refine strong_aux ops.size hSS fuel l a w (Region.closedB_spec hb.1) (fun i hi hl d hd hld => ?_) hS (h hS)
  have hlt : i < l.size := by
    rcases Nat.lt_or_ge i l.size with q | q
    · exact q
    · rw [Array.getD_eq_getD_getElem?, Array.getElem?_eq_none q] at hl; cases hl
  have h1 := List.all_eq_true.1 hb.2 i (List.mem_range.2 hlt)
  simp only [Bool.or_eq_true, List.contains_iff_mem, hl, Bool.false_eq_true, or_false] at h1
  have h2 := List.all_eq_true.1 (h1.resolve_left hi) d hd
  simpa [hld] using h2
theorem info9 : (Tryz.prog.info? 9).map (fun i => (i.zero, i.size, i.bytes)) = some (some (.string ⟨#[]⟩), 1, 16) := by kernel_rfl
theorem info41 : (Tryz.prog.info? 41).map (fun i => (i.zero, i.size, i.bytes)) = some (some (.agg #[(.string ⟨#[]⟩), (.slice none 0 0), (.int .i64 0), (.int .i64 0)]), 4, 56) := by kernel_rfl
theorem info66 : (Tryz.prog.info? 66).map (fun i => (i.zero, i.size, i.bytes)) = some (some (.agg #[(.int .i64 0), (.int .i64 0), (.int .i64 0)]), 3, 24) := by kernel_rfl
-- the values' own types
def rd_L1 (xs : List (List ByteArray)) (i : Int) : (List ByteArray) := xs.getD i.toNat ([] : List ByteArray)
/-! #### struct type 66 -/
structure S66 where
  f0 : Int
  f1 : Int
  f2 : Int
def z66 : S66 := ⟨(0 : Int), (0 : Int), (0 : Int)⟩
def k66 : Kd S66 := Kd.iso (Kd.pair (Kd.int .i64) (Kd.pair (Kd.int .i64) (Kd.int .i64))) (fun x : S66 => (x.f0, x.f1, x.f2))
theorem k66_open {w : World} {x : S66} {cs : List Value} (h : k66.K w x cs) : cs = [.int .i64 x.f0, .int .i64 x.f1, .int .i64 x.f2] := by
  obtain ⟨_, _, rfl, rfl, ⟨_, _, rfl, rfl, rfl⟩⟩ := h
  exact rfl
theorem k66_mkM (w : World) (base : Nat) (ok : Nat → Prop) (x : S66)  : k66.M w base ok x [.int .i64 x.f0, .int .i64 x.f1, .int .i64 x.f2] := ⟨[.int .i64 x.f0], [.int .i64 x.f1, .int .i64 x.f2], rfl, rfl, ⟨[.int .i64 x.f1], [.int .i64 x.f2], rfl, rfl, rfl⟩⟩
def rd_T66 (xs : List S66) (i : Int) : S66 := xs.getD i.toNat z66
theorem at_T66 {w : World} {A : Option Addr} {n : Nat} {xs : List S66} (h : Kd.C k66 w A n xs) (i : Int) (h0 : 0 ≤ i) (h1 : i < n) : ∃ ad , A = some ad ∧ w.cell? (ad.add (i.toNat * 3)) = some (.int .i64 (rd_T66 xs i).f0) ∧ w.cell? ⟨(ad.add (i.toNat * 3)).block, (ad.add (i.toNat * 3)).off + 1, none⟩ = some (.int .i64 (rd_T66 xs i).f1) ∧ w.cell? ⟨(ad.add (i.toNat * 3)).block, (ad.add (i.toNat * 3)).off + 2, none⟩ = some (.int .i64 (rd_T66 xs i).f2) := by
  obtain ⟨ad, c, e, _, hK, hc0⟩ := Kd.C_get h z66 i h0 h1
  have hc : ∀ j u, c[j]? = some u → w.cell? (ad.add (i.toNat * 3 + j)) = some u := hc0
  obtain rfl := k66_open hK
  exact ⟨ad, e, hc 0 _ rfl, by rw [← add_field _ _ 1 (by omega)]; exact hc 1 _ rfl, by rw [← add_field _ _ 2 (by omega)]; exact hc 2 _ rfl⟩

def rd_L4 (xs : List (List S66)) (i : Int) : (List S66) := xs.getD i.toNat ([] : List S66)
/-! #### struct type 41 -/
structure S41 where
  f0 : ByteArray
  f1 : (List S66)
  f2 : Int
  f3 : Int
def z41 : S41 := ⟨(⟨#[]⟩ : ByteArray), ([] : List S66), (0 : Int), (0 : Int)⟩
def k41 : Kd S41 := Kd.iso (Kd.pair Kd.string (Kd.pair (Kd.slice 66 k66) (Kd.pair (Kd.int .i64) (Kd.int .i64)))) (fun x : S41 => (x.f0, x.f1, x.f2, x.f3))
theorem k41_open {w : World} {x : S41} {cs : List Value} (h : k41.K w x cs) : ∃ A1 c1, cs = [.string x.f0, .slice A1 x.f1.length c1, .int .i64 x.f2, .int .i64 x.f3] ∧ x.f1.length ≤ c1 ∧ k66.C w A1 x.f1.length x.f1 := by
  obtain ⟨_, _, rfl, rfl, ⟨_, _, rfl, ⟨A1, c1, rfl, l1, g1⟩, ⟨_, _, rfl, rfl, rfl⟩⟩⟩ := h
  exact ⟨A1, c1, rfl, l1, g1⟩
theorem k41_openM {w : World} {base : Nat} {ok : Nat → Prop} {x : S41} {cs : List Value} (h : k41.M w base ok x cs) : ∃ v1, cs = [.string x.f0, v1, .int .i64 x.f2, .int .i64 x.f3] ∧ k66.R 66 w base ok v1 x.f1 := by
  obtain ⟨_, _, rfl, rfl, ⟨_, _, rfl, ⟨v1, rfl, g1⟩, ⟨_, _, rfl, rfl, rfl⟩⟩⟩ := h
  exact ⟨v1, rfl, g1⟩
theorem k41_mkM (w : World) (base : Nat) (ok : Nat → Prop) (x : S41) {v1 : Value} (g1 : k66.R 66 w base ok v1 x.f1) : k41.M w base ok x [.string x.f0, v1, .int .i64 x.f2, .int .i64 x.f3] := ⟨[.string x.f0], [v1, .int .i64 x.f2, .int .i64 x.f3], rfl, rfl, ⟨[v1], [.int .i64 x.f2, .int .i64 x.f3], rfl, ⟨v1, rfl, g1⟩, ⟨[.int .i64 x.f2], [.int .i64 x.f3], rfl, rfl, rfl⟩⟩⟩
def rd_T41 (xs : List S41) (i : Int) : S41 := xs.getD i.toNat z41
theorem at_T41 {w : World} {A : Option Addr} {n : Nat} {xs : List S41} (h : Kd.C k41 w A n xs) (i : Int) (h0 : 0 ≤ i) (h1 : i < n) : ∃ ad A1 c1, A = some ad ∧ w.cell? (ad.add (i.toNat * 4)) = some (.string (rd_T41 xs i).f0) ∧ w.cell? ⟨(ad.add (i.toNat * 4)).block, (ad.add (i.toNat * 4)).off + 1, none⟩ = some (.slice A1 (rd_T41 xs i).f1.length c1) ∧ w.cell? ⟨(ad.add (i.toNat * 4)).block, (ad.add (i.toNat * 4)).off + 2, none⟩ = some (.int .i64 (rd_T41 xs i).f2) ∧ w.cell? ⟨(ad.add (i.toNat * 4)).block, (ad.add (i.toNat * 4)).off + 3, none⟩ = some (.int .i64 (rd_T41 xs i).f3) ∧ (rd_T41 xs i).f1.length ≤ c1 ∧ k66.C w A1 (rd_T41 xs i).f1.length (rd_T41 xs i).f1 := by
  obtain ⟨ad, c, e, _, hK, hc0⟩ := Kd.C_get h z41 i h0 h1
  have hc : ∀ j u, c[j]? = some u → w.cell? (ad.add (i.toNat * 4 + j)) = some u := hc0
  obtain ⟨A1, c1, rfl, l1, g1⟩ := k41_open hK
  exact ⟨ad, A1, c1, e, hc 0 _ rfl, by rw [← add_field _ _ 1 (by omega)]; exact hc 1 _ rfl, by rw [← add_field _ _ 2 (by omega)]; exact hc 2 _ rfl, by rw [← add_field _ _ 3 (by omega)]; exact hc 3 _ rfl, l1, g1⟩

def rd_L6 (xs : List (List S41)) (i : Int) : (List S41) := xs.getD i.toNat ([] : List S41)
/-! #### struct type 30 -/
structure S30 where
  f0 : Int
  f1 : Int
  f2 : Int
  f3 : Int
  f4 : Int
def z30 : S30 := ⟨(0 : Int), (0 : Int), (0 : Int), (0 : Int), (0 : Int)⟩
def k30 : Kd S30 := Kd.iso (Kd.pair (Kd.int .i64) (Kd.pair (Kd.int .i64) (Kd.pair (Kd.int .i64) (Kd.pair (Kd.int .i64) (Kd.int .i64))))) (fun x : S30 => (x.f0, x.f1, x.f2, x.f3, x.f4))
def rd_T30 (xs : List S30) (i : Int) : S30 := xs.getD i.toNat z30
def rd_L9 (xs : List (List Int)) (i : Int) : (List Int) := xs.getD i.toNat ([] : List Int)
/-- The library's table of powers of ten lies as its text lays it. -/
def Tabs (w : World) : Prop := Lib.TabIs Tryz.prog w "internal/strconv.uint64pow10" .u64 Lib.pow10Tab ∧ (∃ m : Int, w.cell? ⟨0, 0, none⟩ = some (.int .i64 m)) ∧ ((∃ (t_ : TypeId) (p_ : Value), w.cell? ⟨4, 0, none⟩ = some (.iface t_ p_)) ∧ (∃ (t_ : TypeId) (p_ : Value), w.cell? ⟨5, 0, none⟩ = some (.iface t_ p_)))
theorem Tabs.below {w w' : World} (h : Tabs w) (hb : Below w.heap.size w w') : Tabs w' := by
 refine ⟨?_, by first | trivial | (obtain ⟨m, hm⟩ := h.2.1; exact ⟨m, (hb.cell (World.block_lt_of_cell? w _ hm)).trans hm⟩), by first | trivial | (obtain ⟨⟨t1, p1, h1⟩, t2, p2, h2⟩ := h.2.2; exact ⟨⟨t1, p1, (hb.cell (World.block_lt_of_cell? w _ h1)).trans h1⟩, t2, p2, (hb.cell (World.block_lt_of_cell? w _ h2)).trans h2⟩)⟩; replace h := h.1; unfold Lib.TabIs World.var? at h ⊢
 cases e : Tryz.prog.globalNamed "internal/strconv.uint64pow10" with
 | none => rw [e] at h; cases h
 | some g =>
  rw [e] at h; simp only [Option.bind_some] at h ⊢
  have hg : g < w.heap.size := by
   rcases Nat.lt_or_ge g w.heap.size with q | q
   ·exact q
   ·rw [Array.getElem?_eq_none q] at h; cases h
  rw [hb.block g hg]; exact h
theorem tabs {w : World} (k : Tabs w := by first | exact Aside0.out (by with_reducible assumption) | exact Tabs.below (Aside0.out (by with_reducible assumption)) (by repeat (first | (with_reducible first | exact Aside0.out (by with_reducible assumption) | exact Below.refl _ _ | apply below_alloc | apply pw_below_drewN | apply below_drew1 | refine below_set ?_ (Aside0.out (by with_reducible assumption))) | exact Aside0.out (by assumption)))) : Tabs w := k
end Go.Proofs.YthhhmcijbplcoaaGreatDoor.PFnRules
