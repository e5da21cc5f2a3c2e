-- Written by wip/tools/hp.py over the kit's print (not by hand): functions and walks of All.
import Derived.Test.YtookjankaanhlaaPAllx0
namespace Go.Proofs.Ytookjankaanhlaa.PAll
open Go.RowKit Go.Proofs.YtookjankaanhlaaW.PrintWords Go.Proofs.YtookjankaanhlaaW.PrintLast Go.Proofs.YtookjankaanhlaaW.PrintMore
attribute [local go_sem] max2_int min2_int max_two min_two max_three min_three max_four min_four   -- for this text's walks alone
set_option linter.unusedVariables false
set_option linter.unusedSimpArgs false

/-- A state of type 163 at block g of W; what its slices lead to came in by w0. -/
def IsS163 (w0 W : World) (g : Nat) (f0 : List Int) (f1 : Int) (f2 : Int) : Prop := ∃ A0 c0, W.heap[g]? = some (.cells #[.slice A0 f0.length c0, .int .i64 f1, .int .i64 f2] 163 (0, 0)) ∧ w0.heap.size ≤ g ∧ Kd.C (Kd.int .u8) w0 A0 f0.length f0
theorem IsS163.grown {w0 W : World} {g : Nat} {f0 : List Int} {f1 : Int} {f2 : Int} {W1 : World} {row : Option Nat} (h : IsS163 w0 W g f0 f1 f2) (hw : W.grownBy W1 row) (hne : some g ≠ row) : IsS163 w0 W1 g f0 f1 f2 := by
 obtain ⟨A0, c0, hb, hg, hr0⟩ := h
 exact ⟨A0, c0, blk_grown hb hw hne, hg, hr0⟩
theorem IsS163.own_neN {w0 W : World} {g : Nat} {f0 : List Int} {f1 : Int} {f2 : Int} {α : Type} {d : Kd α} {e : Nat} {base : Nat} {ok : Nat → Prop} {v : Value} {xs : List α} (h : IsS163 w0 W g f0 f1 f2) (ho : Kd.N d e W base ok v xs) (ht : e ≠ 163) : some g ≠ v.ownBlock := by
 obtain ⟨A0, c0, hb, hg, hr0⟩ := h
 exact Kd.N_ne ho hb ht
theorem IsS163.fresh {w0 W : World} {g : Nat} {f0 : List Int} {f1 : Int} {f2 : Int} (h : IsS163 w0 W g f0 f1 f2) : ∀ k, W.heap.size ≤ k → k ≠ g := by
 obtain ⟨A0, c0, hb, hg, hr0⟩ := h
 exact Kd.freshB hb
theorem IsS163.kept {w0 W : World} {g : Nat} {f0 : List Int} {f1 : Int} {f2 : Int} {W1 : World} {S : Nat → Prop} (h : IsS163 w0 W g f0 f1 f2) (hk : Kept W W1 S) (hne : ¬ S g) : IsS163 w0 W1 g f0 f1 f2 := by
 obtain ⟨A0, c0, hb, hg, hr0⟩ := h
 exact ⟨A0, c0, blk_kept hb hk hne, hg, hr0⟩
theorem IsS163.below {w0 W : World} {g : Nat} {f0 : List Int} {f1 : Int} {f2 : Int} {W1 : World} (h : IsS163 w0 W g f0 f1 f2) (hw : Below W.heap.size W W1) : IsS163 w0 W1 g f0 f1 f2 := h.grown (grown_of_below hw none) (by simp)
theorem IsS163.alloc {w0 W : World} {g : Nat} {f0 : List Int} {f1 : Int} {f2 : Int} (h : IsS163 w0 W g f0 f1 f2) (o : Obj) : IsS163 w0 (W.alloc o) g f0 f1 f2 := h.below (below_alloc (Below.refl _ _) o)
theorem IsS163.drewN {w0 W : World} {g : Nat} {f0 : List Int} {f1 : Int} {f2 : Int} (h : IsS163 w0 W g f0 f1 f2) (m : Nat) : IsS163 w0 (W.drewN m) g f0 f1 f2 := h
theorem IsS163.drew {w0 W : World} {g : Nat} {f0 : List Int} {f1 : Int} {f2 : Int} (h : IsS163 w0 W g f0 f1 f2) : IsS163 w0 W.drew g f0 f1 f2 := h
theorem IsS163.at_ {w0 W : World} {g : Nat} {f0 : List Int} {f1 : Int} {f2 : Int} {w' : World} {m : Nat} (hq : W.drewN m = w') (h : IsS163 w0 W g f0 f1 f2) : IsS163 w0 w' g f0 f1 f2 := by subst hq; exact IsS163.drewN h m
theorem IsS163.apart {w0 W : World} {g : Nat} {f0 : List Int} {f1 : Int} {f2 : Int} {α : Type} {d : Kd α} {e : Nat} {base : Nat} {ok : Nat → Prop} {v : Value} {xs : List α} (h : IsS163 w0 W g f0 f1 f2) (ho : d.R e W base ok v xs) (ht : ∀ q, q ∈ e :: d.E → q ≠ 163) : d.R e W base (fun k => ok k ∧ k ≠ g) v xs := by
 obtain ⟨A0, c0, hb, hg, hr0⟩ := h
 exact Kd.R_types ho hb ht
theorem IsS163.own_ne {w0 W : World} {g : Nat} {f0 : List Int} {f1 : Int} {f2 : Int} {α : Type} {d : Kd α} {e : Nat} {base : Nat} {ok : Nat → Prop} {v : Value} {xs : List α} (h : IsS163 w0 W g f0 f1 f2) (ho : d.R e W base ok v xs) (ht : e ≠ 163) : some g ≠ v.ownBlock := by
 obtain ⟨A0, c0, hb, hg, hr0⟩ := h
 exact Kd.R_ne ho hb ht
theorem IsS163.apartQ {w0 W : World} {g : Nat} {f0 : List Int} {f1 : Int} {f2 : Int} {α : Type} {d : Kd α} {e : Nat} {base : Nat} {ok : Nat → Prop} {v : Value} {xs : List α} (h : IsS163 w0 W g f0 f1 f2) (ho : d.Q e W base ok v xs) (ht : ∀ q, q ∈ e :: d.E → q ≠ 163) : d.Q e W base (fun k => ok k ∧ k ≠ g) v xs := by
 obtain ⟨A0, c0, hb, hg, hr0⟩ := h
 exact Kd.Q_types ho hb ht
theorem IsS163.own_neQ {w0 W : World} {g : Nat} {f0 : List Int} {f1 : Int} {f2 : Int} {α : Type} {d : Kd α} {e : Nat} {base : Nat} {ok : Nat → Prop} {v : Value} {xs : List α} (h : IsS163 w0 W g f0 f1 f2) (ho : d.Q e W base ok v xs) (ht : e ≠ 163) : some g ≠ v.ownBlock := by
 obtain ⟨A0, c0, hb, hg, hr0⟩ := h
 exact Kd.Q_ne ho hb ht
theorem IsS163.apartS {w0 W : World} {g : Nat} {f0 : List Int} {f1 : Int} {f2 : Int} {α : Type} {d : Kd α} {e : Nat} {base : Nat} {ok : Nat → Prop} {v : Value} {xs : List α} (h : IsS163 w0 W g f0 f1 f2) (ho : d.S e W base ok v xs) (ht : ∀ q, q ∈ e :: d.E → q ≠ 163) : d.S e W base (fun k => ok k ∧ k ≠ g) v xs := by
 obtain ⟨A0, c0, hb, hg, hr0⟩ := h
 exact Kd.S_types ho hb ht
theorem IsS163.own_neS {w0 W : World} {g : Nat} {f0 : List Int} {f1 : Int} {f2 : Int} {α : Type} {d : Kd α} {e : Nat} {base : Nat} {ok : Nat → Prop} {v : Value} {xs : List α} (h : IsS163 w0 W g f0 f1 f2) (ho : d.S e W base ok v xs) (ht : e ≠ 163) : some g ≠ v.ownBlock := by
 obtain ⟨A0, c0, hb, hg, hr0⟩ := h
 exact Kd.S_ne ho hb ht
theorem IsS163.lt {w0 W : World} {g : Nat} {f0 : List Int} {f1 : Int} {f2 : Int} (h : IsS163 w0 W g f0 f1 f2) : g < W.heap.size := by
 obtain ⟨A0, c0, hb, hg, hr0⟩ := h
 exact blk_lt hb
theorem IsS163.ge {w0 W : World} {g : Nat} {f0 : List Int} {f1 : Int} {f2 : Int} (h : IsS163 w0 W g f0 f1 f2) : w0.heap.size ≤ g := by
 obtain ⟨A0, c0, hb, hg, hr0⟩ := h
 exact hg
theorem IsS163.ne_blk {w0 W : World} {g : Nat} {f0 : List Int} {f1 : Int} {f2 : Int} {a : Nat} {cs : Array Value} {t : TypeId} {fr : Nat × Nat} (h : IsS163 w0 W g f0 f1 f2) (hb2 : W.heap[a]? = some (.cells cs t fr)) (ht : t ≠ 163) : g ≠ a := by
 obtain ⟨A0, c0, hb, hg, hr0⟩ := h
 rintro rfl
 rw [hb] at hb2
 injection hb2 with hb2
 injection hb2 with _ ht2
 exact ht ht2.symm
theorem IsS163.far {w0 W : World} {g : Nat} {f0 : List Int} {f1 : Int} {f2 : Int} {p : Addr} (h : IsS163 w0 W g f0 f1 f2) (hne : g ≠ p.block) (u : Value) : IsS163 w0 (W.setCell p u) g f0 f1 f2 := by
 obtain ⟨A0, c0, hb, hg, hr0⟩ := h
 exact ⟨A0, c0, blk_far hb hne u, hg, hr0⟩
theorem cellS163_0 {W : World} {g : Nat} {A0 : Option Addr} {c0 : Nat} {f0 : List Int} {f1 : Int} {f2 : Int} (h : W.heap[g]? = some (.cells #[.slice A0 f0.length c0, .int .i64 f1, .int .i64 f2] 163 (0, 0))) : W.cell? ⟨g, 0, none⟩ = some (.slice A0 f0.length c0) := (blk_cell h 0).trans rfl
theorem cellS163_1 {W : World} {g : Nat} {A0 : Option Addr} {c0 : Nat} {f0 : List Int} {f1 : Int} {f2 : Int} (h : W.heap[g]? = some (.cells #[.slice A0 f0.length c0, .int .i64 f1, .int .i64 f2] 163 (0, 0))) : W.cell? ⟨g, 1, none⟩ = some (.int .i64 f1) := (blk_cell h 1).trans rfl
theorem IsS163.set_1 {w0 W : World} {g : Nat} {f0 : List Int} {f1 : Int} {f2 : Int} (h : IsS163 w0 W g f0 f1 f2) (x : Int) : IsS163 w0 (W.setCell ⟨g, 1, none⟩ (.int .i64 x)) g f0 x f2 := by
 obtain ⟨A0, c0, hb, hg, hr0⟩ := h
 exact ⟨A0, c0, by simpa using blk_set hb 1 (.int .i64 x), hg, hr0⟩
theorem cellS163_2 {W : World} {g : Nat} {A0 : Option Addr} {c0 : Nat} {f0 : List Int} {f1 : Int} {f2 : Int} (h : W.heap[g]? = some (.cells #[.slice A0 f0.length c0, .int .i64 f1, .int .i64 f2] 163 (0, 0))) : W.cell? ⟨g, 2, none⟩ = some (.int .i64 f2) := (blk_cell h 2).trans rfl
theorem IsS163.set_2 {w0 W : World} {g : Nat} {f0 : List Int} {f1 : Int} {f2 : Int} (h : IsS163 w0 W g f0 f1 f2) (x : Int) : IsS163 w0 (W.setCell ⟨g, 2, none⟩ (.int .i64 x)) g f0 f1 x := by
 obtain ⟨A0, c0, hb, hg, hr0⟩ := h
 exact ⟨A0, c0, by simpa using blk_set hb 2 (.int .i64 x), hg, hr0⟩
theorem IsS163.new (w0 W : World) (A0 : Option Addr) (c0 : Nat) (f0 : List Int) (f1 : Int) (f2 : Int) (hB : Below w0.heap.size w0 W) (hr0 : Kd.C (Kd.int .u8) w0 A0 f0.length f0) : IsS163 w0 (W.alloc (.cells #[.slice A0 f0.length c0, .int .i64 f1, .int .i64 f2] 163)) W.heap.size f0 f1 f2 := ⟨A0, c0, by simpa using heap_alloc_new W _, hB.size, hr0⟩

/-! ### spec_l00Source: function 96 -/
def spec_l00Source.f (l0 : List Int) : Option (List Int × Int × Int) := some (l0, 0, (l0.length : Int) % 1000)
set_option maxHeartbeats 8000000 in
set_option maxRecDepth 100000 in
theorem spec_l00Source.calls (A0 : Option Addr) (c0 : Nat) (l0 : List Int) (r1 : List Int) (r2 : Int) (r3 : Int) (w0 w : World) (hB : Below w0.heap.size w0 w) (hr0 : Kd.C (Kd.int .u8) w0 A0 l0.length l0) (hc0 : l0.length ≤ c0) (h : spec_l00Source.f l0 = some (r1, r2, r3)) :
  Calls Try.prog 96 #[.slice A0 l0.length c0] w fun e w' => ∃ g_ : Nat, e = .returned (.pointer (some ⟨g_, 0, none⟩)) ∧ IsS163 w0 w' g_ r1 r2 r3 ∧ Below w0.heap.size w0 w' ∧ Below w.heap.size w w' := by
 have hu163 := Try.underlying163
 have HR0 := Aside0.mk hr0
 have HC0 := Aside0.mk hc0
 clear hr0 hc0
 have HBW := Aside0.mk (Below.refl w.heap.size w)
 have HW0 := Aside0.mk hB.size
 have HB := Aside0.mk hB
 clear hB
 have H : (some (l0, 0, (l0.length : Int) % 1000)) = some (r1, r2, r3) := h
 clear h
 simp only [Option.some.injEq, Prod.mk.injEq] at H
 obtain ⟨rfl, rfl, rfl⟩ := H
 go_enter Try.func96, Try.ntmps96
 go_wp2_with (first | ((with_reducible refine gate_dst (N := 8) rfl ?_); refine box_event ?hg (N := 8) ?hd (cs := #[.slice A0 l0.length c0, .int .i64 0, .int .i64 ((l0.length : Int) % 1000)]) (t := 163) ?hr ?_; (case hd => rfl); (case hg => rfl); (case hr => first | (go_simp; done) | (go_simp; rfl)); intro gb443 hg w2 hbox hb; have n0_ := Aside0.mk (below_step HBW.out hb); have n1_ := Aside0.mk (below_step (by repeat (first | (with_reducible first | exact HB.out | apply below_alloc | apply pw_below_drewN | apply below_drew1) | exact HB.out)) hb); have n2_ := Aside0.mk (hbox); have n3_ := Aside0.mk ((by rw [hg]; exact (below_size (by repeat (first | (with_reducible first | exact HBW.out | apply below_alloc | apply pw_below_drewN | apply below_drew1) | exact HBW.out))) : w.heap.size ≤ gb443)); have n4_ := Aside0.mk ((Nat.le_trans HW0.out (by rw [hg]; exact (below_size (by repeat (first | (with_reducible first | exact HBW.out | apply below_alloc | apply pw_below_drewN | apply below_drew1) | exact HBW.out))) : w.heap.size ≤ gb443) : w0.heap.size ≤ gb443)); clear HBW; clear HB; have HBW := n0_; have HB := n1_; have BK443 := n2_; have GW443 := n3_; have GE443 := n4_; clear n0_ n1_ n2_ n3_ n4_; clear hb hbox hg))
 go_ret
 exact ⟨_, rfl, (show IsS163 w0 _ gb443 l0 0 ((l0.length : Int) % 1000) from ⟨_, _, by (with_reducible repeat (first | refine blk_drewN ?_ _ | refine blk_drew ?_ | refine blk_alloc ?_ _)); exact BK443.out, GE443.out, HR0.out⟩), by repeat (first | (with_reducible first | exact HB.out | apply below_alloc | apply pw_below_drewN | apply below_drew1 | refine below_set ?_ GE443.out) | exact HB.out), by repeat (first | (with_reducible first | exact HBW.out | apply below_alloc | apply pw_below_drewN | apply below_drew1 | refine below_set ?_ GW443.out) | exact HBW.out)⟩

/-! ### spec_l00Src_byte: function 129, by hand -/
def spec_l00Src_byte.seed1 (s c : Int) : Int := Int.tmod (wrap64 (wrap64 (wrap64 (s * 31) + wrap64 c) + 7)) 2147483648
def spec_l00Src_byte.seed2 (s : Int) : Int := Int.tmod (wrap64 (wrap64 (s * 1103515245) + 12345)) 2147483648
def spec_l00Src_byte.f (s0_0 : List Int) (s0_1 : Int) (s0_2 : Int) : Option (Int × Int × Int) :=
  if wrap64 (s0_1 + 1) ≤ (s0_0.length : Int) then
    (if 0 ≤ wrap64 (wrap64 (s0_1 + 1) - 1) then
      (if wrap64 (wrap64 (s0_1 + 1) - 1) < (s0_0.length : Int) then
        some (wrap64 (rd s0_0 (wrap64 (wrap64 (s0_1 + 1) - 1))), wrap64 (s0_1 + 1), spec_l00Src_byte.seed1 s0_2 (rd s0_0 (wrap64 (wrap64 (s0_1 + 1) - 1)))) else none) else none)
  else if wrap64 (s0_1 + 1) > 3000 then some (0, wrap64 (s0_1 + 1), s0_2)
  else some (Int.tmod (wrap64 (Int.tdiv (spec_l00Src_byte.seed2 s0_2) 65536)) 256, wrap64 (s0_1 + 1), spec_l00Src_byte.seed2 s0_2)
set_option maxHeartbeats 8000000 in
set_option maxRecDepth 100000 in
theorem spec_l00Src_byte.calls (g : Nat) (s0_0 : List Int) (s0_1 : Int) (s0_2 : Int) (r1 : Int) (r2 : Int) (r3 : Int) (w0 w : World) (hI : IsS163 w0 w g s0_0 s0_1 s0_2) (hB : Below w0.heap.size w0 w) (h : spec_l00Src_byte.f s0_0 s0_1 s0_2 = some (r1, r2, r3)) :
    Calls Try.prog 129 #[.pointer (some ⟨g, 0, none⟩)] w fun e w' => e = .returned (.int .i64 r1) ∧ IsS163 w0 w' g s0_0 r2 r3 ∧ Below w0.heap.size w0 w' ∧ KeepBut w w' g none := by
  obtain ⟨A0, c0, hb, hg, hr⟩ := hI
  have HR := Aside0.mk hr
  have HB := Aside0.mk hB
  have c1 := (blk_cell hb 1).trans rfl
  have c0' := (blk_cell hb 0).trans rfl
  have c2 := (blk_cell hb 2).trans rfl
  have f1 := blk_frozen hb 1
  have hb1 := blk_set hb 1 (.int .i64 (wrap64 (s0_1 + 1)))
  have HK : Aside0 (KeepBut w (w.setCell ⟨g, 1, none⟩ (.int .i64 (wrap64 (s0_1 + 1)))) g none) := Aside0.mk ((KeepBut.refl w g none).set_ 1 _)
  have HB1 : Aside0 (Below w0.heap.size w0 (w.setCell ⟨g, 1, none⟩ (.int .i64 (wrap64 (s0_1 + 1))))) := Aside0.mk (hB.setCell (p := ⟨g, 1, none⟩) hg _)
  clear hr hB
  have HBl := Aside0.mk hb1
  have HG := Aside0.mk hg
  clear hb hb1 hg
  unfold spec_l00Src_byte.f at h
  by_cases hle : wrap64 (s0_1 + 1) ≤ (s0_0.length : Int)
  · rw [if_pos hle] at h
    by_cases p0 : 0 ≤ wrap64 (wrap64 (s0_1 + 1) - 1)
    · by_cases p1 : wrap64 (wrap64 (s0_1 + 1) - 1) < (s0_0.length : Int)
      · rw [if_pos p0, if_pos p1] at h
        obtain ⟨ad, rfl, hx⟩ := Kd.at_int HR.out (wrap64 (wrap64 (s0_1 + 1) - 1)) p0 p1
        simp only [Option.some.injEq, Prod.mk.injEq] at h
        obtain ⟨h1, h2, h3⟩ := h
        have H1 := Aside0.mk h1
        have H2 := Aside0.mk h2
        have H3 := Aside0.mk h3
        clear h1 h2 h3
        have hd : decide (wrap64 (s0_1 + 1) ≤ (s0_0.length : Int)) = true := decide_eq_true hle
        clear hle
        go_enter Try.func129, Try.ntmps129
        go_wp2
        generalize w.setCell ⟨g, 1, none⟩ (Value.int IntKind.i64 (wrap64 (s0_1 + 1))) = w1 at *
        have hb1 := HBl.out
        simp only [Array.setIfInBounds, List.size_toArray, List.length_cons, List.length_nil, Nat.reduceAdd, Nat.reduceLT, ↓reduceDIte, Array.set, List.set] at hb1
        have d0 := (blk_cell hb1 0).trans rfl
        have d1 := (blk_cell hb1 1).trans rfl
        have d2 := (blk_cell hb1 2).trans rfl
        have f2 := blk_frozen hb1 2
        have hx1 := pw_cell_below HB1.out hx
        have HBX := Aside0.mk hb1
        have HX := Aside0.mk hx
        clear hb1 c0' c1 c2 f1 hx
        generalize rd s0_0 (wrap64 (wrap64 (s0_1 + 1) - 1)) = x at *
        generalize hi : wrap64 (wrap64 (s0_1 + 1) - 1) = i at *
        generalize wrap64 (s0_1 + 1) = at1 at *
        go_region
        all_goals go_wp2
        go_region
        go_wp2
        generalize hsd : Int.tmod (wrap64 (wrap64 (wrap64 (s0_2 * 31) + wrap64 x) + 7)) 2147483648 = sd at *
        have HSD := Aside0.mk hsd
        clear hsd
        have hb2 := blk_set HBX.out 2 (.int .i64 sd)
        have HB2 := Aside0.mk (HB1.out.setCell (p := ⟨g, 2, none⟩) HG.out (.int .i64 sd))
        have HK2 := Aside0.mk (HK.out.set_ 2 (.int .i64 sd))
        generalize w1.setCell ⟨g, 2, none⟩ (Value.int IntKind.i64 sd) = w2 at *
        simp only [Array.setIfInBounds, List.size_toArray, List.length_cons, List.length_nil, Nat.reduceAdd, Nat.reduceLT, ↓reduceDIte, Array.set, List.set] at hb2
        clear d0 d1 d2 f2 hx1
        have d0 := (blk_cell hb2 0).trans rfl
        have d1 := (blk_cell hb2 1).trans rfl
        have d2 := (blk_cell hb2 2).trans rfl
        have hx2 := pw_cell_below HB2.out HX.out
        have HBY := Aside0.mk hb2
        clear hb2
        go_region
        go_wp2
        go_ret
        refine ⟨?_, ⟨some ad, c0, ?_, HG.out, HR.out⟩, ?_, HK2.out⟩
        · rw [← H1.out]
          rfl
        · rw [← H2.out, ← H3.out]
          unfold spec_l00Src_byte.seed1
          rw [HSD.out]
          exact HBY.out
        · repeat (first | exact HB2.out | apply below_drew | apply pw_below_drewN)
      · rw [if_pos p0, if_neg p1] at h; cases h
    · rw [if_neg p0] at h; cases h
  · rw [if_neg hle] at h
    have hd : decide (wrap64 (s0_1 + 1) ≤ (s0_0.length : Int)) = false := decide_eq_false hle
    clear hle
    by_cases h3 : wrap64 (s0_1 + 1) > 3000
    · rw [if_pos h3] at h
      have hd3 : decide (3000 < wrap64 (s0_1 + 1)) = true := decide_eq_true h3
      clear h3
      simp only [Option.some.injEq, Prod.mk.injEq] at h
      obtain ⟨h1, h2, h3⟩ := h
      have H1 := Aside0.mk h1
      have H2 := Aside0.mk h2
      have H3 := Aside0.mk h3
      clear h1 h2 h3
      go_enter Try.func129, Try.ntmps129
      go_wp2
      generalize w.setCell ⟨g, 1, none⟩ (Value.int IntKind.i64 (wrap64 (s0_1 + 1))) = w1 at *
      have hb1 := HBl.out
      simp only [Array.setIfInBounds, List.size_toArray, List.length_cons, List.length_nil, Nat.reduceAdd, Nat.reduceLT, ↓reduceDIte, Array.set, List.set] at hb1
      have d0 := (blk_cell hb1 0).trans rfl
      have d1 := (blk_cell hb1 1).trans rfl
      have d2 := (blk_cell hb1 2).trans rfl
      have HBX := Aside0.mk hb1
      clear hb1 c0' c1 c2 f1
      generalize wrap64 (s0_1 + 1) = at1 at *
      go_region
      all_goals go_wp2
      go_ret
      refine ⟨?_, ⟨A0, c0, ?_, HG.out, HR.out⟩, ?_, HK.out⟩
      · rw [← H1.out]
        rfl
      · rw [← H2.out, ← H3.out]
        exact HBX.out
      · repeat (first | exact HB1.out | apply below_drew | apply pw_below_drewN)
    · rw [if_neg h3] at h
      have hd3 : decide (3000 < wrap64 (s0_1 + 1)) = false := decide_eq_false h3
      clear h3
      simp only [Option.some.injEq, Prod.mk.injEq] at h
      obtain ⟨h1, h2, h3⟩ := h
      have H1 := Aside0.mk h1
      have H2 := Aside0.mk h2
      have H3 := Aside0.mk h3
      clear h1 h2 h3
      go_enter Try.func129, Try.ntmps129
      go_wp2
      generalize w.setCell ⟨g, 1, none⟩ (Value.int IntKind.i64 (wrap64 (s0_1 + 1))) = w1 at *
      have hb1 := HBl.out
      simp only [Array.setIfInBounds, List.size_toArray, List.length_cons, List.length_nil, Nat.reduceAdd, Nat.reduceLT, ↓reduceDIte, Array.set, List.set] at hb1
      have d0 := (blk_cell hb1 0).trans rfl
      have d1 := (blk_cell hb1 1).trans rfl
      have d2 := (blk_cell hb1 2).trans rfl
      have f2 := blk_frozen hb1 2
      have HBX := Aside0.mk hb1
      clear hb1 c0' c1 c2 f1
      generalize wrap64 (s0_1 + 1) = at1 at *
      go_region
      all_goals go_wp2
      generalize hsd : Int.tmod (wrap64 (wrap64 (s0_2 * 1103515245) + 12345)) 2147483648 = sd at *
      have HSD := Aside0.mk hsd
      clear hsd
      have hb2 := blk_set HBX.out 2 (.int .i64 sd)
      have HB2 := Aside0.mk (HB1.out.setCell (p := ⟨g, 2, none⟩) HG.out (.int .i64 sd))
      have HK2 := Aside0.mk (HK.out.set_ 2 (.int .i64 sd))
      simp only [Array.setIfInBounds, List.size_toArray, List.length_cons, List.length_nil, Nat.reduceAdd, Nat.reduceLT, ↓reduceDIte, Array.set, List.set] at hb2
      go_ret
      refine ⟨?_, ⟨A0, c0, ?_, HG.out, HR.out⟩, ?_, HK2.out⟩
      · rw [← H1.out]
        unfold spec_l00Src_byte.seed2
        rw [HSD.out]
        rfl
      · rw [← H2.out, ← H3.out]
        unfold spec_l00Src_byte.seed2
        rw [HSD.out]
        exact hb2
      · repeat (first | exact HB2.out | apply below_drew | apply pw_below_drewN)

/-! ### spec_l00Src_next: function 99 -/
def spec_l00Src_next.f (s0_0 : List Int) (s0_1 : Int) (s0_2 : Int) (a1 : Int) : Option (Int × Int × Int) := if a1 ≤ 1 then (some (0, s0_1, s0_2)) else (if a1 ≤ 256 then ((spec_l00Src_byte.f s0_0 s0_1 s0_2).bind fun bt444 => (if a1 = 0 then (none) else (some (Int.tmod bt444.1 a1, bt444.2.1, bt444.2.2)))) else ((spec_l00Src_byte.f s0_0 s0_1 s0_2).bind fun bt447 => ((spec_l00Src_byte.f s0_0 bt447.2.1 bt447.2.2).bind fun bt450 => ((spec_l00Src_byte.f s0_0 bt450.2.1 bt450.2.2).bind fun bt453 => (if a1 = 0 then (none) else (some (Int.tmod (wrap64 ((wrap64 ((wrap64 (bt447.1 * 65536)) + (wrap64 (bt450.1 * 256)))) + bt453.1)) a1, bt453.2.1, bt453.2.2)))))))
set_option maxHeartbeats 8000000 in
set_option maxRecDepth 100000 in
theorem spec_l00Src_next.calls (g : Nat) (s0_0 : List Int) (s0_1 : Int) (s0_2 : Int) (a1 : Int) (r1 : Int) (r2 : Int) (r3 : Int) (w0 w : World) (hI : IsS163 w0 w g s0_0 s0_1 s0_2) (hB : Below w0.heap.size w0 w) (h : spec_l00Src_next.f s0_0 s0_1 s0_2 a1 = some (r1, r2, r3)) :
  Calls Try.prog 99 #[.pointer (some ⟨g, 0, none⟩), .int .i64 a1] w fun e w' => e = .returned (.int .i64 r1) ∧ IsS163 w0 w' g s0_0 r2 r3 ∧ Below w0.heap.size w0 w' ∧ KeepBut w w' g none := by
 have HI0 := Aside0.mk hI
 have HK := Aside0.mk (KeepBut.refl w g none)
 have HL := Aside0.mk hB.size
 clear hI
 have HW0 := Aside0.mk hB.size
 have HB := Aside0.mk hB
 clear hB
 have H : (if a1 ≤ 1 then (some (0, s0_1, s0_2)) else (if a1 ≤ 256 then ((spec_l00Src_byte.f s0_0 s0_1 s0_2).bind fun bt444 => (if a1 = 0 then (none) else (some (Int.tmod bt444.1 a1, bt444.2.1, bt444.2.2)))) else ((spec_l00Src_byte.f s0_0 s0_1 s0_2).bind fun bt447 => ((spec_l00Src_byte.f s0_0 bt447.2.1 bt447.2.2).bind fun bt450 => ((spec_l00Src_byte.f s0_0 bt450.2.1 bt450.2.2).bind fun bt453 => (if a1 = 0 then (none) else (some (Int.tmod (wrap64 ((wrap64 ((wrap64 (bt447.1 * 65536)) + (wrap64 (bt450.1 * 256)))) + bt453.1)) a1, bt453.2.1, bt453.2.2)))))))) = some (r1, r2, r3) := h
 clear h
 by_cases c3 : a1 ≤ 1
 ·rw [if_pos c3] at H
  have c3b0 : decide (a1 ≤ 1) = true := decide_eq_true c3
  clear c3
  simp only [Option.some.injEq, Prod.mk.injEq] at H
  obtain ⟨rfl, rfl, rfl⟩ := H
  go_enter Try.func99, Try.ntmps99
  go_wp2
  go_ret
  exact ⟨by first | rfl | (simp [errW_none, errW_some] <;> rfl) | (simp [*, errW_none, errW_some] <;> rfl), by repeat (first | (with_reducible first | exact HI0.out | apply IsS163.alloc | apply IsS163.drewN | apply IsS163.drew | apply IsS163.set_1 | apply IsS163.set_2) | exact HI0.out), by repeat (first | (with_reducible first | exact HB.out | apply below_alloc | apply pw_below_drewN | apply below_drew1 | refine below_set ?_ (IsS163.ge HI0.out)) | exact HB.out), by repeat (first | (with_reducible first | exact HK.out | apply KeepBut.set_ | apply keep_drewN | apply keep_drew | apply keep_alloc) | exact HK.out)⟩
 ·rw [if_neg c3] at H
  have c3b0 : decide (a1 ≤ 1) = false := decide_eq_false c3
  clear c3
  by_cases c4 : a1 ≤ 256
  ·rw [if_pos c4] at H
   have c4b0 : decide (a1 ≤ 256) = true := decide_eq_true c4
   clear c4
   replace H := Option.bind_eq_some_iff.mp H
   obtain ⟨⟨t444, t445, t446⟩, A50, H⟩ := H
   replace H : (if a1 = 0 then (none) else (some (Int.tmod t444 a1, t445, t446))) = some (r1, r2, r3) := H
   have A5 := Aside0.mk A50
   clear A50
   by_cases c6 : a1 = 0
   ·rw [if_pos c6] at H
    exact absurd H (by simp)
   ·rw [if_neg c6] at H
    have c6b0 : (a1 == 0) = false := beq_eq_false_iff_ne.mpr c6
    have c6b1 : (a1 != 0) = true := bne_iff_ne.mpr c6
    simp only [Option.some.injEq, Prod.mk.injEq] at H
    obtain ⟨rfl, rfl, rfl⟩ := H
    go_enter Try.func99, Try.ntmps99
    go_wp2_with (first | ((with_reducible refine gate_callee (f := 129) rfl ?_); refine goesL_ (some 13) rfl rfl Try.func129 (by kernel_rfl) rfl #[.pointer (some ⟨g, 0, none⟩)] rfl (by (try simp only [List.map_toArray, List.map_cons, List.map_nil]); first | done | rfl | (simp only [List.length_drop, List.length_take]; rfl)) ?_; (with_reducible refine (spec_l00Src_byte.calls g s0_0 s0_1 s0_2 t444 t445 t446 w0 _ ?side1 ?side2 A5.out).mono ?_); (case side1 => repeat (first | (with_reducible first | exact HI0.out | apply IsS163.alloc | apply IsS163.drewN | apply IsS163.drew | apply IsS163.set_1 | apply IsS163.set_2) | exact HI0.out)); (case side2 => repeat (first | (with_reducible first | exact HB.out | apply below_alloc | apply pw_below_drewN | apply below_drew1 | refine below_set ?_ (IsS163.ge HI0.out)) | exact HB.out)); rintro e w7 ⟨rfl, hi, hb, hk⟩; refine ⟨_, rfl, ?_⟩; have n0_ := Aside0.mk (KeepBut.trans (by repeat (first | (with_reducible first | exact HK.out | apply KeepBut.set_ | apply keep_drewN | apply keep_drew | apply keep_alloc) | exact HK.out)) hk (.inl rfl)); have n1_ := Aside0.mk (hb); have n2_ := Aside0.mk (hi); clear HK; clear HB; clear HI0; have HK := n0_; have HB := n1_; have HI0 := n2_; clear n0_ n1_ n2_; (try clear hb); (try clear hb2); (try clear hk); (try clear hi)))
    go_ret
    exact ⟨by first | rfl | (simp [errW_none, errW_some] <;> rfl) | (simp [*, errW_none, errW_some] <;> rfl), by repeat (first | (with_reducible first | exact HI0.out | apply IsS163.alloc | apply IsS163.drewN | apply IsS163.drew | apply IsS163.set_1 | apply IsS163.set_2) | exact HI0.out), by repeat (first | (with_reducible first | exact HB.out | apply below_alloc | apply pw_below_drewN | apply below_drew1 | refine below_set ?_ (IsS163.ge HI0.out)) | exact HB.out), by repeat (first | (with_reducible first | exact HK.out | apply KeepBut.set_ | apply keep_drewN | apply keep_drew | apply keep_alloc) | exact HK.out)⟩
  ·rw [if_neg c4] at H
   have c4b0 : decide (a1 ≤ 256) = false := decide_eq_false c4
   clear c4
   replace H := Option.bind_eq_some_iff.mp H
   obtain ⟨⟨t447, t448, t449⟩, A80, H⟩ := H
   replace H : ((spec_l00Src_byte.f s0_0 t448 t449).bind fun bt450 => ((spec_l00Src_byte.f s0_0 bt450.2.1 bt450.2.2).bind fun bt453 => (if a1 = 0 then (none) else (some (Int.tmod (wrap64 ((wrap64 ((wrap64 (t447 * 65536)) + (wrap64 (bt450.1 * 256)))) + bt453.1)) a1, bt453.2.1, bt453.2.2))))) = some (r1, r2, r3) := H
   have A8 := Aside0.mk A80
   clear A80
   replace H := Option.bind_eq_some_iff.mp H
   obtain ⟨⟨t450, t451, t452⟩, A90, H⟩ := H
   replace H : ((spec_l00Src_byte.f s0_0 t451 t452).bind fun bt453 => (if a1 = 0 then (none) else (some (Int.tmod (wrap64 ((wrap64 ((wrap64 (t447 * 65536)) + (wrap64 (t450 * 256)))) + bt453.1)) a1, bt453.2.1, bt453.2.2)))) = some (r1, r2, r3) := H
   have A9 := Aside0.mk A90
   clear A90
   replace H := Option.bind_eq_some_iff.mp H
   obtain ⟨⟨t453, t454, t455⟩, A100, H⟩ := H
   replace H : (if a1 = 0 then (none) else (some (Int.tmod (wrap64 ((wrap64 ((wrap64 (t447 * 65536)) + (wrap64 (t450 * 256)))) + t453)) a1, t454, t455))) = some (r1, r2, r3) := H
   have A10 := Aside0.mk A100
   clear A100
   by_cases c11 : a1 = 0
   ·rw [if_pos c11] at H
    exact absurd H (by simp)
   ·rw [if_neg c11] at H
    have c11b0 : (a1 == 0) = false := beq_eq_false_iff_ne.mpr c11
    have c11b1 : (a1 != 0) = true := bne_iff_ne.mpr c11
    simp only [Option.some.injEq, Prod.mk.injEq] at H
    obtain ⟨rfl, rfl, rfl⟩ := H
    go_enter Try.func99, Try.ntmps99
    go_wp2_with (first | ((with_reducible refine gate_callee (f := 129) rfl ?_); refine goesL_ (some 17) rfl rfl Try.func129 (by kernel_rfl) rfl #[.pointer (some ⟨g, 0, none⟩)] rfl (by (try simp only [List.map_toArray, List.map_cons, List.map_nil]); first | done | rfl | (simp only [List.length_drop, List.length_take]; rfl)) ?_; (with_reducible refine (spec_l00Src_byte.calls g s0_0 s0_1 s0_2 t447 t448 t449 w0 _ ?side1 ?side2 A8.out).mono ?_); (case side1 => repeat (first | (with_reducible first | exact HI0.out | apply IsS163.alloc | apply IsS163.drewN | apply IsS163.drew | apply IsS163.set_1 | apply IsS163.set_2) | exact HI0.out)); (case side2 => repeat (first | (with_reducible first | exact HB.out | apply below_alloc | apply pw_below_drewN | apply below_drew1 | refine below_set ?_ (IsS163.ge HI0.out)) | exact HB.out)); rintro e w12 ⟨rfl, hi, hb, hk⟩; refine ⟨_, rfl, ?_⟩; have n0_ := Aside0.mk (KeepBut.trans (by repeat (first | (with_reducible first | exact HK.out | apply KeepBut.set_ | apply keep_drewN | apply keep_drew | apply keep_alloc) | exact HK.out)) hk (.inl rfl)); have n1_ := Aside0.mk (hb); have n2_ := Aside0.mk (hi); clear HK; clear HB; clear HI0; have HK := n0_; have HB := n1_; have HI0 := n2_; clear n0_ n1_ n2_; (try clear hb); (try clear hb2); (try clear hk); (try clear hi)) | ((with_reducible refine gate_callee (f := 129) rfl ?_); refine goesL_ (some 19) rfl rfl Try.func129 (by kernel_rfl) rfl #[.pointer (some ⟨g, 0, none⟩)] rfl (by (try simp only [List.map_toArray, List.map_cons, List.map_nil]); first | done | rfl | (simp only [List.length_drop, List.length_take]; rfl)) ?_; (with_reducible refine (spec_l00Src_byte.calls g s0_0 t448 t449 t450 t451 t452 w0 _ ?side1 ?side2 A9.out).mono ?_); (case side1 => repeat (first | (with_reducible first | exact HI0.out | apply IsS163.alloc | apply IsS163.drewN | apply IsS163.drew | apply IsS163.set_1 | apply IsS163.set_2) | exact HI0.out)); (case side2 => repeat (first | (with_reducible first | exact HB.out | apply below_alloc | apply pw_below_drewN | apply below_drew1 | refine below_set ?_ (IsS163.ge HI0.out)) | exact HB.out)); rintro e w13 ⟨rfl, hi, hb, hk⟩; refine ⟨_, rfl, ?_⟩; have n0_ := Aside0.mk (KeepBut.trans (by repeat (first | (with_reducible first | exact HK.out | apply KeepBut.set_ | apply keep_drewN | apply keep_drew | apply keep_alloc) | exact HK.out)) hk (.inl rfl)); have n1_ := Aside0.mk (hb); have n2_ := Aside0.mk (hi); clear HK; clear HB; clear HI0; have HK := n0_; have HB := n1_; have HI0 := n2_; clear n0_ n1_ n2_; (try clear hb); (try clear hb2); (try clear hk); (try clear hi)) | ((with_reducible refine gate_callee (f := 129) rfl ?_); refine goesL_ (some 21) rfl rfl Try.func129 (by kernel_rfl) rfl #[.pointer (some ⟨g, 0, none⟩)] rfl (by (try simp only [List.map_toArray, List.map_cons, List.map_nil]); first | done | rfl | (simp only [List.length_drop, List.length_take]; rfl)) ?_; (with_reducible refine (spec_l00Src_byte.calls g s0_0 t451 t452 t453 t454 t455 w0 _ ?side1 ?side2 A10.out).mono ?_); (case side1 => repeat (first | (with_reducible first | exact HI0.out | apply IsS163.alloc | apply IsS163.drewN | apply IsS163.drew | apply IsS163.set_1 | apply IsS163.set_2) | exact HI0.out)); (case side2 => repeat (first | (with_reducible first | exact HB.out | apply below_alloc | apply pw_below_drewN | apply below_drew1 | refine below_set ?_ (IsS163.ge HI0.out)) | exact HB.out)); rintro e w14 ⟨rfl, hi, hb, hk⟩; refine ⟨_, rfl, ?_⟩; have n0_ := Aside0.mk (KeepBut.trans (by repeat (first | (with_reducible first | exact HK.out | apply KeepBut.set_ | apply keep_drewN | apply keep_drew | apply keep_alloc) | exact HK.out)) hk (.inl rfl)); have n1_ := Aside0.mk (hb); have n2_ := Aside0.mk (hi); clear HK; clear HB; clear HI0; have HK := n0_; have HB := n1_; have HI0 := n2_; clear n0_ n1_ n2_; (try clear hb); (try clear hb2); (try clear hk); (try clear hi)))
    go_ret
    exact ⟨by first | rfl | (simp [errW_none, errW_some] <;> rfl) | (simp [*, errW_none, errW_some] <;> rfl), by repeat (first | (with_reducible first | exact HI0.out | apply IsS163.alloc | apply IsS163.drewN | apply IsS163.drew | apply IsS163.set_1 | apply IsS163.set_2) | exact HI0.out), by repeat (first | (with_reducible first | exact HB.out | apply below_alloc | apply pw_below_drewN | apply below_drew1 | refine below_set ?_ (IsS163.ge HI0.out)) | exact HB.out), by repeat (first | (with_reducible first | exact HK.out | apply KeepBut.set_ | apply keep_drewN | apply keep_drew | apply keep_alloc) | exact HK.out)⟩

/-! ### spec_l00Src_size: function 100 -/
def spec_l00Src_size.f (s0_0 : List Int) (s0_1 : Int) (s0_2 : Int) (a1 : Int) : Option (Int × Int × Int) := some (mn (wrap64 (1 + (wrap64 ((s0_0.length : Int) / 12)))) a1, s0_1, s0_2)
set_option maxHeartbeats 8000000 in
set_option maxRecDepth 100000 in
theorem spec_l00Src_size.calls (g : Nat) (s0_0 : List Int) (s0_1 : Int) (s0_2 : Int) (a1 : Int) (r1 : Int) (r2 : Int) (r3 : Int) (w0 w : World) (hI : IsS163 w0 w g s0_0 s0_1 s0_2) (hB : Below w0.heap.size w0 w) (h : spec_l00Src_size.f s0_0 s0_1 s0_2 a1 = some (r1, r2, r3)) :
  Calls Try.prog 100 #[.pointer (some ⟨g, 0, none⟩), .int .i64 a1] w fun e w' => e = .returned (.int .i64 r1) ∧ IsS163 w0 w' g s0_0 r2 r3 ∧ Below w0.heap.size w0 w' ∧ KeepBut w w' g none := by
 have HI0 := Aside0.mk hI
 have HK := Aside0.mk (KeepBut.refl w g none)
 have HL := Aside0.mk hB.size
 clear hI
 have HW0 := Aside0.mk hB.size
 have HB := Aside0.mk hB
 clear hB
 have H : (some (mn (wrap64 (1 + (wrap64 ((s0_0.length : Int) / 12)))) a1, s0_1, s0_2)) = some (r1, r2, r3) := h
 clear h
 obtain ⟨ji3, hji3⟩ : ∃ j_ : Int, (mn (wrap64 (1 + (wrap64 ((s0_0.length : Int) / 12)))) a1) = j_ := ⟨_, rfl⟩
 replace H : (some (ji3, s0_1, s0_2)) = some (r1, r2, r3) := by first | (rw [hji3] at H; exact H) | (simp only [hji3] at H ⊢; exact H)
 have hji3_ : (if a1 < (wrap64 (1 + (wrap64 ((s0_0.length : Int) / 12)))) then a1 else (wrap64 (1 + (wrap64 ((s0_0.length : Int) / 12))))) = ji3 := hji3
 simp only [Option.some.injEq, Prod.mk.injEq] at H
 obtain ⟨rfl, rfl, rfl⟩ := H
 obtain ⟨ASz4_0, cSz4_0, HGz4, hgz4, HSz4_0⟩ := HI0.out
 have hcz4_0 := cellS163_0 HGz4
 have hcz4_1 := cellS163_1 HGz4
 have hcz4_2 := cellS163_2 HGz4
 have hfz4_1 := blk_frozen HGz4 1
 have hfz4_2 := blk_frozen HGz4 2
 clear HGz4 hgz4
 go_enter Try.func100, Try.ntmps100
 go_wp2
 go_ret
 exact ⟨by first | rfl | (simp [errW_none, errW_some] <;> rfl) | (simp only [← hji3]; first | rfl | (simp [errW_none, errW_some] <;> rfl)) | (simp [*, errW_none, errW_some] <;> rfl), by repeat (first | (with_reducible first | exact HI0.out | apply IsS163.alloc | apply IsS163.drewN | apply IsS163.drew | apply IsS163.set_1 | apply IsS163.set_2) | exact HI0.out), by repeat (first | (with_reducible first | exact HB.out | apply below_alloc | apply pw_below_drewN | apply below_drew1 | refine below_set ?_ (IsS163.ge HI0.out)) | exact HB.out), by repeat (first | (with_reducible first | exact HK.out | apply KeepBut.set_ | apply keep_drewN | apply keep_drew | apply keep_alloc) | exact HK.out)⟩

end Go.Proofs.Ytookjankaanhlaa.PAll
