-- Written by wip/tools/hp.py over the kit's print (not by hand): functions and walks of All.
import Derived.Test.YtembklbofdgmgaaPAllx0
import Derived.Test.YtembklbofdgmgaaPAllx2
import Derived.Test.YtembklbofdgmgaaPAllx3
namespace Go.Proofs.Ytembklbofdgmgaa.PAll
open Go.RowKit Go.Proofs.YtembklbofdgmgaaW.PrintWords Go.Proofs.YtembklbofdgmgaaW.PrintLast Go.Proofs.YtembklbofdgmgaaW.PrintMore
attribute [local go_sem] max2_int min2_int max_two min_two max_three min_three max_four min_four   -- for this text's walks alone
set_option linter.unusedVariables false
set_option linter.unusedSimpArgs false

/-! ### slices_Sort_int_int: function 26, by hand, off the shelf -/
theorem rowS_form {e : Nat} {w : World} {base : Nat} {ok : Nat → Prop} {xs : List Int} {v : Value} (h : Kd.R (Kd.int .i64) e w base ok v xs) (hp : 0 < xs.length) :
  ∃ g cap cur, v = .slice (some ⟨g, 0, none⟩) xs.length cap ∧ base ≤ g ∧ g < w.heap.size ∧ xs.length ≤ cap ∧ cap ≤ maxLen ∧ w.heap[g]? = some (.cells cur e (0, 0)) ∧ cur.size = cap * 1 ∧ cur.toList.take xs.length = xs.map (Value.int .i64) := by
 rcases (Kd.own_of_R h).2 with ⟨_, h1⟩ | ⟨g, cap, cur, h1, h2, h3, h4, h5, h6, h7⟩
 ·omega
 ·refine ⟨g, cap, cur, h1, h2, ?_, h4, h5, h3, h6, by rw [Nat.mul_one] at h7; exact h7⟩
  rcases Nat.lt_or_ge g w.heap.size with q | q
  ·exact q
  ·rw [Array.getElem?_eq_none q] at h3; cases h3
theorem rowS_holds {e : Nat} {w : World} {g : Nat} {xs : List Int} {cur : Array Value} (h : w.heap[g]? = some (.cells cur e (0, 0))) (ht : cur.toList.take xs.length = xs.map (Value.int .i64)) : Sort.Holds (Value.int .i64) w g 0 xs.toArray := by
 intro j hj
 have hj' : j < xs.length := by simpa using hj
 refine ⟨?_, by simp [World.frozen?, h]⟩
 have h1 : (cur.toList.take xs.length)[j]? = (xs.map (Value.int .i64))[j]? := by rw [ht]
 rw [List.getElem?_take_of_lt hj'] at h1; simp only [World.cell?, h, Nat.zero_add]; simp only [Option.isSome_none, Bool.false_eq_true, if_false]; rw [← Array.getElem?_toList, h1]
 simp [hj']
theorem rowS_heap {w : World} {g n : Nat} {os : Array Obj} {cur : Array Value} {e : TypeId} {fr : Nat × Nat} (d : Array Int) (hb : w.heap[g]? = some (.cells cur e fr)) :
  (Sort.grow (Sort.putRow (Value.int .i64) (Sort.ahead w n) g 0 d) os).heap[g]? = some (.cells (Sort.putCells (Value.int .i64) 0 d cur) e fr) := by
 have hg : g < w.heap.size := (Array.getElem?_eq_some_iff.1 hb).1; rw [Sort.heap_grow_old _ _ (by simpa using hg)]
 simp [Sort.putRow, Sort.mapBlock, Sort.ahead, Array.getElem?_modify, hb, Sort.onCells]
theorem rowS_grown {w : World} {g n : Nat} {os : Array Obj} (d : Array Int) : w.grownBy (Sort.grow (Sort.putRow (Value.int .i64) (Sort.ahead w n) g 0 d) os) (some g) := by
 refine ⟨rfl, rfl, rfl, by simp, fun k hk hne => ?_⟩; rw [Sort.heap_grow_old _ _ (by simpa using hk)]
 have : g ≠ k := fun e => hne (by rw [e])
 simp [Sort.putRow, Sort.mapBlock, Sort.ahead, Array.getElem?_modify, this]
theorem rowS_take (cur : Array Value) (ts : List Int) (m : Nat) (h : ts.length ≤ cur.size) (hm : m ≤ ts.length) : (Sort.putCells (Value.int .i64) 0 ts.toArray cur).toList.take m = (ts.take m).map (Value.int .i64) := by
 apply List.ext_getElem?
 intro j; by_cases hj : j < m
 ·rw [List.getElem?_take_of_lt hj, Array.getElem?_toList, List.getElem?_map, List.getElem?_take_of_lt hj]
  simp [Sort.putCells, show j < ts.length by omega, show j < cur.size by omega]
 ·rw [List.getElem?_take_eq_none (by omega), List.getElem?_eq_none (by rw [List.length_map, List.length_take]; omega)]
/-- A row of whole numbers, written anew by the library: its first m are the call's. -/
theorem rowS_put {e : Nat} {w : World} {base : Nat} {ok ok' : Nat → Prop} {xs : List Int} {v : Value} {g cap n : Nat} {cur : Array Value} (ys : List Int) (m : Nat) (os : Array Obj) (hv : v = .slice (some ⟨g, 0, none⟩) m cap) (hb : base ≤ g) (hh : w.heap[g]? = some (.cells cur e (0, 0))) (hc : cur.size = cap * 1) (hcm : cap ≤ maxLen)
  (hl : ys.length ≤ cap) (hm : m ≤ ys.length) (hok : ok' g) : Kd.R (Kd.int .i64) e (Sort.grow (Sort.putRow (Value.int .i64) (Sort.ahead w n) g 0 ys.toArray) os) base ok' v (ys.take m) := by
 have hlen : (ys.take m).length = m := by rw [List.length_take]; omega
 refine Kd.R_of_own ⟨by rw [encs_length, Nat.mul_one], .inr ⟨g, cap, _, by rw [hv, hlen], hb, rowS_heap ys.toArray hh, by omega, hcm, by simp [Sort.putCells]; omega, ?_⟩⟩ (fun k hk => ?_)
 ·rw [hlen, Nat.mul_one, rowS_take cur ys m (by omega) hm]; rfl
 ·rw [hv] at hk
  have : g = k := by simpa [Value.ownBlock] using hk
  rw [← this]; exact hok
def slices_Sort_int_int.f (l0 : List Int) : Option (List Int) := if 0 < l0.length ∧ l0.length < 4611686018427387904 then some (l0.mergeSort fun x y => decide (x ≤ y)) else none
theorem slices_Sort_int_int.calls (P0_ : Nat → Prop) (u9000_ : Value) (l0 : List Int) (r : List Int) (w0 w : World) (hB : Below w0.heap.size w0 w) (ho0 : Kd.R (Kd.int .i64) 3 w w0.heap.size P0_ u9000_ l0) (h : slices_Sort_int_int.f l0 = some r) :
  Calls Try.prog 26 #[u9000_] w fun e w' => e = .returned (.tuple #[]) ∧ Kd.R (Kd.int .i64) 3 w' w0.heap.size (fun k_ => (P0_ k_ ∨ w.heap.size ≤ k_)) u9000_ r ∧ Below w0.heap.size w0 w' ∧ Kept w w' (fun k_ => P0_ k_) := by
 unfold slices_Sort_int_int.f at h; by_cases hc : 0 < l0.length ∧ l0.length < 4611686018427387904
 ·rw [if_pos hc] at h; obtain rfl := Option.some.inj h; obtain ⟨g, cap, cur, rfl, hb, hlt, hn, hm, hh, hcs, ht⟩ := rowS_form ho0 hc.1; have hP : P0_ g := ho0.1 g (by simp [Value.ownBlock]); refine (Try.slices_Sort_int g 0 cap l0 w (rowS_holds hh ht) hlt hc.2).mono ?_; rintro e w' ⟨rfl, n, os, rfl⟩; have hg := rowS_grown (w := w) (g := g) (n := n) (os := os) (l0.mergeSort fun x y => decide (x ≤ y)).toArray; have hl : (l0.mergeSort fun x y => decide (x ≤ y)).length = l0.length := List.length_mergeSort _; have hR := rowS_put (e := 3) (ok := P0_) (ok' := fun k_ => (P0_ k_ ∨ w.heap.size ≤ k_)) (xs := l0) (n := n) (v := .slice (some ⟨g, 0, none⟩) l0.length cap) (l0.mergeSort fun x y => decide (x ≤ y)) l0.length os rfl hb hh hcs hm (by omega) (by omega) (.inl hP); rw [List.take_of_length_le (by omega)] at hR; refine ⟨rfl, hR, pw_below_grown hB (some g) hB.size hg (fun k e_ => by injection e_ with e_; omega), ⟨hg.size, fun k hk hn => hg.block k hk (fun e_ => hn (by injection e_ with e_; rw [e_]; exact hP))⟩⟩
 ·rw [if_neg hc] at h; cases h

/-! ### slices_Compact_int_int: function 27, by hand, off the shelf -/
def slices_Compact_int_int.f (l0 : List Int) : Option (List Int) := if 0 < l0.length ∧ l0.length ≤ 4611686018427387904 then some (Lib.compact l0) else none
theorem slices_Compact_int_int.len (l : List Int) : (Lib.compact l).length ≤ l.length := by unfold Lib.compact Lib.compactUpTo; rw [List.length_map]; exact Nat.le_trans (List.length_filter_le _ _) (by simp)
theorem slices_Compact_int_int.calls (P0_ : Nat → Prop) (u9000_ : Value) (l0 : List Int) (r : List Int) (w0 w : World) (hB : Below w0.heap.size w0 w) (ho0 : Kd.R (Kd.int .i64) 3 w w0.heap.size P0_ u9000_ l0) (h : slices_Compact_int_int.f l0 = some r) :
  Calls Try.prog 27 #[u9000_] w fun e w' => ∃ v0_ : Value, e = .returned (v0_) ∧ Kd.R (Kd.int .i64) 3 w' w0.heap.size (fun k_ => (P0_ k_ ∨ w.heap.size ≤ k_)) v0_ r ∧ Below w0.heap.size w0 w' ∧ Kept w w' (fun k_ => P0_ k_) := by
 unfold slices_Compact_int_int.f at h; by_cases hc : 0 < l0.length ∧ l0.length ≤ 4611686018427387904
 ·rw [if_pos hc] at h; obtain rfl := Option.some.inj h; obtain ⟨g, cap, cur, rfl, hb, hlt, hn, hm, hh, hcs, ht⟩ := rowS_form ho0 hc.1; have hP : P0_ g := ho0.1 g (by simp [Value.ownBlock]); refine (Try.slices_Compact_int g 0 cap l0 w (rowS_holds hh ht) (by omega) hn).mono ?_; rintro e w' ⟨rfl, n, rfl⟩; have hl := slices_Compact_int_int.len l0
  have eg : ∀ W : World, Sort.grow W #[] = W := fun W => by simp [Sort.grow]
  have hg := rowS_grown (w := w) (g := g) (n := n) (os := #[]) (Lib.compact l0 ++ List.replicate (l0.length - (Lib.compact l0).length) 0).toArray; have hR := rowS_put (e := 3) (ok := P0_) (ok' := fun k_ => (P0_ k_ ∨ w.heap.size ≤ k_)) (xs := l0) (n := n) (v := .slice (some ⟨g, 0, none⟩) (Lib.compact l0).length cap) (Lib.compact l0 ++ List.replicate (l0.length - (Lib.compact l0).length) 0) (Lib.compact l0).length #[] rfl hb hh hcs hm (by rw [List.length_append, List.length_replicate]; omega) (by rw [List.length_append]; omega) (.inl hP); rw [List.take_left] at hR; rw [eg] at hg hR; refine ⟨_, rfl, hR, pw_below_grown hB (some g) hB.size hg (fun k e_ => by injection e_ with e_; omega), ⟨hg.size, fun k hk hn => hg.block k hk (fun e_ => hn (by injection e_ with e_; rw [e_]; exact hP))⟩⟩
 ·rw [if_neg hc] at h; cases h

/-! ### impl_isFirmer: function 45 -/
def impl_isFirmer.f (a0_0 : ByteArray) (a0_1 : ByteArray) (a0_2 : Int) (a0_3 : Int) (a0_4 : Int) (a0_5 : Int) (a1_0 : ByteArray) (a1_1 : ByteArray) (a1_2 : Int) (a1_3 : Int) (a1_4 : Int) (a1_5 : Int) : Option (Bool) := if a0_2 = a1_2 then (if (a0_1.toList.isEmpty != a1_1.toList.isEmpty) = true then (some (!a0_1.toList.isEmpty)) else (some (decide (a0_3 > a1_3)))) else (some (decide (a0_2 > a1_2)))
set_option maxHeartbeats 8000000 in
set_option maxRecDepth 100000 in
theorem impl_isFirmer.calls (a0_0 : ByteArray) (a0_1 : ByteArray) (a0_2 : Int) (a0_3 : Int) (a0_4 : Int) (a0_5 : Int) (a1_0 : ByteArray) (a1_1 : ByteArray) (a1_2 : Int) (a1_3 : Int) (a1_4 : Int) (a1_5 : Int) (r : Bool) (w : World) (h : impl_isFirmer.f a0_0 a0_1 a0_2 a0_3 a0_4 a0_5 a1_0 a1_1 a1_2 a1_3 a1_4 a1_5 = some r) :
  Calls Try.prog 45 #[.agg #[.string a0_0, .string a0_1, .int .i64 a0_2, .int .i64 a0_3, .int .i64 a0_4, .int .i64 a0_5], .agg #[.string a1_0, .string a1_1, .int .i64 a1_2, .int .i64 a1_3, .int .i64 a1_4, .int .i64 a1_5]] w fun e w' => e = .returned (.bool r) ∧ Below w.heap.size w w' := by
 have hu44 := Try.underlying44; have HB := Aside0.mk (Below.refl w.heap.size w); have H : (if a0_2 = a1_2 then (if (a0_1.toList.isEmpty != a1_1.toList.isEmpty) = true then (some (!a0_1.toList.isEmpty)) else (some (decide (a0_3 > a1_3)))) else (some (decide (a0_2 > a1_2)))) = some r := h; clear h; by_cases c3 : a0_2 = a1_2
 ·rw [if_pos c3] at H; have c3b0 : (a0_2 == a1_2) = true := beq_iff_eq.mpr c3; have c3b1 : (a0_2 != a1_2) = false := bne_eq_false_iff_eq.mpr c3; clear c3; by_cases c4 : (a0_1.toList.isEmpty != a1_1.toList.isEmpty) = true
  ·rw [if_pos c4] at H; have c4b0 : (a0_1.toList.isEmpty != a1_1.toList.isEmpty) = true := c4
   (try (have c4b1 : decide (a0_1.toList.isEmpty = a1_1.toList.isEmpty) = false := by simpa using c4))
   (try (have c4b2 : (a0_1.toList.isEmpty == a1_1.toList.isEmpty) = false := by simpa using c4))
   (try (have c4b3 : ¬ (a0_1.toList.isEmpty = a1_1.toList.isEmpty) := by simpa using c4))
   clear c4; obtain rfl := Option.some.inj H; go_enter Try.func45, Try.ntmps45
   go_wp2_with (first | ((with_reducible refine gate_dst (N := 2) rfl ?_); refine box_event ?hg (N := 2) ?hd (cs := #[.string a0_0, .string a0_1, .int .i64 a0_2, .int .i64 a0_3, .int .i64 a0_4, .int .i64 a0_5]) (t := 44) ?hr ?_; (case hd => rfl); (case hg => rfl); (case hr => first | (go_simp; done) | (go_simp; rfl)); intro gb189 hg w5 hbox hb; have n0_ := Aside0.mk (below_step (qb HB) hb); have n1_ := Aside0.mk (hbox); have n2_ := Aside0.mk ((by rw [hg]; exact (below_size (qb HB)) : w.heap.size ≤ gb189)); have n3_ := Aside0.mk ((by rw [hg]; exact (below_size (qb HB)) : w.heap.size ≤ gb189)); clear HB; have HB := n0_; have BK189 := n1_; have GW189 := n2_; have GE189 := n3_; clear n0_ n1_ n2_ n3_; clear hb hbox hg) | ((with_reducible refine gate_dst (N := 3) rfl ?_); refine box_event ?hg (N := 3) ?hd (cs := #[.string a1_0, .string a1_1, .int .i64 a1_2, .int .i64 a1_3, .int .i64 a1_4, .int .i64 a1_5]) (t := 44) ?hr ?_; (case hd => rfl); (case hg => rfl); (case hr => first | (go_simp; done) | (go_simp; rfl)); intro gb190 hg w6 hbox hb; have n0_ := Aside0.mk (blk_below (bq BK189) hb); have n1_ := Aside0.mk (below_step (qb HB) hb); have n2_ := Aside0.mk (hbox); have n3_ := Aside0.mk ((by rw [hg]; exact (below_size (qb HB)) : w.heap.size ≤ gb190)); have n4_ := Aside0.mk ((by rw [hg]; exact (below_size (qb HB)) : w.heap.size ≤ gb190)); have n5_ := Aside0.mk ((by rw [hg]; exact Nat.ne_of_lt (blk_lt (bq BK189)) : gb189 ≠ gb190)); have n6_ := Aside0.mk ((by rw [hg]; exact Nat.ne_of_gt (blk_lt (bq BK189)) : gb190 ≠ gb189)); clear BK189; clear HB; have BK189 := n0_; have HB := n1_; have BK190 := n2_; have GW190 := n3_; have GE190 := n4_; have NB189_190 := n5_; have NB190_189 := n6_; clear n0_ n1_ n2_ n3_ n4_ n5_ n6_; clear hb hbox hg; have hnb7 := NB189_190.out; have hnc7 := NB190_189.out; obtain ⟨hcz8_0, hcz8_1, hcz8_2, hcz8_3, hcz8_4, hcz8_5, hfz8_0, hfz8_1, hfz8_2, hfz8_3, hfz8_4, hfz8_5⟩ := bz6 BK189; obtain ⟨hcz9_0, hcz9_1, hcz9_2, hcz9_3, hcz9_4, hcz9_5, hfz9_0, hfz9_1, hfz9_2, hfz9_3, hfz9_4, hfz9_5⟩ := bz6 BK190))
   go_ret; exact ⟨eqq, qb HB⟩
  ·rw [if_neg c4] at H
   have c4b0 : (a0_1.toList.isEmpty != a1_1.toList.isEmpty) = false := by simpa using c4
   (try (have c4b1 : decide (a0_1.toList.isEmpty = a1_1.toList.isEmpty) = true := by simpa using c4))
   (try (have c4b2 : (a0_1.toList.isEmpty == a1_1.toList.isEmpty) = true := by simpa using c4))
   clear c4; obtain rfl := Option.some.inj H; go_enter Try.func45, Try.ntmps45
   go_wp2_with (first | ((with_reducible refine gate_dst (N := 2) rfl ?_); refine box_event ?hg (N := 2) ?hd (cs := #[.string a0_0, .string a0_1, .int .i64 a0_2, .int .i64 a0_3, .int .i64 a0_4, .int .i64 a0_5]) (t := 44) ?hr ?_; (case hd => rfl); (case hg => rfl); (case hr => first | (go_simp; done) | (go_simp; rfl)); intro gb189 hg w10 hbox hb; have n0_ := Aside0.mk (below_step (qb HB) hb); have n1_ := Aside0.mk (hbox); have n2_ := Aside0.mk ((by rw [hg]; exact (below_size (qb HB)) : w.heap.size ≤ gb189)); have n3_ := Aside0.mk ((by rw [hg]; exact (below_size (qb HB)) : w.heap.size ≤ gb189)); clear HB; have HB := n0_; have BK189 := n1_; have GW189 := n2_; have GE189 := n3_; clear n0_ n1_ n2_ n3_; clear hb hbox hg) | ((with_reducible refine gate_dst (N := 3) rfl ?_); refine box_event ?hg (N := 3) ?hd (cs := #[.string a1_0, .string a1_1, .int .i64 a1_2, .int .i64 a1_3, .int .i64 a1_4, .int .i64 a1_5]) (t := 44) ?hr ?_; (case hd => rfl); (case hg => rfl); (case hr => first | (go_simp; done) | (go_simp; rfl)); intro gb190 hg w11 hbox hb; have n0_ := Aside0.mk (blk_below (bq BK189) hb); have n1_ := Aside0.mk (below_step (qb HB) hb); have n2_ := Aside0.mk (hbox); have n3_ := Aside0.mk ((by rw [hg]; exact (below_size (qb HB)) : w.heap.size ≤ gb190)); have n4_ := Aside0.mk ((by rw [hg]; exact (below_size (qb HB)) : w.heap.size ≤ gb190)); have n5_ := Aside0.mk ((by rw [hg]; exact Nat.ne_of_lt (blk_lt (bq BK189)) : gb189 ≠ gb190)); have n6_ := Aside0.mk ((by rw [hg]; exact Nat.ne_of_gt (blk_lt (bq BK189)) : gb190 ≠ gb189)); clear BK189; clear HB; have BK189 := n0_; have HB := n1_; have BK190 := n2_; have GW190 := n3_; have GE190 := n4_; have NB189_190 := n5_; have NB190_189 := n6_; clear n0_ n1_ n2_ n3_ n4_ n5_ n6_; clear hb hbox hg; have hnb12 := NB189_190.out; have hnc12 := NB190_189.out; obtain ⟨hcz13_0, hcz13_1, hcz13_2, hcz13_3, hcz13_4, hcz13_5, hfz13_0, hfz13_1, hfz13_2, hfz13_3, hfz13_4, hfz13_5⟩ := bz6 BK189; obtain ⟨hcz14_0, hcz14_1, hcz14_2, hcz14_3, hcz14_4, hcz14_5, hfz14_0, hfz14_1, hfz14_2, hfz14_3, hfz14_4, hfz14_5⟩ := bz6 BK190))
   go_ret; exact ⟨eqq, qb HB⟩
 ·rw [if_neg c3] at H; have c3b0 : (a0_2 == a1_2) = false := beq_eq_false_iff_ne.mpr c3; have c3b1 : (a0_2 != a1_2) = true := bne_iff_ne.mpr c3; obtain rfl := Option.some.inj H; go_enter Try.func45, Try.ntmps45
  go_wp2_with (first | ((with_reducible refine gate_dst (N := 2) rfl ?_); refine box_event ?hg (N := 2) ?hd (cs := #[.string a0_0, .string a0_1, .int .i64 a0_2, .int .i64 a0_3, .int .i64 a0_4, .int .i64 a0_5]) (t := 44) ?hr ?_; (case hd => rfl); (case hg => rfl); (case hr => first | (go_simp; done) | (go_simp; rfl)); intro gb189 hg w15 hbox hb; have n0_ := Aside0.mk (below_step (qb HB) hb); have n1_ := Aside0.mk (hbox); have n2_ := Aside0.mk ((by rw [hg]; exact (below_size (qb HB)) : w.heap.size ≤ gb189)); have n3_ := Aside0.mk ((by rw [hg]; exact (below_size (qb HB)) : w.heap.size ≤ gb189)); clear HB; have HB := n0_; have BK189 := n1_; have GW189 := n2_; have GE189 := n3_; clear n0_ n1_ n2_ n3_; clear hb hbox hg) | ((with_reducible refine gate_dst (N := 3) rfl ?_); refine box_event ?hg (N := 3) ?hd (cs := #[.string a1_0, .string a1_1, .int .i64 a1_2, .int .i64 a1_3, .int .i64 a1_4, .int .i64 a1_5]) (t := 44) ?hr ?_; (case hd => rfl); (case hg => rfl); (case hr => first | (go_simp; done) | (go_simp; rfl)); intro gb190 hg w16 hbox hb; have n0_ := Aside0.mk (blk_below (bq BK189) hb); have n1_ := Aside0.mk (below_step (qb HB) hb); have n2_ := Aside0.mk (hbox); have n3_ := Aside0.mk ((by rw [hg]; exact (below_size (qb HB)) : w.heap.size ≤ gb190)); have n4_ := Aside0.mk ((by rw [hg]; exact (below_size (qb HB)) : w.heap.size ≤ gb190)); have n5_ := Aside0.mk ((by rw [hg]; exact Nat.ne_of_lt (blk_lt (bq BK189)) : gb189 ≠ gb190)); have n6_ := Aside0.mk ((by rw [hg]; exact Nat.ne_of_gt (blk_lt (bq BK189)) : gb190 ≠ gb189)); clear BK189; clear HB; have BK189 := n0_; have HB := n1_; have BK190 := n2_; have GW190 := n3_; have GE190 := n4_; have NB189_190 := n5_; have NB190_189 := n6_; clear n0_ n1_ n2_ n3_ n4_ n5_ n6_; clear hb hbox hg; have hnb17 := NB189_190.out; have hnc17 := NB190_189.out; obtain ⟨hcz18_0, hcz18_1, hcz18_2, hcz18_3, hcz18_4, hcz18_5, hfz18_0, hfz18_1, hfz18_2, hfz18_3, hfz18_4, hfz18_5⟩ := bz6 BK189; obtain ⟨hcz19_0, hcz19_1, hcz19_2, hcz19_3, hcz19_4, hcz19_5, hfz19_0, hfz19_1, hfz19_2, hfz19_3, hfz19_4, hfz19_5⟩ := bz6 BK190))
  go_ret; exact ⟨eqq, qb HB⟩

/-! ### impl_rowAt: function 28 -/
mutual
def impl_rowAt.l0 : Nat → List (S44) → ByteArray → ByteArray → Int → Int → List (S44) → Int → Int → Option (Int)
 | 0, _, _, _, _, _, _, _, _ => none
 | k + 1, x0, x1, x2, x3, x9, x12, x13, x14 => if x14 < x13 then (if 0 ≤ x14 then (if x14 < (x12.length : Int) then (if ((rd_T44 x12 x14).f0).toList = x1.toList then (if ((rd_T44 x12 x14).f1).toList = x2.toList then ((impl_within.f x3 ((rd_T44 x12 x14).f3) (wrap64 (((rd_T44 x12 x14).f4) - 1))).bind fun t193 => (if t193 = true then (if x9 < 0 then (impl_rowAt.j1 k x0 x1 x2 x3 x9 x14 x12 x13 x14 true) else (if 0 ≤ x9 then (if x9 < (x0.length : Int) then ((impl_isFirmer.f ((rd_T44 x12 x14).f0) ((rd_T44 x12 x14).f1) ((rd_T44 x12 x14).f2) ((rd_T44 x12 x14).f3) ((rd_T44 x12 x14).f4) ((rd_T44 x12 x14).f5) ((rd_T44 x0 x9).f0) ((rd_T44 x0 x9).f1) ((rd_T44 x0 x9).f2) ((rd_T44 x0 x9).f3) ((rd_T44 x0 x9).f4) ((rd_T44 x0 x9).f5)).bind fun t195 => (impl_rowAt.j1 k x0 x1 x2 x3 x9 x14 x12 x13 x14 t195)) else (none)) else (none))) else (impl_rowAt.j1 k x0 x1 x2 x3 x9 x14 x12 x13 x14 false))) else (if ((rd_T44 x12 x14).f1).toList = ([] : List UInt8) then ((impl_within.f x3 ((rd_T44 x12 x14).f3) (wrap64 (((rd_T44 x12 x14).f4) - 1))).bind fun t196 => (if t196 = true then (if x9 < 0 then (impl_rowAt.j1 k x0 x1 x2 x3 x9 x14 x12 x13 x14 true) else (if 0 ≤ x9 then (if x9 < (x0.length : Int) then ((impl_isFirmer.f ((rd_T44 x12 x14).f0) ((rd_T44 x12 x14).f1) ((rd_T44 x12 x14).f2) ((rd_T44 x12 x14).f3) ((rd_T44 x12 x14).f4) ((rd_T44 x12 x14).f5) ((rd_T44 x0 x9).f0) ((rd_T44 x0 x9).f1) ((rd_T44 x0 x9).f2) ((rd_T44 x0 x9).f3) ((rd_T44 x0 x9).f4) ((rd_T44 x0 x9).f5)).bind fun t198 => (impl_rowAt.j1 k x0 x1 x2 x3 x9 x14 x12 x13 x14 t198)) else (none)) else (none))) else (impl_rowAt.j1 k x0 x1 x2 x3 x9 x14 x12 x13 x14 false))) else (impl_rowAt.j1 k x0 x1 x2 x3 x9 x14 x12 x13 x14 false))) else (impl_rowAt.j1 k x0 x1 x2 x3 x9 x14 x12 x13 x14 false)) else (none)) else (none)) else (some x9)
def impl_rowAt.j1 : Nat → List (S44) → ByteArray → ByteArray → Int → Int → Int → List (S44) → Int → Int → Bool → Option (Int)
 | 0, _, _, _, _, _, _, _, _, _, _ => none
 | k + 1, x0, x1, x2, x3, x9, x10, x12, x13, x14, x54 => if x54 = true then (impl_rowAt.l0 k x0 x1 x2 x3 x10 x12 x13 (wrap64 (x14 + 1))) else (impl_rowAt.l0 k x0 x1 x2 x3 x9 x12 x13 (wrap64 (x14 + 1)))
end
def impl_rowAt.f (k : Nat) (l0 : List (S44)) (a1 : ByteArray) (a2 : ByteArray) (a3 : Int) : Option (Int) := impl_rowAt.l0 k l0 a1 a2 a3 (-1) l0 (l0.length : Int) 0
theorem impl_rowAt.mono_l : ∀ k, (∀ y0 y1 y2 y3 y4 y5 y6 y7, LeO (impl_rowAt.l0 k y0 y1 y2 y3 y4 y5 y6 y7) (impl_rowAt.l0 (k + 1) y0 y1 y2 y3 y4 y5 y6 y7)) ∧ (∀ y0 y1 y2 y3 y4 y5 y6 y7 y8 y9, LeO (impl_rowAt.j1 k y0 y1 y2 y3 y4 y5 y6 y7 y8 y9) (impl_rowAt.j1 (k + 1) y0 y1 y2 y3 y4 y5 y6 y7 y8 y9))
 | 0 => ⟨fun _ _ _ _ _ _ _ _ r h => by simp [impl_rowAt.l0] at h, fun _ _ _ _ _ _ _ _ _ _ r h => by simp [impl_rowAt.j1] at h⟩
 | k + 1 => by
  obtain ⟨ih0, ih1⟩ := impl_rowAt.mono_l k; refine ⟨?_, ?_⟩
  ·intro y0 y1 y2 y3 y4 y5 y6 y7; unfold impl_rowAt.l0
   repeat' first
   | (with_reducible exact ih0 _ _ _ _ _ _ _ _)
   | (with_reducible exact ih1 _ _ _ _ _ _ _ _ _ _)
   | (with_reducible exact LeO.refl _)
   | (with_reducible exact LeO.none _)
   | (with_reducible refine LeO.ite ?_ ?_)
   | (with_reducible refine LeO.bind ?_ (fun _ => ?_))
   | exact ih0 _ _ _ _ _ _ _ _
   | exact ih1 _ _ _ _ _ _ _ _ _ _
   | exact LeO.none _
   | refine LeO.ite ?_ ?_
   | refine LeO.bind ?_ (fun _ => ?_)
  ·intro y0 y1 y2 y3 y4 y5 y6 y7 y8 y9; unfold impl_rowAt.j1
   repeat' first
   | (with_reducible exact ih0 _ _ _ _ _ _ _ _)
   | (with_reducible exact ih1 _ _ _ _ _ _ _ _ _ _)
   | (with_reducible exact LeO.refl _)
   | (with_reducible exact LeO.none _)
   | (with_reducible refine LeO.ite ?_ ?_)
   | (with_reducible refine LeO.bind ?_ (fun _ => ?_))
   | exact ih0 _ _ _ _ _ _ _ _
   | exact ih1 _ _ _ _ _ _ _ _ _ _
   | exact LeO.none _
   | refine LeO.ite ?_ ?_
   | refine LeO.bind ?_ (fun _ => ?_)
theorem impl_rowAt.mono : ∀ a0 a1 a2 a3 k, LeO (impl_rowAt.f k a0 a1 a2 a3) (impl_rowAt.f (k + 1) a0 a1 a2 a3) := by
 intro a0 a1 a2 a3 k; obtain ⟨ih0, ih1⟩ := impl_rowAt.mono_l k; unfold impl_rowAt.f
 repeat' first
   | (with_reducible exact ih0 _ _ _ _ _ _ _ _)
   | (with_reducible exact ih1 _ _ _ _ _ _ _ _ _ _)
   | (with_reducible exact LeO.refl _)
   | (with_reducible exact LeO.none _)
   | (with_reducible refine LeO.ite ?_ ?_)
   | (with_reducible refine LeO.bind ?_ (fun _ => ?_))
   | exact ih0 _ _ _ _ _ _ _ _
   | exact ih1 _ _ _ _ _ _ _ _ _ _
   | exact LeO.none _
   | refine LeO.ite ?_ ?_
   | refine LeO.bind ?_ (fun _ => ?_)
def impl_rowAt.T5 : Bool × List (List Nat × List Nat) := (true, [([], []), ([0], [0]), ([], []), ([1, 2], [1, 2]), ([3], [3]), ([4], [4]), ([5, 4], [4, 5]), ([4], [4]), ([6, 7, 4], [4, 6, 7]), ([8, 4, 4], [4, 8]), ([9], [9]), ([10, 9], [9, 10]), ([11, 9], [9, 11]), ([9, 12, 4], [4, 9, 12]), ([4, 13], [4, 13]), ([14, 9], [14]), ([15], [15]), ([15], [15]), ([17, 15], [15, 17]), ([15], [15]), ([19, 15], [15, 19]), ([20, 15], [15, 20]), ([16, 18, 21, 15, 15], [15, 16, 18, 21]), ([15, 22], [15, 22]), ([23, 22], [23]), ([24], [24]), ([25, 24], [24, 25]), ([26, 24, 24], [24, 26]), ([27], [27]), ([27], [27]), ([27], [27]), ([29, 30, 27], [27, 29, 30]), ([31, 27], [27, 31]), ([28, 32, 27, 27], [27, 28, 32]), ([27, 33, 24], [24, 27, 33]), ([24, 34], [24, 34])])
def impl_rowAt.B5 : List Nat := [0, 1, 0, 7, 15, 31, 63, 31, 255, 511, 1023, 2047, 4095, 8191, 16383, 32767, 65535, 65535, 196607, 65535, 589823, 1638399, 4194303, 8388607, 16777215, 33554431, 67108863, 134217727, 268435455, 268435455, 268435455, 1879048191, 4026531839, 8589934591, 17179869183, 34359738367]
theorem impl_rowAt.tab5 : rtab .any (opsOf Try.f28 5) = impl_rowAt.T5 := by kernel_rfl
theorem impl_rowAt.bits5 : waitsOk impl_rowAt.T5.2 impl_rowAt.B5 = true := by kernel_rfl
set_option maxHeartbeats 8000000 in
set_option maxRecDepth 100000 in
theorem impl_rowAt.calls (k : Nat) (A0 : Option Addr) (c0 : Nat) (l0 : List (S44)) (a1 : ByteArray) (a2 : ByteArray) (a3 : Int) (r : Int) (w : World) (hr0 : Kd.C k44 w A0 l0.length l0) (hc0 : l0.length ≤ c0) (h : impl_rowAt.f k l0 a1 a2 a3 = some r) :
  Calls Try.prog 28 #[.slice A0 l0.length c0, .string a1, .string a2, .int .i64 a3] w fun e w' => e = .returned (.int .i64 r) ∧ Below w.heap.size w w' := by
 have hu44 := Try.underlying44; have HR0 := Aside0.mk hr0; have HC0 := Aside0.mk hc0; clear hr0 hc0; have HB := Aside0.mk (Below.refl w.heap.size w); have H : (impl_rowAt.l0 k l0 a1 a2 a3 (-1) l0 (l0.length : Int) 0) = some r := h; clear h; have H' := Aside0.mk H; clear H; go_enter Try.func28, Try.ntmps28; go_wp2
 go_loopg [9, 14] k (fun kq v9 v14 w' => ∃ (x9_1 : Int) (x14_1 : Int), v9 = .int .i64 x9_1 ∧ v14 = .int .i64 x14_1 ∧ Aside0 (impl_rowAt.l0 kq l0 a1 a2 a3 x9_1 l0 (l0.length : Int) x14_1 = some r) ∧ Aside0 (kq ≤ k) ∧ Aside0 (Below w.heap.size w w'))
 case atStart => exact ⟨((-1)), (0), (by first | rfl | (simp; done) | (simp [*]; done)), (by first | rfl | (simp; done) | (simp [*]; done)), H', ⟨Nat.le_refl _⟩, ⟨qb HB⟩⟩
 case round =>
  clear H'; (try clear c2); (try clear p2); obtain ⟨x9_1, x14_1, rfl, rfl, HA, HK1, HB⟩ := hrel
  cases gk with
  | zero => exact absurd HA.out (by simp [impl_rowAt.l0])
  | succ k1 =>
   have H := HA.out; clear HA; simp only [impl_rowAt.l0] at H; by_cases c5 : x14_1 < (l0.length : Int)
   ·rw [if_pos c5] at H; have c5b0 : decide (x14_1 < (l0.length : Int)) = true := decide_eq_true c5; clear c5; by_cases c6 : 0 ≤ x14_1
    ·rw [if_pos c6] at H; have c6b0 : decide (0 ≤ x14_1) = true := decide_eq_true c6; clear c6; by_cases c7 : x14_1 < (l0.length : Int)
     ·rw [if_pos c7] at H; have c7b0 : decide (x14_1 < (l0.length : Int)) = true := decide_eq_true c7; clear c7; have HC8 := Aside0.mk H; clear H; have p191 : 0 ≤ (x14_1 : Int) := of_decide_eq_true (by first | (with_reducible assumption) | assumption); have q191 : x14_1 < (l0.length : Int) := of_decide_eq_true (by first | (with_reducible assumption) | assumption); obtain ⟨ad191, e191, hx191_0, hx191_1, hx191_2, hx191_3, hx191_4, hx191_5⟩ := at_T44 HR0.out x14_1 p191 q191
      cases e191
      replace hx191_0 := (HB.out.cell (World.block_lt_of_cell? w _ hx191_0)).trans hx191_0; replace hx191_1 := (HB.out.cell (World.block_lt_of_cell? w _ hx191_1)).trans hx191_1; replace hx191_2 := (HB.out.cell (World.block_lt_of_cell? w _ hx191_2)).trans hx191_2; replace hx191_3 := (HB.out.cell (World.block_lt_of_cell? w _ hx191_3)).trans hx191_3; replace hx191_4 := (HB.out.cell (World.block_lt_of_cell? w _ hx191_4)).trans hx191_4; replace hx191_5 := (HB.out.cell (World.block_lt_of_cell? w _ hx191_5)).trans hx191_5; replace p191 := eq_true p191; replace q191 := eq_true q191
      go_upto_region 5 with (first | ((with_reducible refine gate_dst (N := 11) rfl ?_); refine box_event ?hg (N := 11) ?hd (cs := #[.string (⟨#[]⟩ : ByteArray), .string (⟨#[]⟩ : ByteArray), .int .i64 0, .int .i64 0, .int .i64 0, .int .i64 0]) (t := 44) ?hr ?_; (case hd => rfl); (case hg => rfl); (case hr => first | (go_simp; done) | (go_simp; rfl)); intro gb192 hg w9 hbox hb; have n0_ := Aside0.mk (below_step (qb HB) hb); have n1_ := Aside0.mk (hbox); have n2_ := Aside0.mk ((by rw [hg]; exact (below_size (qb HB)) : w.heap.size ≤ gb192)); have n3_ := Aside0.mk ((by rw [hg]; exact (below_size (qb HB)) : w.heap.size ≤ gb192)); clear HB; have HB := n0_; have BK192 := n1_; have GW192 := n2_; have GE192 := n3_; clear n0_ n1_ n2_ n3_; clear hb hbox hg; obtain ⟨hcz10_0, hcz10_1, hcz10_2, hcz10_3, hcz10_4, hcz10_5, hfz10_0, hfz10_1, hfz10_2, hfz10_3, hfz10_4, hfz10_5⟩ := bz6 BK192))
      (try simp only [Act.put, sA, s0, sS])
      go_cut [54] (fun v54 wc => ∃ (kq : Nat) (x54_7 : Bool), v54 = .bool x54_7 ∧ Aside0 (impl_rowAt.j1 kq l0 a1 a2 a3 x9_1 x14_1 l0 (l0.length : Int) x14_1 x54_7 = some r) ∧ Aside0 (kq ≤ k1) ∧ Aside0 (wc.heap[gb192]? = some (.cells #[.string ((rd_T44 l0 x14_1).f0), .string ((rd_T44 l0 x14_1).f1), .int .i64 ((rd_T44 l0 x14_1).f2), .int .i64 ((rd_T44 l0 x14_1).f3), .int .i64 ((rd_T44 l0 x14_1).f4), .int .i64 ((rd_T44 l0 x14_1).f5)] 44 (0, 0))) ∧ Aside0 (Below w.heap.size w wc))
      case first =>
       have H := HC8.out; clear HC8; by_cases c11 : ((rd_T44 l0 x14_1).f0).toList = a1.toList
       ·rw [if_pos c11] at H; have c11b0 : (((rd_T44 l0 x14_1).f0).toList == a1.toList) = true := beq_iff_eq.mpr c11; have c11b1 : (((rd_T44 l0 x14_1).f0).toList != a1.toList) = false := bne_eq_false_iff_eq.mpr c11; clear c11
        (first | rw [c11b0] | (simp only [i64_w, i32_w]; rw [c11b0]) | skip)
        by_cases c12 : ((rd_T44 l0 x14_1).f1).toList = a2.toList
        ·rw [if_pos c12] at H; have c12b0 : (((rd_T44 l0 x14_1).f1).toList == a2.toList) = true := beq_iff_eq.mpr c12; have c12b1 : (((rd_T44 l0 x14_1).f1).toList != a2.toList) = false := bne_eq_false_iff_eq.mpr c12; clear c12; replace H := Option.bind_eq_some_iff.mp H; obtain ⟨t193, A130, H⟩ := H; replace H : (if t193 = true then (if x9_1 < 0 then (impl_rowAt.j1 k1 l0 a1 a2 a3 x9_1 x14_1 l0 (l0.length : Int) x14_1 true) else (if 0 ≤ x9_1 then (if x9_1 < (l0.length : Int) then ((impl_isFirmer.f ((rd_T44 l0 x14_1).f0) ((rd_T44 l0 x14_1).f1) ((rd_T44 l0 x14_1).f2) ((rd_T44 l0 x14_1).f3) ((rd_T44 l0 x14_1).f4) ((rd_T44 l0 x14_1).f5) ((rd_T44 l0 x9_1).f0) ((rd_T44 l0 x9_1).f1) ((rd_T44 l0 x9_1).f2) ((rd_T44 l0 x9_1).f3) ((rd_T44 l0 x9_1).f4) ((rd_T44 l0 x9_1).f5)).bind fun t195 => (impl_rowAt.j1 k1 l0 a1 a2 a3 x9_1 x14_1 l0 (l0.length : Int) x14_1 t195)) else (none)) else (none))) else (impl_rowAt.j1 k1 l0 a1 a2 a3 x9_1 x14_1 l0 (l0.length : Int) x14_1 false)) = some r := H; have A13 := Aside0.mk A130; clear A130; by_cases c14 : t193 = true
         ·subst c14
          have H1 : (if x9_1 < 0 then (impl_rowAt.j1 k1 l0 a1 a2 a3 x9_1 x14_1 l0 (l0.length : Int) x14_1 true) else (if 0 ≤ x9_1 then (if x9_1 < (l0.length : Int) then ((impl_isFirmer.f ((rd_T44 l0 x14_1).f0) ((rd_T44 l0 x14_1).f1) ((rd_T44 l0 x14_1).f2) ((rd_T44 l0 x14_1).f3) ((rd_T44 l0 x14_1).f4) ((rd_T44 l0 x14_1).f5) ((rd_T44 l0 x9_1).f0) ((rd_T44 l0 x9_1).f1) ((rd_T44 l0 x9_1).f2) ((rd_T44 l0 x9_1).f3) ((rd_T44 l0 x9_1).f4) ((rd_T44 l0 x9_1).f5)).bind fun t195 => (impl_rowAt.j1 k1 l0 a1 a2 a3 x9_1 x14_1 l0 (l0.length : Int) x14_1 t195)) else (none)) else (none))) = some r := by rw [if_pos rfl] at H; exact H
          clear H; have H := H1; clear H1; by_cases c15 : x9_1 < 0
          ·rw [if_pos c15] at H; have c15b0 : decide (x9_1 < 0) = true := decide_eq_true c15; clear c15; have H' := Aside0.mk H; clear H
           try go_wp2
           have n0_ : Aside0 (((((((w9.setCell ⟨gb192, 0, none⟩ (.string ((rd_T44 l0 x14_1).f0))).setCell ⟨gb192, 1, none⟩ (.string ((rd_T44 l0 x14_1).f1))).setCell ⟨gb192, 2, none⟩ (.int .i64 ((rd_T44 l0 x14_1).f2))).setCell ⟨gb192, 3, none⟩ (.int .i64 ((rd_T44 l0 x14_1).f3))).setCell ⟨gb192, 4, none⟩ (.int .i64 ((rd_T44 l0 x14_1).f4))).setCell ⟨gb192, 5, none⟩ (.int .i64 ((rd_T44 l0 x14_1).f5))).heap[gb192]? = some (.cells #[.string ((rd_T44 l0 x14_1).f0), .string ((rd_T44 l0 x14_1).f1), .int .i64 ((rd_T44 l0 x14_1).f2), .int .i64 ((rd_T44 l0 x14_1).f3), .int .i64 ((rd_T44 l0 x14_1).f4), .int .i64 ((rd_T44 l0 x14_1).f5)] 44 (0, 0))) := ⟨by (with_reducible repeat (first | refine blk_drewN ?_ _ | refine blk_drew ?_ | refine blk_alloc ?_ _)); refine blk_put (cs := #[.string ((rd_T44 l0 x14_1).f0), .string ((rd_T44 l0 x14_1).f1), .int .i64 ((rd_T44 l0 x14_1).f2), .int .i64 ((rd_T44 l0 x14_1).f3), .int .i64 ((rd_T44 l0 x14_1).f4), .int .i64 0]) ?_ 5 _ rfl; (with_reducible repeat (first | refine blk_drewN ?_ _ | refine blk_drew ?_ | refine blk_alloc ?_ _)); refine blk_put (cs := #[.string ((rd_T44 l0 x14_1).f0), .string ((rd_T44 l0 x14_1).f1), .int .i64 ((rd_T44 l0 x14_1).f2), .int .i64 ((rd_T44 l0 x14_1).f3), .int .i64 0, .int .i64 0]) ?_ 4 _ rfl; (with_reducible repeat (first | refine blk_drewN ?_ _ | refine blk_drew ?_ | refine blk_alloc ?_ _)); refine blk_put (cs := #[.string ((rd_T44 l0 x14_1).f0), .string ((rd_T44 l0 x14_1).f1), .int .i64 ((rd_T44 l0 x14_1).f2), .int .i64 0, .int .i64 0, .int .i64 0]) ?_ 3 _ rfl; (with_reducible repeat (first | refine blk_drewN ?_ _ | refine blk_drew ?_ | refine blk_alloc ?_ _)); refine blk_put (cs := #[.string ((rd_T44 l0 x14_1).f0), .string ((rd_T44 l0 x14_1).f1), .int .i64 0, .int .i64 0, .int .i64 0, .int .i64 0]) ?_ 2 _ rfl; (with_reducible repeat (first | refine blk_drewN ?_ _ | refine blk_drew ?_ | refine blk_alloc ?_ _)); refine blk_put (cs := #[.string ((rd_T44 l0 x14_1).f0), .string (⟨#[]⟩ : ByteArray), .int .i64 0, .int .i64 0, .int .i64 0, .int .i64 0]) ?_ 1 _ rfl; (with_reducible repeat (first | refine blk_drewN ?_ _ | refine blk_drew ?_ | refine blk_alloc ?_ _)); refine blk_put (cs := #[.string (⟨#[]⟩ : ByteArray), .string (⟨#[]⟩ : ByteArray), .int .i64 0, .int .i64 0, .int .i64 0, .int .i64 0]) ?_ 0 _ rfl; (with_reducible repeat (first | refine blk_drewN ?_ _ | refine blk_drew ?_ | refine blk_alloc ?_ _)); exact BK192.out⟩; have n1_ : Aside0 (Below w.heap.size w ((((((w9.setCell ⟨gb192, 0, none⟩ (.string ((rd_T44 l0 x14_1).f0))).setCell ⟨gb192, 1, none⟩ (.string ((rd_T44 l0 x14_1).f1))).setCell ⟨gb192, 2, none⟩ (.int .i64 ((rd_T44 l0 x14_1).f2))).setCell ⟨gb192, 3, none⟩ (.int .i64 ((rd_T44 l0 x14_1).f3))).setCell ⟨gb192, 4, none⟩ (.int .i64 ((rd_T44 l0 x14_1).f4))).setCell ⟨gb192, 5, none⟩ (.int .i64 ((rd_T44 l0 x14_1).f5)))) := ⟨qb HB⟩; (try clear BK192); (try clear HB); generalize ((((((w9.setCell ⟨gb192, 0, none⟩ (.string ((rd_T44 l0 x14_1).f0))).setCell ⟨gb192, 1, none⟩ (.string ((rd_T44 l0 x14_1).f1))).setCell ⟨gb192, 2, none⟩ (.int .i64 ((rd_T44 l0 x14_1).f2))).setCell ⟨gb192, 3, none⟩ (.int .i64 ((rd_T44 l0 x14_1).f3))).setCell ⟨gb192, 4, none⟩ (.int .i64 ((rd_T44 l0 x14_1).f4))).setCell ⟨gb192, 5, none⟩ (.int .i64 ((rd_T44 l0 x14_1).f5))) = w16 at n0_ n1_ ⊢; have BK192 := n0_; have HB := n1_; clear n0_ n1_; have n0_ := Aside0.mk (blk_drew BK192.out); have n1_ := Aside0.mk (below_drew1 HB.out); clear BK192; clear HB; have BK192 := n0_; have HB := n1_; clear n0_ n1_; refine start_ (n := 36) (S := fun w' => w'.cell? ⟨gb192, 0, none⟩ = some (.string ((rd_T44 l0 x14_1).f0)) ∧ w'.cell? ⟨gb192, 1, none⟩ = some (.string ((rd_T44 l0 x14_1).f1)) ∧ w'.cell? ⟨gb192, 2, none⟩ = some (.int .i64 ((rd_T44 l0 x14_1).f2)) ∧ w'.cell? ⟨gb192, 3, none⟩ = some (.int .i64 ((rd_T44 l0 x14_1).f3)) ∧ w'.cell? ⟨gb192, 4, none⟩ = some (.int .i64 ((rd_T44 l0 x14_1).f4)) ∧ w'.cell? ⟨gb192, 5, none⟩ = some (.int .i64 ((rd_T44 l0 x14_1).f5))) (ds := []) (rl_ true [0, 36]).toArray (by kernel_rfl) rfl rfl ⟨(blk_cell BK192.out 0).trans rfl, (blk_cell BK192.out 1).trans rfl, (blk_cell BK192.out 2).trans rfl, (blk_cell BK192.out 3).trans rfl, (blk_cell BK192.out 4).trans rfl, (blk_cell BK192.out 5).trans rfl⟩ (fun hHeld => ?_); refine with_tabW impl_rowAt.tab5 impl_rowAt.bits5 (fun HT_ HW_ => ?_); generalize w16.drew = w17 at BK192 HB hHeld ⊢; refine pure_ (i := 0) (N := some 19) (v := ?_) (a' := ?_) (rl_ true [1, 35]).toArray rfl rfl (any_of HT_.out (by kernel_rfl)) (fun _ _ _ h => h) (Or.inl ⟨by rfl, ?_⟩) ?_ ?_; rotate_left
           ·intro w'; go_simp; (with_reducible rfl)
           rotate_left
           ·simp only [Act.put, sA, s0, sS, i64_w, i32_w]; rfl
           refine pure_ (i := 2) (N := some 21) (v := ?_) (a' := ?_) (rl_ true [1, 1, 1, 33]).toArray rfl rfl (any_of HT_.out (by kernel_rfl)) (fun _ _ _ h => h) (Or.inl ⟨by rfl, ?_⟩) ?_ ?_; rotate_left
           ·intro w'; go_simp; (with_reducible rfl)
           rotate_left
           ·simp only [Act.put, sA, s0, sS, i64_w, i32_w]; rfl
           refine take_ (i := 1) (N := some 20) (v := ?_) (a' := ?_) (rl_ true [3, 33]).toArray rfl rfl (take_ofW HT_.out HW_.out (by kernel_rfl)) (fun _ _ _ h => h) (Or.inl ⟨by rfl, ?_⟩) hHeld ?_ ?_; rotate_left
           ·rintro w' ⟨s0, s1, s2, s3, s4, s5⟩; go_simp; (with_reducible rfl)
           rotate_left
           ·simp only [Act.put, sA, s0, sS, i64_w, i32_w]; rfl
           refine pure_ (i := 3) (N := some 22) (v := ?_) (a' := ?_) (rl_ true [4, 32]).toArray rfl rfl (any_of HT_.out (by kernel_rfl)) (fun _ _ _ h => h) (Or.inl ⟨by rfl, ?_⟩) ?_ ?_; rotate_left
           ·intro w'; go_simp; (with_reducible rfl)
           rotate_left
           ·simp only [Act.put, sA, s0, sS, i64_w, i32_w]; rfl
           refine pure_ (i := 4) (N := some 23) (v := ?_) (a' := ?_) (rl_ true [5, 31]).toArray rfl rfl (any_of HT_.out (by kernel_rfl)) (fun _ _ _ h => h) (Or.inl ⟨by rfl, ?_⟩) ?_ ?_; rotate_left
           ·intro w'; go_simp; (with_reducible rfl)
           rotate_left
           ·simp only [Act.put, sA, s0, sS, i64_w, i32_w]; rfl
           refine pure_ (i := 5) (N := some 24) (v := ?_) (a' := ?_) (rl_ true [6, 30]).toArray rfl rfl (any_of HT_.out (by kernel_rfl)) (fun _ _ _ h => h) (Or.inl ⟨by rfl, ?_⟩) ?_ ?_; rotate_left
           ·intro w'; go_simp; (with_reducible rfl)
           rotate_left
           ·simp only [Act.put, sA, s0, sS, i64_w, i32_w]; rfl
           refine pure_ (i := 7) (N := some 26) (v := ?_) (a' := ?_) (rl_ true [6, 1, 1, 28]).toArray rfl rfl (any_of HT_.out (by kernel_rfl)) (fun _ _ _ h => h) (Or.inl ⟨by rfl, ?_⟩) ?_ ?_; rotate_left
           ·intro w'; go_simp; (with_reducible rfl)
           rotate_left
           ·simp only [Act.put, sA, s0, sS, i64_w, i32_w]; rfl
           refine take_ (i := 6) (N := some 25) (v := ?_) (a' := ?_) (rl_ true [8, 28]).toArray rfl rfl (take_ofW HT_.out HW_.out (by kernel_rfl)) (fun _ _ _ h => h) (Or.inl ⟨by rfl, ?_⟩) hHeld ?_ ?_; rotate_left
           ·rintro w' ⟨s0, s1, s2, s3, s4, s5⟩; go_simp; (with_reducible rfl)
           rotate_left
           ·simp only [Act.put, sA, s0, sS, i64_w, i32_w]; rfl
           refine pure_ (i := 8) (N := some 27) (v := ?_) (a' := ?_) (rl_ true [9, 27]).toArray rfl rfl (any_of HT_.out (by kernel_rfl)) (fun _ _ _ h => h) (Or.inl ⟨by rfl, ?_⟩) ?_ ?_; rotate_left
           ·intro w'; go_simp; (with_reducible rfl)
           rotate_left
           ·simp only [Act.put, sA, s0, sS, i64_w, i32_w]; rfl
           refine pure_ (i := 9) (N := some 28) (v := ?_) (a' := ?_) (rl_ true [10, 26]).toArray rfl rfl (any_of HT_.out (by kernel_rfl)) (fun _ _ _ h => h) (Or.inl ⟨by rfl, ?_⟩) ?_ ?_; rotate_left
           ·intro w'; go_simp; (with_reducible rfl)
           rotate_left
           ·simp only [Act.put, sA, s0, sS, i64_w, i32_w]; rfl
           refine pure_ (i := 10) (N := some 29) (v := undef) (a' := ?_) (rl_ true [11, 25]).toArray rfl rfl (any_of HT_.out (by kernel_rfl)) (fun _ _ _ h => h) (Or.inr ⟨by rfl, rfl⟩) ?_ ?_; rotate_left
           ·simp only [Act.put, sA, s0, sS, i64_w, i32_w]; rfl
           refine pure_ (i := 11) (N := some 30) (v := undef) (a' := ?_) (rl_ true [12, 24]).toArray rfl rfl (any_of HT_.out (by kernel_rfl)) (fun _ _ _ h => h) (Or.inr ⟨by rfl, rfl⟩) ?_ ?_; rotate_left
           ·simp only [Act.put, sA, s0, sS, i64_w, i32_w]; rfl
           refine pure_ (i := 12) (N := some 31) (v := undef) (a' := ?_) (rl_ true [13, 23]).toArray rfl rfl (any_of HT_.out (by kernel_rfl)) (fun _ _ _ h => h) (Or.inr ⟨by rfl, rfl⟩) ?_ ?_; rotate_left
           ·simp only [Act.put, sA, s0, sS, i64_w, i32_w]; rfl
           refine pure_ (i := 13) (N := some 32) (v := ?_) (a' := ?_) (rl_ true [14, 22]).toArray rfl rfl (any_of HT_.out (by kernel_rfl)) (fun _ _ _ h => h) (Or.inl ⟨by rfl, ?_⟩) ?_ ?_; rotate_left
           ·intro w'; go_simp; (with_reducible rfl)
           rotate_left
           ·simp only [Act.put, sA, s0, sS, i64_w, i32_w]; rfl
           refine pure_ (i := 14) (N := some 33) (v := ?_) (a' := ?_) (rl_ true [15, 21]).toArray rfl rfl (any_of HT_.out (by kernel_rfl)) (fun _ _ _ h => h) (Or.inl ⟨by rfl, ?_⟩) ?_ ?_; rotate_left
           ·intro w'; go_simp; (with_reducible rfl)
           rotate_left
           ·simp only [Act.put, sA, s0, sS, i64_w, i32_w]; rfl
           refine pure_ (i := 15) (N := some 34) (v := ?_) (a' := ?_) (rl_ true [16, 20]).toArray rfl rfl (any_of HT_.out (by kernel_rfl)) (fun _ _ _ h => h) (Or.inl ⟨by rfl, ?_⟩) ?_ ?_; rotate_left
           ·intro w'; go_simp; (with_reducible rfl)
           rotate_left
           ·simp only [Act.put, sA, s0, sS, i64_w, i32_w]; rfl
           refine pure_ (i := 16) (N := some 35) (v := ?_) (a' := ?_) (rl_ true [17, 19]).toArray rfl rfl (any_of HT_.out (by kernel_rfl)) (fun _ _ _ h => h) (Or.inl ⟨by rfl, ?_⟩) ?_ ?_; rotate_left
           ·intro w'; go_simp; (with_reducible rfl)
           rotate_left
           ·simp only [Act.put, sA, s0, sS, i64_w, i32_w]; rfl
           refine pure_ (i := 17) (N := some 36) (v := ?_) (a' := ?_) (rl_ true [18, 18]).toArray rfl rfl (any_of HT_.out (by kernel_rfl)) (fun _ _ _ h => h) (Or.inl ⟨by rfl, ?_⟩) ?_ ?_; rotate_left
           ·intro w'; go_simp; (with_reducible rfl)
           rotate_left
           ·simp only [Act.put, sA, s0, sS, i64_w, i32_w]; rfl
           refine pure_ (i := 19) (N := some 38) (v := ?_) (a' := ?_) (rl_ true [18, 1, 1, 16]).toArray rfl rfl (any_of HT_.out (by kernel_rfl)) (fun _ _ _ h => h) (Or.inl ⟨by rfl, ?_⟩) ?_ ?_; rotate_left
           ·intro w'; go_simp; (with_reducible rfl)
           rotate_left
           ·simp only [Act.put, sA, s0, sS, i64_w, i32_w]; rfl
           refine take_ (i := 18) (N := some 37) (v := ?_) (a' := ?_) (rl_ true [20, 16]).toArray rfl rfl (take_ofW HT_.out HW_.out (by kernel_rfl)) (fun _ _ _ h => h) (Or.inl ⟨by rfl, ?_⟩) hHeld ?_ ?_; rotate_left
           ·rintro w' ⟨s0, s1, s2, s3, s4, s5⟩; go_simp; (with_reducible rfl)
           rotate_left
           ·simp only [Act.put, sA, s0, sS, i64_w, i32_w]; rfl
           refine take_ (i := 20) (N := some 39) (v := ?_) (a' := ?_) (rl_ true [21, 15]).toArray rfl rfl (take_ofW HT_.out HW_.out (by kernel_rfl)) (fun _ _ _ h => h) (Or.inl ⟨by rfl, ?_⟩) hHeld ?_ ?_; rotate_left
           ·rintro w' ⟨s0, s1, s2, s3, s4, s5⟩; go_simp; (with_reducible rfl)
           rotate_left
           ·simp only [Act.put, sA, s0, sS, i64_w, i32_w]; rfl
           refine pure_ (i := 21) (N := some 40) (v := ?_) (a' := ?_) (rl_ true [22, 14]).toArray rfl rfl (any_of HT_.out (by kernel_rfl)) (fun _ _ _ h => h) (Or.inl ⟨by rfl, ?_⟩) ?_ ?_; rotate_left
           ·intro w'; go_simp; (with_reducible rfl)
           rotate_left
           ·simp only [Act.put, sA, s0, sS, i64_w, i32_w]; rfl
           refine one_ (i := 22) (N := some 41) (rl_ true [23, 13]).toArray rfl rfl (one_of HT_.out (by kernel_rfl)) (by decide) (fun K hK => ?_); refine goes_ Try.func44 (by kernel_rfl) rfl #[.int .i64 a3, .int .i64 ((rd_T44 l0 x14_1).f3), .int .i64 (wrap64 (((rd_T44 l0 x14_1).f4) - 1))] (by rfl) rfl rfl mq ?_; (with_reducible refine (impl_within.calls a3 ((rd_T44 l0 x14_1).f3) (wrap64 (((rd_T44 l0 x14_1).f4) - 1)) true _ A13.out).mono ?_); rintro e w' ⟨rfl, ⟨nd, rfl⟩⟩; refine ⟨_, rfl, ?_⟩; refine hK.out _ _ ⟨(blk_cell BK192.out 0).trans rfl, (blk_cell BK192.out 1).trans rfl, (blk_cell BK192.out 2).trans rfl, (blk_cell BK192.out 3).trans rfl, (blk_cell BK192.out 4).trans rfl, (blk_cell BK192.out 5).trans rfl⟩ (fun hHeld => ?_); clear hK K; refine norm_ (a' := ?_) ?_ ?_; rotate_left
           ·show Act.put _ (some 41) _ = _; simp only [Act.put, sA, s0, sS, i64_w, i32_w]; rfl
           refine pure_ (i := 23) (N := some 42) (v := ?_) (a' := ?_) (rl_ true [24, 12]).toArray rfl rfl (any_of HT_.out (by kernel_rfl)) (fun _ _ _ h => h) (Or.inl ⟨by rfl, ?_⟩) ?_ ?_; rotate_left
           ·intro w'; go_simp; (with_reducible rfl)
           rotate_left
           ·simp only [Act.put, sA, s0, sS, i64_w, i32_w]; rfl
           refine pure_ (i := 24) (N := some 43) (v := ?_) (a' := ?_) (rl_ true [25, 11]).toArray rfl rfl (any_of HT_.out (by kernel_rfl)) (fun _ _ _ h => h) (Or.inl ⟨by rfl, ?_⟩) ?_ ?_; rotate_left
           ·intro w'; go_simp; (with_reducible rfl)
           rotate_left
           ·simp only [Act.put, sA, s0, sS, i64_w, i32_w]; rfl
           refine pure_ (i := 25) (N := some 44) (v := ?_) (a' := ?_) (rl_ true [26, 10]).toArray rfl rfl (any_of HT_.out (by kernel_rfl)) (fun _ _ _ h => h) (Or.inl ⟨by rfl, ?_⟩) ?_ ?_; rotate_left
           ·intro w'; go_simp; (with_reducible rfl)
           rotate_left
           ·simp only [Act.put, sA, s0, sS, i64_w, i32_w]; rfl
           refine pure_ (i := 26) (N := some 45) (v := ?_) (a' := ?_) (rl_ true [27, 9]).toArray rfl rfl (any_of HT_.out (by kernel_rfl)) (fun _ _ _ h => h) (Or.inl ⟨by rfl, ?_⟩) ?_ ?_; rotate_left
           ·intro w'; go_simp; (with_reducible rfl)
           rotate_left
           ·simp only [Act.put, sA, s0, sS, i64_w, i32_w]; rfl
           refine pure_ (i := 27) (N := some 46) (v := ?_) (a' := ?_) (rl_ true [28, 8]).toArray rfl rfl (any_of HT_.out (by kernel_rfl)) (fun _ _ _ h => h) (Or.inl ⟨by rfl, ?_⟩) ?_ ?_; rotate_left
           ·intro w'; go_simp; (with_reducible rfl)
           rotate_left
           ·simp only [Act.put, sA, s0, sS, i64_w, i32_w]; rfl
           refine pure_ (i := 28) (N := some 47) (v := undef) (a' := ?_) (rl_ true [29, 7]).toArray rfl rfl (any_of HT_.out (by kernel_rfl)) (fun _ _ _ h => h) (Or.inr ⟨by rfl, rfl⟩) ?_ ?_; rotate_left
           ·simp only [Act.put, sA, s0, sS, i64_w, i32_w]; rfl
           refine pure_ (i := 29) (N := some 48) (v := undef) (a' := ?_) (rl_ true [30, 6]).toArray rfl rfl (any_of HT_.out (by kernel_rfl)) (fun _ _ _ h => h) (Or.inr ⟨by rfl, rfl⟩) ?_ ?_; rotate_left
           ·simp only [Act.put, sA, s0, sS, i64_w, i32_w]; rfl
           refine pure_ (i := 30) (N := some 49) (v := undef) (a' := ?_) (rl_ true [31, 5]).toArray rfl rfl (any_of HT_.out (by kernel_rfl)) (fun _ _ _ h => h) (Or.inr ⟨by rfl, rfl⟩) ?_ ?_; rotate_left
           ·simp only [Act.put, sA, s0, sS, i64_w, i32_w]; rfl
           refine pure_ (i := 31) (N := some 50) (v := undef) (a' := ?_) (rl_ true [32, 4]).toArray rfl rfl (any_of HT_.out (by kernel_rfl)) (fun _ _ _ h => h) (Or.inr ⟨by rfl, rfl⟩) ?_ ?_; rotate_left
           ·simp only [Act.put, sA, s0, sS, i64_w, i32_w]; rfl
           refine pure_ (i := 32) (N := some 51) (v := undef) (a' := ?_) (rl_ true [33, 3]).toArray rfl rfl (any_of HT_.out (by kernel_rfl)) (fun _ _ _ h => h) (Or.inr ⟨by rfl, rfl⟩) ?_ ?_; rotate_left
           ·simp only [Act.put, sA, s0, sS, i64_w, i32_w]; rfl
           refine pure_ (i := 33) (N := some 52) (v := undef) (a' := ?_) (rl_ true [34, 2]).toArray rfl rfl (any_of HT_.out (by kernel_rfl)) (fun _ _ _ h => h) (Or.inr ⟨by rfl, rfl⟩) ?_ ?_; rotate_left
           ·simp only [Act.put, sA, s0, sS, i64_w, i32_w]; rfl
           refine pure_ (i := 34) (N := some 53) (v := ?_) (a' := ?_) (rl_ true [35, 1]).toArray rfl rfl (any_of HT_.out (by kernel_rfl)) (fun _ _ _ h => h) (Or.inl ⟨by rfl, ?_⟩) ?_ ?_; rotate_left
           ·intro w'; go_simp; (with_reducible rfl)
           rotate_left
           ·simp only [Act.put, sA, s0, sS, i64_w, i32_w]; rfl
           refine pure_ (i := 35) (N := some 54) (v := ?_) (a' := ?_) (rl_ true [36]).toArray rfl rfl (any_of HT_.out (by kernel_rfl)) (fun _ _ _ h => h) (Or.inl ⟨by rfl, ?_⟩) ?_ ?_; rotate_left
           ·intro w'; go_simp; (with_reducible rfl)
           rotate_left
           ·simp only [Act.put, sA, s0, sS, i64_w, i32_w]; rfl
           refine done_ (done_of HT_.out (by kernel_rfl)) ?_
           try go_wp2
           go_meet
           case rel => exact ⟨_, (true), (by first | rfl | (simp; done) | (simp [*]; done)), H', ⟨by have := HK1.out; first | omega | exact Nat.le_refl _⟩, ⟨bq BK192⟩, ⟨qb HB⟩⟩
          ·rw [if_neg c15] at H; have c15b0 : decide (x9_1 < 0) = false := decide_eq_false c15; clear c15; by_cases c18 : 0 ≤ x9_1
           ·rw [if_pos c18] at H; have c18b0 : decide (0 ≤ x9_1) = true := decide_eq_true c18; clear c18; by_cases c19 : x9_1 < (l0.length : Int)
            ·rw [if_pos c19] at H; have c19b0 : decide (x9_1 < (l0.length : Int)) = true := decide_eq_true c19; clear c19; replace H := Option.bind_eq_some_iff.mp H; obtain ⟨t195, A200, H⟩ := H; replace H : (impl_rowAt.j1 k1 l0 a1 a2 a3 x9_1 x14_1 l0 (l0.length : Int) x14_1 t195) = some r := H; have A20 := Aside0.mk A200; clear A200; have H' := Aside0.mk H; clear H
             try go_wp2
             have n0_ : Aside0 (((((((w9.setCell ⟨gb192, 0, none⟩ (.string ((rd_T44 l0 x14_1).f0))).setCell ⟨gb192, 1, none⟩ (.string ((rd_T44 l0 x14_1).f1))).setCell ⟨gb192, 2, none⟩ (.int .i64 ((rd_T44 l0 x14_1).f2))).setCell ⟨gb192, 3, none⟩ (.int .i64 ((rd_T44 l0 x14_1).f3))).setCell ⟨gb192, 4, none⟩ (.int .i64 ((rd_T44 l0 x14_1).f4))).setCell ⟨gb192, 5, none⟩ (.int .i64 ((rd_T44 l0 x14_1).f5))).heap[gb192]? = some (.cells #[.string ((rd_T44 l0 x14_1).f0), .string ((rd_T44 l0 x14_1).f1), .int .i64 ((rd_T44 l0 x14_1).f2), .int .i64 ((rd_T44 l0 x14_1).f3), .int .i64 ((rd_T44 l0 x14_1).f4), .int .i64 ((rd_T44 l0 x14_1).f5)] 44 (0, 0))) := ⟨by (with_reducible repeat (first | refine blk_drewN ?_ _ | refine blk_drew ?_ | refine blk_alloc ?_ _)); refine blk_put (cs := #[.string ((rd_T44 l0 x14_1).f0), .string ((rd_T44 l0 x14_1).f1), .int .i64 ((rd_T44 l0 x14_1).f2), .int .i64 ((rd_T44 l0 x14_1).f3), .int .i64 ((rd_T44 l0 x14_1).f4), .int .i64 0]) ?_ 5 _ rfl; (with_reducible repeat (first | refine blk_drewN ?_ _ | refine blk_drew ?_ | refine blk_alloc ?_ _)); refine blk_put (cs := #[.string ((rd_T44 l0 x14_1).f0), .string ((rd_T44 l0 x14_1).f1), .int .i64 ((rd_T44 l0 x14_1).f2), .int .i64 ((rd_T44 l0 x14_1).f3), .int .i64 0, .int .i64 0]) ?_ 4 _ rfl; (with_reducible repeat (first | refine blk_drewN ?_ _ | refine blk_drew ?_ | refine blk_alloc ?_ _)); refine blk_put (cs := #[.string ((rd_T44 l0 x14_1).f0), .string ((rd_T44 l0 x14_1).f1), .int .i64 ((rd_T44 l0 x14_1).f2), .int .i64 0, .int .i64 0, .int .i64 0]) ?_ 3 _ rfl; (with_reducible repeat (first | refine blk_drewN ?_ _ | refine blk_drew ?_ | refine blk_alloc ?_ _)); refine blk_put (cs := #[.string ((rd_T44 l0 x14_1).f0), .string ((rd_T44 l0 x14_1).f1), .int .i64 0, .int .i64 0, .int .i64 0, .int .i64 0]) ?_ 2 _ rfl; (with_reducible repeat (first | refine blk_drewN ?_ _ | refine blk_drew ?_ | refine blk_alloc ?_ _)); refine blk_put (cs := #[.string ((rd_T44 l0 x14_1).f0), .string (⟨#[]⟩ : ByteArray), .int .i64 0, .int .i64 0, .int .i64 0, .int .i64 0]) ?_ 1 _ rfl; (with_reducible repeat (first | refine blk_drewN ?_ _ | refine blk_drew ?_ | refine blk_alloc ?_ _)); refine blk_put (cs := #[.string (⟨#[]⟩ : ByteArray), .string (⟨#[]⟩ : ByteArray), .int .i64 0, .int .i64 0, .int .i64 0, .int .i64 0]) ?_ 0 _ rfl; (with_reducible repeat (first | refine blk_drewN ?_ _ | refine blk_drew ?_ | refine blk_alloc ?_ _)); exact BK192.out⟩; have n1_ : Aside0 (Below w.heap.size w ((((((w9.setCell ⟨gb192, 0, none⟩ (.string ((rd_T44 l0 x14_1).f0))).setCell ⟨gb192, 1, none⟩ (.string ((rd_T44 l0 x14_1).f1))).setCell ⟨gb192, 2, none⟩ (.int .i64 ((rd_T44 l0 x14_1).f2))).setCell ⟨gb192, 3, none⟩ (.int .i64 ((rd_T44 l0 x14_1).f3))).setCell ⟨gb192, 4, none⟩ (.int .i64 ((rd_T44 l0 x14_1).f4))).setCell ⟨gb192, 5, none⟩ (.int .i64 ((rd_T44 l0 x14_1).f5)))) := ⟨qb HB⟩; (try clear BK192); (try clear HB); generalize ((((((w9.setCell ⟨gb192, 0, none⟩ (.string ((rd_T44 l0 x14_1).f0))).setCell ⟨gb192, 1, none⟩ (.string ((rd_T44 l0 x14_1).f1))).setCell ⟨gb192, 2, none⟩ (.int .i64 ((rd_T44 l0 x14_1).f2))).setCell ⟨gb192, 3, none⟩ (.int .i64 ((rd_T44 l0 x14_1).f3))).setCell ⟨gb192, 4, none⟩ (.int .i64 ((rd_T44 l0 x14_1).f4))).setCell ⟨gb192, 5, none⟩ (.int .i64 ((rd_T44 l0 x14_1).f5))) = w21 at n0_ n1_ ⊢; have BK192 := n0_; have HB := n1_; clear n0_ n1_; have n0_ := Aside0.mk (blk_drew BK192.out); have n1_ := Aside0.mk (below_drew1 HB.out); clear BK192; clear HB; have BK192 := n0_; have HB := n1_; clear n0_ n1_; have p194 : 0 ≤ (x9_1 : Int) := of_decide_eq_true (by first | (with_reducible assumption) | assumption); have q194 : x9_1 < (l0.length : Int) := of_decide_eq_true (by first | (with_reducible assumption) | assumption); obtain ⟨ad194, e194, hx194_0, hx194_1, hx194_2, hx194_3, hx194_4, hx194_5⟩ := at_T44 HR0.out x9_1 p194 q194; have hw194_5 := hx194_5; have hw194_4 := hx194_4; have hw194_3 := hx194_3; have hw194_2 := hx194_2; have hw194_1 := hx194_1; have hw194_0 := hx194_0; obtain rfl : ad191 = ad194 := (by injection e194); replace hx194_0 := (HB.out.cell (World.block_lt_of_cell? w _ hx194_0)).trans hx194_0; replace hx194_1 := (HB.out.cell (World.block_lt_of_cell? w _ hx194_1)).trans hx194_1; replace hx194_2 := (HB.out.cell (World.block_lt_of_cell? w _ hx194_2)).trans hx194_2; replace hx194_3 := (HB.out.cell (World.block_lt_of_cell? w _ hx194_3)).trans hx194_3; replace hx194_4 := (HB.out.cell (World.block_lt_of_cell? w _ hx194_4)).trans hx194_4; replace hx194_5 := (HB.out.cell (World.block_lt_of_cell? w _ hx194_5)).trans hx194_5; replace p194 := eq_true p194; replace q194 := eq_true q194; refine start_ (n := 36) (S := fun w' => w'.cell? ⟨gb192, 0, none⟩ = some (.string ((rd_T44 l0 x14_1).f0)) ∧ w'.cell? ⟨gb192, 1, none⟩ = some (.string ((rd_T44 l0 x14_1).f1)) ∧ w'.cell? ⟨gb192, 2, none⟩ = some (.int .i64 ((rd_T44 l0 x14_1).f2)) ∧ w'.cell? ⟨gb192, 3, none⟩ = some (.int .i64 ((rd_T44 l0 x14_1).f3)) ∧ w'.cell? ⟨gb192, 4, none⟩ = some (.int .i64 ((rd_T44 l0 x14_1).f4)) ∧ w'.cell? ⟨gb192, 5, none⟩ = some (.int .i64 ((rd_T44 l0 x14_1).f5)) ∧ w'.cell? (ad191.add ((x9_1).toNat * 6)) = some (.string ((rd_T44 l0 x9_1).f0)) ∧ w'.cell? ⟨(ad191.add ((x9_1).toNat * 6)).block, (ad191.add ((x9_1).toNat * 6)).off + 1, none⟩ = some (.string ((rd_T44 l0 x9_1).f1)) ∧ w'.cell? ⟨(ad191.add ((x9_1).toNat * 6)).block, (ad191.add ((x9_1).toNat * 6)).off + 2, none⟩ = some (.int .i64 ((rd_T44 l0 x9_1).f2)) ∧ w'.cell? ⟨(ad191.add ((x9_1).toNat * 6)).block, (ad191.add ((x9_1).toNat * 6)).off + 3, none⟩ = some (.int .i64 ((rd_T44 l0 x9_1).f3)) ∧ w'.cell? ⟨(ad191.add ((x9_1).toNat * 6)).block, (ad191.add ((x9_1).toNat * 6)).off + 4, none⟩ = some (.int .i64 ((rd_T44 l0 x9_1).f4)) ∧ w'.cell? ⟨(ad191.add ((x9_1).toNat * 6)).block, (ad191.add ((x9_1).toNat * 6)).off + 5, none⟩ = some (.int .i64 ((rd_T44 l0 x9_1).f5))) (ds := []) (rl_ true [0, 36]).toArray (by kernel_rfl) rfl rfl ⟨(blk_cell BK192.out 0).trans rfl, (blk_cell BK192.out 1).trans rfl, (blk_cell BK192.out 2).trans rfl, (blk_cell BK192.out 3).trans rfl, (blk_cell BK192.out 4).trans rfl, (blk_cell BK192.out 5).trans rfl, ((HB.out.cell (World.block_lt_of_cell? w _ hw194_0)).trans hw194_0), ((HB.out.cell (World.block_lt_of_cell? w _ hw194_1)).trans hw194_1), ((HB.out.cell (World.block_lt_of_cell? w _ hw194_2)).trans hw194_2), ((HB.out.cell (World.block_lt_of_cell? w _ hw194_3)).trans hw194_3), ((HB.out.cell (World.block_lt_of_cell? w _ hw194_4)).trans hw194_4), ((HB.out.cell (World.block_lt_of_cell? w _ hw194_5)).trans hw194_5)⟩ (fun hHeld => ?_); refine with_tabW impl_rowAt.tab5 impl_rowAt.bits5 (fun HT_ HW_ => ?_); generalize w21.drew = w22 at BK192 HB hx194_0 hx194_1 hx194_2 hx194_3 hx194_4 hx194_5 hHeld ⊢; refine pure_ (i := 0) (N := some 19) (v := ?_) (a' := ?_) (rl_ true [1, 35]).toArray rfl rfl (any_of HT_.out (by kernel_rfl)) (fun _ _ _ h => h) (Or.inl ⟨by rfl, ?_⟩) ?_ ?_; rotate_left
             ·intro w'; go_simp; (with_reducible rfl)
             rotate_left
             ·simp only [Act.put, sA, s0, sS, i64_w, i32_w]; rfl
             refine pure_ (i := 2) (N := some 21) (v := ?_) (a' := ?_) (rl_ true [1, 1, 1, 33]).toArray rfl rfl (any_of HT_.out (by kernel_rfl)) (fun _ _ _ h => h) (Or.inl ⟨by rfl, ?_⟩) ?_ ?_; rotate_left
             ·intro w'; go_simp; (with_reducible rfl)
             rotate_left
             ·simp only [Act.put, sA, s0, sS, i64_w, i32_w]; rfl
             refine take_ (i := 1) (N := some 20) (v := ?_) (a' := ?_) (rl_ true [3, 33]).toArray rfl rfl (take_ofW HT_.out HW_.out (by kernel_rfl)) (fun _ _ _ h => h) (Or.inl ⟨by rfl, ?_⟩) hHeld ?_ ?_; rotate_left
             ·rintro w' ⟨s0, s1, s2, s3, s4, s5, s6, s7, s8, s9, s10, s11⟩; go_simp; (with_reducible rfl)
             rotate_left
             ·simp only [Act.put, sA, s0, sS, i64_w, i32_w]; rfl
             refine pure_ (i := 3) (N := some 22) (v := ?_) (a' := ?_) (rl_ true [4, 32]).toArray rfl rfl (any_of HT_.out (by kernel_rfl)) (fun _ _ _ h => h) (Or.inl ⟨by rfl, ?_⟩) ?_ ?_; rotate_left
             ·intro w'; go_simp; (with_reducible rfl)
             rotate_left
             ·simp only [Act.put, sA, s0, sS, i64_w, i32_w]; rfl
             refine pure_ (i := 4) (N := some 23) (v := ?_) (a' := ?_) (rl_ true [5, 31]).toArray rfl rfl (any_of HT_.out (by kernel_rfl)) (fun _ _ _ h => h) (Or.inl ⟨by rfl, ?_⟩) ?_ ?_; rotate_left
             ·intro w'; go_simp; (with_reducible rfl)
             rotate_left
             ·simp only [Act.put, sA, s0, sS, i64_w, i32_w]; rfl
             refine pure_ (i := 5) (N := some 24) (v := ?_) (a' := ?_) (rl_ true [6, 30]).toArray rfl rfl (any_of HT_.out (by kernel_rfl)) (fun _ _ _ h => h) (Or.inl ⟨by rfl, ?_⟩) ?_ ?_; rotate_left
             ·intro w'; go_simp; (with_reducible rfl)
             rotate_left
             ·simp only [Act.put, sA, s0, sS, i64_w, i32_w]; rfl
             refine pure_ (i := 7) (N := some 26) (v := ?_) (a' := ?_) (rl_ true [6, 1, 1, 28]).toArray rfl rfl (any_of HT_.out (by kernel_rfl)) (fun _ _ _ h => h) (Or.inl ⟨by rfl, ?_⟩) ?_ ?_; rotate_left
             ·intro w'; go_simp; (with_reducible rfl)
             rotate_left
             ·simp only [Act.put, sA, s0, sS, i64_w, i32_w]; rfl
             refine take_ (i := 6) (N := some 25) (v := ?_) (a' := ?_) (rl_ true [8, 28]).toArray rfl rfl (take_ofW HT_.out HW_.out (by kernel_rfl)) (fun _ _ _ h => h) (Or.inl ⟨by rfl, ?_⟩) hHeld ?_ ?_; rotate_left
             ·rintro w' ⟨s0, s1, s2, s3, s4, s5, s6, s7, s8, s9, s10, s11⟩; go_simp; (with_reducible rfl)
             rotate_left
             ·simp only [Act.put, sA, s0, sS, i64_w, i32_w]; rfl
             refine pure_ (i := 8) (N := some 27) (v := ?_) (a' := ?_) (rl_ true [9, 27]).toArray rfl rfl (any_of HT_.out (by kernel_rfl)) (fun _ _ _ h => h) (Or.inl ⟨by rfl, ?_⟩) ?_ ?_; rotate_left
             ·intro w'; go_simp; (with_reducible rfl)
             rotate_left
             ·simp only [Act.put, sA, s0, sS, i64_w, i32_w]; rfl
             refine pure_ (i := 9) (N := some 28) (v := ?_) (a' := ?_) (rl_ true [10, 26]).toArray rfl rfl (any_of HT_.out (by kernel_rfl)) (fun _ _ _ h => h) (Or.inl ⟨by rfl, ?_⟩) ?_ ?_; rotate_left
             ·intro w'; go_simp; (with_reducible rfl)
             rotate_left
             ·simp only [Act.put, sA, s0, sS, i64_w, i32_w]; rfl
             refine pure_ (i := 10) (N := some 29) (v := undef) (a' := ?_) (rl_ true [11, 25]).toArray rfl rfl (any_of HT_.out (by kernel_rfl)) (fun _ _ _ h => h) (Or.inr ⟨by rfl, rfl⟩) ?_ ?_; rotate_left
             ·simp only [Act.put, sA, s0, sS, i64_w, i32_w]; rfl
             refine pure_ (i := 11) (N := some 30) (v := undef) (a' := ?_) (rl_ true [12, 24]).toArray rfl rfl (any_of HT_.out (by kernel_rfl)) (fun _ _ _ h => h) (Or.inr ⟨by rfl, rfl⟩) ?_ ?_; rotate_left
             ·simp only [Act.put, sA, s0, sS, i64_w, i32_w]; rfl
             refine pure_ (i := 12) (N := some 31) (v := undef) (a' := ?_) (rl_ true [13, 23]).toArray rfl rfl (any_of HT_.out (by kernel_rfl)) (fun _ _ _ h => h) (Or.inr ⟨by rfl, rfl⟩) ?_ ?_; rotate_left
             ·simp only [Act.put, sA, s0, sS, i64_w, i32_w]; rfl
             refine pure_ (i := 13) (N := some 32) (v := ?_) (a' := ?_) (rl_ true [14, 22]).toArray rfl rfl (any_of HT_.out (by kernel_rfl)) (fun _ _ _ h => h) (Or.inl ⟨by rfl, ?_⟩) ?_ ?_; rotate_left
             ·intro w'; go_simp; (with_reducible rfl)
             rotate_left
             ·simp only [Act.put, sA, s0, sS, i64_w, i32_w]; rfl
             refine pure_ (i := 14) (N := some 33) (v := ?_) (a' := ?_) (rl_ true [15, 21]).toArray rfl rfl (any_of HT_.out (by kernel_rfl)) (fun _ _ _ h => h) (Or.inl ⟨by rfl, ?_⟩) ?_ ?_; rotate_left
             ·intro w'; go_simp; (with_reducible rfl)
             rotate_left
             ·simp only [Act.put, sA, s0, sS, i64_w, i32_w]; rfl
             refine pure_ (i := 15) (N := some 34) (v := ?_) (a' := ?_) (rl_ true [16, 20]).toArray rfl rfl (any_of HT_.out (by kernel_rfl)) (fun _ _ _ h => h) (Or.inl ⟨by rfl, ?_⟩) ?_ ?_; rotate_left
             ·intro w'; go_simp; (with_reducible rfl)
             rotate_left
             ·simp only [Act.put, sA, s0, sS, i64_w, i32_w]; rfl
             refine pure_ (i := 16) (N := some 35) (v := ?_) (a' := ?_) (rl_ true [17, 19]).toArray rfl rfl (any_of HT_.out (by kernel_rfl)) (fun _ _ _ h => h) (Or.inl ⟨by rfl, ?_⟩) ?_ ?_; rotate_left
             ·intro w'; go_simp; (with_reducible rfl)
             rotate_left
             ·simp only [Act.put, sA, s0, sS, i64_w, i32_w]; rfl
             refine pure_ (i := 17) (N := some 36) (v := ?_) (a' := ?_) (rl_ true [18, 18]).toArray rfl rfl (any_of HT_.out (by kernel_rfl)) (fun _ _ _ h => h) (Or.inl ⟨by rfl, ?_⟩) ?_ ?_; rotate_left
             ·intro w'; go_simp; (with_reducible rfl)
             rotate_left
             ·simp only [Act.put, sA, s0, sS, i64_w, i32_w]; rfl
             refine pure_ (i := 19) (N := some 38) (v := ?_) (a' := ?_) (rl_ true [18, 1, 1, 16]).toArray rfl rfl (any_of HT_.out (by kernel_rfl)) (fun _ _ _ h => h) (Or.inl ⟨by rfl, ?_⟩) ?_ ?_; rotate_left
             ·intro w'; go_simp; (with_reducible rfl)
             rotate_left
             ·simp only [Act.put, sA, s0, sS, i64_w, i32_w]; rfl
             refine take_ (i := 18) (N := some 37) (v := ?_) (a' := ?_) (rl_ true [20, 16]).toArray rfl rfl (take_ofW HT_.out HW_.out (by kernel_rfl)) (fun _ _ _ h => h) (Or.inl ⟨by rfl, ?_⟩) hHeld ?_ ?_; rotate_left
             ·rintro w' ⟨s0, s1, s2, s3, s4, s5, s6, s7, s8, s9, s10, s11⟩; go_simp; (with_reducible rfl)
             rotate_left
             ·simp only [Act.put, sA, s0, sS, i64_w, i32_w]; rfl
             refine take_ (i := 20) (N := some 39) (v := ?_) (a' := ?_) (rl_ true [21, 15]).toArray rfl rfl (take_ofW HT_.out HW_.out (by kernel_rfl)) (fun _ _ _ h => h) (Or.inl ⟨by rfl, ?_⟩) hHeld ?_ ?_; rotate_left
             ·rintro w' ⟨s0, s1, s2, s3, s4, s5, s6, s7, s8, s9, s10, s11⟩; go_simp; (with_reducible rfl)
             rotate_left
             ·simp only [Act.put, sA, s0, sS, i64_w, i32_w]; rfl
             refine pure_ (i := 21) (N := some 40) (v := ?_) (a' := ?_) (rl_ true [22, 14]).toArray rfl rfl (any_of HT_.out (by kernel_rfl)) (fun _ _ _ h => h) (Or.inl ⟨by rfl, ?_⟩) ?_ ?_; rotate_left
             ·intro w'; go_simp; (with_reducible rfl)
             rotate_left
             ·simp only [Act.put, sA, s0, sS, i64_w, i32_w]; rfl
             refine one_ (i := 22) (N := some 41) (rl_ true [23, 13]).toArray rfl rfl (one_of HT_.out (by kernel_rfl)) (by decide) (fun K hK => ?_); refine goes_ Try.func44 (by kernel_rfl) rfl #[.int .i64 a3, .int .i64 ((rd_T44 l0 x14_1).f3), .int .i64 (wrap64 (((rd_T44 l0 x14_1).f4) - 1))] (by rfl) rfl rfl mq ?_; (with_reducible refine (impl_within.calls a3 ((rd_T44 l0 x14_1).f3) (wrap64 (((rd_T44 l0 x14_1).f4) - 1)) true _ A13.out).mono ?_); rintro e w' ⟨rfl, ⟨nd, rfl⟩⟩; refine ⟨_, rfl, ?_⟩; refine hK.out _ _ ⟨(blk_cell BK192.out 0).trans rfl, (blk_cell BK192.out 1).trans rfl, (blk_cell BK192.out 2).trans rfl, (blk_cell BK192.out 3).trans rfl, (blk_cell BK192.out 4).trans rfl, (blk_cell BK192.out 5).trans rfl, ((HB.out.cell (World.block_lt_of_cell? w _ hw194_0)).trans hw194_0), ((HB.out.cell (World.block_lt_of_cell? w _ hw194_1)).trans hw194_1), ((HB.out.cell (World.block_lt_of_cell? w _ hw194_2)).trans hw194_2), ((HB.out.cell (World.block_lt_of_cell? w _ hw194_3)).trans hw194_3), ((HB.out.cell (World.block_lt_of_cell? w _ hw194_4)).trans hw194_4), ((HB.out.cell (World.block_lt_of_cell? w _ hw194_5)).trans hw194_5)⟩ (fun hHeld => ?_); clear hK K; refine norm_ (a' := ?_) ?_ ?_; rotate_left
             ·show Act.put _ (some 41) _ = _; simp only [Act.put, sA, s0, sS, i64_w, i32_w]; rfl
             refine pure_ (i := 23) (N := some 42) (v := ?_) (a' := ?_) (rl_ true [24, 12]).toArray rfl rfl (any_of HT_.out (by kernel_rfl)) (fun _ _ _ h => h) (Or.inl ⟨by rfl, ?_⟩) ?_ ?_; rotate_left
             ·intro w'; go_simp; (with_reducible rfl)
             rotate_left
             ·simp only [Act.put, sA, s0, sS, i64_w, i32_w]; rfl
             refine pure_ (i := 24) (N := some 43) (v := ?_) (a' := ?_) (rl_ true [25, 11]).toArray rfl rfl (any_of HT_.out (by kernel_rfl)) (fun _ _ _ h => h) (Or.inl ⟨by rfl, ?_⟩) ?_ ?_; rotate_left
             ·intro w'; go_simp; (with_reducible rfl)
             rotate_left
             ·simp only [Act.put, sA, s0, sS, i64_w, i32_w]; rfl
             refine pure_ (i := 25) (N := some 44) (v := ?_) (a' := ?_) (rl_ true [26, 10]).toArray rfl rfl (any_of HT_.out (by kernel_rfl)) (fun _ _ _ h => h) (Or.inl ⟨by rfl, ?_⟩) ?_ ?_; rotate_left
             ·intro w'; go_simp; (with_reducible rfl)
             rotate_left
             ·simp only [Act.put, sA, s0, sS, i64_w, i32_w]; rfl
             refine pure_ (i := 26) (N := some 45) (v := ?_) (a' := ?_) (rl_ true [27, 9]).toArray rfl rfl (any_of HT_.out (by kernel_rfl)) (fun _ _ _ h => h) (Or.inl ⟨by rfl, ?_⟩) ?_ ?_; rotate_left
             ·intro w'; go_simp; (with_reducible rfl)
             rotate_left
             ·simp only [Act.put, sA, s0, sS, i64_w, i32_w]; rfl
             refine pure_ (i := 27) (N := some 46) (v := ?_) (a' := ?_) (rl_ true [28, 8]).toArray rfl rfl (any_of HT_.out (by kernel_rfl)) (fun _ _ _ h => h) (Or.inl ⟨by rfl, ?_⟩) ?_ ?_; rotate_left
             ·intro w'; go_simp; (with_reducible rfl)
             rotate_left
             ·simp only [Act.put, sA, s0, sS, i64_w, i32_w]; rfl
             refine pure_ (i := 29) (N := some 48) (v := ?_) (a' := ?_) (rl_ true [28, 1, 1, 6]).toArray rfl rfl (any_of HT_.out (by kernel_rfl)) (fun _ _ _ h => h) (Or.inl ⟨by rfl, ?_⟩) ?_ ?_; rotate_left
             ·intro w'; go_simp; (with_reducible rfl)
             rotate_left
             ·simp only [Act.put, sA, s0, sS, i64_w, i32_w]; rfl
             refine pure_ (i := 30) (N := some 49) (v := ?_) (a' := ?_) (rl_ true [28, 1, 2, 5]).toArray rfl rfl (any_of HT_.out (by kernel_rfl)) (fun _ _ _ h => h) (Or.inl ⟨by rfl, ?_⟩) ?_ ?_; rotate_left
             ·intro w'; go_simp; (with_reducible rfl)
             rotate_left
             ·simp only [Act.put, sA, s0, sS, i64_w, i32_w]; rfl
             refine pure_ (i := 31) (N := some 50) (v := ?_) (a' := ?_) (rl_ true [28, 1, 3, 4]).toArray rfl rfl (any_of HT_.out (by kernel_rfl)) (fun _ _ _ h => h) (Or.inl ⟨by rfl, ?_⟩) ?_ ?_; rotate_left
             ·intro w'; go_simp; (with_reducible rfl)
             rotate_left
             ·simp only [Act.put, sA, s0, sS, i64_w, i32_w]; rfl
             refine take_ (i := 28) (N := some 47) (v := ?_) (a' := ?_) (rl_ true [32, 4]).toArray rfl rfl (take_ofW HT_.out HW_.out (by kernel_rfl)) (fun _ _ _ h => h) (Or.inl ⟨by rfl, ?_⟩) hHeld ?_ ?_; rotate_left
             ·rintro w' ⟨s0, s1, s2, s3, s4, s5, s6, s7, s8, s9, s10, s11⟩; go_simp; (with_reducible rfl)
             rotate_left
             ·simp only [Act.put, sA, s0, sS, i64_w, i32_w]; rfl
             refine take_ (i := 32) (N := some 51) (v := ?_) (a' := ?_) (rl_ true [33, 3]).toArray rfl rfl (take_ofW HT_.out HW_.out (by kernel_rfl)) (fun _ _ _ h => h) (Or.inl ⟨by rfl, ?_⟩) hHeld ?_ ?_; rotate_left
             ·rintro w' ⟨s0, s1, s2, s3, s4, s5, s6, s7, s8, s9, s10, s11⟩; go_simp; (with_reducible rfl)
             rotate_left
             ·simp only [Act.put, sA, s0, sS, i64_w, i32_w]; rfl
             refine one_ (i := 33) (N := some 52) (rl_ true [34, 2]).toArray rfl rfl (one_of HT_.out (by kernel_rfl)) (by decide) (fun K hK => ?_); refine goes_ Try.func45 (by kernel_rfl) rfl #[.agg #[.string ((rd_T44 l0 x14_1).f0), .string ((rd_T44 l0 x14_1).f1), .int .i64 ((rd_T44 l0 x14_1).f2), .int .i64 ((rd_T44 l0 x14_1).f3), .int .i64 ((rd_T44 l0 x14_1).f4), .int .i64 ((rd_T44 l0 x14_1).f5)], .agg #[.string ((rd_T44 l0 x9_1).f0), .string ((rd_T44 l0 x9_1).f1), .int .i64 ((rd_T44 l0 x9_1).f2), .int .i64 ((rd_T44 l0 x9_1).f3), .int .i64 ((rd_T44 l0 x9_1).f4), .int .i64 ((rd_T44 l0 x9_1).f5)]] (by rfl) rfl rfl mq ?_; (with_reducible refine (impl_isFirmer.calls ((rd_T44 l0 x14_1).f0) ((rd_T44 l0 x14_1).f1) ((rd_T44 l0 x14_1).f2) ((rd_T44 l0 x14_1).f3) ((rd_T44 l0 x14_1).f4) ((rd_T44 l0 x14_1).f5) ((rd_T44 l0 x9_1).f0) ((rd_T44 l0 x9_1).f1) ((rd_T44 l0 x9_1).f2) ((rd_T44 l0 x9_1).f3) ((rd_T44 l0 x9_1).f4) ((rd_T44 l0 x9_1).f5) t195 _ A20.out).mono ?_); rintro e w23 ⟨rfl, hb⟩; refine ⟨_, rfl, ?_⟩; have n0_ := Aside0.mk (blk_below (bq BK192) hb); have n1_ := Aside0.mk (below_step (qb HB) hb); clear BK192; clear HB; have BK192 := n0_; have HB := n1_; clear n0_ n1_; (try clear hb); (try clear hb2); (try clear hk); (try clear hi); refine hK.out _ _ ⟨(blk_cell BK192.out 0).trans rfl, (blk_cell BK192.out 1).trans rfl, (blk_cell BK192.out 2).trans rfl, (blk_cell BK192.out 3).trans rfl, (blk_cell BK192.out 4).trans rfl, (blk_cell BK192.out 5).trans rfl, ((HB.out.cell (World.block_lt_of_cell? w _ hw194_0)).trans hw194_0), ((HB.out.cell (World.block_lt_of_cell? w _ hw194_1)).trans hw194_1), ((HB.out.cell (World.block_lt_of_cell? w _ hw194_2)).trans hw194_2), ((HB.out.cell (World.block_lt_of_cell? w _ hw194_3)).trans hw194_3), ((HB.out.cell (World.block_lt_of_cell? w _ hw194_4)).trans hw194_4), ((HB.out.cell (World.block_lt_of_cell? w _ hw194_5)).trans hw194_5)⟩ (fun hHeld => ?_); clear hK K; refine norm_ (a' := ?_) ?_ ?_; rotate_left
             ·show Act.put _ (some 52) _ = _; simp only [Act.put, sA, s0, sS, i64_w, i32_w]; rfl
             refine pure_ (i := 34) (N := some 53) (v := ?_) (a' := ?_) (rl_ true [35, 1]).toArray rfl rfl (any_of HT_.out (by kernel_rfl)) (fun _ _ _ h => h) (Or.inl ⟨by rfl, ?_⟩) ?_ ?_; rotate_left
             ·intro w'; go_simp; (with_reducible rfl)
             rotate_left
             ·simp only [Act.put, sA, s0, sS, i64_w, i32_w]; rfl
             refine pure_ (i := 35) (N := some 54) (v := ?_) (a' := ?_) (rl_ true [36]).toArray rfl rfl (any_of HT_.out (by kernel_rfl)) (fun _ _ _ h => h) (Or.inl ⟨by rfl, ?_⟩) ?_ ?_; rotate_left
             ·intro w'; go_simp; (with_reducible rfl)
             rotate_left
             ·simp only [Act.put, sA, s0, sS, i64_w, i32_w]; rfl
             refine done_ (done_of HT_.out (by kernel_rfl)) ?_
             try go_wp2
             go_meet
             case rel => exact ⟨_, (t195), (by first | rfl | (simp; done) | (simp [*]; done)), H', ⟨by have := HK1.out; first | omega | exact Nat.le_refl _⟩, ⟨bq BK192⟩, ⟨qb HB⟩⟩
            ·rw [if_neg c19] at H; exact absurd H (by simp)
           ·rw [if_neg c18] at H; exact absurd H (by simp)
         ·replace c14 := Bool.eq_false_iff.mpr c14; subst c14
          have H1 : (impl_rowAt.j1 k1 l0 a1 a2 a3 x9_1 x14_1 l0 (l0.length : Int) x14_1 false) = some r := by rw [if_neg (show ¬ (false = true) by decide)] at H; exact H
          clear H; have H := H1; clear H1; have H' := Aside0.mk H; clear H
          try go_wp2
          have n0_ : Aside0 (((((((w9.setCell ⟨gb192, 0, none⟩ (.string ((rd_T44 l0 x14_1).f0))).setCell ⟨gb192, 1, none⟩ (.string ((rd_T44 l0 x14_1).f1))).setCell ⟨gb192, 2, none⟩ (.int .i64 ((rd_T44 l0 x14_1).f2))).setCell ⟨gb192, 3, none⟩ (.int .i64 ((rd_T44 l0 x14_1).f3))).setCell ⟨gb192, 4, none⟩ (.int .i64 ((rd_T44 l0 x14_1).f4))).setCell ⟨gb192, 5, none⟩ (.int .i64 ((rd_T44 l0 x14_1).f5))).heap[gb192]? = some (.cells #[.string ((rd_T44 l0 x14_1).f0), .string ((rd_T44 l0 x14_1).f1), .int .i64 ((rd_T44 l0 x14_1).f2), .int .i64 ((rd_T44 l0 x14_1).f3), .int .i64 ((rd_T44 l0 x14_1).f4), .int .i64 ((rd_T44 l0 x14_1).f5)] 44 (0, 0))) := ⟨by (with_reducible repeat (first | refine blk_drewN ?_ _ | refine blk_drew ?_ | refine blk_alloc ?_ _)); refine blk_put (cs := #[.string ((rd_T44 l0 x14_1).f0), .string ((rd_T44 l0 x14_1).f1), .int .i64 ((rd_T44 l0 x14_1).f2), .int .i64 ((rd_T44 l0 x14_1).f3), .int .i64 ((rd_T44 l0 x14_1).f4), .int .i64 0]) ?_ 5 _ rfl; (with_reducible repeat (first | refine blk_drewN ?_ _ | refine blk_drew ?_ | refine blk_alloc ?_ _)); refine blk_put (cs := #[.string ((rd_T44 l0 x14_1).f0), .string ((rd_T44 l0 x14_1).f1), .int .i64 ((rd_T44 l0 x14_1).f2), .int .i64 ((rd_T44 l0 x14_1).f3), .int .i64 0, .int .i64 0]) ?_ 4 _ rfl; (with_reducible repeat (first | refine blk_drewN ?_ _ | refine blk_drew ?_ | refine blk_alloc ?_ _)); refine blk_put (cs := #[.string ((rd_T44 l0 x14_1).f0), .string ((rd_T44 l0 x14_1).f1), .int .i64 ((rd_T44 l0 x14_1).f2), .int .i64 0, .int .i64 0, .int .i64 0]) ?_ 3 _ rfl; (with_reducible repeat (first | refine blk_drewN ?_ _ | refine blk_drew ?_ | refine blk_alloc ?_ _)); refine blk_put (cs := #[.string ((rd_T44 l0 x14_1).f0), .string ((rd_T44 l0 x14_1).f1), .int .i64 0, .int .i64 0, .int .i64 0, .int .i64 0]) ?_ 2 _ rfl; (with_reducible repeat (first | refine blk_drewN ?_ _ | refine blk_drew ?_ | refine blk_alloc ?_ _)); refine blk_put (cs := #[.string ((rd_T44 l0 x14_1).f0), .string (⟨#[]⟩ : ByteArray), .int .i64 0, .int .i64 0, .int .i64 0, .int .i64 0]) ?_ 1 _ rfl; (with_reducible repeat (first | refine blk_drewN ?_ _ | refine blk_drew ?_ | refine blk_alloc ?_ _)); refine blk_put (cs := #[.string (⟨#[]⟩ : ByteArray), .string (⟨#[]⟩ : ByteArray), .int .i64 0, .int .i64 0, .int .i64 0, .int .i64 0]) ?_ 0 _ rfl; (with_reducible repeat (first | refine blk_drewN ?_ _ | refine blk_drew ?_ | refine blk_alloc ?_ _)); exact BK192.out⟩; have n1_ : Aside0 (Below w.heap.size w ((((((w9.setCell ⟨gb192, 0, none⟩ (.string ((rd_T44 l0 x14_1).f0))).setCell ⟨gb192, 1, none⟩ (.string ((rd_T44 l0 x14_1).f1))).setCell ⟨gb192, 2, none⟩ (.int .i64 ((rd_T44 l0 x14_1).f2))).setCell ⟨gb192, 3, none⟩ (.int .i64 ((rd_T44 l0 x14_1).f3))).setCell ⟨gb192, 4, none⟩ (.int .i64 ((rd_T44 l0 x14_1).f4))).setCell ⟨gb192, 5, none⟩ (.int .i64 ((rd_T44 l0 x14_1).f5)))) := ⟨qb HB⟩; (try clear BK192); (try clear HB); generalize ((((((w9.setCell ⟨gb192, 0, none⟩ (.string ((rd_T44 l0 x14_1).f0))).setCell ⟨gb192, 1, none⟩ (.string ((rd_T44 l0 x14_1).f1))).setCell ⟨gb192, 2, none⟩ (.int .i64 ((rd_T44 l0 x14_1).f2))).setCell ⟨gb192, 3, none⟩ (.int .i64 ((rd_T44 l0 x14_1).f3))).setCell ⟨gb192, 4, none⟩ (.int .i64 ((rd_T44 l0 x14_1).f4))).setCell ⟨gb192, 5, none⟩ (.int .i64 ((rd_T44 l0 x14_1).f5))) = w24 at n0_ n1_ ⊢; have BK192 := n0_; have HB := n1_; clear n0_ n1_; have n0_ := Aside0.mk (blk_drew BK192.out); have n1_ := Aside0.mk (below_drew1 HB.out); clear BK192; clear HB; have BK192 := n0_; have HB := n1_; clear n0_ n1_; refine start_ (n := 36) (S := fun w' => w'.cell? ⟨gb192, 0, none⟩ = some (.string ((rd_T44 l0 x14_1).f0)) ∧ w'.cell? ⟨gb192, 1, none⟩ = some (.string ((rd_T44 l0 x14_1).f1)) ∧ w'.cell? ⟨gb192, 2, none⟩ = some (.int .i64 ((rd_T44 l0 x14_1).f2)) ∧ w'.cell? ⟨gb192, 3, none⟩ = some (.int .i64 ((rd_T44 l0 x14_1).f3)) ∧ w'.cell? ⟨gb192, 4, none⟩ = some (.int .i64 ((rd_T44 l0 x14_1).f4)) ∧ w'.cell? ⟨gb192, 5, none⟩ = some (.int .i64 ((rd_T44 l0 x14_1).f5))) (ds := []) (rl_ true [0, 36]).toArray (by kernel_rfl) rfl rfl ⟨(blk_cell BK192.out 0).trans rfl, (blk_cell BK192.out 1).trans rfl, (blk_cell BK192.out 2).trans rfl, (blk_cell BK192.out 3).trans rfl, (blk_cell BK192.out 4).trans rfl, (blk_cell BK192.out 5).trans rfl⟩ (fun hHeld => ?_); refine with_tabW impl_rowAt.tab5 impl_rowAt.bits5 (fun HT_ HW_ => ?_); generalize w24.drew = w25 at BK192 HB hHeld ⊢; refine pure_ (i := 0) (N := some 19) (v := ?_) (a' := ?_) (rl_ true [1, 35]).toArray rfl rfl (any_of HT_.out (by kernel_rfl)) (fun _ _ _ h => h) (Or.inl ⟨by rfl, ?_⟩) ?_ ?_; rotate_left
          ·intro w'; go_simp; (with_reducible rfl)
          rotate_left
          ·simp only [Act.put, sA, s0, sS, i64_w, i32_w]; rfl
          refine pure_ (i := 2) (N := some 21) (v := ?_) (a' := ?_) (rl_ true [1, 1, 1, 33]).toArray rfl rfl (any_of HT_.out (by kernel_rfl)) (fun _ _ _ h => h) (Or.inl ⟨by rfl, ?_⟩) ?_ ?_; rotate_left
          ·intro w'; go_simp; (with_reducible rfl)
          rotate_left
          ·simp only [Act.put, sA, s0, sS, i64_w, i32_w]; rfl
          refine take_ (i := 1) (N := some 20) (v := ?_) (a' := ?_) (rl_ true [3, 33]).toArray rfl rfl (take_ofW HT_.out HW_.out (by kernel_rfl)) (fun _ _ _ h => h) (Or.inl ⟨by rfl, ?_⟩) hHeld ?_ ?_; rotate_left
          ·rintro w' ⟨s0, s1, s2, s3, s4, s5⟩; go_simp; (with_reducible rfl)
          rotate_left
          ·simp only [Act.put, sA, s0, sS, i64_w, i32_w]; rfl
          refine pure_ (i := 3) (N := some 22) (v := ?_) (a' := ?_) (rl_ true [4, 32]).toArray rfl rfl (any_of HT_.out (by kernel_rfl)) (fun _ _ _ h => h) (Or.inl ⟨by rfl, ?_⟩) ?_ ?_; rotate_left
          ·intro w'; go_simp; (with_reducible rfl)
          rotate_left
          ·simp only [Act.put, sA, s0, sS, i64_w, i32_w]; rfl
          refine pure_ (i := 4) (N := some 23) (v := ?_) (a' := ?_) (rl_ true [5, 31]).toArray rfl rfl (any_of HT_.out (by kernel_rfl)) (fun _ _ _ h => h) (Or.inl ⟨by rfl, ?_⟩) ?_ ?_; rotate_left
          ·intro w'; go_simp; (with_reducible rfl)
          rotate_left
          ·simp only [Act.put, sA, s0, sS, i64_w, i32_w]; rfl
          refine pure_ (i := 5) (N := some 24) (v := ?_) (a' := ?_) (rl_ true [6, 30]).toArray rfl rfl (any_of HT_.out (by kernel_rfl)) (fun _ _ _ h => h) (Or.inl ⟨by rfl, ?_⟩) ?_ ?_; rotate_left
          ·intro w'; go_simp; (with_reducible rfl)
          rotate_left
          ·simp only [Act.put, sA, s0, sS, i64_w, i32_w]; rfl
          refine pure_ (i := 7) (N := some 26) (v := ?_) (a' := ?_) (rl_ true [6, 1, 1, 28]).toArray rfl rfl (any_of HT_.out (by kernel_rfl)) (fun _ _ _ h => h) (Or.inl ⟨by rfl, ?_⟩) ?_ ?_; rotate_left
          ·intro w'; go_simp; (with_reducible rfl)
          rotate_left
          ·simp only [Act.put, sA, s0, sS, i64_w, i32_w]; rfl
          refine take_ (i := 6) (N := some 25) (v := ?_) (a' := ?_) (rl_ true [8, 28]).toArray rfl rfl (take_ofW HT_.out HW_.out (by kernel_rfl)) (fun _ _ _ h => h) (Or.inl ⟨by rfl, ?_⟩) hHeld ?_ ?_; rotate_left
          ·rintro w' ⟨s0, s1, s2, s3, s4, s5⟩; go_simp; (with_reducible rfl)
          rotate_left
          ·simp only [Act.put, sA, s0, sS, i64_w, i32_w]; rfl
          refine pure_ (i := 8) (N := some 27) (v := ?_) (a' := ?_) (rl_ true [9, 27]).toArray rfl rfl (any_of HT_.out (by kernel_rfl)) (fun _ _ _ h => h) (Or.inl ⟨by rfl, ?_⟩) ?_ ?_; rotate_left
          ·intro w'; go_simp; (with_reducible rfl)
          rotate_left
          ·simp only [Act.put, sA, s0, sS, i64_w, i32_w]; rfl
          refine pure_ (i := 9) (N := some 28) (v := ?_) (a' := ?_) (rl_ true [10, 26]).toArray rfl rfl (any_of HT_.out (by kernel_rfl)) (fun _ _ _ h => h) (Or.inl ⟨by rfl, ?_⟩) ?_ ?_; rotate_left
          ·intro w'; go_simp; (with_reducible rfl)
          rotate_left
          ·simp only [Act.put, sA, s0, sS, i64_w, i32_w]; rfl
          refine pure_ (i := 10) (N := some 29) (v := undef) (a' := ?_) (rl_ true [11, 25]).toArray rfl rfl (any_of HT_.out (by kernel_rfl)) (fun _ _ _ h => h) (Or.inr ⟨by rfl, rfl⟩) ?_ ?_; rotate_left
          ·simp only [Act.put, sA, s0, sS, i64_w, i32_w]; rfl
          refine pure_ (i := 11) (N := some 30) (v := undef) (a' := ?_) (rl_ true [12, 24]).toArray rfl rfl (any_of HT_.out (by kernel_rfl)) (fun _ _ _ h => h) (Or.inr ⟨by rfl, rfl⟩) ?_ ?_; rotate_left
          ·simp only [Act.put, sA, s0, sS, i64_w, i32_w]; rfl
          refine pure_ (i := 12) (N := some 31) (v := undef) (a' := ?_) (rl_ true [13, 23]).toArray rfl rfl (any_of HT_.out (by kernel_rfl)) (fun _ _ _ h => h) (Or.inr ⟨by rfl, rfl⟩) ?_ ?_; rotate_left
          ·simp only [Act.put, sA, s0, sS, i64_w, i32_w]; rfl
          refine pure_ (i := 13) (N := some 32) (v := ?_) (a' := ?_) (rl_ true [14, 22]).toArray rfl rfl (any_of HT_.out (by kernel_rfl)) (fun _ _ _ h => h) (Or.inl ⟨by rfl, ?_⟩) ?_ ?_; rotate_left
          ·intro w'; go_simp; (with_reducible rfl)
          rotate_left
          ·simp only [Act.put, sA, s0, sS, i64_w, i32_w]; rfl
          refine pure_ (i := 14) (N := some 33) (v := ?_) (a' := ?_) (rl_ true [15, 21]).toArray rfl rfl (any_of HT_.out (by kernel_rfl)) (fun _ _ _ h => h) (Or.inl ⟨by rfl, ?_⟩) ?_ ?_; rotate_left
          ·intro w'; go_simp; (with_reducible rfl)
          rotate_left
          ·simp only [Act.put, sA, s0, sS, i64_w, i32_w]; rfl
          refine pure_ (i := 15) (N := some 34) (v := ?_) (a' := ?_) (rl_ true [16, 20]).toArray rfl rfl (any_of HT_.out (by kernel_rfl)) (fun _ _ _ h => h) (Or.inl ⟨by rfl, ?_⟩) ?_ ?_; rotate_left
          ·intro w'; go_simp; (with_reducible rfl)
          rotate_left
          ·simp only [Act.put, sA, s0, sS, i64_w, i32_w]; rfl
          refine pure_ (i := 16) (N := some 35) (v := ?_) (a' := ?_) (rl_ true [17, 19]).toArray rfl rfl (any_of HT_.out (by kernel_rfl)) (fun _ _ _ h => h) (Or.inl ⟨by rfl, ?_⟩) ?_ ?_; rotate_left
          ·intro w'; go_simp; (with_reducible rfl)
          rotate_left
          ·simp only [Act.put, sA, s0, sS, i64_w, i32_w]; rfl
          refine pure_ (i := 17) (N := some 36) (v := ?_) (a' := ?_) (rl_ true [18, 18]).toArray rfl rfl (any_of HT_.out (by kernel_rfl)) (fun _ _ _ h => h) (Or.inl ⟨by rfl, ?_⟩) ?_ ?_; rotate_left
          ·intro w'; go_simp; (with_reducible rfl)
          rotate_left
          ·simp only [Act.put, sA, s0, sS, i64_w, i32_w]; rfl
          refine pure_ (i := 19) (N := some 38) (v := ?_) (a' := ?_) (rl_ true [18, 1, 1, 16]).toArray rfl rfl (any_of HT_.out (by kernel_rfl)) (fun _ _ _ h => h) (Or.inl ⟨by rfl, ?_⟩) ?_ ?_; rotate_left
          ·intro w'; go_simp; (with_reducible rfl)
          rotate_left
          ·simp only [Act.put, sA, s0, sS, i64_w, i32_w]; rfl
          refine take_ (i := 18) (N := some 37) (v := ?_) (a' := ?_) (rl_ true [20, 16]).toArray rfl rfl (take_ofW HT_.out HW_.out (by kernel_rfl)) (fun _ _ _ h => h) (Or.inl ⟨by rfl, ?_⟩) hHeld ?_ ?_; rotate_left
          ·rintro w' ⟨s0, s1, s2, s3, s4, s5⟩; go_simp; (with_reducible rfl)
          rotate_left
          ·simp only [Act.put, sA, s0, sS, i64_w, i32_w]; rfl
          refine take_ (i := 20) (N := some 39) (v := ?_) (a' := ?_) (rl_ true [21, 15]).toArray rfl rfl (take_ofW HT_.out HW_.out (by kernel_rfl)) (fun _ _ _ h => h) (Or.inl ⟨by rfl, ?_⟩) hHeld ?_ ?_; rotate_left
          ·rintro w' ⟨s0, s1, s2, s3, s4, s5⟩; go_simp; (with_reducible rfl)
          rotate_left
          ·simp only [Act.put, sA, s0, sS, i64_w, i32_w]; rfl
          refine pure_ (i := 21) (N := some 40) (v := ?_) (a' := ?_) (rl_ true [22, 14]).toArray rfl rfl (any_of HT_.out (by kernel_rfl)) (fun _ _ _ h => h) (Or.inl ⟨by rfl, ?_⟩) ?_ ?_; rotate_left
          ·intro w'; go_simp; (with_reducible rfl)
          rotate_left
          ·simp only [Act.put, sA, s0, sS, i64_w, i32_w]; rfl
          refine one_ (i := 22) (N := some 41) (rl_ true [23, 13]).toArray rfl rfl (one_of HT_.out (by kernel_rfl)) (by decide) (fun K hK => ?_); refine goes_ Try.func44 (by kernel_rfl) rfl #[.int .i64 a3, .int .i64 ((rd_T44 l0 x14_1).f3), .int .i64 (wrap64 (((rd_T44 l0 x14_1).f4) - 1))] (by rfl) rfl rfl mq ?_; (with_reducible refine (impl_within.calls a3 ((rd_T44 l0 x14_1).f3) (wrap64 (((rd_T44 l0 x14_1).f4) - 1)) false _ A13.out).mono ?_); rintro e w' ⟨rfl, ⟨nd, rfl⟩⟩; refine ⟨_, rfl, ?_⟩; refine hK.out _ _ ⟨(blk_cell BK192.out 0).trans rfl, (blk_cell BK192.out 1).trans rfl, (blk_cell BK192.out 2).trans rfl, (blk_cell BK192.out 3).trans rfl, (blk_cell BK192.out 4).trans rfl, (blk_cell BK192.out 5).trans rfl⟩ (fun hHeld => ?_); clear hK K; refine norm_ (a' := ?_) ?_ ?_; rotate_left
          ·show Act.put _ (some 41) _ = _; simp only [Act.put, sA, s0, sS, i64_w, i32_w]; rfl
          refine pure_ (i := 23) (N := some 42) (v := ?_) (a' := ?_) (rl_ true [24, 12]).toArray rfl rfl (any_of HT_.out (by kernel_rfl)) (fun _ _ _ h => h) (Or.inl ⟨by rfl, ?_⟩) ?_ ?_; rotate_left
          ·intro w'; go_simp; (with_reducible rfl)
          rotate_left
          ·simp only [Act.put, sA, s0, sS, i64_w, i32_w]; rfl
          refine pure_ (i := 24) (N := some 43) (v := ?_) (a' := ?_) (rl_ true [25, 11]).toArray rfl rfl (any_of HT_.out (by kernel_rfl)) (fun _ _ _ h => h) (Or.inl ⟨by rfl, ?_⟩) ?_ ?_; rotate_left
          ·intro w'; go_simp; (with_reducible rfl)
          rotate_left
          ·simp only [Act.put, sA, s0, sS, i64_w, i32_w]; rfl
          refine pure_ (i := 25) (N := some 44) (v := undef) (a' := ?_) (rl_ true [26, 10]).toArray rfl rfl (any_of HT_.out (by kernel_rfl)) (fun _ _ _ h => h) (Or.inr ⟨by rfl, rfl⟩) ?_ ?_; rotate_left
          ·simp only [Act.put, sA, s0, sS, i64_w, i32_w]; rfl
          refine pure_ (i := 26) (N := some 45) (v := undef) (a' := ?_) (rl_ true [27, 9]).toArray rfl rfl (any_of HT_.out (by kernel_rfl)) (fun _ _ _ h => h) (Or.inr ⟨by rfl, rfl⟩) ?_ ?_; rotate_left
          ·simp only [Act.put, sA, s0, sS, i64_w, i32_w]; rfl
          refine pure_ (i := 27) (N := some 46) (v := undef) (a' := ?_) (rl_ true [28, 8]).toArray rfl rfl (any_of HT_.out (by kernel_rfl)) (fun _ _ _ h => h) (Or.inr ⟨by rfl, rfl⟩) ?_ ?_; rotate_left
          ·simp only [Act.put, sA, s0, sS, i64_w, i32_w]; rfl
          refine pure_ (i := 28) (N := some 47) (v := undef) (a' := ?_) (rl_ true [29, 7]).toArray rfl rfl (any_of HT_.out (by kernel_rfl)) (fun _ _ _ h => h) (Or.inr ⟨by rfl, rfl⟩) ?_ ?_; rotate_left
          ·simp only [Act.put, sA, s0, sS, i64_w, i32_w]; rfl
          refine pure_ (i := 29) (N := some 48) (v := undef) (a' := ?_) (rl_ true [30, 6]).toArray rfl rfl (any_of HT_.out (by kernel_rfl)) (fun _ _ _ h => h) (Or.inr ⟨by rfl, rfl⟩) ?_ ?_; rotate_left
          ·simp only [Act.put, sA, s0, sS, i64_w, i32_w]; rfl
          refine pure_ (i := 30) (N := some 49) (v := undef) (a' := ?_) (rl_ true [31, 5]).toArray rfl rfl (any_of HT_.out (by kernel_rfl)) (fun _ _ _ h => h) (Or.inr ⟨by rfl, rfl⟩) ?_ ?_; rotate_left
          ·simp only [Act.put, sA, s0, sS, i64_w, i32_w]; rfl
          refine pure_ (i := 31) (N := some 50) (v := undef) (a' := ?_) (rl_ true [32, 4]).toArray rfl rfl (any_of HT_.out (by kernel_rfl)) (fun _ _ _ h => h) (Or.inr ⟨by rfl, rfl⟩) ?_ ?_; rotate_left
          ·simp only [Act.put, sA, s0, sS, i64_w, i32_w]; rfl
          refine pure_ (i := 32) (N := some 51) (v := undef) (a' := ?_) (rl_ true [33, 3]).toArray rfl rfl (any_of HT_.out (by kernel_rfl)) (fun _ _ _ h => h) (Or.inr ⟨by rfl, rfl⟩) ?_ ?_; rotate_left
          ·simp only [Act.put, sA, s0, sS, i64_w, i32_w]; rfl
          refine pure_ (i := 33) (N := some 52) (v := undef) (a' := ?_) (rl_ true [34, 2]).toArray rfl rfl (any_of HT_.out (by kernel_rfl)) (fun _ _ _ h => h) (Or.inr ⟨by rfl, rfl⟩) ?_ ?_; rotate_left
          ·simp only [Act.put, sA, s0, sS, i64_w, i32_w]; rfl
          refine pure_ (i := 34) (N := some 53) (v := undef) (a' := ?_) (rl_ true [35, 1]).toArray rfl rfl (any_of HT_.out (by kernel_rfl)) (fun _ _ _ h => h) (Or.inr ⟨by rfl, rfl⟩) ?_ ?_; rotate_left
          ·simp only [Act.put, sA, s0, sS, i64_w, i32_w]; rfl
          refine pure_ (i := 35) (N := some 54) (v := ?_) (a' := ?_) (rl_ true [36]).toArray rfl rfl (any_of HT_.out (by kernel_rfl)) (fun _ _ _ h => h) (Or.inl ⟨by rfl, ?_⟩) ?_ ?_; rotate_left
          ·intro w'; go_simp; (with_reducible rfl)
          rotate_left
          ·simp only [Act.put, sA, s0, sS, i64_w, i32_w]; rfl
          refine done_ (done_of HT_.out (by kernel_rfl)) ?_
          try go_wp2
          go_meet
          case rel => exact ⟨_, (false), (by first | rfl | (simp; done) | (simp [*]; done)), H', ⟨by have := HK1.out; first | omega | exact Nat.le_refl _⟩, ⟨bq BK192⟩, ⟨qb HB⟩⟩
        ·rw [if_neg c12] at H; have c12b0 : (((rd_T44 l0 x14_1).f1).toList == a2.toList) = false := beq_eq_false_iff_ne.mpr c12; have c12b1 : (((rd_T44 l0 x14_1).f1).toList != a2.toList) = true := bne_iff_ne.mpr c12; by_cases c26 : ((rd_T44 l0 x14_1).f1).toList = ([] : List UInt8)
         ·rw [if_pos c26] at H; have c26b0 : (((rd_T44 l0 x14_1).f1).toList == ([] : List UInt8)) = true := beq_iff_eq.mpr c26; have c26b1 : (((rd_T44 l0 x14_1).f1).toList != ([] : List UInt8)) = false := bne_eq_false_iff_eq.mpr c26
          have c26b2 : ((rd_T44 l0 x14_1).f1).toList.isEmpty = true := by first | (rw [c26]; rfl) | (simpa using c26)
          clear c26; replace H := Option.bind_eq_some_iff.mp H; obtain ⟨t196, A270, H⟩ := H; replace H : (if t196 = true then (if x9_1 < 0 then (impl_rowAt.j1 k1 l0 a1 a2 a3 x9_1 x14_1 l0 (l0.length : Int) x14_1 true) else (if 0 ≤ x9_1 then (if x9_1 < (l0.length : Int) then ((impl_isFirmer.f ((rd_T44 l0 x14_1).f0) ((rd_T44 l0 x14_1).f1) ((rd_T44 l0 x14_1).f2) ((rd_T44 l0 x14_1).f3) ((rd_T44 l0 x14_1).f4) ((rd_T44 l0 x14_1).f5) ((rd_T44 l0 x9_1).f0) ((rd_T44 l0 x9_1).f1) ((rd_T44 l0 x9_1).f2) ((rd_T44 l0 x9_1).f3) ((rd_T44 l0 x9_1).f4) ((rd_T44 l0 x9_1).f5)).bind fun t198 => (impl_rowAt.j1 k1 l0 a1 a2 a3 x9_1 x14_1 l0 (l0.length : Int) x14_1 t198)) else (none)) else (none))) else (impl_rowAt.j1 k1 l0 a1 a2 a3 x9_1 x14_1 l0 (l0.length : Int) x14_1 false)) = some r := H; have A27 := Aside0.mk A270; clear A270; by_cases c28 : t196 = true
          ·subst c28
           have H1 : (if x9_1 < 0 then (impl_rowAt.j1 k1 l0 a1 a2 a3 x9_1 x14_1 l0 (l0.length : Int) x14_1 true) else (if 0 ≤ x9_1 then (if x9_1 < (l0.length : Int) then ((impl_isFirmer.f ((rd_T44 l0 x14_1).f0) ((rd_T44 l0 x14_1).f1) ((rd_T44 l0 x14_1).f2) ((rd_T44 l0 x14_1).f3) ((rd_T44 l0 x14_1).f4) ((rd_T44 l0 x14_1).f5) ((rd_T44 l0 x9_1).f0) ((rd_T44 l0 x9_1).f1) ((rd_T44 l0 x9_1).f2) ((rd_T44 l0 x9_1).f3) ((rd_T44 l0 x9_1).f4) ((rd_T44 l0 x9_1).f5)).bind fun t198 => (impl_rowAt.j1 k1 l0 a1 a2 a3 x9_1 x14_1 l0 (l0.length : Int) x14_1 t198)) else (none)) else (none))) = some r := by rw [if_pos rfl] at H; exact H
           clear H; have H := H1; clear H1; by_cases c29 : x9_1 < 0
           ·rw [if_pos c29] at H; have c29b0 : decide (x9_1 < 0) = true := decide_eq_true c29; clear c29; have H' := Aside0.mk H; clear H
            try go_wp2
            have n0_ : Aside0 (((((((w9.setCell ⟨gb192, 0, none⟩ (.string ((rd_T44 l0 x14_1).f0))).setCell ⟨gb192, 1, none⟩ (.string ((rd_T44 l0 x14_1).f1))).setCell ⟨gb192, 2, none⟩ (.int .i64 ((rd_T44 l0 x14_1).f2))).setCell ⟨gb192, 3, none⟩ (.int .i64 ((rd_T44 l0 x14_1).f3))).setCell ⟨gb192, 4, none⟩ (.int .i64 ((rd_T44 l0 x14_1).f4))).setCell ⟨gb192, 5, none⟩ (.int .i64 ((rd_T44 l0 x14_1).f5))).heap[gb192]? = some (.cells #[.string ((rd_T44 l0 x14_1).f0), .string ((rd_T44 l0 x14_1).f1), .int .i64 ((rd_T44 l0 x14_1).f2), .int .i64 ((rd_T44 l0 x14_1).f3), .int .i64 ((rd_T44 l0 x14_1).f4), .int .i64 ((rd_T44 l0 x14_1).f5)] 44 (0, 0))) := ⟨by (with_reducible repeat (first | refine blk_drewN ?_ _ | refine blk_drew ?_ | refine blk_alloc ?_ _)); refine blk_put (cs := #[.string ((rd_T44 l0 x14_1).f0), .string ((rd_T44 l0 x14_1).f1), .int .i64 ((rd_T44 l0 x14_1).f2), .int .i64 ((rd_T44 l0 x14_1).f3), .int .i64 ((rd_T44 l0 x14_1).f4), .int .i64 0]) ?_ 5 _ rfl; (with_reducible repeat (first | refine blk_drewN ?_ _ | refine blk_drew ?_ | refine blk_alloc ?_ _)); refine blk_put (cs := #[.string ((rd_T44 l0 x14_1).f0), .string ((rd_T44 l0 x14_1).f1), .int .i64 ((rd_T44 l0 x14_1).f2), .int .i64 ((rd_T44 l0 x14_1).f3), .int .i64 0, .int .i64 0]) ?_ 4 _ rfl; (with_reducible repeat (first | refine blk_drewN ?_ _ | refine blk_drew ?_ | refine blk_alloc ?_ _)); refine blk_put (cs := #[.string ((rd_T44 l0 x14_1).f0), .string ((rd_T44 l0 x14_1).f1), .int .i64 ((rd_T44 l0 x14_1).f2), .int .i64 0, .int .i64 0, .int .i64 0]) ?_ 3 _ rfl; (with_reducible repeat (first | refine blk_drewN ?_ _ | refine blk_drew ?_ | refine blk_alloc ?_ _)); refine blk_put (cs := #[.string ((rd_T44 l0 x14_1).f0), .string ((rd_T44 l0 x14_1).f1), .int .i64 0, .int .i64 0, .int .i64 0, .int .i64 0]) ?_ 2 _ rfl; (with_reducible repeat (first | refine blk_drewN ?_ _ | refine blk_drew ?_ | refine blk_alloc ?_ _)); refine blk_put (cs := #[.string ((rd_T44 l0 x14_1).f0), .string (⟨#[]⟩ : ByteArray), .int .i64 0, .int .i64 0, .int .i64 0, .int .i64 0]) ?_ 1 _ rfl; (with_reducible repeat (first | refine blk_drewN ?_ _ | refine blk_drew ?_ | refine blk_alloc ?_ _)); refine blk_put (cs := #[.string (⟨#[]⟩ : ByteArray), .string (⟨#[]⟩ : ByteArray), .int .i64 0, .int .i64 0, .int .i64 0, .int .i64 0]) ?_ 0 _ rfl; (with_reducible repeat (first | refine blk_drewN ?_ _ | refine blk_drew ?_ | refine blk_alloc ?_ _)); exact BK192.out⟩; have n1_ : Aside0 (Below w.heap.size w ((((((w9.setCell ⟨gb192, 0, none⟩ (.string ((rd_T44 l0 x14_1).f0))).setCell ⟨gb192, 1, none⟩ (.string ((rd_T44 l0 x14_1).f1))).setCell ⟨gb192, 2, none⟩ (.int .i64 ((rd_T44 l0 x14_1).f2))).setCell ⟨gb192, 3, none⟩ (.int .i64 ((rd_T44 l0 x14_1).f3))).setCell ⟨gb192, 4, none⟩ (.int .i64 ((rd_T44 l0 x14_1).f4))).setCell ⟨gb192, 5, none⟩ (.int .i64 ((rd_T44 l0 x14_1).f5)))) := ⟨qb HB⟩; (try clear BK192); (try clear HB); generalize ((((((w9.setCell ⟨gb192, 0, none⟩ (.string ((rd_T44 l0 x14_1).f0))).setCell ⟨gb192, 1, none⟩ (.string ((rd_T44 l0 x14_1).f1))).setCell ⟨gb192, 2, none⟩ (.int .i64 ((rd_T44 l0 x14_1).f2))).setCell ⟨gb192, 3, none⟩ (.int .i64 ((rd_T44 l0 x14_1).f3))).setCell ⟨gb192, 4, none⟩ (.int .i64 ((rd_T44 l0 x14_1).f4))).setCell ⟨gb192, 5, none⟩ (.int .i64 ((rd_T44 l0 x14_1).f5))) = w30 at n0_ n1_ ⊢; have BK192 := n0_; have HB := n1_; clear n0_ n1_; have n0_ := Aside0.mk (blk_drew BK192.out); have n1_ := Aside0.mk (below_drew1 HB.out); clear BK192; clear HB; have BK192 := n0_; have HB := n1_; clear n0_ n1_; refine start_ (n := 36) (S := fun w' => w'.cell? ⟨gb192, 0, none⟩ = some (.string ((rd_T44 l0 x14_1).f0)) ∧ w'.cell? ⟨gb192, 1, none⟩ = some (.string ((rd_T44 l0 x14_1).f1)) ∧ w'.cell? ⟨gb192, 2, none⟩ = some (.int .i64 ((rd_T44 l0 x14_1).f2)) ∧ w'.cell? ⟨gb192, 3, none⟩ = some (.int .i64 ((rd_T44 l0 x14_1).f3)) ∧ w'.cell? ⟨gb192, 4, none⟩ = some (.int .i64 ((rd_T44 l0 x14_1).f4)) ∧ w'.cell? ⟨gb192, 5, none⟩ = some (.int .i64 ((rd_T44 l0 x14_1).f5))) (ds := []) (rl_ true [0, 36]).toArray (by kernel_rfl) rfl rfl ⟨(blk_cell BK192.out 0).trans rfl, (blk_cell BK192.out 1).trans rfl, (blk_cell BK192.out 2).trans rfl, (blk_cell BK192.out 3).trans rfl, (blk_cell BK192.out 4).trans rfl, (blk_cell BK192.out 5).trans rfl⟩ (fun hHeld => ?_); refine with_tabW impl_rowAt.tab5 impl_rowAt.bits5 (fun HT_ HW_ => ?_); generalize w30.drew = w31 at BK192 HB hHeld ⊢; refine pure_ (i := 0) (N := some 19) (v := ?_) (a' := ?_) (rl_ true [1, 35]).toArray rfl rfl (any_of HT_.out (by kernel_rfl)) (fun _ _ _ h => h) (Or.inl ⟨by rfl, ?_⟩) ?_ ?_; rotate_left
            ·intro w'; go_simp; (with_reducible rfl)
            rotate_left
            ·simp only [Act.put, sA, s0, sS, i64_w, i32_w]; rfl
            refine pure_ (i := 2) (N := some 21) (v := ?_) (a' := ?_) (rl_ true [1, 1, 1, 33]).toArray rfl rfl (any_of HT_.out (by kernel_rfl)) (fun _ _ _ h => h) (Or.inl ⟨by rfl, ?_⟩) ?_ ?_; rotate_left
            ·intro w'; go_simp; (with_reducible rfl)
            rotate_left
            ·simp only [Act.put, sA, s0, sS, i64_w, i32_w]; rfl
            refine take_ (i := 1) (N := some 20) (v := ?_) (a' := ?_) (rl_ true [3, 33]).toArray rfl rfl (take_ofW HT_.out HW_.out (by kernel_rfl)) (fun _ _ _ h => h) (Or.inl ⟨by rfl, ?_⟩) hHeld ?_ ?_; rotate_left
            ·rintro w' ⟨s0, s1, s2, s3, s4, s5⟩; go_simp; (with_reducible rfl)
            rotate_left
            ·simp only [Act.put, sA, s0, sS, i64_w, i32_w]; rfl
            refine pure_ (i := 3) (N := some 22) (v := ?_) (a' := ?_) (rl_ true [4, 32]).toArray rfl rfl (any_of HT_.out (by kernel_rfl)) (fun _ _ _ h => h) (Or.inl ⟨by rfl, ?_⟩) ?_ ?_; rotate_left
            ·intro w'; go_simp; (with_reducible rfl)
            rotate_left
            ·simp only [Act.put, sA, s0, sS, i64_w, i32_w]; rfl
            refine pure_ (i := 4) (N := some 23) (v := ?_) (a' := ?_) (rl_ true [5, 31]).toArray rfl rfl (any_of HT_.out (by kernel_rfl)) (fun _ _ _ h => h) (Or.inl ⟨by rfl, ?_⟩) ?_ ?_; rotate_left
            ·intro w'; go_simp; (with_reducible rfl)
            rotate_left
            ·simp only [Act.put, sA, s0, sS, i64_w, i32_w]; rfl
            refine pure_ (i := 5) (N := some 24) (v := ?_) (a' := ?_) (rl_ true [6, 30]).toArray rfl rfl (any_of HT_.out (by kernel_rfl)) (fun _ _ _ h => h) (Or.inl ⟨by rfl, ?_⟩) ?_ ?_; rotate_left
            ·intro w'; go_simp; (with_reducible rfl)
            rotate_left
            ·simp only [Act.put, sA, s0, sS, i64_w, i32_w]; rfl
            refine pure_ (i := 7) (N := some 26) (v := ?_) (a' := ?_) (rl_ true [6, 1, 1, 28]).toArray rfl rfl (any_of HT_.out (by kernel_rfl)) (fun _ _ _ h => h) (Or.inl ⟨by rfl, ?_⟩) ?_ ?_; rotate_left
            ·intro w'; go_simp; (with_reducible rfl)
            rotate_left
            ·simp only [Act.put, sA, s0, sS, i64_w, i32_w]; rfl
            refine take_ (i := 6) (N := some 25) (v := ?_) (a' := ?_) (rl_ true [8, 28]).toArray rfl rfl (take_ofW HT_.out HW_.out (by kernel_rfl)) (fun _ _ _ h => h) (Or.inl ⟨by rfl, ?_⟩) hHeld ?_ ?_; rotate_left
            ·rintro w' ⟨s0, s1, s2, s3, s4, s5⟩; go_simp; (with_reducible rfl)
            rotate_left
            ·simp only [Act.put, sA, s0, sS, i64_w, i32_w]; rfl
            refine pure_ (i := 8) (N := some 27) (v := ?_) (a' := ?_) (rl_ true [9, 27]).toArray rfl rfl (any_of HT_.out (by kernel_rfl)) (fun _ _ _ h => h) (Or.inl ⟨by rfl, ?_⟩) ?_ ?_; rotate_left
            ·intro w'; go_simp; (with_reducible rfl)
            rotate_left
            ·simp only [Act.put, sA, s0, sS, i64_w, i32_w]; rfl
            refine pure_ (i := 9) (N := some 28) (v := ?_) (a' := ?_) (rl_ true [10, 26]).toArray rfl rfl (any_of HT_.out (by kernel_rfl)) (fun _ _ _ h => h) (Or.inl ⟨by rfl, ?_⟩) ?_ ?_; rotate_left
            ·intro w'; go_simp; (with_reducible rfl)
            rotate_left
            ·simp only [Act.put, sA, s0, sS, i64_w, i32_w]; rfl
            refine pure_ (i := 10) (N := some 29) (v := ?_) (a' := ?_) (rl_ true [11, 25]).toArray rfl rfl (any_of HT_.out (by kernel_rfl)) (fun _ _ _ h => h) (Or.inl ⟨by rfl, ?_⟩) ?_ ?_; rotate_left
            ·intro w'; go_simp; (with_reducible rfl)
            rotate_left
            ·simp only [Act.put, sA, s0, sS, i64_w, i32_w]; rfl
            refine take_ (i := 11) (N := some 30) (v := ?_) (a' := ?_) (rl_ true [12, 24]).toArray rfl rfl (take_ofW HT_.out HW_.out (by kernel_rfl)) (fun _ _ _ h => h) (Or.inl ⟨by rfl, ?_⟩) hHeld ?_ ?_; rotate_left
            ·rintro w' ⟨s0, s1, s2, s3, s4, s5⟩; go_simp; (with_reducible rfl)
            rotate_left
            ·simp only [Act.put, sA, s0, sS, i64_w, i32_w]; rfl
            refine pure_ (i := 12) (N := some 31) (v := ?_) (a' := ?_) (rl_ true [13, 23]).toArray rfl rfl (any_of HT_.out (by kernel_rfl)) (fun _ _ _ h => h) (Or.inl ⟨by rfl, ?_⟩) ?_ ?_; rotate_left
            ·intro w'; go_simp; (with_reducible rfl)
            rotate_left
            ·simp only [Act.put, sA, s0, sS, i64_w, i32_w]; rfl
            refine pure_ (i := 13) (N := some 32) (v := ?_) (a' := ?_) (rl_ true [14, 22]).toArray rfl rfl (any_of HT_.out (by kernel_rfl)) (fun _ _ _ h => h) (Or.inl ⟨by rfl, ?_⟩) ?_ ?_; rotate_left
            ·intro w'; go_simp; (with_reducible rfl)
            rotate_left
            ·simp only [Act.put, sA, s0, sS, i64_w, i32_w]; rfl
            refine pure_ (i := 14) (N := some 33) (v := ?_) (a' := ?_) (rl_ true [15, 21]).toArray rfl rfl (any_of HT_.out (by kernel_rfl)) (fun _ _ _ h => h) (Or.inl ⟨by rfl, ?_⟩) ?_ ?_; rotate_left
            ·intro w'; go_simp; (with_reducible rfl)
            rotate_left
            ·simp only [Act.put, sA, s0, sS, i64_w, i32_w]; rfl
            refine pure_ (i := 15) (N := some 34) (v := ?_) (a' := ?_) (rl_ true [16, 20]).toArray rfl rfl (any_of HT_.out (by kernel_rfl)) (fun _ _ _ h => h) (Or.inl ⟨by rfl, ?_⟩) ?_ ?_; rotate_left
            ·intro w'; go_simp; (with_reducible rfl)
            rotate_left
            ·simp only [Act.put, sA, s0, sS, i64_w, i32_w]; rfl
            refine pure_ (i := 16) (N := some 35) (v := ?_) (a' := ?_) (rl_ true [17, 19]).toArray rfl rfl (any_of HT_.out (by kernel_rfl)) (fun _ _ _ h => h) (Or.inl ⟨by rfl, ?_⟩) ?_ ?_; rotate_left
            ·intro w'; go_simp; (with_reducible rfl)
            rotate_left
            ·simp only [Act.put, sA, s0, sS, i64_w, i32_w]; rfl
            refine pure_ (i := 17) (N := some 36) (v := ?_) (a' := ?_) (rl_ true [18, 18]).toArray rfl rfl (any_of HT_.out (by kernel_rfl)) (fun _ _ _ h => h) (Or.inl ⟨by rfl, ?_⟩) ?_ ?_; rotate_left
            ·intro w'; go_simp; (with_reducible rfl)
            rotate_left
            ·simp only [Act.put, sA, s0, sS, i64_w, i32_w]; rfl
            refine pure_ (i := 19) (N := some 38) (v := ?_) (a' := ?_) (rl_ true [18, 1, 1, 16]).toArray rfl rfl (any_of HT_.out (by kernel_rfl)) (fun _ _ _ h => h) (Or.inl ⟨by rfl, ?_⟩) ?_ ?_; rotate_left
            ·intro w'; go_simp; (with_reducible rfl)
            rotate_left
            ·simp only [Act.put, sA, s0, sS, i64_w, i32_w]; rfl
            refine take_ (i := 18) (N := some 37) (v := ?_) (a' := ?_) (rl_ true [20, 16]).toArray rfl rfl (take_ofW HT_.out HW_.out (by kernel_rfl)) (fun _ _ _ h => h) (Or.inl ⟨by rfl, ?_⟩) hHeld ?_ ?_; rotate_left
            ·rintro w' ⟨s0, s1, s2, s3, s4, s5⟩; go_simp; (with_reducible rfl)
            rotate_left
            ·simp only [Act.put, sA, s0, sS, i64_w, i32_w]; rfl
            refine take_ (i := 20) (N := some 39) (v := ?_) (a' := ?_) (rl_ true [21, 15]).toArray rfl rfl (take_ofW HT_.out HW_.out (by kernel_rfl)) (fun _ _ _ h => h) (Or.inl ⟨by rfl, ?_⟩) hHeld ?_ ?_; rotate_left
            ·rintro w' ⟨s0, s1, s2, s3, s4, s5⟩; go_simp; (with_reducible rfl)
            rotate_left
            ·simp only [Act.put, sA, s0, sS, i64_w, i32_w]; rfl
            refine pure_ (i := 21) (N := some 40) (v := ?_) (a' := ?_) (rl_ true [22, 14]).toArray rfl rfl (any_of HT_.out (by kernel_rfl)) (fun _ _ _ h => h) (Or.inl ⟨by rfl, ?_⟩) ?_ ?_; rotate_left
            ·intro w'; go_simp; (with_reducible rfl)
            rotate_left
            ·simp only [Act.put, sA, s0, sS, i64_w, i32_w]; rfl
            refine one_ (i := 22) (N := some 41) (rl_ true [23, 13]).toArray rfl rfl (one_of HT_.out (by kernel_rfl)) (by decide) (fun K hK => ?_); refine goes_ Try.func44 (by kernel_rfl) rfl #[.int .i64 a3, .int .i64 ((rd_T44 l0 x14_1).f3), .int .i64 (wrap64 (((rd_T44 l0 x14_1).f4) - 1))] (by rfl) rfl rfl mq ?_; (with_reducible refine (impl_within.calls a3 ((rd_T44 l0 x14_1).f3) (wrap64 (((rd_T44 l0 x14_1).f4) - 1)) true _ A27.out).mono ?_); rintro e w' ⟨rfl, ⟨nd, rfl⟩⟩; refine ⟨_, rfl, ?_⟩; refine hK.out _ _ ⟨(blk_cell BK192.out 0).trans rfl, (blk_cell BK192.out 1).trans rfl, (blk_cell BK192.out 2).trans rfl, (blk_cell BK192.out 3).trans rfl, (blk_cell BK192.out 4).trans rfl, (blk_cell BK192.out 5).trans rfl⟩ (fun hHeld => ?_); clear hK K; refine norm_ (a' := ?_) ?_ ?_; rotate_left
            ·show Act.put _ (some 41) _ = _; simp only [Act.put, sA, s0, sS, i64_w, i32_w]; rfl
            refine pure_ (i := 23) (N := some 42) (v := ?_) (a' := ?_) (rl_ true [24, 12]).toArray rfl rfl (any_of HT_.out (by kernel_rfl)) (fun _ _ _ h => h) (Or.inl ⟨by rfl, ?_⟩) ?_ ?_; rotate_left
            ·intro w'; go_simp; (with_reducible rfl)
            rotate_left
            ·simp only [Act.put, sA, s0, sS, i64_w, i32_w]; rfl
            refine pure_ (i := 24) (N := some 43) (v := ?_) (a' := ?_) (rl_ true [25, 11]).toArray rfl rfl (any_of HT_.out (by kernel_rfl)) (fun _ _ _ h => h) (Or.inl ⟨by rfl, ?_⟩) ?_ ?_; rotate_left
            ·intro w'; go_simp; (with_reducible rfl)
            rotate_left
            ·simp only [Act.put, sA, s0, sS, i64_w, i32_w]; rfl
            refine pure_ (i := 25) (N := some 44) (v := ?_) (a' := ?_) (rl_ true [26, 10]).toArray rfl rfl (any_of HT_.out (by kernel_rfl)) (fun _ _ _ h => h) (Or.inl ⟨by rfl, ?_⟩) ?_ ?_; rotate_left
            ·intro w'; go_simp; (with_reducible rfl)
            rotate_left
            ·simp only [Act.put, sA, s0, sS, i64_w, i32_w]; rfl
            refine pure_ (i := 26) (N := some 45) (v := ?_) (a' := ?_) (rl_ true [27, 9]).toArray rfl rfl (any_of HT_.out (by kernel_rfl)) (fun _ _ _ h => h) (Or.inl ⟨by rfl, ?_⟩) ?_ ?_; rotate_left
            ·intro w'; go_simp; (with_reducible rfl)
            rotate_left
            ·simp only [Act.put, sA, s0, sS, i64_w, i32_w]; rfl
            refine pure_ (i := 27) (N := some 46) (v := ?_) (a' := ?_) (rl_ true [28, 8]).toArray rfl rfl (any_of HT_.out (by kernel_rfl)) (fun _ _ _ h => h) (Or.inl ⟨by rfl, ?_⟩) ?_ ?_; rotate_left
            ·intro w'; go_simp; (with_reducible rfl)
            rotate_left
            ·simp only [Act.put, sA, s0, sS, i64_w, i32_w]; rfl
            refine pure_ (i := 28) (N := some 47) (v := undef) (a' := ?_) (rl_ true [29, 7]).toArray rfl rfl (any_of HT_.out (by kernel_rfl)) (fun _ _ _ h => h) (Or.inr ⟨by rfl, rfl⟩) ?_ ?_; rotate_left
            ·simp only [Act.put, sA, s0, sS, i64_w, i32_w]; rfl
            refine pure_ (i := 29) (N := some 48) (v := undef) (a' := ?_) (rl_ true [30, 6]).toArray rfl rfl (any_of HT_.out (by kernel_rfl)) (fun _ _ _ h => h) (Or.inr ⟨by rfl, rfl⟩) ?_ ?_; rotate_left
            ·simp only [Act.put, sA, s0, sS, i64_w, i32_w]; rfl
            refine pure_ (i := 30) (N := some 49) (v := undef) (a' := ?_) (rl_ true [31, 5]).toArray rfl rfl (any_of HT_.out (by kernel_rfl)) (fun _ _ _ h => h) (Or.inr ⟨by rfl, rfl⟩) ?_ ?_; rotate_left
            ·simp only [Act.put, sA, s0, sS, i64_w, i32_w]; rfl
            refine pure_ (i := 31) (N := some 50) (v := undef) (a' := ?_) (rl_ true [32, 4]).toArray rfl rfl (any_of HT_.out (by kernel_rfl)) (fun _ _ _ h => h) (Or.inr ⟨by rfl, rfl⟩) ?_ ?_; rotate_left
            ·simp only [Act.put, sA, s0, sS, i64_w, i32_w]; rfl
            refine pure_ (i := 32) (N := some 51) (v := undef) (a' := ?_) (rl_ true [33, 3]).toArray rfl rfl (any_of HT_.out (by kernel_rfl)) (fun _ _ _ h => h) (Or.inr ⟨by rfl, rfl⟩) ?_ ?_; rotate_left
            ·simp only [Act.put, sA, s0, sS, i64_w, i32_w]; rfl
            refine pure_ (i := 33) (N := some 52) (v := undef) (a' := ?_) (rl_ true [34, 2]).toArray rfl rfl (any_of HT_.out (by kernel_rfl)) (fun _ _ _ h => h) (Or.inr ⟨by rfl, rfl⟩) ?_ ?_; rotate_left
            ·simp only [Act.put, sA, s0, sS, i64_w, i32_w]; rfl
            refine pure_ (i := 34) (N := some 53) (v := ?_) (a' := ?_) (rl_ true [35, 1]).toArray rfl rfl (any_of HT_.out (by kernel_rfl)) (fun _ _ _ h => h) (Or.inl ⟨by rfl, ?_⟩) ?_ ?_; rotate_left
            ·intro w'; go_simp; (with_reducible rfl)
            rotate_left
            ·simp only [Act.put, sA, s0, sS, i64_w, i32_w]; rfl
            refine pure_ (i := 35) (N := some 54) (v := ?_) (a' := ?_) (rl_ true [36]).toArray rfl rfl (any_of HT_.out (by kernel_rfl)) (fun _ _ _ h => h) (Or.inl ⟨by rfl, ?_⟩) ?_ ?_; rotate_left
            ·intro w'; go_simp; (with_reducible rfl)
            rotate_left
            ·simp only [Act.put, sA, s0, sS, i64_w, i32_w]; rfl
            refine done_ (done_of HT_.out (by kernel_rfl)) ?_
            try go_wp2
            go_meet
            case rel => exact ⟨_, (true), (by first | rfl | (simp; done) | (simp [*]; done)), H', ⟨by have := HK1.out; first | omega | exact Nat.le_refl _⟩, ⟨bq BK192⟩, ⟨qb HB⟩⟩
           ·rw [if_neg c29] at H; have c29b0 : decide (x9_1 < 0) = false := decide_eq_false c29; clear c29; by_cases c32 : 0 ≤ x9_1
            ·rw [if_pos c32] at H; have c32b0 : decide (0 ≤ x9_1) = true := decide_eq_true c32; clear c32; by_cases c33 : x9_1 < (l0.length : Int)
             ·rw [if_pos c33] at H; have c33b0 : decide (x9_1 < (l0.length : Int)) = true := decide_eq_true c33; clear c33; replace H := Option.bind_eq_some_iff.mp H; obtain ⟨t198, A340, H⟩ := H; replace H : (impl_rowAt.j1 k1 l0 a1 a2 a3 x9_1 x14_1 l0 (l0.length : Int) x14_1 t198) = some r := H; have A34 := Aside0.mk A340; clear A340; have H' := Aside0.mk H; clear H
              try go_wp2
              have n0_ : Aside0 (((((((w9.setCell ⟨gb192, 0, none⟩ (.string ((rd_T44 l0 x14_1).f0))).setCell ⟨gb192, 1, none⟩ (.string ((rd_T44 l0 x14_1).f1))).setCell ⟨gb192, 2, none⟩ (.int .i64 ((rd_T44 l0 x14_1).f2))).setCell ⟨gb192, 3, none⟩ (.int .i64 ((rd_T44 l0 x14_1).f3))).setCell ⟨gb192, 4, none⟩ (.int .i64 ((rd_T44 l0 x14_1).f4))).setCell ⟨gb192, 5, none⟩ (.int .i64 ((rd_T44 l0 x14_1).f5))).heap[gb192]? = some (.cells #[.string ((rd_T44 l0 x14_1).f0), .string ((rd_T44 l0 x14_1).f1), .int .i64 ((rd_T44 l0 x14_1).f2), .int .i64 ((rd_T44 l0 x14_1).f3), .int .i64 ((rd_T44 l0 x14_1).f4), .int .i64 ((rd_T44 l0 x14_1).f5)] 44 (0, 0))) := ⟨by (with_reducible repeat (first | refine blk_drewN ?_ _ | refine blk_drew ?_ | refine blk_alloc ?_ _)); refine blk_put (cs := #[.string ((rd_T44 l0 x14_1).f0), .string ((rd_T44 l0 x14_1).f1), .int .i64 ((rd_T44 l0 x14_1).f2), .int .i64 ((rd_T44 l0 x14_1).f3), .int .i64 ((rd_T44 l0 x14_1).f4), .int .i64 0]) ?_ 5 _ rfl; (with_reducible repeat (first | refine blk_drewN ?_ _ | refine blk_drew ?_ | refine blk_alloc ?_ _)); refine blk_put (cs := #[.string ((rd_T44 l0 x14_1).f0), .string ((rd_T44 l0 x14_1).f1), .int .i64 ((rd_T44 l0 x14_1).f2), .int .i64 ((rd_T44 l0 x14_1).f3), .int .i64 0, .int .i64 0]) ?_ 4 _ rfl; (with_reducible repeat (first | refine blk_drewN ?_ _ | refine blk_drew ?_ | refine blk_alloc ?_ _)); refine blk_put (cs := #[.string ((rd_T44 l0 x14_1).f0), .string ((rd_T44 l0 x14_1).f1), .int .i64 ((rd_T44 l0 x14_1).f2), .int .i64 0, .int .i64 0, .int .i64 0]) ?_ 3 _ rfl; (with_reducible repeat (first | refine blk_drewN ?_ _ | refine blk_drew ?_ | refine blk_alloc ?_ _)); refine blk_put (cs := #[.string ((rd_T44 l0 x14_1).f0), .string ((rd_T44 l0 x14_1).f1), .int .i64 0, .int .i64 0, .int .i64 0, .int .i64 0]) ?_ 2 _ rfl; (with_reducible repeat (first | refine blk_drewN ?_ _ | refine blk_drew ?_ | refine blk_alloc ?_ _)); refine blk_put (cs := #[.string ((rd_T44 l0 x14_1).f0), .string (⟨#[]⟩ : ByteArray), .int .i64 0, .int .i64 0, .int .i64 0, .int .i64 0]) ?_ 1 _ rfl; (with_reducible repeat (first | refine blk_drewN ?_ _ | refine blk_drew ?_ | refine blk_alloc ?_ _)); refine blk_put (cs := #[.string (⟨#[]⟩ : ByteArray), .string (⟨#[]⟩ : ByteArray), .int .i64 0, .int .i64 0, .int .i64 0, .int .i64 0]) ?_ 0 _ rfl; (with_reducible repeat (first | refine blk_drewN ?_ _ | refine blk_drew ?_ | refine blk_alloc ?_ _)); exact BK192.out⟩; have n1_ : Aside0 (Below w.heap.size w ((((((w9.setCell ⟨gb192, 0, none⟩ (.string ((rd_T44 l0 x14_1).f0))).setCell ⟨gb192, 1, none⟩ (.string ((rd_T44 l0 x14_1).f1))).setCell ⟨gb192, 2, none⟩ (.int .i64 ((rd_T44 l0 x14_1).f2))).setCell ⟨gb192, 3, none⟩ (.int .i64 ((rd_T44 l0 x14_1).f3))).setCell ⟨gb192, 4, none⟩ (.int .i64 ((rd_T44 l0 x14_1).f4))).setCell ⟨gb192, 5, none⟩ (.int .i64 ((rd_T44 l0 x14_1).f5)))) := ⟨qb HB⟩; (try clear BK192); (try clear HB); generalize ((((((w9.setCell ⟨gb192, 0, none⟩ (.string ((rd_T44 l0 x14_1).f0))).setCell ⟨gb192, 1, none⟩ (.string ((rd_T44 l0 x14_1).f1))).setCell ⟨gb192, 2, none⟩ (.int .i64 ((rd_T44 l0 x14_1).f2))).setCell ⟨gb192, 3, none⟩ (.int .i64 ((rd_T44 l0 x14_1).f3))).setCell ⟨gb192, 4, none⟩ (.int .i64 ((rd_T44 l0 x14_1).f4))).setCell ⟨gb192, 5, none⟩ (.int .i64 ((rd_T44 l0 x14_1).f5))) = w35 at n0_ n1_ ⊢; have BK192 := n0_; have HB := n1_; clear n0_ n1_; have n0_ := Aside0.mk (blk_drew BK192.out); have n1_ := Aside0.mk (below_drew1 HB.out); clear BK192; clear HB; have BK192 := n0_; have HB := n1_; clear n0_ n1_; have p197 : 0 ≤ (x9_1 : Int) := of_decide_eq_true (by first | (with_reducible assumption) | assumption); have q197 : x9_1 < (l0.length : Int) := of_decide_eq_true (by first | (with_reducible assumption) | assumption); obtain ⟨ad197, e197, hx197_0, hx197_1, hx197_2, hx197_3, hx197_4, hx197_5⟩ := at_T44 HR0.out x9_1 p197 q197; have hw197_5 := hx197_5; have hw197_4 := hx197_4; have hw197_3 := hx197_3; have hw197_2 := hx197_2; have hw197_1 := hx197_1; have hw197_0 := hx197_0; obtain rfl : ad191 = ad197 := (by injection e197); replace hx197_0 := (HB.out.cell (World.block_lt_of_cell? w _ hx197_0)).trans hx197_0; replace hx197_1 := (HB.out.cell (World.block_lt_of_cell? w _ hx197_1)).trans hx197_1; replace hx197_2 := (HB.out.cell (World.block_lt_of_cell? w _ hx197_2)).trans hx197_2; replace hx197_3 := (HB.out.cell (World.block_lt_of_cell? w _ hx197_3)).trans hx197_3; replace hx197_4 := (HB.out.cell (World.block_lt_of_cell? w _ hx197_4)).trans hx197_4; replace hx197_5 := (HB.out.cell (World.block_lt_of_cell? w _ hx197_5)).trans hx197_5; replace p197 := eq_true p197; replace q197 := eq_true q197; refine start_ (n := 36) (S := fun w' => w'.cell? ⟨gb192, 0, none⟩ = some (.string ((rd_T44 l0 x14_1).f0)) ∧ w'.cell? ⟨gb192, 1, none⟩ = some (.string ((rd_T44 l0 x14_1).f1)) ∧ w'.cell? ⟨gb192, 2, none⟩ = some (.int .i64 ((rd_T44 l0 x14_1).f2)) ∧ w'.cell? ⟨gb192, 3, none⟩ = some (.int .i64 ((rd_T44 l0 x14_1).f3)) ∧ w'.cell? ⟨gb192, 4, none⟩ = some (.int .i64 ((rd_T44 l0 x14_1).f4)) ∧ w'.cell? ⟨gb192, 5, none⟩ = some (.int .i64 ((rd_T44 l0 x14_1).f5)) ∧ w'.cell? (ad191.add ((x9_1).toNat * 6)) = some (.string ((rd_T44 l0 x9_1).f0)) ∧ w'.cell? ⟨(ad191.add ((x9_1).toNat * 6)).block, (ad191.add ((x9_1).toNat * 6)).off + 1, none⟩ = some (.string ((rd_T44 l0 x9_1).f1)) ∧ w'.cell? ⟨(ad191.add ((x9_1).toNat * 6)).block, (ad191.add ((x9_1).toNat * 6)).off + 2, none⟩ = some (.int .i64 ((rd_T44 l0 x9_1).f2)) ∧ w'.cell? ⟨(ad191.add ((x9_1).toNat * 6)).block, (ad191.add ((x9_1).toNat * 6)).off + 3, none⟩ = some (.int .i64 ((rd_T44 l0 x9_1).f3)) ∧ w'.cell? ⟨(ad191.add ((x9_1).toNat * 6)).block, (ad191.add ((x9_1).toNat * 6)).off + 4, none⟩ = some (.int .i64 ((rd_T44 l0 x9_1).f4)) ∧ w'.cell? ⟨(ad191.add ((x9_1).toNat * 6)).block, (ad191.add ((x9_1).toNat * 6)).off + 5, none⟩ = some (.int .i64 ((rd_T44 l0 x9_1).f5))) (ds := []) (rl_ true [0, 36]).toArray (by kernel_rfl) rfl rfl ⟨(blk_cell BK192.out 0).trans rfl, (blk_cell BK192.out 1).trans rfl, (blk_cell BK192.out 2).trans rfl, (blk_cell BK192.out 3).trans rfl, (blk_cell BK192.out 4).trans rfl, (blk_cell BK192.out 5).trans rfl, ((HB.out.cell (World.block_lt_of_cell? w _ hw197_0)).trans hw197_0), ((HB.out.cell (World.block_lt_of_cell? w _ hw197_1)).trans hw197_1), ((HB.out.cell (World.block_lt_of_cell? w _ hw197_2)).trans hw197_2), ((HB.out.cell (World.block_lt_of_cell? w _ hw197_3)).trans hw197_3), ((HB.out.cell (World.block_lt_of_cell? w _ hw197_4)).trans hw197_4), ((HB.out.cell (World.block_lt_of_cell? w _ hw197_5)).trans hw197_5)⟩ (fun hHeld => ?_); refine with_tabW impl_rowAt.tab5 impl_rowAt.bits5 (fun HT_ HW_ => ?_); generalize w35.drew = w36 at BK192 HB hx197_0 hx197_1 hx197_2 hx197_3 hx197_4 hx197_5 hHeld ⊢; refine pure_ (i := 0) (N := some 19) (v := ?_) (a' := ?_) (rl_ true [1, 35]).toArray rfl rfl (any_of HT_.out (by kernel_rfl)) (fun _ _ _ h => h) (Or.inl ⟨by rfl, ?_⟩) ?_ ?_; rotate_left
              ·intro w'; go_simp; (with_reducible rfl)
              rotate_left
              ·simp only [Act.put, sA, s0, sS, i64_w, i32_w]; rfl
              refine pure_ (i := 2) (N := some 21) (v := ?_) (a' := ?_) (rl_ true [1, 1, 1, 33]).toArray rfl rfl (any_of HT_.out (by kernel_rfl)) (fun _ _ _ h => h) (Or.inl ⟨by rfl, ?_⟩) ?_ ?_; rotate_left
              ·intro w'; go_simp; (with_reducible rfl)
              rotate_left
              ·simp only [Act.put, sA, s0, sS, i64_w, i32_w]; rfl
              refine take_ (i := 1) (N := some 20) (v := ?_) (a' := ?_) (rl_ true [3, 33]).toArray rfl rfl (take_ofW HT_.out HW_.out (by kernel_rfl)) (fun _ _ _ h => h) (Or.inl ⟨by rfl, ?_⟩) hHeld ?_ ?_; rotate_left
              ·rintro w' ⟨s0, s1, s2, s3, s4, s5, s6, s7, s8, s9, s10, s11⟩; go_simp; (with_reducible rfl)
              rotate_left
              ·simp only [Act.put, sA, s0, sS, i64_w, i32_w]; rfl
              refine pure_ (i := 3) (N := some 22) (v := ?_) (a' := ?_) (rl_ true [4, 32]).toArray rfl rfl (any_of HT_.out (by kernel_rfl)) (fun _ _ _ h => h) (Or.inl ⟨by rfl, ?_⟩) ?_ ?_; rotate_left
              ·intro w'; go_simp; (with_reducible rfl)
              rotate_left
              ·simp only [Act.put, sA, s0, sS, i64_w, i32_w]; rfl
              refine pure_ (i := 4) (N := some 23) (v := ?_) (a' := ?_) (rl_ true [5, 31]).toArray rfl rfl (any_of HT_.out (by kernel_rfl)) (fun _ _ _ h => h) (Or.inl ⟨by rfl, ?_⟩) ?_ ?_; rotate_left
              ·intro w'; go_simp; (with_reducible rfl)
              rotate_left
              ·simp only [Act.put, sA, s0, sS, i64_w, i32_w]; rfl
              refine pure_ (i := 5) (N := some 24) (v := ?_) (a' := ?_) (rl_ true [6, 30]).toArray rfl rfl (any_of HT_.out (by kernel_rfl)) (fun _ _ _ h => h) (Or.inl ⟨by rfl, ?_⟩) ?_ ?_; rotate_left
              ·intro w'; go_simp; (with_reducible rfl)
              rotate_left
              ·simp only [Act.put, sA, s0, sS, i64_w, i32_w]; rfl
              refine pure_ (i := 7) (N := some 26) (v := ?_) (a' := ?_) (rl_ true [6, 1, 1, 28]).toArray rfl rfl (any_of HT_.out (by kernel_rfl)) (fun _ _ _ h => h) (Or.inl ⟨by rfl, ?_⟩) ?_ ?_; rotate_left
              ·intro w'; go_simp; (with_reducible rfl)
              rotate_left
              ·simp only [Act.put, sA, s0, sS, i64_w, i32_w]; rfl
              refine take_ (i := 6) (N := some 25) (v := ?_) (a' := ?_) (rl_ true [8, 28]).toArray rfl rfl (take_ofW HT_.out HW_.out (by kernel_rfl)) (fun _ _ _ h => h) (Or.inl ⟨by rfl, ?_⟩) hHeld ?_ ?_; rotate_left
              ·rintro w' ⟨s0, s1, s2, s3, s4, s5, s6, s7, s8, s9, s10, s11⟩; go_simp; (with_reducible rfl)
              rotate_left
              ·simp only [Act.put, sA, s0, sS, i64_w, i32_w]; rfl
              refine pure_ (i := 8) (N := some 27) (v := ?_) (a' := ?_) (rl_ true [9, 27]).toArray rfl rfl (any_of HT_.out (by kernel_rfl)) (fun _ _ _ h => h) (Or.inl ⟨by rfl, ?_⟩) ?_ ?_; rotate_left
              ·intro w'; go_simp; (with_reducible rfl)
              rotate_left
              ·simp only [Act.put, sA, s0, sS, i64_w, i32_w]; rfl
              refine pure_ (i := 9) (N := some 28) (v := ?_) (a' := ?_) (rl_ true [10, 26]).toArray rfl rfl (any_of HT_.out (by kernel_rfl)) (fun _ _ _ h => h) (Or.inl ⟨by rfl, ?_⟩) ?_ ?_; rotate_left
              ·intro w'; go_simp; (with_reducible rfl)
              rotate_left
              ·simp only [Act.put, sA, s0, sS, i64_w, i32_w]; rfl
              refine pure_ (i := 10) (N := some 29) (v := ?_) (a' := ?_) (rl_ true [11, 25]).toArray rfl rfl (any_of HT_.out (by kernel_rfl)) (fun _ _ _ h => h) (Or.inl ⟨by rfl, ?_⟩) ?_ ?_; rotate_left
              ·intro w'; go_simp; (with_reducible rfl)
              rotate_left
              ·simp only [Act.put, sA, s0, sS, i64_w, i32_w]; rfl
              refine take_ (i := 11) (N := some 30) (v := ?_) (a' := ?_) (rl_ true [12, 24]).toArray rfl rfl (take_ofW HT_.out HW_.out (by kernel_rfl)) (fun _ _ _ h => h) (Or.inl ⟨by rfl, ?_⟩) hHeld ?_ ?_; rotate_left
              ·rintro w' ⟨s0, s1, s2, s3, s4, s5, s6, s7, s8, s9, s10, s11⟩; go_simp; (with_reducible rfl)
              rotate_left
              ·simp only [Act.put, sA, s0, sS, i64_w, i32_w]; rfl
              refine pure_ (i := 12) (N := some 31) (v := ?_) (a' := ?_) (rl_ true [13, 23]).toArray rfl rfl (any_of HT_.out (by kernel_rfl)) (fun _ _ _ h => h) (Or.inl ⟨by rfl, ?_⟩) ?_ ?_; rotate_left
              ·intro w'; go_simp; (with_reducible rfl)
              rotate_left
              ·simp only [Act.put, sA, s0, sS, i64_w, i32_w]; rfl
              refine pure_ (i := 13) (N := some 32) (v := ?_) (a' := ?_) (rl_ true [14, 22]).toArray rfl rfl (any_of HT_.out (by kernel_rfl)) (fun _ _ _ h => h) (Or.inl ⟨by rfl, ?_⟩) ?_ ?_; rotate_left
              ·intro w'; go_simp; (with_reducible rfl)
              rotate_left
              ·simp only [Act.put, sA, s0, sS, i64_w, i32_w]; rfl
              refine pure_ (i := 14) (N := some 33) (v := ?_) (a' := ?_) (rl_ true [15, 21]).toArray rfl rfl (any_of HT_.out (by kernel_rfl)) (fun _ _ _ h => h) (Or.inl ⟨by rfl, ?_⟩) ?_ ?_; rotate_left
              ·intro w'; go_simp; (with_reducible rfl)
              rotate_left
              ·simp only [Act.put, sA, s0, sS, i64_w, i32_w]; rfl
              refine pure_ (i := 15) (N := some 34) (v := ?_) (a' := ?_) (rl_ true [16, 20]).toArray rfl rfl (any_of HT_.out (by kernel_rfl)) (fun _ _ _ h => h) (Or.inl ⟨by rfl, ?_⟩) ?_ ?_; rotate_left
              ·intro w'; go_simp; (with_reducible rfl)
              rotate_left
              ·simp only [Act.put, sA, s0, sS, i64_w, i32_w]; rfl
              refine pure_ (i := 16) (N := some 35) (v := ?_) (a' := ?_) (rl_ true [17, 19]).toArray rfl rfl (any_of HT_.out (by kernel_rfl)) (fun _ _ _ h => h) (Or.inl ⟨by rfl, ?_⟩) ?_ ?_; rotate_left
              ·intro w'; go_simp; (with_reducible rfl)
              rotate_left
              ·simp only [Act.put, sA, s0, sS, i64_w, i32_w]; rfl
              refine pure_ (i := 17) (N := some 36) (v := ?_) (a' := ?_) (rl_ true [18, 18]).toArray rfl rfl (any_of HT_.out (by kernel_rfl)) (fun _ _ _ h => h) (Or.inl ⟨by rfl, ?_⟩) ?_ ?_; rotate_left
              ·intro w'; go_simp; (with_reducible rfl)
              rotate_left
              ·simp only [Act.put, sA, s0, sS, i64_w, i32_w]; rfl
              refine pure_ (i := 19) (N := some 38) (v := ?_) (a' := ?_) (rl_ true [18, 1, 1, 16]).toArray rfl rfl (any_of HT_.out (by kernel_rfl)) (fun _ _ _ h => h) (Or.inl ⟨by rfl, ?_⟩) ?_ ?_; rotate_left
              ·intro w'; go_simp; (with_reducible rfl)
              rotate_left
              ·simp only [Act.put, sA, s0, sS, i64_w, i32_w]; rfl
              refine take_ (i := 18) (N := some 37) (v := ?_) (a' := ?_) (rl_ true [20, 16]).toArray rfl rfl (take_ofW HT_.out HW_.out (by kernel_rfl)) (fun _ _ _ h => h) (Or.inl ⟨by rfl, ?_⟩) hHeld ?_ ?_; rotate_left
              ·rintro w' ⟨s0, s1, s2, s3, s4, s5, s6, s7, s8, s9, s10, s11⟩; go_simp; (with_reducible rfl)
              rotate_left
              ·simp only [Act.put, sA, s0, sS, i64_w, i32_w]; rfl
              refine take_ (i := 20) (N := some 39) (v := ?_) (a' := ?_) (rl_ true [21, 15]).toArray rfl rfl (take_ofW HT_.out HW_.out (by kernel_rfl)) (fun _ _ _ h => h) (Or.inl ⟨by rfl, ?_⟩) hHeld ?_ ?_; rotate_left
              ·rintro w' ⟨s0, s1, s2, s3, s4, s5, s6, s7, s8, s9, s10, s11⟩; go_simp; (with_reducible rfl)
              rotate_left
              ·simp only [Act.put, sA, s0, sS, i64_w, i32_w]; rfl
              refine pure_ (i := 21) (N := some 40) (v := ?_) (a' := ?_) (rl_ true [22, 14]).toArray rfl rfl (any_of HT_.out (by kernel_rfl)) (fun _ _ _ h => h) (Or.inl ⟨by rfl, ?_⟩) ?_ ?_; rotate_left
              ·intro w'; go_simp; (with_reducible rfl)
              rotate_left
              ·simp only [Act.put, sA, s0, sS, i64_w, i32_w]; rfl
              refine one_ (i := 22) (N := some 41) (rl_ true [23, 13]).toArray rfl rfl (one_of HT_.out (by kernel_rfl)) (by decide) (fun K hK => ?_); refine goes_ Try.func44 (by kernel_rfl) rfl #[.int .i64 a3, .int .i64 ((rd_T44 l0 x14_1).f3), .int .i64 (wrap64 (((rd_T44 l0 x14_1).f4) - 1))] (by rfl) rfl rfl mq ?_; (with_reducible refine (impl_within.calls a3 ((rd_T44 l0 x14_1).f3) (wrap64 (((rd_T44 l0 x14_1).f4) - 1)) true _ A27.out).mono ?_); rintro e w' ⟨rfl, ⟨nd, rfl⟩⟩; refine ⟨_, rfl, ?_⟩; refine hK.out _ _ ⟨(blk_cell BK192.out 0).trans rfl, (blk_cell BK192.out 1).trans rfl, (blk_cell BK192.out 2).trans rfl, (blk_cell BK192.out 3).trans rfl, (blk_cell BK192.out 4).trans rfl, (blk_cell BK192.out 5).trans rfl, ((HB.out.cell (World.block_lt_of_cell? w _ hw197_0)).trans hw197_0), ((HB.out.cell (World.block_lt_of_cell? w _ hw197_1)).trans hw197_1), ((HB.out.cell (World.block_lt_of_cell? w _ hw197_2)).trans hw197_2), ((HB.out.cell (World.block_lt_of_cell? w _ hw197_3)).trans hw197_3), ((HB.out.cell (World.block_lt_of_cell? w _ hw197_4)).trans hw197_4), ((HB.out.cell (World.block_lt_of_cell? w _ hw197_5)).trans hw197_5)⟩ (fun hHeld => ?_); clear hK K; refine norm_ (a' := ?_) ?_ ?_; rotate_left
              ·show Act.put _ (some 41) _ = _; simp only [Act.put, sA, s0, sS, i64_w, i32_w]; rfl
              refine pure_ (i := 23) (N := some 42) (v := ?_) (a' := ?_) (rl_ true [24, 12]).toArray rfl rfl (any_of HT_.out (by kernel_rfl)) (fun _ _ _ h => h) (Or.inl ⟨by rfl, ?_⟩) ?_ ?_; rotate_left
              ·intro w'; go_simp; (with_reducible rfl)
              rotate_left
              ·simp only [Act.put, sA, s0, sS, i64_w, i32_w]; rfl
              refine pure_ (i := 24) (N := some 43) (v := ?_) (a' := ?_) (rl_ true [25, 11]).toArray rfl rfl (any_of HT_.out (by kernel_rfl)) (fun _ _ _ h => h) (Or.inl ⟨by rfl, ?_⟩) ?_ ?_; rotate_left
              ·intro w'; go_simp; (with_reducible rfl)
              rotate_left
              ·simp only [Act.put, sA, s0, sS, i64_w, i32_w]; rfl
              refine pure_ (i := 25) (N := some 44) (v := ?_) (a' := ?_) (rl_ true [26, 10]).toArray rfl rfl (any_of HT_.out (by kernel_rfl)) (fun _ _ _ h => h) (Or.inl ⟨by rfl, ?_⟩) ?_ ?_; rotate_left
              ·intro w'; go_simp; (with_reducible rfl)
              rotate_left
              ·simp only [Act.put, sA, s0, sS, i64_w, i32_w]; rfl
              refine pure_ (i := 26) (N := some 45) (v := ?_) (a' := ?_) (rl_ true [27, 9]).toArray rfl rfl (any_of HT_.out (by kernel_rfl)) (fun _ _ _ h => h) (Or.inl ⟨by rfl, ?_⟩) ?_ ?_; rotate_left
              ·intro w'; go_simp; (with_reducible rfl)
              rotate_left
              ·simp only [Act.put, sA, s0, sS, i64_w, i32_w]; rfl
              refine pure_ (i := 27) (N := some 46) (v := ?_) (a' := ?_) (rl_ true [28, 8]).toArray rfl rfl (any_of HT_.out (by kernel_rfl)) (fun _ _ _ h => h) (Or.inl ⟨by rfl, ?_⟩) ?_ ?_; rotate_left
              ·intro w'; go_simp; (with_reducible rfl)
              rotate_left
              ·simp only [Act.put, sA, s0, sS, i64_w, i32_w]; rfl
              refine pure_ (i := 29) (N := some 48) (v := ?_) (a' := ?_) (rl_ true [28, 1, 1, 6]).toArray rfl rfl (any_of HT_.out (by kernel_rfl)) (fun _ _ _ h => h) (Or.inl ⟨by rfl, ?_⟩) ?_ ?_; rotate_left
              ·intro w'; go_simp; (with_reducible rfl)
              rotate_left
              ·simp only [Act.put, sA, s0, sS, i64_w, i32_w]; rfl
              refine pure_ (i := 30) (N := some 49) (v := ?_) (a' := ?_) (rl_ true [28, 1, 2, 5]).toArray rfl rfl (any_of HT_.out (by kernel_rfl)) (fun _ _ _ h => h) (Or.inl ⟨by rfl, ?_⟩) ?_ ?_; rotate_left
              ·intro w'; go_simp; (with_reducible rfl)
              rotate_left
              ·simp only [Act.put, sA, s0, sS, i64_w, i32_w]; rfl
              refine pure_ (i := 31) (N := some 50) (v := ?_) (a' := ?_) (rl_ true [28, 1, 3, 4]).toArray rfl rfl (any_of HT_.out (by kernel_rfl)) (fun _ _ _ h => h) (Or.inl ⟨by rfl, ?_⟩) ?_ ?_; rotate_left
              ·intro w'; go_simp; (with_reducible rfl)
              rotate_left
              ·simp only [Act.put, sA, s0, sS, i64_w, i32_w]; rfl
              refine take_ (i := 28) (N := some 47) (v := ?_) (a' := ?_) (rl_ true [32, 4]).toArray rfl rfl (take_ofW HT_.out HW_.out (by kernel_rfl)) (fun _ _ _ h => h) (Or.inl ⟨by rfl, ?_⟩) hHeld ?_ ?_; rotate_left
              ·rintro w' ⟨s0, s1, s2, s3, s4, s5, s6, s7, s8, s9, s10, s11⟩; go_simp; (with_reducible rfl)
              rotate_left
              ·simp only [Act.put, sA, s0, sS, i64_w, i32_w]; rfl
              refine take_ (i := 32) (N := some 51) (v := ?_) (a' := ?_) (rl_ true [33, 3]).toArray rfl rfl (take_ofW HT_.out HW_.out (by kernel_rfl)) (fun _ _ _ h => h) (Or.inl ⟨by rfl, ?_⟩) hHeld ?_ ?_; rotate_left
              ·rintro w' ⟨s0, s1, s2, s3, s4, s5, s6, s7, s8, s9, s10, s11⟩; go_simp; (with_reducible rfl)
              rotate_left
              ·simp only [Act.put, sA, s0, sS, i64_w, i32_w]; rfl
              refine one_ (i := 33) (N := some 52) (rl_ true [34, 2]).toArray rfl rfl (one_of HT_.out (by kernel_rfl)) (by decide) (fun K hK => ?_); refine goes_ Try.func45 (by kernel_rfl) rfl #[.agg #[.string ((rd_T44 l0 x14_1).f0), .string ((rd_T44 l0 x14_1).f1), .int .i64 ((rd_T44 l0 x14_1).f2), .int .i64 ((rd_T44 l0 x14_1).f3), .int .i64 ((rd_T44 l0 x14_1).f4), .int .i64 ((rd_T44 l0 x14_1).f5)], .agg #[.string ((rd_T44 l0 x9_1).f0), .string ((rd_T44 l0 x9_1).f1), .int .i64 ((rd_T44 l0 x9_1).f2), .int .i64 ((rd_T44 l0 x9_1).f3), .int .i64 ((rd_T44 l0 x9_1).f4), .int .i64 ((rd_T44 l0 x9_1).f5)]] (by rfl) rfl rfl mq ?_; (with_reducible refine (impl_isFirmer.calls ((rd_T44 l0 x14_1).f0) ((rd_T44 l0 x14_1).f1) ((rd_T44 l0 x14_1).f2) ((rd_T44 l0 x14_1).f3) ((rd_T44 l0 x14_1).f4) ((rd_T44 l0 x14_1).f5) ((rd_T44 l0 x9_1).f0) ((rd_T44 l0 x9_1).f1) ((rd_T44 l0 x9_1).f2) ((rd_T44 l0 x9_1).f3) ((rd_T44 l0 x9_1).f4) ((rd_T44 l0 x9_1).f5) t198 _ A34.out).mono ?_); rintro e w37 ⟨rfl, hb⟩; refine ⟨_, rfl, ?_⟩; have n0_ := Aside0.mk (blk_below (bq BK192) hb); have n1_ := Aside0.mk (below_step (qb HB) hb); clear BK192; clear HB; have BK192 := n0_; have HB := n1_; clear n0_ n1_; (try clear hb); (try clear hb2); (try clear hk); (try clear hi); refine hK.out _ _ ⟨(blk_cell BK192.out 0).trans rfl, (blk_cell BK192.out 1).trans rfl, (blk_cell BK192.out 2).trans rfl, (blk_cell BK192.out 3).trans rfl, (blk_cell BK192.out 4).trans rfl, (blk_cell BK192.out 5).trans rfl, ((HB.out.cell (World.block_lt_of_cell? w _ hw197_0)).trans hw197_0), ((HB.out.cell (World.block_lt_of_cell? w _ hw197_1)).trans hw197_1), ((HB.out.cell (World.block_lt_of_cell? w _ hw197_2)).trans hw197_2), ((HB.out.cell (World.block_lt_of_cell? w _ hw197_3)).trans hw197_3), ((HB.out.cell (World.block_lt_of_cell? w _ hw197_4)).trans hw197_4), ((HB.out.cell (World.block_lt_of_cell? w _ hw197_5)).trans hw197_5)⟩ (fun hHeld => ?_); clear hK K; refine norm_ (a' := ?_) ?_ ?_; rotate_left
              ·show Act.put _ (some 52) _ = _; simp only [Act.put, sA, s0, sS, i64_w, i32_w]; rfl
              refine pure_ (i := 34) (N := some 53) (v := ?_) (a' := ?_) (rl_ true [35, 1]).toArray rfl rfl (any_of HT_.out (by kernel_rfl)) (fun _ _ _ h => h) (Or.inl ⟨by rfl, ?_⟩) ?_ ?_; rotate_left
              ·intro w'; go_simp; (with_reducible rfl)
              rotate_left
              ·simp only [Act.put, sA, s0, sS, i64_w, i32_w]; rfl
              refine pure_ (i := 35) (N := some 54) (v := ?_) (a' := ?_) (rl_ true [36]).toArray rfl rfl (any_of HT_.out (by kernel_rfl)) (fun _ _ _ h => h) (Or.inl ⟨by rfl, ?_⟩) ?_ ?_; rotate_left
              ·intro w'; go_simp; (with_reducible rfl)
              rotate_left
              ·simp only [Act.put, sA, s0, sS, i64_w, i32_w]; rfl
              refine done_ (done_of HT_.out (by kernel_rfl)) ?_
              try go_wp2
              go_meet
              case rel => exact ⟨_, (t198), (by first | rfl | (simp; done) | (simp [*]; done)), H', ⟨by have := HK1.out; first | omega | exact Nat.le_refl _⟩, ⟨bq BK192⟩, ⟨qb HB⟩⟩
             ·rw [if_neg c33] at H; exact absurd H (by simp)
            ·rw [if_neg c32] at H; exact absurd H (by simp)
          ·replace c28 := Bool.eq_false_iff.mpr c28; subst c28
           have H1 : (impl_rowAt.j1 k1 l0 a1 a2 a3 x9_1 x14_1 l0 (l0.length : Int) x14_1 false) = some r := by rw [if_neg (show ¬ (false = true) by decide)] at H; exact H
           clear H; have H := H1; clear H1; have H' := Aside0.mk H; clear H
           try go_wp2
           have n0_ : Aside0 (((((((w9.setCell ⟨gb192, 0, none⟩ (.string ((rd_T44 l0 x14_1).f0))).setCell ⟨gb192, 1, none⟩ (.string ((rd_T44 l0 x14_1).f1))).setCell ⟨gb192, 2, none⟩ (.int .i64 ((rd_T44 l0 x14_1).f2))).setCell ⟨gb192, 3, none⟩ (.int .i64 ((rd_T44 l0 x14_1).f3))).setCell ⟨gb192, 4, none⟩ (.int .i64 ((rd_T44 l0 x14_1).f4))).setCell ⟨gb192, 5, none⟩ (.int .i64 ((rd_T44 l0 x14_1).f5))).heap[gb192]? = some (.cells #[.string ((rd_T44 l0 x14_1).f0), .string ((rd_T44 l0 x14_1).f1), .int .i64 ((rd_T44 l0 x14_1).f2), .int .i64 ((rd_T44 l0 x14_1).f3), .int .i64 ((rd_T44 l0 x14_1).f4), .int .i64 ((rd_T44 l0 x14_1).f5)] 44 (0, 0))) := ⟨by (with_reducible repeat (first | refine blk_drewN ?_ _ | refine blk_drew ?_ | refine blk_alloc ?_ _)); refine blk_put (cs := #[.string ((rd_T44 l0 x14_1).f0), .string ((rd_T44 l0 x14_1).f1), .int .i64 ((rd_T44 l0 x14_1).f2), .int .i64 ((rd_T44 l0 x14_1).f3), .int .i64 ((rd_T44 l0 x14_1).f4), .int .i64 0]) ?_ 5 _ rfl; (with_reducible repeat (first | refine blk_drewN ?_ _ | refine blk_drew ?_ | refine blk_alloc ?_ _)); refine blk_put (cs := #[.string ((rd_T44 l0 x14_1).f0), .string ((rd_T44 l0 x14_1).f1), .int .i64 ((rd_T44 l0 x14_1).f2), .int .i64 ((rd_T44 l0 x14_1).f3), .int .i64 0, .int .i64 0]) ?_ 4 _ rfl; (with_reducible repeat (first | refine blk_drewN ?_ _ | refine blk_drew ?_ | refine blk_alloc ?_ _)); refine blk_put (cs := #[.string ((rd_T44 l0 x14_1).f0), .string ((rd_T44 l0 x14_1).f1), .int .i64 ((rd_T44 l0 x14_1).f2), .int .i64 0, .int .i64 0, .int .i64 0]) ?_ 3 _ rfl; (with_reducible repeat (first | refine blk_drewN ?_ _ | refine blk_drew ?_ | refine blk_alloc ?_ _)); refine blk_put (cs := #[.string ((rd_T44 l0 x14_1).f0), .string ((rd_T44 l0 x14_1).f1), .int .i64 0, .int .i64 0, .int .i64 0, .int .i64 0]) ?_ 2 _ rfl; (with_reducible repeat (first | refine blk_drewN ?_ _ | refine blk_drew ?_ | refine blk_alloc ?_ _)); refine blk_put (cs := #[.string ((rd_T44 l0 x14_1).f0), .string (⟨#[]⟩ : ByteArray), .int .i64 0, .int .i64 0, .int .i64 0, .int .i64 0]) ?_ 1 _ rfl; (with_reducible repeat (first | refine blk_drewN ?_ _ | refine blk_drew ?_ | refine blk_alloc ?_ _)); refine blk_put (cs := #[.string (⟨#[]⟩ : ByteArray), .string (⟨#[]⟩ : ByteArray), .int .i64 0, .int .i64 0, .int .i64 0, .int .i64 0]) ?_ 0 _ rfl; (with_reducible repeat (first | refine blk_drewN ?_ _ | refine blk_drew ?_ | refine blk_alloc ?_ _)); exact BK192.out⟩; have n1_ : Aside0 (Below w.heap.size w ((((((w9.setCell ⟨gb192, 0, none⟩ (.string ((rd_T44 l0 x14_1).f0))).setCell ⟨gb192, 1, none⟩ (.string ((rd_T44 l0 x14_1).f1))).setCell ⟨gb192, 2, none⟩ (.int .i64 ((rd_T44 l0 x14_1).f2))).setCell ⟨gb192, 3, none⟩ (.int .i64 ((rd_T44 l0 x14_1).f3))).setCell ⟨gb192, 4, none⟩ (.int .i64 ((rd_T44 l0 x14_1).f4))).setCell ⟨gb192, 5, none⟩ (.int .i64 ((rd_T44 l0 x14_1).f5)))) := ⟨qb HB⟩; (try clear BK192); (try clear HB); generalize ((((((w9.setCell ⟨gb192, 0, none⟩ (.string ((rd_T44 l0 x14_1).f0))).setCell ⟨gb192, 1, none⟩ (.string ((rd_T44 l0 x14_1).f1))).setCell ⟨gb192, 2, none⟩ (.int .i64 ((rd_T44 l0 x14_1).f2))).setCell ⟨gb192, 3, none⟩ (.int .i64 ((rd_T44 l0 x14_1).f3))).setCell ⟨gb192, 4, none⟩ (.int .i64 ((rd_T44 l0 x14_1).f4))).setCell ⟨gb192, 5, none⟩ (.int .i64 ((rd_T44 l0 x14_1).f5))) = w38 at n0_ n1_ ⊢; have BK192 := n0_; have HB := n1_; clear n0_ n1_; have n0_ := Aside0.mk (blk_drew BK192.out); have n1_ := Aside0.mk (below_drew1 HB.out); clear BK192; clear HB; have BK192 := n0_; have HB := n1_; clear n0_ n1_; refine start_ (n := 36) (S := fun w' => w'.cell? ⟨gb192, 0, none⟩ = some (.string ((rd_T44 l0 x14_1).f0)) ∧ w'.cell? ⟨gb192, 1, none⟩ = some (.string ((rd_T44 l0 x14_1).f1)) ∧ w'.cell? ⟨gb192, 2, none⟩ = some (.int .i64 ((rd_T44 l0 x14_1).f2)) ∧ w'.cell? ⟨gb192, 3, none⟩ = some (.int .i64 ((rd_T44 l0 x14_1).f3)) ∧ w'.cell? ⟨gb192, 4, none⟩ = some (.int .i64 ((rd_T44 l0 x14_1).f4)) ∧ w'.cell? ⟨gb192, 5, none⟩ = some (.int .i64 ((rd_T44 l0 x14_1).f5))) (ds := []) (rl_ true [0, 36]).toArray (by kernel_rfl) rfl rfl ⟨(blk_cell BK192.out 0).trans rfl, (blk_cell BK192.out 1).trans rfl, (blk_cell BK192.out 2).trans rfl, (blk_cell BK192.out 3).trans rfl, (blk_cell BK192.out 4).trans rfl, (blk_cell BK192.out 5).trans rfl⟩ (fun hHeld => ?_); refine with_tabW impl_rowAt.tab5 impl_rowAt.bits5 (fun HT_ HW_ => ?_); generalize w38.drew = w39 at BK192 HB hHeld ⊢; refine pure_ (i := 0) (N := some 19) (v := ?_) (a' := ?_) (rl_ true [1, 35]).toArray rfl rfl (any_of HT_.out (by kernel_rfl)) (fun _ _ _ h => h) (Or.inl ⟨by rfl, ?_⟩) ?_ ?_; rotate_left
           ·intro w'; go_simp; (with_reducible rfl)
           rotate_left
           ·simp only [Act.put, sA, s0, sS, i64_w, i32_w]; rfl
           refine pure_ (i := 2) (N := some 21) (v := ?_) (a' := ?_) (rl_ true [1, 1, 1, 33]).toArray rfl rfl (any_of HT_.out (by kernel_rfl)) (fun _ _ _ h => h) (Or.inl ⟨by rfl, ?_⟩) ?_ ?_; rotate_left
           ·intro w'; go_simp; (with_reducible rfl)
           rotate_left
           ·simp only [Act.put, sA, s0, sS, i64_w, i32_w]; rfl
           refine take_ (i := 1) (N := some 20) (v := ?_) (a' := ?_) (rl_ true [3, 33]).toArray rfl rfl (take_ofW HT_.out HW_.out (by kernel_rfl)) (fun _ _ _ h => h) (Or.inl ⟨by rfl, ?_⟩) hHeld ?_ ?_; rotate_left
           ·rintro w' ⟨s0, s1, s2, s3, s4, s5⟩; go_simp; (with_reducible rfl)
           rotate_left
           ·simp only [Act.put, sA, s0, sS, i64_w, i32_w]; rfl
           refine pure_ (i := 3) (N := some 22) (v := ?_) (a' := ?_) (rl_ true [4, 32]).toArray rfl rfl (any_of HT_.out (by kernel_rfl)) (fun _ _ _ h => h) (Or.inl ⟨by rfl, ?_⟩) ?_ ?_; rotate_left
           ·intro w'; go_simp; (with_reducible rfl)
           rotate_left
           ·simp only [Act.put, sA, s0, sS, i64_w, i32_w]; rfl
           refine pure_ (i := 4) (N := some 23) (v := ?_) (a' := ?_) (rl_ true [5, 31]).toArray rfl rfl (any_of HT_.out (by kernel_rfl)) (fun _ _ _ h => h) (Or.inl ⟨by rfl, ?_⟩) ?_ ?_; rotate_left
           ·intro w'; go_simp; (with_reducible rfl)
           rotate_left
           ·simp only [Act.put, sA, s0, sS, i64_w, i32_w]; rfl
           refine pure_ (i := 5) (N := some 24) (v := ?_) (a' := ?_) (rl_ true [6, 30]).toArray rfl rfl (any_of HT_.out (by kernel_rfl)) (fun _ _ _ h => h) (Or.inl ⟨by rfl, ?_⟩) ?_ ?_; rotate_left
           ·intro w'; go_simp; (with_reducible rfl)
           rotate_left
           ·simp only [Act.put, sA, s0, sS, i64_w, i32_w]; rfl
           refine pure_ (i := 7) (N := some 26) (v := ?_) (a' := ?_) (rl_ true [6, 1, 1, 28]).toArray rfl rfl (any_of HT_.out (by kernel_rfl)) (fun _ _ _ h => h) (Or.inl ⟨by rfl, ?_⟩) ?_ ?_; rotate_left
           ·intro w'; go_simp; (with_reducible rfl)
           rotate_left
           ·simp only [Act.put, sA, s0, sS, i64_w, i32_w]; rfl
           refine take_ (i := 6) (N := some 25) (v := ?_) (a' := ?_) (rl_ true [8, 28]).toArray rfl rfl (take_ofW HT_.out HW_.out (by kernel_rfl)) (fun _ _ _ h => h) (Or.inl ⟨by rfl, ?_⟩) hHeld ?_ ?_; rotate_left
           ·rintro w' ⟨s0, s1, s2, s3, s4, s5⟩; go_simp; (with_reducible rfl)
           rotate_left
           ·simp only [Act.put, sA, s0, sS, i64_w, i32_w]; rfl
           refine pure_ (i := 8) (N := some 27) (v := ?_) (a' := ?_) (rl_ true [9, 27]).toArray rfl rfl (any_of HT_.out (by kernel_rfl)) (fun _ _ _ h => h) (Or.inl ⟨by rfl, ?_⟩) ?_ ?_; rotate_left
           ·intro w'; go_simp; (with_reducible rfl)
           rotate_left
           ·simp only [Act.put, sA, s0, sS, i64_w, i32_w]; rfl
           refine pure_ (i := 9) (N := some 28) (v := ?_) (a' := ?_) (rl_ true [10, 26]).toArray rfl rfl (any_of HT_.out (by kernel_rfl)) (fun _ _ _ h => h) (Or.inl ⟨by rfl, ?_⟩) ?_ ?_; rotate_left
           ·intro w'; go_simp; (with_reducible rfl)
           rotate_left
           ·simp only [Act.put, sA, s0, sS, i64_w, i32_w]; rfl
           refine pure_ (i := 10) (N := some 29) (v := ?_) (a' := ?_) (rl_ true [11, 25]).toArray rfl rfl (any_of HT_.out (by kernel_rfl)) (fun _ _ _ h => h) (Or.inl ⟨by rfl, ?_⟩) ?_ ?_; rotate_left
           ·intro w'; go_simp; (with_reducible rfl)
           rotate_left
           ·simp only [Act.put, sA, s0, sS, i64_w, i32_w]; rfl
           refine take_ (i := 11) (N := some 30) (v := ?_) (a' := ?_) (rl_ true [12, 24]).toArray rfl rfl (take_ofW HT_.out HW_.out (by kernel_rfl)) (fun _ _ _ h => h) (Or.inl ⟨by rfl, ?_⟩) hHeld ?_ ?_; rotate_left
           ·rintro w' ⟨s0, s1, s2, s3, s4, s5⟩; go_simp; (with_reducible rfl)
           rotate_left
           ·simp only [Act.put, sA, s0, sS, i64_w, i32_w]; rfl
           refine pure_ (i := 12) (N := some 31) (v := ?_) (a' := ?_) (rl_ true [13, 23]).toArray rfl rfl (any_of HT_.out (by kernel_rfl)) (fun _ _ _ h => h) (Or.inl ⟨by rfl, ?_⟩) ?_ ?_; rotate_left
           ·intro w'; go_simp; (with_reducible rfl)
           rotate_left
           ·simp only [Act.put, sA, s0, sS, i64_w, i32_w]; rfl
           refine pure_ (i := 13) (N := some 32) (v := ?_) (a' := ?_) (rl_ true [14, 22]).toArray rfl rfl (any_of HT_.out (by kernel_rfl)) (fun _ _ _ h => h) (Or.inl ⟨by rfl, ?_⟩) ?_ ?_; rotate_left
           ·intro w'; go_simp; (with_reducible rfl)
           rotate_left
           ·simp only [Act.put, sA, s0, sS, i64_w, i32_w]; rfl
           refine pure_ (i := 14) (N := some 33) (v := ?_) (a' := ?_) (rl_ true [15, 21]).toArray rfl rfl (any_of HT_.out (by kernel_rfl)) (fun _ _ _ h => h) (Or.inl ⟨by rfl, ?_⟩) ?_ ?_; rotate_left
           ·intro w'; go_simp; (with_reducible rfl)
           rotate_left
           ·simp only [Act.put, sA, s0, sS, i64_w, i32_w]; rfl
           refine pure_ (i := 15) (N := some 34) (v := ?_) (a' := ?_) (rl_ true [16, 20]).toArray rfl rfl (any_of HT_.out (by kernel_rfl)) (fun _ _ _ h => h) (Or.inl ⟨by rfl, ?_⟩) ?_ ?_; rotate_left
           ·intro w'; go_simp; (with_reducible rfl)
           rotate_left
           ·simp only [Act.put, sA, s0, sS, i64_w, i32_w]; rfl
           refine pure_ (i := 16) (N := some 35) (v := ?_) (a' := ?_) (rl_ true [17, 19]).toArray rfl rfl (any_of HT_.out (by kernel_rfl)) (fun _ _ _ h => h) (Or.inl ⟨by rfl, ?_⟩) ?_ ?_; rotate_left
           ·intro w'; go_simp; (with_reducible rfl)
           rotate_left
           ·simp only [Act.put, sA, s0, sS, i64_w, i32_w]; rfl
           refine pure_ (i := 17) (N := some 36) (v := ?_) (a' := ?_) (rl_ true [18, 18]).toArray rfl rfl (any_of HT_.out (by kernel_rfl)) (fun _ _ _ h => h) (Or.inl ⟨by rfl, ?_⟩) ?_ ?_; rotate_left
           ·intro w'; go_simp; (with_reducible rfl)
           rotate_left
           ·simp only [Act.put, sA, s0, sS, i64_w, i32_w]; rfl
           refine pure_ (i := 19) (N := some 38) (v := ?_) (a' := ?_) (rl_ true [18, 1, 1, 16]).toArray rfl rfl (any_of HT_.out (by kernel_rfl)) (fun _ _ _ h => h) (Or.inl ⟨by rfl, ?_⟩) ?_ ?_; rotate_left
           ·intro w'; go_simp; (with_reducible rfl)
           rotate_left
           ·simp only [Act.put, sA, s0, sS, i64_w, i32_w]; rfl
           refine take_ (i := 18) (N := some 37) (v := ?_) (a' := ?_) (rl_ true [20, 16]).toArray rfl rfl (take_ofW HT_.out HW_.out (by kernel_rfl)) (fun _ _ _ h => h) (Or.inl ⟨by rfl, ?_⟩) hHeld ?_ ?_; rotate_left
           ·rintro w' ⟨s0, s1, s2, s3, s4, s5⟩; go_simp; (with_reducible rfl)
           rotate_left
           ·simp only [Act.put, sA, s0, sS, i64_w, i32_w]; rfl
           refine take_ (i := 20) (N := some 39) (v := ?_) (a' := ?_) (rl_ true [21, 15]).toArray rfl rfl (take_ofW HT_.out HW_.out (by kernel_rfl)) (fun _ _ _ h => h) (Or.inl ⟨by rfl, ?_⟩) hHeld ?_ ?_; rotate_left
           ·rintro w' ⟨s0, s1, s2, s3, s4, s5⟩; go_simp; (with_reducible rfl)
           rotate_left
           ·simp only [Act.put, sA, s0, sS, i64_w, i32_w]; rfl
           refine pure_ (i := 21) (N := some 40) (v := ?_) (a' := ?_) (rl_ true [22, 14]).toArray rfl rfl (any_of HT_.out (by kernel_rfl)) (fun _ _ _ h => h) (Or.inl ⟨by rfl, ?_⟩) ?_ ?_; rotate_left
           ·intro w'; go_simp; (with_reducible rfl)
           rotate_left
           ·simp only [Act.put, sA, s0, sS, i64_w, i32_w]; rfl
           refine one_ (i := 22) (N := some 41) (rl_ true [23, 13]).toArray rfl rfl (one_of HT_.out (by kernel_rfl)) (by decide) (fun K hK => ?_); refine goes_ Try.func44 (by kernel_rfl) rfl #[.int .i64 a3, .int .i64 ((rd_T44 l0 x14_1).f3), .int .i64 (wrap64 (((rd_T44 l0 x14_1).f4) - 1))] (by rfl) rfl rfl mq ?_; (with_reducible refine (impl_within.calls a3 ((rd_T44 l0 x14_1).f3) (wrap64 (((rd_T44 l0 x14_1).f4) - 1)) false _ A27.out).mono ?_); rintro e w' ⟨rfl, ⟨nd, rfl⟩⟩; refine ⟨_, rfl, ?_⟩; refine hK.out _ _ ⟨(blk_cell BK192.out 0).trans rfl, (blk_cell BK192.out 1).trans rfl, (blk_cell BK192.out 2).trans rfl, (blk_cell BK192.out 3).trans rfl, (blk_cell BK192.out 4).trans rfl, (blk_cell BK192.out 5).trans rfl⟩ (fun hHeld => ?_); clear hK K; refine norm_ (a' := ?_) ?_ ?_; rotate_left
           ·show Act.put _ (some 41) _ = _; simp only [Act.put, sA, s0, sS, i64_w, i32_w]; rfl
           refine pure_ (i := 23) (N := some 42) (v := ?_) (a' := ?_) (rl_ true [24, 12]).toArray rfl rfl (any_of HT_.out (by kernel_rfl)) (fun _ _ _ h => h) (Or.inl ⟨by rfl, ?_⟩) ?_ ?_; rotate_left
           ·intro w'; go_simp; (with_reducible rfl)
           rotate_left
           ·simp only [Act.put, sA, s0, sS, i64_w, i32_w]; rfl
           refine pure_ (i := 24) (N := some 43) (v := ?_) (a' := ?_) (rl_ true [25, 11]).toArray rfl rfl (any_of HT_.out (by kernel_rfl)) (fun _ _ _ h => h) (Or.inl ⟨by rfl, ?_⟩) ?_ ?_; rotate_left
           ·intro w'; go_simp; (with_reducible rfl)
           rotate_left
           ·simp only [Act.put, sA, s0, sS, i64_w, i32_w]; rfl
           refine pure_ (i := 25) (N := some 44) (v := undef) (a' := ?_) (rl_ true [26, 10]).toArray rfl rfl (any_of HT_.out (by kernel_rfl)) (fun _ _ _ h => h) (Or.inr ⟨by rfl, rfl⟩) ?_ ?_; rotate_left
           ·simp only [Act.put, sA, s0, sS, i64_w, i32_w]; rfl
           refine pure_ (i := 26) (N := some 45) (v := undef) (a' := ?_) (rl_ true [27, 9]).toArray rfl rfl (any_of HT_.out (by kernel_rfl)) (fun _ _ _ h => h) (Or.inr ⟨by rfl, rfl⟩) ?_ ?_; rotate_left
           ·simp only [Act.put, sA, s0, sS, i64_w, i32_w]; rfl
           refine pure_ (i := 27) (N := some 46) (v := undef) (a' := ?_) (rl_ true [28, 8]).toArray rfl rfl (any_of HT_.out (by kernel_rfl)) (fun _ _ _ h => h) (Or.inr ⟨by rfl, rfl⟩) ?_ ?_; rotate_left
           ·simp only [Act.put, sA, s0, sS, i64_w, i32_w]; rfl
           refine pure_ (i := 28) (N := some 47) (v := undef) (a' := ?_) (rl_ true [29, 7]).toArray rfl rfl (any_of HT_.out (by kernel_rfl)) (fun _ _ _ h => h) (Or.inr ⟨by rfl, rfl⟩) ?_ ?_; rotate_left
           ·simp only [Act.put, sA, s0, sS, i64_w, i32_w]; rfl
           refine pure_ (i := 29) (N := some 48) (v := undef) (a' := ?_) (rl_ true [30, 6]).toArray rfl rfl (any_of HT_.out (by kernel_rfl)) (fun _ _ _ h => h) (Or.inr ⟨by rfl, rfl⟩) ?_ ?_; rotate_left
           ·simp only [Act.put, sA, s0, sS, i64_w, i32_w]; rfl
           refine pure_ (i := 30) (N := some 49) (v := undef) (a' := ?_) (rl_ true [31, 5]).toArray rfl rfl (any_of HT_.out (by kernel_rfl)) (fun _ _ _ h => h) (Or.inr ⟨by rfl, rfl⟩) ?_ ?_; rotate_left
           ·simp only [Act.put, sA, s0, sS, i64_w, i32_w]; rfl
           refine pure_ (i := 31) (N := some 50) (v := undef) (a' := ?_) (rl_ true [32, 4]).toArray rfl rfl (any_of HT_.out (by kernel_rfl)) (fun _ _ _ h => h) (Or.inr ⟨by rfl, rfl⟩) ?_ ?_; rotate_left
           ·simp only [Act.put, sA, s0, sS, i64_w, i32_w]; rfl
           refine pure_ (i := 32) (N := some 51) (v := undef) (a' := ?_) (rl_ true [33, 3]).toArray rfl rfl (any_of HT_.out (by kernel_rfl)) (fun _ _ _ h => h) (Or.inr ⟨by rfl, rfl⟩) ?_ ?_; rotate_left
           ·simp only [Act.put, sA, s0, sS, i64_w, i32_w]; rfl
           refine pure_ (i := 33) (N := some 52) (v := undef) (a' := ?_) (rl_ true [34, 2]).toArray rfl rfl (any_of HT_.out (by kernel_rfl)) (fun _ _ _ h => h) (Or.inr ⟨by rfl, rfl⟩) ?_ ?_; rotate_left
           ·simp only [Act.put, sA, s0, sS, i64_w, i32_w]; rfl
           refine pure_ (i := 34) (N := some 53) (v := undef) (a' := ?_) (rl_ true [35, 1]).toArray rfl rfl (any_of HT_.out (by kernel_rfl)) (fun _ _ _ h => h) (Or.inr ⟨by rfl, rfl⟩) ?_ ?_; rotate_left
           ·simp only [Act.put, sA, s0, sS, i64_w, i32_w]; rfl
           refine pure_ (i := 35) (N := some 54) (v := ?_) (a' := ?_) (rl_ true [36]).toArray rfl rfl (any_of HT_.out (by kernel_rfl)) (fun _ _ _ h => h) (Or.inl ⟨by rfl, ?_⟩) ?_ ?_; rotate_left
           ·intro w'; go_simp; (with_reducible rfl)
           rotate_left
           ·simp only [Act.put, sA, s0, sS, i64_w, i32_w]; rfl
           refine done_ (done_of HT_.out (by kernel_rfl)) ?_
           try go_wp2
           go_meet
           case rel => exact ⟨_, (false), (by first | rfl | (simp; done) | (simp [*]; done)), H', ⟨by have := HK1.out; first | omega | exact Nat.le_refl _⟩, ⟨bq BK192⟩, ⟨qb HB⟩⟩
         ·rw [if_neg c26] at H; have c26b0 : (((rd_T44 l0 x14_1).f1).toList == ([] : List UInt8)) = false := beq_eq_false_iff_ne.mpr c26; have c26b1 : (((rd_T44 l0 x14_1).f1).toList != ([] : List UInt8)) = true := bne_iff_ne.mpr c26
          have c26b2 : ((rd_T44 l0 x14_1).f1).toList.isEmpty = false := by first | (rw [c26]; rfl) | (simpa using c26)
          have H' := Aside0.mk H; clear H
          try go_wp2
          have n0_ : Aside0 (((((((w9.setCell ⟨gb192, 0, none⟩ (.string ((rd_T44 l0 x14_1).f0))).setCell ⟨gb192, 1, none⟩ (.string ((rd_T44 l0 x14_1).f1))).setCell ⟨gb192, 2, none⟩ (.int .i64 ((rd_T44 l0 x14_1).f2))).setCell ⟨gb192, 3, none⟩ (.int .i64 ((rd_T44 l0 x14_1).f3))).setCell ⟨gb192, 4, none⟩ (.int .i64 ((rd_T44 l0 x14_1).f4))).setCell ⟨gb192, 5, none⟩ (.int .i64 ((rd_T44 l0 x14_1).f5))).heap[gb192]? = some (.cells #[.string ((rd_T44 l0 x14_1).f0), .string ((rd_T44 l0 x14_1).f1), .int .i64 ((rd_T44 l0 x14_1).f2), .int .i64 ((rd_T44 l0 x14_1).f3), .int .i64 ((rd_T44 l0 x14_1).f4), .int .i64 ((rd_T44 l0 x14_1).f5)] 44 (0, 0))) := ⟨by (with_reducible repeat (first | refine blk_drewN ?_ _ | refine blk_drew ?_ | refine blk_alloc ?_ _)); refine blk_put (cs := #[.string ((rd_T44 l0 x14_1).f0), .string ((rd_T44 l0 x14_1).f1), .int .i64 ((rd_T44 l0 x14_1).f2), .int .i64 ((rd_T44 l0 x14_1).f3), .int .i64 ((rd_T44 l0 x14_1).f4), .int .i64 0]) ?_ 5 _ rfl; (with_reducible repeat (first | refine blk_drewN ?_ _ | refine blk_drew ?_ | refine blk_alloc ?_ _)); refine blk_put (cs := #[.string ((rd_T44 l0 x14_1).f0), .string ((rd_T44 l0 x14_1).f1), .int .i64 ((rd_T44 l0 x14_1).f2), .int .i64 ((rd_T44 l0 x14_1).f3), .int .i64 0, .int .i64 0]) ?_ 4 _ rfl; (with_reducible repeat (first | refine blk_drewN ?_ _ | refine blk_drew ?_ | refine blk_alloc ?_ _)); refine blk_put (cs := #[.string ((rd_T44 l0 x14_1).f0), .string ((rd_T44 l0 x14_1).f1), .int .i64 ((rd_T44 l0 x14_1).f2), .int .i64 0, .int .i64 0, .int .i64 0]) ?_ 3 _ rfl; (with_reducible repeat (first | refine blk_drewN ?_ _ | refine blk_drew ?_ | refine blk_alloc ?_ _)); refine blk_put (cs := #[.string ((rd_T44 l0 x14_1).f0), .string ((rd_T44 l0 x14_1).f1), .int .i64 0, .int .i64 0, .int .i64 0, .int .i64 0]) ?_ 2 _ rfl; (with_reducible repeat (first | refine blk_drewN ?_ _ | refine blk_drew ?_ | refine blk_alloc ?_ _)); refine blk_put (cs := #[.string ((rd_T44 l0 x14_1).f0), .string (⟨#[]⟩ : ByteArray), .int .i64 0, .int .i64 0, .int .i64 0, .int .i64 0]) ?_ 1 _ rfl; (with_reducible repeat (first | refine blk_drewN ?_ _ | refine blk_drew ?_ | refine blk_alloc ?_ _)); refine blk_put (cs := #[.string (⟨#[]⟩ : ByteArray), .string (⟨#[]⟩ : ByteArray), .int .i64 0, .int .i64 0, .int .i64 0, .int .i64 0]) ?_ 0 _ rfl; (with_reducible repeat (first | refine blk_drewN ?_ _ | refine blk_drew ?_ | refine blk_alloc ?_ _)); exact BK192.out⟩; have n1_ : Aside0 (Below w.heap.size w ((((((w9.setCell ⟨gb192, 0, none⟩ (.string ((rd_T44 l0 x14_1).f0))).setCell ⟨gb192, 1, none⟩ (.string ((rd_T44 l0 x14_1).f1))).setCell ⟨gb192, 2, none⟩ (.int .i64 ((rd_T44 l0 x14_1).f2))).setCell ⟨gb192, 3, none⟩ (.int .i64 ((rd_T44 l0 x14_1).f3))).setCell ⟨gb192, 4, none⟩ (.int .i64 ((rd_T44 l0 x14_1).f4))).setCell ⟨gb192, 5, none⟩ (.int .i64 ((rd_T44 l0 x14_1).f5)))) := ⟨qb HB⟩; (try clear BK192); (try clear HB); generalize ((((((w9.setCell ⟨gb192, 0, none⟩ (.string ((rd_T44 l0 x14_1).f0))).setCell ⟨gb192, 1, none⟩ (.string ((rd_T44 l0 x14_1).f1))).setCell ⟨gb192, 2, none⟩ (.int .i64 ((rd_T44 l0 x14_1).f2))).setCell ⟨gb192, 3, none⟩ (.int .i64 ((rd_T44 l0 x14_1).f3))).setCell ⟨gb192, 4, none⟩ (.int .i64 ((rd_T44 l0 x14_1).f4))).setCell ⟨gb192, 5, none⟩ (.int .i64 ((rd_T44 l0 x14_1).f5))) = w40 at n0_ n1_ ⊢; have BK192 := n0_; have HB := n1_; clear n0_ n1_; have n0_ := Aside0.mk (blk_drew BK192.out); have n1_ := Aside0.mk (below_drew1 HB.out); clear BK192; clear HB; have BK192 := n0_; have HB := n1_; clear n0_ n1_; refine start_ (n := 36) (S := fun w' => w'.cell? ⟨gb192, 0, none⟩ = some (.string ((rd_T44 l0 x14_1).f0)) ∧ w'.cell? ⟨gb192, 1, none⟩ = some (.string ((rd_T44 l0 x14_1).f1)) ∧ w'.cell? ⟨gb192, 2, none⟩ = some (.int .i64 ((rd_T44 l0 x14_1).f2)) ∧ w'.cell? ⟨gb192, 3, none⟩ = some (.int .i64 ((rd_T44 l0 x14_1).f3)) ∧ w'.cell? ⟨gb192, 4, none⟩ = some (.int .i64 ((rd_T44 l0 x14_1).f4)) ∧ w'.cell? ⟨gb192, 5, none⟩ = some (.int .i64 ((rd_T44 l0 x14_1).f5))) (ds := []) (rl_ true [0, 36]).toArray (by kernel_rfl) rfl rfl ⟨(blk_cell BK192.out 0).trans rfl, (blk_cell BK192.out 1).trans rfl, (blk_cell BK192.out 2).trans rfl, (blk_cell BK192.out 3).trans rfl, (blk_cell BK192.out 4).trans rfl, (blk_cell BK192.out 5).trans rfl⟩ (fun hHeld => ?_); refine with_tabW impl_rowAt.tab5 impl_rowAt.bits5 (fun HT_ HW_ => ?_); generalize w40.drew = w41 at BK192 HB hHeld ⊢; refine pure_ (i := 0) (N := some 19) (v := ?_) (a' := ?_) (rl_ true [1, 35]).toArray rfl rfl (any_of HT_.out (by kernel_rfl)) (fun _ _ _ h => h) (Or.inl ⟨by rfl, ?_⟩) ?_ ?_; rotate_left
          ·intro w'; go_simp; (with_reducible rfl)
          rotate_left
          ·simp only [Act.put, sA, s0, sS, i64_w, i32_w]; rfl
          refine pure_ (i := 2) (N := some 21) (v := ?_) (a' := ?_) (rl_ true [1, 1, 1, 33]).toArray rfl rfl (any_of HT_.out (by kernel_rfl)) (fun _ _ _ h => h) (Or.inl ⟨by rfl, ?_⟩) ?_ ?_; rotate_left
          ·intro w'; go_simp; (with_reducible rfl)
          rotate_left
          ·simp only [Act.put, sA, s0, sS, i64_w, i32_w]; rfl
          refine take_ (i := 1) (N := some 20) (v := ?_) (a' := ?_) (rl_ true [3, 33]).toArray rfl rfl (take_ofW HT_.out HW_.out (by kernel_rfl)) (fun _ _ _ h => h) (Or.inl ⟨by rfl, ?_⟩) hHeld ?_ ?_; rotate_left
          ·rintro w' ⟨s0, s1, s2, s3, s4, s5⟩; go_simp; (with_reducible rfl)
          rotate_left
          ·simp only [Act.put, sA, s0, sS, i64_w, i32_w]; rfl
          refine pure_ (i := 3) (N := some 22) (v := ?_) (a' := ?_) (rl_ true [4, 32]).toArray rfl rfl (any_of HT_.out (by kernel_rfl)) (fun _ _ _ h => h) (Or.inl ⟨by rfl, ?_⟩) ?_ ?_; rotate_left
          ·intro w'; go_simp; (with_reducible rfl)
          rotate_left
          ·simp only [Act.put, sA, s0, sS, i64_w, i32_w]; rfl
          refine pure_ (i := 4) (N := some 23) (v := ?_) (a' := ?_) (rl_ true [5, 31]).toArray rfl rfl (any_of HT_.out (by kernel_rfl)) (fun _ _ _ h => h) (Or.inl ⟨by rfl, ?_⟩) ?_ ?_; rotate_left
          ·intro w'; go_simp; (with_reducible rfl)
          rotate_left
          ·simp only [Act.put, sA, s0, sS, i64_w, i32_w]; rfl
          refine pure_ (i := 5) (N := some 24) (v := ?_) (a' := ?_) (rl_ true [6, 30]).toArray rfl rfl (any_of HT_.out (by kernel_rfl)) (fun _ _ _ h => h) (Or.inl ⟨by rfl, ?_⟩) ?_ ?_; rotate_left
          ·intro w'; go_simp; (with_reducible rfl)
          rotate_left
          ·simp only [Act.put, sA, s0, sS, i64_w, i32_w]; rfl
          refine pure_ (i := 7) (N := some 26) (v := ?_) (a' := ?_) (rl_ true [6, 1, 1, 28]).toArray rfl rfl (any_of HT_.out (by kernel_rfl)) (fun _ _ _ h => h) (Or.inl ⟨by rfl, ?_⟩) ?_ ?_; rotate_left
          ·intro w'; go_simp; (with_reducible rfl)
          rotate_left
          ·simp only [Act.put, sA, s0, sS, i64_w, i32_w]; rfl
          refine take_ (i := 6) (N := some 25) (v := ?_) (a' := ?_) (rl_ true [8, 28]).toArray rfl rfl (take_ofW HT_.out HW_.out (by kernel_rfl)) (fun _ _ _ h => h) (Or.inl ⟨by rfl, ?_⟩) hHeld ?_ ?_; rotate_left
          ·rintro w' ⟨s0, s1, s2, s3, s4, s5⟩; go_simp; (with_reducible rfl)
          rotate_left
          ·simp only [Act.put, sA, s0, sS, i64_w, i32_w]; rfl
          refine pure_ (i := 8) (N := some 27) (v := ?_) (a' := ?_) (rl_ true [9, 27]).toArray rfl rfl (any_of HT_.out (by kernel_rfl)) (fun _ _ _ h => h) (Or.inl ⟨by rfl, ?_⟩) ?_ ?_; rotate_left
          ·intro w'; go_simp; (with_reducible rfl)
          rotate_left
          ·simp only [Act.put, sA, s0, sS, i64_w, i32_w]; rfl
          refine pure_ (i := 9) (N := some 28) (v := ?_) (a' := ?_) (rl_ true [10, 26]).toArray rfl rfl (any_of HT_.out (by kernel_rfl)) (fun _ _ _ h => h) (Or.inl ⟨by rfl, ?_⟩) ?_ ?_; rotate_left
          ·intro w'; go_simp; (with_reducible rfl)
          rotate_left
          ·simp only [Act.put, sA, s0, sS, i64_w, i32_w]; rfl
          refine pure_ (i := 10) (N := some 29) (v := ?_) (a' := ?_) (rl_ true [11, 25]).toArray rfl rfl (any_of HT_.out (by kernel_rfl)) (fun _ _ _ h => h) (Or.inl ⟨by rfl, ?_⟩) ?_ ?_; rotate_left
          ·intro w'; go_simp; (with_reducible rfl)
          rotate_left
          ·simp only [Act.put, sA, s0, sS, i64_w, i32_w]; rfl
          refine take_ (i := 11) (N := some 30) (v := ?_) (a' := ?_) (rl_ true [12, 24]).toArray rfl rfl (take_ofW HT_.out HW_.out (by kernel_rfl)) (fun _ _ _ h => h) (Or.inl ⟨by rfl, ?_⟩) hHeld ?_ ?_; rotate_left
          ·rintro w' ⟨s0, s1, s2, s3, s4, s5⟩; go_simp; (with_reducible rfl)
          rotate_left
          ·simp only [Act.put, sA, s0, sS, i64_w, i32_w]; rfl
          refine pure_ (i := 12) (N := some 31) (v := ?_) (a' := ?_) (rl_ true [13, 23]).toArray rfl rfl (any_of HT_.out (by kernel_rfl)) (fun _ _ _ h => h) (Or.inl ⟨by rfl, ?_⟩) ?_ ?_; rotate_left
          ·intro w'; go_simp; (with_reducible rfl)
          rotate_left
          ·simp only [Act.put, sA, s0, sS, i64_w, i32_w]; rfl
          refine pure_ (i := 13) (N := some 32) (v := ?_) (a' := ?_) (rl_ true [14, 22]).toArray rfl rfl (any_of HT_.out (by kernel_rfl)) (fun _ _ _ h => h) (Or.inl ⟨by rfl, ?_⟩) ?_ ?_; rotate_left
          ·intro w'; go_simp; (with_reducible rfl)
          rotate_left
          ·simp only [Act.put, sA, s0, sS, i64_w, i32_w]; rfl
          refine pure_ (i := 14) (N := some 33) (v := ?_) (a' := ?_) (rl_ true [15, 21]).toArray rfl rfl (any_of HT_.out (by kernel_rfl)) (fun _ _ _ h => h) (Or.inl ⟨by rfl, ?_⟩) ?_ ?_; rotate_left
          ·intro w'; go_simp; (with_reducible rfl)
          rotate_left
          ·simp only [Act.put, sA, s0, sS, i64_w, i32_w]; rfl
          refine pure_ (i := 15) (N := some 34) (v := ?_) (a' := ?_) (rl_ true [16, 20]).toArray rfl rfl (any_of HT_.out (by kernel_rfl)) (fun _ _ _ h => h) (Or.inl ⟨by rfl, ?_⟩) ?_ ?_; rotate_left
          ·intro w'; go_simp; (with_reducible rfl)
          rotate_left
          ·simp only [Act.put, sA, s0, sS, i64_w, i32_w]; rfl
          refine pure_ (i := 16) (N := some 35) (v := undef) (a' := ?_) (rl_ true [17, 19]).toArray rfl rfl (any_of HT_.out (by kernel_rfl)) (fun _ _ _ h => h) (Or.inr ⟨by rfl, rfl⟩) ?_ ?_; rotate_left
          ·simp only [Act.put, sA, s0, sS, i64_w, i32_w]; rfl
          refine pure_ (i := 17) (N := some 36) (v := undef) (a' := ?_) (rl_ true [18, 18]).toArray rfl rfl (any_of HT_.out (by kernel_rfl)) (fun _ _ _ h => h) (Or.inr ⟨by rfl, rfl⟩) ?_ ?_; rotate_left
          ·simp only [Act.put, sA, s0, sS, i64_w, i32_w]; rfl
          refine pure_ (i := 18) (N := some 37) (v := undef) (a' := ?_) (rl_ true [19, 17]).toArray rfl rfl (any_of HT_.out (by kernel_rfl)) (fun _ _ _ h => h) (Or.inr ⟨by rfl, rfl⟩) ?_ ?_; rotate_left
          ·simp only [Act.put, sA, s0, sS, i64_w, i32_w]; rfl
          refine pure_ (i := 19) (N := some 38) (v := undef) (a' := ?_) (rl_ true [20, 16]).toArray rfl rfl (any_of HT_.out (by kernel_rfl)) (fun _ _ _ h => h) (Or.inr ⟨by rfl, rfl⟩) ?_ ?_; rotate_left
          ·simp only [Act.put, sA, s0, sS, i64_w, i32_w]; rfl
          refine pure_ (i := 20) (N := some 39) (v := undef) (a' := ?_) (rl_ true [21, 15]).toArray rfl rfl (any_of HT_.out (by kernel_rfl)) (fun _ _ _ h => h) (Or.inr ⟨by rfl, rfl⟩) ?_ ?_; rotate_left
          ·simp only [Act.put, sA, s0, sS, i64_w, i32_w]; rfl
          refine pure_ (i := 21) (N := some 40) (v := undef) (a' := ?_) (rl_ true [22, 14]).toArray rfl rfl (any_of HT_.out (by kernel_rfl)) (fun _ _ _ h => h) (Or.inr ⟨by rfl, rfl⟩) ?_ ?_; rotate_left
          ·simp only [Act.put, sA, s0, sS, i64_w, i32_w]; rfl
          refine pure_ (i := 22) (N := some 41) (v := undef) (a' := ?_) (rl_ true [23, 13]).toArray rfl rfl (any_of HT_.out (by kernel_rfl)) (fun _ _ _ h => h) (Or.inr ⟨by rfl, rfl⟩) ?_ ?_; rotate_left
          ·simp only [Act.put, sA, s0, sS, i64_w, i32_w]; rfl
          refine pure_ (i := 23) (N := some 42) (v := ?_) (a' := ?_) (rl_ true [24, 12]).toArray rfl rfl (any_of HT_.out (by kernel_rfl)) (fun _ _ _ h => h) (Or.inl ⟨by rfl, ?_⟩) ?_ ?_; rotate_left
          ·intro w'; go_simp; (with_reducible rfl)
          rotate_left
          ·simp only [Act.put, sA, s0, sS, i64_w, i32_w]; rfl
          refine pure_ (i := 24) (N := some 43) (v := ?_) (a' := ?_) (rl_ true [25, 11]).toArray rfl rfl (any_of HT_.out (by kernel_rfl)) (fun _ _ _ h => h) (Or.inl ⟨by rfl, ?_⟩) ?_ ?_; rotate_left
          ·intro w'; go_simp; (with_reducible rfl)
          rotate_left
          ·simp only [Act.put, sA, s0, sS, i64_w, i32_w]; rfl
          refine pure_ (i := 25) (N := some 44) (v := undef) (a' := ?_) (rl_ true [26, 10]).toArray rfl rfl (any_of HT_.out (by kernel_rfl)) (fun _ _ _ h => h) (Or.inr ⟨by rfl, rfl⟩) ?_ ?_; rotate_left
          ·simp only [Act.put, sA, s0, sS, i64_w, i32_w]; rfl
          refine pure_ (i := 26) (N := some 45) (v := undef) (a' := ?_) (rl_ true [27, 9]).toArray rfl rfl (any_of HT_.out (by kernel_rfl)) (fun _ _ _ h => h) (Or.inr ⟨by rfl, rfl⟩) ?_ ?_; rotate_left
          ·simp only [Act.put, sA, s0, sS, i64_w, i32_w]; rfl
          refine pure_ (i := 27) (N := some 46) (v := undef) (a' := ?_) (rl_ true [28, 8]).toArray rfl rfl (any_of HT_.out (by kernel_rfl)) (fun _ _ _ h => h) (Or.inr ⟨by rfl, rfl⟩) ?_ ?_; rotate_left
          ·simp only [Act.put, sA, s0, sS, i64_w, i32_w]; rfl
          refine pure_ (i := 28) (N := some 47) (v := undef) (a' := ?_) (rl_ true [29, 7]).toArray rfl rfl (any_of HT_.out (by kernel_rfl)) (fun _ _ _ h => h) (Or.inr ⟨by rfl, rfl⟩) ?_ ?_; rotate_left
          ·simp only [Act.put, sA, s0, sS, i64_w, i32_w]; rfl
          refine pure_ (i := 29) (N := some 48) (v := undef) (a' := ?_) (rl_ true [30, 6]).toArray rfl rfl (any_of HT_.out (by kernel_rfl)) (fun _ _ _ h => h) (Or.inr ⟨by rfl, rfl⟩) ?_ ?_; rotate_left
          ·simp only [Act.put, sA, s0, sS, i64_w, i32_w]; rfl
          refine pure_ (i := 30) (N := some 49) (v := undef) (a' := ?_) (rl_ true [31, 5]).toArray rfl rfl (any_of HT_.out (by kernel_rfl)) (fun _ _ _ h => h) (Or.inr ⟨by rfl, rfl⟩) ?_ ?_; rotate_left
          ·simp only [Act.put, sA, s0, sS, i64_w, i32_w]; rfl
          refine pure_ (i := 31) (N := some 50) (v := undef) (a' := ?_) (rl_ true [32, 4]).toArray rfl rfl (any_of HT_.out (by kernel_rfl)) (fun _ _ _ h => h) (Or.inr ⟨by rfl, rfl⟩) ?_ ?_; rotate_left
          ·simp only [Act.put, sA, s0, sS, i64_w, i32_w]; rfl
          refine pure_ (i := 32) (N := some 51) (v := undef) (a' := ?_) (rl_ true [33, 3]).toArray rfl rfl (any_of HT_.out (by kernel_rfl)) (fun _ _ _ h => h) (Or.inr ⟨by rfl, rfl⟩) ?_ ?_; rotate_left
          ·simp only [Act.put, sA, s0, sS, i64_w, i32_w]; rfl
          refine pure_ (i := 33) (N := some 52) (v := undef) (a' := ?_) (rl_ true [34, 2]).toArray rfl rfl (any_of HT_.out (by kernel_rfl)) (fun _ _ _ h => h) (Or.inr ⟨by rfl, rfl⟩) ?_ ?_; rotate_left
          ·simp only [Act.put, sA, s0, sS, i64_w, i32_w]; rfl
          refine pure_ (i := 34) (N := some 53) (v := undef) (a' := ?_) (rl_ true [35, 1]).toArray rfl rfl (any_of HT_.out (by kernel_rfl)) (fun _ _ _ h => h) (Or.inr ⟨by rfl, rfl⟩) ?_ ?_; rotate_left
          ·simp only [Act.put, sA, s0, sS, i64_w, i32_w]; rfl
          refine pure_ (i := 35) (N := some 54) (v := ?_) (a' := ?_) (rl_ true [36]).toArray rfl rfl (any_of HT_.out (by kernel_rfl)) (fun _ _ _ h => h) (Or.inl ⟨by rfl, ?_⟩) ?_ ?_; rotate_left
          ·intro w'; go_simp; (with_reducible rfl)
          rotate_left
          ·simp only [Act.put, sA, s0, sS, i64_w, i32_w]; rfl
          refine done_ (done_of HT_.out (by kernel_rfl)) ?_
          try go_wp2
          go_meet
          case rel => exact ⟨_, (false), (by first | rfl | (simp; done) | (simp [*]; done)), H', ⟨by have := HK1.out; first | omega | exact Nat.le_refl _⟩, ⟨bq BK192⟩, ⟨qb HB⟩⟩
       ·rw [if_neg c11] at H; have c11b0 : (((rd_T44 l0 x14_1).f0).toList == a1.toList) = false := beq_eq_false_iff_ne.mpr c11; have c11b1 : (((rd_T44 l0 x14_1).f0).toList != a1.toList) = true := bne_iff_ne.mpr c11
        (first | rw [c11b0] | (simp only [i64_w, i32_w]; rw [c11b0]) | skip)
        have H' := Aside0.mk H; clear H
        try go_wp2
        have n0_ : Aside0 (((((((w9.setCell ⟨gb192, 0, none⟩ (.string ((rd_T44 l0 x14_1).f0))).setCell ⟨gb192, 1, none⟩ (.string ((rd_T44 l0 x14_1).f1))).setCell ⟨gb192, 2, none⟩ (.int .i64 ((rd_T44 l0 x14_1).f2))).setCell ⟨gb192, 3, none⟩ (.int .i64 ((rd_T44 l0 x14_1).f3))).setCell ⟨gb192, 4, none⟩ (.int .i64 ((rd_T44 l0 x14_1).f4))).setCell ⟨gb192, 5, none⟩ (.int .i64 ((rd_T44 l0 x14_1).f5))).heap[gb192]? = some (.cells #[.string ((rd_T44 l0 x14_1).f0), .string ((rd_T44 l0 x14_1).f1), .int .i64 ((rd_T44 l0 x14_1).f2), .int .i64 ((rd_T44 l0 x14_1).f3), .int .i64 ((rd_T44 l0 x14_1).f4), .int .i64 ((rd_T44 l0 x14_1).f5)] 44 (0, 0))) := ⟨by (with_reducible repeat (first | refine blk_drewN ?_ _ | refine blk_drew ?_ | refine blk_alloc ?_ _)); refine blk_put (cs := #[.string ((rd_T44 l0 x14_1).f0), .string ((rd_T44 l0 x14_1).f1), .int .i64 ((rd_T44 l0 x14_1).f2), .int .i64 ((rd_T44 l0 x14_1).f3), .int .i64 ((rd_T44 l0 x14_1).f4), .int .i64 0]) ?_ 5 _ rfl; (with_reducible repeat (first | refine blk_drewN ?_ _ | refine blk_drew ?_ | refine blk_alloc ?_ _)); refine blk_put (cs := #[.string ((rd_T44 l0 x14_1).f0), .string ((rd_T44 l0 x14_1).f1), .int .i64 ((rd_T44 l0 x14_1).f2), .int .i64 ((rd_T44 l0 x14_1).f3), .int .i64 0, .int .i64 0]) ?_ 4 _ rfl; (with_reducible repeat (first | refine blk_drewN ?_ _ | refine blk_drew ?_ | refine blk_alloc ?_ _)); refine blk_put (cs := #[.string ((rd_T44 l0 x14_1).f0), .string ((rd_T44 l0 x14_1).f1), .int .i64 ((rd_T44 l0 x14_1).f2), .int .i64 0, .int .i64 0, .int .i64 0]) ?_ 3 _ rfl; (with_reducible repeat (first | refine blk_drewN ?_ _ | refine blk_drew ?_ | refine blk_alloc ?_ _)); refine blk_put (cs := #[.string ((rd_T44 l0 x14_1).f0), .string ((rd_T44 l0 x14_1).f1), .int .i64 0, .int .i64 0, .int .i64 0, .int .i64 0]) ?_ 2 _ rfl; (with_reducible repeat (first | refine blk_drewN ?_ _ | refine blk_drew ?_ | refine blk_alloc ?_ _)); refine blk_put (cs := #[.string ((rd_T44 l0 x14_1).f0), .string (⟨#[]⟩ : ByteArray), .int .i64 0, .int .i64 0, .int .i64 0, .int .i64 0]) ?_ 1 _ rfl; (with_reducible repeat (first | refine blk_drewN ?_ _ | refine blk_drew ?_ | refine blk_alloc ?_ _)); refine blk_put (cs := #[.string (⟨#[]⟩ : ByteArray), .string (⟨#[]⟩ : ByteArray), .int .i64 0, .int .i64 0, .int .i64 0, .int .i64 0]) ?_ 0 _ rfl; (with_reducible repeat (first | refine blk_drewN ?_ _ | refine blk_drew ?_ | refine blk_alloc ?_ _)); exact BK192.out⟩; have n1_ : Aside0 (Below w.heap.size w ((((((w9.setCell ⟨gb192, 0, none⟩ (.string ((rd_T44 l0 x14_1).f0))).setCell ⟨gb192, 1, none⟩ (.string ((rd_T44 l0 x14_1).f1))).setCell ⟨gb192, 2, none⟩ (.int .i64 ((rd_T44 l0 x14_1).f2))).setCell ⟨gb192, 3, none⟩ (.int .i64 ((rd_T44 l0 x14_1).f3))).setCell ⟨gb192, 4, none⟩ (.int .i64 ((rd_T44 l0 x14_1).f4))).setCell ⟨gb192, 5, none⟩ (.int .i64 ((rd_T44 l0 x14_1).f5)))) := ⟨qb HB⟩; (try clear BK192); (try clear HB); generalize ((((((w9.setCell ⟨gb192, 0, none⟩ (.string ((rd_T44 l0 x14_1).f0))).setCell ⟨gb192, 1, none⟩ (.string ((rd_T44 l0 x14_1).f1))).setCell ⟨gb192, 2, none⟩ (.int .i64 ((rd_T44 l0 x14_1).f2))).setCell ⟨gb192, 3, none⟩ (.int .i64 ((rd_T44 l0 x14_1).f3))).setCell ⟨gb192, 4, none⟩ (.int .i64 ((rd_T44 l0 x14_1).f4))).setCell ⟨gb192, 5, none⟩ (.int .i64 ((rd_T44 l0 x14_1).f5))) = w42 at n0_ n1_ ⊢; have BK192 := n0_; have HB := n1_; clear n0_ n1_; have n0_ := Aside0.mk (blk_drew BK192.out); have n1_ := Aside0.mk (below_drew1 HB.out); clear BK192; clear HB; have BK192 := n0_; have HB := n1_; clear n0_ n1_; refine start_ (n := 36) (S := fun w' => w'.cell? ⟨gb192, 0, none⟩ = some (.string ((rd_T44 l0 x14_1).f0)) ∧ w'.cell? ⟨gb192, 1, none⟩ = some (.string ((rd_T44 l0 x14_1).f1)) ∧ w'.cell? ⟨gb192, 2, none⟩ = some (.int .i64 ((rd_T44 l0 x14_1).f2)) ∧ w'.cell? ⟨gb192, 3, none⟩ = some (.int .i64 ((rd_T44 l0 x14_1).f3)) ∧ w'.cell? ⟨gb192, 4, none⟩ = some (.int .i64 ((rd_T44 l0 x14_1).f4)) ∧ w'.cell? ⟨gb192, 5, none⟩ = some (.int .i64 ((rd_T44 l0 x14_1).f5))) (ds := []) (rl_ true [0, 36]).toArray (by kernel_rfl) rfl rfl ⟨(blk_cell BK192.out 0).trans rfl, (blk_cell BK192.out 1).trans rfl, (blk_cell BK192.out 2).trans rfl, (blk_cell BK192.out 3).trans rfl, (blk_cell BK192.out 4).trans rfl, (blk_cell BK192.out 5).trans rfl⟩ (fun hHeld => ?_); refine with_tabW impl_rowAt.tab5 impl_rowAt.bits5 (fun HT_ HW_ => ?_); generalize w42.drew = w43 at BK192 HB hHeld ⊢; refine pure_ (i := 0) (N := some 19) (v := ?_) (a' := ?_) (rl_ true [1, 35]).toArray rfl rfl (any_of HT_.out (by kernel_rfl)) (fun _ _ _ h => h) (Or.inl ⟨by rfl, ?_⟩) ?_ ?_; rotate_left
        ·intro w'; go_simp; (with_reducible rfl)
        rotate_left
        ·simp only [Act.put, sA, s0, sS, i64_w, i32_w]; rfl
        refine pure_ (i := 2) (N := some 21) (v := ?_) (a' := ?_) (rl_ true [1, 1, 1, 33]).toArray rfl rfl (any_of HT_.out (by kernel_rfl)) (fun _ _ _ h => h) (Or.inl ⟨by rfl, ?_⟩) ?_ ?_; rotate_left
        ·intro w'; go_simp; (with_reducible rfl)
        rotate_left
        ·simp only [Act.put, sA, s0, sS, i64_w, i32_w]; rfl
        refine take_ (i := 1) (N := some 20) (v := ?_) (a' := ?_) (rl_ true [3, 33]).toArray rfl rfl (take_ofW HT_.out HW_.out (by kernel_rfl)) (fun _ _ _ h => h) (Or.inl ⟨by rfl, ?_⟩) hHeld ?_ ?_; rotate_left
        ·rintro w' ⟨s0, s1, s2, s3, s4, s5⟩; go_simp; (with_reducible rfl)
        rotate_left
        ·simp only [Act.put, sA, s0, sS, i64_w, i32_w]; rfl
        refine pure_ (i := 3) (N := some 22) (v := ?_) (a' := ?_) (rl_ true [4, 32]).toArray rfl rfl (any_of HT_.out (by kernel_rfl)) (fun _ _ _ h => h) (Or.inl ⟨by rfl, ?_⟩) ?_ ?_; rotate_left
        ·intro w'; go_simp; (with_reducible rfl)
        rotate_left
        ·simp only [Act.put, sA, s0, sS, i64_w, i32_w]; rfl
        refine pure_ (i := 4) (N := some 23) (v := ?_) (a' := ?_) (rl_ true [5, 31]).toArray rfl rfl (any_of HT_.out (by kernel_rfl)) (fun _ _ _ h => h) (Or.inl ⟨by rfl, ?_⟩) ?_ ?_; rotate_left
        ·intro w'; go_simp; (with_reducible rfl)
        rotate_left
        ·simp only [Act.put, sA, s0, sS, i64_w, i32_w]; rfl
        refine pure_ (i := 5) (N := some 24) (v := undef) (a' := ?_) (rl_ true [6, 30]).toArray rfl rfl (any_of HT_.out (by kernel_rfl)) (fun _ _ _ h => h) (Or.inr ⟨by rfl, rfl⟩) ?_ ?_; rotate_left
        ·simp only [Act.put, sA, s0, sS, i64_w, i32_w]; rfl
        refine pure_ (i := 6) (N := some 25) (v := undef) (a' := ?_) (rl_ true [7, 29]).toArray rfl rfl (any_of HT_.out (by kernel_rfl)) (fun _ _ _ h => h) (Or.inr ⟨by rfl, rfl⟩) ?_ ?_; rotate_left
        ·simp only [Act.put, sA, s0, sS, i64_w, i32_w]; rfl
        refine pure_ (i := 7) (N := some 26) (v := undef) (a' := ?_) (rl_ true [8, 28]).toArray rfl rfl (any_of HT_.out (by kernel_rfl)) (fun _ _ _ h => h) (Or.inr ⟨by rfl, rfl⟩) ?_ ?_; rotate_left
        ·simp only [Act.put, sA, s0, sS, i64_w, i32_w]; rfl
        refine pure_ (i := 8) (N := some 27) (v := undef) (a' := ?_) (rl_ true [9, 27]).toArray rfl rfl (any_of HT_.out (by kernel_rfl)) (fun _ _ _ h => h) (Or.inr ⟨by rfl, rfl⟩) ?_ ?_; rotate_left
        ·simp only [Act.put, sA, s0, sS, i64_w, i32_w]; rfl
        refine pure_ (i := 9) (N := some 28) (v := undef) (a' := ?_) (rl_ true [10, 26]).toArray rfl rfl (any_of HT_.out (by kernel_rfl)) (fun _ _ _ h => h) (Or.inr ⟨by rfl, rfl⟩) ?_ ?_; rotate_left
        ·simp only [Act.put, sA, s0, sS, i64_w, i32_w]; rfl
        refine pure_ (i := 10) (N := some 29) (v := undef) (a' := ?_) (rl_ true [11, 25]).toArray rfl rfl (any_of HT_.out (by kernel_rfl)) (fun _ _ _ h => h) (Or.inr ⟨by rfl, rfl⟩) ?_ ?_; rotate_left
        ·simp only [Act.put, sA, s0, sS, i64_w, i32_w]; rfl
        refine pure_ (i := 11) (N := some 30) (v := undef) (a' := ?_) (rl_ true [12, 24]).toArray rfl rfl (any_of HT_.out (by kernel_rfl)) (fun _ _ _ h => h) (Or.inr ⟨by rfl, rfl⟩) ?_ ?_; rotate_left
        ·simp only [Act.put, sA, s0, sS, i64_w, i32_w]; rfl
        refine pure_ (i := 12) (N := some 31) (v := undef) (a' := ?_) (rl_ true [13, 23]).toArray rfl rfl (any_of HT_.out (by kernel_rfl)) (fun _ _ _ h => h) (Or.inr ⟨by rfl, rfl⟩) ?_ ?_; rotate_left
        ·simp only [Act.put, sA, s0, sS, i64_w, i32_w]; rfl
        refine pure_ (i := 13) (N := some 32) (v := undef) (a' := ?_) (rl_ true [14, 22]).toArray rfl rfl (any_of HT_.out (by kernel_rfl)) (fun _ _ _ h => h) (Or.inr ⟨by rfl, rfl⟩) ?_ ?_; rotate_left
        ·simp only [Act.put, sA, s0, sS, i64_w, i32_w]; rfl
        refine pure_ (i := 14) (N := some 33) (v := ?_) (a' := ?_) (rl_ true [15, 21]).toArray rfl rfl (any_of HT_.out (by kernel_rfl)) (fun _ _ _ h => h) (Or.inl ⟨by rfl, ?_⟩) ?_ ?_; rotate_left
        ·intro w'; go_simp; (with_reducible rfl)
        rotate_left
        ·simp only [Act.put, sA, s0, sS, i64_w, i32_w]; rfl
        refine pure_ (i := 15) (N := some 34) (v := ?_) (a' := ?_) (rl_ true [16, 20]).toArray rfl rfl (any_of HT_.out (by kernel_rfl)) (fun _ _ _ h => h) (Or.inl ⟨by rfl, ?_⟩) ?_ ?_; rotate_left
        ·intro w'; go_simp; (with_reducible rfl)
        rotate_left
        ·simp only [Act.put, sA, s0, sS, i64_w, i32_w]; rfl
        refine pure_ (i := 16) (N := some 35) (v := undef) (a' := ?_) (rl_ true [17, 19]).toArray rfl rfl (any_of HT_.out (by kernel_rfl)) (fun _ _ _ h => h) (Or.inr ⟨by rfl, rfl⟩) ?_ ?_; rotate_left
        ·simp only [Act.put, sA, s0, sS, i64_w, i32_w]; rfl
        refine pure_ (i := 17) (N := some 36) (v := undef) (a' := ?_) (rl_ true [18, 18]).toArray rfl rfl (any_of HT_.out (by kernel_rfl)) (fun _ _ _ h => h) (Or.inr ⟨by rfl, rfl⟩) ?_ ?_; rotate_left
        ·simp only [Act.put, sA, s0, sS, i64_w, i32_w]; rfl
        refine pure_ (i := 18) (N := some 37) (v := undef) (a' := ?_) (rl_ true [19, 17]).toArray rfl rfl (any_of HT_.out (by kernel_rfl)) (fun _ _ _ h => h) (Or.inr ⟨by rfl, rfl⟩) ?_ ?_; rotate_left
        ·simp only [Act.put, sA, s0, sS, i64_w, i32_w]; rfl
        refine pure_ (i := 19) (N := some 38) (v := undef) (a' := ?_) (rl_ true [20, 16]).toArray rfl rfl (any_of HT_.out (by kernel_rfl)) (fun _ _ _ h => h) (Or.inr ⟨by rfl, rfl⟩) ?_ ?_; rotate_left
        ·simp only [Act.put, sA, s0, sS, i64_w, i32_w]; rfl
        refine pure_ (i := 20) (N := some 39) (v := undef) (a' := ?_) (rl_ true [21, 15]).toArray rfl rfl (any_of HT_.out (by kernel_rfl)) (fun _ _ _ h => h) (Or.inr ⟨by rfl, rfl⟩) ?_ ?_; rotate_left
        ·simp only [Act.put, sA, s0, sS, i64_w, i32_w]; rfl
        refine pure_ (i := 21) (N := some 40) (v := undef) (a' := ?_) (rl_ true [22, 14]).toArray rfl rfl (any_of HT_.out (by kernel_rfl)) (fun _ _ _ h => h) (Or.inr ⟨by rfl, rfl⟩) ?_ ?_; rotate_left
        ·simp only [Act.put, sA, s0, sS, i64_w, i32_w]; rfl
        refine pure_ (i := 22) (N := some 41) (v := undef) (a' := ?_) (rl_ true [23, 13]).toArray rfl rfl (any_of HT_.out (by kernel_rfl)) (fun _ _ _ h => h) (Or.inr ⟨by rfl, rfl⟩) ?_ ?_; rotate_left
        ·simp only [Act.put, sA, s0, sS, i64_w, i32_w]; rfl
        refine pure_ (i := 23) (N := some 42) (v := ?_) (a' := ?_) (rl_ true [24, 12]).toArray rfl rfl (any_of HT_.out (by kernel_rfl)) (fun _ _ _ h => h) (Or.inl ⟨by rfl, ?_⟩) ?_ ?_; rotate_left
        ·intro w'; go_simp; (with_reducible rfl)
        rotate_left
        ·simp only [Act.put, sA, s0, sS, i64_w, i32_w]; rfl
        refine pure_ (i := 24) (N := some 43) (v := ?_) (a' := ?_) (rl_ true [25, 11]).toArray rfl rfl (any_of HT_.out (by kernel_rfl)) (fun _ _ _ h => h) (Or.inl ⟨by rfl, ?_⟩) ?_ ?_; rotate_left
        ·intro w'; go_simp; (with_reducible rfl)
        rotate_left
        ·simp only [Act.put, sA, s0, sS, i64_w, i32_w]; rfl
        refine pure_ (i := 25) (N := some 44) (v := undef) (a' := ?_) (rl_ true [26, 10]).toArray rfl rfl (any_of HT_.out (by kernel_rfl)) (fun _ _ _ h => h) (Or.inr ⟨by rfl, rfl⟩) ?_ ?_; rotate_left
        ·simp only [Act.put, sA, s0, sS, i64_w, i32_w]; rfl
        refine pure_ (i := 26) (N := some 45) (v := undef) (a' := ?_) (rl_ true [27, 9]).toArray rfl rfl (any_of HT_.out (by kernel_rfl)) (fun _ _ _ h => h) (Or.inr ⟨by rfl, rfl⟩) ?_ ?_; rotate_left
        ·simp only [Act.put, sA, s0, sS, i64_w, i32_w]; rfl
        refine pure_ (i := 27) (N := some 46) (v := undef) (a' := ?_) (rl_ true [28, 8]).toArray rfl rfl (any_of HT_.out (by kernel_rfl)) (fun _ _ _ h => h) (Or.inr ⟨by rfl, rfl⟩) ?_ ?_; rotate_left
        ·simp only [Act.put, sA, s0, sS, i64_w, i32_w]; rfl
        refine pure_ (i := 28) (N := some 47) (v := undef) (a' := ?_) (rl_ true [29, 7]).toArray rfl rfl (any_of HT_.out (by kernel_rfl)) (fun _ _ _ h => h) (Or.inr ⟨by rfl, rfl⟩) ?_ ?_; rotate_left
        ·simp only [Act.put, sA, s0, sS, i64_w, i32_w]; rfl
        refine pure_ (i := 29) (N := some 48) (v := undef) (a' := ?_) (rl_ true [30, 6]).toArray rfl rfl (any_of HT_.out (by kernel_rfl)) (fun _ _ _ h => h) (Or.inr ⟨by rfl, rfl⟩) ?_ ?_; rotate_left
        ·simp only [Act.put, sA, s0, sS, i64_w, i32_w]; rfl
        refine pure_ (i := 30) (N := some 49) (v := undef) (a' := ?_) (rl_ true [31, 5]).toArray rfl rfl (any_of HT_.out (by kernel_rfl)) (fun _ _ _ h => h) (Or.inr ⟨by rfl, rfl⟩) ?_ ?_; rotate_left
        ·simp only [Act.put, sA, s0, sS, i64_w, i32_w]; rfl
        refine pure_ (i := 31) (N := some 50) (v := undef) (a' := ?_) (rl_ true [32, 4]).toArray rfl rfl (any_of HT_.out (by kernel_rfl)) (fun _ _ _ h => h) (Or.inr ⟨by rfl, rfl⟩) ?_ ?_; rotate_left
        ·simp only [Act.put, sA, s0, sS, i64_w, i32_w]; rfl
        refine pure_ (i := 32) (N := some 51) (v := undef) (a' := ?_) (rl_ true [33, 3]).toArray rfl rfl (any_of HT_.out (by kernel_rfl)) (fun _ _ _ h => h) (Or.inr ⟨by rfl, rfl⟩) ?_ ?_; rotate_left
        ·simp only [Act.put, sA, s0, sS, i64_w, i32_w]; rfl
        refine pure_ (i := 33) (N := some 52) (v := undef) (a' := ?_) (rl_ true [34, 2]).toArray rfl rfl (any_of HT_.out (by kernel_rfl)) (fun _ _ _ h => h) (Or.inr ⟨by rfl, rfl⟩) ?_ ?_; rotate_left
        ·simp only [Act.put, sA, s0, sS, i64_w, i32_w]; rfl
        refine pure_ (i := 34) (N := some 53) (v := undef) (a' := ?_) (rl_ true [35, 1]).toArray rfl rfl (any_of HT_.out (by kernel_rfl)) (fun _ _ _ h => h) (Or.inr ⟨by rfl, rfl⟩) ?_ ?_; rotate_left
        ·simp only [Act.put, sA, s0, sS, i64_w, i32_w]; rfl
        refine pure_ (i := 35) (N := some 54) (v := ?_) (a' := ?_) (rl_ true [36]).toArray rfl rfl (any_of HT_.out (by kernel_rfl)) (fun _ _ _ h => h) (Or.inl ⟨by rfl, ?_⟩) ?_ ?_; rotate_left
        ·intro w'; go_simp; (with_reducible rfl)
        rotate_left
        ·simp only [Act.put, sA, s0, sS, i64_w, i32_w]; rfl
        refine done_ (done_of HT_.out (by kernel_rfl)) ?_
        try go_wp2
        go_meet
        case rel => exact ⟨_, (false), (by first | rfl | (simp; done) | (simp [*]; done)), H', ⟨by have := HK1.out; first | omega | exact Nat.le_refl _⟩, ⟨bq BK192⟩, ⟨qb HB⟩⟩
      case rest =>
       clear HC8; (try clear c1); (try clear c2); (try clear p2); (try clear c4); (try clear p6); (try clear c11); (try clear c11b0); (try clear c11b1); (try clear c26); (try clear c26b0); (try clear c26b1); (try clear c26b2); obtain ⟨kq, x54_7, rfl, HA, HJ7, BK192, HB⟩ := hcut
       cases kq with
       | zero => exact absurd HA.out (by simp [impl_rowAt.j1])
       | succ kj7 =>
        have H := HA.out; clear HA; simp only [impl_rowAt.j1] at H; by_cases c44 : x54_7 = true
        ·subst c44
         have H1 : (impl_rowAt.l0 kj7 l0 a1 a2 a3 x14_1 l0 (l0.length : Int) (wrap64 (x14_1 + 1))) = some r := by rw [if_pos rfl] at H; exact H
         clear H; have H := H1; clear H1; have H' := Aside0.mk H; clear H; go_wp2
         go_roundg kj7
         case measure => have := HK1.out; have := HJ7.out; omega
         case rel => exact ⟨(x14_1), (wrap64 (x14_1 + 1)), (by first | rfl | (simp; done) | (simp [*]; done)), (by first | rfl | (simp; done) | (simp [*]; done)), H', ⟨by have := HK1.out; have := HJ7.out; omega⟩, ⟨qb HB⟩⟩
        ·replace c44 := Bool.eq_false_iff.mpr c44; subst c44
         have H1 : (impl_rowAt.l0 kj7 l0 a1 a2 a3 x9_1 l0 (l0.length : Int) (wrap64 (x14_1 + 1))) = some r := by rw [if_neg (show ¬ (false = true) by decide)] at H; exact H
         clear H; have H := H1; clear H1; have H' := Aside0.mk H; clear H; go_wp2
         go_roundg kj7
         case measure => have := HK1.out; have := HJ7.out; omega
         case rel => exact ⟨(x9_1), (wrap64 (x14_1 + 1)), (by first | rfl | (simp; done) | (simp [*]; done)), (by first | rfl | (simp; done) | (simp [*]; done)), H', ⟨by have := HK1.out; have := HJ7.out; omega⟩, ⟨qb HB⟩⟩
     ·rw [if_neg c7] at H; exact absurd H (by simp)
    ·rw [if_neg c6] at H; exact absurd H (by simp)
   ·rw [if_neg c5] at H; have c5b0 : decide (x14_1 < (l0.length : Int)) = false := decide_eq_false c5; clear c5; obtain rfl := Option.some.inj H; go_wp2; go_ret; exact ⟨eqq, qb HB⟩

/-! ### impl_PriceSteps: function 8 -/
mutual
def impl_PriceSteps.j0 : Nat → List (S44) → ByteArray → ByteArray → Int → Int → Bool → Option ((List (S40)) × Int)
 | 0, _, _, _, _, _, _ => none
 | k + 1, x0, x1, x2, x3, x4, x23 => if x23 = true then (some (([] : List (S40)), 2)) else ((impl_PricesOK.f k x0).bind fun t204 => (if t204 = true then (if x3 < 0 then (some (([] : List (S40)), 5)) else (if x3 ≥ x4 then (some (([] : List (S40)), 5)) else (if x4 > 10000000 then (some (([] : List (S40)), 5)) else (impl_PriceSteps.l0 k x0 x1 x2 x3 x4 (([x3] : List Int)) x0 (x0.length : Int) 0)))) else (some (([] : List (S40)), 1))))
def impl_PriceSteps.l0 : Nat → List (S44) → ByteArray → ByteArray → Int → Int → List Int → List (S44) → Int → Int → Option ((List (S40)) × Int)
 | 0, _, _, _, _, _, _, _, _, _ => none
 | k + 1, x0, x1, x2, x3, x4, x12, x52, x53, x54 => if x54 < x53 then (if 0 ≤ x54 then (if x54 < (x52.length : Int) then ((some (([(rd_T44 x52 x54).f3, (rd_T44 x52 x54).f4] : List Int) : List Int)).bind fun y210 => (impl_PriceSteps.l1 k x0 x1 x2 x3 x4 x12 x52 x53 x54 y210 (y210.length : Int) 0)) else (none)) else (none)) else ((slices_Sort_int_int.f x12).bind fun t217 => ((slices_Compact_int_int.f t217).bind fun t221 => (impl_PriceSteps.l2 k x0 x1 x2 (([] : List (S40))) t221 (t221.length : Int) 0)))
def impl_PriceSteps.l1 : Nat → List (S44) → ByteArray → ByteArray → Int → Int → List Int → List (S44) → Int → Int → List Int → Int → Int → Option ((List (S40)) × Int)
 | 0, _, _, _, _, _, _, _, _, _, _, _, _ => none
 | k + 1, x0, x1, x2, x3, x4, x12, x52, x53, x54, x62, x63, x64 => if x64 < x63 then (if 0 ≤ x64 then (if x64 < (x62.length : Int) then (if (rd x62 x64) > x3 then (if (rd x62 x64) < x4 then (if x12.length < 17592186044416 then (impl_PriceSteps.l1 k x0 x1 x2 x3 x4 (x12 ++ [rd x62 x64]) x52 x53 x54 x62 x63 (wrap64 (x64 + 1))) else (none)) else (impl_PriceSteps.l1 k x0 x1 x2 x3 x4 x12 x52 x53 x54 x62 x63 (wrap64 (x64 + 1)))) else (impl_PriceSteps.l1 k x0 x1 x2 x3 x4 x12 x52 x53 x54 x62 x63 (wrap64 (x64 + 1)))) else (none)) else (none)) else (impl_PriceSteps.l0 k x0 x1 x2 x3 x4 x12 x52 x53 (wrap64 (x54 + 1)))
def impl_PriceSteps.l2 : Nat → List (S44) → ByteArray → ByteArray → List (S40) → List Int → Int → Int → Option ((List (S40)) × Int)
 | 0, _, _, _, _, _, _, _ => none
 | k + 1, x0, x1, x2, x17, x86, x87, x88 => if x88 < x87 then (if 0 ≤ x88 then (if x88 < (x86.length : Int) then ((impl_rowAt.f k x0 x1 x2 (rd x86 x88)).bind fun t225 => (if t225 ≥ 0 then (if 0 ≤ t225 then (if t225 < (x0.length : Int) then (if (x17.length : Int) = 0 then (if x17.length < 8796093022208 then (impl_PriceSteps.l2 k x0 x1 x2 (x17 ++ [(⟨rd x86 x88, (rd_T44 x0 t225).f5⟩ : S40)]) x86 x87 (wrap64 (x88 + 1))) else (none)) else (if 0 ≤ (wrap64 ((x17.length : Int) - 1)) then (if (wrap64 ((x17.length : Int) - 1)) < (x17.length : Int) then (if ((rd_T40 x17 (wrap64 ((x17.length : Int) - 1))).f1) = ((rd_T44 x0 t225).f5) then (impl_PriceSteps.l2 k x0 x1 x2 x17 x86 x87 (wrap64 (x88 + 1))) else (if x17.length < 8796093022208 then (impl_PriceSteps.l2 k x0 x1 x2 (x17 ++ [(⟨rd x86 x88, (rd_T44 x0 t225).f5⟩ : S40)]) x86 x87 (wrap64 (x88 + 1))) else (none))) else (none)) else (none))) else (none)) else (none)) else (if (x17.length : Int) = 0 then (if x17.length < 8796093022208 then (impl_PriceSteps.l2 k x0 x1 x2 (x17 ++ [(⟨rd x86 x88, (-1)⟩ : S40)]) x86 x87 (wrap64 (x88 + 1))) else (none)) else (if 0 ≤ (wrap64 ((x17.length : Int) - 1)) then (if (wrap64 ((x17.length : Int) - 1)) < (x17.length : Int) then (if ((rd_T40 x17 (wrap64 ((x17.length : Int) - 1))).f1) = (-1) then (impl_PriceSteps.l2 k x0 x1 x2 x17 x86 x87 (wrap64 (x88 + 1))) else (if x17.length < 8796093022208 then (impl_PriceSteps.l2 k x0 x1 x2 (x17 ++ [(⟨rd x86 x88, (-1)⟩ : S40)]) x86 x87 (wrap64 (x88 + 1))) else (none))) else (none)) else (none))))) else (none)) else (none)) else (some (x17, 0))
end
def impl_PriceSteps.f (k : Nat) (l0 : List (S44)) (a1 : ByteArray) (a2 : ByteArray) (a3 : Int) (a4 : Int) : Option ((List (S40)) × Int) := (impl_PriceRow_24.f l0).bind fun t199 => (if t199 = true then ((impl_areTexts.f (([a1, a2] : List ByteArray))).bind fun t203 => (impl_PriceSteps.j0 k l0 a1 a2 a3 a4 (!t203))) else (impl_PriceSteps.j0 k l0 a1 a2 a3 a4 true))
theorem impl_PriceSteps.mono_l : ∀ k, (∀ y0 y1 y2 y3 y4 y5, LeO (impl_PriceSteps.j0 k y0 y1 y2 y3 y4 y5) (impl_PriceSteps.j0 (k + 1) y0 y1 y2 y3 y4 y5)) ∧ (∀ y0 y1 y2 y3 y4 y5 y6 y7 y8, LeO (impl_PriceSteps.l0 k y0 y1 y2 y3 y4 y5 y6 y7 y8) (impl_PriceSteps.l0 (k + 1) y0 y1 y2 y3 y4 y5 y6 y7 y8)) ∧ (∀ y0 y1 y2 y3 y4 y5 y6 y7 y8 y9 y10 y11, LeO (impl_PriceSteps.l1 k y0 y1 y2 y3 y4 y5 y6 y7 y8 y9 y10 y11) (impl_PriceSteps.l1 (k + 1) y0 y1 y2 y3 y4 y5 y6 y7 y8 y9 y10 y11)) ∧ (∀ y0 y1 y2 y3 y4 y5 y6, LeO (impl_PriceSteps.l2 k y0 y1 y2 y3 y4 y5 y6) (impl_PriceSteps.l2 (k + 1) y0 y1 y2 y3 y4 y5 y6))
 | 0 => ⟨fun _ _ _ _ _ _ r h => by simp [impl_PriceSteps.j0] at h, fun _ _ _ _ _ _ _ _ _ r h => by simp [impl_PriceSteps.l0] at h, fun _ _ _ _ _ _ _ _ _ _ _ _ r h => by simp [impl_PriceSteps.l1] at h, fun _ _ _ _ _ _ _ r h => by simp [impl_PriceSteps.l2] at h⟩
 | k + 1 => by
  obtain ⟨ih0, ih1, ih2, ih3⟩ := impl_PriceSteps.mono_l k; refine ⟨?_, ?_, ?_, ?_⟩
  ·intro y0 y1 y2 y3 y4 y5; unfold impl_PriceSteps.j0
   repeat' first
   | (with_reducible exact ih0 _ _ _ _ _ _)
   | (with_reducible exact ih1 _ _ _ _ _ _ _ _ _)
   | (with_reducible exact ih2 _ _ _ _ _ _ _ _ _ _ _ _)
   | (with_reducible exact ih3 _ _ _ _ _ _ _)
   | (with_reducible exact impl_PricesOK.mono _ _)
   | (with_reducible exact impl_rowAt.mono _ _ _ _ _)
   | (with_reducible exact LeO.refl _)
   | (with_reducible exact LeO.none _)
   | (with_reducible refine LeO.ite ?_ ?_)
   | (with_reducible refine LeO.bind ?_ (fun _ => ?_))
   | exact ih0 _ _ _ _ _ _
   | exact ih1 _ _ _ _ _ _ _ _ _
   | exact ih2 _ _ _ _ _ _ _ _ _ _ _ _
   | exact ih3 _ _ _ _ _ _ _
   | exact impl_PricesOK.mono _ _
   | exact impl_rowAt.mono _ _ _ _ _
   | exact LeO.none _
   | refine LeO.ite ?_ ?_
   | refine LeO.bind ?_ (fun _ => ?_)
  ·intro y0 y1 y2 y3 y4 y5 y6 y7 y8; unfold impl_PriceSteps.l0
   repeat' first
   | (with_reducible exact ih0 _ _ _ _ _ _)
   | (with_reducible exact ih1 _ _ _ _ _ _ _ _ _)
   | (with_reducible exact ih2 _ _ _ _ _ _ _ _ _ _ _ _)
   | (with_reducible exact ih3 _ _ _ _ _ _ _)
   | (with_reducible exact impl_PricesOK.mono _ _)
   | (with_reducible exact impl_rowAt.mono _ _ _ _ _)
   | (with_reducible exact LeO.refl _)
   | (with_reducible exact LeO.none _)
   | (with_reducible refine LeO.ite ?_ ?_)
   | (with_reducible refine LeO.bind ?_ (fun _ => ?_))
   | exact ih0 _ _ _ _ _ _
   | exact ih1 _ _ _ _ _ _ _ _ _
   | exact ih2 _ _ _ _ _ _ _ _ _ _ _ _
   | exact ih3 _ _ _ _ _ _ _
   | exact impl_PricesOK.mono _ _
   | exact impl_rowAt.mono _ _ _ _ _
   | exact LeO.none _
   | refine LeO.ite ?_ ?_
   | refine LeO.bind ?_ (fun _ => ?_)
  ·intro y0 y1 y2 y3 y4 y5 y6 y7 y8 y9 y10 y11; unfold impl_PriceSteps.l1
   repeat' first
   | (with_reducible exact ih0 _ _ _ _ _ _)
   | (with_reducible exact ih1 _ _ _ _ _ _ _ _ _)
   | (with_reducible exact ih2 _ _ _ _ _ _ _ _ _ _ _ _)
   | (with_reducible exact ih3 _ _ _ _ _ _ _)
   | (with_reducible exact impl_PricesOK.mono _ _)
   | (with_reducible exact impl_rowAt.mono _ _ _ _ _)
   | (with_reducible exact LeO.refl _)
   | (with_reducible exact LeO.none _)
   | (with_reducible refine LeO.ite ?_ ?_)
   | (with_reducible refine LeO.bind ?_ (fun _ => ?_))
   | exact ih0 _ _ _ _ _ _
   | exact ih1 _ _ _ _ _ _ _ _ _
   | exact ih2 _ _ _ _ _ _ _ _ _ _ _ _
   | exact ih3 _ _ _ _ _ _ _
   | exact impl_PricesOK.mono _ _
   | exact impl_rowAt.mono _ _ _ _ _
   | exact LeO.none _
   | refine LeO.ite ?_ ?_
   | refine LeO.bind ?_ (fun _ => ?_)
  ·intro y0 y1 y2 y3 y4 y5 y6; unfold impl_PriceSteps.l2
   repeat' first
   | (with_reducible exact ih0 _ _ _ _ _ _)
   | (with_reducible exact ih1 _ _ _ _ _ _ _ _ _)
   | (with_reducible exact ih2 _ _ _ _ _ _ _ _ _ _ _ _)
   | (with_reducible exact ih3 _ _ _ _ _ _ _)
   | (with_reducible exact impl_PricesOK.mono _ _)
   | (with_reducible exact impl_rowAt.mono _ _ _ _ _)
   | (with_reducible exact LeO.refl _)
   | (with_reducible exact LeO.none _)
   | (with_reducible refine LeO.ite ?_ ?_)
   | (with_reducible refine LeO.bind ?_ (fun _ => ?_))
   | exact ih0 _ _ _ _ _ _
   | exact ih1 _ _ _ _ _ _ _ _ _
   | exact ih2 _ _ _ _ _ _ _ _ _ _ _ _
   | exact ih3 _ _ _ _ _ _ _
   | exact impl_PricesOK.mono _ _
   | exact impl_rowAt.mono _ _ _ _ _
   | exact LeO.none _
   | refine LeO.ite ?_ ?_
   | refine LeO.bind ?_ (fun _ => ?_)
theorem impl_PriceSteps.mono : ∀ a0 a1 a2 a3 a4 k, LeO (impl_PriceSteps.f k a0 a1 a2 a3 a4) (impl_PriceSteps.f (k + 1) a0 a1 a2 a3 a4) := by
 intro a0 a1 a2 a3 a4 k; obtain ⟨ih0, ih1, ih2, ih3⟩ := impl_PriceSteps.mono_l k; unfold impl_PriceSteps.f
 repeat' first
   | (with_reducible exact ih0 _ _ _ _ _ _)
   | (with_reducible exact ih1 _ _ _ _ _ _ _ _ _)
   | (with_reducible exact ih2 _ _ _ _ _ _ _ _ _ _ _ _)
   | (with_reducible exact ih3 _ _ _ _ _ _ _)
   | (with_reducible exact impl_PricesOK.mono _ _)
   | (with_reducible exact impl_rowAt.mono _ _ _ _ _)
   | (with_reducible exact LeO.refl _)
   | (with_reducible exact LeO.none _)
   | (with_reducible refine LeO.ite ?_ ?_)
   | (with_reducible refine LeO.bind ?_ (fun _ => ?_))
   | exact ih0 _ _ _ _ _ _
   | exact ih1 _ _ _ _ _ _ _ _ _
   | exact ih2 _ _ _ _ _ _ _ _ _ _ _ _
   | exact ih3 _ _ _ _ _ _ _
   | exact impl_PricesOK.mono _ _
   | exact impl_rowAt.mono _ _ _ _ _
   | exact LeO.none _
   | refine LeO.ite ?_ ?_
   | refine LeO.bind ?_ (fun _ => ?_)
set_option maxHeartbeats 8000000 in
set_option maxRecDepth 100000 in
theorem impl_PriceSteps.calls (k : Nat) (A0 : Option Addr) (c0 : Nat) (l0 : List (S44)) (a1 : ByteArray) (a2 : ByteArray) (a3 : Int) (a4 : Int) (r1 : List (S40)) (r2 : Int) (w : World) (hr0 : Kd.C k44 w A0 l0.length l0) (hc0 : l0.length ≤ c0) (h : impl_PriceSteps.f k l0 a1 a2 a3 a4 = some (r1, r2)) :
  Calls Try.prog 8 #[.slice A0 l0.length c0, .string a1, .string a2, .int .i64 a3, .int .i64 a4] w fun e w' => ∃ v0_ : Value, e = .returned (.tuple #[v0_, .int .i64 r2]) ∧ Kd.R k40 40 w' w.heap.size (fun _ => True) v0_ r1 ∧ Below w.heap.size w w' := by
 have hu44 := Try.underlying44; have hu40 := Try.underlying40; have HR0 := Aside0.mk hr0; have HC0 := Aside0.mk hc0; clear hr0 hc0; have HB := Aside0.mk (Below.refl w.heap.size w); have H : ((impl_PriceRow_24.f l0).bind fun t199 => (if t199 = true then ((impl_areTexts.f (([a1, a2] : List ByteArray))).bind fun t203 => (impl_PriceSteps.j0 k l0 a1 a2 a3 a4 (!t203))) else (impl_PriceSteps.j0 k l0 a1 a2 a3 a4 true))) = some (r1, r2) := h; clear h; have HC6 := Aside0.mk H; clear H; go_enter Try.func8, Try.ntmps8
 go_upto_region 1 with (fail)
 go_cut [23] (fun v23 wc => ∃ (kq : Nat) (x23_5 : Bool), v23 = .bool x23_5 ∧ Aside0 (impl_PriceSteps.j0 kq l0 a1 a2 a3 a4 x23_5 = some (r1, r2)) ∧ Aside0 (kq ≤ k) ∧ Aside0 (Below w.heap.size w wc))
 case first =>
  have H := HC6.out; clear HC6; replace H := Option.bind_eq_some_iff.mp H; obtain ⟨t199, A70, H⟩ := H; replace H : (if t199 = true then ((impl_areTexts.f (([a1, a2] : List ByteArray))).bind fun t203 => (impl_PriceSteps.j0 k l0 a1 a2 a3 a4 (!t203))) else (impl_PriceSteps.j0 k l0 a1 a2 a3 a4 true)) = some (r1, r2) := H; have A7 := Aside0.mk A70; clear A70; by_cases c8 : t199 = true
  ·subst c8
   have H1 : ((impl_areTexts.f (([a1, a2] : List ByteArray))).bind fun t203 => (impl_PriceSteps.j0 k l0 a1 a2 a3 a4 (!t203))) = some (r1, r2) := by rw [if_pos rfl] at H; exact H
   clear H; have H := H1; clear H1; obtain ⟨y200, hy200⟩ : ∃ y_ : List ByteArray, y_ = (([a1, a2] : List ByteArray)) := ⟨_, rfl⟩
   replace H : ((impl_areTexts.f y200).bind fun t203 => (impl_PriceSteps.j0 k l0 a1 a2 a3 a4 (!t203))) = some (r1, r2) := by first | (rw [hy200]; with_reducible exact H) | (have H2_ := (Option.bind_some _ _).symm.trans H; rw [hy200]; with_reducible exact H2_) | (have H2_ := (Option.bind_some _ _).symm.trans H; with_reducible exact H2_) | with_reducible exact H | (rw [hy200]; exact H) | exact H
   have Ny200 := Aside0.mk hy200; clear hy200; replace H := Option.bind_eq_some_iff.mp H; obtain ⟨t203, A90, H⟩ := H; replace H : (impl_PriceSteps.j0 k l0 a1 a2 a3 a4 (!t203)) = some (r1, r2) := H; have A9 := Aside0.mk A90; clear A90; have H' := Aside0.mk H; clear H
   go_wp2_with (first | ((with_reducible refine gate_callee (f := 24) rfl ?_); refine goesL_ (some 25) rfl rfl Try.func24 (by kernel_rfl) rfl #[.slice A0 l0.length c0] rfl mq ?_; (with_reducible refine (impl_PriceRow_24.calls _ _ l0 true _ ?side1 ?side2 A7.out).mono ?_); (case side1 => repeat (first | exact (Kd.C_below HR0.out HB.out) | (with_reducible refine Kd.C_alloc ?_ _) | (with_reducible refine Kd.C_drewN ?_ _) | (with_reducible refine Kd.C_drew ?_))); (case side2 => exact HC0.out); rintro e w' ⟨rfl, ⟨nd, rfl⟩⟩; refine ⟨_, rfl, ?_⟩) | ((with_reducible refine gate_dst (N := 30) rfl ?_); (try (refine gate_guard (by rfl) ?_; dsimp only)); refine Kd.R_lit Kd.string _ 9 ?hg (N := 30) ?hd (xs := ([a1, a2] : List ByteArray)) (inner := [.string a1, .string a2]) (ok := fun _ => True) (okp := fun _ => True) ?hr ?hp (fun _ hk => hk) trivial (Below.refl _ _) (Nat.le_refl _) (by simp) ?_; (case hd => rfl); (case hg => rfl); (case hr => first | (go_simp; done) | (go_simp; rfl)); (case hp => exact (Reps.one (show Kd.M Kd.string _ _ _ a1 [.string a1] from rfl) (Reps.one (show Kd.M Kd.string _ _ _ a2 [.string a2] from rfl) (Reps.none _ _)))); intro v201 w10 ho11 hb hg_ hnew_; clear hg_ hnew_; (first | rw [← Ny200.out] at ho11 | (simp only [Int.reduceToNat] at ho11; rw [← Ny200.out] at ho11)); have n0_ := Aside0.mk (Kd.R_lower ho11 (below_size (qb HB))); have n1_ := Aside0.mk (below_step (qb HB) hb); clear HB; have HO202 := n0_; have HB := n1_; clear n0_ n1_; clear hb ho11; obtain ⟨Ao12, co12, eo12⟩ := Kd.R_slice HO202.out; subst eo12) | (go_at_call 25; (with_reducible refine (impl_areTexts.calls _ _ y200 t203 _ ?side1 ?side2 A9.out).mono ?_); (case side1 => repeat (first | exact (Kd.R_reads' HO202.out).2.2 | (with_reducible refine Kd.C_alloc ?_ _) | (with_reducible refine Kd.C_drewN ?_ _) | (with_reducible refine Kd.C_drew ?_))); (case side2 => exact (Kd.R_reads' HO202.out).2.1); rintro e w13 ⟨rfl, hb⟩; have n0_ := Aside0.mk (Kd.R_below (qr HO202) hb); have n1_ := Aside0.mk (below_step (qb HB) hb); clear HO202; clear HB; have HO202 := n0_; have HB := n1_; clear n0_ n1_; (try clear hb); (try clear hb2); (try clear hk); (try clear hi)))
   go_meet
   case rel => exact ⟨_, (!t203), (by first | rfl | (simp; done) | (simp [*]; done)), H', ⟨by first | omega | exact Nat.le_refl _⟩, ⟨qb HB⟩⟩
  ·replace c8 := Bool.eq_false_iff.mpr c8; subst c8
   have H1 : (impl_PriceSteps.j0 k l0 a1 a2 a3 a4 true) = some (r1, r2) := by rw [if_neg (show ¬ (false = true) by decide)] at H; exact H
   clear H; have H := H1; clear H1; have H' := Aside0.mk H; clear H
   go_wp2_with (first | ((with_reducible refine gate_callee (f := 24) rfl ?_); refine goesL_ (some 25) rfl rfl Try.func24 (by kernel_rfl) rfl #[.slice A0 l0.length c0] rfl mq ?_; (with_reducible refine (impl_PriceRow_24.calls _ _ l0 false _ ?side1 ?side2 A7.out).mono ?_); (case side1 => repeat (first | exact (Kd.C_below HR0.out HB.out) | (with_reducible refine Kd.C_alloc ?_ _) | (with_reducible refine Kd.C_drewN ?_ _) | (with_reducible refine Kd.C_drew ?_))); (case side2 => exact HC0.out); rintro e w' ⟨rfl, ⟨nd, rfl⟩⟩; refine ⟨_, rfl, ?_⟩))
   go_meet
   case rel => exact ⟨_, (true), (by first | rfl | (simp; done) | (simp [*]; done)), H', ⟨by first | omega | exact Nat.le_refl _⟩, ⟨qb HB⟩⟩
 case rest =>
  clear HC6; (try clear c2); (try clear p2); (try clear c8); obtain ⟨kq, x23_5, rfl, HA, HJ5, HB⟩ := hcut
  cases kq with
  | zero => exact absurd HA.out (by simp [impl_PriceSteps.j0])
  | succ kj5 =>
   have H := HA.out; clear HA; simp only [impl_PriceSteps.j0] at H; by_cases c14 : x23_5 = true
   ·subst c14
    have H1 : (some (([] : List (S40)), 2)) = some (r1, r2) := by rw [if_pos rfl] at H; exact H
    clear H; have H := H1; clear H1; simp only [Option.some.injEq, Prod.mk.injEq] at H; obtain ⟨rfl, rfl⟩ := H; go_wp2; go_ret2; exact ⟨_, by first | rfl | (simp [errW_none, errW_some] <;> rfl) | (simp [*, errW_none, errW_some] <;> rfl), by first | exact Kd.R_nil _ _ _ _ _ | exact Kd.N_nil _ _ _ _ _ | exact Kd.V_nil _ _ _ _ _ | exact Kd.Q_nil _ _ _ _ _ | exact Kd.S_nil _ _ _ _ _, qb HB⟩
   ·replace c14 := Bool.eq_false_iff.mpr c14; subst c14
    have H1 : ((impl_PricesOK.f kj5 l0).bind fun t204 => (if t204 = true then (if a3 < 0 then (some (([] : List (S40)), 5)) else (if a3 ≥ a4 then (some (([] : List (S40)), 5)) else (if a4 > 10000000 then (some (([] : List (S40)), 5)) else (impl_PriceSteps.l0 kj5 l0 a1 a2 a3 a4 (([a3] : List Int)) l0 (l0.length : Int) 0)))) else (some (([] : List (S40)), 1)))) = some (r1, r2) := by rw [if_neg (show ¬ (false = true) by decide)] at H; exact H
    clear H; have H := H1; clear H1; replace H := Option.bind_eq_some_iff.mp H; obtain ⟨t204, A150, H⟩ := H; replace H : (if t204 = true then (if a3 < 0 then (some (([] : List (S40)), 5)) else (if a3 ≥ a4 then (some (([] : List (S40)), 5)) else (if a4 > 10000000 then (some (([] : List (S40)), 5)) else (impl_PriceSteps.l0 kj5 l0 a1 a2 a3 a4 (([a3] : List Int)) l0 (l0.length : Int) 0)))) else (some (([] : List (S40)), 1))) = some (r1, r2) := H; have A15 := Aside0.mk A150; clear A150; by_cases c16 : t204 = true
    ·subst c16
     have H1 : (if a3 < 0 then (some (([] : List (S40)), 5)) else (if a3 ≥ a4 then (some (([] : List (S40)), 5)) else (if a4 > 10000000 then (some (([] : List (S40)), 5)) else (impl_PriceSteps.l0 kj5 l0 a1 a2 a3 a4 (([a3] : List Int)) l0 (l0.length : Int) 0)))) = some (r1, r2) := by rw [if_pos rfl] at H; exact H
     clear H; have H := H1; clear H1; by_cases c17 : a3 < 0
     ·rw [if_pos c17] at H; have c17b0 : decide (a3 < 0) = true := decide_eq_true c17; clear c17; simp only [Option.some.injEq, Prod.mk.injEq] at H; obtain ⟨rfl, rfl⟩ := H
      go_wp2_with (first | ((with_reducible refine gate_callee (f := 16) rfl ?_); refine goesL_ (some 36) rfl rfl Try.func16 (by kernel_rfl) rfl #[.slice A0 l0.length c0] rfl mq ?_; (with_reducible refine (impl_PricesOK.calls kj5 _ _ l0 true _ ?side1 ?side2 A15.out).mono ?_); (case side1 => repeat (first | exact (Kd.C_below HR0.out HB.out) | (with_reducible refine Kd.C_alloc ?_ _) | (with_reducible refine Kd.C_drewN ?_ _) | (with_reducible refine Kd.C_drew ?_))); (case side2 => exact HC0.out); rintro e w18 ⟨rfl, hb⟩; refine ⟨_, rfl, ?_⟩; have n0_ := Aside0.mk (below_step (qb HB) hb); clear HB; have HB := n0_; clear n0_; (try clear hb); (try clear hb2); (try clear hk); (try clear hi)))
      go_ret2; exact ⟨_, by first | rfl | (simp [errW_none, errW_some] <;> rfl) | (simp [*, errW_none, errW_some] <;> rfl), by first | exact Kd.R_nil _ _ _ _ _ | exact Kd.N_nil _ _ _ _ _ | exact Kd.V_nil _ _ _ _ _ | exact Kd.Q_nil _ _ _ _ _ | exact Kd.S_nil _ _ _ _ _, qb HB⟩
     ·rw [if_neg c17] at H; have c17b0 : decide (a3 < 0) = false := decide_eq_false c17; clear c17; by_cases c19 : a3 ≥ a4
      ·rw [if_pos c19] at H; have c19b0 : decide (a4 ≤ a3) = true := decide_eq_true c19; clear c19; simp only [Option.some.injEq, Prod.mk.injEq] at H; obtain ⟨rfl, rfl⟩ := H
       go_wp2_with (first | ((with_reducible refine gate_callee (f := 16) rfl ?_); refine goesL_ (some 36) rfl rfl Try.func16 (by kernel_rfl) rfl #[.slice A0 l0.length c0] rfl mq ?_; (with_reducible refine (impl_PricesOK.calls kj5 _ _ l0 true _ ?side1 ?side2 A15.out).mono ?_); (case side1 => repeat (first | exact (Kd.C_below HR0.out HB.out) | (with_reducible refine Kd.C_alloc ?_ _) | (with_reducible refine Kd.C_drewN ?_ _) | (with_reducible refine Kd.C_drew ?_))); (case side2 => exact HC0.out); rintro e w20 ⟨rfl, hb⟩; refine ⟨_, rfl, ?_⟩; have n0_ := Aside0.mk (below_step (qb HB) hb); clear HB; have HB := n0_; clear n0_; (try clear hb); (try clear hb2); (try clear hk); (try clear hi)))
       go_ret2; exact ⟨_, by first | rfl | (simp [errW_none, errW_some] <;> rfl) | (simp [*, errW_none, errW_some] <;> rfl), by first | exact Kd.R_nil _ _ _ _ _ | exact Kd.N_nil _ _ _ _ _ | exact Kd.V_nil _ _ _ _ _ | exact Kd.Q_nil _ _ _ _ _ | exact Kd.S_nil _ _ _ _ _, qb HB⟩
      ·rw [if_neg c19] at H; have c19b0 : decide (a4 ≤ a3) = false := decide_eq_false c19; clear c19; by_cases c21 : a4 > 10000000
       ·rw [if_pos c21] at H; have c21b0 : decide (10000000 < a4) = true := decide_eq_true c21; clear c21; simp only [Option.some.injEq, Prod.mk.injEq] at H; obtain ⟨rfl, rfl⟩ := H
        go_wp2_with (first | ((with_reducible refine gate_callee (f := 16) rfl ?_); refine goesL_ (some 36) rfl rfl Try.func16 (by kernel_rfl) rfl #[.slice A0 l0.length c0] rfl mq ?_; (with_reducible refine (impl_PricesOK.calls kj5 _ _ l0 true _ ?side1 ?side2 A15.out).mono ?_); (case side1 => repeat (first | exact (Kd.C_below HR0.out HB.out) | (with_reducible refine Kd.C_alloc ?_ _) | (with_reducible refine Kd.C_drewN ?_ _) | (with_reducible refine Kd.C_drew ?_))); (case side2 => exact HC0.out); rintro e w22 ⟨rfl, hb⟩; refine ⟨_, rfl, ?_⟩; have n0_ := Aside0.mk (below_step (qb HB) hb); clear HB; have HB := n0_; clear n0_; (try clear hb); (try clear hb2); (try clear hk); (try clear hi)))
        go_ret2; exact ⟨_, by first | rfl | (simp [errW_none, errW_some] <;> rfl) | (simp [*, errW_none, errW_some] <;> rfl), by first | exact Kd.R_nil _ _ _ _ _ | exact Kd.N_nil _ _ _ _ _ | exact Kd.V_nil _ _ _ _ _ | exact Kd.Q_nil _ _ _ _ _ | exact Kd.S_nil _ _ _ _ _, qb HB⟩
       ·rw [if_neg c21] at H; have c21b0 : decide (10000000 < a4) = false := decide_eq_false c21; clear c21; obtain ⟨y205, hy205⟩ : ∃ y_ : List Int, y_ = (([a3] : List Int)) := ⟨_, rfl⟩
        replace H : (impl_PriceSteps.l0 kj5 l0 a1 a2 a3 a4 y205 l0 (l0.length : Int) 0) = some (r1, r2) := by first | (rw [hy205]; with_reducible exact H) | (have H2_ := (Option.bind_some _ _).symm.trans H; rw [hy205]; with_reducible exact H2_) | (have H2_ := (Option.bind_some _ _).symm.trans H; with_reducible exact H2_) | with_reducible exact H | (rw [hy205]; exact H) | exact H
        have Ny205 := Aside0.mk hy205; clear hy205; have H' := Aside0.mk H; clear H
        go_wp2_with (first | ((with_reducible refine gate_callee (f := 16) rfl ?_); refine goesL_ (some 36) rfl rfl Try.func16 (by kernel_rfl) rfl #[.slice A0 l0.length c0] rfl mq ?_; (with_reducible refine (impl_PricesOK.calls kj5 _ _ l0 true _ ?side1 ?side2 A15.out).mono ?_); (case side1 => repeat (first | exact (Kd.C_below HR0.out HB.out) | (with_reducible refine Kd.C_alloc ?_ _) | (with_reducible refine Kd.C_drewN ?_ _) | (with_reducible refine Kd.C_drew ?_))); (case side2 => exact HC0.out); rintro e w23 ⟨rfl, hb⟩; refine ⟨_, rfl, ?_⟩; have n0_ := Aside0.mk (below_step (qb HB) hb); clear HB; have HB := n0_; clear n0_; (try clear hb); (try clear hb2); (try clear hk); (try clear hi)) | ((with_reducible refine gate_dst (N := 51) rfl ?_); (try (refine gate_guard (by rfl) ?_; dsimp only)); refine Kd.R_lit (Kd.int .i64) _ 3 ?hg (N := 51) ?hd (xs := ([a3] : List Int)) (inner := [.int .i64 a3]) (ok := fun _ => True) (okp := fun _ => True) ?hr ?hp (fun _ hk => hk) trivial (Below.refl _ _) (Nat.le_refl _) (by simp) ?_; (case hd => rfl); (case hg => rfl); (case hr => first | (go_simp; done) | (go_simp; rfl)); (case hp => exact (Reps.one (show Kd.M (Kd.int .i64) _ _ _ a3 [.int .i64 a3] from rfl) (Reps.none _ _))); intro v206 w24 ho25 hb hg_ hnew_; clear hg_ hnew_; (first | rw [← Ny205.out] at ho25 | (simp only [Int.reduceToNat] at ho25; rw [← Ny205.out] at ho25)); have n0_ := Aside0.mk (Kd.R_lower ho25 (below_size (qb HB))); have n1_ := Aside0.mk (below_step (qb HB) hb); clear HB; have HO207 := n0_; have HB := n1_; clear n0_ n1_; clear hb ho25))
        go_loopg [12, 54] kj5 (fun kq v12 v54 w' => ∃ (x12_2 : List Int) (x54_2 : Int), v54 = .int .i64 x54_2 ∧ Aside0 (impl_PriceSteps.l0 kq l0 a1 a2 a3 a4 x12_2 l0 (l0.length : Int) x54_2 = some (r1, r2)) ∧ Aside0 (kq ≤ kj5) ∧ Aside0 (Kd.R (Kd.int .i64) 3 w' w.heap.size (fun _ => True) v12 x12_2) ∧ Aside0 (Below w.heap.size w w'))
        case atStart => exact ⟨(y205), (0), (by first | rfl | (simp; done) | (simp [*]; done)), H', ⟨Nat.le_refl _⟩, ⟨by (with_reducible repeat (first | apply Kd.R_alloc | apply Kd.R_drewN | apply Kd.R_drew)); exact HO207.out⟩, ⟨qb HB⟩⟩
        case round =>
         clear H'; (try clear c1); (try clear c2); (try clear p2); (try clear c8); (try clear c14); (try clear c16); (try clear c17); (try clear c17b0); (try clear c19); (try clear c19b0); (try clear c21); (try clear c21b0); (try clear c24); (try clear p2); obtain ⟨x12_2, x54_2, rfl, HA, HK2, HO_12, HB⟩ := hrel
         cases gk with
         | zero => exact absurd HA.out (by simp [impl_PriceSteps.l0])
         | succ k2 =>
          have H := HA.out; clear HA; simp only [impl_PriceSteps.l0] at H; by_cases c26 : x54_2 < (l0.length : Int)
          ·rw [if_pos c26] at H; have c26b0 : decide (x54_2 < (l0.length : Int)) = true := decide_eq_true c26; clear c26; by_cases c27 : 0 ≤ x54_2
           ·rw [if_pos c27] at H; have c27b0 : decide (0 ≤ x54_2) = true := decide_eq_true c27; clear c27; by_cases c28 : x54_2 < (l0.length : Int)
            ·rw [if_pos c28] at H; have c28b0 : decide (x54_2 < (l0.length : Int)) = true := decide_eq_true c28; clear c28; obtain ⟨y210, hy210⟩ : ∃ y_ : List Int, y_ = (([(rd_T44 l0 x54_2).f3, (rd_T44 l0 x54_2).f4] : List Int)) := ⟨_, rfl⟩
             replace H : (impl_PriceSteps.l1 k2 l0 a1 a2 a3 a4 x12_2 l0 (l0.length : Int) x54_2 y210 (y210.length : Int) 0) = some (r1, r2) := by first | (rw [hy210]; with_reducible exact H) | (have H2_ := (Option.bind_some _ _).symm.trans H; rw [hy210]; with_reducible exact H2_) | (have H2_ := (Option.bind_some _ _).symm.trans H; with_reducible exact H2_) | with_reducible exact H | (rw [hy210]; exact H) | exact H
             have Ny210 := Aside0.mk hy210; clear hy210; have H' := Aside0.mk H; clear H; have p208 : 0 ≤ (x54_2 : Int) := of_decide_eq_true (by first | (with_reducible assumption) | assumption); have q208 : x54_2 < (l0.length : Int) := of_decide_eq_true (by first | (with_reducible assumption) | assumption); obtain ⟨ad208, e208, hx208_0, hx208_1, hx208_2, hx208_3, hx208_4, hx208_5⟩ := at_T44 HR0.out x54_2 p208 q208
             cases e208
             replace hx208_0 := (HB.out.cell (World.block_lt_of_cell? w _ hx208_0)).trans hx208_0; replace hx208_1 := (HB.out.cell (World.block_lt_of_cell? w _ hx208_1)).trans hx208_1; replace hx208_2 := (HB.out.cell (World.block_lt_of_cell? w _ hx208_2)).trans hx208_2; replace hx208_3 := (HB.out.cell (World.block_lt_of_cell? w _ hx208_3)).trans hx208_3; replace hx208_4 := (HB.out.cell (World.block_lt_of_cell? w _ hx208_4)).trans hx208_4; replace hx208_5 := (HB.out.cell (World.block_lt_of_cell? w _ hx208_5)).trans hx208_5; replace p208 := eq_true p208; replace q208 := eq_true q208
             go_wp2_with (first | ((with_reducible refine gate_dst (N := 14) rfl ?_); (try (refine gate_guard (by rfl) ?_; dsimp only)); refine box_event ?hg (N := 14) ?hd (cs := #[.string (⟨#[]⟩ : ByteArray), .string (⟨#[]⟩ : ByteArray), .int .i64 0, .int .i64 0, .int .i64 0, .int .i64 0]) (t := 44) ?hr ?_; (case hd => rfl); (case hg => rfl); (case hr => first | (go_simp; done) | (go_simp; rfl)); intro gb209 hg w29 hbox hb; have n0_ := Aside0.mk (Kd.R_below (qr HO_12) hb); have n1_ := Aside0.mk (below_step (qb HB) hb); have n2_ := Aside0.mk (hbox); have n3_ := Aside0.mk ((by rw [hg]; exact (below_size (qb HB)) : w.heap.size ≤ gb209)); have n4_ := Aside0.mk ((by rw [hg]; exact (below_size (qb HB)) : w.heap.size ≤ gb209)); clear HO_12; clear HB; have HO_12 := n0_; have HB := n1_; have BK209 := n2_; have GW209 := n3_; have GE209 := n4_; clear n0_ n1_ n2_ n3_ n4_; clear hb hbox hg; obtain ⟨hcz30_0, hcz30_1, hcz30_2, hcz30_3, hcz30_4, hcz30_5, hfz30_0, hfz30_1, hfz30_2, hfz30_3, hfz30_4, hfz30_5⟩ := bz6 BK209) | ((with_reducible refine gate_dst (N := 62) rfl ?_); (try (refine gate_guard (by rfl) ?_; dsimp only)); refine Kd.R_lit (Kd.int .i64) _ 3 ?hg (N := 62) ?hd (xs := ([(rd_T44 l0 x54_2).f3, (rd_T44 l0 x54_2).f4] : List Int)) (inner := [.int .i64 ((rd_T44 l0 x54_2).f3), .int .i64 ((rd_T44 l0 x54_2).f4)]) (ok := fun _ => True) (okp := fun _ => True) ?hr ?hp (fun _ hk => hk) trivial (Below.refl _ _) (Nat.le_refl _) (by simp) ?_; (case hd => rfl); (case hg => rfl); (case hr => first | (go_simp; done) | (go_simp; rfl)); (case hp => exact (Reps.one (show Kd.M (Kd.int .i64) _ _ _ ((rd_T44 l0 x54_2).f3) [.int .i64 ((rd_T44 l0 x54_2).f3)] from rfl) (Reps.one (show Kd.M (Kd.int .i64) _ _ _ ((rd_T44 l0 x54_2).f4) [.int .i64 ((rd_T44 l0 x54_2).f4)] from rfl) (Reps.none _ _)))); intro v211 w31 ho32 hb hg_ hnew_; clear hg_ hnew_; (first | rw [← Ny210.out] at ho32 | (simp only [Int.reduceToNat] at ho32; rw [← Ny210.out] at ho32)); have n0_ := Aside0.mk (Kd.R_elder' (by (with_reducible repeat (first | apply Kd.R_alloc | apply Kd.R_drewN | apply Kd.R_drew)); exact (Kd.R_mono (Kd.R_far (p := ⟨gb209, 5, none⟩) (Kd.R_far (p := ⟨gb209, 4, none⟩) (Kd.R_far (p := ⟨gb209, 3, none⟩) (Kd.R_far (p := ⟨gb209, 2, none⟩) (Kd.R_far (p := ⟨gb209, 1, none⟩) (Kd.R_far (p := ⟨gb209, 0, none⟩) (Kd.R_types HO_12.out BK209.out (by decide)) (fun _ hk => hk.2) (.string ((rd_T44 l0 x54_2).f0))) (fun _ hk => hk.2) (.string ((rd_T44 l0 x54_2).f1))) (fun _ hk => hk.2) (.int .i64 ((rd_T44 l0 x54_2).f2))) (fun _ hk => hk.2) (.int .i64 ((rd_T44 l0 x54_2).f3))) (fun _ hk => hk.2) (.int .i64 ((rd_T44 l0 x54_2).f4))) (fun _ hk => hk.2) (.int .i64 ((rd_T44 l0 x54_2).f5))) (fun _ h_ => h_.1))) (Kd.R_base ho32) hb); have n1_ := Aside0.mk (Kd.R_lower (Kd.R_new' ho32 (Kd.R_lt (by (with_reducible repeat (first | apply Kd.R_alloc | apply Kd.R_drewN | apply Kd.R_drew)); exact (Kd.R_mono (Kd.R_far (p := ⟨gb209, 5, none⟩) (Kd.R_far (p := ⟨gb209, 4, none⟩) (Kd.R_far (p := ⟨gb209, 3, none⟩) (Kd.R_far (p := ⟨gb209, 2, none⟩) (Kd.R_far (p := ⟨gb209, 1, none⟩) (Kd.R_far (p := ⟨gb209, 0, none⟩) (Kd.R_types HO_12.out BK209.out (by decide)) (fun _ hk => hk.2) (.string ((rd_T44 l0 x54_2).f0))) (fun _ hk => hk.2) (.string ((rd_T44 l0 x54_2).f1))) (fun _ hk => hk.2) (.int .i64 ((rd_T44 l0 x54_2).f2))) (fun _ hk => hk.2) (.int .i64 ((rd_T44 l0 x54_2).f3))) (fun _ hk => hk.2) (.int .i64 ((rd_T44 l0 x54_2).f4))) (fun _ hk => hk.2) (.int .i64 ((rd_T44 l0 x54_2).f5))) (fun _ h_ => h_.1))))) (below_size (qb HB))); have n2_ := Aside0.mk (blk_below (g := gb209) (o := .cells #[.string ((rd_T44 l0 x54_2).f0), .string ((rd_T44 l0 x54_2).f1), .int .i64 ((rd_T44 l0 x54_2).f2), .int .i64 ((rd_T44 l0 x54_2).f3), .int .i64 ((rd_T44 l0 x54_2).f4), .int .i64 ((rd_T44 l0 x54_2).f5)] 44 (0, 0)) (by (with_reducible repeat (first | refine blk_drewN ?_ _ | refine blk_drew ?_ | refine blk_alloc ?_ _)); refine blk_put (cs := #[.string ((rd_T44 l0 x54_2).f0), .string ((rd_T44 l0 x54_2).f1), .int .i64 ((rd_T44 l0 x54_2).f2), .int .i64 ((rd_T44 l0 x54_2).f3), .int .i64 ((rd_T44 l0 x54_2).f4), .int .i64 0]) ?_ 5 _ rfl; (with_reducible repeat (first | refine blk_drewN ?_ _ | refine blk_drew ?_ | refine blk_alloc ?_ _)); refine blk_put (cs := #[.string ((rd_T44 l0 x54_2).f0), .string ((rd_T44 l0 x54_2).f1), .int .i64 ((rd_T44 l0 x54_2).f2), .int .i64 ((rd_T44 l0 x54_2).f3), .int .i64 0, .int .i64 0]) ?_ 4 _ rfl; (with_reducible repeat (first | refine blk_drewN ?_ _ | refine blk_drew ?_ | refine blk_alloc ?_ _)); refine blk_put (cs := #[.string ((rd_T44 l0 x54_2).f0), .string ((rd_T44 l0 x54_2).f1), .int .i64 ((rd_T44 l0 x54_2).f2), .int .i64 0, .int .i64 0, .int .i64 0]) ?_ 3 _ rfl; (with_reducible repeat (first | refine blk_drewN ?_ _ | refine blk_drew ?_ | refine blk_alloc ?_ _)); refine blk_put (cs := #[.string ((rd_T44 l0 x54_2).f0), .string ((rd_T44 l0 x54_2).f1), .int .i64 0, .int .i64 0, .int .i64 0, .int .i64 0]) ?_ 2 _ rfl; (with_reducible repeat (first | refine blk_drewN ?_ _ | refine blk_drew ?_ | refine blk_alloc ?_ _)); refine blk_put (cs := #[.string ((rd_T44 l0 x54_2).f0), .string (⟨#[]⟩ : ByteArray), .int .i64 0, .int .i64 0, .int .i64 0, .int .i64 0]) ?_ 1 _ rfl; (with_reducible repeat (first | refine blk_drewN ?_ _ | refine blk_drew ?_ | refine blk_alloc ?_ _)); refine blk_put (cs := #[.string (⟨#[]⟩ : ByteArray), .string (⟨#[]⟩ : ByteArray), .int .i64 0, .int .i64 0, .int .i64 0, .int .i64 0]) ?_ 0 _ rfl; (with_reducible repeat (first | refine blk_drewN ?_ _ | refine blk_drew ?_ | refine blk_alloc ?_ _)); exact BK209.out) hb); have n3_ := Aside0.mk (below_step (qb HB) hb); clear HO_12; clear BK209; clear HB; have HO_12 := n0_; have HO212 := n1_; have BK209 := n2_; have HB := n3_; clear n0_ n1_ n2_ n3_; clear hb ho32; obtain ⟨Ao33, co33, eo33⟩ := Kd.R_slice HO212.out; subst eo33))
             go_loopg [12, 64] k2 (fun kq v12 v64 w' => ∃ (x12_3 : List Int) (x64_3 : Int), v64 = .int .i64 x64_3 ∧ Aside0 (impl_PriceSteps.l1 kq l0 a1 a2 a3 a4 x12_3 l0 (l0.length : Int) x54_2 y210 (y210.length : Int) x64_3 = some (r1, r2)) ∧ Aside0 (kq ≤ k2) ∧ Aside0 (Kd.R (Kd.int .i64) 3 w' w.heap.size (fun k_ => some k_ ≠ ((.slice Ao33 y210.length co33) : Value).ownBlock) v12 x12_3) ∧ Aside0 (Kd.R (Kd.int .i64) 3 w' w.heap.size (fun k_ => some k_ ≠ (v12 : Value).ownBlock) (.slice Ao33 y210.length co33) y210) ∧ Aside0 (w'.heap[gb209]? = some (.cells #[.string ((rd_T44 l0 x54_2).f0), .string ((rd_T44 l0 x54_2).f1), .int .i64 ((rd_T44 l0 x54_2).f2), .int .i64 ((rd_T44 l0 x54_2).f3), .int .i64 ((rd_T44 l0 x54_2).f4), .int .i64 ((rd_T44 l0 x54_2).f5)] 44 (0, 0))) ∧ Aside0 (Below w.heap.size w w'))
             case atStart => exact ⟨(x12_2), (0), (by first | rfl | (simp; done) | (simp [*]; done)), H', ⟨Nat.le_refl _⟩, ⟨by (with_reducible repeat (first | apply Kd.R_alloc | apply Kd.R_drewN | apply Kd.R_drew)); exact Kd.R_mono HO_12.out (fun _ hk => hk.2)⟩, ⟨by (with_reducible repeat (first | apply Kd.R_alloc | apply Kd.R_drewN | apply Kd.R_drew)); exact Kd.R_mono HO212.out (fun _ hk => hk.2)⟩, ⟨bq BK209⟩, ⟨qb HB⟩⟩
             case round =>
              clear H'; (try clear c1); (try clear c2); (try clear p2); (try clear q2); (try clear hx2); (try clear c8); (try clear c14); (try clear c16); (try clear c17); (try clear c17b0); (try clear c19); (try clear c19b0); (try clear p20); (try clear q20); (try clear hx20); (try clear c21); (try clear c21b0); (try clear c24); (try clear c26); (try clear c26b0); (try clear c27); (try clear c27b0); (try clear c28); (try clear c28b0); (try clear hcz30_0); (try clear hcz30_1); (try clear hcz30_2); (try clear hcz30_3); (try clear hcz30_4); (try clear hcz30_5); (try clear hfz30_0); (try clear hfz30_1); (try clear hfz30_2); (try clear hfz30_3); (try clear hfz30_4); (try clear hfz30_5); (try clear hx208_0); (try clear hx208_1); (try clear hx208_2); (try clear hx208_3); (try clear hx208_4); (try clear hx208_5); (try clear p2); (try clear p208); (try clear q208); obtain ⟨x12_3, x64_3, rfl, HA, HK3, HO_12, HO_62, BK209, HB⟩ := hrel
              cases gk with
              | zero => exact absurd HA.out (by simp [impl_PriceSteps.l1])
              | succ k3 =>
               have H := HA.out; clear HA; simp only [impl_PriceSteps.l1] at H; by_cases c34 : x64_3 < (y210.length : Int)
               ·rw [if_pos c34] at H; have c34b0 : decide (x64_3 < (y210.length : Int)) = true := decide_eq_true c34; clear c34; by_cases c35 : 0 ≤ x64_3
                ·rw [if_pos c35] at H; have c35b0 : decide (0 ≤ x64_3) = true := decide_eq_true c35; clear c35; by_cases c36 : x64_3 < (y210.length : Int)
                 ·rw [if_pos c36] at H; have c36b0 : decide (x64_3 < (y210.length : Int)) = true := decide_eq_true c36; clear c36; by_cases c37 : (rd y210 x64_3) > a3
                  ·rw [if_pos c37] at H; have c37b0 : decide (a3 < (rd y210 x64_3)) = true := decide_eq_true c37; clear c37; by_cases c38 : (rd y210 x64_3) < a4
                   ·rw [if_pos c38] at H; have c38b0 : decide ((rd y210 x64_3) < a4) = true := decide_eq_true c38; clear c38; by_cases c39 : x12_3.length < 17592186044416
                    ·rw [if_pos c39] at H; have LMc39 := Aside0.mk c39; clear c39; obtain ⟨y214, hy214⟩ : ∃ y_ : List Int, y_ = (x12_3 ++ [rd y210 x64_3]) := ⟨_, rfl⟩
                     replace H : (impl_PriceSteps.l1 k3 l0 a1 a2 a3 a4 y214 l0 (l0.length : Int) x54_2 y210 (y210.length : Int) (wrap64 (x64_3 + 1))) = some (r1, r2) := by first | (rw [hy214]; with_reducible exact H) | (have H2_ := (Option.bind_some _ _).symm.trans H; rw [hy214]; with_reducible exact H2_) | (have H2_ := (Option.bind_some _ _).symm.trans H; with_reducible exact H2_) | with_reducible exact H | (rw [hy214]; exact H) | exact H
                     have Ny214 := Aside0.mk hy214; clear hy214; have H' := Aside0.mk H; clear H; have p213 : 0 ≤ (x64_3 : Int) := of_decide_eq_true (by first | (with_reducible assumption) | assumption); have q213 : x64_3 < (y210.length : Int) := of_decide_eq_true (by first | (with_reducible assumption) | assumption); obtain ⟨ad213, e213, hx213_0⟩ := Kd.at_int (Kd.R_reads' HO_62.out).2.2 x64_3 p213 q213
                     cases e213
                     replace p213 := eq_true p213; replace q213 := eq_true q213
                     go_wp2_with (first | ((with_reducible refine gate_builtin (b := .append) (xs := #[.tmp 76, .tmp 78]) rfl ?_); (try (refine gate_guard (by rfl) ?_; dsimp only)); at_builtin; refine Kd.R_append (Kd.int .i64) (w0 := w) w.heap.size rfl (.tmp 76) (.tmp 78) 52 3 (.int .i64 0) 8 rfl Try.underlying52 info3 rfl (by decide) (by omega) u12 x12_3 (rd y210 x64_3) [.int .i64 (rd y210 x64_3)] (fun k_ => some k_ ≠ (.slice (some ad213) y210.length co33 : Value).ownBlock) (fun _ => False) rfl rfl ?aP (fun _ hk => hk.elim) ?aF ?aO ?aB ?aS ?aL ?_; (case aP => exact rfl); (case aB => exact (qb HB)); (case aF => exact (fun k_ hk => Kd.fresh' (Kd.R_lt (qr HO_62)) k_ hk)); (case aO => exact (qr HO_12)); (case aS => exact (below_size (qb HB))); (case aL => have := LMc39.out; omega); intro v215 w40 ho hb hg hat; rw [← Ny214.out] at ho; have n0_ := Aside0.mk (Kd.R_after (ok := (fun _ => True)) (by (with_reducible repeat (first | apply Kd.R_alloc | apply Kd.R_drewN | apply Kd.R_drew)); exact Kd.R_mono HO_62.out (fun _ hk => ⟨trivial, hk⟩)) hg hat); have n1_ := Aside0.mk (blk_grown (bq BK209) hg (Kd.R_ne HO_12.out BK209.out (by decide))); have n2_ := Aside0.mk (hb); have n3_ := Aside0.mk (ho); clear HO_62; clear BK209; clear HB; clear HO_12; have HO_62 := n0_; have BK209 := n1_; have HB := n2_; have HO216 := n3_; clear n0_ n1_ n2_ n3_; clear ho hb hg hat))
                     go_roundg k3
                     case measure => have := HJ5.out; have := HK2.out; have := HK3.out; omega
                     case rel => exact ⟨(y214), (wrap64 (x64_3 + 1)), (by first | rfl | (simp; done) | (simp [*]; done)), H', ⟨by have := HJ5.out; have := HK2.out; have := HK3.out; omega⟩, ⟨by (with_reducible repeat (first | apply Kd.R_alloc | apply Kd.R_drewN | apply Kd.R_drew)); exact HO216.out⟩, ⟨by (with_reducible repeat (first | apply Kd.R_alloc | apply Kd.R_drewN | apply Kd.R_drew)); exact Kd.R_mono HO_62.out (fun _ hk => hk.2)⟩, ⟨bq BK209⟩, ⟨qb HB⟩⟩
                    ·rw [if_neg c39] at H; exact absurd H (by simp)
                   ·rw [if_neg c38] at H; have c38b0 : decide ((rd y210 x64_3) < a4) = false := decide_eq_false c38; clear c38; have H' := Aside0.mk H; clear H; have p213 : 0 ≤ (x64_3 : Int) := of_decide_eq_true (by first | (with_reducible assumption) | assumption); have q213 : x64_3 < (y210.length : Int) := of_decide_eq_true (by first | (with_reducible assumption) | assumption); obtain ⟨ad213, e213, hx213_0⟩ := Kd.at_int (Kd.R_reads' HO_62.out).2.2 x64_3 p213 q213
                    cases e213
                    replace p213 := eq_true p213; replace q213 := eq_true q213; go_wp2
                    go_roundg k3
                    case measure => have := HJ5.out; have := HK2.out; have := HK3.out; omega
                    case rel => exact ⟨(x12_3), (wrap64 (x64_3 + 1)), (by first | rfl | (simp; done) | (simp [*]; done)), H', ⟨by have := HJ5.out; have := HK2.out; have := HK3.out; omega⟩, ⟨by (with_reducible repeat (first | apply Kd.R_alloc | apply Kd.R_drewN | apply Kd.R_drew)); exact HO_12.out⟩, ⟨by (with_reducible repeat (first | apply Kd.R_alloc | apply Kd.R_drewN | apply Kd.R_drew)); exact HO_62.out⟩, ⟨bq BK209⟩, ⟨qb HB⟩⟩
                  ·rw [if_neg c37] at H; have c37b0 : decide (a3 < (rd y210 x64_3)) = false := decide_eq_false c37; clear c37; have H' := Aside0.mk H; clear H; have p213 : 0 ≤ (x64_3 : Int) := of_decide_eq_true (by first | (with_reducible assumption) | assumption); have q213 : x64_3 < (y210.length : Int) := of_decide_eq_true (by first | (with_reducible assumption) | assumption); obtain ⟨ad213, e213, hx213_0⟩ := Kd.at_int (Kd.R_reads' HO_62.out).2.2 x64_3 p213 q213
                   cases e213
                   replace p213 := eq_true p213; replace q213 := eq_true q213; go_wp2
                   go_roundg k3
                   case measure => have := HJ5.out; have := HK2.out; have := HK3.out; omega
                   case rel => exact ⟨(x12_3), (wrap64 (x64_3 + 1)), (by first | rfl | (simp; done) | (simp [*]; done)), H', ⟨by have := HJ5.out; have := HK2.out; have := HK3.out; omega⟩, ⟨by (with_reducible repeat (first | apply Kd.R_alloc | apply Kd.R_drewN | apply Kd.R_drew)); exact HO_12.out⟩, ⟨by (with_reducible repeat (first | apply Kd.R_alloc | apply Kd.R_drewN | apply Kd.R_drew)); exact HO_62.out⟩, ⟨bq BK209⟩, ⟨qb HB⟩⟩
                 ·rw [if_neg c36] at H; exact absurd H (by simp)
                ·rw [if_neg c35] at H; exact absurd H (by simp)
               ·rw [if_neg c34] at H; have c34b0 : decide (x64_3 < (y210.length : Int)) = false := decide_eq_false c34; clear c34; have H' := Aside0.mk H; clear H; go_wp2
                go_roundg k3
                case measure => have := HJ5.out; have := HK2.out; have := HK3.out; omega
                case rel => exact ⟨(x12_3), (wrap64 (x54_2 + 1)), (by first | rfl | (simp; done) | (simp [*]; done)), H', ⟨by have := HJ5.out; have := HK2.out; have := HK3.out; omega⟩, ⟨by (with_reducible repeat (first | apply Kd.R_alloc | apply Kd.R_drewN | apply Kd.R_drew)); exact Kd.R_mono HO_12.out (fun _ hk => trivial)⟩, ⟨qb HB⟩⟩
            ·rw [if_neg c28] at H; exact absurd H (by simp)
           ·rw [if_neg c27] at H; exact absurd H (by simp)
          ·rw [if_neg c26] at H; have c26b0 : decide (x54_2 < (l0.length : Int)) = false := decide_eq_false c26; clear c26; replace H := Option.bind_eq_some_iff.mp H; obtain ⟨t217, A410, H⟩ := H; replace H : ((slices_Compact_int_int.f t217).bind fun t221 => (impl_PriceSteps.l2 k2 l0 a1 a2 (([] : List (S40))) t221 (t221.length : Int) 0)) = some (r1, r2) := H; have A41 := Aside0.mk A410; clear A410; obtain ⟨y218, hy218⟩ : ∃ y_ : List (S40), y_ = (([] : List (S40))) := ⟨_, rfl⟩
           replace H : ((slices_Compact_int_int.f t217).bind fun t221 => (impl_PriceSteps.l2 k2 l0 a1 a2 y218 t221 (t221.length : Int) 0)) = some (r1, r2) := by first | (rw [hy218]; with_reducible exact H) | (have H2_ := (Option.bind_some _ _).symm.trans H; rw [hy218]; with_reducible exact H2_) | (have H2_ := (Option.bind_some _ _).symm.trans H; with_reducible exact H2_) | with_reducible exact H | (rw [hy218]; exact H) | exact H
           have Ny218 := Aside0.mk hy218; clear hy218; replace H := Option.bind_eq_some_iff.mp H; obtain ⟨t221, A420, H⟩ := H; replace H : (impl_PriceSteps.l2 k2 l0 a1 a2 y218 t221 (t221.length : Int) 0) = some (r1, r2) := H; have A42 := Aside0.mk A420; clear A420; have H' := Aside0.mk H; clear H; obtain ⟨Ao43, co43, eo43⟩ := Kd.R_slice HO_12.out; subst eo43
           go_wp2_with (first | ((with_reducible refine gate_callee (f := 26) rfl ?_); refine goesL_ (some 83) rfl rfl Try.func26 (by kernel_rfl) rfl #[.slice Ao43 x12_2.length co43] rfl mq ?_; (with_reducible refine (slices_Sort_int_int.calls (fun k_ => some k_ = (.slice Ao43 x12_2.length co43 : Value).ownBlock) (.slice Ao43 x12_2.length co43) x12_2 t217 w _ ?side1 ?side2 A41.out).mono ?_); (case side1 => repeat (first | (with_reducible first | exact HB.out | apply below_alloc | apply pw_below_drewN | apply below_drew1) | exact HB.out)); (case side2 => exact Kd.R_tight rfl HO_12.out); rintro e w44 ⟨rfl, hy0, hb, hkp⟩; refine ⟨_, rfl, ?_⟩; have n0_ := Aside0.mk (Kd.R_reok rfl hy0 (fun k_ e_ => HO_12.out.1 k_ e_)); have n1_ := Aside0.mk (hb); clear HO_12; clear HB; have HO_12 := n0_; have HB := n1_; clear n0_ n1_; (try clear hb); (try clear hkp); (try clear hy0)) | ((with_reducible refine gate_dst (N := 84) rfl ?_); (try (refine gate_guard (by rfl) ?_; dsimp only)); refine Kd.R_lit k40 _ 40 ?hg (N := 84) ?hd (xs := ([] : List (S40))) (inner := []) (ok := fun _ => True) (okp := fun _ => True) ?hr ?hp (fun _ hk => hk) trivial (Below.refl _ _) (Nat.le_refl _) (by simp) ?_; (case hd => rfl); (case hg => rfl); (case hr => first | (go_simp; done) | (go_simp; rfl)); (case hp => exact (Reps.none _ _)); intro v219 w45 ho46 hb hg_ hnew_; clear hg_ hnew_; (first | rw [← Ny218.out] at ho46 | (simp only [Int.reduceToNat] at ho46; rw [← Ny218.out] at ho46)); have n0_ := Aside0.mk (Kd.R_below (qr HO_12) hb); have n1_ := Aside0.mk (Kd.R_lower ho46 (below_size (qb HB))); have n2_ := Aside0.mk (below_step (qb HB) hb); clear HO_12; clear HB; have HO_12 := n0_; have HO220 := n1_; have HB := n2_; clear n0_ n1_ n2_; clear hb ho46) | ((with_reducible refine gate_callee (f := 27) rfl ?_); refine goesL_ (some 86) rfl rfl Try.func27 (by kernel_rfl) rfl #[.slice Ao43 x12_2.length co43] rfl mq ?_; (with_reducible refine (slices_Compact_int_int.calls (fun k_ => some k_ = (.slice Ao43 x12_2.length co43 : Value).ownBlock) (.slice Ao43 x12_2.length co43) t217 t221 w _ ?side1 ?side2 A42.out).mono ?_); (case side1 => repeat (first | (with_reducible first | exact HB.out | apply below_alloc | apply pw_below_drewN | apply below_drew1) | exact HB.out)); (case side2 => exact Kd.R_tight rfl HO_12.out); rintro e w47 ⟨v222, rfl, ho0, hb, hkp⟩; refine ⟨_, rfl, ?_⟩; have n0_ := Aside0.mk (Kd.R_mono (ok' := fun k_ => True) (Kd.R_keptB ((Kd.R_apart' HO220.out (Kd.R_typed HO_12.out) (by decide))) hkp (fun k_ hk_ hs_ => (hk_.2) hs_)) (fun k_ hk_ => trivial)); have n1_ := Aside0.mk (Kd.R_mono (ok' := fun k_ => True) ho0 (fun k_ hk_ => trivial)); have n2_ := Aside0.mk (hb); clear HO220; clear HB; clear HO_12; have HO220 := n0_; have HO223 := n1_; have HB := n2_; clear n0_ n1_ n2_; (try clear hb); (try clear hkp); (try clear ho0); obtain ⟨Ao48, co48, eo48⟩ := Kd.R_slice HO223.out; subst eo48))
           go_loopg [17, 88] k2 (fun kq v17 v88 w' => ∃ (x17_3 : List (S40)) (x88_3 : Int), v88 = .int .i64 x88_3 ∧ Aside0 (impl_PriceSteps.l2 kq l0 a1 a2 x17_3 t221 (t221.length : Int) x88_3 = some (r1, r2)) ∧ Aside0 (kq ≤ k2) ∧ Aside0 (Kd.R k40 40 w' w.heap.size (fun _ => True) v17 x17_3) ∧ Aside0 (Kd.R (Kd.int .i64) 3 w' w.heap.size (fun _ => True) (.slice Ao48 t221.length co48) t221) ∧ Aside0 (Below w.heap.size w w'))
           case atStart => exact ⟨(y218), (0), (by first | rfl | (simp; done) | (simp [*]; done)), H', ⟨Nat.le_refl _⟩, ⟨by (with_reducible repeat (first | apply Kd.R_alloc | apply Kd.R_drewN | apply Kd.R_drew)); exact HO220.out⟩, ⟨by (with_reducible repeat (first | apply Kd.R_alloc | apply Kd.R_drewN | apply Kd.R_drew)); exact HO223.out⟩, ⟨qb HB⟩⟩
           case round =>
            clear H'; (try clear c1); (try clear c2); (try clear p2); (try clear q2); (try clear hx2); (try clear c3); (try clear p6); (try clear c8); (try clear c14); (try clear c16); (try clear c17); (try clear c17b0); (try clear c19); (try clear c19b0); (try clear p20); (try clear q20); (try clear hx20); (try clear c21); (try clear c21b0); (try clear p21); (try clear q21); (try clear hx21); (try clear c24); (try clear c26); (try clear c26b0); (try clear c27); (try clear c27b0); (try clear c28); (try clear c28b0); (try clear c34); (try clear c34b0); (try clear c35); (try clear c35b0); (try clear c36); (try clear c36b0); (try clear c37); (try clear c37b0); (try clear c38); (try clear c38b0); (try clear c39); (try clear hcz30_0); (try clear hcz30_1); (try clear hcz30_2); (try clear hcz30_3); (try clear hcz30_4); (try clear hcz30_5); (try clear hfz30_0); (try clear hfz30_1); (try clear hfz30_2); (try clear hfz30_3); (try clear hfz30_4); (try clear hfz30_5); (try clear hx208_0); (try clear hx208_1); (try clear hx208_2); (try clear hx208_3); (try clear hx208_4); (try clear hx208_5); (try clear hx213_0); (try clear p2); (try clear p20); (try clear p208); (try clear p213); (try clear q2); (try clear q20); (try clear q208); (try clear q213); obtain ⟨x17_3, x88_3, rfl, HA, HK3, HO_17, HO_86, HB⟩ := hrel
            cases gk with
            | zero => exact absurd HA.out (by simp [impl_PriceSteps.l2])
            | succ k3 =>
             have H := HA.out; clear HA; simp only [impl_PriceSteps.l2] at H; by_cases c49 : x88_3 < (t221.length : Int)
             ·rw [if_pos c49] at H; have c49b0 : decide (x88_3 < (t221.length : Int)) = true := decide_eq_true c49; clear c49; by_cases c50 : 0 ≤ x88_3
              ·rw [if_pos c50] at H; have c50b0 : decide (0 ≤ x88_3) = true := decide_eq_true c50; clear c50; by_cases c51 : x88_3 < (t221.length : Int)
               ·rw [if_pos c51] at H; have c51b0 : decide (x88_3 < (t221.length : Int)) = true := decide_eq_true c51; clear c51; replace H := Option.bind_eq_some_iff.mp H; obtain ⟨t225, A520, H⟩ := H; replace H : (if t225 ≥ 0 then (if 0 ≤ t225 then (if t225 < (l0.length : Int) then (if (x17_3.length : Int) = 0 then (if x17_3.length < 8796093022208 then (impl_PriceSteps.l2 k3 l0 a1 a2 (x17_3 ++ [(⟨rd t221 x88_3, (rd_T44 l0 t225).f5⟩ : S40)]) t221 (t221.length : Int) (wrap64 (x88_3 + 1))) else (none)) else (if 0 ≤ (wrap64 ((x17_3.length : Int) - 1)) then (if (wrap64 ((x17_3.length : Int) - 1)) < (x17_3.length : Int) then (if ((rd_T40 x17_3 (wrap64 ((x17_3.length : Int) - 1))).f1) = ((rd_T44 l0 t225).f5) then (impl_PriceSteps.l2 k3 l0 a1 a2 x17_3 t221 (t221.length : Int) (wrap64 (x88_3 + 1))) else (if x17_3.length < 8796093022208 then (impl_PriceSteps.l2 k3 l0 a1 a2 (x17_3 ++ [(⟨rd t221 x88_3, (rd_T44 l0 t225).f5⟩ : S40)]) t221 (t221.length : Int) (wrap64 (x88_3 + 1))) else (none))) else (none)) else (none))) else (none)) else (none)) else (if (x17_3.length : Int) = 0 then (if x17_3.length < 8796093022208 then (impl_PriceSteps.l2 k3 l0 a1 a2 (x17_3 ++ [(⟨rd t221 x88_3, (-1)⟩ : S40)]) t221 (t221.length : Int) (wrap64 (x88_3 + 1))) else (none)) else (if 0 ≤ (wrap64 ((x17_3.length : Int) - 1)) then (if (wrap64 ((x17_3.length : Int) - 1)) < (x17_3.length : Int) then (if ((rd_T40 x17_3 (wrap64 ((x17_3.length : Int) - 1))).f1) = (-1) then (impl_PriceSteps.l2 k3 l0 a1 a2 x17_3 t221 (t221.length : Int) (wrap64 (x88_3 + 1))) else (if x17_3.length < 8796093022208 then (impl_PriceSteps.l2 k3 l0 a1 a2 (x17_3 ++ [(⟨rd t221 x88_3, (-1)⟩ : S40)]) t221 (t221.length : Int) (wrap64 (x88_3 + 1))) else (none))) else (none)) else (none)))) = some (r1, r2) := H; have A52 := Aside0.mk A520; clear A520; by_cases c53 : t225 ≥ 0
                ·rw [if_pos c53] at H; have c53b0 : decide (0 ≤ t225) = true := decide_eq_true c53; clear c53; by_cases c54 : 0 ≤ t225
                 ·rw [if_pos c54] at H; have c54b0 : decide (0 ≤ t225) = true := decide_eq_true c54; clear c54; by_cases c55 : t225 < (l0.length : Int)
                  ·rw [if_pos c55] at H; have c55b0 : decide (t225 < (l0.length : Int)) = true := decide_eq_true c55; clear c55; by_cases c56 : (x17_3.length : Int) = 0
                   ·rw [if_pos c56] at H; have c56b0 : ((x17_3.length : Int) == 0) = true := beq_iff_eq.mpr c56; have c56b1 : ((x17_3.length : Int) != 0) = false := bne_eq_false_iff_eq.mpr c56; clear c56; by_cases c57 : x17_3.length < 8796093022208
                    ·rw [if_pos c57] at H; have LMc57 := Aside0.mk c57; clear c57; obtain ⟨y227, hy227⟩ : ∃ y_ : List (S40), y_ = (x17_3 ++ [(⟨rd t221 x88_3, (rd_T44 l0 t225).f5⟩ : S40)]) := ⟨_, rfl⟩
                     replace H : (impl_PriceSteps.l2 k3 l0 a1 a2 y227 t221 (t221.length : Int) (wrap64 (x88_3 + 1))) = some (r1, r2) := by first | (rw [hy227]; with_reducible exact H) | (have H2_ := (Option.bind_some _ _).symm.trans H; rw [hy227]; with_reducible exact H2_) | (have H2_ := (Option.bind_some _ _).symm.trans H; with_reducible exact H2_) | with_reducible exact H | (rw [hy227]; exact H) | exact H
                     have Ny227 := Aside0.mk hy227; clear hy227; have H' := Aside0.mk H; clear H; have p224 : 0 ≤ (x88_3 : Int) := of_decide_eq_true (by first | (with_reducible assumption) | assumption); have q224 : x88_3 < (t221.length : Int) := of_decide_eq_true (by first | (with_reducible assumption) | assumption); obtain ⟨ad224, e224, hx224_0⟩ := Kd.at_int (Kd.R_reads' HO_86.out).2.2 x88_3 p224 q224
                     cases e224
                     replace p224 := eq_true p224; replace q224 := eq_true q224
                     go_wp2_with (first | ((with_reducible refine gate_callee (f := 28) rfl ?_); refine goesL_ (some 96) rfl rfl Try.func28 (by kernel_rfl) rfl #[.slice A0 l0.length c0, .string a1, .string a2, .int .i64 (rd t221 x88_3)] rfl mq ?_; (with_reducible refine (impl_rowAt.calls k3 _ _ l0 a1 a2 (rd t221 x88_3) t225 _ ?side1 ?side2 A52.out).mono ?_); (case side1 => repeat (first | exact (Kd.C_below HR0.out HB.out) | (with_reducible refine Kd.C_alloc ?_ _) | (with_reducible refine Kd.C_drewN ?_ _) | (with_reducible refine Kd.C_drew ?_))); (case side2 => exact HC0.out); rintro e w58 ⟨rfl, hb⟩; refine ⟨_, rfl, ?_⟩; have n0_ := Aside0.mk (Kd.R_below (qr HO_17) hb); have n1_ := Aside0.mk (Kd.R_below (qr HO_86) hb); have n2_ := Aside0.mk (below_step (qb HB) hb); clear HO_17; clear HO_86; clear HB; have HO_17 := n0_; have HO_86 := n1_; have HB := n2_; clear n0_ n1_ n2_; (try clear hb); (try clear hb2); (try clear hk); (try clear hi); have p226 : 0 ≤ (t225 : Int) := of_decide_eq_true (by first | (with_reducible assumption) | assumption); have q226 : t225 < (l0.length : Int) := of_decide_eq_true (by first | (with_reducible assumption) | assumption); obtain ⟨ad226, e226, hx226_0, hx226_1, hx226_2, hx226_3, hx226_4, hx226_5⟩ := at_T44 HR0.out t225 p226 q226; cases e226; replace hx226_0 := (HB.out.cell (World.block_lt_of_cell? w _ hx226_0)).trans hx226_0; replace hx226_1 := (HB.out.cell (World.block_lt_of_cell? w _ hx226_1)).trans hx226_1; replace hx226_2 := (HB.out.cell (World.block_lt_of_cell? w _ hx226_2)).trans hx226_2; replace hx226_3 := (HB.out.cell (World.block_lt_of_cell? w _ hx226_3)).trans hx226_3; replace hx226_4 := (HB.out.cell (World.block_lt_of_cell? w _ hx226_4)).trans hx226_4; replace hx226_5 := (HB.out.cell (World.block_lt_of_cell? w _ hx226_5)).trans hx226_5; replace p226 := eq_true p226; replace q226 := eq_true q226; obtain ⟨Ao59, co59, eo59⟩ := Kd.R_slice HO_17.out; subst eo59) | ((with_reducible refine gate_builtin (b := .append) (xs := #[.tmp 118, .tmp 122]) rfl ?_); (try (refine gate_guard (by rfl) ?_; dsimp only)); at_builtin; refine Kd.R_append k40 (w0 := w) w.heap.size rfl (.tmp 118) (.tmp 122) 24 40 (.agg #[(.int .i64 0), (.int .i64 0)]) 16 rfl Try.underlying24 info40 rfl (by decide) (by omega) (.slice Ao59 x17_3.length co59) x17_3 (⟨rd t221 x88_3, (rd_T44 l0 t225).f5⟩ : S40) [.int .i64 (rd t221 x88_3), .int .i64 ((rd_T44 l0 t225).f5)] (fun _ => True) (fun _ => False) rfl rfl ?aP (fun _ hk => hk.elim) ?aF ?aO ?aB ?aS ?aL ?_; (case aP => exact k40_mkM _ _ _ (⟨rd t221 x88_3, (rd_T44 l0 t225).f5⟩ : S40)); (case aB => exact (qb HB)); (case aF => exact (fun _ _ => trivial)); (case aO => exact (qr HO_17)); (case aS => exact (below_size (qb HB))); (case aL => have := LMc57.out; omega); intro v228 w60 ho hb hg hat; rw [← Ny227.out] at ho; have n0_ := Aside0.mk (Kd.R_over' (qr HO_86) (Kd.R_typed (qr HO_17)) (by decide) hg); have n1_ := Aside0.mk (hb); have n2_ := Aside0.mk (ho); clear HO_86; clear HB; clear HO_17; have HO_86 := n0_; have HB := n1_; have HO229 := n2_; clear n0_ n1_ n2_; clear ho hb hg hat))
                     go_roundg k3
                     case measure => have := HJ5.out; have := HK2.out; have := HK3.out; omega
                     case rel => exact ⟨(y227), (wrap64 (x88_3 + 1)), (by first | rfl | (simp; done) | (simp [*]; done)), H', ⟨by have := HJ5.out; have := HK2.out; have := HK3.out; omega⟩, ⟨by (with_reducible repeat (first | apply Kd.R_alloc | apply Kd.R_drewN | apply Kd.R_drew)); exact HO229.out⟩, ⟨by (with_reducible repeat (first | apply Kd.R_alloc | apply Kd.R_drewN | apply Kd.R_drew)); exact HO_86.out⟩, ⟨qb HB⟩⟩
                    ·rw [if_neg c57] at H; exact absurd H (by simp)
                   ·rw [if_neg c56] at H; have c56b0 : ((x17_3.length : Int) == 0) = false := beq_eq_false_iff_ne.mpr c56; have c56b1 : ((x17_3.length : Int) != 0) = true := bne_iff_ne.mpr c56
                    have c56b2 : ¬ (x17_3 = []) := fun h_ => c56 (by rw [h_]; rfl)
                    obtain ⟨ji61, hji61⟩ : ∃ j_ : Int, (wrap64 ((x17_3.length : Int) - 1)) = j_ := ⟨_, rfl⟩
                    replace H : (if 0 ≤ (ji61) then (if (ji61) < (x17_3.length : Int) then (if ((rd_T40 x17_3 (ji61)).f1) = ((rd_T44 l0 t225).f5) then (impl_PriceSteps.l2 k3 l0 a1 a2 x17_3 t221 (t221.length : Int) (wrap64 (x88_3 + 1))) else (if x17_3.length < 8796093022208 then (impl_PriceSteps.l2 k3 l0 a1 a2 (x17_3 ++ [(⟨rd t221 x88_3, (rd_T44 l0 t225).f5⟩ : S40)]) t221 (t221.length : Int) (wrap64 (x88_3 + 1))) else (none))) else (none)) else (none)) = some (r1, r2) := by first | (rw [hji61] at H; exact H) | (simp only [hji61] at H ⊢; exact H)
                    (try rw [hji61] at A52)
                    have hji61w : (IntKind.i64.wrap ((x17_3.length : Int) - 1)) = ji61 := (i64_w _).trans hji61; by_cases c62 : 0 ≤ (ji61)
                    ·rw [if_pos c62] at H; have c62b0 : decide (0 ≤ (ji61)) = true := decide_eq_true c62; clear c62; by_cases c63 : (ji61) < (x17_3.length : Int)
                     ·rw [if_pos c63] at H; have c63b0 : decide ((ji61) < (x17_3.length : Int)) = true := decide_eq_true c63; clear c63; by_cases c64 : ((rd_T40 x17_3 (ji61)).f1) = ((rd_T44 l0 t225).f5)
                      ·rw [if_pos c64] at H; have c64b0 : (((rd_T40 x17_3 (ji61)).f1) == ((rd_T44 l0 t225).f5)) = true := beq_iff_eq.mpr c64; have c64b1 : (((rd_T40 x17_3 (ji61)).f1) != ((rd_T44 l0 t225).f5)) = false := bne_eq_false_iff_eq.mpr c64; clear c64; have H' := Aside0.mk H; clear H; have p224 : 0 ≤ (x88_3 : Int) := of_decide_eq_true (by first | (with_reducible assumption) | assumption); have q224 : x88_3 < (t221.length : Int) := of_decide_eq_true (by first | (with_reducible assumption) | assumption); obtain ⟨ad224, e224, hx224_0⟩ := Kd.at_int (Kd.R_reads' HO_86.out).2.2 x88_3 p224 q224
                       cases e224
                       replace p224 := eq_true p224; replace q224 := eq_true q224
                       go_wp2_with (first | ((with_reducible refine gate_callee (f := 28) rfl ?_); refine goesL_ (some 96) rfl rfl Try.func28 (by kernel_rfl) rfl #[.slice A0 l0.length c0, .string a1, .string a2, .int .i64 (rd t221 x88_3)] rfl mq ?_; (with_reducible refine (impl_rowAt.calls k3 _ _ l0 a1 a2 (rd t221 x88_3) t225 _ ?side1 ?side2 A52.out).mono ?_); (case side1 => repeat (first | exact (Kd.C_below HR0.out HB.out) | (with_reducible refine Kd.C_alloc ?_ _) | (with_reducible refine Kd.C_drewN ?_ _) | (with_reducible refine Kd.C_drew ?_))); (case side2 => exact HC0.out); rintro e w65 ⟨rfl, hb⟩; refine ⟨_, rfl, ?_⟩; have n0_ := Aside0.mk (Kd.R_below (qr HO_17) hb); have n1_ := Aside0.mk (Kd.R_below (qr HO_86) hb); have n2_ := Aside0.mk (below_step (qb HB) hb); clear HO_17; clear HO_86; clear HB; have HO_17 := n0_; have HO_86 := n1_; have HB := n2_; clear n0_ n1_ n2_; (try clear hb); (try clear hb2); (try clear hk); (try clear hi); have p226 : 0 ≤ (t225 : Int) := of_decide_eq_true (by first | (with_reducible assumption) | assumption); have q226 : t225 < (l0.length : Int) := of_decide_eq_true (by first | (with_reducible assumption) | assumption); obtain ⟨ad226, e226, hx226_0, hx226_1, hx226_2, hx226_3, hx226_4, hx226_5⟩ := at_T44 HR0.out t225 p226 q226; cases e226; replace hx226_0 := (HB.out.cell (World.block_lt_of_cell? w _ hx226_0)).trans hx226_0; replace hx226_1 := (HB.out.cell (World.block_lt_of_cell? w _ hx226_1)).trans hx226_1; replace hx226_2 := (HB.out.cell (World.block_lt_of_cell? w _ hx226_2)).trans hx226_2; replace hx226_3 := (HB.out.cell (World.block_lt_of_cell? w _ hx226_3)).trans hx226_3; replace hx226_4 := (HB.out.cell (World.block_lt_of_cell? w _ hx226_4)).trans hx226_4; replace hx226_5 := (HB.out.cell (World.block_lt_of_cell? w _ hx226_5)).trans hx226_5; replace p226 := eq_true p226; replace q226 := eq_true q226; obtain ⟨Ao66, co66, eo66⟩ := Kd.R_slice HO_17.out; subst eo66; have p230 : 0 ≤ ((ji61) : Int) := of_decide_eq_true (by first | (with_reducible assumption) | assumption); have q230 : (ji61) < (x17_3.length : Int) := of_decide_eq_true (by first | (with_reducible assumption) | assumption); obtain ⟨ad230, e230, hx230_0, hx230_1⟩ := at_T40 (Kd.R_reads' HO_17.out).2.2 (ji61) p230 q230; cases e230; replace p230 := eq_true p230; replace q230 := eq_true q230))
                       go_roundg k3
                       case measure => have := HJ5.out; have := HK2.out; have := HK3.out; omega
                       case rel => exact ⟨(x17_3), (wrap64 (x88_3 + 1)), (by first | rfl | (simp; done) | (simp [*]; done)), H', ⟨by have := HJ5.out; have := HK2.out; have := HK3.out; omega⟩, ⟨by (with_reducible repeat (first | apply Kd.R_alloc | apply Kd.R_drewN | apply Kd.R_drew)); exact HO_17.out⟩, ⟨by (with_reducible repeat (first | apply Kd.R_alloc | apply Kd.R_drewN | apply Kd.R_drew)); exact HO_86.out⟩, ⟨qb HB⟩⟩
                      ·rw [if_neg c64] at H; have c64b0 : (((rd_T40 x17_3 (ji61)).f1) == ((rd_T44 l0 t225).f5)) = false := beq_eq_false_iff_ne.mpr c64; have c64b1 : (((rd_T40 x17_3 (ji61)).f1) != ((rd_T44 l0 t225).f5)) = true := bne_iff_ne.mpr c64; by_cases c67 : x17_3.length < 8796093022208
                       ·rw [if_pos c67] at H; have LMc67 := Aside0.mk c67; clear c67; obtain ⟨y231, hy231⟩ : ∃ y_ : List (S40), y_ = (x17_3 ++ [(⟨rd t221 x88_3, (rd_T44 l0 t225).f5⟩ : S40)]) := ⟨_, rfl⟩
                        replace H : (impl_PriceSteps.l2 k3 l0 a1 a2 y231 t221 (t221.length : Int) (wrap64 (x88_3 + 1))) = some (r1, r2) := by first | (rw [hy231]; with_reducible exact H) | (have H2_ := (Option.bind_some _ _).symm.trans H; rw [hy231]; with_reducible exact H2_) | (have H2_ := (Option.bind_some _ _).symm.trans H; with_reducible exact H2_) | with_reducible exact H | (rw [hy231]; exact H) | exact H
                        have Ny231 := Aside0.mk hy231; clear hy231; have H' := Aside0.mk H; clear H; have p224 : 0 ≤ (x88_3 : Int) := of_decide_eq_true (by first | (with_reducible assumption) | assumption); have q224 : x88_3 < (t221.length : Int) := of_decide_eq_true (by first | (with_reducible assumption) | assumption); obtain ⟨ad224, e224, hx224_0⟩ := Kd.at_int (Kd.R_reads' HO_86.out).2.2 x88_3 p224 q224
                        cases e224
                        replace p224 := eq_true p224; replace q224 := eq_true q224
                        go_wp2_with (first | ((with_reducible refine gate_callee (f := 28) rfl ?_); refine goesL_ (some 96) rfl rfl Try.func28 (by kernel_rfl) rfl #[.slice A0 l0.length c0, .string a1, .string a2, .int .i64 (rd t221 x88_3)] rfl mq ?_; (with_reducible refine (impl_rowAt.calls k3 _ _ l0 a1 a2 (rd t221 x88_3) t225 _ ?side1 ?side2 A52.out).mono ?_); (case side1 => repeat (first | exact (Kd.C_below HR0.out HB.out) | (with_reducible refine Kd.C_alloc ?_ _) | (with_reducible refine Kd.C_drewN ?_ _) | (with_reducible refine Kd.C_drew ?_))); (case side2 => exact HC0.out); rintro e w68 ⟨rfl, hb⟩; refine ⟨_, rfl, ?_⟩; have n0_ := Aside0.mk (Kd.R_below (qr HO_17) hb); have n1_ := Aside0.mk (Kd.R_below (qr HO_86) hb); have n2_ := Aside0.mk (below_step (qb HB) hb); clear HO_17; clear HO_86; clear HB; have HO_17 := n0_; have HO_86 := n1_; have HB := n2_; clear n0_ n1_ n2_; (try clear hb); (try clear hb2); (try clear hk); (try clear hi); have p226 : 0 ≤ (t225 : Int) := of_decide_eq_true (by first | (with_reducible assumption) | assumption); have q226 : t225 < (l0.length : Int) := of_decide_eq_true (by first | (with_reducible assumption) | assumption); obtain ⟨ad226, e226, hx226_0, hx226_1, hx226_2, hx226_3, hx226_4, hx226_5⟩ := at_T44 HR0.out t225 p226 q226; cases e226; replace hx226_0 := (HB.out.cell (World.block_lt_of_cell? w _ hx226_0)).trans hx226_0; replace hx226_1 := (HB.out.cell (World.block_lt_of_cell? w _ hx226_1)).trans hx226_1; replace hx226_2 := (HB.out.cell (World.block_lt_of_cell? w _ hx226_2)).trans hx226_2; replace hx226_3 := (HB.out.cell (World.block_lt_of_cell? w _ hx226_3)).trans hx226_3; replace hx226_4 := (HB.out.cell (World.block_lt_of_cell? w _ hx226_4)).trans hx226_4; replace hx226_5 := (HB.out.cell (World.block_lt_of_cell? w _ hx226_5)).trans hx226_5; replace p226 := eq_true p226; replace q226 := eq_true q226; obtain ⟨Ao69, co69, eo69⟩ := Kd.R_slice HO_17.out; subst eo69; have p230 : 0 ≤ ((ji61) : Int) := of_decide_eq_true (by first | (with_reducible assumption) | assumption); have q230 : (ji61) < (x17_3.length : Int) := of_decide_eq_true (by first | (with_reducible assumption) | assumption); obtain ⟨ad230, e230, hx230_0, hx230_1⟩ := at_T40 (Kd.R_reads' HO_17.out).2.2 (ji61) p230 q230; cases e230; replace p230 := eq_true p230; replace q230 := eq_true q230) | ((with_reducible refine gate_builtin (b := .append) (xs := #[.tmp 118, .tmp 122]) rfl ?_); (try (refine gate_guard (by rfl) ?_; dsimp only)); at_builtin; refine Kd.R_append k40 (w0 := w) w.heap.size rfl (.tmp 118) (.tmp 122) 24 40 (.agg #[(.int .i64 0), (.int .i64 0)]) 16 rfl Try.underlying24 info40 rfl (by decide) (by omega) (.slice (some ad230) x17_3.length co69) x17_3 (⟨rd t221 x88_3, (rd_T44 l0 t225).f5⟩ : S40) [.int .i64 (rd t221 x88_3), .int .i64 ((rd_T44 l0 t225).f5)] (fun _ => True) (fun _ => False) rfl rfl ?aP (fun _ hk => hk.elim) ?aF ?aO ?aB ?aS ?aL ?_; (case aP => exact k40_mkM _ _ _ (⟨rd t221 x88_3, (rd_T44 l0 t225).f5⟩ : S40)); (case aB => exact (qb HB)); (case aF => exact (fun _ _ => trivial)); (case aO => exact (qr HO_17)); (case aS => exact (below_size (qb HB))); (case aL => have := LMc67.out; omega); intro v232 w70 ho hb hg hat; rw [← Ny231.out] at ho; have n0_ := Aside0.mk (Kd.R_over' (qr HO_86) (Kd.R_typed (qr HO_17)) (by decide) hg); have n1_ := Aside0.mk (hb); have n2_ := Aside0.mk (ho); clear HO_86; clear HB; clear HO_17; have HO_86 := n0_; have HB := n1_; have HO233 := n2_; clear n0_ n1_ n2_; clear ho hb hg hat))
                        go_roundg k3
                        case measure => have := HJ5.out; have := HK2.out; have := HK3.out; omega
                        case rel => exact ⟨(y231), (wrap64 (x88_3 + 1)), (by first | rfl | (simp; done) | (simp [*]; done)), H', ⟨by have := HJ5.out; have := HK2.out; have := HK3.out; omega⟩, ⟨by (with_reducible repeat (first | apply Kd.R_alloc | apply Kd.R_drewN | apply Kd.R_drew)); exact HO233.out⟩, ⟨by (with_reducible repeat (first | apply Kd.R_alloc | apply Kd.R_drewN | apply Kd.R_drew)); exact HO_86.out⟩, ⟨qb HB⟩⟩
                       ·rw [if_neg c67] at H; exact absurd H (by simp)
                     ·rw [if_neg c63] at H; exact absurd H (by simp)
                    ·rw [if_neg c62] at H; exact absurd H (by simp)
                  ·rw [if_neg c55] at H; exact absurd H (by simp)
                 ·rw [if_neg c54] at H; exact absurd H (by simp)
                ·rw [if_neg c53] at H; have c53b0 : decide (0 ≤ t225) = false := decide_eq_false c53; clear c53; by_cases c71 : (x17_3.length : Int) = 0
                 ·rw [if_pos c71] at H; have c71b0 : ((x17_3.length : Int) == 0) = true := beq_iff_eq.mpr c71; have c71b1 : ((x17_3.length : Int) != 0) = false := bne_eq_false_iff_eq.mpr c71; clear c71; by_cases c72 : x17_3.length < 8796093022208
                  ·rw [if_pos c72] at H; have LMc72 := Aside0.mk c72; clear c72; obtain ⟨y234, hy234⟩ : ∃ y_ : List (S40), y_ = (x17_3 ++ [(⟨rd t221 x88_3, (-1)⟩ : S40)]) := ⟨_, rfl⟩
                   replace H : (impl_PriceSteps.l2 k3 l0 a1 a2 y234 t221 (t221.length : Int) (wrap64 (x88_3 + 1))) = some (r1, r2) := by first | (rw [hy234]; with_reducible exact H) | (have H2_ := (Option.bind_some _ _).symm.trans H; rw [hy234]; with_reducible exact H2_) | (have H2_ := (Option.bind_some _ _).symm.trans H; with_reducible exact H2_) | with_reducible exact H | (rw [hy234]; exact H) | exact H
                   have Ny234 := Aside0.mk hy234; clear hy234; have H' := Aside0.mk H; clear H; have p224 : 0 ≤ (x88_3 : Int) := of_decide_eq_true (by first | (with_reducible assumption) | assumption); have q224 : x88_3 < (t221.length : Int) := of_decide_eq_true (by first | (with_reducible assumption) | assumption); obtain ⟨ad224, e224, hx224_0⟩ := Kd.at_int (Kd.R_reads' HO_86.out).2.2 x88_3 p224 q224
                   cases e224
                   replace p224 := eq_true p224; replace q224 := eq_true q224
                   go_wp2_with (first | ((with_reducible refine gate_callee (f := 28) rfl ?_); refine goesL_ (some 96) rfl rfl Try.func28 (by kernel_rfl) rfl #[.slice A0 l0.length c0, .string a1, .string a2, .int .i64 (rd t221 x88_3)] rfl mq ?_; (with_reducible refine (impl_rowAt.calls k3 _ _ l0 a1 a2 (rd t221 x88_3) t225 _ ?side1 ?side2 A52.out).mono ?_); (case side1 => repeat (first | exact (Kd.C_below HR0.out HB.out) | (with_reducible refine Kd.C_alloc ?_ _) | (with_reducible refine Kd.C_drewN ?_ _) | (with_reducible refine Kd.C_drew ?_))); (case side2 => exact HC0.out); rintro e w73 ⟨rfl, hb⟩; refine ⟨_, rfl, ?_⟩; have n0_ := Aside0.mk (Kd.R_below (qr HO_17) hb); have n1_ := Aside0.mk (Kd.R_below (qr HO_86) hb); have n2_ := Aside0.mk (below_step (qb HB) hb); clear HO_17; clear HO_86; clear HB; have HO_17 := n0_; have HO_86 := n1_; have HB := n2_; clear n0_ n1_ n2_; (try clear hb); (try clear hb2); (try clear hk); (try clear hi); obtain ⟨Ao74, co74, eo74⟩ := Kd.R_slice HO_17.out; subst eo74) | ((with_reducible refine gate_builtin (b := .append) (xs := #[.tmp 118, .tmp 122]) rfl ?_); (try (refine gate_guard (by rfl) ?_; dsimp only)); at_builtin; refine Kd.R_append k40 (w0 := w) w.heap.size rfl (.tmp 118) (.tmp 122) 24 40 (.agg #[(.int .i64 0), (.int .i64 0)]) 16 rfl Try.underlying24 info40 rfl (by decide) (by omega) (.slice Ao74 x17_3.length co74) x17_3 (⟨rd t221 x88_3, (-1)⟩ : S40) [.int .i64 (rd t221 x88_3), .int .i64 (-1)] (fun _ => True) (fun _ => False) rfl rfl ?aP (fun _ hk => hk.elim) ?aF ?aO ?aB ?aS ?aL ?_; (case aP => exact k40_mkM _ _ _ (⟨rd t221 x88_3, (-1)⟩ : S40)); (case aB => exact (qb HB)); (case aF => exact (fun _ _ => trivial)); (case aO => exact (qr HO_17)); (case aS => exact (below_size (qb HB))); (case aL => have := LMc72.out; omega); intro v235 w75 ho hb hg hat; rw [← Ny234.out] at ho; have n0_ := Aside0.mk (Kd.R_over' (qr HO_86) (Kd.R_typed (qr HO_17)) (by decide) hg); have n1_ := Aside0.mk (hb); have n2_ := Aside0.mk (ho); clear HO_86; clear HB; clear HO_17; have HO_86 := n0_; have HB := n1_; have HO236 := n2_; clear n0_ n1_ n2_; clear ho hb hg hat))
                   go_roundg k3
                   case measure => have := HJ5.out; have := HK2.out; have := HK3.out; omega
                   case rel => exact ⟨(y234), (wrap64 (x88_3 + 1)), (by first | rfl | (simp; done) | (simp [*]; done)), H', ⟨by have := HJ5.out; have := HK2.out; have := HK3.out; omega⟩, ⟨by (with_reducible repeat (first | apply Kd.R_alloc | apply Kd.R_drewN | apply Kd.R_drew)); exact HO236.out⟩, ⟨by (with_reducible repeat (first | apply Kd.R_alloc | apply Kd.R_drewN | apply Kd.R_drew)); exact HO_86.out⟩, ⟨qb HB⟩⟩
                  ·rw [if_neg c72] at H; exact absurd H (by simp)
                 ·rw [if_neg c71] at H; have c71b0 : ((x17_3.length : Int) == 0) = false := beq_eq_false_iff_ne.mpr c71; have c71b1 : ((x17_3.length : Int) != 0) = true := bne_iff_ne.mpr c71
                  have c71b2 : ¬ (x17_3 = []) := fun h_ => c71 (by rw [h_]; rfl)
                  obtain ⟨ji76, hji76⟩ : ∃ j_ : Int, (wrap64 ((x17_3.length : Int) - 1)) = j_ := ⟨_, rfl⟩
                  replace H : (if 0 ≤ (ji76) then (if (ji76) < (x17_3.length : Int) then (if ((rd_T40 x17_3 (ji76)).f1) = (-1) then (impl_PriceSteps.l2 k3 l0 a1 a2 x17_3 t221 (t221.length : Int) (wrap64 (x88_3 + 1))) else (if x17_3.length < 8796093022208 then (impl_PriceSteps.l2 k3 l0 a1 a2 (x17_3 ++ [(⟨rd t221 x88_3, (-1)⟩ : S40)]) t221 (t221.length : Int) (wrap64 (x88_3 + 1))) else (none))) else (none)) else (none)) = some (r1, r2) := by first | (rw [hji76] at H; exact H) | (simp only [hji76] at H ⊢; exact H)
                  (try rw [hji76] at A52)
                  have hji76w : (IntKind.i64.wrap ((x17_3.length : Int) - 1)) = ji76 := (i64_w _).trans hji76; (try clear hji61w); (try clear hji61); by_cases c77 : 0 ≤ (ji76)
                  ·rw [if_pos c77] at H; have c77b0 : decide (0 ≤ (ji76)) = true := decide_eq_true c77; clear c77; by_cases c78 : (ji76) < (x17_3.length : Int)
                   ·rw [if_pos c78] at H; have c78b0 : decide ((ji76) < (x17_3.length : Int)) = true := decide_eq_true c78; clear c78; by_cases c79 : ((rd_T40 x17_3 (ji76)).f1) = (-1)
                    ·rw [if_pos c79] at H; have c79b0 : (((rd_T40 x17_3 (ji76)).f1) == (-1)) = true := beq_iff_eq.mpr c79; have c79b1 : (((rd_T40 x17_3 (ji76)).f1) != (-1)) = false := bne_eq_false_iff_eq.mpr c79; clear c79; have H' := Aside0.mk H; clear H; have p224 : 0 ≤ (x88_3 : Int) := of_decide_eq_true (by first | (with_reducible assumption) | assumption); have q224 : x88_3 < (t221.length : Int) := of_decide_eq_true (by first | (with_reducible assumption) | assumption); obtain ⟨ad224, e224, hx224_0⟩ := Kd.at_int (Kd.R_reads' HO_86.out).2.2 x88_3 p224 q224
                     cases e224
                     replace p224 := eq_true p224; replace q224 := eq_true q224
                     go_wp2_with (first | ((with_reducible refine gate_callee (f := 28) rfl ?_); refine goesL_ (some 96) rfl rfl Try.func28 (by kernel_rfl) rfl #[.slice A0 l0.length c0, .string a1, .string a2, .int .i64 (rd t221 x88_3)] rfl mq ?_; (with_reducible refine (impl_rowAt.calls k3 _ _ l0 a1 a2 (rd t221 x88_3) t225 _ ?side1 ?side2 A52.out).mono ?_); (case side1 => repeat (first | exact (Kd.C_below HR0.out HB.out) | (with_reducible refine Kd.C_alloc ?_ _) | (with_reducible refine Kd.C_drewN ?_ _) | (with_reducible refine Kd.C_drew ?_))); (case side2 => exact HC0.out); rintro e w80 ⟨rfl, hb⟩; refine ⟨_, rfl, ?_⟩; have n0_ := Aside0.mk (Kd.R_below (qr HO_17) hb); have n1_ := Aside0.mk (Kd.R_below (qr HO_86) hb); have n2_ := Aside0.mk (below_step (qb HB) hb); clear HO_17; clear HO_86; clear HB; have HO_17 := n0_; have HO_86 := n1_; have HB := n2_; clear n0_ n1_ n2_; (try clear hb); (try clear hb2); (try clear hk); (try clear hi); obtain ⟨Ao81, co81, eo81⟩ := Kd.R_slice HO_17.out; subst eo81; have p237 : 0 ≤ ((ji76) : Int) := of_decide_eq_true (by first | (with_reducible assumption) | assumption); have q237 : (ji76) < (x17_3.length : Int) := of_decide_eq_true (by first | (with_reducible assumption) | assumption); obtain ⟨ad237, e237, hx237_0, hx237_1⟩ := at_T40 (Kd.R_reads' HO_17.out).2.2 (ji76) p237 q237; cases e237; replace p237 := eq_true p237; replace q237 := eq_true q237))
                     go_roundg k3
                     case measure => have := HJ5.out; have := HK2.out; have := HK3.out; omega
                     case rel => exact ⟨(x17_3), (wrap64 (x88_3 + 1)), (by first | rfl | (simp; done) | (simp [*]; done)), H', ⟨by have := HJ5.out; have := HK2.out; have := HK3.out; omega⟩, ⟨by (with_reducible repeat (first | apply Kd.R_alloc | apply Kd.R_drewN | apply Kd.R_drew)); exact HO_17.out⟩, ⟨by (with_reducible repeat (first | apply Kd.R_alloc | apply Kd.R_drewN | apply Kd.R_drew)); exact HO_86.out⟩, ⟨qb HB⟩⟩
                    ·rw [if_neg c79] at H; have c79b0 : (((rd_T40 x17_3 (ji76)).f1) == (-1)) = false := beq_eq_false_iff_ne.mpr c79; have c79b1 : (((rd_T40 x17_3 (ji76)).f1) != (-1)) = true := bne_iff_ne.mpr c79; by_cases c82 : x17_3.length < 8796093022208
                     ·rw [if_pos c82] at H; have LMc82 := Aside0.mk c82; clear c82; obtain ⟨y238, hy238⟩ : ∃ y_ : List (S40), y_ = (x17_3 ++ [(⟨rd t221 x88_3, (-1)⟩ : S40)]) := ⟨_, rfl⟩
                      replace H : (impl_PriceSteps.l2 k3 l0 a1 a2 y238 t221 (t221.length : Int) (wrap64 (x88_3 + 1))) = some (r1, r2) := by first | (rw [hy238]; with_reducible exact H) | (have H2_ := (Option.bind_some _ _).symm.trans H; rw [hy238]; with_reducible exact H2_) | (have H2_ := (Option.bind_some _ _).symm.trans H; with_reducible exact H2_) | with_reducible exact H | (rw [hy238]; exact H) | exact H
                      have Ny238 := Aside0.mk hy238; clear hy238; have H' := Aside0.mk H; clear H; have p224 : 0 ≤ (x88_3 : Int) := of_decide_eq_true (by first | (with_reducible assumption) | assumption); have q224 : x88_3 < (t221.length : Int) := of_decide_eq_true (by first | (with_reducible assumption) | assumption); obtain ⟨ad224, e224, hx224_0⟩ := Kd.at_int (Kd.R_reads' HO_86.out).2.2 x88_3 p224 q224
                      cases e224
                      replace p224 := eq_true p224; replace q224 := eq_true q224
                      go_wp2_with (first | ((with_reducible refine gate_callee (f := 28) rfl ?_); refine goesL_ (some 96) rfl rfl Try.func28 (by kernel_rfl) rfl #[.slice A0 l0.length c0, .string a1, .string a2, .int .i64 (rd t221 x88_3)] rfl mq ?_; (with_reducible refine (impl_rowAt.calls k3 _ _ l0 a1 a2 (rd t221 x88_3) t225 _ ?side1 ?side2 A52.out).mono ?_); (case side1 => repeat (first | exact (Kd.C_below HR0.out HB.out) | (with_reducible refine Kd.C_alloc ?_ _) | (with_reducible refine Kd.C_drewN ?_ _) | (with_reducible refine Kd.C_drew ?_))); (case side2 => exact HC0.out); rintro e w83 ⟨rfl, hb⟩; refine ⟨_, rfl, ?_⟩; have n0_ := Aside0.mk (Kd.R_below (qr HO_17) hb); have n1_ := Aside0.mk (Kd.R_below (qr HO_86) hb); have n2_ := Aside0.mk (below_step (qb HB) hb); clear HO_17; clear HO_86; clear HB; have HO_17 := n0_; have HO_86 := n1_; have HB := n2_; clear n0_ n1_ n2_; (try clear hb); (try clear hb2); (try clear hk); (try clear hi); obtain ⟨Ao84, co84, eo84⟩ := Kd.R_slice HO_17.out; subst eo84; have p237 : 0 ≤ ((ji76) : Int) := of_decide_eq_true (by first | (with_reducible assumption) | assumption); have q237 : (ji76) < (x17_3.length : Int) := of_decide_eq_true (by first | (with_reducible assumption) | assumption); obtain ⟨ad237, e237, hx237_0, hx237_1⟩ := at_T40 (Kd.R_reads' HO_17.out).2.2 (ji76) p237 q237; cases e237; replace p237 := eq_true p237; replace q237 := eq_true q237) | ((with_reducible refine gate_builtin (b := .append) (xs := #[.tmp 118, .tmp 122]) rfl ?_); (try (refine gate_guard (by rfl) ?_; dsimp only)); at_builtin; refine Kd.R_append k40 (w0 := w) w.heap.size rfl (.tmp 118) (.tmp 122) 24 40 (.agg #[(.int .i64 0), (.int .i64 0)]) 16 rfl Try.underlying24 info40 rfl (by decide) (by omega) (.slice (some ad237) x17_3.length co84) x17_3 (⟨rd t221 x88_3, (-1)⟩ : S40) [.int .i64 (rd t221 x88_3), .int .i64 (-1)] (fun _ => True) (fun _ => False) rfl rfl ?aP (fun _ hk => hk.elim) ?aF ?aO ?aB ?aS ?aL ?_; (case aP => exact k40_mkM _ _ _ (⟨rd t221 x88_3, (-1)⟩ : S40)); (case aB => exact (qb HB)); (case aF => exact (fun _ _ => trivial)); (case aO => exact (qr HO_17)); (case aS => exact (below_size (qb HB))); (case aL => have := LMc82.out; omega); intro v239 w85 ho hb hg hat; rw [← Ny238.out] at ho; have n0_ := Aside0.mk (Kd.R_over' (qr HO_86) (Kd.R_typed (qr HO_17)) (by decide) hg); have n1_ := Aside0.mk (hb); have n2_ := Aside0.mk (ho); clear HO_86; clear HB; clear HO_17; have HO_86 := n0_; have HB := n1_; have HO240 := n2_; clear n0_ n1_ n2_; clear ho hb hg hat))
                      go_roundg k3
                      case measure => have := HJ5.out; have := HK2.out; have := HK3.out; omega
                      case rel => exact ⟨(y238), (wrap64 (x88_3 + 1)), (by first | rfl | (simp; done) | (simp [*]; done)), H', ⟨by have := HJ5.out; have := HK2.out; have := HK3.out; omega⟩, ⟨by (with_reducible repeat (first | apply Kd.R_alloc | apply Kd.R_drewN | apply Kd.R_drew)); exact HO240.out⟩, ⟨by (with_reducible repeat (first | apply Kd.R_alloc | apply Kd.R_drewN | apply Kd.R_drew)); exact HO_86.out⟩, ⟨qb HB⟩⟩
                     ·rw [if_neg c82] at H; exact absurd H (by simp)
                   ·rw [if_neg c78] at H; exact absurd H (by simp)
                  ·rw [if_neg c77] at H; exact absurd H (by simp)
               ·rw [if_neg c51] at H; exact absurd H (by simp)
              ·rw [if_neg c50] at H; exact absurd H (by simp)
             ·rw [if_neg c49] at H; have c49b0 : decide (x88_3 < (t221.length : Int)) = false := decide_eq_false c49; clear c49; simp only [Option.some.injEq, Prod.mk.injEq] at H; obtain ⟨rfl, rfl⟩ := H; go_wp2; go_ret2; exact ⟨_, by first | rfl | (simp [errW_none, errW_some] <;> rfl) | (simp [*, errW_none, errW_some] <;> rfl), by (with_reducible repeat (first | apply Kd.R_alloc | apply Kd.R_drewN | apply Kd.R_drew)); exact HO_17.out, qb HB⟩
    ·replace c16 := Bool.eq_false_iff.mpr c16; subst c16
     have H1 : (some (([] : List (S40)), 1)) = some (r1, r2) := by rw [if_neg (show ¬ (false = true) by decide)] at H; exact H
     clear H; have H := H1; clear H1; simp only [Option.some.injEq, Prod.mk.injEq] at H; obtain ⟨rfl, rfl⟩ := H
     go_wp2_with (first | ((with_reducible refine gate_callee (f := 16) rfl ?_); refine goesL_ (some 36) rfl rfl Try.func16 (by kernel_rfl) rfl #[.slice A0 l0.length c0] rfl mq ?_; (with_reducible refine (impl_PricesOK.calls kj5 _ _ l0 false _ ?side1 ?side2 A15.out).mono ?_); (case side1 => repeat (first | exact (Kd.C_below HR0.out HB.out) | (with_reducible refine Kd.C_alloc ?_ _) | (with_reducible refine Kd.C_drewN ?_ _) | (with_reducible refine Kd.C_drew ?_))); (case side2 => exact HC0.out); rintro e w86 ⟨rfl, hb⟩; refine ⟨_, rfl, ?_⟩; have n0_ := Aside0.mk (below_step (qb HB) hb); clear HB; have HB := n0_; clear n0_; (try clear hb); (try clear hb2); (try clear hk); (try clear hi)))
     go_ret2; exact ⟨_, by first | rfl | (simp [errW_none, errW_some] <;> rfl) | (simp [*, errW_none, errW_some] <;> rfl), by first | exact Kd.R_nil _ _ _ _ _ | exact Kd.N_nil _ _ _ _ _ | exact Kd.V_nil _ _ _ _ _ | exact Kd.Q_nil _ _ _ _ _ | exact Kd.S_nil _ _ _ _ _, qb HB⟩

end Go.Proofs.Ytembklbofdgmgaa.PAll
