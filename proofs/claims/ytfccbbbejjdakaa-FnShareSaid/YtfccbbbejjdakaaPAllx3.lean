-- Written by wip/tools/hp.py over the kit's print (not by hand): functions and walks of All.
import Derived.Test.YtfccbbbejjdakaaPAllx0
import Derived.Test.YtfccbbbejjdakaaPAllx1
namespace Go.Proofs.Ytfccbbbejjdakaa.PAll
open Go.RowKit Go.Proofs.YtfccbbbejjdakaaW.PrintWords Go.Proofs.YtfccbbbejjdakaaW.PrintLast Go.Proofs.YtfccbbbejjdakaaW.PrintMore
attribute [local go_sem] max2_int min2_int max_two min_two max_three min_three max_four min_four   -- for this text's walks alone
set_option linter.unusedVariables false
set_option linter.unusedSimpArgs false

/-! ### impl_Share_2: function 24, by hand: which of two places comes first -/
def impl_Share.key (size all : Int) (ws : List Int) (i : Nat) : Int := size * ws.getD i 0 % all
set_option maxHeartbeats 8000000 in
set_option maxRecDepth 100000 in
theorem impl_Share_2.calls (m : Nat) (size all : Int) (ws : List Int) (g7 g3 g6 : Nat) (A0 : Option Addr) (c0 : Nat) (w : World) (x y : Fin (m + 1))
  (h7 : w.cell? ⟨g7, 0, none⟩ = some (.int .i64 size)) (h3 : w.cell? ⟨g3, 0, none⟩ = some (.slice A0 ws.length c0)) (h6 : w.cell? ⟨g6, 0, none⟩ = some (.int .i64 all))
  (hr : Kd.C (Kd.int .i64) w A0 ws.length ws) (hl : ws.length = m + 1) (hall : 0 < all) (hm : ∀ i, i < m + 1 → 0 ≤ size * ws.getD i 0 ∧ size * ws.getD i 0 ≤ 9223372036854775807) :
  Calls Try.prog 24 #[.int .i64 (x.val : Int), .int .i64 (y.val : Int), .pointer (some ⟨g7, 0, none⟩), .pointer (some ⟨g3, 0, none⟩), .pointer (some ⟨g6, 0, none⟩)] w fun e w' => e = .returned (.int .i64 (Lib.compareInt (impl_Share.key size all ws y.val) (impl_Share.key size all ws x.val))) ∧ Drawn0 w w' := by
 have HR := Aside0.mk hr
 have px : 0 ≤ (x.val : Int) := by omega
 have py : 0 ≤ (y.val : Int) := by omega
 have qx : (x.val : Int) < (ws.length : Int) := by have := x.isLt; omega
 have qy : (y.val : Int) < (ws.length : Int) := by have := y.isLt; omega
 have sx := hm x.val x.isLt; have sy := hm y.val y.isLt; obtain ⟨ad, e, hx⟩ := Kd.at_int hr (x.val : Int) px qx; obtain ⟨ad2, e2, hy⟩ := Kd.at_int hr (y.val : Int) py qy; subst e
 obtain rfl : ad = ad2 := by injection e2
 clear e2 hr
 have ex : rd ws (x.val : Int) = ws.getD x.val 0 := by unfold rd; rw [Int.toNat_natCast]
 have ey : rd ws (y.val : Int) = ws.getD y.val 0 := by unfold rd; rw [Int.toNat_natCast]
 rw [ex] at hx; rw [ey] at hy; unfold impl_Share.key; generalize ws.getD x.val 0 = wx at *; generalize ws.getD y.val 0 = wy at *
 have rx : IntKind.i64.wrap (size * wx) = size * wx := by rw [IntKind.wrap_i64]; omega
 have ry : IntKind.i64.wrap (size * wy) = size * wy := by rw [IntKind.wrap_i64]; omega
 have tx : Int.tmod (size * wx) all = size * wx % all := Int.tmod_eq_emod_of_nonneg sx.1; have ty : Int.tmod (size * wy) all = size * wy % all := Int.tmod_eq_emod_of_nonneg sy.1; have hne : (all == 0) = false := beq_eq_false_iff_ne.mpr (by omega)
 have hne2 : ¬ all = 0 := by omega
 replace px := eq_true px; replace py := eq_true py; replace qx := eq_true qx; replace qy := eq_true qy; clear hm sx sy ex ey hl; simp only [Int.toNat_natCast] at hx hy
 have kx := fun n => (show (w.drewN n).cell? _ = _ from hx)
 have ky := fun n => (show (w.drewN n).cell? _ = _ from hy)
 have k7 : ∀ n, (w.drewN n).cell? ⟨g7, 0, none⟩ = some (.int .i64 size) := fun _ => h7
 have k3 : ∀ n, (w.drewN n).cell? ⟨g3, 0, none⟩ = some (.slice (some ad) ws.length c0) := fun _ => h3
 have k6 : ∀ n, (w.drewN n).cell? ⟨g6, 0, none⟩ = some (.int .i64 all) := fun _ => h6
 go_enter Try.func24, Try.ntmps24; go_wp2
 go_quiet (first | (go_at_call 25; (with_reducible refine (Try.cmp_Compare_int _ _ _).mono ?_); rintro e w' ⟨rfl, rfl⟩; exact ⟨rfl, _, rfl⟩))
 go_wp2; go_ret; exact ⟨rfl, ⟨_, rfl⟩⟩

/-! ### impl_Share: function 7, by hand -/
/-! ### the rests' order, sorted: slices.SortStableFunc at the closure, by hand -/
theorem rowS_form {e : Nat} {w : World} {base : Nat} {ok : Nat → Prop} {xs : List Int} {v : Value} (h : Kd.R (Kd.int .i64) e w base ok v xs) (hp : 0 < xs.length) :
  ∃ g cap cur, v = .slice (some ⟨g, 0, none⟩) xs.length cap ∧ base ≤ g ∧ g < w.heap.size ∧ xs.length ≤ cap ∧ cap ≤ maxLen ∧ w.heap[g]? = some (.cells cur e (0, 0)) ∧ cur.size = cap * 1 ∧ cur.toList.take xs.length = xs.map (Value.int .i64) := by
 rcases (Kd.own_of_R h).2 with ⟨_, h1⟩ | ⟨g, cap, cur, h1, h2, h3, h4, h5, h6, h7⟩
 ·omega
 ·refine ⟨g, cap, cur, h1, h2, ?_, h4, h5, h3, h6, by rw [Nat.mul_one] at h7; exact h7⟩
  rcases Nat.lt_or_ge g w.heap.size with q | q
  ·exact q
  ·rw [Array.getElem?_eq_none q] at h3; cases h3
theorem rowS_holds {e : Nat} {w : World} {g : Nat} {xs : List Int} {cur : Array Value} (h : w.heap[g]? = some (.cells cur e (0, 0))) (ht : cur.toList.take xs.length = xs.map (Value.int .i64)) : Sort.Holds (Value.int .i64) w g 0 xs.toArray := by
 intro j hj
 have hj' : j < xs.length := by simpa using hj
 refine ⟨?_, by simp [World.frozen?, h]⟩
 have h1 : (cur.toList.take xs.length)[j]? = (xs.map (Value.int .i64))[j]? := by rw [ht]
 rw [List.getElem?_take_of_lt hj'] at h1; simp only [World.cell?, h, Nat.zero_add]; simp only [Option.isSome_none, Bool.false_eq_true, if_false]; rw [← Array.getElem?_toList, h1]
 simp [hj']
theorem rowS_heap {w : World} {g n : Nat} {os : Array Obj} {cur : Array Value} {e : TypeId} {fr : Nat × Nat} (d : Array Int) (hb : w.heap[g]? = some (.cells cur e fr)) :
  (Sort.grow (Sort.putRow (Value.int .i64) (Sort.ahead w n) g 0 d) os).heap[g]? = some (.cells (Sort.putCells (Value.int .i64) 0 d cur) e fr) := by
 have hg : g < w.heap.size := (Array.getElem?_eq_some_iff.1 hb).1; rw [Sort.heap_grow_old _ _ (by simpa using hg)]
 simp [Sort.putRow, Sort.mapBlock, Sort.ahead, Array.getElem?_modify, hb, Sort.onCells]
theorem rowS_grown {w : World} {g n : Nat} {os : Array Obj} (d : Array Int) : w.grownBy (Sort.grow (Sort.putRow (Value.int .i64) (Sort.ahead w n) g 0 d) os) (some g) := by
 refine ⟨rfl, rfl, rfl, by simp, fun k hk hne => ?_⟩; rw [Sort.heap_grow_old _ _ (by simpa using hk)]
 have : g ≠ k := fun e => hne (by rw [e])
 simp [Sort.putRow, Sort.mapBlock, Sort.ahead, Array.getElem?_modify, this]
theorem rowS_take (cur : Array Value) (ts : List Int) (m : Nat) (h : ts.length ≤ cur.size) (hm : m ≤ ts.length) : (Sort.putCells (Value.int .i64) 0 ts.toArray cur).toList.take m = (ts.take m).map (Value.int .i64) := by
 apply List.ext_getElem?
 intro j; by_cases hj : j < m
 ·rw [List.getElem?_take_of_lt hj, Array.getElem?_toList, List.getElem?_map, List.getElem?_take_of_lt hj]
  simp [Sort.putCells, show j < ts.length by omega, show j < cur.size by omega]
 ·rw [List.getElem?_take_eq_none (by omega), List.getElem?_eq_none (by rw [List.length_map, List.length_take]; omega)]
/-- A row of whole numbers, written anew by the library: its first m are the call's. -/
theorem rowS_put {e : Nat} {w : World} {base : Nat} {ok ok' : Nat → Prop} {xs : List Int} {v : Value} {g cap n : Nat} {cur : Array Value} (ys : List Int) (m : Nat) (os : Array Obj) (hv : v = .slice (some ⟨g, 0, none⟩) m cap) (hb : base ≤ g) (hh : w.heap[g]? = some (.cells cur e (0, 0))) (hc : cur.size = cap * 1) (hcm : cap ≤ maxLen)
  (hl : ys.length ≤ cap) (hm : m ≤ ys.length) (hok : ok' g) : Kd.R (Kd.int .i64) e (Sort.grow (Sort.putRow (Value.int .i64) (Sort.ahead w n) g 0 ys.toArray) os) base ok' v (ys.take m) := by
 have hlen : (ys.take m).length = m := by rw [List.length_take]; omega
 refine Kd.R_of_own ⟨by rw [encs_length, Nat.mul_one], .inr ⟨g, cap, _, by rw [hv, hlen], hb, rowS_heap ys.toArray hh, by omega, hcm, by simp [Sort.putCells]; omega, ?_⟩⟩ (fun k hk => ?_)
 ·rw [hlen, Nat.mul_one, rowS_take cur ys m (by omega) hm]; rfl
 ·rw [hv] at hk
  have : g = k := by simpa [Value.ownBlock] using hk
  rw [← this]; exact hok

theorem putRow_fin (m : Nat) (w : World) (g : Nat) (d : Array (Fin (m + 1))) : Sort.putRow (fun i : Fin (m + 1) => Value.int .i64 (i.val : Int)) w g 0 d = Sort.putRow (Value.int .i64) w g 0 (d.map fun i => (i.val : Int)) := by
 unfold Sort.putRow
 congr 1
 funext c
 unfold Sort.putCells
 congr 1
 funext k x
 rw [Array.size_map]; by_cases h : 0 ≤ k ∧ k < 0 + d.size
 ·rw [if_pos h, if_pos h, getElem!_pos d (k - 0) (by omega), getElem!_pos (d.map _) (k - 0) (by rw [Array.size_map]; omega), Array.getElem_map]
 ·rw [if_neg h, if_neg h]

def share_enc (m : Nat) (i : Fin (m + 1)) : Value := .int .i64 (i.val : Int)
def share_cf (m : Nat) (size all : Int) (ws : List Int) (x y : Fin (m + 1)) : Int := Lib.compareInt (impl_Share.key size all ws y.val) (impl_Share.key size all ws x.val)

theorem share_rest (size all : Int) (ws : List Int) (i : Nat) (h : i < ws.length) : (ws.map fun x => size * x % all).getD i 0 = impl_Share.key size all ws i := by
 unfold impl_Share.key
 simp [List.getD_eq_getElem?_getD, h]

theorem share_ord (m : Nat) (size all : Int) (ws : List Int) (hl : ws.length = m + 1) : Ord (Bf (m := m) (ws.map fun x => size * x % all)) Vf (ltOf (share_cf m size all ws)) := by
 have e : ∀ x : Fin (m + 1), (ws.map fun x => size * x % all).getD x.val 0 = impl_Share.key size all ws x.val := fun x => share_rest size all ws x.val (by rw [hl]; exact x.isLt)
 have c : ∀ x y : Fin (m + 1), ltOf (share_cf m size all ws) y x = decide (impl_Share.key size all ws x.val < impl_Share.key size all ws y.val) := fun x y => by
  unfold ltOf share_cf Lib.compareInt; by_cases h1 : impl_Share.key size all ws x.val < impl_Share.key size all ws y.val
  ·simp [h1]
  ·by_cases h2 : impl_Share.key size all ws y.val < impl_Share.key size all ws x.val <;> simp [h1, h2]
 refine ⟨fun x y z h1 h2 => ?_, fun x y hV h => ?_, fun x y hV h => ?_⟩
 ·unfold Bf at *; rw [e, e] at *
  omega
 ·rw [c] at h; have h := of_decide_eq_true h; exact .inl (by rw [e, e]; exact h)
 ·rw [c] at h; have h := of_decide_eq_false h; have hV : x.val < y.val := hV; unfold Bf; rw [e, e]
  omega

set_option maxHeartbeats 8000000 in
theorem share_sorts (m : Nat) (size all : Int) (ws : List Int) (g7 g3 g6 : Nat) (A0 : Option Addr) (c0 : Nat) (w0 w : World) (P0_ : Nat → Prop) (v : Value)
  (hB : Below w0.heap.size w0 w) (ho : Kd.R (Kd.int .i64) 3 w w0.heap.size P0_ v ((List.range (m + 1)).map fun i : Nat => (i : Int)))
  (h7 : w.cell? ⟨g7, 0, none⟩ = some (.int .i64 size)) (h3 : w.cell? ⟨g3, 0, none⟩ = some (.slice A0 ws.length c0)) (h6 : w.cell? ⟨g6, 0, none⟩ = some (.int .i64 all)) (n7 : ¬ P0_ g7) (n3 : ¬ P0_ g3) (n6 : ¬ P0_ g6)
  (hr : Kd.C (Kd.int .i64) w0 A0 ws.length ws) (hl : ws.length = m + 1) (h60 : m + 1 ≤ 60) (hall : 0 < all) (hm : ∀ i, i < m + 1 → 0 ≤ size * ws.getD i 0 ∧ size * ws.getD i 0 ≤ 9223372036854775807) :
  Calls Try.prog 23 #[v, .func (.func 24) #[] #[.pointer (some ⟨g7, 0, none⟩), .pointer (some ⟨g3, 0, none⟩), .pointer (some ⟨g6, 0, none⟩)]] w fun e w' => e = .returned (.tuple #[]) ∧
   ∃ d : Array (Fin (m + 1)), Srt (Bf (ws.map fun x => size * x % all)) 0 (m + 1) d ∧ d.size = m + 1 ∧ Kd.R (Kd.int .i64) 3 w' w0.heap.size P0_ v (d.toList.map fun i => (i.val : Int)) ∧ Below w0.heap.size w0 w' ∧ Kept w w' (fun k => P0_ k) := by
 have hlen : ((List.range (m + 1)).map fun i : Nat => (i : Int)).length = m + 1 := by simp
 obtain ⟨g, cap, cur, rfl, hb, hlt, hn, hmx, hh, hcs, ht⟩ := rowS_form ho (by omega); have hP : P0_ g := ho.1 g (by simp [Value.ownBlock]); rw [hlen] at hn ht; obtain ⟨d0, hd0⟩ : ∃ d : Array (Fin (m + 1)), d = Array.ofFn (fun i : Fin (m + 1) => i) := ⟨_, rfl⟩
 have hs0 : d0.size = m + 1 := by rw [hd0]; simp
 have hv0 : ∀ i, i < m + 1 → d0[i]!.val = i := fun i hi => by subst hd0; rw [getElem!_pos _ i (by simpa using hi), Array.getElem_ofFn]
 have hH : Sort.Holds (share_enc m) w g 0 d0 := fun j hj => by
  have q := rowS_holds hh (xs := (List.range (m + 1)).map fun i : Nat => (i : Int)) (by rw [hlen]; exact ht) j (by simpa [hs0] using hj); refine ⟨q.1.trans ?_, q.2⟩; unfold share_enc; rw [hv0 j (by omega), getElem!_pos _ j (by simp; omega)]
  simp
 have R : Row1 (share_enc m) w g 0 d0 := ⟨fun _ => rfl, hH, hlt⟩
 have hcmp : CmpLays1 Try.prog 24 #[.pointer (some ⟨g7, 0, none⟩), .pointer (some ⟨g3, 0, none⟩), .pointer (some ⟨g6, 0, none⟩)] (share_enc m) (share_cf m size all ws) g 0 d0.size w := by
  intro mm os dk hdk x y
  have ce : ∀ (k : Nat) (u : Value), ¬ P0_ k → w.cell? ⟨k, 0, none⟩ = some u → (sortWorld (share_enc m) w g 0 mm dk os).cell? ⟨k, 0, none⟩ = some u := fun k u hk hu => by
   have hne : k ≠ g := fun e => hk (e ▸ hP)
   have hkl := World.block_lt_of_cell? _ _ hu; unfold sortWorld; rw [Sort.cell?_grow _ _ _ (by rw [size_putRow]; exact hkl), Sort.cell?_putRow_other _ _ _ _ _ _ (Or.inl hne)]; exact hu
  have hg := rowS_grown (w := w) (g := g) (n := mm) (os := os) (dk.map fun i => (i.val : Int))
  have hW : sortWorld (share_enc m) w g 0 mm dk os = Sort.grow (Sort.putRow (Value.int .i64) (Sort.ahead w mm) g 0 (dk.map fun i => (i.val : Int))) os := by
   unfold sortWorld; rw [show Sort.putRow (share_enc m) (Sort.ahead w mm) g 0 dk = _ from putRow_fin m _ g dk]
  have hBW : Below w0.heap.size w0 (sortWorld (share_enc m) w g 0 mm dk os) := by
   rw [hW]; exact pw_below_grown hB (some g) hB.size hg (fun k e_ => by injection e_ with e_; omega)
  refine (impl_Share_2.calls m size all ws g7 g3 g6 A0 c0 _ x y (ce g7 _ n7 h7) (ce g3 _ n3 h3) (ce g6 _ n6 h6) (Kd.C_below hr hBW) hl hall hm).mono ?_; rintro e w' ⟨rfl, q, rfl⟩; exact ⟨rfl, q, #[], by rw [Sort.grow_empty]⟩
 have hV : ∀ i j, i < j → j < d0.size → Vf d0[i]! d0[j]! := fun i j h1 h2 => by
  unfold Vf; rw [hv0 i (by omega), hv0 j (by omega)]; exact h1
 have h := sortStable_s (share_enc m) (share_cf m size all ws) 24 _ _ _ (share_ord m size all ws hl) g 0 cap d0 w (enters_of Try.func24 (by kernel_rfl) rfl) hcmp R (by omega) hV w (SW.start hH) (by omega); rw [hs0] at h; rw [hlen]; refine h.mono ?_; rintro e w' ⟨rfl, d', hs, hd, nn, os, hw⟩
 have hW : w' = Sort.grow (Sort.putRow (Value.int .i64) (Sort.ahead w nn) g 0 (d'.map fun i => (i.val : Int))) os := by
  rw [hw]; unfold sortWorld; rw [show Sort.putRow (share_enc m) (Sort.ahead w nn) g 0 d' = _ from putRow_fin m _ g d']
 have hg := rowS_grown (w := w) (g := g) (n := nn) (os := os) (d'.map fun i => (i.val : Int))
 have hlt' : (d'.toList.map fun i : Fin (m + 1) => (i.val : Int)).length = m + 1 := by rw [List.length_map, Array.length_toList]; exact hd
 have hR := rowS_put (e := 3) (w := w) (base := w0.heap.size) (ok := P0_) (ok' := P0_) (xs := []) (n := nn) (v := .slice (some ⟨g, 0, none⟩) (m + 1) cap) (d'.toList.map fun i : Fin (m + 1) => (i.val : Int)) (m + 1) os rfl hb hh hcs hmx (by omega) (by omega) hP; rw [List.take_of_length_le (by omega), show (d'.toList.map fun i : Fin (m + 1) => (i.val : Int)).toArray = d'.map fun i => (i.val : Int) by apply Array.ext' ; simp, ← hW] at hR; rw [← hW] at hg; exact ⟨rfl, d', hs, hd, hR, pw_below_grown hB (some g) hB.size hg (fun k e_ => by injection e_ with e_; omega), ⟨hg.size, fun k hk hn_ => hg.block k hk (fun e_ => hn_ (by injection e_ with e_; rw [e_]; exact hP))⟩⟩
/-! ### an append in a region that draws: the box of what is appended lies anywhere -/
theorem step_R_lies {ops : Array Oper} {o : Oper} {a : Act} {K : Act → World → Prop} {Q : Exit → Act → World → Prop} {E : Prop} {w0 W : World} (base : Nat) (hgd : o.guard = none) (s x : Operand)
  (ho : o.op = .call { callee := .builtin .append, args := #[s, x], argTypes := #[22, 22] })
  (v : Value) (xs : List Int) (p : Int) (gx : Nat) (ok : Nat → Prop) (hs : a.eval s = v) (hx : a.eval x = .slice (some ⟨gx, 0, none⟩) 1 1) (hc : W.cell? ⟨gx, 0, none⟩ = some (.int .i64 p)) (hfresh : ∀ k, W.heap.size ≤ k → ok k)
  (HO : Kd.R (Kd.int .i64) 3 W base ok v xs) (HB : Below base w0 W) (hbase : base ≤ W.heap.size) (hl : (xs.length + 1) * 8 ≤ 140737488355328)
  (h : ∀ v1 w1, Kd.R (Kd.int .i64) 3 w1 base ok v1 (xs ++ [p]) → Below base w0 w1 → W.grownBy w1 v.ownBlock → (v1.ownBlock = v.ownBlock ∨ ∃ b, v1.ownBlock = some b ∧ W.heap.size ≤ b) → K (a.put o.dst v1) w1) :
  if Region.wanted o (yielded ops a.tmps) = true then Oper.wp Try.prog o a W K Q else E := by
 obtain ⟨h0, inner, hown, hr⟩ := HO
 obtain ⟨i, hi, hi2⟩ : ∃ i, Try.prog.info? 3 = some i ∧ (i.zero = some (.int .i64 0) ∧ i.size = 1 ∧ i.bytes = 8) := by
  have q : (Try.prog.info? 3).map (fun i => (i.zero, i.size, i.bytes)) = some (some (.int .i64 0), 1, 8) := by kernel_rfl
  cases e : Try.prog.info? 3 with
  | none => rw [e] at q; cases q
  | some i => rw [e] at q; injection q with q; exact ⟨i, rfl, by injection q with q1 q2; injection q2 with q2 q3; exact ⟨q1, q2, q3⟩⟩
 refine step_append_lies W hgd s x 22 ho base 3 i (.int .i64 0) 1 8 Try.underlying22 hi hi2.1 hi2.2.1 hi2.2.2 rfl (by decide) v xs.length inner hs hown ⟨gx, 0, none⟩ 1 1 [.int .i64 p] hx rfl (fun j u hj => ?_) (fun u hu => ?_) (by decide) ?_ hl hbase _ rfl ?_
 ·cases j with
  | zero => simp at hj; subst hj; exact hc
  | succ j => simp at hj
 ·simp at hu; subst hu; rfl
 ·simp only [maxLen]; omega
 intro g cap w1 hown1 hg hat hlt
 have hat' : (Value.slice (some ⟨g, 0, none⟩) (xs.length + 1) cap).ownBlock = v.ownBlock ∨ ∃ b, (Value.slice (some ⟨g, 0, none⟩) (xs.length + 1) cap).ownBlock = some b ∧ W.heap.size ≤ b := by
  rcases hat with e | e
  ·exact .inl e.symm
  ·exact .inr ⟨g, rfl, by omega⟩
 refine h _ w1 (Kd.R_appended (okp := fun _ => False) h0 hr (show Kd.M (Kd.int .i64) W base _ p [.int .i64 p] from rfl) (fun _ hk => hk.elim) hfresh hown1 hg hat') (pw_below_grown HB v.ownBlock hbase hg (fun k hk => ?_)) hg hat'
 rcases hown.2 with ⟨hv, _⟩ | ⟨g0, cap0, cur, hv, hb0, _⟩
 ·rw [hv] at hk; simp [Value.ownBlock] at hk
 ·rw [hv] at hk
  have e_ : g0 = k := by simpa [Value.ownBlock] using hk
  omega
def impl_Share.incs (l : List Int) (is : List Nat) : List Int := is.foldl (fun o i => o.set i (o.getD i 0 + 1)) l
def impl_Share.quots (size all : Int) (ws : List Int) : List Int := ws.map fun x => size * x / all
def impl_Share.out (size all : Int) (ws : List Int) : List Int := impl_Share.incs (impl_Share.quots size all ws) (greedy (size - (impl_Share.quots size all ws).sum).toNat (ws.map fun x => size * x % all))
def impl_Share.size (a0 : Int) : Int := if a0 < 0 then -a0 else a0
def impl_Share.f (a0 : Int) (l1 : List Int) : Option (List Int × Int) :=
 if (l1.length : Int) > 4096 then some ([], 2) else if -1000000000 ≤ a0 ∧ a0 ≤ 1000000000 ∧ 1 ≤ l1.length ∧ l1.length ≤ 60 then
  (if l1.all (fun x => decide (0 ≤ x ∧ x ≤ 1000000)) = true then (if l1.sum = 0 then some ([], 10) else some ((impl_Share.out (impl_Share.size a0) l1.sum l1).map (fun x => if a0 < 0 then -x else x), 0)) else some ([], 1)) else some ([], 1)
theorem impl_Share.within_is (a b c : Int) : impl_within.f a b c = some (decide (b ≤ a ∧ a ≤ c)) := by
 unfold impl_within.f; by_cases h : a ≥ b
 ·rw [if_pos h]; simp [show b ≤ a from h]
 ·rw [if_neg h]; simp [show ¬ b ≤ a from h]
theorem impl_Share.money_is (a : Int) : impl_isMoney.f a = some (decide (-1000000000 ≤ a ∧ a ≤ 1000000000)) := by
 unfold impl_isMoney.f; rw [impl_Share.within_is]; rfl
theorem impl_Share.any_is (l : List Int) : ∀ n, ∃ i, slices_IndexFunc_int_int.f impl_Share_1.f l n = some i ∧ (0 ≤ n → (0 ≤ i ↔ l.all (fun x => decide (0 ≤ x ∧ x ≤ 1000000)) = false)) := by
 induction l with
 | nil => intro n; exact ⟨-1, rfl, fun _ => by simp⟩
 | cons x xs ih =>
  intro n; rw [slices_IndexFunc_int_int.cons]
  have e : impl_Share_1.f x = some (!decide (0 ≤ x ∧ x ≤ 1000000)) := by unfold impl_Share_1.f; rw [impl_Share.within_is]; rfl
  rw [e, Option.bind_some]; by_cases h : 0 ≤ x ∧ x ≤ 1000000
  ·obtain ⟨i, hi, h2⟩ := ih (n + 1); rw [decide_eq_true h]; refine ⟨i, by simpa using hi, fun hn => ?_⟩; rw [List.all_cons, decide_eq_true h, Bool.true_and]; exact h2 (by omega)
  ·rw [decide_eq_false h]; refine ⟨n, by simp, fun hn => ?_⟩; rw [List.all_cons, decide_eq_false h, Bool.false_and]; exact ⟨fun _ => rfl, fun _ => hn⟩
theorem impl_Share.has_is (l : List Int) : slices_ContainsFunc_int_int.f impl_Share_1.f l = some (!l.all (fun x => decide (0 ≤ x ∧ x ≤ 1000000))) := by
 obtain ⟨i, h1, h2⟩ := impl_Share.any_is l 0; unfold slices_ContainsFunc_int_int.f; rw [h1, Option.bind_some]; have := h2 (Int.le_refl _)
 cases h : l.all (fun x => decide (0 ≤ x ∧ x ≤ 1000000)) with
 | true => rw [h] at this; rw [decide_eq_false (fun q => by have := this.1 q; cases this)]; rfl
 | false => rw [h] at this; rw [decide_eq_true (this.2 rfl)]; rfl
theorem impl_Share.w64_ {x : Int} (h : -9223372036854775808 ≤ x) (k : x ≤ 9223372036854775807) : wrap64 x = x := (i64_w x).symm.trans (by rw [IntKind.wrap_i64]; omega)
theorem impl_Share.sum_go (l : List Int) (hx : ∀ x ∈ l, 0 ≤ x ∧ x ≤ 1000000000000000) (hl : l.length ≤ 1000) : ∀ (d i k : Nat) (acc : Int), i + d = l.length → d < k → 0 ≤ acc → acc ≤ (i : Int) * 1000000000000000 → impl_sumOf.l0 k acc l (l.length : Int) (i : Int) = some (acc + (l.drop i).sum) := by
 intro d
 induction d with
 | zero =>
  intro i k acc hi hk h0 h1; obtain ⟨k, rfl⟩ : ∃ q, k = q + 1 := ⟨k - 1, by omega⟩; rw [impl_sumOf.l0, if_neg (by omega), List.drop_eq_nil_of_le (by omega)]
  simp
 | succ d ih =>
  intro i k acc hi hk h0 h1; obtain ⟨k, rfl⟩ : ∃ q, k = q + 1 := ⟨k - 1, by omega⟩
  have hil : i < l.length := by omega
  have hx1 := hx _ (List.getElem_mem hil)
  have er : rd l (i : Int) = l[i] := by
   unfold rd; rw [Int.toNat_natCast, List.getD_eq_getElem?_getD, List.getElem?_eq_getElem hil]; rfl
  rw [impl_sumOf.l0, if_pos (by omega), if_pos (by omega), if_pos (by omega), er, impl_Share.w64_ (x := (i : Int) + 1) (by omega) (by omega)]; generalize hy : l[i] = y at *; rw [impl_Share.w64_ (x := acc + y) (by omega) (by omega), show (i : Int) + 1 = ((i + 1 : Nat) : Int) by omega, ih (i + 1) k (acc + y) (by omega) (by omega) (by omega) (by omega), List.drop_eq_getElem_cons hil, List.sum_cons, hy, Int.add_assoc]
theorem impl_Share.sum_is (l : List Int) (hx : ∀ x ∈ l, 0 ≤ x ∧ x ≤ 1000000000000000) (hl : l.length ≤ 1000) : impl_sumOf.f 2000 l = some l.sum := by
 have := impl_Share.sum_go l hx hl l.length 0 2000 0 (by omega) (by omega) (Int.le_refl _) (by omega); unfold impl_sumOf.f
 simpa using this
theorem impl_Share.sum_bd (l : List Int) (c : Int) (hx : ∀ x ∈ l, 0 ≤ x ∧ x ≤ c) : 0 ≤ l.sum ∧ l.sum ≤ (l.length : Int) * c := by
 induction l with
 | nil => simp
 | cons x xs ih =>
  have h1 := hx x List.mem_cons_self; have h2 := ih (fun y hy => hx y (List.mem_cons_of_mem _ hy)); rw [List.sum_cons, List.length_cons, show ((xs.length + 1 : Nat) : Int) * c = (xs.length : Int) * c + c by rw [Int.natCast_add, Int.add_mul]; simp]
  omega
theorem impl_Share.size_is (a0 : Int) (h : -1000000000 ≤ a0 ∧ a0 ≤ 1000000000) : impl_sizeOf.f a0 = some (impl_Share.size a0) := by
 unfold impl_sizeOf.f impl_Share.size mx; rw [impl_Share.w64_ (by omega) (by omega)]
 congr 1
 by_cases c : a0 < 0
 ·rw [if_pos c]; split <;> omega
 ·rw [if_neg c]; split <;> omega
theorem impl_Share.div_ge {a b : Int} (ha : 0 ≤ a) (hb : 0 < b) : 0 ≤ a / b := Int.ediv_nonneg ha (by omega)
theorem impl_Share.incs_snoc (l : List Int) (is : List Nat) (i : Nat) : impl_Share.incs l (is ++ [i]) = (impl_Share.incs l is).set i ((impl_Share.incs l is).getD i 0 + 1) := by
 unfold impl_Share.incs; rw [List.foldl_append]; rfl
theorem impl_Share.incs_length (is : List Nat) : ∀ l : List Int, (impl_Share.incs l is).length = l.length := by
 induction is with
 | nil => intro l; rfl
 | cons i is ih => intro l; exact (ih _).trans (by rw [List.length_set])
theorem impl_Share.incs_bd (is : List Nat) (c : Int) : ∀ (l : List Int) (n : Int), 0 ≤ n → (∀ j, 0 ≤ l.getD j 0 ∧ l.getD j 0 ≤ n) → ∀ j, 0 ≤ (impl_Share.incs l is).getD j 0 ∧ (impl_Share.incs l is).getD j 0 ≤ n + is.length := by
 induction is with
 | nil => intro l n _ h j; have := h j; exact ⟨this.1, by simpa [impl_Share.incs] using this.2⟩
 | cons i is ih =>
  intro l n hn h j
  have := ih (l.set i (l.getD i 0 + 1)) (n + 1) (by omega) (fun k => by
   have h1 := h k; have h2 := h i; by_cases hi : i < l.length
   ·rw [getD_set _ _ _ _ hi]
    split <;> omega
   ·rw [List.set_eq_of_length_le (by omega)]; omega) j
  rw [List.length_cons]; exact ⟨this.1, by have h2 := this.2; unfold impl_Share.incs at *; rw [List.foldl_cons]; omega⟩
theorem impl_Share.sums (size all : Int) (l : List Int) : size * l.sum = all * (impl_Share.quots size all l).sum + (l.map fun x => size * x % all).sum := by
 unfold impl_Share.quots
 induction l with
 | nil => simp
 | cons x xs ih =>
  simp only [List.map_cons, List.sum_cons]; have := Int.mul_ediv_add_emod (size * x) all; rw [Int.mul_add, Int.mul_add, ih]
  omega
theorem impl_Share.rests_bd (size all : Int) (l : List Int) (h : 0 < all) : 0 ≤ (l.map fun x => size * x % all).sum ∧ (l.map fun x => size * x % all).sum ≤ (l.length : Int) * all := by
 induction l with
 | nil => simp
 | cons x xs ih =>
  simp only [List.map_cons, List.sum_cons, List.length_cons]; have h1 := Int.emod_nonneg (size * x) (show all ≠ 0 by omega); have h2 := Int.emod_lt_of_pos (size * x) h; rw [show ((xs.length + 1 : Nat) : Int) * all = (xs.length : Int) * all + all by rw [Int.natCast_add, Int.add_mul]; simp]
  omega
theorem impl_Share.left_bd (size : Int) (l : List Int) (h : 0 < l.sum) : 0 ≤ size - (impl_Share.quots size l.sum l).sum ∧ size - (impl_Share.quots size l.sum l).sum ≤ l.length := by
 have h1 := impl_Share.sums size l.sum l; have h2 := impl_Share.rests_bd size l.sum l h; generalize (l.map fun x => size * x % l.sum).sum = R at *; generalize (impl_Share.quots size l.sum l).sum = Q at *; generalize l.sum = all at *
 have h3 : all * (size - Q) = R := by rw [Int.mul_sub, Int.mul_comm all size]; omega
 constructor
 ·rcases Int.lt_or_le (size - Q) 0 with c | c
  ·have := Int.mul_neg_of_pos_of_neg h c; omega
  ·exact c
 ·rcases Int.lt_or_le (l.length : Int) (size - Q) with c | c
  ·have := Int.mul_lt_mul_of_pos_left c h; rw [Int.mul_comm all (l.length : Int)] at this
   omega
  ·exact c
theorem impl_Share.quots_bd (size all : Int) (l : List Int) (n c : Int) (hs : 0 ≤ size ∧ size ≤ n) (hn : 0 ≤ n) (ha : 0 < all) (hx : ∀ x ∈ l, 0 ≤ x ∧ x ≤ c) (hc : 0 ≤ c) : ∀ j, 0 ≤ (impl_Share.quots size all l).getD j 0 ∧ (impl_Share.quots size all l).getD j 0 ≤ n * c := by
 intro j; unfold impl_Share.quots; rw [List.getD_eq_getElem?_getD, List.getElem?_map]
 rcases Nat.lt_or_ge j l.length with q | q
 ·rw [List.getElem?_eq_getElem q]; have h1 := hx _ (List.getElem_mem q); have h2 : 0 ≤ size * l[j] := Int.mul_nonneg hs.1 h1.1; have h3 : size * l[j] ≤ n * c := Int.mul_le_mul hs.2 h1.2 h1.1 hn; exact ⟨Int.ediv_nonneg h2 (by omega), Int.le_trans (Int.ediv_le_self _ h2) h3⟩
 ·rw [List.getElem?_eq_none q]; exact ⟨Int.le_refl _, Int.mul_nonneg hn hc⟩
def impl_Share.sg (a0 x : Int) : Int := if a0 < 0 then -x else x
def impl_Share.signs (a0 : Int) (k : Nat) (l : List Int) : List Int := (l.take k).map (impl_Share.sg a0) ++ l.drop k
theorem impl_Share.signs_len (a0 : Int) (k : Nat) (l : List Int) : (impl_Share.signs a0 k l).length = l.length := by
 unfold impl_Share.signs; rw [List.length_append, List.length_map, List.length_take, List.length_drop]; omega
theorem impl_Share.signs_at (a0 : Int) (k : Nat) (l : List Int) : rd (impl_Share.signs a0 k l) (k : Int) = l.getD k 0 := by
 unfold rd impl_Share.signs; rw [Int.toNat_natCast, List.getD_eq_getElem?_getD, List.getD_eq_getElem?_getD]
 rcases Nat.lt_or_ge k l.length with q | q
 ·rw [List.getElem?_append_right (by rw [List.length_map, List.length_take]; omega), List.length_map, List.length_take, List.getElem?_drop]; rw [show k + (k - min k l.length) = k by omega]
 ·rw [List.getElem?_eq_none (by rw [List.length_append, List.length_map, List.length_take, List.length_drop]; omega), List.getElem?_eq_none q]
theorem impl_Share.signs_neg (a0 : Int) (k : Nat) (l : List Int) (hk : k < l.length) (h : a0 < 0) : (impl_Share.signs a0 k l).set k (-(l.getD k 0)) = impl_Share.signs a0 (k + 1) l := by
 unfold impl_Share.signs; rw [List.set_append_right _ _ (by rw [List.length_map, List.length_take]; omega), List.length_map, List.length_take, show k - min k l.length = 0 by omega, List.drop_eq_getElem_cons hk, List.set_cons_zero, List.take_succ_eq_append_getElem hk, List.map_append, List.append_assoc]
 congr 1
 show _ = [impl_Share.sg a0 l[k]] ++ _; unfold impl_Share.sg; rw [if_pos h, List.getD_eq_getElem?_getD, List.getElem?_eq_getElem hk]; rfl
theorem impl_Share.signs_pos (a0 : Int) (k : Nat) (l : List Int) (h : ¬ a0 < 0) : impl_Share.signs a0 k l = l := by
 unfold impl_Share.signs
 have : impl_Share.sg a0 = id := by funext x; unfold impl_Share.sg; rw [if_neg h]; rfl
 rw [this, List.map_id, List.take_append_drop]
theorem impl_Share.signs_all (a0 : Int) (l : List Int) : impl_Share.signs a0 l.length l = l.map (fun x => if a0 < 0 then -x else x) := by
 unfold impl_Share.signs; rw [List.take_length, List.drop_length, List.append_nil]; rfl
theorem impl_Share.dlist (m : Nat) (d : Array (Fin (m + 1))) (k p : Nat) (hp : p < k) (hk : k ≤ d.size) : rd ((d.toList.map fun i : Fin (m + 1) => (i.val : Int)).take k) (p : Int) = (d[p]!.val : Int) := by
 unfold rd; rw [Int.toNat_natCast, List.getD_eq_getElem?_getD, List.getElem?_take_of_lt hp, List.getElem?_map, Array.getElem?_toList, getElem!_pos d p (by omega), Array.getElem?_eq_getElem (by omega)]; rfl
set_option maxHeartbeats 8000000 in
set_option maxRecDepth 100000 in
theorem impl_Share.calls (a0 : Int) (A1 : Option Addr) (c1 : Nat) (l1 : List Int) (r1 : List Int) (r2 : Int) (w : World) (hr1 : Kd.C (Kd.int .i64) w A1 l1.length l1) (hc1 : l1.length ≤ c1) (h : impl_Share.f a0 l1 = some (r1, r2)) :
  Calls Try.prog 7 #[.int .i64 a0, .slice A1 l1.length c1] w fun e w' => ∃ v0_ : Value, e = .returned (.tuple #[v0_, .int .i64 r2]) ∧ Kd.R (Kd.int .i64) 3 w' w.heap.size (fun _ => True) v0_ r1 ∧ Below w.heap.size w w' := by
 have HR := Aside0.mk hr1; have HC := Aside0.mk hc1; have H := Aside0.mk h; clear hr1 hc1 h; go_enter Try.func7, Try.ntmps7
 go_wp2_with fail
 have D3 : Aside0 (((w.alloc (.cells #[.slice A1 l1.length c1] 22)).alloc (.cells #[.int .i64 0] 3)).heap[w.heap.size]? = some (.cells #[.slice A1 l1.length c1] 22 (0, 0))) := Aside0.mk (blk_alloc (blk_new w _) _); have D6 : Aside0 (((w.alloc (.cells #[.slice A1 l1.length c1] 22)).alloc (.cells #[.int .i64 0] 3)).heap[w.heap.size + 1]? = some (.cells #[.int .i64 0] 3 (0, 0))) := Aside0.mk (by have q := blk_new (w.alloc (.cells #[.slice A1 l1.length c1] 22)) (.cells #[.int .i64 0] 3); rwa [show (w.alloc (.cells #[.slice A1 l1.length c1] 22)).heap.size = w.heap.size + 1 by simp] at q); have B2 : Aside0 (Below w.heap.size w ((w.alloc (.cells #[.slice A1 l1.length c1] 22)).alloc (.cells #[.int .i64 0] 3))) := Aside0.mk (((Below.refl _ w).alloc (Nat.le_refl _) _).alloc (by simp) _); generalize (w.alloc (.cells #[.slice A1 l1.length c1] 22)).alloc (.cells #[.int .i64 0] 3) = w2 at *; refine (impl_isList_int.calls A1 c1 l1 _ w2 (Kd.C_below HR.out B2.out) HC.out rfl).mono ?_; rintro e w3 ⟨rfl, ⟨nd, rfl⟩⟩; replace D3 : Aside0 ((w2.drewN nd).heap[w.heap.size]? = some (.cells #[.slice A1 l1.length c1] 22 (0, 0))) := D3; replace D6 : Aside0 ((w2.drewN nd).heap[w.heap.size + 1]? = some (.cells #[.int .i64 0] 3 (0, 0))) := D6; replace B2 : Aside0 (Below w.heap.size w (w2.drewN nd)) := Aside0.mk (pw_below_drewN B2.out _); generalize w2.drewN nd = w3 at *; have hf := H.out; unfold impl_Share.f at hf; by_cases k1 : (l1.length : Int) > 4096
 ·rw [if_pos k1] at hf; obtain ⟨rfl, rfl⟩ := Prod.mk.inj (Option.some.inj hf); have kb : decide ((l1.length : Int) ≤ 4096) = false := decide_eq_false (by omega); rw [kb]; clear k1 kb hf H; go_wp2; go_ret2; exact ⟨_, rfl, Kd.R_nil _ _ _ _ _, B2.out⟩
 rw [if_neg k1] at hf; replace H := Aside0.mk hf; have kb : decide ((l1.length : Int) ≤ 4096) = true := decide_eq_true (by omega); rw [kb]; clear kb hf k1; have z3 : w3.cell? ⟨w.heap.size, 0, none⟩ = some (.slice A1 l1.length c1) := (blk_cell D3.out 0).trans rfl; have z6 : w3.cell? ⟨w.heap.size + 1, 0, none⟩ = some (.int .i64 0) := (blk_cell D6.out 0).trans rfl
 go_wp2_with fail
 refine (impl_isMoney.calls a0 _ w3 (impl_Share.money_is a0)).mono ?_; rintro e w4 ⟨rfl, ⟨nd, rfl⟩⟩; clear z3 z6; replace D3 : Aside0 ((w3.drewN nd).heap[w.heap.size]? = some (.cells #[.slice A1 l1.length c1] 22 (0, 0))) := D3; replace D6 : Aside0 ((w3.drewN nd).heap[w.heap.size + 1]? = some (.cells #[.int .i64 0] 3 (0, 0))) := D6; replace B2 : Aside0 (Below w.heap.size w (w3.drewN nd)) := Aside0.mk (pw_below_drewN B2.out _); generalize w3.drewN nd = w4 at *; have z3 : w4.cell? ⟨w.heap.size, 0, none⟩ = some (.slice A1 l1.length c1) := (blk_cell D3.out 0).trans rfl; have z6 : w4.cell? ⟨w.heap.size + 1, 0, none⟩ = some (.int .i64 0) := (blk_cell D6.out 0).trans rfl; have hf := H.out; by_cases km : -1000000000 ≤ a0 ∧ a0 ≤ 1000000000; rotate_left
 ·rw [if_neg (by omega)] at hf; obtain ⟨rfl, rfl⟩ := Prod.mk.inj (Option.some.inj hf); rw [decide_eq_false km]; clear hf H km; go_wp2; go_ret2; exact ⟨_, rfl, Kd.R_nil _ _ _ _ _, B2.out⟩
 rw [decide_eq_true km]
 go_wp2_with fail
 refine (impl_within.calls _ _ _ _ _ (impl_Share.within_is _ 1 60)).mono ?_; rintro e w5 ⟨rfl, ⟨nd, rfl⟩⟩; clear z3 z6; replace D3 : Aside0 ((w4.drewN nd).heap[w.heap.size]? = some (.cells #[.slice A1 l1.length c1] 22 (0, 0))) := D3; replace D6 : Aside0 ((w4.drewN nd).heap[w.heap.size + 1]? = some (.cells #[.int .i64 0] 3 (0, 0))) := D6; replace B2 : Aside0 (Below w.heap.size w (w4.drewN nd)) := Aside0.mk (pw_below_drewN B2.out _); generalize w4.drewN nd = w5 at *; have z3 : w5.cell? ⟨w.heap.size, 0, none⟩ = some (.slice A1 l1.length c1) := (blk_cell D3.out 0).trans rfl; have z6 : w5.cell? ⟨w.heap.size + 1, 0, none⟩ = some (.int .i64 0) := (blk_cell D6.out 0).trans rfl; by_cases kl : 1 ≤ (l1.length : Int) ∧ (l1.length : Int) ≤ 60; rotate_left
 ·rw [if_neg (by omega)] at hf; obtain ⟨rfl, rfl⟩ := Prod.mk.inj (Option.some.inj hf); rw [decide_eq_false kl]; clear hf H km kl; go_wp2; go_ret2; exact ⟨_, rfl, Kd.R_nil _ _ _ _ _, B2.out⟩
 rw [decide_eq_true kl]; rw [if_pos (by omega)] at hf; replace H := Aside0.mk hf; have KM := Aside0.mk km; have KL := Aside0.mk kl; clear hf km kl
 go_wp2_with fail
 refine (slices_ContainsFunc_int_int.calls impl_Share_1.f l1 A1 c1 20 #[] _ w5 (enters_of Try.func20 (by kernel_rfl) rfl) (fun W_ x_ b_ _ hb_ => (impl_Share_1.calls x_ b_ W_ hb_).mono fun _ _ q => ⟨q.1, by obtain ⟨n_, hn_⟩ := q.2; rw [hn_]; exact pw_below_drewN (Below.refl _ _) _⟩) (Kd.C_below HR.out B2.out) HC.out (impl_Share.has_is l1)).mono ?_; rintro e w6 ⟨rfl, hb⟩; clear z3 z6; have ht3 := blk_below D3.out hb; have ht6 := blk_below D6.out hb; have hbb := B2.out.trans (hb.mono B2.out.size); replace D3 := Aside0.mk ht3; replace D6 := Aside0.mk ht6; replace B2 := Aside0.mk hbb; clear hb ht3 ht6 hbb; have z3 : w6.cell? ⟨w.heap.size, 0, none⟩ = some (.slice A1 l1.length c1) := (blk_cell D3.out 0).trans rfl; have hf := H.out
 cases ka : l1.all (fun x => decide (0 ≤ x ∧ x ≤ 1000000)) with
 | false =>
  rw [ka, if_neg (by decide)] at hf; obtain ⟨rfl, rfl⟩ := Prod.mk.inj (Option.some.inj hf); clear hf H ka; go_wp2; go_ret2; exact ⟨_, rfl, Kd.R_nil _ _ _ _ _, B2.out⟩
 | true =>
  rw [ka, if_pos rfl] at hf; replace H := Aside0.mk hf
  have KA : Aside0 (∀ x ∈ l1, 0 ≤ x ∧ x ≤ 1000000) := Aside0.mk fun x hx => of_decide_eq_true (List.all_eq_true.1 ka x hx)
  clear hf ka
  go_wp2_with fail
  refine (impl_sumOf.calls 2000 A1 c1 l1 l1.sum w6 (Kd.C_below HR.out B2.out) HC.out (impl_Share.sum_is l1 (fun x hx => by have := KA.out x hx; omega) (by have := KL.out; omega))).mono ?_; rintro e w7 ⟨rfl, ⟨nd, rfl⟩⟩; clear z3; replace D3 : Aside0 ((w6.drewN nd).heap[w.heap.size]? = some (.cells #[.slice A1 l1.length c1] 22 (0, 0))) := D3; replace D6 : Aside0 ((w6.drewN nd).heap[w.heap.size + 1]? = some (.cells #[.int .i64 0] 3 (0, 0))) := D6; replace B2 : Aside0 (Below w.heap.size w (w6.drewN nd)) := Aside0.mk (pw_below_drewN B2.out _); generalize w6.drewN nd = w7 at *; have z6 : w7.cell? ⟨w.heap.size + 1, 0, none⟩ = some (.int .i64 0) := (blk_cell D6.out 0).trans rfl
  have f6 : w7.frozen? ⟨w.heap.size + 1, 0, none⟩ = false := by have q := D6.out; simp [World.frozen?, q]
  have hf := H.out; by_cases ks : l1.sum = 0
  ·rw [if_pos ks] at hf; obtain ⟨rfl, rfl⟩ := Prod.mk.inj (Option.some.inj hf); have kb : (l1.sum == 0) = true := beq_iff_eq.mpr ks; clear hf H ks; go_wp2; go_ret2; exact ⟨_, rfl, Kd.R_nil _ _ _ _ _, below_set B2.out (by omega)⟩
  rw [if_neg ks] at hf; replace H := Aside0.mk hf; have kb : (l1.sum == 0) = false := beq_eq_false_iff_ne.mpr ks
  have KS : Aside0 (0 < l1.sum ∧ l1.sum ≤ 60000000) := Aside0.mk (by
   have q := impl_Share.sum_bd l1 1000000 KA.out; have := KL.out
   omega)
  clear hf ks; generalize hall : l1.sum = all at *; have HALL := Aside0.mk hall; clear hall
  go_wp2_with fail
  have ht6 := blk_set D6.out 0 (.int .i64 all); have ht3 := blk_far D3.out (p := ⟨w.heap.size + 1, 0, none⟩) (show w.heap.size ≠ w.heap.size + 1 by omega) (.int .i64 all); have hbb := below_set (j := 0) (v := .int .i64 all) B2.out (show w.heap.size ≤ w.heap.size + 1 by omega); clear z6 f6 D3 D6 B2; generalize w7.setCell ⟨w.heap.size + 1, 0, none⟩ (.int .i64 all) = w8 at *; refine (impl_sizeOf.calls a0 _ w8 (impl_Share.size_is a0 KM.out)).mono ?_; rintro e w9 ⟨rfl, hb⟩; have D3 := Aside0.mk (blk_below ht3 hb); have D6 : Aside0 (w9.heap[w.heap.size + 1]? = some (.cells #[.int .i64 all] 3 (0, 0))) := Aside0.mk (blk_below ht6 hb); have B2 := Aside0.mk (hbb.trans (hb.mono hbb.size)); clear hb ht3 ht6 hbb; have z3 : w9.cell? ⟨w.heap.size, 0, none⟩ = some (.slice A1 l1.length c1) := (blk_cell D3.out 0).trans rfl; generalize hsz : impl_Share.size a0 = size at *; have HSZ := Aside0.mk hsz; clear hsz
  go_upto_region 12 with (fail)
  have hs9 : w.heap.size + 1 < w9.heap.size := blk_lt D6.out
  have RO : Aside0 (Kd.R (Kd.int .i64) 3 (((w9.alloc (.cells #[] 3)).alloc (.cells #[] 3)).alloc (.cells #[.int .i64 size] 3)) w.heap.size (fun k => k ≠ w9.heap.size + 1 ∧ k ≠ w9.heap.size + 1 + 1 ∧ w.heap.size + 1 < k) (.slice (some ⟨w9.heap.size, 0, none⟩) 0 0) []) := Aside0.mk (by
   have q := (row_empty2 (Kd.int .i64) w9 3 w.heap.size (by omega)).2; refine Kd.R_alloc (Kd.R_alloc (ok := fun k => k ≠ w9.heap.size + 1 ∧ k ≠ w9.heap.size + 1 + 1 ∧ w.heap.size + 1 < k) ⟨fun k hk => ?_, q⟩ _) _
   have e_ : w9.heap.size = k := by simpa [Value.ownBlock] using hk
   show k ≠ _ ∧ k ≠ _ ∧ _ < k
   omega)
  have RQ : Aside0 (Kd.R (Kd.int .i64) 3 (((w9.alloc (.cells #[] 3)).alloc (.cells #[] 3)).alloc (.cells #[.int .i64 size] 3)) w.heap.size (fun k => k ≠ w9.heap.size ∧ k ≠ w9.heap.size + 1 + 1 ∧ w.heap.size + 1 < k) (.slice (some ⟨w9.heap.size + 1, 0, none⟩) 0 0) []) := Aside0.mk (by
   have q := (row_empty2 (Kd.int .i64) (w9.alloc (.cells #[] 3)) 3 w.heap.size (by simp; omega)).2; rw [show (w9.alloc (.cells #[] 3)).heap.size = w9.heap.size + 1 by simp] at q; refine Kd.R_alloc (ok := fun k => k ≠ w9.heap.size ∧ k ≠ w9.heap.size + 1 + 1 ∧ w.heap.size + 1 < k) ⟨fun k hk => ?_, q⟩ _
   have e_ : w9.heap.size + 1 = k := by simpa [Value.ownBlock] using hk
   show k ≠ _ ∧ k ≠ _ ∧ _ < k
   omega)
  have D7 : Aside0 ((((w9.alloc (.cells #[] 3)).alloc (.cells #[] 3)).alloc (.cells #[.int .i64 size] 3)).heap[w9.heap.size + 1 + 1]? = some (.cells #[.int .i64 size] 3 (0, 0))) := Aside0.mk (by
   have q := blk_new ((w9.alloc (.cells #[] 3)).alloc (.cells #[] 3)) (.cells #[.int .i64 size] 3)
   rwa [show ((w9.alloc (.cells #[] 3)).alloc (.cells #[] 3)).heap.size = w9.heap.size + 1 + 1 by simp] at q)
  replace D3 := Aside0.mk (blk_alloc (blk_alloc (blk_alloc D3.out (.cells #[] 3)) (.cells #[] 3)) (.cells #[.int .i64 size] 3)); replace D6 := Aside0.mk (blk_alloc (blk_alloc (blk_alloc D6.out (.cells #[] 3)) (.cells #[] 3)) (.cells #[.int .i64 size] 3)); replace B2 := Aside0.mk (((B2.out.alloc B2.out.size (.cells #[] 3)).alloc (by simp; omega) (.cells #[] 3)).alloc (by simp; omega) (.cells #[.int .i64 size] 3)); clear z3; generalize ((w9.alloc (.cells #[] 3)).alloc (.cells #[] 3)).alloc (.cells #[.int .i64 size] 3) = w10 at *; have z3 : w10.cell? ⟨w.heap.size, 0, none⟩ = some (.slice A1 l1.length c1) := (blk_cell D3.out 0).trans rfl; go_wp2; generalize hg7 : w9.heap.size + 1 + 1 = g7 at *; have HG7 : Aside0 (w.heap.size + 1 < g7) := Aside0.mk (by omega); replace RO : Aside0 (Kd.R (Kd.int .i64) 3 w10 w.heap.size (fun k => some k ≠ (.slice (some ⟨w9.heap.size + 1, 0, none⟩) 0 0 : Value).ownBlock ∧ k ≠ g7 ∧ w.heap.size + 1 < k) (.slice (some ⟨w9.heap.size, 0, none⟩) 0 0) ([])) := Aside0.mk (Kd.R_mono RO.out fun k hk => ⟨fun e_ => hk.1 (by simpa [Value.ownBlock] using e_), hk.2⟩); replace RQ : Aside0 (Kd.R (Kd.int .i64) 3 w10 w.heap.size (fun k => some k ≠ (.slice (some ⟨w9.heap.size, 0, none⟩) 0 0 : Value).ownBlock ∧ k ≠ g7 ∧ w.heap.size + 1 < k) (.slice (some ⟨w9.heap.size + 1, 0, none⟩) 0 0) ([])) := Aside0.mk (Kd.R_mono RQ.out fun k hk => ⟨fun e_ => hk.1 (by simpa [Value.ownBlock] using e_), hk.2⟩); clear hs9 hg7 z3; generalize w9.heap.size = b0 at *
  go_loopg [8, 9, 42] l1.length (fun gg v8 v9 v42 wr => ∃ kk : Nat, v42 = .int .i64 kk ∧ kk ≤ l1.length ∧ l1.length - kk ≤ gg ∧ Aside0 (Kd.R (Kd.int .i64) 3 wr w.heap.size (fun k => some k ≠ (v9 : Value).ownBlock ∧ k ≠ g7 ∧ w.heap.size + 1 < k) v8 ((List.range kk).map fun i : Nat => (i : Int))) ∧ Aside0 (Kd.R (Kd.int .i64) 3 wr w.heap.size (fun k => some k ≠ (v8 : Value).ownBlock ∧ k ≠ g7 ∧ w.heap.size + 1 < k) v9 (impl_Share.quots size all (l1.take kk))) ∧ Aside0 (wr.heap[w.heap.size]? = some (.cells #[.slice A1 l1.length c1] 22 (0, 0))) ∧ Aside0 (wr.heap[w.heap.size + 1]? = some (.cells #[.int .i64 all] 3 (0, 0))) ∧ Aside0 (wr.heap[g7]? = some (.cells #[.int .i64 size] 3 (0, 0))) ∧ Aside0 (Below w.heap.size w wr))
  case atStart => exact ⟨0, rfl, Nat.zero_le _, Nat.le_refl _, RO, RQ, D3, D6, D7, B2⟩
  case round =>
   clear RO RQ D3 D6 D7 B2; obtain ⟨kk, rfl, hkk, hgg, RO, RQ, D3, D6, D7, B2⟩ := hrel; by_cases hlt : kk < l1.length
   ·have hltz : (kk : Int) < (l1.length : Int) := by omega
    obtain ⟨ad, e1_, hx⟩ := Kd.at_int (Kd.C_below HR.out B2.out) (kk : Int) (by omega) hltz; subst e1_; simp only [Int.toNat_natCast] at hx; obtain ⟨x_, hx_⟩ : ∃ x, x = rd l1 (kk : Int) := ⟨_, rfl⟩; rw [← hx_] at hx; have HX := Aside0.mk hx_; clear hx_; have z6 : wr.cell? ⟨w.heap.size + 1, 0, none⟩ = some (.int .i64 all) := (blk_cell D6.out 0).trans rfl; have z7 : wr.cell? ⟨g7, 0, none⟩ = some (.int .i64 size) := (blk_cell D7.out 0).trans rfl
    go_upto_region 15 with (fail)
    have hxb : 0 ≤ x_ ∧ x_ ≤ 1000000 := by
     rw [HX.out]; unfold rd; rw [Int.toNat_natCast, List.getD_eq_getElem?_getD, List.getElem?_eq_getElem hlt]; exact KA.out _ (List.getElem_mem hlt)
    have hszb : 0 ≤ size ∧ size ≤ 1000000000 := by
     have := HSZ.out; have := KM.out; unfold impl_Share.size at *
     split at * <;> omega
    have hmul : 0 ≤ size * x_ ∧ size * x_ ≤ 1000000000000000 := ⟨Int.mul_nonneg hszb.1 hxb.1, by
     have := Int.mul_le_mul hszb.2 hxb.2 hxb.1 (by omega : (0 : Int) ≤ 1000000000)
     omega⟩
    have rmul : IntKind.i64.wrap (size * x_) = size * x_ := by rw [IntKind.wrap_i64]; omega
    have tdiv : Int.tdiv (size * x_) all = size * x_ / all := Int.tdiv_eq_ediv_of_nonneg hmul.1; have hne : (all == 0) = false := beq_eq_false_iff_ne.mpr (by have := KS.out; omega)
    have hne2 : ¬ all = 0 := by have := KS.out; omega
    have hqb : 0 ≤ size * x_ / all ∧ size * x_ / all ≤ 1000000000000000 := ⟨Int.ediv_nonneg hmul.1 (by have := KS.out; omega), Int.le_trans (Int.ediv_le_self _ hmul.1) hmul.2⟩
    have rq : IntKind.i64.wrap (size * x_ / all) = size * x_ / all := by rw [IntKind.wrap_i64]; omega
    clear hxb hszb
    have k7 : ∀ o, (wr.alloc o).cell? ⟨g7, 0, none⟩ = some (.int .i64 size) := fun o => (World.cell?_alloc_lt _ _ _ (World.block_lt_of_cell? _ _ z7)).trans z7
    have k6 : ∀ o, (wr.alloc o).cell? ⟨w.heap.size + 1, 0, none⟩ = some (.int .i64 all) := fun o => (World.cell?_alloc_lt _ _ _ (World.block_lt_of_cell? _ _ z6)).trans z6
    have k7b : ∀ o o', ((wr.alloc o).alloc o').cell? ⟨g7, 0, none⟩ = some (.int .i64 size) := fun o o' => (World.cell?_alloc_lt _ _ _ (World.block_lt_of_cell? _ _ (k7 o))).trans (k7 o)
    have k6b : ∀ o o', ((wr.alloc o).alloc o').cell? ⟨w.heap.size + 1, 0, none⟩ = some (.int .i64 all) := fun o o' => (World.cell?_alloc_lt _ _ _ (World.block_lt_of_cell? _ _ (k6 o))).trans (k6 o)
    have hlist1 : ((List.range kk).map fun i : Nat => (i : Int)) ++ [(kk : Int)] = (List.range (kk + 1)).map fun i : Nat => (i : Int) := by rw [List.range_succ, List.map_append]; rfl
    have hlist2 : impl_Share.quots size all (l1.take kk) ++ [size * x_ / all] = impl_Share.quots size all (l1.take (kk + 1)) := by
     have e_ : x_ = l1[kk] := by rw [HX.out]; unfold rd; rw [Int.toNat_natCast, List.getD_eq_getElem?_getD, List.getElem?_eq_getElem hlt]; rfl
     unfold impl_Share.quots; rw [List.take_succ_eq_append_getElem hlt, List.map_append, e_]; rfl
    have HL1 := Aside0.mk hlist1; have HL2 := Aside0.mk hlist2
    have hn7 : some g7 ≠ (u8 : Value).ownBlock := fun e => (RO.out.1 g7 e.symm).2.1 rfl
    have hn6 : some (w.heap.size + 1) ≠ (u8 : Value).ownBlock := fun e => absurd (RO.out.1 _ e.symm).2.2 (by omega)
    have hn3 : some w.heap.size ≠ (u8 : Value).ownBlock := fun e => absurd (RO.out.1 _ e.symm).2.2 (by omega)
    have hm7 : some g7 ≠ (u9 : Value).ownBlock := fun e => (RQ.out.1 g7 e.symm).2.1 rfl
    have hm6 : some (w.heap.size + 1) ≠ (u9 : Value).ownBlock := fun e => absurd (RQ.out.1 _ e.symm).2.2 (by omega)
    have hm3 : some w.heap.size ≠ (u9 : Value).ownBlock := fun e => absurd (RQ.out.1 _ e.symm).2.2 (by omega)
    have hg7l : g7 < wr.heap.size := blk_lt D7.out; have hwl : w.heap.size ≤ wr.heap.size := B2.out.size; have HN := Aside0.mk (And.intro hn7 (And.intro hn6 (And.intro hn3 (And.intro hm7 (And.intro hm6 hm3))))); have HZ := Aside0.mk (And.intro hg7l hwl); have HG := HG7.out; have HGG := Aside0.mk HG; have HLT := Aside0.mk hlt; clear hlist1 hlist2 hn7 hn6 hn3 hm7 hm6 hm3 hg7l hwl HG
    go_region_law (first
     | (refine step_R_lies (w0 := w) w.heap.size rfl (.tmp 47) (.tmp 49) rfl u8 ((List.range kk).map fun i : Nat => (i : Int)) (kk : Int) _ (fun k => some k ≠ (u9 : Value).ownBlock ∧ k ≠ g7 ∧ w.heap.size + 1 < k) rfl rfl ?hc ?hf ?HO ?HB ?hb ?hl ?_; (case hc => first | (simp; done) | exact (World.cell?_alloc_lt _ _ _ (by simp)).trans (by simp)); (case hf => intro k hk; have h1_ := Kd.R_lt RQ.out; have h2_ := HZ.out; have h3_ := HGG.out; simp at hk; exact ⟨fun e => by have := h1_ k e.symm; omega, by omega, by omega⟩); (case HO => (with_reducible repeat (first | apply Kd.R_alloc | apply Kd.R_drewN | apply Kd.R_drew)); exact RO.out); (case HB => exact qb B2); (case hb => have h2_ := HZ.out; simp; omega); (case hl => have h2_ := KL.out; simp; omega); intro v1 w1 hO1 hB1 hg1 hat1; have D7a : Aside0 (w1.heap[g7]? = some (.cells #[.int .i64 size] 3 (0, 0))) := Aside0.mk (blk_grown (by (with_reducible repeat (first | refine blk_alloc ?_ _ | refine blk_drewN ?_ _ | refine blk_drew ?_)); exact D7.out) hg1 HN.out.1); have D6a : Aside0 (w1.heap[w.heap.size + 1]? = some (.cells #[.int .i64 all] 3 (0, 0))) := Aside0.mk (blk_grown (by (with_reducible repeat (first | refine blk_alloc ?_ _ | refine blk_drewN ?_ _ | refine blk_drew ?_)); exact D6.out) hg1 HN.out.2.1); have D3a : Aside0 (w1.heap[w.heap.size]? = some (.cells #[.slice (some ad) l1.length c1] 22 (0, 0))) := Aside0.mk (blk_grown (by (with_reducible repeat (first | refine blk_alloc ?_ _ | refine blk_drewN ?_ _ | refine blk_drew ?_)); exact D3.out) hg1 HN.out.2.2.1); have RQa := Aside0.mk (Kd.R_after (ok := fun k => k ≠ g7 ∧ w.heap.size + 1 < k) (by (with_reducible repeat (first | apply Kd.R_alloc | apply Kd.R_drewN | apply Kd.R_drew)); exact Kd.R_mono RQ.out (fun _ hk => ⟨hk.2, hk.1⟩)) hg1 hat1); have ROa := Aside0.mk hO1; have Ba := Aside0.mk hB1; have hsz1 := Aside0.mk hg1.size; have hgr1 := Aside0.mk hg1; clear hO1 hB1 hg1 hat1; have z7 : w1.cell? ⟨g7, 0, none⟩ = some (.int .i64 size) := (blk_cell D7a.out 0).trans rfl; have z6 : w1.cell? ⟨w.heap.size + 1, 0, none⟩ = some (.int .i64 all) := (blk_cell D6a.out 0).trans rfl; have k7a : ∀ o, (w1.alloc o).cell? ⟨g7, 0, none⟩ = some (.int .i64 size) := fun o => (World.cell?_alloc_lt _ _ _ (World.block_lt_of_cell? _ _ z7)).trans z7; have k6a : ∀ o, (w1.alloc o).cell? ⟨w.heap.size + 1, 0, none⟩ = some (.int .i64 all) := fun o => (World.cell?_alloc_lt _ _ _ (World.block_lt_of_cell? _ _ z6)).trans z6)
     | (refine step_R_lies (w0 := w) w.heap.size rfl (.tmp 51) (.tmp 57) rfl u9 (impl_Share.quots size all (l1.take kk)) (size * x_ / all) _ (fun k => some k ≠ (v1 : Value).ownBlock ∧ k ≠ g7 ∧ w.heap.size + 1 < k) rfl rfl ?hc ?hf ?HO ?HB ?hb ?hl ?_; (case hc => first | (simp; done) | exact (blk_cell (blk_grown (blk_drew (blk_alloc (blk_new wr _) _)) hgr1.out (fun e => absurd (Kd.R_lt RO.out _ e.symm) (by omega))) 0).trans rfl | exact (blk_cell (blk_grown (blk_drew (by have q := blk_new (wr.alloc (.cells #[.int .i64 (kk : Int)] 3)) (.cells #[.int .i64 (size * x_ / all)] 3); rwa [show (wr.alloc (.cells #[.int .i64 (kk : Int)] 3)).heap.size = wr.heap.size + 1 by simp] at q)) hgr1.out (fun e => absurd (Kd.R_lt RO.out _ e.symm) (by omega))) 0).trans rfl); (case hf => intro k hk; have h1_ := Kd.R_lt ROa.out; have h2_ := blk_lt D7a.out; have h3_ := HGG.out; (try simp at hk); exact ⟨fun e => by have := h1_ k e.symm; omega, by omega, by omega⟩); (case HO => (with_reducible repeat (first | apply Kd.R_alloc | apply Kd.R_drewN | apply Kd.R_drew)); exact Kd.R_mono RQa.out (fun _ hk => ⟨hk.2, hk.1⟩)); (case HB => exact qb Ba); (case hb => have h2_ := blk_lt D7a.out; have h3_ := HGG.out; (try simp); omega); (case hl => have h2_ := KL.out; simp [impl_Share.quots]; omega); intro v2 w2_ hO2 hB2 hg2 hat2; have D7b : Aside0 (w2_.heap[g7]? = some (.cells #[.int .i64 size] 3 (0, 0))) := Aside0.mk (blk_grown (by (with_reducible repeat (first | refine blk_alloc ?_ _ | refine blk_drewN ?_ _ | refine blk_drew ?_)); exact D7a.out) hg2 HN.out.2.2.2.1); have D6b : Aside0 (w2_.heap[w.heap.size + 1]? = some (.cells #[.int .i64 all] 3 (0, 0))) := Aside0.mk (blk_grown (by (with_reducible repeat (first | refine blk_alloc ?_ _ | refine blk_drewN ?_ _ | refine blk_drew ?_)); exact D6a.out) hg2 HN.out.2.2.2.2.1); have D3b : Aside0 (w2_.heap[w.heap.size]? = some (.cells #[.slice (some ad) l1.length c1] 22 (0, 0))) := Aside0.mk (blk_grown (by (with_reducible repeat (first | refine blk_alloc ?_ _ | refine blk_drewN ?_ _ | refine blk_drew ?_)); exact D3a.out) hg2 HN.out.2.2.2.2.2); have ROb := Aside0.mk (Kd.R_after (ok := fun k => k ≠ g7 ∧ w.heap.size + 1 < k) (by (with_reducible repeat (first | apply Kd.R_alloc | apply Kd.R_drewN | apply Kd.R_drew)); exact Kd.R_mono ROa.out (fun _ hk => ⟨hk.2, hk.1⟩)) hg2 hat2); have RQb := Aside0.mk hO2; have Bb := Aside0.mk hB2; rw [HL1.out] at ROb; rw [HL2.out] at RQb; clear hO2 hB2 hg2 hat2 D7a D6a D3a RQa ROa Ba hsz1 hgr1 z7 z6 k7a k6a))
    all_goals (
     clear k7 k6 k7b k6b RO RQ D3 D6 D7 B2; have hk60 := KL.out.2; have hlt' := HLT.out; go_wp2
     go_roundg (l1.length - (kk + 1))
     case measure => omega
     case rel =>
      have hlt := HLT.out
      exact ⟨kk + 1, by first | rfl | go_num, by omega, Nat.le_refl _, ⟨by (with_reducible repeat (first | apply Kd.R_alloc | apply Kd.R_drewN | apply Kd.R_drew)); exact Kd.R_mono ROb.out (fun _ hk => ⟨hk.2, hk.1⟩)⟩, ⟨by (with_reducible repeat (first | apply Kd.R_alloc | apply Kd.R_drewN | apply Kd.R_drew)); exact RQb.out⟩, ⟨(by (with_reducible repeat (first | refine blk_alloc ?_ _ | refine blk_drewN ?_ _ | refine blk_drew ?_)); exact D3b.out)⟩, ⟨(by (with_reducible repeat (first | refine blk_alloc ?_ _ | refine blk_drewN ?_ _ | refine blk_drew ?_)); exact D6b.out)⟩, ⟨(by (with_reducible repeat (first | refine blk_alloc ?_ _ | refine blk_drewN ?_ _ | refine blk_drew ?_)); exact D7b.out)⟩, ⟨qb Bb⟩⟩)
   ·have hltz : ¬ (kk : Int) < (l1.length : Int) := by omega
    have hkl : kk = l1.length := by omega
    subst hkl; obtain ⟨m, hm⟩ : ∃ m, l1.length = m + 1 := ⟨l1.length - 1, by have := KL.out; omega⟩; have HM : Aside0 (l1.length = m + 1) := Aside0.mk hm
    have hszb : Aside0 (0 ≤ size ∧ size ≤ 1000000000) := Aside0.mk (by
     have := HSZ.out; have := KM.out; unfold impl_Share.size at *
     split at * <;> omega)
    have hmul : ∀ i, i < m + 1 → 0 ≤ size * l1.getD i 0 ∧ size * l1.getD i 0 ≤ 9223372036854775807 := fun i hi => by
     have hx : 0 ≤ l1.getD i 0 ∧ l1.getD i 0 ≤ 1000000 := by
      rw [List.getD_eq_getElem?_getD, List.getElem?_eq_getElem (by omega)]; exact KA.out _ (List.getElem_mem (by omega))
     have hs := hszb.out; have h2 := Int.mul_le_mul hs.2 hx.2 hx.1 (by omega : (0 : Int) ≤ 1000000000); exact ⟨Int.mul_nonneg hs.1 hx.1, by omega⟩
    have CS := share_sorts m size all l1 g7 w.heap.size (w.heap.size + 1) A1 c1 w wr (fun k => some k ≠ (u9 : Value).ownBlock ∧ k ≠ g7 ∧ w.heap.size + 1 < k) u8 B2.out (by rw [← hm]; exact RO.out) ((blk_cell D7.out 0).trans rfl) ((blk_cell D3.out 0).trans rfl) ((blk_cell D6.out 0).trans rfl) (fun h => h.2.1 rfl) (fun h => by have := h.2.2; omega) (fun h => by have := h.2.2; omega) HR.out hm (by have := KL.out; omega) KS.out.1 hmul; have HCS := Aside0.mk CS; clear CS hmul hm
    go_wp2_with fail
    refine HCS.out.mono ?_; rintro e w2 ⟨rfl, d, hsrt, hd, hOd, hB', hK⟩; have HOD := Aside0.mk hOd; have HSRT := Aside0.mk hsrt; have HD := Aside0.mk hd
    have RQ2 : Aside0 (Kd.R (Kd.int .i64) 3 w2 w.heap.size (fun k => some k = (u9 : Value).ownBlock ∧ g7 ≠ k ∧ w.heap.size + 1 < k) u9 (impl_Share.quots size all l1)) := Aside0.mk (by
     have q := RQ.out; rw [List.take_length] at q
     exact Kd.R_kept (Kd.R_of_own (Kd.own_of_R q) (fun k hk => ⟨hk.symm, fun e => (q.1 k hk).2.1 e.symm, (q.1 k hk).2.2⟩)) hK (fun k hk hP => hP.1 hk.1))
    have D7' : Aside0 (w2.heap[g7]? = some (.cells #[.int .i64 size] 3 (0, 0))) := Aside0.mk (blk_kept D7.out hK (fun h => h.2.1 rfl)); have HB := Aside0.mk hB'; clear hsrt hd hOd hB' hK HCS RO RQ D3 D6 D7 B2; obtain ⟨A8, c8, e8, hl8, hr8⟩ := Kd.R_reads HOD.out
    have hql : 0 < (impl_Share.quots size all l1).length := by unfold impl_Share.quots; rw [List.length_map, HM.out]; omega
    obtain ⟨g9, cap9, cur9, e9, hb9, hlt9, hn9, hmx9, hh9, hcs9, ht9⟩ := rowS_form RQ2.out hql
    have hn8 : (d.toList.map fun i : Fin (m + 1) => (i.val : Int)).length = m + 1 := by rw [List.length_map, Array.length_toList]; exact HD.out
    have hn9' : (impl_Share.quots size all l1).length = m + 1 := by unfold impl_Share.quots; rw [List.length_map]; exact HM.out
    rw [hn8] at e8 hl8; rw [hn9'] at e9 hn9; subst e8 e9; have hQ := impl_Share.left_bd size l1 (by rw [HALL.out]; exact KS.out.1); rw [HALL.out] at hQ; obtain ⟨left, hleft⟩ : ∃ n : Nat, size - (impl_Share.quots size all l1).sum = (n : Int) := ⟨(size - (impl_Share.quots size all l1).sum).toNat, by omega⟩
    have hlm : left ≤ m + 1 := by have := HM.out; omega
    have HLEFT := Aside0.mk hleft; have HLM := Aside0.mk hlm; have HQB : Aside0 (∀ j, 0 ≤ (impl_Share.quots size all l1).getD j 0 ∧ (impl_Share.quots size all l1).getD j 0 ≤ 1000000000000000) := Aside0.mk (impl_Share.quots_bd size all l1 1000000000 1000000 hszb.out (by omega) KS.out.1 KA.out (by omega))
    have HCQ : Aside0 (∀ n, Calls Try.prog 21 #[.slice (some ⟨g9, 0, none⟩) (m + 1) cap9] (w2.drewN n) fun e w' => e = .returned (.int .i64 (impl_Share.quots size all l1).sum) ∧ Drawn0 (w2.drewN n) w') := Aside0.mk (by
     intro n; have hc := (Kd.R_reads' RQ2.out).2.2
     have C := impl_sumOf.calls 2000 (some ⟨g9, 0, none⟩) cap9 (impl_Share.quots size all l1) (impl_Share.quots size all l1).sum (w2.drewN n) (Kd.C_drewN hc n) (by rw [hn9']; exact hn9) (impl_Share.sum_is _ (fun x hx => by
      obtain ⟨j, hj, rfl⟩ := List.getElem_of_mem hx; have := HQB.out j
      rwa [List.getD_eq_getElem?_getD, List.getElem?_eq_getElem hj] at this) (by rw [hn9']; have := KL.out; have := HM.out; omega))
     rw [hn9'] at C
     exact C)
    have rsub : IntKind.i64.wrap (size - (impl_Share.quots size all l1).sum) = (left : Int) := by
     rw [IntKind.wrap_i64, hleft]; have := KL.out; have := HM.out; omega
    obtain ⟨i0, hi0⟩ : ∃ i, Try.prog.info? 3 = some i := Option.isSome_iff_exists.mp (by kernel_rfl); have hcut := cut_to (P := Try.prog) 22 3 .i64 Try.underlying22 hi0 A8 (m + 1) c8 (left : Int) (by omega) (by omega) hl8; simp only [Int.toNat_natCast] at hcut; have z7 : w2.cell? ⟨g7, 0, none⟩ = some (.int .i64 size) := (blk_cell D7'.out 0).trans rfl; clear hi0 hh9 hcs9 ht9 hr8 hleft hlm hQ hltz; generalize hqs : (impl_Share.quots size all l1).sum = qsum at *; have HQS := Aside0.mk hqs; clear hqs; go_wp2
    go_quiet (first | (go_at_call 21; (with_reducible refine (HCQ.out _).mono ?_); rintro e w' ⟨rfl, ⟨nd, rfl⟩⟩; (try first | exact ⟨rfl, _, World.drewN_drewN _ _ _⟩ | exact ⟨rfl, _, Eq.trans (World.drewN_drewN _ _ _) (congrArg (World.drewN _) (Nat.add_assoc _ _ _))⟩)))
    have RQ3 := Aside0.mk (Kd.R_drewN RQ2.out nq); have HOD3 := Aside0.mk (Kd.R_drewN HOD.out nq); have HB3 := Aside0.mk (pw_below_drewN HB.out nq); clear hcut z7 rsub HCQ RQ2 HOD D7' HB; generalize w2.drewN nq = w3 at *; have OQ : Aside0 (w3.ownsRow w.heap.size 3 1 (.slice (some ⟨g9, 0, none⟩) (m + 1) cap9) (m + 1) (nums .i64 (impl_Share.quots size all l1))) := Aside0.mk (by have q := Kd.own_of_R RQ3.out; rw [hn9'] at q; exact q); have HK3 : Aside0 (Kept w3 w3 (fun k => k = g9)) := Aside0.mk (Kept.refl _ _); go_wp2
    go_loopg [70] left (fun gg v70 wr => ∃ kk : Nat, v70 = .int .i64 kk ∧ kk ≤ left ∧ left - kk ≤ gg ∧ Aside0 (wr.ownsRow w.heap.size 3 1 (.slice (some ⟨g9, 0, none⟩) (m + 1) cap9) (m + 1) (nums .i64 (impl_Share.incs (impl_Share.quots size all l1) ((List.range kk).map fun p => d[p]!.val)))) ∧ Aside0 (Kept w3 wr (fun k => k = g9)) ∧ Aside0 (Below w.heap.size w wr))
    case atStart => exact ⟨0, rfl, Nat.zero_le _, Nat.le_refl _, OQ, HK3, HB3⟩
    case round =>
     clear OQ HB3; obtain ⟨kk, rfl, hkk2, hgg2, OQ, HKK, BB⟩ := hrel; by_cases hlt2 : kk < left
     ·have hltz : (kk : Int) < (left : Int) := by omega
      have hC : Kd.C (Kd.int .i64) wr A8 (d.toList.map fun i : Fin (m + 1) => (i.val : Int)).length (d.toList.map fun i : Fin (m + 1) => (i.val : Int)) := by
       rw [hn8]; exact Kd.C_kept_own HOD3.out (S := fun k => k = g9) (fun k hk e => hk.1 (by rw [e]; rfl)) wr HKK.out
      have hC2 := Kd.C_take (m := left) hC (by rw [hn8]; exact HLM.out)
      have htl : ((d.toList.map fun i : Fin (m + 1) => (i.val : Int)).take left).length = left := by rw [List.length_take, hn8]; have := HLM.out; omega
      rw [htl] at hC2; obtain ⟨ad, e1_, hx⟩ := Kd.at_int hC2 (kk : Int) (by omega) hltz; subst e1_; rw [impl_Share.dlist m d left kk hlt2 (by rw [HD.out]; exact HLM.out)] at hx; simp only [Int.toNat_natCast] at hx; clear hC hC2 htl; obtain ⟨iv, hiv⟩ : ∃ n, n = d[kk]!.val := ⟨_, rfl⟩
      have hil : iv < m + 1 := by rw [hiv]; exact d[kk]!.isLt
      rw [← hiv] at hx; have HIV := Aside0.mk hiv; clear hiv
      have hz0 : 0 ≤ (iv : Int) := by omega
      have hz1 : (iv : Int) < ((m + 1 : Nat) : Int) := by omega
      have hz2 : (iv : Int) < (m : Int) + 1 := by omega
      obtain ⟨ol, hol⟩ : ∃ o, o = impl_Share.incs (impl_Share.quots size all l1) ((List.range kk).map fun p => d[p]!.val) := ⟨_, rfl⟩; have hbd := impl_Share.incs_bd ((List.range kk).map fun p => d[p]!.val) 0 _ _ (by omega) HQB.out iv; rw [← hol] at OQ hbd; rw [List.length_map, List.length_range] at hbd; have hxo := (own_at OQ.out (iv : Int) hz0 hz1).1; have hfo := (own_at OQ.out (iv : Int) hz0 hz1).2; obtain ⟨yv, hyv⟩ : ∃ y, y = rd ol (iv : Int) := ⟨_, rfl⟩
      have hyd : yv = ol.getD iv 0 := by rw [hyv]; unfold rd; rw [Int.toNat_natCast]
      rw [← hyv] at hxo; rw [← hyd] at hbd; simp only [Int.toNat_natCast] at hxo hfo
      have hk60 : kk ≤ 60 := by have := HLM.out; have := KL.out; have := HM.out; omega
      have rw1 : IntKind.i64.wrap (yv + 1) = yv + 1 := by rw [IntKind.wrap_i64]; omega
      have rw2 : wrap64 (yv + 1) = yv + 1 := impl_Share.w64_ (by omega) (by omega); have HO4 := Aside0.mk (own_store OQ.out (iv : Int) (yv + 1)).1; have BB4 := Aside0.mk (below_set (j := iv) (v := .int .i64 (yv + 1)) BB.out hb9); have HK4 := Aside0.mk (Kept.setCell HKK.out (p := ⟨g9, iv, none⟩) (.inl rfl) (.int .i64 (yv + 1))); have HLT2 := Aside0.mk hlt2; have HYD := Aside0.mk hyd; have HOL := Aside0.mk hol; simp only [Int.toNat_natCast] at HO4; clear hbd hol hyv hyd hlt2 OQ BB HKK; go_wp2
      go_roundg (left - (kk + 1))
      case measure => have := HLT2.out; omega
      case rel =>
       have hlt2 := HLT2.out
       exact ⟨kk + 1, by first | rfl | go_num, by omega, Nat.le_refl _, ⟨by
        have q := HO4.out; rw [HYD.out, HOL.out, ← impl_Share.incs_snoc, HIV.out, show ((List.range kk).map fun p => d[p]!.val) ++ [d[kk]!.val] = (List.range (kk + 1)).map fun p => d[p]!.val by rw [List.range_succ, List.map_append]; rfl] at q; simp only [HIV.out, HYD.out, HOL.out]
        exact q⟩, ⟨HK4.out⟩, ⟨BB4.out⟩⟩
     ·have hkl2 : kk = left := by omega
      subst hkl2
      have hltz : ¬ (kk : Int) < (kk : Int) := by omega
      obtain ⟨ol, hol⟩ : ∃ o, o = impl_Share.incs (impl_Share.quots size all l1) ((List.range kk).map fun p => d[p]!.val) := ⟨_, rfl⟩
      have HBD : Aside0 (∀ j, 0 ≤ ol.getD j 0 ∧ ol.getD j 0 ≤ 1000000000000060) := Aside0.mk (fun j => by
       have q := impl_Share.incs_bd ((List.range kk).map fun p => d[p]!.val) 0 _ _ (by omega) HQB.out j; rw [← hol, List.length_map, List.length_range] at q
       have := HLM.out; have := KL.out; have := HM.out; omega)
      have HOLN : Aside0 (ol.length = m + 1) := Aside0.mk (by rw [hol, impl_Share.incs_length]; exact hn9')
      have HFIN : Aside0 (ol.map (fun x => if a0 < 0 then -x else x) = r1 ∧ (0 : Int) = r2) := Aside0.mk (by
       have hf := H.out; obtain ⟨h1, h2⟩ := Prod.mk.inj (Option.some.inj hf); refine ⟨?_, h2⟩; rw [← h1, hol]; unfold impl_Share.out; have hlf := HLEFT.out
       rw [HQS.out, hlf, Int.toNat_natCast, greedy_is (m := m) (by rw [List.length_map]; exact HM.out) (fun i hi => by
        rw [List.getD_eq_getElem?_getD, List.getElem?_map, List.getElem?_eq_getElem (by rw [HM.out]; exact hi)]
        exact Int.emod_nonneg _ (by have := KS.out; omega)) HSRT.out kk HLM.out])
      rw [← hol] at OQ
      have OS : Aside0 (wr.ownsRow w.heap.size 3 1 (.slice (some ⟨g9, 0, none⟩) (m + 1) cap9) (m + 1) (nums .i64 (impl_Share.signs a0 0 ol))) := Aside0.mk (by
       rw [show impl_Share.signs a0 0 ol = ol by unfold impl_Share.signs; rfl]; exact OQ.out)
      clear hol OQ HKK H HOD3 HK3; go_wp2
      go_loopg [83] (m + 1) (fun gg v83 wr => ∃ kk : Nat, v83 = .int .i64 kk ∧ kk ≤ m + 1 ∧ m + 1 - kk ≤ gg ∧ Aside0 (wr.ownsRow w.heap.size 3 1 (.slice (some ⟨g9, 0, none⟩) (m + 1) cap9) (m + 1) (nums .i64 (impl_Share.signs a0 kk ol))) ∧ Aside0 (Below w.heap.size w wr))
      case atStart => exact ⟨0, rfl, Nat.zero_le _, Nat.le_refl _, OS, BB⟩
      case round =>
       clear OS BB; obtain ⟨ii, rfl, hii, hgg3, OS, BB⟩ := hrel; by_cases hlt3 : ii < m + 1
       ·have hltz : (ii : Int) < ((m + 1 : Nat) : Int) := by omega
        have hltz2 : (ii : Int) < (m : Int) + 1 := by omega
        have hz0 : 0 ≤ (ii : Int) := by omega
        have HLT3 := Aside0.mk hlt3
        have hi60 : ii ≤ 60 := by have := KL.out; have := HM.out; omega
        by_cases ha : a0 < 0
        ·have hab : decide (a0 < 0) = true := decide_eq_true ha; have hxo := (own_at OS.out (ii : Int) hz0 hltz).1; have hfo := (own_at OS.out (ii : Int) hz0 hltz).2; rw [impl_Share.signs_at] at hxo; obtain ⟨yv, hyv⟩ : ∃ y, y = ol.getD ii 0 := ⟨_, rfl⟩; have hbd := HBD.out ii; rw [← hyv] at hxo hbd; simp only [Int.toNat_natCast] at hxo hfo
         have rw1 : IntKind.i64.wrap (-yv) = -yv := by rw [IntKind.wrap_i64]; omega
         have rw2 : wrap64 (-yv) = -yv := impl_Share.w64_ (by omega) (by omega); have HO4 := Aside0.mk (own_store OS.out (ii : Int) (-yv)).1; have BB4 := Aside0.mk (below_set (j := ii) (v := .int .i64 (-yv)) BB.out hb9); have HYV := Aside0.mk hyv; have HA := Aside0.mk ha; simp only [Int.toNat_natCast] at HO4; clear hbd hyv hlt3 OS BB ha; go_wp2
         go_roundg (m + 1 - (ii + 1))
         case measure => have := HLT3.out; omega
         case rel =>
          have hlt3 := HLT3.out
          exact ⟨ii + 1, by first | rfl | go_num, by omega, Nat.le_refl _, ⟨by
           have q := HO4.out; rw [HYV.out, impl_Share.signs_neg a0 ii ol (by rw [HOLN.out]; exact hlt3) HA.out] at q; simp only [HYV.out]
           exact q⟩, ⟨BB4.out⟩⟩
        ·have hab : decide (a0 < 0) = false := decide_eq_false ha; have HA := Aside0.mk ha; clear ha hlt3; go_wp2
         go_roundg (m + 1 - (ii + 1))
         case measure => have := HLT3.out; omega
         case rel =>
          have hlt3 := HLT3.out
          exact ⟨ii + 1, by first | rfl | go_num, by omega, Nat.le_refl _, ⟨by
           have q := OS.out; rw [impl_Share.signs_pos _ _ _ (by have := HA.out; omega)] at q ⊢
           exact q⟩, ⟨BB.out⟩⟩
       ·have hiin : ii = m + 1 := by omega
        subst hiin
        have hltz : ¬ ((m + 1 : Nat) : Int) < ((m + 1 : Nat) : Int) := by omega
        have hltz2 : ¬ (m : Int) + 1 < (m : Int) + 1 := by omega
        obtain ⟨hr1, rfl⟩ := HFIN.out; have HR1 := Aside0.mk hr1; clear hr1 HFIN; go_wp2; go_ret2
        exact ⟨_, rfl, Kd.R_of_own (by
         have q := OS.out; rw [show impl_Share.signs a0 (m + 1) ol = r1 from by rw [← HOLN.out, ← HR1.out]; exact impl_Share.signs_all a0 ol] at q; rw [show r1.length = m + 1 by rw [← HR1.out, List.length_map]; exact HOLN.out]
         exact q) (fun _ _ => trivial), BB.out⟩

end Go.Proofs.Ytfccbbbejjdakaa.PAll
