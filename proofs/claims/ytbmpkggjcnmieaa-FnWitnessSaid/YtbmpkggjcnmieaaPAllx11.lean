-- Written by wip/tools/hp.py over the kit's print (not by hand): functions and walks of All.
import Derived.Test.YtbmpkggjcnmieaaPAllx0
import Derived.Test.YtbmpkggjcnmieaaPAllx2
import Derived.Test.YtbmpkggjcnmieaaPAllx3
import Derived.Test.YtbmpkggjcnmieaaPAllx4
namespace Go.Proofs.Ytbmpkggjcnmieaa.PAll
open Go.RowKit Go.Proofs.YtbmpkggjcnmieaaW.PrintWords Go.Proofs.YtbmpkggjcnmieaaW.PrintLast Go.Proofs.YtbmpkggjcnmieaaW.PrintMore
attribute [local go_sem] max2_int min2_int max_two min_two max_three min_three max_four min_four   -- for this text's walks alone
set_option linter.unusedVariables false
set_option linter.unusedSimpArgs false

/-! ### slices_IndexFunc_int_int: function 84, by hand, over whatever function value -/
def slices_IndexFunc_int_int.f (p : Int → Option Bool) : List Int → Int → Option Int
 | [], _ => some (-1)
 | x :: xs, i => (p x).bind fun b => if b = true then some i else slices_IndexFunc_int_int.f p xs (i + 1)
theorem slices_IndexFunc_int_int.cons (p : Int → Option Bool) (x : Int) (xs : List Int) (i : Int) : slices_IndexFunc_int_int.f p (x :: xs) i = (p x).bind fun b => if b = true then some i else slices_IndexFunc_int_int.f p xs (i + 1) := rfl
theorem slices_IndexFunc_int_int.mono (p q : Int → Option Bool) (h : ∀ x, LeO (p x) (q x)) : ∀ l i, LeO (slices_IndexFunc_int_int.f p l i) (slices_IndexFunc_int_int.f q l i)
 | [], _ => LeO.refl _
 | x :: xs, i => LeO.bind (h x) (fun b => LeO.ite (LeO.refl _) (slices_IndexFunc_int_int.mono p q h xs (i + 1)))
set_option maxHeartbeats 8000000 in
set_option maxRecDepth 100000 in
theorem slices_IndexFunc_int_int.calls (p : Int → Option Bool) (l0 : List Int) (A0 : Option Addr) (c0 : Nat) (g : Nat) (lb : Array Value) (r : Int) (w : World) (eg : ∀ args w, (callFunc g args).run Try.prog w = .ok (.enter g args) w)
  (hp : ∀ (W_ : World) (x_ : Int) (b_ : Bool), Below w.heap.size w W_ → p x_ = some b_ → Calls Try.prog g (#[.int .i64 x_] ++ lb) W_ fun e w' => e = .returned (.bool b_) ∧ Below W_.heap.size W_ w')
  (hr0 : Kd.C (Kd.int .i64) w A0 l0.length l0) (hc0 : l0.length ≤ c0) (h : slices_IndexFunc_int_int.f p l0 0 = some r) :
  Calls Try.prog 84 #[.slice A0 l0.length c0, .func (.func g) #[] lb] w fun e w' => e = .returned (.int .i64 r) ∧ Below w.heap.size w w' := by
 have hbig : l0.length ≤ 9223372036854775807 := hr0.2.1; have HP := Aside0.mk hp; have HR := Aside0.mk hr0; have H := Aside0.mk h; clear hp hr0 h; go_enter Try.func84, Try.ntmps84; go_wp2
 go_loopg [5, 8] l0.length (fun gg _ s8 wr => ∃ kk : Nat, kk ≤ l0.length ∧ l0.length - kk ≤ gg ∧ s8 = .int .i64 kk ∧ Aside0 (Below w.heap.size w wr) ∧ Aside0 (slices_IndexFunc_int_int.f p (l0.drop kk) kk = some r))
 case atStart => exact ⟨0, Nat.zero_le _, by omega, rfl, ⟨Below.refl _ w⟩, ⟨H.out⟩⟩
 case round =>
  obtain ⟨kk, hkk, hg, rfl, BW, HF⟩ := hrel; by_cases hlt : kk < l0.length
  ·have hltz : (kk : Int) < (l0.length : Int) := by omega
   have hf := HF.out
   have hcons : l0.drop kk = rd l0 (kk : Int) :: l0.drop (kk + 1) := by
    rw [List.drop_eq_getElem_cons hlt]
    congr 1
    unfold rd; rw [Int.toNat_natCast, List.getD_eq_getElem?_getD, List.getElem?_eq_getElem hlt]; rfl
   obtain ⟨ad, rfl, hx0⟩ := Kd.at_int (Kd.C_below HR.out BW.out) (kk : Int) (by omega) hltz; rw [hcons, slices_IndexFunc_int_int.cons] at hf; clear hcons; simp only [Int.toNat_natCast] at hx0; generalize hxx : rd l0 (kk : Int) = x_ at *; have HX := Aside0.mk hxx; clear hxx; obtain ⟨b, hb, hf2⟩ := Option.bind_eq_some_iff.mp hf; have hcall := HP.out wr x_ b BW.out hb; have HB := Aside0.mk hb; have HF2 := Aside0.mk hf2; clear hf hb hf2
   cases b with
   | true =>
    go_wp2_with (go_at_fn g; refine hcall.mono ?_; rintro e w' ⟨rfl, hb'⟩)
    go_ret; have hr_ := HF2.out; simp only [if_true, Option.some.injEq] at hr_; exact ⟨by rw [← hr_]; rfl, BW.out.trans (hb'.mono BW.out.size)⟩
   | false =>
    go_wp2_with (go_at_fn g; refine hcall.mono ?_; rintro e w' ⟨rfl, hb'⟩)
    go_roundg (l0.length - (kk + 1))
    case measure => omega
    case rel =>
     have hr_ := HF2.out; simp only [Bool.false_eq_true, if_false] at hr_; exact ⟨kk + 1, by omega, by omega, by go_num, ⟨BW.out.trans (hb'.mono BW.out.size)⟩, ⟨by rw [show ((kk + 1 : Nat) : Int) = (kk : Int) + 1 by omega]; exact hr_⟩⟩
  ·have hltz : ¬ (kk : Int) < (l0.length : Int) := by omega
   have : kk = l0.length := by omega
   subst this; have hf := HF.out; rw [List.drop_length] at hf; have hr_ : -1 = r := Option.some.inj hf; have HX := Aside0.mk hr_; clear hf hr_; go_wp2; go_ret; exact ⟨by rw [← HX.out]; rfl, BW.out⟩

-- NOT PRINTED: function 62 (slices_DeleteFunc_int_int)

-- NOT PRINTED: function 63 (slices_Clone_int_int)

-- NOT PRINTED: function 64 (impl_conflict_1)

/-! ### impl_conflict: function 37, by hand; the library's Clone and DeleteFunc over rows of whole numbers -/
theorem rowI_form {e : Nat} {w : World} {base : Nat} {ok : Nat → Prop} {g m cap : Nat} {xs : List Int} (h : Kd.R (Kd.int .i64) e w base ok (.slice (some ⟨g, 0, none⟩) m cap) xs) :
  m = xs.length ∧ base ≤ g ∧ xs.length ≤ cap ∧ cap ≤ maxLen ∧ ∃ cur, w.heap[g]? = some (.cells cur e (0, 0)) ∧ cur.size = cap ∧ cur.toList.take xs.length = encs (Value.int .i64) xs := by
 have hn := (Kd.R_reads' h).1; subst hn
 rcases (Kd.own_of_R h).2 with ⟨h1, _⟩ | ⟨g', cap', cur, h1, h2, h3, h4, h5, h6, h7⟩
 ·cases h1
 ·injection h1 with a1 a2 a3; injection a1 with a1; injection a1 with a1; subst a1 a3; exact ⟨rfl, h2, h4, h5, cur, h3, by simpa using h6, by simpa using h7⟩
theorem rowI_holds {e : Nat} {w : World} {base : Nat} {ok : Nat → Prop} {g cap : Nat} {xs : List Int} (h : Kd.R (Kd.int .i64) e w base ok (.slice (some ⟨g, 0, none⟩) xs.length cap) xs) : Sort.Holds (Value.int .i64) w g 0 xs.toArray := by
 intro j hj
 have hj' : j < xs.length := by simpa using hj
 have hc := Kd.R_cell 0 h (j : Int) (by omega) (by omega); rw [Int.toNat_natCast] at hc; rw [Nat.zero_add]
 have e : rdOf 0 xs (j : Int) = xs.toArray[j]! := by
  unfold rdOf; rw [Int.toNat_natCast, getElem!_pos xs.toArray j hj, List.getD_eq_getElem?_getD, List.getElem?_eq_getElem hj']; rfl
 rw [e] at hc; exact hc
theorem putRow_block {W : World} {g q : Nat} {cur : Array Value} {e : TypeId} {fr : Nat × Nat} {d : Array Int} (h : W.heap[g]? = some (.cells cur e fr)) : (Sort.putRow (Value.int .i64) (Sort.ahead W q) g 0 d).heap[g]? = some (.cells (Sort.putCells (Value.int .i64) 0 d cur) e fr) := by
 unfold Sort.putRow Sort.mapBlock; show (Array.modify W.heap g _)[g]? = _; rw [Array.getElem?_modify, if_pos rfl, h]; rfl
theorem putRow_far {W : World} {g q k : Nat} {d : Array Int} (h : k ≠ g) : (Sort.putRow (Value.int .i64) (Sort.ahead W q) g 0 d).heap[k]? = W.heap[k]? := by
 unfold Sort.putRow Sort.mapBlock; show (Array.modify W.heap g _)[k]? = _; rw [Array.getElem?_modify, if_neg (fun e => h e.symm)]
theorem putCells_take {cur : Array Value} {d : List Int} {m : Nat} (h : d.length ≤ cur.size) (hm : m ≤ d.length) : (Sort.putCells (Value.int .i64) 0 d.toArray cur).toList.take m = encs (Value.int .i64) (d.take m) := by
 unfold Sort.putCells encs
 apply List.ext_getElem?
 intro i; by_cases hi : i < m
 ·rw [List.getElem?_take_of_lt hi, Array.getElem?_toList, Array.getElem?_mapIdx, Array.getElem?_eq_getElem (by omega), Option.map_some, if_pos ⟨by omega, by simp; omega⟩, List.getElem?_map, List.getElem?_take_of_lt hi, List.getElem?_eq_getElem (by omega), Option.map_some, Nat.sub_zero, getElem!_pos d.toArray i (by simp; omega)]; rfl
 ·rw [List.getElem?_eq_none (by rw [List.length_take]; omega), List.getElem?_eq_none (by rw [List.length_map, List.length_take]; omega)]
theorem clone_row {e : Nat} {w : World} {base : Nat} {ok : Nat → Prop} {g cap : Nat} {xs : List Int} (h : Kd.R (Kd.int .i64) e w base ok (.slice (some ⟨g, 0, none⟩) xs.length cap) xs) (hl : xs.length ≤ 1000) :
  Calls Try.prog 63 #[.slice (some ⟨g, 0, none⟩) xs.length cap] w fun e_ w' => ∃ g' cap', e_ = .returned (.slice (some ⟨g', 0, none⟩) xs.length cap') ∧ Kd.R (Kd.int .i64) 3 w' w.heap.size (fun _ => True) (.slice (some ⟨g', 0, none⟩) xs.length cap') xs ∧ Below w.heap.size w w' := by
 have hH := rowI_holds h; have hi := (by kernel_rfl : (Try.prog.info? 3).map (fun i => (i.zero, i.size, i.bytes)) = some (some (.int .i64 0), 1, 8)); obtain ⟨i0, h0, hz⟩ := Option.map_eq_some_iff.1 hi; have z0 : i0.zero = some (.int .i64 0) := (Prod.mk.inj hz).1; have z1 : i0.size = 1 := (Prod.mk.inj (Prod.mk.inj hz).2).1; have z2 : i0.bytes = 8 := (Prod.mk.inj (Prod.mk.inj hz).2).2; refine (Try.slices_Clone i0 (.int .i64 0) 1 8 h0 z0 z1 z2 rfl (by omega) Try.sizeOf3 g 0 xs.length cap (encs (Value.int .i64) xs) w (by rw [encs_length]; omega) (by unfold maxLen; omega) (by omega) ?_ ?_).mono ?_
 ·intro j u hj
  have hj' : j < xs.length := by
   rcases Nat.lt_or_ge j xs.length with q | q
   ·exact q
   ·rw [List.getElem?_eq_none (by rw [encs_length]; exact q)] at hj; cases hj
  have := (hH j (by simpa using hj')).1; rw [this, ← hj]; unfold encs; rw [List.getElem?_map, List.getElem?_eq_getElem hj', getElem!_pos xs.toArray j (by simpa using hj')]; rfl
 ·intro u hu; unfold encs at hu; obtain ⟨x, _, rfl⟩ := List.mem_map.1 hu; rfl
 ·rintro e_ w' ⟨v, rfl, ho, hne, hb⟩; have ho' := ho
  rcases ho.2 with ⟨h1, _⟩ | ⟨g', cap', cur, rfl, h2, h3⟩
  ·exact absurd (by rw [h1]) hne
  ·exact ⟨g', cap', rfl, Kd.R_of_own ho' (fun _ _ => trivial), hb⟩
theorem impl_conflict_1.gives (i x : Int) (g : Nat) (W : World) (hc : W.cell? ⟨g, 0, none⟩ = some (.int .i64 i)) : FnGives Try.prog 64 #[.pointer (some ⟨g, 0, none⟩)] #[.int .i64 x] (.bool (decide (x = i))) W := by
 show Calls Try.prog 64 #[.int .i64 x, .pointer (some ⟨g, 0, none⟩)] W _; go_enter Try.func64, Try.ntmps64; go_wp2
 all_goals (go_ret; exact ⟨by first | rfl | simp_all, 0, rfl⟩)
theorem del_row {e : Nat} {W : World} {base : Nat} {ok : Nat → Prop} {g cap gi : Nat} {xs : List Int} (i : Int) (h : Kd.R (Kd.int .i64) e W base ok (.slice (some ⟨g, 0, none⟩) xs.length cap) xs) (hl : xs.length ≤ 1000) (hg : gi ≠ g) (hc : W.cell? ⟨gi, 0, none⟩ = some (.int .i64 i)) :
  Calls Try.prog 62 #[.slice (some ⟨g, 0, none⟩) xs.length cap, .func (.func 64) #[] #[.pointer (some ⟨gi, 0, none⟩)]] W fun e_ w' => e_ = .returned (.slice (some ⟨g, 0, none⟩) (xs.filter fun k_ => !decide (k_ = i)).length cap) ∧ Kd.R (Kd.int .i64) e w' base ok (.slice (some ⟨g, 0, none⟩) (xs.filter fun k_ => !decide (k_ = i)).length cap) (xs.filter fun k_ => !decide (k_ = i)) ∧ KeepBut W w' g none ∧ (∀ b w0, b ≤ g → Below b w0 W → Below b w0 w') := by
 obtain ⟨_, hbg, hlc, hcm, cur, hh, hcs, _⟩ := rowI_form h; have hgi := World.block_lt_of_cell? W _ hc; have hH := rowI_holds h
 have hp : PredAt Try.prog 64 #[.pointer (some ⟨gi, 0, none⟩)] (Value.int .i64) (fun x => decide (x = i)) W := fun W' x hb => impl_conflict_1.gives i x gi W' ((hb.cell (p := ⟨gi, 0, none⟩) hgi).trans hc)
 have hpo : PredOver Try.prog 64 #[.pointer (some ⟨gi, 0, none⟩)] (Value.int .i64) (fun x => decide (x = i)) g 0 xs.toArray.size W := fun n os dk x _ => impl_conflict_1.gives i x gi _ (by
  unfold sortWorld; rw [Sort.cell?_grow _ _ _ (by show gi < (Sort.putRow _ _ _ _ _).heap.size; rw [Sort.size_putRow]; exact hgi), Sort.cell?_putRow_other _ _ g 0 _ _ (Or.inl hg)]
  exact hc)
 have hlen : (xs.filter fun k_ => !decide (k_ = i)).length ≤ xs.length := List.length_filter_le _ _; have C := Try.slices_DeleteFunc (Value.int .i64) (fun _ => rfl) (fun x => decide (x = i)) 64 #[.pointer (some ⟨gi, 0, none⟩)] (enters_of Try.func64 (by kernel_rfl) rfl) 0 Try.zeroValue3 g 0 cap xs.toArray W hp hpo hH (by simp; omega) (by simpa using hlc); simp only [List.size_toArray] at C; refine C.mono ?_; rintro e_ w' ⟨rfl, q, rfl⟩; refine ⟨rfl, ?_, ?_, ?_⟩
 ·refine Kd.R_of_own ⟨by simp [encs_length], .inr ⟨g, cap, _, rfl, hbg, putRow_block hh, by omega, hcm, ?_, ?_⟩⟩ (fun k hk => h.1 k hk)
  ·simp [Sort.putCells, hcs]
  ·rw [Nat.mul_one, putCells_take (by simp; omega) (by simp)]
   simp
 ·exact ⟨by rw [Sort.size_putRow]; exact Nat.le_refl _, fun k _ hk _ => putRow_far hk⟩
 ·intro b w0 hbw hB; exact ⟨hB.os, hB.tape, hB.output, by rw [Sort.size_putRow]; exact hB.size, fun k hk => by rw [putRow_far (by omega)]; exact hB.block k hk⟩
theorem Kd.R_types0 {e : Nat} {w : World} {base g g5 n cap : Nat} {xs : List Int} (h : Kd.R (Kd.int .i64) e w base (fun _ => True) (.slice (some ⟨g, 0, none⟩) n cap) xs) (hne : g ≠ g5) : Kd.R (Kd.int .i64) e w base (fun k => True ∧ k ≠ g5) (.slice (some ⟨g, 0, none⟩) n cap) xs := by
 have hn := (Kd.R_reads' h).1; subst hn; refine Kd.R_of_own (Kd.own_of_R h) (fun k hk => ⟨trivial, ?_⟩); simp only [Value.ownBlock, Option.some.injEq] at hk
 omega
def impl_conflict.own (l0 : List S47) (ks : List Int) : List S47 := ks.map fun k_ => rd_T47 l0 k_
def impl_conflict.go (l0 : List S47) : Nat → List Int → List Int
 | 0, left => left
 | i + 1, left => if impl_isEmpty.f (impl_narrowed.go impl_bounds.all (impl_conflict.own l0 (left.filter fun k_ => !decide (k_ = (i : Int))))) = true then impl_conflict.go l0 i (left.filter fun k_ => !decide (k_ = (i : Int))) else impl_conflict.go l0 i left
def impl_conflict.start (m : Nat) : List Int := (List.range m).map fun (j : Nat) => (j : Int)
theorem impl_conflict.form {w : World} {base m : Nat} {v : Value} (h : Kd.R (Kd.int .i64) 3 w base (fun _ => True) v (impl_conflict.start m ++ [(m : Int)])) : ∃ g cap, v = .slice (some ⟨g, 0, none⟩) (m + 1) cap ∧ Kd.R (Kd.int .i64) 3 w base (fun _ => True) (.slice (some ⟨g, 0, none⟩) (m + 1) cap) (impl_conflict.start (m + 1)) := by
 have hl : (impl_conflict.start m ++ [(m : Int)]).length = m + 1 := by unfold impl_conflict.start; simp
 obtain ⟨g, cap, rfl, _⟩ := Kd.R_form h (by omega); rw [hl] at h ⊢; refine ⟨g, cap, rfl, ?_⟩
 have e : impl_conflict.start (m + 1) = impl_conflict.start m ++ [(m : Int)] := by
  unfold impl_conflict.start; rw [List.range_succ, List.map_append]; rfl
 rw [e]; exact h
def impl_conflict.all (l0 : List S47) : List Int := impl_conflict.go l0 l0.length (impl_conflict.start l0.length)
theorem impl_conflict.start_succ (m : Nat) : impl_conflict.start (m + 1) = impl_conflict.start m ++ [(m : Int)] := by
 unfold impl_conflict.start; rw [List.range_succ, List.map_append]; rfl
theorem impl_conflict.start_len (m : Nat) : (impl_conflict.start m).length = m := by unfold impl_conflict.start; simp
theorem impl_conflict.start_in (m : Nat) : ∀ k ∈ impl_conflict.start m, 0 ≤ k ∧ k < (m : Int) := by
 intro k hk; unfold impl_conflict.start at hk; obtain ⟨j, hj, rfl⟩ := List.mem_map.1 hk; have := List.mem_range.1 hj
 omega
theorem impl_conflict.own_in {l0 : List S47} {ks : List Int} (h : ∀ k ∈ ks, 0 ≤ k ∧ k < (l0.length : Int)) (ht : ∀ x ∈ l0, 1 ≤ x.f0 ∧ x.f0 ≤ 5) : ∀ x ∈ impl_conflict.own l0 ks, 1 ≤ x.f0 ∧ x.f0 ≤ 5 := by
 intro x hx; unfold impl_conflict.own at hx; obtain ⟨k, hk, rfl⟩ := List.mem_map.1 hx; have := h k hk; refine ht _ ?_; unfold rd_T47; rw [List.getD_eq_getElem?_getD, List.getElem?_eq_getElem (by omega : k.toNat < l0.length)]; exact List.getElem_mem _
set_option maxHeartbeats 8000000 in
set_option maxRecDepth 100000 in
theorem impl_conflict.calls (A0 : Option Addr) (c0 : Nat) (l0 : List S47) (w : World) (hr0 : Kd.C k47 w A0 l0.length l0) (hc0 : l0.length ≤ c0) (ht : ∀ x ∈ l0, 1 ≤ x.f0 ∧ x.f0 ≤ 5) (h8 : l0.length ≤ 8) :
  Calls Try.prog 37 #[.slice A0 l0.length c0] w fun e w' => ∃ v0_ : Value, e = .returned v0_ ∧ Kd.R (Kd.int .i64) 3 w' w.heap.size (fun _ => True) v0_ (impl_conflict.all l0) ∧ Below w.heap.size w w' := by
 have HR := Aside0.mk hr0; have HC := Aside0.mk hc0; have HT := Aside0.mk ht; have H8 := Aside0.mk h8
 have hbig : l0.length ≤ 9223372036854775807 := by omega
 clear hr0 hc0 ht h8; go_enter Try.func37, Try.ntmps37; go_wp2; have R0 := Aside0.mk (row_empty2 (Kd.int .i64) w 3 w.heap.size (Nat.le_refl _)); have B0 : Aside0 (Below w.heap.size w (w.alloc (.cells #[] 3))) := Aside0.mk ((Below.refl _ w).alloc (Nat.le_refl _) _); generalize w.alloc (.cells #[] 3) = w4 at *
 go_loopg [3, 13] l0.length (fun gg s3 s13 wr => ∃ (kk g cap : Nat), kk ≤ l0.length ∧ l0.length - kk ≤ gg ∧ s13 = .int .i64 kk ∧ s3 = .slice (some ⟨g, 0, none⟩) kk cap ∧ Aside0 (Below w.heap.size w wr) ∧ Aside0 (Kd.R (Kd.int .i64) 3 wr w.heap.size (fun _ => True) (.slice (some ⟨g, 0, none⟩) kk cap) (impl_conflict.start kk)))
 case atStart => exact ⟨0, w.heap.size, 0, Nat.zero_le _, by omega, rfl, rfl, B0, R0⟩
 case round =>
  obtain ⟨kk, g, cap, hkk, hg, rfl, rfl, BW, HO⟩ := hrel; by_cases hlt : kk < l0.length
  ·have hltz : (kk : Int) < (l0.length : Int) := by omega
   go_wp2_with (at_builtin; refine Kd.R_append (Kd.int .i64) (w0 := w) w.heap.size rfl (.tmp 16) (.tmp 18) 24 3 (.int .i64 0) 8 rfl Try.underlying24 (by kernel_rfl : (Try.prog.info? 3).map (fun i => (i.zero, i.size, i.bytes)) = some (some (.int .i64 0), 1, 8)) rfl (by decide) (by omega) (.slice (some ⟨g, 0, none⟩) kk cap) (impl_conflict.start kk) (kk : Int) [.int .i64 (kk : Int)] (fun _ => True) (fun _ => False) rfl rfl ?aP (fun _ hk => hk.elim) ?aF ?aO ?aB ?aS ?aL ?_; (case aP => exact rfl); (case aB => exact BW.out); (case aF => exact (fun _ _ => trivial)); (case aO => exact HO.out); (case aS => exact BW.out.size); (case aL => have := H8.out; rw [impl_conflict.start_len]; omega); intro v5 w5 ho hb_ hg_ hat_; have HO5 := Aside0.mk ho; have HB5 := Aside0.mk hb_; clear ho hb_ hg_ hat_)
   obtain ⟨g5, cap5, rfl, HF5⟩ := impl_conflict.form HO5.out; have HO6 := Aside0.mk HF5; clear HF5 HO5
   go_roundg (l0.length - (kk + 1))
   case measure => omega
   case rel => exact ⟨kk + 1, g5, cap5, by omega, by omega, by go_num, rfl, HB5, HO6⟩
  ·have hltz : ¬ (kk : Int) < (l0.length : Int) := by omega
   have : kk = l0.length := by omega
   subst this; go_wp2; have HO1 : Aside0 (Kd.R (Kd.int .i64) 3 (wr.alloc (.cells #[.int .i64 ((l0.length : Int) - 1)] 3)) w.heap.size (fun _ => True) (.slice (some ⟨g, 0, none⟩) (impl_conflict.start l0.length).length cap) (impl_conflict.start l0.length)) := Aside0.mk (by rw [impl_conflict.start_len]; exact Kd.R_alloc HO.out _); have B1 : Aside0 (Below w.heap.size w (wr.alloc (.cells #[.int .i64 ((l0.length : Int) - 1)] 3))) := Aside0.mk (BW.out.alloc BW.out.size _); have D1 := Aside0.mk (blk_new wr (.cells #[.int .i64 ((l0.length : Int) - 1)] 3))
   have hgne : wr.heap.size ≠ g := by have := Kd.R_lt HO.out g rfl; omega
   have HGB : Aside0 (w.heap.size ≤ wr.heap.size) := Aside0.mk BW.out.size; have HIN := Aside0.mk (impl_conflict.start_in l0.length); have HGO : Aside0 (impl_conflict.go l0 l0.length (impl_conflict.start l0.length) = impl_conflict.all l0) := Aside0.mk rfl; have hll := impl_conflict.start_len l0.length; have HLL : Aside0 ((impl_conflict.start l0.length).length ≤ 8) := Aside0.mk (by have := H8.out; omega); generalize wr.alloc (.cells #[.int .i64 ((l0.length : Int) - 1)] 3) = w2 at *; generalize wr.heap.size = gi at *
   go_loopg [3, 5] l0.length (fun gg s3 s5 wq => ∃ (ii g cap gi : Nat) (left : List Int), ii ≤ l0.length ∧ ii ≤ gg ∧ s3 = .slice (some ⟨g, 0, none⟩) left.length cap ∧ s5 = .pointer (some ⟨gi, 0, none⟩) ∧ Aside0 (wq.heap[gi]? = some (.cells #[.int .i64 ((ii : Int) - 1)] 3 (0, 0))) ∧ Aside0 (w.heap.size ≤ gi) ∧ Aside0 (Below w.heap.size w wq) ∧ Aside0 (Kd.R (Kd.int .i64) 3 wq w.heap.size (fun _ => True) (.slice (some ⟨g, 0, none⟩) left.length cap) left) ∧ Aside0 (∀ k ∈ left, 0 ≤ k ∧ k < (l0.length : Int)) ∧ Aside0 (left.length ≤ 8) ∧ Aside0 (impl_conflict.go l0 ii left = impl_conflict.all l0))
   case atStart => exact ⟨l0.length, g, cap, gi, _, Nat.le_refl _, Nat.le_refl _, by rw [hll], rfl, D1, HGB, B1, HO1, HIN, HLL, HGO⟩
   case round =>
    clear D1 HGB B1 HO1 HIN HLL HGO hgne hll BW HO; obtain ⟨ii, g, cap, gi, left, hii, hg, rfl, rfl, D1, HGB, BQ, HO, HIN, HLL, HGO⟩ := hrel; by_cases hpos : 0 < ii
    ·obtain ⟨i, rfl⟩ : ∃ i, ii = i + 1 := ⟨ii - 1, by omega⟩; replace D1 : Aside0 (wr.heap[gi]? = some (.cells #[.int .i64 (i : Int)] 3 (0, 0))) := Aside0.mk (by have := D1.out; rwa [show ((i + 1 : Nat) : Int) - 1 = (i : Int) by omega] at this); have z0 : wr.cell? ⟨gi, 0, none⟩ = some (.int .i64 (i : Int)) := (blk_cell D1.out 0).trans rfl
     have hge : (0 : Int) ≤ (i : Int) := by omega
     go_wp2_with fail
     refine (clone_row HO.out (by have := HLL.out; omega)).mono ?_; rintro e w5 ⟨g5, cap5, rfl, HR5, hb5⟩; have B5 := Aside0.mk (BQ.out.trans (hb5.mono BQ.out.size)); have D5 := Aside0.mk (blk_below D1.out hb5); have HO5 := Aside0.mk (Kd.R_below HO.out hb5); have HGlt : gi < wr.heap.size := blk_lt D1.out; have HG5 : wr.heap.size ≤ g5 := Kd.R_base HR5 g5 rfl
     have hne5 : gi ≠ g5 := by omega
     have hglt : g < wr.heap.size := Kd.R_lt HO.out g rfl
     have hne6 : g ≠ g5 := by omega
     have hbg5 : w.heap.size ≤ g5 := by have := BQ.out.size; omega
     have HRR5 := Aside0.mk HR5; clear HR5 hb5 z0
     go_wp2_with fail
     refine (del_row (i : Int) HRR5.out (by have := HLL.out; omega) hne5 ((blk_cell D5.out 0).trans rfl)).mono ?_; rintro e w6 ⟨rfl, HR6, hk6, hb6⟩; have B6 := Aside0.mk (hb6 _ _ hbg5 B5.out); have D6 : Aside0 (w6.heap[gi]? = some (.cells #[.int .i64 (i : Int)] 3 (0, 0))) := Aside0.mk ((hk6.2 gi (blk_lt D5.out) hne5 (by simp)).trans D5.out); have HO6 := Aside0.mk (Kd.R_keep (Kd.R_types0 HO5.out hne6) hk6 (fun _ hk => hk.2)); have HRR6 := Aside0.mk HR6; clear HR6 hk6 hb6 HRR5 D5 HO5 B5
     have HIN2 : ∀ k ∈ (left.filter fun k_ => !decide (k_ = (i : Int))), 0 ≤ k ∧ k < (l0.length : Int) := fun k hk => HIN.out k (List.mem_filter.1 hk).1
     have hwl : (left.filter fun k_ => !decide (k_ = (i : Int))).length ≤ left.length := List.length_filter_le _ _; have HGO6 := HGO.out; rw [impl_conflict.go] at HGO6; generalize hwo : (left.filter fun k_ => !decide (k_ = (i : Int))) = wo at *; have HWN := Aside0.mk HIN2; have HWL : Aside0 (wo.length ≤ 8) := Aside0.mk (by have := HLL.out; omega); have HGO7 := Aside0.mk HGO6; clear HIN2 hwl HGO6 hwo HGO
     have hwb : wo.length ≤ 9223372036854775807 := by have := HWL.out; omega
     go_wp2; have HC6 := Aside0.mk (Kd.R_reads' HRR6.out).2.2; have B7 : Aside0 (Below w6.heap.size w6 (w6.alloc (.cells #[] 47))) := Aside0.mk ((Below.refl _ w6).alloc (Nat.le_refl _) _); have R7 := Aside0.mk (row_empty2 k47 w6 47 w6.heap.size (Nat.le_refl _)); generalize w6.alloc (.cells #[] 47) = w7 at *; have HRR6' := HRR6.out; clear HRR6; have hgg : Aside0 (w.heap.size ≤ g5) := Aside0.mk hbg5; generalize hadr : (⟨g5, 0, none⟩ : Addr) = aw at *; have HAW := Aside0.mk hadr; have HRR6 := Aside0.mk HRR6'; clear HRR6' hadr hbg5 HG5 hne5 hne6 hglt HGlt
     go_loopg [7, 35] wo.length (fun gg s7 s35 wq => ∃ kk : Nat, kk ≤ wo.length ∧ wo.length - kk ≤ gg ∧ s35 = .int .i64 kk ∧ Aside0 (Below w6.heap.size w6 wq) ∧ Aside0 (Kd.R k47 47 wq w6.heap.size (fun _ => True) s7 (impl_conflict.own l0 (wo.take kk))))
     case atStart => exact ⟨0, Nat.zero_le _, by omega, rfl, B7, R7⟩
     case round =>
      clear B7 R7; obtain ⟨kk, hkk, hg7, rfl, BW, HOW⟩ := hrel; by_cases hlt : kk < wo.length
      ·have hltz : (kk : Int) < (wo.length : Int) := by omega
       obtain ⟨ad7, had7, hx⟩ := Kd.at_int (Kd.C_below HC6.out BW.out) (kk : Int) (by omega) hltz; obtain rfl := Option.some.inj had7; simp only [Int.toNat_natCast] at hx
       have hmem : rd wo (kk : Int) ∈ wo := by
        unfold rd; rw [Int.toNat_natCast, List.getD_eq_getElem?_getD, List.getElem?_eq_getElem hlt]; exact List.getElem_mem _
       obtain ⟨hk0, hk1⟩ := HWN.out _ hmem
       have htk : impl_conflict.own l0 (wo.take (kk + 1)) = impl_conflict.own l0 (wo.take kk) ++ [rd_T47 l0 (rd wo (kk : Int))] := by
        unfold impl_conflict.own rd; rw [List.take_add_one, List.getElem?_eq_getElem hlt, List.map_append, Int.toNat_natCast, List.getD_eq_getElem?_getD, List.getElem?_eq_getElem hlt]; rfl
       have HTK := Aside0.mk htk; clear htk hmem had7; obtain ⟨A7, c7, rfl, hl7, _⟩ := Kd.R_reads HOW.out; have hl77 := Aside0.mk hl7; have hol : Aside0 ((impl_conflict.own l0 (wo.take kk)).length ≤ 8) := Aside0.mk (by unfold impl_conflict.own; rw [List.length_map, List.length_take]; have := HWL.out; omega); clear hl7; generalize rd wo (kk : Int) = kx at *; have B8 := Aside0.mk (B6.out.trans (BW.out.mono B6.out.size)); obtain ⟨ad, rfl, hx0, hx1, hx2⟩ := at_T47 (Kd.C_below HR.out B8.out) kx hk0 hk1; generalize rd_T47 l0 kx = x_ at *
       go_wp2_with (at_builtin; refine Kd.R_append k47 (w0 := w6) w6.heap.size rfl (.tmp 39) (.tmp 44) 35 47 (.agg #[.int .i64 0, .int .i64 0, .int .i64 0]) 24 rfl Try.underlying35 (by kernel_rfl : (Try.prog.info? 47).map (fun i => (i.zero, i.size, i.bytes)) = some (some (.agg #[.int .i64 0, .int .i64 0, .int .i64 0]), 3, 24)) rfl (by decide) (by omega) (.slice A7 (impl_conflict.own l0 (wo.take kk)).length c7) (impl_conflict.own l0 (wo.take kk)) x_ [.int .i64 x_.f0, .int .i64 x_.f1, .int .i64 x_.f2] (fun _ => True) (fun _ => False) rfl rfl ?aP (fun _ hk => hk.elim) ?aF ?aO ?aB ?aS ?aL ?_; (case aP => exact k47_mkM _ _ _ x_); (case aB => exact BW.out); (case aF => exact (fun _ _ => trivial)); (case aO => exact HOW.out); (case aS => exact BW.out.size); (case aL => have := hol.out; omega); intro v9 w9 ho hb_ hg_ hat_; have HO9 := Aside0.mk ho; have HB9 := Aside0.mk hb_; clear ho hb_ hg_ hat_)
       go_roundg (wo.length - (kk + 1))
       case measure => omega
       case rel => exact ⟨kk + 1, by omega, by omega, by go_num, HB9, ⟨by rw [HTK.out]; exact HO9.out⟩⟩
      ·have hltz : ¬ (kk : Int) < (wo.length : Int) := by omega
       have : kk = wo.length := by omega
       subst this; have hw := HOW.out; rw [List.take_length] at hw; replace HOW := Aside0.mk hw; clear hw; obtain ⟨A7, c7, rfl, hl7, hr7⟩ := Kd.R_reads HOW.out; have HL7 := Aside0.mk hl7; have HR7 := Aside0.mk hr7; have HTW := Aside0.mk (impl_conflict.own_in HWN.out HT.out); clear hl7 hr7
       go_wp2_with fail
       (with_reducible refine (impl_allBounds.calls _).mono ?_); rintro e w8 ⟨rfl, hb8⟩; have B8 := Aside0.mk (below_trans BW.out hb8); have HR8 := Aside0.mk (Kd.C_below HR7.out hb8); clear hb8
       go_wp2_with fail
       refine (impl_narrowed.calls impl_bounds.all A7 c7 (impl_conflict.own l0 wo) _ HR8.out HL7.out HTW.out).mono ?_; rintro e w9 ⟨rfl, hb9⟩; have B9 := Aside0.mk (below_trans B8.out hb9); clear hb9; have hgo := HGO7.out; generalize (impl_narrowed.go impl_bounds.all (impl_conflict.own l0 wo)) = bb at *; have HGO8 := Aside0.mk hgo; clear hgo HGO7
       go_wp2_with fail
       refine (impl_isEmpty.calls bb _).mono ?_; rintro e w10 ⟨rfl, hb10⟩; have B10 := Aside0.mk (below_trans B9.out hb10); clear hb10; have B11 := Aside0.mk (B6.out.trans (B10.out.mono B6.out.size)); have D11 := Aside0.mk (blk_below D6.out B10.out); have HO11 := Aside0.mk (Kd.R_mono (Kd.R_below HO6.out B10.out) (fun _ hk => hk.1)); have HRR11 := Aside0.mk (Kd.R_below HRR6.out B10.out); have z11 : w10.cell? ⟨gi, 0, none⟩ = some (.int .i64 (i : Int)) := (blk_cell D11.out 0).trans rfl
       cases hE : impl_isEmpty.f bb
       ·have hgo := HGO8.out; rw [hE, if_neg (by decide)] at hgo; have HGO9 := Aside0.mk hgo; clear hgo HGO8; have DN := Aside0.mk (blk_new w10 (.cells #[.int .i64 ((i : Int) - 1)] 3)); have BN : Aside0 (Below w.heap.size w (w10.alloc (.cells #[.int .i64 ((i : Int) - 1)] 3))) := Aside0.mk (B11.out.alloc B11.out.size _); have RN : Aside0 (Kd.R (Kd.int .i64) 3 (w10.alloc (.cells #[.int .i64 ((i : Int) - 1)] 3)) w.heap.size (fun _ => True) (.slice (some ⟨g, 0, none⟩) left.length cap) left) := Aside0.mk (Kd.R_alloc HO11.out _); go_wp2
        go_roundg i
        case measure => omega
        case rel => exact ⟨i, g, cap, w10.heap.size, left, by omega, Nat.le_refl _, rfl, rfl, DN, ⟨B11.out.size⟩, BN, RN, HIN, HLL, HGO9⟩
       ·have hgo := HGO8.out; rw [hE, if_pos rfl] at hgo; have HGO9 := Aside0.mk hgo; clear hgo HGO8; have HRR12 := Aside0.mk (Kd.R_lower HRR11.out BQ.out.size); have haw := HAW.out; subst haw; have DN := Aside0.mk (blk_new w10 (.cells #[.int .i64 ((i : Int) - 1)] 3)); have BN : Aside0 (Below w.heap.size w (w10.alloc (.cells #[.int .i64 ((i : Int) - 1)] 3))) := Aside0.mk (B11.out.alloc B11.out.size _); have RN : Aside0 (Kd.R (Kd.int .i64) 3 (w10.alloc (.cells #[.int .i64 ((i : Int) - 1)] 3)) w.heap.size (fun _ => True) (.slice (some ⟨g5, 0, none⟩) wo.length cap5) wo) := Aside0.mk (Kd.R_alloc HRR12.out _); go_wp2
        go_roundg i
        case measure => omega
        case rel => exact ⟨i, g5, cap5, w10.heap.size, wo, by omega, Nat.le_refl _, rfl, rfl, DN, ⟨B11.out.size⟩, BN, RN, HWN, HWL, HGO9⟩
    ·have hneg : ¬ (0 : Int) ≤ ((ii : Int) - 1) := by omega
     have z0 := (blk_cell D1.out 0).trans rfl
     have : ii = 0 := by omega
     subst this; go_wp2; go_ret; exact ⟨_, rfl, by rw [← HGO.out]; exact HO.out, BQ.out⟩

/-! ### impl_least: function 38, by hand -/
set_option maxHeartbeats 8000000 in
set_option maxRecDepth 100000 in
theorem impl_least.calls (b : Nat → Int) (w : World) : Calls Try.prog 38 #[.agg #[.int .i64 (b 0), .int .i64 (b 1), .int .i64 (b 2), .int .i64 (b 3), .int .i64 (b 4), .int .i64 (b 5), .int .i64 (b 6), .int .i64 (b 7), .int .i64 (b 8), .int .i64 (b 9), .int .i64 (b 10), .int .i64 (b 11)]] w fun e w' => e = .returned (.agg #[.int .i64 (b 2), .int .i64 (b 4), .int .i64 (b 6), .int .i64 (b 8), .int .i64 (b 10)]) ∧ Below w.heap.size w w' := by
 go_enter Try.func38, Try.ntmps38; go_wp2; refine bodyPost_ret (results_single rfl (.cell (w.heap.size + 1) 40 #[.int .i64 (b 2), .int .i64 (b 4), .int .i64 (b 6), .int .i64 (b 8), .int .i64 (b 10)] (0, 0) _ rfl (by simpa using blk_new (w.alloc (.cells #[.int .i64 (b 0), .int .i64 (b 1), .int .i64 (b 2), .int .i64 (b 3), .int .i64 (b 4), .int .i64 (b 5), .int .i64 (b 6), .int .i64 (b 7), .int .i64 (b 8), .int .i64 (b 9), .int .i64 (b 10), .int .i64 (b 11)] 62)) (.cells #[.int .i64 (b 2), .int .i64 (b 4), .int .i64 (b 6), .int .i64 (b 8), .int .i64 (b 10)] 40)) Try.underlying40 rfl (by kernel_rfl) .nil)) rfl ?_; exact ⟨rfl, ((Below.refl _ w).alloc (Nat.le_refl _) _).alloc (by simp) _⟩

/-! ### impl_Witness: function 15, by hand -/
def impl_Witness.f (k : Nat) (a0_0 : ByteArray) (l0_1 : List S47) (a0_2 a0_3 : Int) : Option (Int × Int × Int × Int × Int × Int × List Int) :=
 (impl_isClause.f k a0_0 l0_1 a0_2 a0_3).bind fun t => if t = true then
  (if ((l0_1.all fun t => decide (1 ≤ t.f0 ∧ t.f0 ≤ 5)) = true ∧ l0_1.length ≤ 8) then
   (if impl_isEmpty.f (impl_narrowed.go impl_bounds.all l0_1) = true then some (0, 0, 0, 0, 0, 8, impl_conflict.all l0_1) else some ((impl_narrowed.go impl_bounds.all l0_1) 2, (impl_narrowed.go impl_bounds.all l0_1) 4, (impl_narrowed.go impl_bounds.all l0_1) 6, (impl_narrowed.go impl_bounds.all l0_1) 8, (impl_narrowed.go impl_bounds.all l0_1) 10, 0, [])) else none)
  else some (0, 0, 0, 0, 0, 1, [])
theorem impl_Witness.mono : ∀ a0 a1 a2 a3 k, LeO (impl_Witness.f k a0 a1 a2 a3) (impl_Witness.f (k + 1) a0 a1 a2 a3) := fun a0 a1 a2 a3 k =>
 LeO.bind (impl_isClause.mono a0 a1 a2 a3 k) (fun _ => LeO.refl _)
set_option maxHeartbeats 8000000 in
set_option maxRecDepth 100000 in
theorem impl_Witness.calls (k : Nat) (a0_0 : ByteArray) (A0_1 : Option Addr) (c0_1 : Nat) (l0_1 : List S47) (a0_2 : Int) (a0_3 : Int) (r1 r2 r3 r4 r5 r6 : Int) (r7 : List Int) (w : World)
  (hr0_1 : Kd.C k47 w A0_1 l0_1.length l0_1) (hc0_1 : l0_1.length ≤ c0_1) (h : impl_Witness.f k a0_0 l0_1 a0_2 a0_3 = some (r1, r2, r3, r4, r5, r6, r7)) :
  Calls Try.prog 15 #[.agg #[.string a0_0, .slice A0_1 l0_1.length c0_1, .int .i64 a0_2, .int .i64 a0_3]] w fun e w' => ∃ v0_ : Value, e = .returned (.tuple #[.agg #[.int .i64 r1, .int .i64 r2, .int .i64 r3, .int .i64 r4, .int .i64 r5], .int .i64 r6, v0_]) ∧ Kd.R (Kd.int .i64) 3 w' w.heap.size (fun _ => True) v0_ r7 ∧ Below w.heap.size w w' := by
 have HR := Aside0.mk hr0_1; have HC := Aside0.mk hc0_1; have B3 : Aside0 (Below w.heap.size w ((w.alloc (.cells #[.string a0_0, .slice A0_1 l0_1.length c0_1, .int .i64 a0_2, .int .i64 a0_3] 37)).alloc (.cells #[.int .i64 0, .int .i64 0, .int .i64 0, .int .i64 0, .int .i64 0] 40))) := Aside0.mk (((Below.refl _ w).alloc (Nat.le_refl _) _).alloc (by simp) _); have DA : Aside0 (((w.alloc (.cells #[.string a0_0, .slice A0_1 l0_1.length c0_1, .int .i64 a0_2, .int .i64 a0_3] 37)).alloc (.cells #[.int .i64 0, .int .i64 0, .int .i64 0, .int .i64 0, .int .i64 0] 40)).heap[w.heap.size]? = some (.cells #[.string a0_0, .slice A0_1 l0_1.length c0_1, .int .i64 a0_2, .int .i64 a0_3] 37 (0, 0))) := Aside0.mk (blk_alloc (blk_new w _) _); have DRR : Aside0 (((w.alloc (.cells #[.string a0_0, .slice A0_1 l0_1.length c0_1, .int .i64 a0_2, .int .i64 a0_3] 37)).alloc (.cells #[.int .i64 0, .int .i64 0, .int .i64 0, .int .i64 0, .int .i64 0] 40)).heap[w.heap.size + 1]? = some (.cells #[.int .i64 0, .int .i64 0, .int .i64 0, .int .i64 0, .int .i64 0] 40 (0, 0))) := Aside0.mk (by simpa using blk_new (w.alloc (.cells #[.string a0_0, .slice A0_1 l0_1.length c0_1, .int .i64 a0_2, .int .i64 a0_3] 37)) (.cells #[.int .i64 0, .int .i64 0, .int .i64 0, .int .i64 0, .int .i64 0] 40)); obtain ⟨t1, h1, h⟩ := Option.bind_eq_some_iff.mp h; have H1 := Aside0.mk h1; have HH := Aside0.mk h; clear hr0_1 hc0_1 h1 h; go_enter Try.func15, Try.ntmps15
 go_wp2_with fail
 refine (impl_isClause.calls k a0_0 A0_1 c0_1 l0_1 a0_2 a0_3 t1 _ (Kd.C_below HR.out B3.out) HC.out H1.out).mono ?_; rintro e w4 ⟨rfl, hb⟩; generalize ((w.alloc (.cells #[.string a0_0, .slice A0_1 l0_1.length c0_1, .int .i64 a0_2, .int .i64 a0_3] 37)).alloc (.cells #[.int .i64 0, .int .i64 0, .int .i64 0, .int .i64 0, .int .i64 0] 40)) = w3 at *; replace DA := Aside0.mk (blk_below DA.out hb); replace DRR := Aside0.mk (blk_below DRR.out hb); replace B3 := Aside0.mk (B3.out.trans (hb.mono B3.out.size)); clear hb H1
 cases t1
 ·have hq := (Option.some.inj (show some ((0 : Int), (0 : Int), (0 : Int), (0 : Int), (0 : Int), (1 : Int), ([] : List Int)) = some (r1, r2, r3, r4, r5, r6, r7) from HH.out)).symm; simp only [Prod.mk.injEq] at hq; obtain ⟨rfl, rfl, rfl, rfl, rfl, rfl, rfl⟩ := hq; have zf0 := blk_frozen DRR.out 0; have z0 := (blk_cell DRR.out 0).trans rfl; have zf1 := blk_frozen DRR.out 1; have z1 := (blk_cell DRR.out 1).trans rfl; have zf2 := blk_frozen DRR.out 2; have z2 := (blk_cell DRR.out 2).trans rfl; have zf3 := blk_frozen DRR.out 3; have z3 := (blk_cell DRR.out 3).trans rfl; have zf4 := blk_frozen DRR.out 4; have z4 := (blk_cell DRR.out 4).trans rfl; go_wp2; refine bodyPost_ret (results_ctt rfl _ _ (w.heap.size + 1) 40 #[.int .i64 0, .int .i64 0, .int .i64 0, .int .i64 0, .int .i64 0] (0, 0) _ rfl (by simpa using blk_set (blk_set (blk_set (blk_set (blk_set (DRR.out) 0 (.int .i64 0)) 1 (.int .i64 0)) 2 (.int .i64 0)) 3 (.int .i64 0)) 4 (.int .i64 0)) Try.underlying40 rfl (by kernel_rfl)) rfl ?_; refine ⟨_, rfl, ?_, ?_⟩
  ·exact Kd.R_nil _ _ _ _ _
  ·repeat (refine below_set ?_ (by omega))
   exact B3.out
 have hk : (if ((l0_1.all fun t => decide (1 ≤ t.f0 ∧ t.f0 ≤ 5)) = true ∧ l0_1.length ≤ 8) then (if impl_isEmpty.f (impl_narrowed.go impl_bounds.all l0_1) = true then some ((0 : Int), (0 : Int), (0 : Int), (0 : Int), (0 : Int), (8 : Int), impl_conflict.all l0_1) else some ((impl_narrowed.go impl_bounds.all l0_1) 2, (impl_narrowed.go impl_bounds.all l0_1) 4, (impl_narrowed.go impl_bounds.all l0_1) 6, (impl_narrowed.go impl_bounds.all l0_1) 8, (impl_narrowed.go impl_bounds.all l0_1) 10, 0, [])) else none) = some (r1, r2, r3, r4, r5, r6, r7) := HH.out; clear HH; by_cases ha : ((l0_1.all fun t => decide (1 ≤ t.f0 ∧ t.f0 ≤ 5)) = true ∧ l0_1.length ≤ 8); rotate_left
 ·rw [if_neg ha] at hk; cases hk
 rw [if_pos ha] at hk; have HT := Aside0.mk (fun t hm => of_decide_eq_true (List.all_eq_true.1 ha.1 t hm) : ∀ t ∈ l0_1, 1 ≤ t.f0 ∧ t.f0 ≤ 5); have H8 := Aside0.mk ha.2; have HK := Aside0.mk hk; clear hk ha; have ya0 := (blk_cell DA.out 0).trans rfl; have ya1 := (blk_cell DA.out 1).trans rfl; have ya2 := (blk_cell DA.out 2).trans rfl; have ya3 := (blk_cell DA.out 3).trans rfl
 go_wp2_with fail
 clear ya0 ya1 ya2 ya3; refine (impl_bounds.calls a0_0 A0_1 c0_1 l0_1 a0_2 a0_3 _ (Kd.C_below HR.out B3.out) HC.out HT.out).mono ?_; rintro e w5 ⟨rfl, hb5⟩; have B5 := Aside0.mk (B3.out.trans (hb5.mono B3.out.size)); replace DA := Aside0.mk (blk_below DA.out hb5); replace DRR := Aside0.mk (blk_below DRR.out hb5); clear hb5 B3
 go_wp2_with fail
 refine (impl_isEmpty.calls (impl_narrowed.go impl_bounds.all l0_1) _).mono ?_; rintro e w6 ⟨rfl, hb6⟩; have B6 := Aside0.mk (B5.out.trans (hb6.mono B5.out.size)); replace DA := Aside0.mk (blk_below DA.out hb6); replace DRR := Aside0.mk (blk_below DRR.out hb6); clear hb6 B5
 cases hE : impl_isEmpty.f (impl_narrowed.go impl_bounds.all l0_1)
 ·have hl := HK.out; rw [hE, if_neg (by decide)] at hl; clear HK; have hq := (Option.some.inj (hl)).symm; simp only [Prod.mk.injEq] at hq; obtain ⟨rfl, rfl, rfl, rfl, rfl, rfl, rfl⟩ := hq; have DA' := Aside0.mk DA.out; have ya0 := (blk_cell DA.out 0).trans rfl; have ya1 := (blk_cell DA.out 1).trans rfl; have ya2 := (blk_cell DA.out 2).trans rfl; have ya3 := (blk_cell DA.out 3).trans rfl
  go_wp2_with fail
  clear ya0 ya1 ya2 ya3; refine (impl_bounds.calls a0_0 A0_1 c0_1 l0_1 a0_2 a0_3 _ (Kd.C_below HR.out B6.out) HC.out HT.out).mono ?_; rintro e w7 ⟨rfl, hb7⟩; have B7 := Aside0.mk (B6.out.trans (hb7.mono B6.out.size)); replace DRR := Aside0.mk (blk_below DRR.out hb7); clear hb7 B6
  go_wp2_with fail
  refine (impl_least.calls (impl_narrowed.go impl_bounds.all l0_1) _).mono ?_; rintro e w8 ⟨rfl, hb8⟩; have B8 := Aside0.mk (B7.out.trans (hb8.mono B7.out.size)); replace DRR := Aside0.mk (blk_below DRR.out hb8); clear hb8 B7; have zf0 := blk_frozen DRR.out 0; have z0 := (blk_cell DRR.out 0).trans rfl; have zf1 := blk_frozen DRR.out 1; have z1 := (blk_cell DRR.out 1).trans rfl; have zf2 := blk_frozen DRR.out 2; have z2 := (blk_cell DRR.out 2).trans rfl; have zf3 := blk_frozen DRR.out 3; have z3 := (blk_cell DRR.out 3).trans rfl; have zf4 := blk_frozen DRR.out 4; have z4 := (blk_cell DRR.out 4).trans rfl; go_wp2; refine bodyPost_ret (results_ctt rfl _ _ (w.heap.size + 1) 40 #[.int .i64 ((impl_narrowed.go impl_bounds.all l0_1) 2), .int .i64 ((impl_narrowed.go impl_bounds.all l0_1) 4), .int .i64 ((impl_narrowed.go impl_bounds.all l0_1) 6), .int .i64 ((impl_narrowed.go impl_bounds.all l0_1) 8), .int .i64 ((impl_narrowed.go impl_bounds.all l0_1) 10)] (0, 0) _ rfl (by simpa using blk_set (blk_set (blk_set (blk_set (blk_set (DRR.out) 0 (.int .i64 ((impl_narrowed.go impl_bounds.all l0_1) 2))) 1 (.int .i64 ((impl_narrowed.go impl_bounds.all l0_1) 4))) 2 (.int .i64 ((impl_narrowed.go impl_bounds.all l0_1) 6))) 3 (.int .i64 ((impl_narrowed.go impl_bounds.all l0_1) 8))) 4 (.int .i64 ((impl_narrowed.go impl_bounds.all l0_1) 10))) Try.underlying40 rfl (by kernel_rfl)) rfl ?_; refine ⟨_, rfl, ?_, ?_⟩
  ·exact Kd.R_nil _ _ _ _ _
  ·repeat (refine below_set ?_ (by omega))
   exact B8.out
 ·have hl := HK.out; rw [hE, if_pos rfl] at hl; clear HK; have hq := (Option.some.inj (hl)).symm; simp only [Prod.mk.injEq] at hq; obtain ⟨rfl, rfl, rfl, rfl, rfl, rfl, rfl⟩ := hq; have ya0 := (blk_cell DA.out 0).trans rfl; have ya1 := (blk_cell DA.out 1).trans rfl; have ya2 := (blk_cell DA.out 2).trans rfl; have ya3 := (blk_cell DA.out 3).trans rfl
  go_wp2_with fail
  clear ya0 ya1 ya2 ya3; refine (impl_conflict.calls A0_1 c0_1 l0_1 _ (Kd.C_below HR.out B6.out) HC.out HT.out H8.out).mono ?_; rintro e w7 ⟨v7, rfl, hR7, hb7⟩; have B7 := Aside0.mk (B6.out.trans (hb7.mono B6.out.size)); have R7 := Aside0.mk (Kd.R_lower hR7 B6.out.size); have hlt : w.heap.size + 1 < w6.heap.size := blk_lt DRR.out; have R8 := Aside0.mk (Kd.R_mono (Kd.R_bound hR7) (fun k hk => (⟨trivial, by have := hk.2.1; omega⟩ : True ∧ k ≠ w.heap.size + 1))); replace DRR := Aside0.mk (blk_below DRR.out hb7); clear hb7 hR7; have zf0 := blk_frozen DRR.out 0; have z0 := (blk_cell DRR.out 0).trans rfl; have zf1 := blk_frozen DRR.out 1; have z1 := (blk_cell DRR.out 1).trans rfl; have zf2 := blk_frozen DRR.out 2; have z2 := (blk_cell DRR.out 2).trans rfl; have zf3 := blk_frozen DRR.out 3; have z3 := (blk_cell DRR.out 3).trans rfl; have zf4 := blk_frozen DRR.out 4; have z4 := (blk_cell DRR.out 4).trans rfl; go_wp2; refine bodyPost_ret (results_ctt rfl _ _ (w.heap.size + 1) 40 #[.int .i64 0, .int .i64 0, .int .i64 0, .int .i64 0, .int .i64 0] (0, 0) _ rfl (by simpa using blk_set (blk_set (blk_set (blk_set (blk_set (DRR.out) 0 (.int .i64 0)) 1 (.int .i64 0)) 2 (.int .i64 0)) 3 (.int .i64 0)) 4 (.int .i64 0)) Try.underlying40 rfl (by kernel_rfl)) rfl ?_; refine ⟨_, rfl, ?_, ?_⟩
  ·exact Kd.R_mono (Kd.R_lower (Kd.R_far (p := ⟨w.heap.size + 1, 4, none⟩) (Kd.R_far (p := ⟨w.heap.size + 1, 3, none⟩) (Kd.R_far (p := ⟨w.heap.size + 1, 2, none⟩) (Kd.R_far (p := ⟨w.heap.size + 1, 1, none⟩) (Kd.R_far (p := ⟨w.heap.size + 1, 0, none⟩) R8.out (fun _ hk => hk.2) _) (fun _ hk => hk.2) _) (fun _ hk => hk.2) _) (fun _ hk => hk.2) _) (fun _ hk => hk.2) _) B6.out.size) (fun _ _ => trivial)
  ·repeat (refine below_set ?_ (by omega))
   exact B7.out

/-! ### impl_Facts_numbers: function 65 -/
def impl_Facts_numbers.f (a0_0 : Int) (a0_1 : Int) (a0_2 : Int) (a0_3 : Int) (a0_4 : Int) : Option (List Int) := some (([0, a0_0, a0_1, a0_2, a0_3, a0_4] : List Int))
set_option maxHeartbeats 8000000 in
set_option maxRecDepth 100000 in
theorem impl_Facts_numbers.calls (a0_0 : Int) (a0_1 : Int) (a0_2 : Int) (a0_3 : Int) (a0_4 : Int) (r : List Int) (w : World) (h : impl_Facts_numbers.f a0_0 a0_1 a0_2 a0_3 a0_4 = some r) :
  Calls Try.prog 65 #[.agg #[.int .i64 a0_0, .int .i64 a0_1, .int .i64 a0_2, .int .i64 a0_3, .int .i64 a0_4]] w fun e w' => ∃ v0_ : Value, e = .returned (v0_) ∧ Kd.R (Kd.int .i64) 3 w' w.heap.size (fun _ => True) v0_ r ∧ Below w.heap.size w w' := by
 have hu40 := Try.underlying40; have HB := Aside0.mk (Below.refl w.heap.size w); have H : (some (([0, a0_0, a0_1, a0_2, a0_3, a0_4] : List Int))) = some r := h; clear h; obtain ⟨y373, hy373⟩ : ∃ y_ : List Int, y_ = (([0, a0_0, a0_1, a0_2, a0_3, a0_4] : List Int)) := ⟨_, rfl⟩
 replace H : (some y373) = some r := by first | (rw [hy373]; with_reducible exact H) | (have H2_ := (Option.bind_some _ _).symm.trans H; rw [hy373]; with_reducible exact H2_) | (have H2_ := (Option.bind_some _ _).symm.trans H; with_reducible exact H2_) | with_reducible exact H | (rw [hy373]; exact H) | exact H
 have Ny373 := Aside0.mk hy373; clear hy373; obtain rfl := Option.some.inj H; go_enter Try.func65, Try.ntmps65
 go_wp2_with (first | ((with_reducible refine gate_dst (N := 1) rfl ?_); refine box_event ?hg (N := 1) ?hd (cs := #[.int .i64 a0_0, .int .i64 a0_1, .int .i64 a0_2, .int .i64 a0_3, .int .i64 a0_4]) (t := 40) ?hr ?_; (case hd => rfl); (case hg => rfl); (case hr => first | (go_simp; done) | (go_simp; rfl)); intro gb372 hg w2 hbox hb; have n0_ := Aside0.mk (below_step (qb HB) hb); have n1_ := Aside0.mk (hbox); have n2_ := Aside0.mk ((by rw [hg]; exact (below_size (qb HB)) : w.heap.size ≤ gb372)); have n3_ := Aside0.mk ((by rw [hg]; exact (below_size (qb HB)) : w.heap.size ≤ gb372)); clear HB; have HB := n0_; have BK372 := n1_; have GW372 := n2_; have GE372 := n3_; clear n0_ n1_ n2_ n3_; clear hb hbox hg; obtain ⟨hcz3_0, hcz3_1, hcz3_2, hcz3_3, hcz3_4, hfz3_0, hfz3_1, hfz3_2, hfz3_3, hfz3_4⟩ := bz5 BK372) | ((with_reducible refine gate_dst (N := 13) rfl ?_); refine Kd.R_lit (Kd.int .i64) _ 3 ?hg (N := 13) ?hd (xs := ([0, a0_0, a0_1, a0_2, a0_3, a0_4] : List Int)) (inner := [.int .i64 0, .int .i64 a0_0, .int .i64 a0_1, .int .i64 a0_2, .int .i64 a0_3, .int .i64 a0_4]) (ok := fun _ => True) (okp := fun _ => True) ?hr ?hp (fun _ hk => hk) trivial (Below.refl _ _) (Nat.le_refl _) (by simp) ?_; (case hd => rfl); (case hg => rfl); (case hr => first | (go_simp; done) | (go_simp; rfl)); (case hp => exact (Reps.one (show Kd.M (Kd.int .i64) _ _ _ 0 [.int .i64 0] from rfl) (Reps.one (show Kd.M (Kd.int .i64) _ _ _ a0_0 [.int .i64 a0_0] from rfl) (Reps.one (show Kd.M (Kd.int .i64) _ _ _ a0_1 [.int .i64 a0_1] from rfl) (Reps.one (show Kd.M (Kd.int .i64) _ _ _ a0_2 [.int .i64 a0_2] from rfl) (Reps.one (show Kd.M (Kd.int .i64) _ _ _ a0_3 [.int .i64 a0_3] from rfl) (Reps.one (show Kd.M (Kd.int .i64) _ _ _ a0_4 [.int .i64 a0_4] from rfl) (Reps.none _ _)))))))); intro v374 w4 ho5 hb hg_ hnew_; clear hg_ hnew_; (first | rw [← Ny373.out] at ho5 | (simp only [Int.reduceToNat] at ho5; rw [← Ny373.out] at ho5)); have n0_ := Aside0.mk (Kd.R_lower ho5 (below_size (qb HB))); have n1_ := Aside0.mk (blk_below (bq BK372) hb); have n2_ := Aside0.mk (below_step (qb HB) hb); clear BK372; clear HB; have HO375 := n0_; have BK372 := n1_; have HB := n2_; clear n0_ n1_ n2_; clear hb ho5))
 go_ret; exact ⟨_, by first | rfl | (simp [errW_none, errW_some] <;> rfl) | (simp [*, errW_none, errW_some] <;> rfl), by (with_reducible repeat (first | apply Kd.R_alloc | apply Kd.R_drewN | apply Kd.R_drew)); exact HO375.out, qb HB⟩

end Go.Proofs.Ytbmpkggjcnmieaa.PAll
