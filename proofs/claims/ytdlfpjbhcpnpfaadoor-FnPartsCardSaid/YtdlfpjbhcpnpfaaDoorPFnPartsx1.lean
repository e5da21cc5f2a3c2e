-- Written by wip/tools/hp.py over the kit's print (not by hand): functions and walks of FnParts.
import Derived.Test.YtdlfpjbhcpnpfaaDoorPFnPartsx0
namespace Go.Proofs.YtdlfpjbhcpnpfaaDoor.PFnParts
open Go.RowKit Go.Proofs.YtdlfpjbhcpnpfaaDoorW.PrintWords Go.Proofs.YtdlfpjbhcpnpfaaDoorW.PrintLast Go.Proofs.YtdlfpjbhcpnpfaaDoorW.PrintMore
attribute [local go_sem] max2_int min2_int max_two min_two max_three min_three max_four min_four   -- for this text's walks alone
set_option linter.unusedVariables false
set_option linter.unusedSimpArgs false

/-! ### impl_within: function 33 -/
def impl_within.f (a0 : Int) (a1 : Int) (a2 : Int) : Option (Bool) := if a0 ≥ a1 then (some (decide (a0 ≤ a2))) else (some false)
set_option maxHeartbeats 8000000 in
set_option maxRecDepth 100000 in
theorem impl_within.calls (a0 : Int) (a1 : Int) (a2 : Int) (r : Bool) (w : World) (h : impl_within.f a0 a1 a2 = some r) :
  Calls Tryd.prog 33 #[.int .i64 a0, .int .i64 a1, .int .i64 a2] w fun e w' => e = .returned (.bool r) ∧ Drawn0 w w' := by
 have H : (if a0 ≥ a1 then (some (decide (a0 ≤ a2))) else (some false)) = some r := h; clear h; by_cases c4 : a0 ≥ a1
 ·rw [if_pos c4] at H; have c4b0 : decide (a1 ≤ a0) = true := decide_eq_true c4; clear c4; obtain rfl := Option.some.inj H; go_enter Tryd.func33, Tryd.ntmps33; go_wp2; go_ret; exact ⟨by first | rfl | (simp; done) | (simp [*]; done), by repeat (first | exact Drawn0.refl _ | apply Drawn0.step)⟩
 ·rw [if_neg c4] at H; have c4b0 : decide (a1 ≤ a0) = false := decide_eq_false c4; clear c4; obtain rfl := Option.some.inj H; go_enter Tryd.func33, Tryd.ntmps33; go_wp2; go_ret; exact ⟨by first | rfl | (simp; done) | (simp [*]; done), by repeat (first | exact Drawn0.refl _ | apply Drawn0.step)⟩

/-! ### impl_isMoney: function 28 -/
def impl_isMoney.f (a0 : Int) : Option (Bool) := (impl_within.f a0 (-1000000000) 1000000000).bind fun t101 => (some t101)
set_option maxHeartbeats 8000000 in
set_option maxRecDepth 100000 in
theorem impl_isMoney.calls (a0 : Int) (r : Bool) (w : World) (h : impl_isMoney.f a0 = some r) :
  Calls Tryd.prog 28 #[.int .i64 a0] w fun e w' => e = .returned (.bool r) ∧ Drawn0 w w' := by
 have H : ((impl_within.f a0 (-1000000000) 1000000000).bind fun t101 => (some t101)) = some r := h; clear h; replace H := Option.bind_eq_some_iff.mp H; obtain ⟨t101, A20, H⟩ := H; replace H : (some t101) = some r := H; have A2 := Aside0.mk A20; clear A20; obtain rfl := Option.some.inj H; go_enter Tryd.func28, Tryd.ntmps28
 go_wp2_with (first | ((with_reducible refine gate_callee (f := 33) rfl ?_); refine goesL_ (some 4) rfl rfl Tryd.func33 (by kernel_rfl) rfl #[.int .i64 a0, .int .i64 (-1000000000), .int .i64 1000000000] rfl mq ?_; (with_reducible refine (impl_within.calls a0 (-1000000000) 1000000000 t101 _ A2.out).mono ?_); rintro e w' ⟨rfl, ⟨nd, rfl⟩⟩; refine ⟨_, rfl, ?_⟩))
 go_ret; exact ⟨by first | rfl | (simp; done) | (simp [*]; done), by repeat (first | exact Drawn0.refl _ | apply Drawn0.step)⟩

/-! ### strconv_Itoa: function 39, by hand, off the shelf -/
/-- The library's table of powers of ten lies as its text lays it. -/
def Tabs (w : World) : Prop := Lib.TabIs Tryd.prog w "internal/strconv.uint64pow10" .u64 Lib.pow10Tab ∧ ∃ m : Int, w.cell? ⟨0, 0, none⟩ = some (.int .i64 m)
theorem Tabs.below {w w' : World} (h : Tabs w) (hb : Below w.heap.size w w') : Tabs w' := by
 refine ⟨?_, by first | trivial | (obtain ⟨m, hm⟩ := h.2; exact ⟨m, (hb.cell (World.block_lt_of_cell? w _ hm)).trans hm⟩)⟩; replace h := h.1; unfold Lib.TabIs World.var? at h ⊢
 cases e : Tryd.prog.globalNamed "internal/strconv.uint64pow10" with
 | none => rw [e] at h; cases h
 | some g =>
  rw [e] at h; simp only [Option.bind_some] at h ⊢
  have hg : g < w.heap.size := by
   rcases Nat.lt_or_ge g w.heap.size with q | q
   ·exact q
   ·rw [Array.getElem?_eq_none q] at h; cases h
  rw [hb.block g hg]; exact h
theorem tabs {w : World} (k : Tabs w := by first | exact Aside0.out (by with_reducible assumption) | exact Tabs.below (Aside0.out (by with_reducible assumption)) (by repeat (first | (with_reducible first | exact Aside0.out (by with_reducible assumption) | exact Below.refl _ _ | apply below_alloc | apply pw_below_drewN | apply below_drew1 | refine below_set ?_ (Aside0.out (by with_reducible assumption))) | exact Aside0.out (by assumption)))) : Tabs w := k
theorem below_grow (w : World) (k : Nat) (os : Array Obj) : Below w.heap.size w (Go.Sort.grow (w.drewN k) os) :=
 ⟨rfl, rfl, rfl, by show w.heap.size ≤ (w.heap ++ os).size; rw [Array.size_append]; omega, fun i hi => by show (w.heap ++ os)[i]? = w.heap[i]?; rw [Array.getElem?_append_left hi]⟩
def strconv_Itoa.f (a0 : Int) : Option ByteArray := if -9223372036854775808 ≤ a0 ∧ a0 ≤ 9223372036854775807 then some ⟨(Lib.itoa a0).toArray⟩ else none
theorem strconv_Itoa.calls (a0 : Int) (r : ByteArray) (w : World) (h : strconv_Itoa.f a0 = some r) (ht_ : Tabs w := by exact tabs) :
  Calls Tryd.prog 39 #[.int .i64 a0] w fun e w' => e = .returned (.string r) ∧ Below w.heap.size w w' := by
 unfold strconv_Itoa.f at h; by_cases hr : -9223372036854775808 ≤ a0 ∧ a0 ≤ 9223372036854775807
 ·rw [if_pos hr] at h; obtain rfl := Option.some.inj h; refine (Tryd.strconv_Itoa a0 hr.1 hr.2 w ht_.1).mono ?_; rintro e w' ⟨rfl, k, os, rfl⟩; exact ⟨rfl, below_grow w k os⟩
 ·rw [if_neg hr] at h; cases h

/-! ### impl_sizeOf: function 54 -/
def impl_sizeOf.f (a0 : Int) : Option (Int) := some (mx a0 (wrap64 (-a0)))
set_option maxHeartbeats 8000000 in
set_option maxRecDepth 100000 in
theorem impl_sizeOf.calls (a0 : Int) (r : Int) (w : World) (h : impl_sizeOf.f a0 = some r) :
  Calls Tryd.prog 54 #[.int .i64 a0] w fun e w' => e = .returned (.int .i64 r) ∧ Below w.heap.size w w' := by
 have HB := Aside0.mk (Below.refl w.heap.size w); have H : (some (mx a0 (wrap64 (-a0)))) = some r := h; clear h; obtain ⟨ji2, hji2⟩ : ∃ j_ : Int, (mx a0 (wrap64 (-a0))) = j_ := ⟨_, rfl⟩
 replace H : (some ji2) = some r := by first | (rw [hji2] at H; exact H) | (simp only [hji2] at H ⊢; exact H)
 have hji2_ : (if a0 < (wrap64 (-a0)) then (wrap64 (-a0)) else a0) = ji2 := hji2; obtain rfl := Option.some.inj H; go_enter Tryd.func54, Tryd.ntmps54; go_wp2; go_ret; exact ⟨by first | rfl | (simp [errW_none, errW_some] <;> rfl) | (simp only [← hji2]; first | rfl | (simp [errW_none, errW_some] <;> rfl)) | (simp [*, errW_none, errW_some] <;> rfl), qb HB⟩

/-! ### impl_moneyText: function 29 -/
def impl_moneyText.f (a0 : Int) : Option (ByteArray) := (impl_sizeOf.f a0).bind fun t102 => (if a0 < 0 then ((strconv_Itoa.f (wrap64 (100 + (Int.tmod t102 100)))).bind fun t103 => ((strconv_Itoa.f (wrap64 (Int.tdiv t102 100))).bind fun t104 => (if 1 + t104.size ≤ 9223372036854775807 then (if ((⟨#[45]⟩ : ByteArray) ++ t104).size + 1 ≤ 9223372036854775807 then (if 1 ≤ (t103.size : Int) then (if (((⟨#[45]⟩ : ByteArray) ++ t104) ++ (⟨#[46]⟩ : ByteArray)).size + (t103.extract 1 t103.size).size ≤ 9223372036854775807 then (some ((((⟨#[45]⟩ : ByteArray) ++ t104) ++ (⟨#[46]⟩ : ByteArray)) ++ (t103.extract 1 t103.size))) else (none)) else (none)) else (none)) else (none)))) else ((strconv_Itoa.f (wrap64 (100 + (Int.tmod t102 100)))).bind fun t105 => ((strconv_Itoa.f (wrap64 (Int.tdiv t102 100))).bind fun t106 => (if 0 + t106.size ≤ 9223372036854775807 then (if ((⟨#[]⟩ : ByteArray) ++ t106).size + 1 ≤ 9223372036854775807 then (if 1 ≤ (t105.size : Int) then (if (((⟨#[]⟩ : ByteArray) ++ t106) ++ (⟨#[46]⟩ : ByteArray)).size + (t105.extract 1 t105.size).size ≤ 9223372036854775807 then (some ((((⟨#[]⟩ : ByteArray) ++ t106) ++ (⟨#[46]⟩ : ByteArray)) ++ (t105.extract 1 t105.size))) else (none)) else (none)) else (none)) else (none)))))
def impl_moneyText.T5 : Bool × List (List Nat × List Nat) := (true, [([], []), ([], []), ([1], [1]), ([2], [2]), ([0, 3], [0, 3]), ([4], [4]), ([], []), ([6], [6]), ([5, 7], [5, 7]), ([8, 3, 0, 1, 2, 3, 4, 5, 6, 7, 8], [8])])
def impl_moneyText.B5 : List Nat := [0, 0, 2, 6, 15, 31, 0, 64, 255, 511]
theorem impl_moneyText.tab5 : rtab .any (opsOf Tryd.f29 5) = impl_moneyText.T5 := by kernel_rfl
theorem impl_moneyText.bits5 : waitsOk impl_moneyText.T5.2 impl_moneyText.B5 = true := by kernel_rfl
set_option maxHeartbeats 8000000 in
set_option maxRecDepth 100000 in
theorem impl_moneyText.calls (a0 : Int) (r : ByteArray) (w : World) (h : impl_moneyText.f a0 = some r) (ht_ : Tabs w := by exact tabs) :
  Calls Tryd.prog 29 #[.int .i64 a0] w fun e w' => e = .returned (.string r) ∧ Below w.heap.size w w' := by
 have HT0_ := Aside0.mk ht_; clear ht_; have HB := Aside0.mk (Below.refl w.heap.size w); have H : ((impl_sizeOf.f a0).bind fun t102 => (if a0 < 0 then ((strconv_Itoa.f (wrap64 (100 + (Int.tmod t102 100)))).bind fun t103 => ((strconv_Itoa.f (wrap64 (Int.tdiv t102 100))).bind fun t104 => (if 1 + t104.size ≤ 9223372036854775807 then (if ((⟨#[45]⟩ : ByteArray) ++ t104).size + 1 ≤ 9223372036854775807 then (if 1 ≤ (t103.size : Int) then (if (((⟨#[45]⟩ : ByteArray) ++ t104) ++ (⟨#[46]⟩ : ByteArray)).size + (t103.extract 1 t103.size).size ≤ 9223372036854775807 then (some ((((⟨#[45]⟩ : ByteArray) ++ t104) ++ (⟨#[46]⟩ : ByteArray)) ++ (t103.extract 1 t103.size))) else (none)) else (none)) else (none)) else (none)))) else ((strconv_Itoa.f (wrap64 (100 + (Int.tmod t102 100)))).bind fun t105 => ((strconv_Itoa.f (wrap64 (Int.tdiv t102 100))).bind fun t106 => (if 0 + t106.size ≤ 9223372036854775807 then (if ((⟨#[]⟩ : ByteArray) ++ t106).size + 1 ≤ 9223372036854775807 then (if 1 ≤ (t105.size : Int) then (if (((⟨#[]⟩ : ByteArray) ++ t106) ++ (⟨#[46]⟩ : ByteArray)).size + (t105.extract 1 t105.size).size ≤ 9223372036854775807 then (some ((((⟨#[]⟩ : ByteArray) ++ t106) ++ (⟨#[46]⟩ : ByteArray)) ++ (t105.extract 1 t105.size))) else (none)) else (none)) else (none)) else (none)))))) = some r := h; clear h; replace H := Option.bind_eq_some_iff.mp H; obtain ⟨t102, A20, H⟩ := H; replace H : (if a0 < 0 then ((strconv_Itoa.f (wrap64 (100 + (Int.tmod t102 100)))).bind fun t103 => ((strconv_Itoa.f (wrap64 (Int.tdiv t102 100))).bind fun t104 => (if 1 + t104.size ≤ 9223372036854775807 then (if ((⟨#[45]⟩ : ByteArray) ++ t104).size + 1 ≤ 9223372036854775807 then (if 1 ≤ (t103.size : Int) then (if (((⟨#[45]⟩ : ByteArray) ++ t104) ++ (⟨#[46]⟩ : ByteArray)).size + (t103.extract 1 t103.size).size ≤ 9223372036854775807 then (some ((((⟨#[45]⟩ : ByteArray) ++ t104) ++ (⟨#[46]⟩ : ByteArray)) ++ (t103.extract 1 t103.size))) else (none)) else (none)) else (none)) else (none)))) else ((strconv_Itoa.f (wrap64 (100 + (Int.tmod t102 100)))).bind fun t105 => ((strconv_Itoa.f (wrap64 (Int.tdiv t102 100))).bind fun t106 => (if 0 + t106.size ≤ 9223372036854775807 then (if ((⟨#[]⟩ : ByteArray) ++ t106).size + 1 ≤ 9223372036854775807 then (if 1 ≤ (t105.size : Int) then (if (((⟨#[]⟩ : ByteArray) ++ t106) ++ (⟨#[46]⟩ : ByteArray)).size + (t105.extract 1 t105.size).size ≤ 9223372036854775807 then (some ((((⟨#[]⟩ : ByteArray) ++ t106) ++ (⟨#[46]⟩ : ByteArray)) ++ (t105.extract 1 t105.size))) else (none)) else (none)) else (none)) else (none))))) = some r := H; have A2 := Aside0.mk A20; clear A20; by_cases c3 : a0 < 0
 ·rw [if_pos c3] at H; have c3b0 : decide (a0 < 0) = true := decide_eq_true c3; clear c3; replace H := Option.bind_eq_some_iff.mp H; obtain ⟨t103, A40, H⟩ := H; replace H : ((strconv_Itoa.f (wrap64 (Int.tdiv t102 100))).bind fun t104 => (if 1 + t104.size ≤ 9223372036854775807 then (if ((⟨#[45]⟩ : ByteArray) ++ t104).size + 1 ≤ 9223372036854775807 then (if 1 ≤ (t103.size : Int) then (if (((⟨#[45]⟩ : ByteArray) ++ t104) ++ (⟨#[46]⟩ : ByteArray)).size + (t103.extract 1 t103.size).size ≤ 9223372036854775807 then (some ((((⟨#[45]⟩ : ByteArray) ++ t104) ++ (⟨#[46]⟩ : ByteArray)) ++ (t103.extract 1 t103.size))) else (none)) else (none)) else (none)) else (none))) = some r := H; have A4 := Aside0.mk A40; clear A40; replace H := Option.bind_eq_some_iff.mp H; obtain ⟨t104, A50, H⟩ := H; replace H : (if 1 + t104.size ≤ 9223372036854775807 then (if ((⟨#[45]⟩ : ByteArray) ++ t104).size + 1 ≤ 9223372036854775807 then (if 1 ≤ (t103.size : Int) then (if (((⟨#[45]⟩ : ByteArray) ++ t104) ++ (⟨#[46]⟩ : ByteArray)).size + (t103.extract 1 t103.size).size ≤ 9223372036854775807 then (some ((((⟨#[45]⟩ : ByteArray) ++ t104) ++ (⟨#[46]⟩ : ByteArray)) ++ (t103.extract 1 t103.size))) else (none)) else (none)) else (none)) else (none)) = some r := H; have A5 := Aside0.mk A50; clear A50; by_cases c6 : 1 + t104.size ≤ 9223372036854775807
  ·rw [if_pos c6] at H; have c6b0 := eq_true c6; have c6b1 : decide (1 + t104.size ≤ 9223372036854775807) = true := decide_eq_true c6
   (try have c6b2 : (9223372036854775807 < 1 + t104.size) = False := eq_false (Nat.not_lt.2 c6))
   by_cases c7 : ((⟨#[45]⟩ : ByteArray) ++ t104).size + 1 ≤ 9223372036854775807
   ·rw [if_pos c7] at H; have c7b0 := eq_true c7; have c7b1 : decide (((⟨#[45]⟩ : ByteArray) ++ t104).size + 1 ≤ 9223372036854775807) = true := decide_eq_true c7
    (try have c7b2 : (9223372036854775807 < ((⟨#[45]⟩ : ByteArray) ++ t104).size + 1) = False := eq_false (Nat.not_lt.2 c7)); (try have c7b3 : (9223372036854775807 < 1 + t104.size + 1) = False := eq_false (by have q_ := Nat.not_lt.2 c7; simp only [ByteArray.size_append, ByteArray.size_extract, Nat.min_self, show (⟨#[]⟩ : ByteArray).size = 0 from rfl, Nat.zero_add] at q_; exact q_))
    by_cases c8 : 1 ≤ (t103.size : Int)
    ·rw [if_pos c8] at H; have c8b0 := eq_true c8; have c8b1 : decide (1 ≤ (t103.size : Int)) = true := decide_eq_true c8; clear c8; by_cases c9 : (((⟨#[45]⟩ : ByteArray) ++ t104) ++ (⟨#[46]⟩ : ByteArray)).size + (t103.extract 1 t103.size).size ≤ 9223372036854775807
     ·rw [if_pos c9] at H; have c9b0 := eq_true c9; have c9b1 : decide ((((⟨#[45]⟩ : ByteArray) ++ t104) ++ (⟨#[46]⟩ : ByteArray)).size + (t103.extract 1 t103.size).size ≤ 9223372036854775807) = true := decide_eq_true c9
      (try have c9b2 : (9223372036854775807 < (((⟨#[45]⟩ : ByteArray) ++ t104) ++ (⟨#[46]⟩ : ByteArray)).size + (t103.extract 1 t103.size).size) = False := eq_false (Nat.not_lt.2 c9)); (try have c9b3 : (9223372036854775807 < 1 + t104.size + 1 + (t103.size - 1)) = False := eq_false (by have q_ := Nat.not_lt.2 c9; simp only [ByteArray.size_append, ByteArray.size_extract, Nat.min_self, show (⟨#[]⟩ : ByteArray).size = 0 from rfl, Nat.zero_add] at q_; exact q_))
      obtain rfl := Option.some.inj H; go_enter Tryd.func29, Tryd.ntmps29
      try go_wp2_with (first | ((with_reducible refine gate_callee (f := 54) rfl ?_); refine goesL_ (some 7) rfl rfl Tryd.func54 (by kernel_rfl) rfl #[.int .i64 a0] rfl mq ?_; (with_reducible refine (impl_sizeOf.calls a0 t102 _ A2.out).mono ?_); rintro e w10 ⟨rfl, hb⟩; refine ⟨_, rfl, ?_⟩; have n0_ := Aside0.mk (below_step (qb HB) hb); clear HB; have HB := n0_; clear n0_; (try clear hb); (try clear hb2); (try clear hk); (try clear hi)) | ((with_reducible refine gate_callee (f := 39) rfl ?_); refine goesL_ (some 13) rfl rfl Tryd.func39 (by kernel_rfl) rfl #[.int .i64 (wrap64 (100 + (Int.tmod t102 100)))] rfl mq ?_; (with_reducible refine (strconv_Itoa.calls (wrap64 (100 + (Int.tmod t102 100))) t103 _ A4.out).mono ?_); rintro e w11 ⟨rfl, hb⟩; refine ⟨_, rfl, ?_⟩; have n0_ := Aside0.mk (below_step (qb HB) hb); clear HB; have HB := n0_; clear n0_; (try clear hb); (try clear hb2); (try clear hk); (try clear hi)))
      have n0_ := Aside0.mk (below_drew1 HB.out); clear HB; have HB := n0_; clear n0_; refine start_ (n := 10) (S := fun w' => True) (ds := []) #[false, false, false, false, false, false, false, false, false, false] (by kernel_rfl) rfl rfl trivial (fun hHeld => ?_); refine with_tabW impl_moneyText.tab5 impl_moneyText.bits5 (fun HT_ HW_ => ?_); generalize w11.drew = w12 at HB hHeld ⊢; refine pure_ (i := 0) (N := some 14) (v := ?_) (a' := ?_) #[true, false, false, false, false, false, false, false, false, false] rfl rfl (any_of HT_.out (by kernel_rfl)) (fun _ _ _ h => h) (Or.inl ⟨by rfl, ?_⟩) ?_ ?_; rotate_left
      ·intro w'; go_simp; (with_reducible rfl)
      rotate_left
      ·simp only [Act.put, sA, s0, sS, i64_w, i32_w]; rfl
      refine pure_ (i := 1) (N := some 15) (v := ?_) (a' := ?_) #[true, true, false, false, false, false, false, false, false, false] rfl rfl (any_of HT_.out (by kernel_rfl)) (fun _ _ _ h => h) (Or.inl ⟨by rfl, ?_⟩) ?_ ?_; rotate_left
      ·intro w'; go_simp; (with_reducible rfl)
      rotate_left
      ·simp only [Act.put, sA, s0, sS, i64_w, i32_w]; rfl
      refine pure_ (i := 2) (N := some 16) (v := ?_) (a' := ?_) #[true, true, true, false, false, false, false, false, false, false] rfl rfl (any_of HT_.out (by kernel_rfl)) (fun _ _ _ h => h) (Or.inl ⟨by rfl, ?_⟩) ?_ ?_; rotate_left
      ·intro w'; go_simp; (with_reducible rfl)
      rotate_left
      ·simp only [Act.put, sA, s0, sS, i64_w, i32_w]; rfl
      refine pure_ (i := 6) (N := some 20) (v := ?_) (a' := ?_) #[true, true, true, false, false, false, true, false, false, false] rfl rfl (any_of HT_.out (by kernel_rfl)) (fun _ _ _ h => h) (Or.inl ⟨by rfl, ?_⟩) ?_ ?_; rotate_left
      ·intro w'; go_simp; (with_reducible rfl)
      rotate_left
      ·simp only [Act.put, sA, s0, sS, i64_w, i32_w]; rfl
      refine pure_ (i := 7) (N := some 21) (v := ?_) (a' := ?_) #[true, true, true, false, false, false, true, true, false, false] rfl rfl (any_of HT_.out (by kernel_rfl)) (fun _ _ _ h => h) (Or.inl ⟨by rfl, ?_⟩) ?_ ?_; rotate_left
      ·intro w'; go_simp; (with_reducible rfl)
      rotate_left
      ·simp only [Act.put, sA, s0, sS, i64_w, i32_w]; rfl
      refine one_ (i := 3) (N := some 17) #[true, true, true, true, false, false, true, true, false, false] rfl rfl (one_of HT_.out (by kernel_rfl)) (by decide) (fun K hK => ?_); refine goes_ Tryd.func39 (by kernel_rfl) rfl #[.int .i64 (wrap64 (Int.tdiv t102 100))] (by rfl) rfl rfl mq ?_; (with_reducible refine (strconv_Itoa.calls (wrap64 (Int.tdiv t102 100)) t104 _ A5.out).mono ?_); rintro e w13 ⟨rfl, hb⟩; refine ⟨_, rfl, ?_⟩; have n0_ := Aside0.mk (below_step (qb HB) hb); clear HB; have HB := n0_; clear n0_; (try clear hb); (try clear hb2); (try clear hk); (try clear hi); refine hK.out _ _ trivial (fun hHeld => ?_); clear hK K; refine norm_ (a' := ?_) ?_ ?_; rotate_left
      ·show Act.put _ (some 17) _ = _; simp only [Act.put, sA, s0, sS, i64_w, i32_w]; rfl
      refine pure_ (i := 4) (N := some 18) (v := ?_) (a' := ?_) #[true, true, true, true, true, false, true, true, false, false] rfl rfl (any_of HT_.out (by kernel_rfl)) (fun _ _ _ h => h) (Or.inl ⟨by rfl, ?_⟩) ?_ ?_; rotate_left
      ·intro w'; go_simp; (with_reducible rfl)
      rotate_left
      ·simp only [Act.put, sA, s0, sS, i64_w, i32_w]; rfl
      refine pure_ (i := 5) (N := some 19) (v := ?_) (a' := ?_) #[true, true, true, true, true, true, true, true, false, false] rfl rfl (any_of HT_.out (by kernel_rfl)) (fun _ _ _ h => h) (Or.inl ⟨by rfl, ?_⟩) ?_ ?_; rotate_left
      ·intro w'; go_simp; (with_reducible rfl)
      rotate_left
      ·simp only [Act.put, sA, s0, sS, i64_w, i32_w]; rfl
      refine pure_ (i := 8) (N := some 22) (v := ?_) (a' := ?_) #[true, true, true, true, true, true, true, true, true, false] rfl rfl (any_of HT_.out (by kernel_rfl)) (fun _ _ _ h => h) (Or.inl ⟨by rfl, ?_⟩) ?_ ?_; rotate_left
      ·intro w'; go_simp; (with_reducible rfl)
      rotate_left
      ·simp only [Act.put, sA, s0, sS, i64_w, i32_w]; rfl
      refine pure_ (i := 9) (N := some 2) (v := ?_) (a' := ?_) #[true, true, true, true, true, true, true, true, true, true] rfl rfl (any_of HT_.out (by kernel_rfl)) (fun _ _ _ h => h) (Or.inl ⟨by rfl, ?_⟩) ?_ ?_; rotate_left
      ·intro w'; go_simp; (with_reducible rfl)
      rotate_left
      ·simp only [Act.put, sA, s0, sS, i64_w, i32_w]; rfl
      refine done_ (done_of HT_.out (by kernel_rfl)) ?_
      try go_wp2
      go_ret; exact ⟨eqq, qb HB⟩
     ·rw [if_neg c9] at H; exact absurd H (by simp)
    ·rw [if_neg c8] at H; exact absurd H (by simp)
   ·rw [if_neg c7] at H; exact absurd H (by simp)
  ·rw [if_neg c6] at H; exact absurd H (by simp)
 ·rw [if_neg c3] at H; have c3b0 : decide (a0 < 0) = false := decide_eq_false c3; clear c3; replace H := Option.bind_eq_some_iff.mp H; obtain ⟨t105, A140, H⟩ := H; replace H : ((strconv_Itoa.f (wrap64 (Int.tdiv t102 100))).bind fun t106 => (if 0 + t106.size ≤ 9223372036854775807 then (if ((⟨#[]⟩ : ByteArray) ++ t106).size + 1 ≤ 9223372036854775807 then (if 1 ≤ (t105.size : Int) then (if (((⟨#[]⟩ : ByteArray) ++ t106) ++ (⟨#[46]⟩ : ByteArray)).size + (t105.extract 1 t105.size).size ≤ 9223372036854775807 then (some ((((⟨#[]⟩ : ByteArray) ++ t106) ++ (⟨#[46]⟩ : ByteArray)) ++ (t105.extract 1 t105.size))) else (none)) else (none)) else (none)) else (none))) = some r := H; have A14 := Aside0.mk A140; clear A140; replace H := Option.bind_eq_some_iff.mp H; obtain ⟨t106, A150, H⟩ := H; replace H : (if 0 + t106.size ≤ 9223372036854775807 then (if ((⟨#[]⟩ : ByteArray) ++ t106).size + 1 ≤ 9223372036854775807 then (if 1 ≤ (t105.size : Int) then (if (((⟨#[]⟩ : ByteArray) ++ t106) ++ (⟨#[46]⟩ : ByteArray)).size + (t105.extract 1 t105.size).size ≤ 9223372036854775807 then (some ((((⟨#[]⟩ : ByteArray) ++ t106) ++ (⟨#[46]⟩ : ByteArray)) ++ (t105.extract 1 t105.size))) else (none)) else (none)) else (none)) else (none)) = some r := H; have A15 := Aside0.mk A150; clear A150; by_cases c16 : 0 + t106.size ≤ 9223372036854775807
  ·rw [if_pos c16] at H; have c16b0 := eq_true c16; have c16b1 : decide (0 + t106.size ≤ 9223372036854775807) = true := decide_eq_true c16
   (try have c16b2 : (9223372036854775807 < 0 + t106.size) = False := eq_false (Nat.not_lt.2 c16)); (try have c16b3 : (9223372036854775807 < t106.size) = False := eq_false (by have q_ := Nat.not_lt.2 c16; simp only [ByteArray.size_append, ByteArray.size_extract, Nat.min_self, show (⟨#[]⟩ : ByteArray).size = 0 from rfl, Nat.zero_add] at q_; exact q_))
   by_cases c17 : ((⟨#[]⟩ : ByteArray) ++ t106).size + 1 ≤ 9223372036854775807
   ·rw [if_pos c17] at H; have c17b0 := eq_true c17; have c17b1 : decide (((⟨#[]⟩ : ByteArray) ++ t106).size + 1 ≤ 9223372036854775807) = true := decide_eq_true c17
    (try have c17b2 : (9223372036854775807 < ((⟨#[]⟩ : ByteArray) ++ t106).size + 1) = False := eq_false (Nat.not_lt.2 c17)); (try have c17b3 : (9223372036854775807 < t106.size + 1) = False := eq_false (by have q_ := Nat.not_lt.2 c17; simp only [ByteArray.size_append, ByteArray.size_extract, Nat.min_self, show (⟨#[]⟩ : ByteArray).size = 0 from rfl, Nat.zero_add] at q_; exact q_))
    by_cases c18 : 1 ≤ (t105.size : Int)
    ·rw [if_pos c18] at H; have c18b0 := eq_true c18; have c18b1 : decide (1 ≤ (t105.size : Int)) = true := decide_eq_true c18; clear c18; by_cases c19 : (((⟨#[]⟩ : ByteArray) ++ t106) ++ (⟨#[46]⟩ : ByteArray)).size + (t105.extract 1 t105.size).size ≤ 9223372036854775807
     ·rw [if_pos c19] at H; have c19b0 := eq_true c19; have c19b1 : decide ((((⟨#[]⟩ : ByteArray) ++ t106) ++ (⟨#[46]⟩ : ByteArray)).size + (t105.extract 1 t105.size).size ≤ 9223372036854775807) = true := decide_eq_true c19
      (try have c19b2 : (9223372036854775807 < (((⟨#[]⟩ : ByteArray) ++ t106) ++ (⟨#[46]⟩ : ByteArray)).size + (t105.extract 1 t105.size).size) = False := eq_false (Nat.not_lt.2 c19)); (try have c19b3 : (9223372036854775807 < t106.size + 1 + (t105.size - 1)) = False := eq_false (by have q_ := Nat.not_lt.2 c19; simp only [ByteArray.size_append, ByteArray.size_extract, Nat.min_self, show (⟨#[]⟩ : ByteArray).size = 0 from rfl, Nat.zero_add] at q_; exact q_))
      obtain rfl := Option.some.inj H; go_enter Tryd.func29, Tryd.ntmps29
      try go_wp2_with (first | ((with_reducible refine gate_callee (f := 54) rfl ?_); refine goesL_ (some 7) rfl rfl Tryd.func54 (by kernel_rfl) rfl #[.int .i64 a0] rfl mq ?_; (with_reducible refine (impl_sizeOf.calls a0 t102 _ A2.out).mono ?_); rintro e w20 ⟨rfl, hb⟩; refine ⟨_, rfl, ?_⟩; have n0_ := Aside0.mk (below_step (qb HB) hb); clear HB; have HB := n0_; clear n0_; (try clear hb); (try clear hb2); (try clear hk); (try clear hi)) | ((with_reducible refine gate_callee (f := 39) rfl ?_); refine goesL_ (some 13) rfl rfl Tryd.func39 (by kernel_rfl) rfl #[.int .i64 (wrap64 (100 + (Int.tmod t102 100)))] rfl mq ?_; (with_reducible refine (strconv_Itoa.calls (wrap64 (100 + (Int.tmod t102 100))) t105 _ A14.out).mono ?_); rintro e w21 ⟨rfl, hb⟩; refine ⟨_, rfl, ?_⟩; have n0_ := Aside0.mk (below_step (qb HB) hb); clear HB; have HB := n0_; clear n0_; (try clear hb); (try clear hb2); (try clear hk); (try clear hi)))
      have n0_ := Aside0.mk (below_drew1 HB.out); clear HB; have HB := n0_; clear n0_; refine start_ (n := 10) (S := fun w' => True) (ds := []) #[false, false, false, false, false, false, false, false, false, false] (by kernel_rfl) rfl rfl trivial (fun hHeld => ?_); refine with_tabW impl_moneyText.tab5 impl_moneyText.bits5 (fun HT_ HW_ => ?_); generalize w21.drew = w22 at HB hHeld ⊢; refine pure_ (i := 0) (N := some 14) (v := ?_) (a' := ?_) #[true, false, false, false, false, false, false, false, false, false] rfl rfl (any_of HT_.out (by kernel_rfl)) (fun _ _ _ h => h) (Or.inl ⟨by rfl, ?_⟩) ?_ ?_; rotate_left
      ·intro w'; go_simp; (with_reducible rfl)
      rotate_left
      ·simp only [Act.put, sA, s0, sS, i64_w, i32_w]; rfl
      refine pure_ (i := 1) (N := some 15) (v := ?_) (a' := ?_) #[true, true, false, false, false, false, false, false, false, false] rfl rfl (any_of HT_.out (by kernel_rfl)) (fun _ _ _ h => h) (Or.inl ⟨by rfl, ?_⟩) ?_ ?_; rotate_left
      ·intro w'; go_simp; (with_reducible rfl)
      rotate_left
      ·simp only [Act.put, sA, s0, sS, i64_w, i32_w]; rfl
      refine pure_ (i := 2) (N := some 16) (v := ?_) (a' := ?_) #[true, true, true, false, false, false, false, false, false, false] rfl rfl (any_of HT_.out (by kernel_rfl)) (fun _ _ _ h => h) (Or.inl ⟨by rfl, ?_⟩) ?_ ?_; rotate_left
      ·intro w'; go_simp; (with_reducible rfl)
      rotate_left
      ·simp only [Act.put, sA, s0, sS, i64_w, i32_w]; rfl
      refine pure_ (i := 6) (N := some 20) (v := ?_) (a' := ?_) #[true, true, true, false, false, false, true, false, false, false] rfl rfl (any_of HT_.out (by kernel_rfl)) (fun _ _ _ h => h) (Or.inl ⟨by rfl, ?_⟩) ?_ ?_; rotate_left
      ·intro w'; go_simp; (with_reducible rfl)
      rotate_left
      ·simp only [Act.put, sA, s0, sS, i64_w, i32_w]; rfl
      refine pure_ (i := 7) (N := some 21) (v := ?_) (a' := ?_) #[true, true, true, false, false, false, true, true, false, false] rfl rfl (any_of HT_.out (by kernel_rfl)) (fun _ _ _ h => h) (Or.inl ⟨by rfl, ?_⟩) ?_ ?_; rotate_left
      ·intro w'; go_simp; (with_reducible rfl)
      rotate_left
      ·simp only [Act.put, sA, s0, sS, i64_w, i32_w]; rfl
      refine one_ (i := 3) (N := some 17) #[true, true, true, true, false, false, true, true, false, false] rfl rfl (one_of HT_.out (by kernel_rfl)) (by decide) (fun K hK => ?_); refine goes_ Tryd.func39 (by kernel_rfl) rfl #[.int .i64 (wrap64 (Int.tdiv t102 100))] (by rfl) rfl rfl mq ?_; (with_reducible refine (strconv_Itoa.calls (wrap64 (Int.tdiv t102 100)) t106 _ A15.out).mono ?_); rintro e w23 ⟨rfl, hb⟩; refine ⟨_, rfl, ?_⟩; have n0_ := Aside0.mk (below_step (qb HB) hb); clear HB; have HB := n0_; clear n0_; (try clear hb); (try clear hb2); (try clear hk); (try clear hi); refine hK.out _ _ trivial (fun hHeld => ?_); clear hK K; refine norm_ (a' := ?_) ?_ ?_; rotate_left
      ·show Act.put _ (some 17) _ = _; simp only [Act.put, sA, s0, sS, i64_w, i32_w]; rfl
      refine pure_ (i := 4) (N := some 18) (v := ?_) (a' := ?_) #[true, true, true, true, true, false, true, true, false, false] rfl rfl (any_of HT_.out (by kernel_rfl)) (fun _ _ _ h => h) (Or.inl ⟨by rfl, ?_⟩) ?_ ?_; rotate_left
      ·intro w'; go_simp; (with_reducible rfl)
      rotate_left
      ·simp only [Act.put, sA, s0, sS, i64_w, i32_w]; rfl
      refine pure_ (i := 5) (N := some 19) (v := ?_) (a' := ?_) #[true, true, true, true, true, true, true, true, false, false] rfl rfl (any_of HT_.out (by kernel_rfl)) (fun _ _ _ h => h) (Or.inl ⟨by rfl, ?_⟩) ?_ ?_; rotate_left
      ·intro w'; go_simp; (with_reducible rfl)
      rotate_left
      ·simp only [Act.put, sA, s0, sS, i64_w, i32_w]; rfl
      refine pure_ (i := 8) (N := some 22) (v := ?_) (a' := ?_) #[true, true, true, true, true, true, true, true, true, false] rfl rfl (any_of HT_.out (by kernel_rfl)) (fun _ _ _ h => h) (Or.inl ⟨by rfl, ?_⟩) ?_ ?_; rotate_left
      ·intro w'; go_simp; (with_reducible rfl)
      rotate_left
      ·simp only [Act.put, sA, s0, sS, i64_w, i32_w]; rfl
      refine pure_ (i := 9) (N := some 2) (v := ?_) (a' := ?_) #[true, true, true, true, true, true, true, true, true, true] rfl rfl (any_of HT_.out (by kernel_rfl)) (fun _ _ _ h => h) (Or.inl ⟨by rfl, ?_⟩) ?_ ?_; rotate_left
      ·intro w'; go_simp; (with_reducible rfl)
      rotate_left
      ·simp only [Act.put, sA, s0, sS, i64_w, i32_w]; rfl
      refine done_ (done_of HT_.out (by kernel_rfl)) ?_
      try go_wp2
      go_ret; exact ⟨eqq, qb HB⟩
     ·rw [if_neg c19] at H; exact absurd H (by simp)
    ·rw [if_neg c18] at H; exact absurd H (by simp)
   ·rw [if_neg c17] at H; exact absurd H (by simp)
  ·rw [if_neg c16] at H; exact absurd H (by simp)

/-! ### impl_MoneyText: function 10 -/
def impl_MoneyText.f (a0 : Int) : Option (ByteArray × Int) := (impl_isMoney.f a0).bind fun t107 => (if t107 = true then ((impl_moneyText.f a0).bind fun t108 => (some (t108, 0))) else (some ((⟨#[]⟩ : ByteArray), 1)))
set_option maxHeartbeats 8000000 in
set_option maxRecDepth 100000 in
theorem impl_MoneyText.calls (a0 : Int) (r1 : ByteArray) (r2 : Int) (w : World) (h : impl_MoneyText.f a0 = some (r1, r2)) (ht_ : Tabs w := by exact tabs) :
  Calls Tryd.prog 10 #[.int .i64 a0] w fun e w' => e = .returned (.tuple #[.string r1, .int .i64 r2]) ∧ Below w.heap.size w w' := by
 have HT0_ := Aside0.mk ht_; clear ht_; have HB := Aside0.mk (Below.refl w.heap.size w); have H : ((impl_isMoney.f a0).bind fun t107 => (if t107 = true then ((impl_moneyText.f a0).bind fun t108 => (some (t108, 0))) else (some ((⟨#[]⟩ : ByteArray), 1)))) = some (r1, r2) := h; clear h; replace H := Option.bind_eq_some_iff.mp H; obtain ⟨t107, A20, H⟩ := H; replace H : (if t107 = true then ((impl_moneyText.f a0).bind fun t108 => (some (t108, 0))) else (some ((⟨#[]⟩ : ByteArray), 1))) = some (r1, r2) := H; have A2 := Aside0.mk A20; clear A20; by_cases c3 : t107 = true
 ·subst c3
  have H1 : ((impl_moneyText.f a0).bind fun t108 => (some (t108, 0))) = some (r1, r2) := by rw [if_pos rfl] at H; exact H
  clear H; have H := H1; clear H1; replace H := Option.bind_eq_some_iff.mp H; obtain ⟨t108, A40, H⟩ := H; replace H : (some (t108, 0)) = some (r1, r2) := H; have A4 := Aside0.mk A40; clear A40; simp only [Option.some.injEq, Prod.mk.injEq] at H; obtain ⟨rfl, rfl⟩ := H; go_enter Tryd.func10, Tryd.ntmps10
  go_wp2_with (first | ((with_reducible refine gate_callee (f := 28) rfl ?_); refine goesL_ (some 5) rfl rfl Tryd.func28 (by kernel_rfl) rfl #[.int .i64 a0] rfl mq ?_; (with_reducible refine (impl_isMoney.calls a0 true _ A2.out).mono ?_); rintro e w' ⟨rfl, ⟨nd, rfl⟩⟩; refine ⟨_, rfl, ?_⟩) | ((with_reducible refine gate_callee (f := 29) rfl ?_); refine goesL_ (some 8) rfl rfl Tryd.func29 (by kernel_rfl) rfl #[.int .i64 a0] rfl mq ?_; (with_reducible refine (impl_moneyText.calls a0 t108 _ A4.out).mono ?_); rintro e w5 ⟨rfl, hb⟩; refine ⟨_, rfl, ?_⟩; have n0_ := Aside0.mk (below_step (qb HB) hb); clear HB; have HB := n0_; clear n0_; (try clear hb); (try clear hb2); (try clear hk); (try clear hi)))
  go_ret2; exact ⟨eqq, qb HB⟩
 ·replace c3 := Bool.eq_false_iff.mpr c3; subst c3
  have H1 : (some ((⟨#[]⟩ : ByteArray), 1)) = some (r1, r2) := by rw [if_neg (show ¬ (false = true) by decide)] at H; exact H
  clear H; have H := H1; clear H1; simp only [Option.some.injEq, Prod.mk.injEq] at H; obtain ⟨rfl, rfl⟩ := H; go_enter Tryd.func10, Tryd.ntmps10
  go_wp2_with (first | ((with_reducible refine gate_callee (f := 28) rfl ?_); refine goesL_ (some 5) rfl rfl Tryd.func28 (by kernel_rfl) rfl #[.int .i64 a0] rfl mq ?_; (with_reducible refine (impl_isMoney.calls a0 false _ A2.out).mono ?_); rintro e w' ⟨rfl, ⟨nd, rfl⟩⟩; refine ⟨_, rfl, ?_⟩))
  go_ret2; exact ⟨eqq, qb HB⟩

/-! ### slices_IndexFunc_string_string: function 67, by hand, over whatever function value -/
def slices_IndexFunc_string_string.f (p : ByteArray → Option Bool) : List ByteArray → Int → Option Int
 | [], _ => some (-1)
 | x :: xs, i => (p x).bind fun b => if b = true then some i else slices_IndexFunc_string_string.f p xs (i + 1)
theorem slices_IndexFunc_string_string.cons (p : ByteArray → Option Bool) (x : ByteArray) (xs : List ByteArray) (i : Int) : slices_IndexFunc_string_string.f p (x :: xs) i = (p x).bind fun b => if b = true then some i else slices_IndexFunc_string_string.f p xs (i + 1) := rfl
theorem slices_IndexFunc_string_string.mono (p q : ByteArray → Option Bool) (h : ∀ x, LeO (p x) (q x)) : ∀ l i, LeO (slices_IndexFunc_string_string.f p l i) (slices_IndexFunc_string_string.f q l i)
 | [], _ => LeO.refl _
 | x :: xs, i => LeO.bind (h x) (fun b => LeO.ite (LeO.refl _) (slices_IndexFunc_string_string.mono p q h xs (i + 1)))
set_option maxHeartbeats 8000000 in
set_option maxRecDepth 100000 in
theorem slices_IndexFunc_string_string.calls (p : ByteArray → Option Bool) (l0 : List ByteArray) (A0 : Option Addr) (c0 : Nat) (g : Nat) (lb : Array Value) (r : Int) (w : World) (eg : ∀ args w, (callFunc g args).run Tryd.prog w = .ok (.enter g args) w)
  (hp : ∀ (W_ : World) (x_ : ByteArray) (b_ : Bool), Below w.heap.size w W_ → p x_ = some b_ → Calls Tryd.prog g (#[.string x_] ++ lb) W_ fun e w' => e = .returned (.bool b_) ∧ Below W_.heap.size W_ w')
  (hr0 : Kd.C Kd.string w A0 l0.length l0) (hc0 : l0.length ≤ c0) (h : slices_IndexFunc_string_string.f p l0 0 = some r) :
  Calls Tryd.prog 67 #[.slice A0 l0.length c0, .func (.func g) #[] lb] w fun e w' => e = .returned (.int .i64 r) ∧ Below w.heap.size w w' := by
 have hbig : l0.length ≤ 9223372036854775807 := hr0.2.1; have HP := Aside0.mk hp; have HR := Aside0.mk hr0; have H := Aside0.mk h; clear hp hr0 h; go_enter Tryd.func67, Tryd.ntmps67; go_wp2
 go_loopg [5, 8] l0.length (fun gg _ s8 wr => ∃ kk : Nat, kk ≤ l0.length ∧ l0.length - kk ≤ gg ∧ s8 = .int .i64 kk ∧ Aside0 (Below w.heap.size w wr) ∧ Aside0 (slices_IndexFunc_string_string.f p (l0.drop kk) kk = some r))
 case atStart => exact ⟨0, Nat.zero_le _, by omega, rfl, ⟨Below.refl _ w⟩, ⟨H.out⟩⟩
 case round =>
  obtain ⟨kk, hkk, hg, rfl, BW, HF⟩ := hrel; by_cases hlt : kk < l0.length
  ·have hltz : (kk : Int) < (l0.length : Int) := by omega
   have hf := HF.out
   have hcons : l0.drop kk = rdOf ByteArray.empty l0 (kk : Int) :: l0.drop (kk + 1) := by
    rw [List.drop_eq_getElem_cons hlt]
    congr 1
    unfold rdOf; rw [Int.toNat_natCast, List.getD_eq_getElem?_getD, List.getElem?_eq_getElem hlt]; rfl
   obtain ⟨ad, rfl, hx0⟩ := Kd.at_string (Kd.C_below HR.out BW.out) (kk : Int) (by omega) hltz; rw [hcons, slices_IndexFunc_string_string.cons] at hf; clear hcons; simp only [Int.toNat_natCast] at hx0; generalize hxx : rdOf ByteArray.empty l0 (kk : Int) = x_ at *; have HX := Aside0.mk hxx; clear hxx; obtain ⟨b, hb, hf2⟩ := Option.bind_eq_some_iff.mp hf; have hcall := HP.out wr x_ b BW.out hb; have HB := Aside0.mk hb; have HF2 := Aside0.mk hf2; clear hf hb hf2
   cases b with
   | true =>
    go_wp2_with (go_at_fn g; refine hcall.mono ?_; rintro e w' ⟨rfl, hb'⟩)
    go_ret; have hr_ := HF2.out; simp only [if_true, Option.some.injEq] at hr_; exact ⟨by rw [← hr_]; rfl, BW.out.trans (hb'.mono BW.out.size)⟩
   | false =>
    go_wp2_with (go_at_fn g; refine hcall.mono ?_; rintro e w' ⟨rfl, hb'⟩)
    go_roundg (l0.length - (kk + 1))
    case measure => omega
    case rel =>
     have hr_ := HF2.out; simp only [Bool.false_eq_true, if_false] at hr_; exact ⟨kk + 1, by omega, by omega, by go_num, ⟨BW.out.trans (hb'.mono BW.out.size)⟩, ⟨by rw [show ((kk + 1 : Nat) : Int) = (kk : Int) + 1 by omega]; exact hr_⟩⟩
  ·have hltz : ¬ (kk : Int) < (l0.length : Int) := by omega
   have : kk = l0.length := by omega
   subst this; have hf := HF.out; rw [List.drop_length] at hf; have hr_ : -1 = r := Option.some.inj hf; have HX := Aside0.mk hr_; clear hf hr_; go_wp2; go_ret; exact ⟨by rw [← HX.out]; rfl, BW.out⟩

/-! ### slices_ContainsFunc_string_string: function 55, by hand, over whatever function value -/
def slices_ContainsFunc_string_string.f (p : ByteArray → Option Bool) (l : List ByteArray) : Option Bool := (slices_IndexFunc_string_string.f p l 0).bind fun i => some (decide (i ≥ 0))
theorem slices_ContainsFunc_string_string.mono (p q : ByteArray → Option Bool) (h : ∀ x, LeO (p x) (q x)) (l : List ByteArray) : LeO (slices_ContainsFunc_string_string.f p l) (slices_ContainsFunc_string_string.f q l) := LeO.bind (slices_IndexFunc_string_string.mono p q h l 0) (fun _ => LeO.refl _)
set_option maxHeartbeats 8000000 in
set_option maxRecDepth 100000 in
theorem slices_ContainsFunc_string_string.calls (p : ByteArray → Option Bool) (l0 : List ByteArray) (A0 : Option Addr) (c0 : Nat) (g : Nat) (lb : Array Value) (r : Bool) (w : World) (eg : ∀ args w, (callFunc g args).run Tryd.prog w = .ok (.enter g args) w)
  (hp : ∀ (W_ : World) (x_ : ByteArray) (b_ : Bool), Below w.heap.size w W_ → p x_ = some b_ → Calls Tryd.prog g (#[.string x_] ++ lb) W_ fun e w' => e = .returned (.bool b_) ∧ Below W_.heap.size W_ w')
  (hr0 : Kd.C Kd.string w A0 l0.length l0) (hc0 : l0.length ≤ c0) (h : slices_ContainsFunc_string_string.f p l0 = some r) :
  Calls Tryd.prog 55 #[.slice A0 l0.length c0, .func (.func g) #[] lb] w fun e w' => e = .returned (.bool r) ∧ Below w.heap.size w w' := by
 obtain ⟨i, hi, h2⟩ := Option.bind_eq_some_iff.mp h; have hr_ : decide (i ≥ 0) = r := Option.some.inj h2; have C := slices_IndexFunc_string_string.calls p l0 A0 c0 g lb i w eg hp hr0 hc0 hi; have HR_ := Aside0.mk hr_; clear h hi h2 hp hr_; by_cases hpos : 0 ≤ i
 ·have hd : decide (0 ≤ i) = true := decide_eq_true hpos; go_enter Tryd.func55, Tryd.ntmps55
  go_wp2_with (go_at_call 67; refine C.mono ?_; rintro e w' ⟨rfl, hb'⟩)
  go_ret; exact ⟨by rw [← HR_.out, decide_eq_true (show i ≥ 0 by omega)]; rfl, hb'⟩
 ·have hd : decide (0 ≤ i) = false := decide_eq_false hpos; go_enter Tryd.func55, Tryd.ntmps55
  go_wp2_with (go_at_call 67; refine C.mono ?_; rintro e w' ⟨rfl, hb'⟩)
  go_ret; exact ⟨by rw [← HR_.out, decide_eq_false (show ¬ i ≥ 0 by omega)]; rfl, hb'⟩

end Go.Proofs.YtdlfpjbhcpnpfaaDoor.PFnParts
