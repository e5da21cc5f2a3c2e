-- Written by wip/tools/hp.py over the kit's print (not by hand): functions and walks of All.
import Derived.Test.YtdlfpjbhcpnpfaaDoorPAllx0
import Derived.Test.YtdlfpjbhcpnpfaaDoorPAllx1
namespace Go.Proofs.YtdlfpjbhcpnpfaaDoor.PAll
open Go.RowKit Go.Proofs.YtdlfpjbhcpnpfaaDoorW.PrintWords Go.Proofs.YtdlfpjbhcpnpfaaDoorW.PrintLast Go.Proofs.YtdlfpjbhcpnpfaaDoorW.PrintMore
attribute [local go_sem] max2_int min2_int max_two min_two max_three min_three max_four min_four   -- for this text's walks alone
set_option linter.unusedVariables false
set_option linter.unusedSimpArgs false

/-! ### impl_sizeOf: function 54 -/
def impl_sizeOf.f (a0 : Int) : Option (Int) := some (mx a0 (wrap64 (-a0)))
set_option maxHeartbeats 8000000 in
set_option maxRecDepth 100000 in
theorem impl_sizeOf.calls (a0 : Int) (r : Int) (w : World) (h : impl_sizeOf.f a0 = some r) :
  Calls Tryd.prog 54 #[.int .i64 a0] w fun e w' => e = .returned (.int .i64 r) ∧ Below w.heap.size w w' := by
 have HB := Aside0.mk (Below.refl w.heap.size w); have H : (some (mx a0 (wrap64 (-a0)))) = some r := h; clear h; obtain ⟨ji2, hji2⟩ : ∃ j_ : Int, (mx a0 (wrap64 (-a0))) = j_ := ⟨_, rfl⟩
 replace H : (some ji2) = some r := by first | (rw [hji2] at H; exact H) | (simp only [hji2] at H ⊢; exact H)
 have hji2_ : (if a0 < (wrap64 (-a0)) then (wrap64 (-a0)) else a0) = ji2 := hji2; obtain rfl := Option.some.inj H; go_enter Tryd.func54, Tryd.ntmps54; go_wp2; go_ret; exact ⟨by first | rfl | (simp [errW_none, errW_some] <;> rfl) | (simp only [← hji2]; first | rfl | (simp [errW_none, errW_some] <;> rfl)) | (simp [*, errW_none, errW_some] <;> rfl), qb HB⟩

/-! ### impl_moneyText: function 29 -/
def impl_moneyText.f (a0 : Int) : Option (ByteArray) := (impl_sizeOf.f a0).bind fun t117 => (if a0 < 0 then ((strconv_Itoa.f (wrap64 (100 + (Int.tmod t117 100)))).bind fun t118 => ((strconv_Itoa.f (wrap64 (Int.tdiv t117 100))).bind fun t119 => (if 1 + t119.size ≤ 9223372036854775807 then (if ((⟨#[45]⟩ : ByteArray) ++ t119).size + 1 ≤ 9223372036854775807 then (if 1 ≤ (t118.size : Int) then (if (((⟨#[45]⟩ : ByteArray) ++ t119) ++ (⟨#[46]⟩ : ByteArray)).size + (t118.extract 1 t118.size).size ≤ 9223372036854775807 then (some ((((⟨#[45]⟩ : ByteArray) ++ t119) ++ (⟨#[46]⟩ : ByteArray)) ++ (t118.extract 1 t118.size))) else (none)) else (none)) else (none)) else (none)))) else ((strconv_Itoa.f (wrap64 (100 + (Int.tmod t117 100)))).bind fun t120 => ((strconv_Itoa.f (wrap64 (Int.tdiv t117 100))).bind fun t121 => (if 0 + t121.size ≤ 9223372036854775807 then (if ((⟨#[]⟩ : ByteArray) ++ t121).size + 1 ≤ 9223372036854775807 then (if 1 ≤ (t120.size : Int) then (if (((⟨#[]⟩ : ByteArray) ++ t121) ++ (⟨#[46]⟩ : ByteArray)).size + (t120.extract 1 t120.size).size ≤ 9223372036854775807 then (some ((((⟨#[]⟩ : ByteArray) ++ t121) ++ (⟨#[46]⟩ : ByteArray)) ++ (t120.extract 1 t120.size))) else (none)) else (none)) else (none)) else (none)))))
def impl_moneyText.T5 : Bool × List (List Nat × List Nat) := (true, [([], []), ([], []), ([1], [1]), ([2], [2]), ([0, 3], [0, 3]), ([4], [4]), ([], []), ([6], [6]), ([5, 7], [5, 7]), ([8, 3, 0, 1, 2, 3, 4, 5, 6, 7, 8], [8])])
def impl_moneyText.B5 : List Nat := [0, 0, 2, 6, 15, 31, 0, 64, 255, 511]
theorem impl_moneyText.tab5 : rtab .any (opsOf Tryd.f29 5) = impl_moneyText.T5 := by kernel_rfl
theorem impl_moneyText.bits5 : waitsOk impl_moneyText.T5.2 impl_moneyText.B5 = true := by kernel_rfl
set_option maxHeartbeats 8000000 in
set_option maxRecDepth 100000 in
theorem impl_moneyText.calls (a0 : Int) (r : ByteArray) (w : World) (h : impl_moneyText.f a0 = some r) (ht_ : Tabs w := by exact tabs) :
  Calls Tryd.prog 29 #[.int .i64 a0] w fun e w' => e = .returned (.string r) ∧ Below w.heap.size w w' := by
 have HT0_ := Aside0.mk ht_; clear ht_; have HB := Aside0.mk (Below.refl w.heap.size w); have H : ((impl_sizeOf.f a0).bind fun t117 => (if a0 < 0 then ((strconv_Itoa.f (wrap64 (100 + (Int.tmod t117 100)))).bind fun t118 => ((strconv_Itoa.f (wrap64 (Int.tdiv t117 100))).bind fun t119 => (if 1 + t119.size ≤ 9223372036854775807 then (if ((⟨#[45]⟩ : ByteArray) ++ t119).size + 1 ≤ 9223372036854775807 then (if 1 ≤ (t118.size : Int) then (if (((⟨#[45]⟩ : ByteArray) ++ t119) ++ (⟨#[46]⟩ : ByteArray)).size + (t118.extract 1 t118.size).size ≤ 9223372036854775807 then (some ((((⟨#[45]⟩ : ByteArray) ++ t119) ++ (⟨#[46]⟩ : ByteArray)) ++ (t118.extract 1 t118.size))) else (none)) else (none)) else (none)) else (none)))) else ((strconv_Itoa.f (wrap64 (100 + (Int.tmod t117 100)))).bind fun t120 => ((strconv_Itoa.f (wrap64 (Int.tdiv t117 100))).bind fun t121 => (if 0 + t121.size ≤ 9223372036854775807 then (if ((⟨#[]⟩ : ByteArray) ++ t121).size + 1 ≤ 9223372036854775807 then (if 1 ≤ (t120.size : Int) then (if (((⟨#[]⟩ : ByteArray) ++ t121) ++ (⟨#[46]⟩ : ByteArray)).size + (t120.extract 1 t120.size).size ≤ 9223372036854775807 then (some ((((⟨#[]⟩ : ByteArray) ++ t121) ++ (⟨#[46]⟩ : ByteArray)) ++ (t120.extract 1 t120.size))) else (none)) else (none)) else (none)) else (none)))))) = some r := h; clear h; replace H := Option.bind_eq_some_iff.mp H; obtain ⟨t117, A20, H⟩ := H; replace H : (if a0 < 0 then ((strconv_Itoa.f (wrap64 (100 + (Int.tmod t117 100)))).bind fun t118 => ((strconv_Itoa.f (wrap64 (Int.tdiv t117 100))).bind fun t119 => (if 1 + t119.size ≤ 9223372036854775807 then (if ((⟨#[45]⟩ : ByteArray) ++ t119).size + 1 ≤ 9223372036854775807 then (if 1 ≤ (t118.size : Int) then (if (((⟨#[45]⟩ : ByteArray) ++ t119) ++ (⟨#[46]⟩ : ByteArray)).size + (t118.extract 1 t118.size).size ≤ 9223372036854775807 then (some ((((⟨#[45]⟩ : ByteArray) ++ t119) ++ (⟨#[46]⟩ : ByteArray)) ++ (t118.extract 1 t118.size))) else (none)) else (none)) else (none)) else (none)))) else ((strconv_Itoa.f (wrap64 (100 + (Int.tmod t117 100)))).bind fun t120 => ((strconv_Itoa.f (wrap64 (Int.tdiv t117 100))).bind fun t121 => (if 0 + t121.size ≤ 9223372036854775807 then (if ((⟨#[]⟩ : ByteArray) ++ t121).size + 1 ≤ 9223372036854775807 then (if 1 ≤ (t120.size : Int) then (if (((⟨#[]⟩ : ByteArray) ++ t121) ++ (⟨#[46]⟩ : ByteArray)).size + (t120.extract 1 t120.size).size ≤ 9223372036854775807 then (some ((((⟨#[]⟩ : ByteArray) ++ t121) ++ (⟨#[46]⟩ : ByteArray)) ++ (t120.extract 1 t120.size))) else (none)) else (none)) else (none)) else (none))))) = some r := H; have A2 := Aside0.mk A20; clear A20; by_cases c3 : a0 < 0
 ·rw [if_pos c3] at H; have c3b0 : decide (a0 < 0) = true := decide_eq_true c3; clear c3; replace H := Option.bind_eq_some_iff.mp H; obtain ⟨t118, A40, H⟩ := H; replace H : ((strconv_Itoa.f (wrap64 (Int.tdiv t117 100))).bind fun t119 => (if 1 + t119.size ≤ 9223372036854775807 then (if ((⟨#[45]⟩ : ByteArray) ++ t119).size + 1 ≤ 9223372036854775807 then (if 1 ≤ (t118.size : Int) then (if (((⟨#[45]⟩ : ByteArray) ++ t119) ++ (⟨#[46]⟩ : ByteArray)).size + (t118.extract 1 t118.size).size ≤ 9223372036854775807 then (some ((((⟨#[45]⟩ : ByteArray) ++ t119) ++ (⟨#[46]⟩ : ByteArray)) ++ (t118.extract 1 t118.size))) else (none)) else (none)) else (none)) else (none))) = some r := H; have A4 := Aside0.mk A40; clear A40; replace H := Option.bind_eq_some_iff.mp H; obtain ⟨t119, A50, H⟩ := H; replace H : (if 1 + t119.size ≤ 9223372036854775807 then (if ((⟨#[45]⟩ : ByteArray) ++ t119).size + 1 ≤ 9223372036854775807 then (if 1 ≤ (t118.size : Int) then (if (((⟨#[45]⟩ : ByteArray) ++ t119) ++ (⟨#[46]⟩ : ByteArray)).size + (t118.extract 1 t118.size).size ≤ 9223372036854775807 then (some ((((⟨#[45]⟩ : ByteArray) ++ t119) ++ (⟨#[46]⟩ : ByteArray)) ++ (t118.extract 1 t118.size))) else (none)) else (none)) else (none)) else (none)) = some r := H; have A5 := Aside0.mk A50; clear A50; by_cases c6 : 1 + t119.size ≤ 9223372036854775807
  ·rw [if_pos c6] at H; have c6b0 := eq_true c6; have c6b1 : decide (1 + t119.size ≤ 9223372036854775807) = true := decide_eq_true c6
   (try have c6b2 : (9223372036854775807 < 1 + t119.size) = False := eq_false (Nat.not_lt.2 c6))
   by_cases c7 : ((⟨#[45]⟩ : ByteArray) ++ t119).size + 1 ≤ 9223372036854775807
   ·rw [if_pos c7] at H; have c7b0 := eq_true c7; have c7b1 : decide (((⟨#[45]⟩ : ByteArray) ++ t119).size + 1 ≤ 9223372036854775807) = true := decide_eq_true c7
    (try have c7b2 : (9223372036854775807 < ((⟨#[45]⟩ : ByteArray) ++ t119).size + 1) = False := eq_false (Nat.not_lt.2 c7)); (try have c7b3 : (9223372036854775807 < 1 + t119.size + 1) = False := eq_false (by have q_ := Nat.not_lt.2 c7; simp only [ByteArray.size_append, ByteArray.size_extract, Nat.min_self, show (⟨#[]⟩ : ByteArray).size = 0 from rfl, Nat.zero_add] at q_; exact q_))
    by_cases c8 : 1 ≤ (t118.size : Int)
    ·rw [if_pos c8] at H; have c8b0 := eq_true c8; have c8b1 : decide (1 ≤ (t118.size : Int)) = true := decide_eq_true c8; clear c8; by_cases c9 : (((⟨#[45]⟩ : ByteArray) ++ t119) ++ (⟨#[46]⟩ : ByteArray)).size + (t118.extract 1 t118.size).size ≤ 9223372036854775807
     ·rw [if_pos c9] at H; have c9b0 := eq_true c9; have c9b1 : decide ((((⟨#[45]⟩ : ByteArray) ++ t119) ++ (⟨#[46]⟩ : ByteArray)).size + (t118.extract 1 t118.size).size ≤ 9223372036854775807) = true := decide_eq_true c9
      (try have c9b2 : (9223372036854775807 < (((⟨#[45]⟩ : ByteArray) ++ t119) ++ (⟨#[46]⟩ : ByteArray)).size + (t118.extract 1 t118.size).size) = False := eq_false (Nat.not_lt.2 c9)); (try have c9b3 : (9223372036854775807 < 1 + t119.size + 1 + (t118.size - 1)) = False := eq_false (by have q_ := Nat.not_lt.2 c9; simp only [ByteArray.size_append, ByteArray.size_extract, Nat.min_self, show (⟨#[]⟩ : ByteArray).size = 0 from rfl, Nat.zero_add] at q_; exact q_))
      obtain rfl := Option.some.inj H; go_enter Tryd.func29, Tryd.ntmps29
      try go_wp2_with (first | ((with_reducible refine gate_callee (f := 54) rfl ?_); refine goesL_ (some 7) rfl rfl Tryd.func54 (by kernel_rfl) rfl #[.int .i64 a0] rfl mq ?_; (with_reducible refine (impl_sizeOf.calls a0 t117 _ A2.out).mono ?_); rintro e w10 ⟨rfl, hb⟩; refine ⟨_, rfl, ?_⟩; have n0_ := Aside0.mk (below_step (qb HB) hb); clear HB; have HB := n0_; clear n0_; (try clear hb); (try clear hb2); (try clear hk); (try clear hi)) | ((with_reducible refine gate_callee (f := 39) rfl ?_); refine goesL_ (some 13) rfl rfl Tryd.func39 (by kernel_rfl) rfl #[.int .i64 (wrap64 (100 + (Int.tmod t117 100)))] rfl mq ?_; (with_reducible refine (strconv_Itoa.calls (wrap64 (100 + (Int.tmod t117 100))) t118 _ A4.out).mono ?_); rintro e w11 ⟨rfl, hb⟩; refine ⟨_, rfl, ?_⟩; have n0_ := Aside0.mk (below_step (qb HB) hb); clear HB; have HB := n0_; clear n0_; (try clear hb); (try clear hb2); (try clear hk); (try clear hi)))
      have n0_ := Aside0.mk (below_drew1 HB.out); clear HB; have HB := n0_; clear n0_; refine start_ (n := 10) (S := fun w' => True) (ds := []) #[false, false, false, false, false, false, false, false, false, false] (by kernel_rfl) rfl rfl trivial (fun hHeld => ?_); refine with_tabW impl_moneyText.tab5 impl_moneyText.bits5 (fun HT_ HW_ => ?_); generalize w11.drew = w12 at HB hHeld ⊢; refine pure_ (i := 0) (N := some 14) (v := ?_) (a' := ?_) #[true, false, false, false, false, false, false, false, false, false] rfl rfl (any_of HT_.out (by kernel_rfl)) (fun _ _ _ h => h) (Or.inl ⟨by rfl, ?_⟩) ?_ ?_; rotate_left
      ·intro w'; go_simp; (with_reducible rfl)
      rotate_left
      ·simp only [Act.put, sA, s0, sS, i64_w, i32_w]; rfl
      refine pure_ (i := 1) (N := some 15) (v := ?_) (a' := ?_) #[true, true, false, false, false, false, false, false, false, false] rfl rfl (any_of HT_.out (by kernel_rfl)) (fun _ _ _ h => h) (Or.inl ⟨by rfl, ?_⟩) ?_ ?_; rotate_left
      ·intro w'; go_simp; (with_reducible rfl)
      rotate_left
      ·simp only [Act.put, sA, s0, sS, i64_w, i32_w]; rfl
      refine pure_ (i := 2) (N := some 16) (v := ?_) (a' := ?_) #[true, true, true, false, false, false, false, false, false, false] rfl rfl (any_of HT_.out (by kernel_rfl)) (fun _ _ _ h => h) (Or.inl ⟨by rfl, ?_⟩) ?_ ?_; rotate_left
      ·intro w'; go_simp; (with_reducible rfl)
      rotate_left
      ·simp only [Act.put, sA, s0, sS, i64_w, i32_w]; rfl
      refine pure_ (i := 6) (N := some 20) (v := ?_) (a' := ?_) #[true, true, true, false, false, false, true, false, false, false] rfl rfl (any_of HT_.out (by kernel_rfl)) (fun _ _ _ h => h) (Or.inl ⟨by rfl, ?_⟩) ?_ ?_; rotate_left
      ·intro w'; go_simp; (with_reducible rfl)
      rotate_left
      ·simp only [Act.put, sA, s0, sS, i64_w, i32_w]; rfl
      refine pure_ (i := 7) (N := some 21) (v := ?_) (a' := ?_) #[true, true, true, false, false, false, true, true, false, false] rfl rfl (any_of HT_.out (by kernel_rfl)) (fun _ _ _ h => h) (Or.inl ⟨by rfl, ?_⟩) ?_ ?_; rotate_left
      ·intro w'; go_simp; (with_reducible rfl)
      rotate_left
      ·simp only [Act.put, sA, s0, sS, i64_w, i32_w]; rfl
      refine one_ (i := 3) (N := some 17) #[true, true, true, true, false, false, true, true, false, false] rfl rfl (one_of HT_.out (by kernel_rfl)) (by decide) (fun K hK => ?_); refine goes_ Tryd.func39 (by kernel_rfl) rfl #[.int .i64 (wrap64 (Int.tdiv t117 100))] (by rfl) rfl rfl mq ?_; (with_reducible refine (strconv_Itoa.calls (wrap64 (Int.tdiv t117 100)) t119 _ A5.out).mono ?_); rintro e w13 ⟨rfl, hb⟩; refine ⟨_, rfl, ?_⟩; have n0_ := Aside0.mk (below_step (qb HB) hb); clear HB; have HB := n0_; clear n0_; (try clear hb); (try clear hb2); (try clear hk); (try clear hi); refine hK.out _ _ trivial (fun hHeld => ?_); clear hK K; refine norm_ (a' := ?_) ?_ ?_; rotate_left
      ·show Act.put _ (some 17) _ = _; simp only [Act.put, sA, s0, sS, i64_w, i32_w]; rfl
      refine pure_ (i := 4) (N := some 18) (v := ?_) (a' := ?_) #[true, true, true, true, true, false, true, true, false, false] rfl rfl (any_of HT_.out (by kernel_rfl)) (fun _ _ _ h => h) (Or.inl ⟨by rfl, ?_⟩) ?_ ?_; rotate_left
      ·intro w'; go_simp; (with_reducible rfl)
      rotate_left
      ·simp only [Act.put, sA, s0, sS, i64_w, i32_w]; rfl
      refine pure_ (i := 5) (N := some 19) (v := ?_) (a' := ?_) #[true, true, true, true, true, true, true, true, false, false] rfl rfl (any_of HT_.out (by kernel_rfl)) (fun _ _ _ h => h) (Or.inl ⟨by rfl, ?_⟩) ?_ ?_; rotate_left
      ·intro w'; go_simp; (with_reducible rfl)
      rotate_left
      ·simp only [Act.put, sA, s0, sS, i64_w, i32_w]; rfl
      refine pure_ (i := 8) (N := some 22) (v := ?_) (a' := ?_) #[true, true, true, true, true, true, true, true, true, false] rfl rfl (any_of HT_.out (by kernel_rfl)) (fun _ _ _ h => h) (Or.inl ⟨by rfl, ?_⟩) ?_ ?_; rotate_left
      ·intro w'; go_simp; (with_reducible rfl)
      rotate_left
      ·simp only [Act.put, sA, s0, sS, i64_w, i32_w]; rfl
      refine pure_ (i := 9) (N := some 2) (v := ?_) (a' := ?_) #[true, true, true, true, true, true, true, true, true, true] rfl rfl (any_of HT_.out (by kernel_rfl)) (fun _ _ _ h => h) (Or.inl ⟨by rfl, ?_⟩) ?_ ?_; rotate_left
      ·intro w'; go_simp; (with_reducible rfl)
      rotate_left
      ·simp only [Act.put, sA, s0, sS, i64_w, i32_w]; rfl
      refine done_ (done_of HT_.out (by kernel_rfl)) ?_
      try go_wp2
      go_ret; exact ⟨eqq, qb HB⟩
     ·rw [if_neg c9] at H; exact absurd H (by simp)
    ·rw [if_neg c8] at H; exact absurd H (by simp)
   ·rw [if_neg c7] at H; exact absurd H (by simp)
  ·rw [if_neg c6] at H; exact absurd H (by simp)
 ·rw [if_neg c3] at H; have c3b0 : decide (a0 < 0) = false := decide_eq_false c3; clear c3; replace H := Option.bind_eq_some_iff.mp H; obtain ⟨t120, A140, H⟩ := H; replace H : ((strconv_Itoa.f (wrap64 (Int.tdiv t117 100))).bind fun t121 => (if 0 + t121.size ≤ 9223372036854775807 then (if ((⟨#[]⟩ : ByteArray) ++ t121).size + 1 ≤ 9223372036854775807 then (if 1 ≤ (t120.size : Int) then (if (((⟨#[]⟩ : ByteArray) ++ t121) ++ (⟨#[46]⟩ : ByteArray)).size + (t120.extract 1 t120.size).size ≤ 9223372036854775807 then (some ((((⟨#[]⟩ : ByteArray) ++ t121) ++ (⟨#[46]⟩ : ByteArray)) ++ (t120.extract 1 t120.size))) else (none)) else (none)) else (none)) else (none))) = some r := H; have A14 := Aside0.mk A140; clear A140; replace H := Option.bind_eq_some_iff.mp H; obtain ⟨t121, A150, H⟩ := H; replace H : (if 0 + t121.size ≤ 9223372036854775807 then (if ((⟨#[]⟩ : ByteArray) ++ t121).size + 1 ≤ 9223372036854775807 then (if 1 ≤ (t120.size : Int) then (if (((⟨#[]⟩ : ByteArray) ++ t121) ++ (⟨#[46]⟩ : ByteArray)).size + (t120.extract 1 t120.size).size ≤ 9223372036854775807 then (some ((((⟨#[]⟩ : ByteArray) ++ t121) ++ (⟨#[46]⟩ : ByteArray)) ++ (t120.extract 1 t120.size))) else (none)) else (none)) else (none)) else (none)) = some r := H; have A15 := Aside0.mk A150; clear A150; by_cases c16 : 0 + t121.size ≤ 9223372036854775807
  ·rw [if_pos c16] at H; have c16b0 := eq_true c16; have c16b1 : decide (0 + t121.size ≤ 9223372036854775807) = true := decide_eq_true c16
   (try have c16b2 : (9223372036854775807 < 0 + t121.size) = False := eq_false (Nat.not_lt.2 c16)); (try have c16b3 : (9223372036854775807 < t121.size) = False := eq_false (by have q_ := Nat.not_lt.2 c16; simp only [ByteArray.size_append, ByteArray.size_extract, Nat.min_self, show (⟨#[]⟩ : ByteArray).size = 0 from rfl, Nat.zero_add] at q_; exact q_))
   by_cases c17 : ((⟨#[]⟩ : ByteArray) ++ t121).size + 1 ≤ 9223372036854775807
   ·rw [if_pos c17] at H; have c17b0 := eq_true c17; have c17b1 : decide (((⟨#[]⟩ : ByteArray) ++ t121).size + 1 ≤ 9223372036854775807) = true := decide_eq_true c17
    (try have c17b2 : (9223372036854775807 < ((⟨#[]⟩ : ByteArray) ++ t121).size + 1) = False := eq_false (Nat.not_lt.2 c17)); (try have c17b3 : (9223372036854775807 < t121.size + 1) = False := eq_false (by have q_ := Nat.not_lt.2 c17; simp only [ByteArray.size_append, ByteArray.size_extract, Nat.min_self, show (⟨#[]⟩ : ByteArray).size = 0 from rfl, Nat.zero_add] at q_; exact q_))
    by_cases c18 : 1 ≤ (t120.size : Int)
    ·rw [if_pos c18] at H; have c18b0 := eq_true c18; have c18b1 : decide (1 ≤ (t120.size : Int)) = true := decide_eq_true c18; clear c18; by_cases c19 : (((⟨#[]⟩ : ByteArray) ++ t121) ++ (⟨#[46]⟩ : ByteArray)).size + (t120.extract 1 t120.size).size ≤ 9223372036854775807
     ·rw [if_pos c19] at H; have c19b0 := eq_true c19; have c19b1 : decide ((((⟨#[]⟩ : ByteArray) ++ t121) ++ (⟨#[46]⟩ : ByteArray)).size + (t120.extract 1 t120.size).size ≤ 9223372036854775807) = true := decide_eq_true c19
      (try have c19b2 : (9223372036854775807 < (((⟨#[]⟩ : ByteArray) ++ t121) ++ (⟨#[46]⟩ : ByteArray)).size + (t120.extract 1 t120.size).size) = False := eq_false (Nat.not_lt.2 c19)); (try have c19b3 : (9223372036854775807 < t121.size + 1 + (t120.size - 1)) = False := eq_false (by have q_ := Nat.not_lt.2 c19; simp only [ByteArray.size_append, ByteArray.size_extract, Nat.min_self, show (⟨#[]⟩ : ByteArray).size = 0 from rfl, Nat.zero_add] at q_; exact q_))
      obtain rfl := Option.some.inj H; go_enter Tryd.func29, Tryd.ntmps29
      try go_wp2_with (first | ((with_reducible refine gate_callee (f := 54) rfl ?_); refine goesL_ (some 7) rfl rfl Tryd.func54 (by kernel_rfl) rfl #[.int .i64 a0] rfl mq ?_; (with_reducible refine (impl_sizeOf.calls a0 t117 _ A2.out).mono ?_); rintro e w20 ⟨rfl, hb⟩; refine ⟨_, rfl, ?_⟩; have n0_ := Aside0.mk (below_step (qb HB) hb); clear HB; have HB := n0_; clear n0_; (try clear hb); (try clear hb2); (try clear hk); (try clear hi)) | ((with_reducible refine gate_callee (f := 39) rfl ?_); refine goesL_ (some 13) rfl rfl Tryd.func39 (by kernel_rfl) rfl #[.int .i64 (wrap64 (100 + (Int.tmod t117 100)))] rfl mq ?_; (with_reducible refine (strconv_Itoa.calls (wrap64 (100 + (Int.tmod t117 100))) t120 _ A14.out).mono ?_); rintro e w21 ⟨rfl, hb⟩; refine ⟨_, rfl, ?_⟩; have n0_ := Aside0.mk (below_step (qb HB) hb); clear HB; have HB := n0_; clear n0_; (try clear hb); (try clear hb2); (try clear hk); (try clear hi)))
      have n0_ := Aside0.mk (below_drew1 HB.out); clear HB; have HB := n0_; clear n0_; refine start_ (n := 10) (S := fun w' => True) (ds := []) #[false, false, false, false, false, false, false, false, false, false] (by kernel_rfl) rfl rfl trivial (fun hHeld => ?_); refine with_tabW impl_moneyText.tab5 impl_moneyText.bits5 (fun HT_ HW_ => ?_); generalize w21.drew = w22 at HB hHeld ⊢; refine pure_ (i := 0) (N := some 14) (v := ?_) (a' := ?_) #[true, false, false, false, false, false, false, false, false, false] rfl rfl (any_of HT_.out (by kernel_rfl)) (fun _ _ _ h => h) (Or.inl ⟨by rfl, ?_⟩) ?_ ?_; rotate_left
      ·intro w'; go_simp; (with_reducible rfl)
      rotate_left
      ·simp only [Act.put, sA, s0, sS, i64_w, i32_w]; rfl
      refine pure_ (i := 1) (N := some 15) (v := ?_) (a' := ?_) #[true, true, false, false, false, false, false, false, false, false] rfl rfl (any_of HT_.out (by kernel_rfl)) (fun _ _ _ h => h) (Or.inl ⟨by rfl, ?_⟩) ?_ ?_; rotate_left
      ·intro w'; go_simp; (with_reducible rfl)
      rotate_left
      ·simp only [Act.put, sA, s0, sS, i64_w, i32_w]; rfl
      refine pure_ (i := 2) (N := some 16) (v := ?_) (a' := ?_) #[true, true, true, false, false, false, false, false, false, false] rfl rfl (any_of HT_.out (by kernel_rfl)) (fun _ _ _ h => h) (Or.inl ⟨by rfl, ?_⟩) ?_ ?_; rotate_left
      ·intro w'; go_simp; (with_reducible rfl)
      rotate_left
      ·simp only [Act.put, sA, s0, sS, i64_w, i32_w]; rfl
      refine pure_ (i := 6) (N := some 20) (v := ?_) (a' := ?_) #[true, true, true, false, false, false, true, false, false, false] rfl rfl (any_of HT_.out (by kernel_rfl)) (fun _ _ _ h => h) (Or.inl ⟨by rfl, ?_⟩) ?_ ?_; rotate_left
      ·intro w'; go_simp; (with_reducible rfl)
      rotate_left
      ·simp only [Act.put, sA, s0, sS, i64_w, i32_w]; rfl
      refine pure_ (i := 7) (N := some 21) (v := ?_) (a' := ?_) #[true, true, true, false, false, false, true, true, false, false] rfl rfl (any_of HT_.out (by kernel_rfl)) (fun _ _ _ h => h) (Or.inl ⟨by rfl, ?_⟩) ?_ ?_; rotate_left
      ·intro w'; go_simp; (with_reducible rfl)
      rotate_left
      ·simp only [Act.put, sA, s0, sS, i64_w, i32_w]; rfl
      refine one_ (i := 3) (N := some 17) #[true, true, true, true, false, false, true, true, false, false] rfl rfl (one_of HT_.out (by kernel_rfl)) (by decide) (fun K hK => ?_); refine goes_ Tryd.func39 (by kernel_rfl) rfl #[.int .i64 (wrap64 (Int.tdiv t117 100))] (by rfl) rfl rfl mq ?_; (with_reducible refine (strconv_Itoa.calls (wrap64 (Int.tdiv t117 100)) t121 _ A15.out).mono ?_); rintro e w23 ⟨rfl, hb⟩; refine ⟨_, rfl, ?_⟩; have n0_ := Aside0.mk (below_step (qb HB) hb); clear HB; have HB := n0_; clear n0_; (try clear hb); (try clear hb2); (try clear hk); (try clear hi); refine hK.out _ _ trivial (fun hHeld => ?_); clear hK K; refine norm_ (a' := ?_) ?_ ?_; rotate_left
      ·show Act.put _ (some 17) _ = _; simp only [Act.put, sA, s0, sS, i64_w, i32_w]; rfl
      refine pure_ (i := 4) (N := some 18) (v := ?_) (a' := ?_) #[true, true, true, true, true, false, true, true, false, false] rfl rfl (any_of HT_.out (by kernel_rfl)) (fun _ _ _ h => h) (Or.inl ⟨by rfl, ?_⟩) ?_ ?_; rotate_left
      ·intro w'; go_simp; (with_reducible rfl)
      rotate_left
      ·simp only [Act.put, sA, s0, sS, i64_w, i32_w]; rfl
      refine pure_ (i := 5) (N := some 19) (v := ?_) (a' := ?_) #[true, true, true, true, true, true, true, true, false, false] rfl rfl (any_of HT_.out (by kernel_rfl)) (fun _ _ _ h => h) (Or.inl ⟨by rfl, ?_⟩) ?_ ?_; rotate_left
      ·intro w'; go_simp; (with_reducible rfl)
      rotate_left
      ·simp only [Act.put, sA, s0, sS, i64_w, i32_w]; rfl
      refine pure_ (i := 8) (N := some 22) (v := ?_) (a' := ?_) #[true, true, true, true, true, true, true, true, true, false] rfl rfl (any_of HT_.out (by kernel_rfl)) (fun _ _ _ h => h) (Or.inl ⟨by rfl, ?_⟩) ?_ ?_; rotate_left
      ·intro w'; go_simp; (with_reducible rfl)
      rotate_left
      ·simp only [Act.put, sA, s0, sS, i64_w, i32_w]; rfl
      refine pure_ (i := 9) (N := some 2) (v := ?_) (a' := ?_) #[true, true, true, true, true, true, true, true, true, true] rfl rfl (any_of HT_.out (by kernel_rfl)) (fun _ _ _ h => h) (Or.inl ⟨by rfl, ?_⟩) ?_ ?_; rotate_left
      ·intro w'; go_simp; (with_reducible rfl)
      rotate_left
      ·simp only [Act.put, sA, s0, sS, i64_w, i32_w]; rfl
      refine done_ (done_of HT_.out (by kernel_rfl)) ?_
      try go_wp2
      go_ret; exact ⟨eqq, qb HB⟩
     ·rw [if_neg c19] at H; exact absurd H (by simp)
    ·rw [if_neg c18] at H; exact absurd H (by simp)
   ·rw [if_neg c17] at H; exact absurd H (by simp)
  ·rw [if_neg c16] at H; exact absurd H (by simp)

/-! ### impl_MoneyText: function 10 -/
def impl_MoneyText.f (a0 : Int) : Option (ByteArray × Int) := (impl_isMoney.f a0).bind fun t122 => (if t122 = true then ((impl_moneyText.f a0).bind fun t123 => (some (t123, 0))) else (some ((⟨#[]⟩ : ByteArray), 1)))
set_option maxHeartbeats 8000000 in
set_option maxRecDepth 100000 in
theorem impl_MoneyText.calls (a0 : Int) (r1 : ByteArray) (r2 : Int) (w : World) (h : impl_MoneyText.f a0 = some (r1, r2)) (ht_ : Tabs w := by exact tabs) :
  Calls Tryd.prog 10 #[.int .i64 a0] w fun e w' => e = .returned (.tuple #[.string r1, .int .i64 r2]) ∧ Below w.heap.size w w' := by
 have HT0_ := Aside0.mk ht_; clear ht_; have HB := Aside0.mk (Below.refl w.heap.size w); have H : ((impl_isMoney.f a0).bind fun t122 => (if t122 = true then ((impl_moneyText.f a0).bind fun t123 => (some (t123, 0))) else (some ((⟨#[]⟩ : ByteArray), 1)))) = some (r1, r2) := h; clear h; replace H := Option.bind_eq_some_iff.mp H; obtain ⟨t122, A20, H⟩ := H; replace H : (if t122 = true then ((impl_moneyText.f a0).bind fun t123 => (some (t123, 0))) else (some ((⟨#[]⟩ : ByteArray), 1))) = some (r1, r2) := H; have A2 := Aside0.mk A20; clear A20; by_cases c3 : t122 = true
 ·subst c3
  have H1 : ((impl_moneyText.f a0).bind fun t123 => (some (t123, 0))) = some (r1, r2) := by rw [if_pos rfl] at H; exact H
  clear H; have H := H1; clear H1; replace H := Option.bind_eq_some_iff.mp H; obtain ⟨t123, A40, H⟩ := H; replace H : (some (t123, 0)) = some (r1, r2) := H; have A4 := Aside0.mk A40; clear A40; simp only [Option.some.injEq, Prod.mk.injEq] at H; obtain ⟨rfl, rfl⟩ := H; go_enter Tryd.func10, Tryd.ntmps10
  go_wp2_with (first | ((with_reducible refine gate_callee (f := 28) rfl ?_); refine goesL_ (some 5) rfl rfl Tryd.func28 (by kernel_rfl) rfl #[.int .i64 a0] rfl mq ?_; (with_reducible refine (impl_isMoney.calls a0 true _ A2.out).mono ?_); rintro e w' ⟨rfl, ⟨nd, rfl⟩⟩; refine ⟨_, rfl, ?_⟩) | ((with_reducible refine gate_callee (f := 29) rfl ?_); refine goesL_ (some 8) rfl rfl Tryd.func29 (by kernel_rfl) rfl #[.int .i64 a0] rfl mq ?_; (with_reducible refine (impl_moneyText.calls a0 t123 _ A4.out).mono ?_); rintro e w5 ⟨rfl, hb⟩; refine ⟨_, rfl, ?_⟩; have n0_ := Aside0.mk (below_step (qb HB) hb); clear HB; have HB := n0_; clear n0_; (try clear hb); (try clear hb2); (try clear hk); (try clear hi)))
  go_ret2; exact ⟨eqq, qb HB⟩
 ·replace c3 := Bool.eq_false_iff.mpr c3; subst c3
  have H1 : (some ((⟨#[]⟩ : ByteArray), 1)) = some (r1, r2) := by rw [if_neg (show ¬ (false = true) by decide)] at H; exact H
  clear H; have H := H1; clear H1; simp only [Option.some.injEq, Prod.mk.injEq] at H; obtain ⟨rfl, rfl⟩ := H; go_enter Tryd.func10, Tryd.ntmps10
  go_wp2_with (first | ((with_reducible refine gate_callee (f := 28) rfl ?_); refine goesL_ (some 5) rfl rfl Tryd.func28 (by kernel_rfl) rfl #[.int .i64 a0] rfl mq ?_; (with_reducible refine (impl_isMoney.calls a0 false _ A2.out).mono ?_); rintro e w' ⟨rfl, ⟨nd, rfl⟩⟩; refine ⟨_, rfl, ?_⟩))
  go_ret2; exact ⟨eqq, qb HB⟩

/-! ### laws_FnExactMoneyText: function 3 -/
def laws_FnExactMoneyText.f (k : Nat) (a0 : Int) : Option (Bool) := (spec_MoneyText.f k a0).bind fun bt124 => ((impl_MoneyText.f a0).bind fun bt126 => (if bt126.1.toList = bt124.1.toList then (if bt126.2 = bt124.2 then (some true) else (some false)) else (some false)))
theorem laws_FnExactMoneyText.mono : ∀ a0 k, LeO (laws_FnExactMoneyText.f k a0) (laws_FnExactMoneyText.f (k + 1) a0) := by
 intro a0 k; unfold laws_FnExactMoneyText.f
 repeat' first
   | (with_reducible exact spec_MoneyText.mono _ _)
   | (with_reducible exact LeO.refl _)
   | (with_reducible exact LeO.none _)
   | (with_reducible refine LeO.ite ?_ ?_)
   | (with_reducible refine LeO.bind ?_ (fun _ => ?_))
   | exact spec_MoneyText.mono _ _
   | exact LeO.none _
   | refine LeO.ite ?_ ?_
   | refine LeO.bind ?_ (fun _ => ?_)
set_option maxHeartbeats 8000000 in
set_option maxRecDepth 100000 in
theorem laws_FnExactMoneyText.calls (k : Nat) (a0 : Int) (r : Bool) (w : World) (h : laws_FnExactMoneyText.f k a0 = some r) (ht_ : Tabs w := by exact tabs) :
  Calls Tryd.prog 3 #[.int .i64 a0] w fun e w' => e = .returned (.bool r) ∧ Below w.heap.size w w' := by
 have HT0_ := Aside0.mk ht_; clear ht_; have HB := Aside0.mk (Below.refl w.heap.size w); have H : ((spec_MoneyText.f k a0).bind fun bt124 => ((impl_MoneyText.f a0).bind fun bt126 => (if bt126.1.toList = bt124.1.toList then (if bt126.2 = bt124.2 then (some true) else (some false)) else (some false)))) = some r := h; clear h; replace H := Option.bind_eq_some_iff.mp H; obtain ⟨⟨t124, t125⟩, A20, H⟩ := H; replace H : ((impl_MoneyText.f a0).bind fun bt126 => (if bt126.1.toList = t124.toList then (if bt126.2 = t125 then (some true) else (some false)) else (some false))) = some r := H; have A2 := Aside0.mk A20; clear A20; replace H := Option.bind_eq_some_iff.mp H; obtain ⟨⟨t126, t127⟩, A30, H⟩ := H; replace H : (if t126.toList = t124.toList then (if t127 = t125 then (some true) else (some false)) else (some false)) = some r := H; have A3 := Aside0.mk A30; clear A30; by_cases c4 : t126.toList = t124.toList
 ·rw [if_pos c4] at H; have c4b0 : (t126.toList == t124.toList) = true := beq_iff_eq.mpr c4; have c4b1 : (t126.toList != t124.toList) = false := bne_eq_false_iff_eq.mpr c4; clear c4; by_cases c5 : t127 = t125
  ·rw [if_pos c5] at H; have c5b0 : (t127 == t125) = true := beq_iff_eq.mpr c5; have c5b1 : (t127 != t125) = false := bne_eq_false_iff_eq.mpr c5; clear c5; obtain rfl := Option.some.inj H; go_enter Tryd.func3, Tryd.ntmps3
   go_wp2_with (first | ((with_reducible refine gate_callee (f := 9) rfl ?_); refine goesL_ (some 9) rfl rfl Tryd.func9 (by kernel_rfl) rfl #[.int .i64 a0] rfl mq ?_; (with_reducible refine (spec_MoneyText.calls k a0 t124 t125 _ A2.out).mono ?_); rintro e w6 ⟨rfl, hb⟩; refine ⟨_, rfl, ?_⟩; have n0_ := Aside0.mk (below_step (qb HB) hb); clear HB; have HB := n0_; clear n0_; (try clear hb); (try clear hb2); (try clear hk); (try clear hi)) | ((with_reducible refine gate_callee (f := 10) rfl ?_); refine goesL_ (some 14) rfl rfl Tryd.func10 (by kernel_rfl) rfl #[.int .i64 a0] rfl mq ?_; (with_reducible refine (impl_MoneyText.calls a0 t126 t127 _ A3.out).mono ?_); rintro e w7 ⟨rfl, hb⟩; refine ⟨_, rfl, ?_⟩; have n0_ := Aside0.mk (below_step (qb HB) hb); clear HB; have HB := n0_; clear n0_; (try clear hb); (try clear hb2); (try clear hk); (try clear hi)))
   go_ret; exact ⟨eqq, qb HB⟩
  ·rw [if_neg c5] at H; have c5b0 : (t127 == t125) = false := beq_eq_false_iff_ne.mpr c5; have c5b1 : (t127 != t125) = true := bne_iff_ne.mpr c5; obtain rfl := Option.some.inj H; go_enter Tryd.func3, Tryd.ntmps3
   go_wp2_with (first | ((with_reducible refine gate_callee (f := 9) rfl ?_); refine goesL_ (some 9) rfl rfl Tryd.func9 (by kernel_rfl) rfl #[.int .i64 a0] rfl mq ?_; (with_reducible refine (spec_MoneyText.calls k a0 t124 t125 _ A2.out).mono ?_); rintro e w8 ⟨rfl, hb⟩; refine ⟨_, rfl, ?_⟩; have n0_ := Aside0.mk (below_step (qb HB) hb); clear HB; have HB := n0_; clear n0_; (try clear hb); (try clear hb2); (try clear hk); (try clear hi)) | ((with_reducible refine gate_callee (f := 10) rfl ?_); refine goesL_ (some 14) rfl rfl Tryd.func10 (by kernel_rfl) rfl #[.int .i64 a0] rfl mq ?_; (with_reducible refine (impl_MoneyText.calls a0 t126 t127 _ A3.out).mono ?_); rintro e w9 ⟨rfl, hb⟩; refine ⟨_, rfl, ?_⟩; have n0_ := Aside0.mk (below_step (qb HB) hb); clear HB; have HB := n0_; clear n0_; (try clear hb); (try clear hb2); (try clear hk); (try clear hi)))
   go_ret; exact ⟨eqq, qb HB⟩
 ·rw [if_neg c4] at H; have c4b0 : (t126.toList == t124.toList) = false := beq_eq_false_iff_ne.mpr c4; have c4b1 : (t126.toList != t124.toList) = true := bne_iff_ne.mpr c4; obtain rfl := Option.some.inj H; go_enter Tryd.func3, Tryd.ntmps3
  go_wp2_with (first | ((with_reducible refine gate_callee (f := 9) rfl ?_); refine goesL_ (some 9) rfl rfl Tryd.func9 (by kernel_rfl) rfl #[.int .i64 a0] rfl mq ?_; (with_reducible refine (spec_MoneyText.calls k a0 t124 t125 _ A2.out).mono ?_); rintro e w10 ⟨rfl, hb⟩; refine ⟨_, rfl, ?_⟩; have n0_ := Aside0.mk (below_step (qb HB) hb); clear HB; have HB := n0_; clear n0_; (try clear hb); (try clear hb2); (try clear hk); (try clear hi)) | ((with_reducible refine gate_callee (f := 10) rfl ?_); refine goesL_ (some 14) rfl rfl Tryd.func10 (by kernel_rfl) rfl #[.int .i64 a0] rfl mq ?_; (with_reducible refine (impl_MoneyText.calls a0 t126 t127 _ A3.out).mono ?_); rintro e w11 ⟨rfl, hb⟩; refine ⟨_, rfl, ?_⟩; have n0_ := Aside0.mk (below_step (qb HB) hb); clear HB; have HB := n0_; clear n0_; (try clear hb); (try clear hb2); (try clear hk); (try clear hi)))
  go_ret; exact ⟨eqq, qb HB⟩

/-- THE ONE PURE STATEMENT of laws_FnExactMoneyText: yours. -/
def laws_FnExactMoneyText.Pure : Prop := ∀ (a0 : Int), (Lit.int .i64 a0).wf = true → ∃ k, laws_FnExactMoneyText.f k a0 = some true
theorem laws_FnExactMoneyText.walk (P : laws_FnExactMoneyText.Pure) (a0 : Int) (w : World) (w0 : (Lit.int .i64 a0).wf = true) (ht_ : Tabs w) :
  Calls Tryd.prog 3 #[.int .i64 a0] w fun e w' => e = .returned (.bool true) ∧ Below w.heap.size w w' := by
 have HT0_ := Aside0.mk ht_; obtain ⟨k, h⟩ := P a0 w0; refine (laws_FnExactMoneyText.calls k a0 true w h).mono ?_; rintro e w' ⟨rfl, hd⟩; exact ⟨rfl, hd⟩

end Go.Proofs.YtdlfpjbhcpnpfaaDoor.PAll
