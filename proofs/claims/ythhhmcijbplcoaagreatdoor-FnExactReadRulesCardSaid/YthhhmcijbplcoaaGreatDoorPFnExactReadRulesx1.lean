-- Written by wip/tools/hp.py over the kit's print (not by hand): functions and walks of FnExactReadRules.
import Derived.Test.YthhhmcijbplcoaaGreatDoorPFnExactReadRulesx0
namespace Go.Proofs.YthhhmcijbplcoaaGreatDoor.PFnExactReadRules
open Go.RowKit Go.Proofs.YthhhmcijbplcoaaGreatDoorW.PrintWords Go.Proofs.YthhhmcijbplcoaaGreatDoorW.PrintLast Go.Proofs.YthhhmcijbplcoaaGreatDoorW.PrintMore
attribute [local go_sem] max2_int min2_int max_two min_two max_three min_three max_four min_four   -- for this text's walks alone
set_option linter.unusedVariables false
set_option linter.unusedSimpArgs false

/-! ### spec_l00Cut: function 41 -/
def spec_l00Cut.l0 : Nat → ByteArray → Int → List ByteArray → Int → Int → Option (List ByteArray)
 | 0, _, _, _, _, _ => none
 | k + 1, x0, x1, x5, x6, x7 => if x7 < (x0.size : Int) then (if 0 ≤ x7 then (if (bt x0 x7) = x1 then (if 0 ≤ x6 then (if x6 ≤ x7 then (if x7 ≤ (x0.size : Int) then (if x5.length < 8796093022208 then (spec_l00Cut.l0 k x0 x1 (x5 ++ [x0.extract (x6 : Int).toNat (x7 : Int).toNat]) (wrap64 (x7 + 1)) (wrap64 (x7 + 1))) else (none)) else (none)) else (none)) else (none)) else (spec_l00Cut.l0 k x0 x1 x5 x6 (wrap64 (x7 + 1)))) else (none)) else (if 0 ≤ x6 then (if x6 ≤ (x0.size : Int) then (if x5.length < 8796093022208 then (some (x5 ++ [x0.extract (x6 : Int).toNat x0.size])) else (none)) else (none)) else (none))
def spec_l00Cut.f (k : Nat) (a0 : ByteArray) (a1 : Int) : Option (List ByteArray) := spec_l00Cut.l0 k a0 a1 (([] : List ByteArray)) 0 0
theorem spec_l00Cut.mono_l : ∀ k, (∀ y0 y1 y2 y3 y4, LeO (spec_l00Cut.l0 k y0 y1 y2 y3 y4) (spec_l00Cut.l0 (k + 1) y0 y1 y2 y3 y4))
 | 0 => fun _ _ _ _ _ r h => by simp [spec_l00Cut.l0] at h
 | k + 1 => by
  have ih0 := spec_l00Cut.mono_l k
  ·intro y0 y1 y2 y3 y4; unfold spec_l00Cut.l0
   repeat' first
   | (with_reducible exact ih0 _ _ _ _ _)
   | (with_reducible exact LeO.refl _)
   | (with_reducible exact LeO.none _)
   | (with_reducible refine LeO.ite ?_ ?_)
   | (with_reducible refine LeO.bind ?_ (fun _ => ?_))
   | exact ih0 _ _ _ _ _
   | exact LeO.none _
   | refine LeO.ite ?_ ?_
   | refine LeO.bind ?_ (fun _ => ?_)
theorem spec_l00Cut.mono : ∀ a0 a1 k, LeO (spec_l00Cut.f k a0 a1) (spec_l00Cut.f (k + 1) a0 a1) := by
 intro a0 a1 k; have ih0 := spec_l00Cut.mono_l k; unfold spec_l00Cut.f
 repeat' first
   | (with_reducible exact ih0 _ _ _ _ _)
   | (with_reducible exact LeO.refl _)
   | (with_reducible exact LeO.none _)
   | (with_reducible refine LeO.ite ?_ ?_)
   | (with_reducible refine LeO.bind ?_ (fun _ => ?_))
   | exact ih0 _ _ _ _ _
   | exact LeO.none _
   | refine LeO.ite ?_ ?_
   | refine LeO.bind ?_ (fun _ => ?_)
set_option maxHeartbeats 8000000 in
set_option maxRecDepth 100000 in
theorem spec_l00Cut.calls (k : Nat) (a0 : ByteArray) (a1 : Int) (r : List ByteArray) (w : World) (h : spec_l00Cut.f k a0 a1 = some r) :
  Calls Tryz.prog 41 #[.string a0, .int .u8 a1] w fun e w' => ∃ v0_ : Value, e = .returned (v0_) ∧ Kd.R Kd.string 9 w' w.heap.size (fun _ => True) v0_ r ∧ Below w.heap.size w w' := by
 have HB := Aside0.mk (Below.refl w.heap.size w); have H : (spec_l00Cut.l0 k a0 a1 (([] : List ByteArray)) 0 0) = some r := h; clear h; obtain ⟨y101, hy101⟩ : ∃ y_ : List ByteArray, y_ = (([] : List ByteArray)) := ⟨_, rfl⟩
 replace H : (spec_l00Cut.l0 k a0 a1 y101 0 0) = some r := by first | (rw [hy101]; with_reducible exact H) | (have H2_ := (Option.bind_some _ _).symm.trans H; rw [hy101]; with_reducible exact H2_) | (have H2_ := (Option.bind_some _ _).symm.trans H; with_reducible exact H2_) | with_reducible exact H | (rw [hy101]; exact H) | exact H
 have Ny101 := Aside0.mk hy101; clear hy101; have H' := Aside0.mk H; clear H; go_enter Tryz.func41, Tryz.ntmps41
 go_wp2_with (first | ((with_reducible refine gate_dst (N := 8) rfl ?_); refine Kd.R_lit Kd.string _ 9 ?hg (N := 8) ?hd (xs := ([] : List ByteArray)) (inner := []) (ok := fun _ => True) (okp := fun _ => True) ?hr ?hp (fun _ hk => hk) trivial (Below.refl _ _) (Nat.le_refl _) (by simp) ?_; (case hd => rfl); (case hg => rfl); (case hr => first | (go_simp; done) | (go_simp; rfl)); (case hp => exact (Reps.none _ _)); intro v102 w3 ho4 hb hg_ hnew_; clear hg_ hnew_; (first | rw [← Ny101.out] at ho4 | (simp only [Int.reduceToNat] at ho4; rw [← Ny101.out] at ho4)); have n0_ := Aside0.mk (Kd.R_lower ho4 (below_size (qb HB))); have n1_ := Aside0.mk (below_step (qb HB) hb); clear HB; have HO103 := n0_; have HB := n1_; clear n0_ n1_; clear hb ho4))
 go_loopg [5, 6, 7] k (fun kq v5 v6 v7 w' => ∃ (x5_1 : List ByteArray) (x6_1 : Int) (x7_1 : Int), v6 = .int .i64 x6_1 ∧ v7 = .int .i64 x7_1 ∧ Aside0 (spec_l00Cut.l0 kq a0 a1 x5_1 x6_1 x7_1 = some r) ∧ Aside0 (kq ≤ k) ∧ Aside0 (Kd.R Kd.string 9 w' w.heap.size (fun _ => True) v5 x5_1) ∧ Aside0 (Below w.heap.size w w'))
 case atStart => exact ⟨(y101), (0), (0), (by first | rfl | (simp; done) | (simp [*]; done)), (by first | rfl | (simp; done) | (simp [*]; done)), H', ⟨Nat.le_refl _⟩, ⟨by (with_reducible repeat (first | apply Kd.R_alloc | apply Kd.R_drewN | apply Kd.R_drew)); exact HO103.out⟩, ⟨qb HB⟩⟩
 case round =>
  clear H'; (try clear p2); (try clear c4); obtain ⟨x5_1, x6_1, x7_1, rfl, rfl, HA, HK1, HO_5, HB⟩ := hrel
  cases gk with
  | zero => exact absurd HA.out (by simp [spec_l00Cut.l0])
  | succ k1 =>
   have H := HA.out; clear HA; simp only [spec_l00Cut.l0] at H; by_cases c5 : x7_1 < (a0.size : Int)
   ·rw [if_pos c5] at H; have c5b0 : decide (x7_1 < (a0.size : Int)) = true := decide_eq_true c5; clear c5; by_cases c6 : 0 ≤ x7_1
    ·rw [if_pos c6] at H; have c6b0 : decide (0 ≤ x7_1) = true := decide_eq_true c6; clear c6; by_cases c8 : (bt a0 x7_1) = a1
     ·rw [if_pos c8] at H; have c8b0 : ((bt a0 x7_1) == a1) = true := beq_iff_eq.mpr c8; have c8b1 : ((bt a0 x7_1) != a1) = false := bne_eq_false_iff_eq.mpr c8; clear c8; by_cases c9 : 0 ≤ x6_1
      ·rw [if_pos c9] at H; have c9b0 := eq_true c9; have c9b1 : decide (0 ≤ x6_1) = true := decide_eq_true c9; clear c9; by_cases c10 : x6_1 ≤ x7_1
       ·rw [if_pos c10] at H; have c10b0 := eq_true c10; have c10b1 : decide (x6_1 ≤ x7_1) = true := decide_eq_true c10; clear c10; by_cases c11 : x7_1 ≤ (a0.size : Int)
        ·rw [if_pos c11] at H; have c11b0 := eq_true c11; have c11b1 : decide (x7_1 ≤ (a0.size : Int)) = true := decide_eq_true c11; clear c11; by_cases c12 : x5_1.length < 8796093022208
         ·rw [if_pos c12] at H; have LMc12 := Aside0.mk c12; clear c12; obtain ⟨y104, hy104⟩ : ∃ y_ : List ByteArray, y_ = (x5_1 ++ [a0.extract (x6_1 : Int).toNat (x7_1 : Int).toNat]) := ⟨_, rfl⟩
          replace H : (spec_l00Cut.l0 k1 a0 a1 y104 (wrap64 (x7_1 + 1)) (wrap64 (x7_1 + 1))) = some r := by first | (rw [hy104]; with_reducible exact H) | (have H2_ := (Option.bind_some _ _).symm.trans H; rw [hy104]; with_reducible exact H2_) | (have H2_ := (Option.bind_some _ _).symm.trans H; with_reducible exact H2_) | with_reducible exact H | (rw [hy104]; exact H) | exact H
          have Ny104 := Aside0.mk hy104; clear hy104; have H' := Aside0.mk H; clear H; have p7 : 0 ≤ (x7_1 : Int) := of_decide_eq_true (by first | (with_reducible assumption) | assumption); have q7 : x7_1 < (a0.size : Int) := of_decide_eq_true (by first | (with_reducible assumption) | assumption); have hx7 := bt_at a0 x7_1; replace p7 := eq_true p7; replace q7 := eq_true q7
          go_wp2_with (first | ((with_reducible refine gate_builtin (b := .append) (xs := #[.tmp 20, .tmp 25]) rfl ?_); at_builtin; refine Kd.R_append Kd.string (w0 := w) w.heap.size rfl (.tmp 20) (.tmp 25) 43 9 (.string ⟨#[]⟩) 16 rfl Tryz.underlying43 info9 rfl (by decide) (by omega) u5 x5_1 (a0.extract (x6_1 : Int).toNat (x7_1 : Int).toNat) [.string (a0.extract (x6_1 : Int).toNat (x7_1 : Int).toNat)] (fun _ => True) (fun _ => False) rfl rfl ?aP (fun _ hk => hk.elim) ?aF ?aO ?aB ?aS ?aL ?_; (case aP => exact rfl); (case aB => exact (qb HB)); (case aF => exact (fun _ _ => trivial)); (case aO => exact (qr HO_5)); (case aS => exact (below_size (qb HB))); (case aL => have := LMc12.out; omega); intro v105 w13 ho hb hg hat; rw [← Ny104.out] at ho; have n0_ := Aside0.mk (hb); have n1_ := Aside0.mk (ho); clear HB; clear HO_5; have HB := n0_; have HO106 := n1_; clear n0_ n1_; clear ho hb hg hat))
          go_roundg k1
          case measure => have := HK1.out; omega
          case rel => exact ⟨(y104), (wrap64 (x7_1 + 1)), (wrap64 (x7_1 + 1)), (by first | rfl | (simp; done) | (simp [*]; done)), (by first | rfl | (simp; done) | (simp [*]; done)), H', ⟨by have := HK1.out; omega⟩, ⟨by (with_reducible repeat (first | apply Kd.R_alloc | apply Kd.R_drewN | apply Kd.R_drew)); exact HO106.out⟩, ⟨qb HB⟩⟩
         ·rw [if_neg c12] at H; exact absurd H (by simp)
        ·rw [if_neg c11] at H; exact absurd H (by simp)
       ·rw [if_neg c10] at H; exact absurd H (by simp)
      ·rw [if_neg c9] at H; exact absurd H (by simp)
     ·rw [if_neg c8] at H; have c8b0 : ((bt a0 x7_1) == a1) = false := beq_eq_false_iff_ne.mpr c8; have c8b1 : ((bt a0 x7_1) != a1) = true := bne_iff_ne.mpr c8; have H' := Aside0.mk H; clear H; have p7 : 0 ≤ (x7_1 : Int) := of_decide_eq_true (by first | (with_reducible assumption) | assumption); have q7 : x7_1 < (a0.size : Int) := of_decide_eq_true (by first | (with_reducible assumption) | assumption); have hx7 := bt_at a0 x7_1; replace p7 := eq_true p7; replace q7 := eq_true q7; go_wp2
      go_roundg k1
      case measure => have := HK1.out; omega
      case rel => exact ⟨(x5_1), (x6_1), (wrap64 (x7_1 + 1)), (by first | rfl | (simp; done) | (simp [*]; done)), (by first | rfl | (simp; done) | (simp [*]; done)), H', ⟨by have := HK1.out; omega⟩, ⟨by (with_reducible repeat (first | apply Kd.R_alloc | apply Kd.R_drewN | apply Kd.R_drew)); exact HO_5.out⟩, ⟨qb HB⟩⟩
    ·rw [if_neg c6] at H; exact absurd H (by simp)
   ·rw [if_neg c5] at H; have c5b0 : decide (x7_1 < (a0.size : Int)) = false := decide_eq_false c5; clear c5; by_cases c14 : 0 ≤ x6_1
    ·rw [if_pos c14] at H; have c14b0 := eq_true c14; have c14b1 : decide (0 ≤ x6_1) = true := decide_eq_true c14; clear c14; by_cases c15 : x6_1 ≤ (a0.size : Int)
     ·rw [if_pos c15] at H; have c15b0 := eq_true c15; have c15b1 : decide (x6_1 ≤ (a0.size : Int)) = true := decide_eq_true c15; clear c15; by_cases c16 : x5_1.length < 8796093022208
      ·rw [if_pos c16] at H; have LMc16 := Aside0.mk c16; clear c16; obtain ⟨y107, hy107⟩ : ∃ y_ : List ByteArray, y_ = (x5_1 ++ [a0.extract (x6_1 : Int).toNat a0.size]) := ⟨_, rfl⟩
       replace H : (some y107) = some r := by first | (rw [hy107]; with_reducible exact H) | (have H2_ := (Option.bind_some _ _).symm.trans H; rw [hy107]; with_reducible exact H2_) | (have H2_ := (Option.bind_some _ _).symm.trans H; with_reducible exact H2_) | with_reducible exact H | (rw [hy107]; exact H) | exact H
       have Ny107 := Aside0.mk hy107; clear hy107; obtain rfl := Option.some.inj H
       go_wp2_with (first | ((with_reducible refine gate_builtin (b := .append) (xs := #[.tmp 29, .tmp 33]) rfl ?_); at_builtin; refine Kd.R_append Kd.string (w0 := w) w.heap.size rfl (.tmp 29) (.tmp 33) 43 9 (.string ⟨#[]⟩) 16 rfl Tryz.underlying43 info9 rfl (by decide) (by omega) u5 x5_1 (a0.extract (x6_1 : Int).toNat a0.size) [.string (a0.extract (x6_1 : Int).toNat a0.size)] (fun _ => True) (fun _ => False) rfl rfl ?aP (fun _ hk => hk.elim) ?aF ?aO ?aB ?aS ?aL ?_; (case aP => exact rfl); (case aB => exact (qb HB)); (case aF => exact (fun _ _ => trivial)); (case aO => exact (qr HO_5)); (case aS => exact (below_size (qb HB))); (case aL => have := LMc16.out; omega); intro v108 w17 ho hb hg hat; rw [← Ny107.out] at ho; have n0_ := Aside0.mk (hb); have n1_ := Aside0.mk (ho); clear HB; clear HO_5; have HB := n0_; have HO109 := n1_; clear n0_ n1_; clear ho hb hg hat))
       go_ret; exact ⟨_, by first | rfl | (simp [errW_none, errW_some] <;> rfl) | (simp [*, errW_none, errW_some] <;> rfl), by (with_reducible repeat (first | apply Kd.R_alloc | apply Kd.R_drewN | apply Kd.R_drew)); exact HO109.out, qb HB⟩
      ·rw [if_neg c16] at H; exact absurd H (by simp)
     ·rw [if_neg c15] at H; exact absurd H (by simp)
    ·rw [if_neg c14] at H; exact absurd H (by simp)

/-! ### spec_l06Lines: function 15 -/
def spec_l06Lines.f (k : Nat) (a0 : ByteArray) : Option (List ByteArray) := (spec_l00Cut.f k a0 10).bind fun t110 => (if 0 ≤ (wrap64 ((t110.length : Int) - 1)) then (if (wrap64 ((t110.length : Int) - 1)) < (t110.length : Int) then (if (rdOf ByteArray.empty t110 (wrap64 ((t110.length : Int) - 1))).toList = ([] : List UInt8) then (if (wrap64 ((t110.length : Int) - 1)) ≤ (t110.length : Int) then (some (t110.take ((wrap64 ((t110.length : Int) - 1)) : Int).toNat)) else (none)) else (some t110)) else (none)) else (none))
theorem spec_l06Lines.mono : ∀ a0 k, LeO (spec_l06Lines.f k a0) (spec_l06Lines.f (k + 1) a0) := by
 intro a0 k; unfold spec_l06Lines.f
 repeat' first
   | (with_reducible exact spec_l00Cut.mono _ _ _)
   | (with_reducible exact LeO.refl _)
   | (with_reducible exact LeO.none _)
   | (with_reducible refine LeO.ite ?_ ?_)
   | (with_reducible refine LeO.bind ?_ (fun _ => ?_))
   | exact spec_l00Cut.mono _ _ _
   | exact LeO.none _
   | refine LeO.ite ?_ ?_
   | refine LeO.bind ?_ (fun _ => ?_)
set_option maxHeartbeats 8000000 in
set_option maxRecDepth 100000 in
theorem spec_l06Lines.calls (k : Nat) (a0 : ByteArray) (r : List ByteArray) (w : World) (h : spec_l06Lines.f k a0 = some r) :
  Calls Tryz.prog 15 #[.string a0] w fun e w' => ∃ v0_ : Value, e = .returned (v0_) ∧ Kd.R Kd.string 9 w' w.heap.size (fun _ => True) v0_ r ∧ Below w.heap.size w w' := by
 have HB := Aside0.mk (Below.refl w.heap.size w); have H : ((spec_l00Cut.f k a0 10).bind fun t110 => (if 0 ≤ (wrap64 ((t110.length : Int) - 1)) then (if (wrap64 ((t110.length : Int) - 1)) < (t110.length : Int) then (if (rdOf ByteArray.empty t110 (wrap64 ((t110.length : Int) - 1))).toList = ([] : List UInt8) then (if (wrap64 ((t110.length : Int) - 1)) ≤ (t110.length : Int) then (some (t110.take ((wrap64 ((t110.length : Int) - 1)) : Int).toNat)) else (none)) else (some t110)) else (none)) else (none))) = some r := h; clear h; replace H := Option.bind_eq_some_iff.mp H; obtain ⟨t110, A20, H⟩ := H; replace H : (if 0 ≤ (wrap64 ((t110.length : Int) - 1)) then (if (wrap64 ((t110.length : Int) - 1)) < (t110.length : Int) then (if (rdOf ByteArray.empty t110 (wrap64 ((t110.length : Int) - 1))).toList = ([] : List UInt8) then (if (wrap64 ((t110.length : Int) - 1)) ≤ (t110.length : Int) then (some (t110.take ((wrap64 ((t110.length : Int) - 1)) : Int).toNat)) else (none)) else (some t110)) else (none)) else (none)) = some r := H; have A2 := Aside0.mk A20; clear A20; obtain ⟨ji3, hji3⟩ : ∃ j_ : Int, (wrap64 ((t110.length : Int) - 1)) = j_ := ⟨_, rfl⟩
 replace H : (if 0 ≤ (ji3) then (if (ji3) < (t110.length : Int) then (if (rdOf ByteArray.empty t110 (ji3)).toList = ([] : List UInt8) then (if (ji3) ≤ (t110.length : Int) then (some (t110.take ((ji3) : Int).toNat)) else (none)) else (some t110)) else (none)) else (none)) = some r := by first | (rw [hji3] at H; exact H) | (simp only [hji3] at H ⊢; exact H)
 (try rw [hji3] at A2)
 have hji3w : (IntKind.i64.wrap ((t110.length : Int) - 1)) = ji3 := (i64_w _).trans hji3; by_cases c4 : 0 ≤ (ji3)
 ·rw [if_pos c4] at H; have c4b0 : decide (0 ≤ (ji3)) = true := decide_eq_true c4; clear c4; by_cases c5 : (ji3) < (t110.length : Int)
  ·rw [if_pos c5] at H; have c5b0 : decide ((ji3) < (t110.length : Int)) = true := decide_eq_true c5; clear c5; by_cases c6 : (rdOf ByteArray.empty t110 (ji3)).toList = ([] : List UInt8)
   ·rw [if_pos c6] at H; have c6b0 : ((rdOf ByteArray.empty t110 (ji3)).toList == ([] : List UInt8)) = true := beq_iff_eq.mpr c6; have c6b1 : ((rdOf ByteArray.empty t110 (ji3)).toList != ([] : List UInt8)) = false := bne_eq_false_iff_eq.mpr c6
    have c6b2 : (rdOf ByteArray.empty t110 (ji3)).toList.isEmpty = true := by first | (rw [c6]; rfl) | (simpa using c6)
    clear c6; by_cases c7 : (ji3) ≤ (t110.length : Int)
    ·rw [if_pos c7] at H; have c7b0 := eq_true c7; have c7b1 : decide ((ji3) ≤ (t110.length : Int)) = true := decide_eq_true c7; clear c7; obtain ⟨y114, hy114⟩ : ∃ y_ : List ByteArray, y_ = (t110.take ((ji3) : Int).toNat) := ⟨_, rfl⟩
     replace H : (some y114) = some r := by first | (rw [hy114]; with_reducible exact H) | (have H2_ := (Option.bind_some _ _).symm.trans H; rw [hy114]; with_reducible exact H2_) | (have H2_ := (Option.bind_some _ _).symm.trans H; with_reducible exact H2_) | with_reducible exact H | (rw [hy114]; exact H) | exact H
     have Ny114 := Aside0.mk hy114; clear hy114; obtain rfl := Option.some.inj H; go_enter Tryz.func15, Tryz.ntmps15
     go_wp2_with (first | ((with_reducible refine gate_callee (f := 41) rfl ?_); refine goesL_ (some 5) rfl rfl Tryz.func41 (by kernel_rfl) rfl #[.string a0, .int .u8 10] rfl mq ?_; (with_reducible refine (spec_l00Cut.calls k a0 10 t110 _ A2.out).mono ?_); rintro e w8 ⟨v111, rfl, ho0, hb⟩; refine ⟨_, rfl, ?_⟩; have n0_ := Aside0.mk (Kd.R_lower ho0 (below_size (qb HB))); have n1_ := Aside0.mk (below_step (qb HB) hb); clear HB; have HO112 := n0_; have HB := n1_; clear n0_ n1_; (try clear hb); (try clear hb2); (try clear hk); (try clear hi); (try clear ho0); obtain ⟨Ao9, co9, eo9⟩ := Kd.R_slice HO112.out; subst eo9; have p113 : 0 ≤ ((ji3) : Int) := of_decide_eq_true (by first | (with_reducible assumption) | assumption); have q113 : (ji3) < (t110.length : Int) := of_decide_eq_true (by first | (with_reducible assumption) | assumption); obtain ⟨ad113, e113, hx113_0⟩ := Kd.at_string (Kd.R_reads' HO112.out).2.2 (ji3) p113 q113; cases e113; replace p113 := eq_true p113; replace q113 := eq_true q113; have q10 : ((ji3) : Int) ≤ ((t110.length : Int) : Int) := of_decide_eq_true (by first | (with_reducible assumption) | assumption); obtain ⟨i010, hi010, _, hsz10, _⟩ := info_parts info9; have hcut10 := cut_to (P := Tryz.prog) 43 9 .i64 Tryz.underlying43 hi010 (some ad113) t110.length co9 (ji3) (of_decide_eq_true (by first | (with_reducible assumption) | assumption)) q10 (Kd.R_reads' HO112.out).2.1; have hr10 := Kd.R_take (m := ((ji3) : Int).toNat) HO112.out (by omega); have hy10 : y114.length = ((ji3) : Int).toNat := (by rw [Ny114.out, List.length_take]; omega); rw [← Ny114.out] at hr10; rw [← hy10] at hr10 hcut10; clear hy10 hi010 hsz10 HO112; have HO116 := Aside0.mk hr10; clear hr10; replace q10 := eq_true q10))
     go_ret; exact ⟨_, by first | rfl | (simp [errW_none, errW_some] <;> rfl) | (simp only [← hji3]; first | rfl | (simp [errW_none, errW_some] <;> rfl)) | (simp [*, errW_none, errW_some] <;> rfl), by (with_reducible repeat (first | apply Kd.R_alloc | apply Kd.R_drewN | apply Kd.R_drew)); exact HO116.out, qb HB⟩
    ·rw [if_neg c7] at H; exact absurd H (by simp)
   ·rw [if_neg c6] at H; have c6b0 : ((rdOf ByteArray.empty t110 (ji3)).toList == ([] : List UInt8)) = false := beq_eq_false_iff_ne.mpr c6; have c6b1 : ((rdOf ByteArray.empty t110 (ji3)).toList != ([] : List UInt8)) = true := bne_iff_ne.mpr c6
    have c6b2 : (rdOf ByteArray.empty t110 (ji3)).toList.isEmpty = false := by first | (rw [c6]; rfl) | (simpa using c6)
    obtain rfl := Option.some.inj H; go_enter Tryz.func15, Tryz.ntmps15
    go_wp2_with (first | ((with_reducible refine gate_callee (f := 41) rfl ?_); refine goesL_ (some 5) rfl rfl Tryz.func41 (by kernel_rfl) rfl #[.string a0, .int .u8 10] rfl mq ?_; (with_reducible refine (spec_l00Cut.calls k a0 10 t110 _ A2.out).mono ?_); rintro e w11 ⟨v111, rfl, ho0, hb⟩; refine ⟨_, rfl, ?_⟩; have n0_ := Aside0.mk (Kd.R_lower ho0 (below_size (qb HB))); have n1_ := Aside0.mk (below_step (qb HB) hb); clear HB; have HO112 := n0_; have HB := n1_; clear n0_ n1_; (try clear hb); (try clear hb2); (try clear hk); (try clear hi); (try clear ho0); obtain ⟨Ao12, co12, eo12⟩ := Kd.R_slice HO112.out; subst eo12; have p113 : 0 ≤ ((ji3) : Int) := of_decide_eq_true (by first | (with_reducible assumption) | assumption); have q113 : (ji3) < (t110.length : Int) := of_decide_eq_true (by first | (with_reducible assumption) | assumption); obtain ⟨ad113, e113, hx113_0⟩ := Kd.at_string (Kd.R_reads' HO112.out).2.2 (ji3) p113 q113; cases e113; replace p113 := eq_true p113; replace q113 := eq_true q113))
    go_ret; exact ⟨_, by first | rfl | (simp [errW_none, errW_some] <;> rfl) | (simp only [← hji3]; first | rfl | (simp [errW_none, errW_some] <;> rfl)) | (simp [*, errW_none, errW_some] <;> rfl), by (with_reducible repeat (first | apply Kd.R_alloc | apply Kd.R_drewN | apply Kd.R_drew)); exact HO112.out, qb HB⟩
  ·rw [if_neg c5] at H; exact absurd H (by simp)
 ·rw [if_neg c4] at H; exact absurd H (by simp)

/-! ### spec_l00Words: function 16 -/
mutual
def spec_l00Words.l0 : Nat → ByteArray → List ByteArray → Int → Int → Option (List ByteArray)
 | 0, _, _, _, _ => none
 | k + 1, x0, x3, x4, x5 => if x5 ≤ (x0.size : Int) then (if x5 = (x0.size : Int) then (spec_l00Words.j1 k x0 x3 x4 x5 true) else (if 0 ≤ x5 then (if x5 < (x0.size : Int) then (spec_l00Words.j1 k x0 x3 x4 x5 ((bt x0 x5) == 32)) else (none)) else (none))) else (some x3)
def spec_l00Words.j1 : Nat → ByteArray → List ByteArray → Int → Int → Bool → Option (List ByteArray)
 | 0, _, _, _, _, _ => none
 | k + 1, x0, x3, x4, x5, x22 => if x22 = true then (if x5 > x4 then (if 0 ≤ x4 then (if x4 ≤ x5 then (if x5 ≤ (x0.size : Int) then (if x3.length < 8796093022208 then (spec_l00Words.l0 k x0 (x3 ++ [x0.extract (x4 : Int).toNat (x5 : Int).toNat]) (wrap64 (x5 + 1)) (wrap64 (x5 + 1))) else (none)) else (none)) else (none)) else (none)) else (spec_l00Words.l0 k x0 x3 (wrap64 (x5 + 1)) (wrap64 (x5 + 1)))) else (spec_l00Words.l0 k x0 x3 x4 (wrap64 (x5 + 1)))
end
def spec_l00Words.f (k : Nat) (a0 : ByteArray) : Option (List ByteArray) := spec_l00Words.l0 k a0 (([] : List ByteArray)) 0 0
theorem spec_l00Words.mono_l : ∀ k, (∀ y0 y1 y2 y3, LeO (spec_l00Words.l0 k y0 y1 y2 y3) (spec_l00Words.l0 (k + 1) y0 y1 y2 y3)) ∧ (∀ y0 y1 y2 y3 y4, LeO (spec_l00Words.j1 k y0 y1 y2 y3 y4) (spec_l00Words.j1 (k + 1) y0 y1 y2 y3 y4))
 | 0 => ⟨fun _ _ _ _ r h => by simp [spec_l00Words.l0] at h, fun _ _ _ _ _ r h => by simp [spec_l00Words.j1] at h⟩
 | k + 1 => by
  obtain ⟨ih0, ih1⟩ := spec_l00Words.mono_l k; refine ⟨?_, ?_⟩
  ·intro y0 y1 y2 y3; unfold spec_l00Words.l0
   repeat' first
   | (with_reducible exact ih0 _ _ _ _)
   | (with_reducible exact ih1 _ _ _ _ _)
   | (with_reducible exact LeO.refl _)
   | (with_reducible exact LeO.none _)
   | (with_reducible refine LeO.ite ?_ ?_)
   | (with_reducible refine LeO.bind ?_ (fun _ => ?_))
   | exact ih0 _ _ _ _
   | exact ih1 _ _ _ _ _
   | exact LeO.none _
   | refine LeO.ite ?_ ?_
   | refine LeO.bind ?_ (fun _ => ?_)
  ·intro y0 y1 y2 y3 y4; unfold spec_l00Words.j1
   repeat' first
   | (with_reducible exact ih0 _ _ _ _)
   | (with_reducible exact ih1 _ _ _ _ _)
   | (with_reducible exact LeO.refl _)
   | (with_reducible exact LeO.none _)
   | (with_reducible refine LeO.ite ?_ ?_)
   | (with_reducible refine LeO.bind ?_ (fun _ => ?_))
   | exact ih0 _ _ _ _
   | exact ih1 _ _ _ _ _
   | exact LeO.none _
   | refine LeO.ite ?_ ?_
   | refine LeO.bind ?_ (fun _ => ?_)
theorem spec_l00Words.mono : ∀ a0 k, LeO (spec_l00Words.f k a0) (spec_l00Words.f (k + 1) a0) := by
 intro a0 k; obtain ⟨ih0, ih1⟩ := spec_l00Words.mono_l k; unfold spec_l00Words.f
 repeat' first
   | (with_reducible exact ih0 _ _ _ _)
   | (with_reducible exact ih1 _ _ _ _ _)
   | (with_reducible exact LeO.refl _)
   | (with_reducible exact LeO.none _)
   | (with_reducible refine LeO.ite ?_ ?_)
   | (with_reducible refine LeO.bind ?_ (fun _ => ?_))
   | exact ih0 _ _ _ _
   | exact ih1 _ _ _ _ _
   | exact LeO.none _
   | refine LeO.ite ?_ ?_
   | refine LeO.bind ?_ (fun _ => ?_)
set_option maxHeartbeats 8000000 in
set_option maxRecDepth 100000 in
theorem spec_l00Words.calls (k : Nat) (a0 : ByteArray) (r : List ByteArray) (w : World) (h : spec_l00Words.f k a0 = some r) :
  Calls Tryz.prog 16 #[.string a0] w fun e w' => ∃ v0_ : Value, e = .returned (v0_) ∧ Kd.R Kd.string 9 w' w.heap.size (fun _ => True) v0_ r ∧ Below w.heap.size w w' := by
 have HB := Aside0.mk (Below.refl w.heap.size w); have H : (spec_l00Words.l0 k a0 (([] : List ByteArray)) 0 0) = some r := h; clear h; obtain ⟨y117, hy117⟩ : ∃ y_ : List ByteArray, y_ = (([] : List ByteArray)) := ⟨_, rfl⟩
 replace H : (spec_l00Words.l0 k a0 y117 0 0) = some r := by first | (rw [hy117]; with_reducible exact H) | (have H2_ := (Option.bind_some _ _).symm.trans H; rw [hy117]; with_reducible exact H2_) | (have H2_ := (Option.bind_some _ _).symm.trans H; with_reducible exact H2_) | with_reducible exact H | (rw [hy117]; exact H) | exact H
 have Ny117 := Aside0.mk hy117; clear hy117; have H' := Aside0.mk H; clear H; go_enter Tryz.func16, Tryz.ntmps16
 go_wp2_with (first | ((with_reducible refine gate_dst (N := 6) rfl ?_); refine Kd.R_lit Kd.string _ 9 ?hg (N := 6) ?hd (xs := ([] : List ByteArray)) (inner := []) (ok := fun _ => True) (okp := fun _ => True) ?hr ?hp (fun _ hk => hk) trivial (Below.refl _ _) (Nat.le_refl _) (by simp) ?_; (case hd => rfl); (case hg => rfl); (case hr => first | (go_simp; done) | (go_simp; rfl)); (case hp => exact (Reps.none _ _)); intro v118 w2 ho3 hb hg_ hnew_; clear hg_ hnew_; (first | rw [← Ny117.out] at ho3 | (simp only [Int.reduceToNat] at ho3; rw [← Ny117.out] at ho3)); have n0_ := Aside0.mk (Kd.R_lower ho3 (below_size (qb HB))); have n1_ := Aside0.mk (below_step (qb HB) hb); clear HB; have HO119 := n0_; have HB := n1_; clear n0_ n1_; clear hb ho3))
 go_loopg [3, 4, 5] k (fun kq v3 v4 v5 w' => ∃ (x3_1 : List ByteArray) (x4_1 : Int) (x5_1 : Int), v4 = .int .i64 x4_1 ∧ v5 = .int .i64 x5_1 ∧ Aside0 (spec_l00Words.l0 kq a0 x3_1 x4_1 x5_1 = some r) ∧ Aside0 (kq ≤ k) ∧ Aside0 (Kd.R Kd.string 9 w' w.heap.size (fun _ => True) v3 x3_1) ∧ Aside0 (Below w.heap.size w w'))
 case atStart => exact ⟨(y117), (0), (0), (by first | rfl | (simp; done) | (simp [*]; done)), (by first | rfl | (simp; done) | (simp [*]; done)), H', ⟨Nat.le_refl _⟩, ⟨by (with_reducible repeat (first | apply Kd.R_alloc | apply Kd.R_drewN | apply Kd.R_drew)); exact HO119.out⟩, ⟨qb HB⟩⟩
 case round =>
  clear H'; (try clear c1); (try clear p2); obtain ⟨x3_1, x4_1, x5_1, rfl, rfl, HA, HK1, HO_3, HB⟩ := hrel
  cases gk with
  | zero => exact absurd HA.out (by simp [spec_l00Words.l0])
  | succ k1 =>
   have H := HA.out; clear HA; simp only [spec_l00Words.l0] at H; by_cases c4 : x5_1 ≤ (a0.size : Int)
   ·rw [if_pos c4] at H; have c4b0 : decide (x5_1 ≤ (a0.size : Int)) = true := decide_eq_true c4; clear c4; have HC5 := Aside0.mk H; clear H
    go_upto_region 6 with (fail)
    go_cut [22] (fun v22 wc => ∃ (kq : Nat) (x22_4 : Bool), v22 = .bool x22_4 ∧ Aside0 (spec_l00Words.j1 kq a0 x3_1 x4_1 x5_1 x22_4 = some r) ∧ Aside0 (kq ≤ k1) ∧ Aside0 (Kd.R Kd.string 9 wc w.heap.size (fun _ => True) u3 x3_1) ∧ Aside0 (Below w.heap.size w wc))
    case first =>
     have H := HC5.out; clear HC5; by_cases c6 : x5_1 = (a0.size : Int)
     ·rw [if_pos c6] at H; have c6b0 : (x5_1 == (a0.size : Int)) = true := beq_iff_eq.mpr c6; have c6b1 : (x5_1 != (a0.size : Int)) = false := bne_eq_false_iff_eq.mpr c6; clear c6
      (first | rw [c6b0] | (simp only [i64_w, i32_w]; rw [c6b0]) | skip)
      have H' := Aside0.mk H; clear H; go_wp2
      go_meet
      case rel => exact ⟨_, (true), (by first | rfl | (simp; done) | (simp [*]; done)), H', ⟨by have := HK1.out; first | omega | exact Nat.le_refl _⟩, ⟨by (with_reducible repeat (first | apply Kd.R_alloc | apply Kd.R_drewN | apply Kd.R_drew)); exact HO_3.out⟩, ⟨qb HB⟩⟩
     ·rw [if_neg c6] at H; have c6b0 : (x5_1 == (a0.size : Int)) = false := beq_eq_false_iff_ne.mpr c6; have c6b1 : (x5_1 != (a0.size : Int)) = true := bne_iff_ne.mpr c6
      (first | rw [c6b0] | (simp only [i64_w, i32_w]; rw [c6b0]) | skip)
      by_cases c7 : 0 ≤ x5_1
      ·rw [if_pos c7] at H; have c7b0 : decide (0 ≤ x5_1) = true := decide_eq_true c7; clear c7; by_cases c8 : x5_1 < (a0.size : Int)
       ·rw [if_pos c8] at H; have c8b0 : decide (x5_1 < (a0.size : Int)) = true := decide_eq_true c8; clear c8; have H' := Aside0.mk H; clear H; have p9 : 0 ≤ (x5_1 : Int) := of_decide_eq_true (by first | (with_reducible assumption) | assumption); have q9 : x5_1 < (a0.size : Int) := of_decide_eq_true (by first | (with_reducible assumption) | assumption); have hx9 := bt_at a0 x5_1; replace p9 := eq_true p9; replace q9 := eq_true q9; go_wp2
        go_meet
        case rel => exact ⟨_, (((bt a0 x5_1) == 32)), (by first | rfl | (simp; done) | (simp [*]; done)), H', ⟨by have := HK1.out; first | omega | exact Nat.le_refl _⟩, ⟨by (with_reducible repeat (first | apply Kd.R_alloc | apply Kd.R_drewN | apply Kd.R_drew)); exact HO_3.out⟩, ⟨qb HB⟩⟩
       ·rw [if_neg c8] at H; exact absurd H (by simp)
      ·rw [if_neg c7] at H; exact absurd H (by simp)
    case rest =>
     clear HC5; (try clear c1); (try clear p2); (try clear c4); (try clear c4b0); (try clear c6); (try clear c6b0); (try clear c6b1); (try clear c7); (try clear c7b0); (try clear c8); (try clear c8b0); (try clear p9); (try clear q9); (try clear hx9); (try clear p2); (try clear p9); (try clear q9); obtain ⟨kq, x22_4, rfl, HA, HJ4, HO_3, HB⟩ := hcut
     cases kq with
     | zero => exact absurd HA.out (by simp [spec_l00Words.j1])
     | succ kj4 =>
      have H := HA.out; clear HA; simp only [spec_l00Words.j1] at H; by_cases c10 : x22_4 = true
      ·subst c10
       have H1 : (if x5_1 > x4_1 then (if 0 ≤ x4_1 then (if x4_1 ≤ x5_1 then (if x5_1 ≤ (a0.size : Int) then (if x3_1.length < 8796093022208 then (spec_l00Words.l0 kj4 a0 (x3_1 ++ [a0.extract (x4_1 : Int).toNat (x5_1 : Int).toNat]) (wrap64 (x5_1 + 1)) (wrap64 (x5_1 + 1))) else (none)) else (none)) else (none)) else (none)) else (spec_l00Words.l0 kj4 a0 x3_1 (wrap64 (x5_1 + 1)) (wrap64 (x5_1 + 1)))) = some r := by rw [if_pos rfl] at H; exact H
       clear H; have H := H1; clear H1; by_cases c11 : x5_1 > x4_1
       ·rw [if_pos c11] at H; have c11b0 : decide (x4_1 < x5_1) = true := decide_eq_true c11; clear c11; by_cases c12 : 0 ≤ x4_1
        ·rw [if_pos c12] at H; have c12b0 := eq_true c12; have c12b1 : decide (0 ≤ x4_1) = true := decide_eq_true c12; clear c12; by_cases c13 : x4_1 ≤ x5_1
         ·rw [if_pos c13] at H; have c13b0 := eq_true c13; have c13b1 : decide (x4_1 ≤ x5_1) = true := decide_eq_true c13; clear c13; by_cases c14 : x5_1 ≤ (a0.size : Int)
          ·rw [if_pos c14] at H; have c14b0 := eq_true c14; have c14b1 : decide (x5_1 ≤ (a0.size : Int)) = true := decide_eq_true c14; clear c14; by_cases c15 : x3_1.length < 8796093022208
           ·rw [if_pos c15] at H; have LMc15 := Aside0.mk c15; clear c15; obtain ⟨y120, hy120⟩ : ∃ y_ : List ByteArray, y_ = (x3_1 ++ [a0.extract (x4_1 : Int).toNat (x5_1 : Int).toNat]) := ⟨_, rfl⟩
            replace H : (spec_l00Words.l0 kj4 a0 y120 (wrap64 (x5_1 + 1)) (wrap64 (x5_1 + 1))) = some r := by first | (rw [hy120]; with_reducible exact H) | (have H2_ := (Option.bind_some _ _).symm.trans H; rw [hy120]; with_reducible exact H2_) | (have H2_ := (Option.bind_some _ _).symm.trans H; with_reducible exact H2_) | with_reducible exact H | (rw [hy120]; exact H) | exact H
            have Ny120 := Aside0.mk hy120; clear hy120; have H' := Aside0.mk H; clear H
            go_wp2_with (first | ((with_reducible refine gate_builtin (b := .append) (xs := #[.tmp 26, .tmp 31]) rfl ?_); at_builtin; refine Kd.R_append Kd.string (w0 := w) w.heap.size rfl (.tmp 26) (.tmp 31) 43 9 (.string ⟨#[]⟩) 16 rfl Tryz.underlying43 info9 rfl (by decide) (by omega) u3 x3_1 (a0.extract (x4_1 : Int).toNat (x5_1 : Int).toNat) [.string (a0.extract (x4_1 : Int).toNat (x5_1 : Int).toNat)] (fun _ => True) (fun _ => False) rfl rfl ?aP (fun _ hk => hk.elim) ?aF ?aO ?aB ?aS ?aL ?_; (case aP => exact rfl); (case aB => exact (qb HB)); (case aF => exact (fun _ _ => trivial)); (case aO => exact (qr HO_3)); (case aS => exact (below_size (qb HB))); (case aL => have := LMc15.out; omega); intro v121 w16 ho hb hg hat; rw [← Ny120.out] at ho; have n0_ := Aside0.mk (hb); have n1_ := Aside0.mk (ho); clear HB; clear HO_3; have HB := n0_; have HO122 := n1_; clear n0_ n1_; clear ho hb hg hat))
            go_roundg kj4
            case measure => have := HK1.out; have := HJ4.out; omega
            case rel => exact ⟨(y120), (wrap64 (x5_1 + 1)), (wrap64 (x5_1 + 1)), (by first | rfl | (simp; done) | (simp [*]; done)), (by first | rfl | (simp; done) | (simp [*]; done)), H', ⟨by have := HK1.out; have := HJ4.out; omega⟩, ⟨by (with_reducible repeat (first | apply Kd.R_alloc | apply Kd.R_drewN | apply Kd.R_drew)); exact HO122.out⟩, ⟨qb HB⟩⟩
           ·rw [if_neg c15] at H; exact absurd H (by simp)
          ·rw [if_neg c14] at H; exact absurd H (by simp)
         ·rw [if_neg c13] at H; exact absurd H (by simp)
        ·rw [if_neg c12] at H; exact absurd H (by simp)
       ·rw [if_neg c11] at H; have c11b0 : decide (x4_1 < x5_1) = false := decide_eq_false c11; clear c11; have H' := Aside0.mk H; clear H; go_wp2
        go_roundg kj4
        case measure => have := HK1.out; have := HJ4.out; omega
        case rel => exact ⟨(x3_1), (wrap64 (x5_1 + 1)), (wrap64 (x5_1 + 1)), (by first | rfl | (simp; done) | (simp [*]; done)), (by first | rfl | (simp; done) | (simp [*]; done)), H', ⟨by have := HK1.out; have := HJ4.out; omega⟩, ⟨by (with_reducible repeat (first | apply Kd.R_alloc | apply Kd.R_drewN | apply Kd.R_drew)); exact HO_3.out⟩, ⟨qb HB⟩⟩
      ·replace c10 := Bool.eq_false_iff.mpr c10; subst c10
       have H1 : (spec_l00Words.l0 kj4 a0 x3_1 x4_1 (wrap64 (x5_1 + 1))) = some r := by rw [if_neg (show ¬ (false = true) by decide)] at H; exact H
       clear H; have H := H1; clear H1; have H' := Aside0.mk H; clear H; go_wp2
       go_roundg kj4
       case measure => have := HK1.out; have := HJ4.out; omega
       case rel => exact ⟨(x3_1), (x4_1), (wrap64 (x5_1 + 1)), (by first | rfl | (simp; done) | (simp [*]; done)), (by first | rfl | (simp; done) | (simp [*]; done)), H', ⟨by have := HK1.out; have := HJ4.out; omega⟩, ⟨by (with_reducible repeat (first | apply Kd.R_alloc | apply Kd.R_drewN | apply Kd.R_drew)); exact HO_3.out⟩, ⟨qb HB⟩⟩
   ·rw [if_neg c4] at H; have c4b0 : decide (x5_1 ≤ (a0.size : Int)) = false := decide_eq_false c4; clear c4; obtain rfl := Option.some.inj H; go_wp2; go_ret; exact ⟨_, by first | rfl | (simp [errW_none, errW_some] <;> rfl) | (simp [*, errW_none, errW_some] <;> rfl), by (with_reducible repeat (first | apply Kd.R_alloc | apply Kd.R_drewN | apply Kd.R_drew)); exact HO_3.out, qb HB⟩

/-! ### spec_l00Letter: function 93 -/
mutual
def spec_l00Letter.j0 : Nat → ByteArray → Int → Int → Bool → Option (Int)
 | 0, _, _, _, _ => none
 | k + 1, x0, x1, x5, x27 => if x27 = true then (some 1) else (if x5 < 194 then (spec_l00Letter.j1 k x0 x1 x5 true) else (if x5 > 223 then (spec_l00Letter.j1 k x0 x1 x5 true) else (if (wrap64 (x1 + 1)) ≥ (x0.size : Int) then (spec_l00Letter.j1 k x0 x1 x5 true) else (if 0 ≤ (wrap64 (x1 + 1)) then (if (wrap64 (x1 + 1)) < (x0.size : Int) then (if (bt x0 (wrap64 (x1 + 1))) < 128 then (spec_l00Letter.j1 k x0 x1 x5 true) else (spec_l00Letter.j1 k x0 x1 x5 (decide ((bt x0 (wrap64 (x1 + 1))) > 191)))) else (none)) else (none)))))
def spec_l00Letter.j1 : Nat → ByteArray → Int → Int → Bool → Option (Int)
 | 0, _, _, _, _ => none
 | k + 1, x0, x1, x5, x54 => if x54 = true then (some 0) else (if 0 ≤ (wrap64 (x1 + 1)) then (if (wrap64 (x1 + 1)) < (x0.size : Int) then (if (wrap64 ((wrap64 ((wrap64 ((wrap64 ((wrap64 (x5)) - 192)) * 64)) + (wrap64 (bt x0 (wrap64 (x1 + 1)))))) - 128)) ≥ 192 then (if (wrap64 ((wrap64 ((wrap64 ((wrap64 ((wrap64 (x5)) - 192)) * 64)) + (wrap64 (bt x0 (wrap64 (x1 + 1)))))) - 128)) ≤ 591 then (if (wrap64 ((wrap64 ((wrap64 ((wrap64 ((wrap64 (x5)) - 192)) * 64)) + (wrap64 (bt x0 (wrap64 (x1 + 1)))))) - 128)) = 215 then (if (wrap64 ((wrap64 ((wrap64 ((wrap64 ((wrap64 (x5)) - 192)) * 64)) + (wrap64 (bt x0 (wrap64 (x1 + 1)))))) - 128)) ≥ 913 then (if (wrap64 ((wrap64 ((wrap64 ((wrap64 ((wrap64 (x5)) - 192)) * 64)) + (wrap64 (bt x0 (wrap64 (x1 + 1)))))) - 128)) ≤ 969 then (some 2) else (if (wrap64 ((wrap64 ((wrap64 ((wrap64 ((wrap64 (x5)) - 192)) * 64)) + (wrap64 (bt x0 (wrap64 (x1 + 1)))))) - 128)) ≥ 1040 then (if (wrap64 ((wrap64 ((wrap64 ((wrap64 ((wrap64 (x5)) - 192)) * 64)) + (wrap64 (bt x0 (wrap64 (x1 + 1)))))) - 128)) ≤ 1103 then (some 2) else (some 0)) else (some 0))) else (if (wrap64 ((wrap64 ((wrap64 ((wrap64 ((wrap64 (x5)) - 192)) * 64)) + (wrap64 (bt x0 (wrap64 (x1 + 1)))))) - 128)) ≥ 1040 then (if (wrap64 ((wrap64 ((wrap64 ((wrap64 ((wrap64 (x5)) - 192)) * 64)) + (wrap64 (bt x0 (wrap64 (x1 + 1)))))) - 128)) ≤ 1103 then (some 2) else (some 0)) else (some 0))) else (if (wrap64 ((wrap64 ((wrap64 ((wrap64 ((wrap64 (x5)) - 192)) * 64)) + (wrap64 (bt x0 (wrap64 (x1 + 1)))))) - 128)) = 247 then (if (wrap64 ((wrap64 ((wrap64 ((wrap64 ((wrap64 (x5)) - 192)) * 64)) + (wrap64 (bt x0 (wrap64 (x1 + 1)))))) - 128)) ≥ 913 then (if (wrap64 ((wrap64 ((wrap64 ((wrap64 ((wrap64 (x5)) - 192)) * 64)) + (wrap64 (bt x0 (wrap64 (x1 + 1)))))) - 128)) ≤ 969 then (some 2) else (if (wrap64 ((wrap64 ((wrap64 ((wrap64 ((wrap64 (x5)) - 192)) * 64)) + (wrap64 (bt x0 (wrap64 (x1 + 1)))))) - 128)) ≥ 1040 then (if (wrap64 ((wrap64 ((wrap64 ((wrap64 ((wrap64 (x5)) - 192)) * 64)) + (wrap64 (bt x0 (wrap64 (x1 + 1)))))) - 128)) ≤ 1103 then (some 2) else (some 0)) else (some 0))) else (if (wrap64 ((wrap64 ((wrap64 ((wrap64 ((wrap64 (x5)) - 192)) * 64)) + (wrap64 (bt x0 (wrap64 (x1 + 1)))))) - 128)) ≥ 1040 then (if (wrap64 ((wrap64 ((wrap64 ((wrap64 ((wrap64 (x5)) - 192)) * 64)) + (wrap64 (bt x0 (wrap64 (x1 + 1)))))) - 128)) ≤ 1103 then (some 2) else (some 0)) else (some 0))) else (some 2))) else (if (wrap64 ((wrap64 ((wrap64 ((wrap64 ((wrap64 (x5)) - 192)) * 64)) + (wrap64 (bt x0 (wrap64 (x1 + 1)))))) - 128)) ≥ 913 then (if (wrap64 ((wrap64 ((wrap64 ((wrap64 ((wrap64 (x5)) - 192)) * 64)) + (wrap64 (bt x0 (wrap64 (x1 + 1)))))) - 128)) ≤ 969 then (some 2) else (if (wrap64 ((wrap64 ((wrap64 ((wrap64 ((wrap64 (x5)) - 192)) * 64)) + (wrap64 (bt x0 (wrap64 (x1 + 1)))))) - 128)) ≥ 1040 then (if (wrap64 ((wrap64 ((wrap64 ((wrap64 ((wrap64 (x5)) - 192)) * 64)) + (wrap64 (bt x0 (wrap64 (x1 + 1)))))) - 128)) ≤ 1103 then (some 2) else (some 0)) else (some 0))) else (if (wrap64 ((wrap64 ((wrap64 ((wrap64 ((wrap64 (x5)) - 192)) * 64)) + (wrap64 (bt x0 (wrap64 (x1 + 1)))))) - 128)) ≥ 1040 then (if (wrap64 ((wrap64 ((wrap64 ((wrap64 ((wrap64 (x5)) - 192)) * 64)) + (wrap64 (bt x0 (wrap64 (x1 + 1)))))) - 128)) ≤ 1103 then (some 2) else (some 0)) else (some 0)))) else (if (wrap64 ((wrap64 ((wrap64 ((wrap64 ((wrap64 (x5)) - 192)) * 64)) + (wrap64 (bt x0 (wrap64 (x1 + 1)))))) - 128)) ≥ 913 then (if (wrap64 ((wrap64 ((wrap64 ((wrap64 ((wrap64 (x5)) - 192)) * 64)) + (wrap64 (bt x0 (wrap64 (x1 + 1)))))) - 128)) ≤ 969 then (some 2) else (if (wrap64 ((wrap64 ((wrap64 ((wrap64 ((wrap64 (x5)) - 192)) * 64)) + (wrap64 (bt x0 (wrap64 (x1 + 1)))))) - 128)) ≥ 1040 then (if (wrap64 ((wrap64 ((wrap64 ((wrap64 ((wrap64 (x5)) - 192)) * 64)) + (wrap64 (bt x0 (wrap64 (x1 + 1)))))) - 128)) ≤ 1103 then (some 2) else (some 0)) else (some 0))) else (if (wrap64 ((wrap64 ((wrap64 ((wrap64 ((wrap64 (x5)) - 192)) * 64)) + (wrap64 (bt x0 (wrap64 (x1 + 1)))))) - 128)) ≥ 1040 then (if (wrap64 ((wrap64 ((wrap64 ((wrap64 ((wrap64 (x5)) - 192)) * 64)) + (wrap64 (bt x0 (wrap64 (x1 + 1)))))) - 128)) ≤ 1103 then (some 2) else (some 0)) else (some 0)))) else (none)) else (none))
end
def spec_l00Letter.f (k : Nat) (a0 : ByteArray) (a1 : Int) : Option (Int) := if 0 ≤ a1 then (if a1 < (a0.size : Int) then (if (bt a0 a1) ≥ 97 then (if (bt a0 a1) ≤ 122 then (spec_l00Letter.j0 k a0 a1 (bt a0 a1) true) else (if (bt a0 a1) ≥ 65 then (if (bt a0 a1) ≤ 90 then (spec_l00Letter.j0 k a0 a1 (bt a0 a1) true) else (spec_l00Letter.j0 k a0 a1 (bt a0 a1) ((bt a0 a1) == 95))) else (spec_l00Letter.j0 k a0 a1 (bt a0 a1) ((bt a0 a1) == 95)))) else (if (bt a0 a1) ≥ 65 then (if (bt a0 a1) ≤ 90 then (spec_l00Letter.j0 k a0 a1 (bt a0 a1) true) else (spec_l00Letter.j0 k a0 a1 (bt a0 a1) ((bt a0 a1) == 95))) else (spec_l00Letter.j0 k a0 a1 (bt a0 a1) ((bt a0 a1) == 95)))) else (none)) else (none)
theorem spec_l00Letter.mono_l : ∀ k, (∀ y0 y1 y2 y3, LeO (spec_l00Letter.j0 k y0 y1 y2 y3) (spec_l00Letter.j0 (k + 1) y0 y1 y2 y3)) ∧ (∀ y0 y1 y2 y3, LeO (spec_l00Letter.j1 k y0 y1 y2 y3) (spec_l00Letter.j1 (k + 1) y0 y1 y2 y3))
 | 0 => ⟨fun _ _ _ _ r h => by simp [spec_l00Letter.j0] at h, fun _ _ _ _ r h => by simp [spec_l00Letter.j1] at h⟩
 | k + 1 => by
  obtain ⟨ih0, ih1⟩ := spec_l00Letter.mono_l k; refine ⟨?_, ?_⟩
  ·intro y0 y1 y2 y3; unfold spec_l00Letter.j0
   repeat' first
   | (with_reducible exact ih0 _ _ _ _)
   | (with_reducible exact ih1 _ _ _ _)
   | (with_reducible exact LeO.refl _)
   | (with_reducible exact LeO.none _)
   | (with_reducible refine LeO.ite ?_ ?_)
   | (with_reducible refine LeO.bind ?_ (fun _ => ?_))
   | exact ih0 _ _ _ _
   | exact ih1 _ _ _ _
   | exact LeO.none _
   | refine LeO.ite ?_ ?_
   | refine LeO.bind ?_ (fun _ => ?_)
  ·intro y0 y1 y2 y3; unfold spec_l00Letter.j1
   repeat' first
   | (with_reducible exact ih0 _ _ _ _)
   | (with_reducible exact ih1 _ _ _ _)
   | (with_reducible exact LeO.refl _)
   | (with_reducible exact LeO.none _)
   | (with_reducible refine LeO.ite ?_ ?_)
   | (with_reducible refine LeO.bind ?_ (fun _ => ?_))
   | exact ih0 _ _ _ _
   | exact ih1 _ _ _ _
   | exact LeO.none _
   | refine LeO.ite ?_ ?_
   | refine LeO.bind ?_ (fun _ => ?_)
theorem spec_l00Letter.mono : ∀ a0 a1 k, LeO (spec_l00Letter.f k a0 a1) (spec_l00Letter.f (k + 1) a0 a1) := by
 intro a0 a1 k; obtain ⟨ih0, ih1⟩ := spec_l00Letter.mono_l k; unfold spec_l00Letter.f
 repeat' first
   | (with_reducible exact ih0 _ _ _ _)
   | (with_reducible exact ih1 _ _ _ _)
   | (with_reducible exact LeO.refl _)
   | (with_reducible exact LeO.none _)
   | (with_reducible refine LeO.ite ?_ ?_)
   | (with_reducible refine LeO.bind ?_ (fun _ => ?_))
   | exact ih0 _ _ _ _
   | exact ih1 _ _ _ _
   | exact LeO.none _
   | refine LeO.ite ?_ ?_
   | refine LeO.bind ?_ (fun _ => ?_)
set_option maxHeartbeats 8000000 in
set_option maxRecDepth 100000 in
theorem spec_l00Letter.calls (k : Nat) (a0 : ByteArray) (a1 : Int) (r : Int) (w : World) (h : spec_l00Letter.f k a0 a1 = some r) :
  Calls Tryz.prog 93 #[.string a0, .int .i64 a1] w fun e w' => e = .returned (.int .i64 r) ∧ Drawn0 w w' := by
 have H : (if 0 ≤ a1 then (if a1 < (a0.size : Int) then (if (bt a0 a1) ≥ 97 then (if (bt a0 a1) ≤ 122 then (spec_l00Letter.j0 k a0 a1 (bt a0 a1) true) else (if (bt a0 a1) ≥ 65 then (if (bt a0 a1) ≤ 90 then (spec_l00Letter.j0 k a0 a1 (bt a0 a1) true) else (spec_l00Letter.j0 k a0 a1 (bt a0 a1) ((bt a0 a1) == 95))) else (spec_l00Letter.j0 k a0 a1 (bt a0 a1) ((bt a0 a1) == 95)))) else (if (bt a0 a1) ≥ 65 then (if (bt a0 a1) ≤ 90 then (spec_l00Letter.j0 k a0 a1 (bt a0 a1) true) else (spec_l00Letter.j0 k a0 a1 (bt a0 a1) ((bt a0 a1) == 95))) else (spec_l00Letter.j0 k a0 a1 (bt a0 a1) ((bt a0 a1) == 95)))) else (none)) else (none)) = some r := h; clear h; by_cases c3 : 0 ≤ a1
 ·rw [if_pos c3] at H; have c3b0 : decide (0 ≤ a1) = true := decide_eq_true c3; clear c3; by_cases c4 : a1 < (a0.size : Int)
  ·rw [if_pos c4] at H; have c4b0 : decide (a1 < (a0.size : Int)) = true := decide_eq_true c4; clear c4; have HC6 := Aside0.mk H; clear H; have p5 : 0 ≤ (a1 : Int) := of_decide_eq_true (by first | (with_reducible assumption) | assumption); have q5 : a1 < (a0.size : Int) := of_decide_eq_true (by first | (with_reducible assumption) | assumption); have hx5 := bt_at a0 a1; replace p5 := eq_true p5; replace q5 := eq_true q5; go_enter Tryz.func93, Tryz.ntmps93
   go_upto_region 2 with (fail)
   go_cut [27] (fun v27 wc => ∃ (kq : Nat) (x27_5 : Bool), v27 = .bool x27_5 ∧ Aside0 (spec_l00Letter.j0 kq a0 a1 (bt a0 a1) x27_5 = some r) ∧ Aside0 (kq ≤ k) ∧ Drawn0 w wc)
   case first =>
    have H := HC6.out; clear HC6; by_cases c7 : (bt a0 a1) ≥ 97
    ·rw [if_pos c7] at H; have c7b0 : decide (97 ≤ (bt a0 a1)) = true := decide_eq_true c7; clear c7
     (first | rw [c7b0] | (simp only [i64_w, i32_w]; rw [c7b0]) | skip)
     by_cases c8 : (bt a0 a1) ≤ 122
     ·rw [if_pos c8] at H; have c8b0 : decide ((bt a0 a1) ≤ 122) = true := decide_eq_true c8; clear c8; have H' := Aside0.mk H; clear H; go_wp2
      go_meet
      case rel => exact ⟨_, (true), (by first | rfl | (simp; done) | (simp [*]; done)), H', ⟨by first | omega | exact Nat.le_refl _⟩, by repeat (first | exact Drawn0.refl _ | apply Drawn0.step)⟩
     ·rw [if_neg c8] at H; have c8b0 : decide ((bt a0 a1) ≤ 122) = false := decide_eq_false c8; clear c8; by_cases c9 : (bt a0 a1) ≥ 65
      ·rw [if_pos c9] at H; have c9b0 : decide (65 ≤ (bt a0 a1)) = true := decide_eq_true c9; clear c9; by_cases c10 : (bt a0 a1) ≤ 90
       ·rw [if_pos c10] at H; have c10b0 : decide ((bt a0 a1) ≤ 90) = true := decide_eq_true c10; clear c10; have H' := Aside0.mk H; clear H; go_wp2
        go_meet
        case rel => exact ⟨_, (true), (by first | rfl | (simp; done) | (simp [*]; done)), H', ⟨by first | omega | exact Nat.le_refl _⟩, by repeat (first | exact Drawn0.refl _ | apply Drawn0.step)⟩
       ·rw [if_neg c10] at H; have c10b0 : decide ((bt a0 a1) ≤ 90) = false := decide_eq_false c10; clear c10; have H' := Aside0.mk H; clear H; go_wp2
        go_meet
        case rel => exact ⟨_, (((bt a0 a1) == 95)), (by first | rfl | (simp; done) | (simp [*]; done)), H', ⟨by first | omega | exact Nat.le_refl _⟩, by repeat (first | exact Drawn0.refl _ | apply Drawn0.step)⟩
      ·rw [if_neg c9] at H; have c9b0 : decide (65 ≤ (bt a0 a1)) = false := decide_eq_false c9; clear c9; have H' := Aside0.mk H; clear H; go_wp2
       go_meet
       case rel => exact ⟨_, (((bt a0 a1) == 95)), (by first | rfl | (simp; done) | (simp [*]; done)), H', ⟨by first | omega | exact Nat.le_refl _⟩, by repeat (first | exact Drawn0.refl _ | apply Drawn0.step)⟩
    ·rw [if_neg c7] at H; have c7b0 : decide (97 ≤ (bt a0 a1)) = false := decide_eq_false c7; clear c7
     (first | rw [c7b0] | (simp only [i64_w, i32_w]; rw [c7b0]) | skip)
     by_cases c11 : (bt a0 a1) ≥ 65
     ·rw [if_pos c11] at H; have c11b0 : decide (65 ≤ (bt a0 a1)) = true := decide_eq_true c11; clear c11; by_cases c12 : (bt a0 a1) ≤ 90
      ·rw [if_pos c12] at H; have c12b0 : decide ((bt a0 a1) ≤ 90) = true := decide_eq_true c12; clear c12; have H' := Aside0.mk H; clear H; go_wp2
       go_meet
       case rel => exact ⟨_, (true), (by first | rfl | (simp; done) | (simp [*]; done)), H', ⟨by first | omega | exact Nat.le_refl _⟩, by repeat (first | exact Drawn0.refl _ | apply Drawn0.step)⟩
      ·rw [if_neg c12] at H; have c12b0 : decide ((bt a0 a1) ≤ 90) = false := decide_eq_false c12; clear c12; have H' := Aside0.mk H; clear H; go_wp2
       go_meet
       case rel => exact ⟨_, (((bt a0 a1) == 95)), (by first | rfl | (simp; done) | (simp [*]; done)), H', ⟨by first | omega | exact Nat.le_refl _⟩, by repeat (first | exact Drawn0.refl _ | apply Drawn0.step)⟩
     ·rw [if_neg c11] at H; have c11b0 : decide (65 ≤ (bt a0 a1)) = false := decide_eq_false c11; clear c11; have H' := Aside0.mk H; clear H; go_wp2
      go_meet
      case rel => exact ⟨_, (((bt a0 a1) == 95)), (by first | rfl | (simp; done) | (simp [*]; done)), H', ⟨by first | omega | exact Nat.le_refl _⟩, by repeat (first | exact Drawn0.refl _ | apply Drawn0.step)⟩
   case rest =>
    clear HC6; (try clear c1); (try clear p2); (try clear c3); (try clear c3b0); (try clear c4); (try clear c4b0); (try clear p5); (try clear q5); (try clear hx5); (try clear c7); (try clear c7b0); (try clear c8); (try clear c8b0); (try clear c9); (try clear c9b0); (try clear c10); (try clear c10b0); (try clear c11); (try clear c11b0); (try clear c12); (try clear c12b0); (try clear p5); (try clear q5); obtain ⟨kq, x27_5, rfl, HA, HJ5, ⟨mc5, rfl⟩⟩ := hcut
    cases kq with
    | zero => exact absurd HA.out (by simp [spec_l00Letter.j0])
    | succ kj5 =>
     have H := HA.out; clear HA; simp only [spec_l00Letter.j0] at H; by_cases c13 : x27_5 = true
     ·subst c13
      have H1 : (some 1) = some r := by rw [if_pos rfl] at H; exact H
      clear H; have H := H1; clear H1; obtain rfl := Option.some.inj H; go_wp2; go_ret; exact ⟨by first | rfl | (simp; done) | (simp [*]; done), by repeat (first | exact Drawn0.refl _ | apply Drawn0.step)⟩
     ·replace c13 := Bool.eq_false_iff.mpr c13; subst c13
      have H1 : (if (bt a0 a1) < 194 then (spec_l00Letter.j1 kj5 a0 a1 (bt a0 a1) true) else (if (bt a0 a1) > 223 then (spec_l00Letter.j1 kj5 a0 a1 (bt a0 a1) true) else (if (wrap64 (a1 + 1)) ≥ (a0.size : Int) then (spec_l00Letter.j1 kj5 a0 a1 (bt a0 a1) true) else (if 0 ≤ (wrap64 (a1 + 1)) then (if (wrap64 (a1 + 1)) < (a0.size : Int) then (if (bt a0 (wrap64 (a1 + 1))) < 128 then (spec_l00Letter.j1 kj5 a0 a1 (bt a0 a1) true) else (spec_l00Letter.j1 kj5 a0 a1 (bt a0 a1) (decide ((bt a0 (wrap64 (a1 + 1))) > 191)))) else (none)) else (none))))) = some r := by rw [if_neg (show ¬ (false = true) by decide)] at H; exact H
      clear H; have H := H1; clear H1; have HC14 := Aside0.mk H; clear H
      go_upto_region 4 with (fail)
      go_cut [54] (fun v54 wc => ∃ (kq : Nat) (x54_13 : Bool), v54 = .bool x54_13 ∧ Aside0 (spec_l00Letter.j1 kq a0 a1 (bt a0 a1) x54_13 = some r) ∧ Aside0 (kq ≤ kj5) ∧ Drawn0 w wc)
      case first =>
       have H := HC14.out; clear HC14; by_cases c15 : (bt a0 a1) < 194
       ·rw [if_pos c15] at H; have c15b0 : decide ((bt a0 a1) < 194) = true := decide_eq_true c15; clear c15
        (first | rw [c15b0] | (simp only [i64_w, i32_w]; rw [c15b0]) | skip)
        have H' := Aside0.mk H; clear H; go_wp2
        go_meet
        case rel => exact ⟨_, (true), (by first | rfl | (simp; done) | (simp [*]; done)), H', ⟨by have := HJ5.out; first | omega | exact Nat.le_refl _⟩, by repeat (first | exact Drawn0.refl _ | apply Drawn0.step)⟩
       ·rw [if_neg c15] at H; have c15b0 : decide ((bt a0 a1) < 194) = false := decide_eq_false c15; clear c15
        (first | rw [c15b0] | (simp only [i64_w, i32_w]; rw [c15b0]) | skip)
        by_cases c16 : (bt a0 a1) > 223
        ·rw [if_pos c16] at H; have c16b0 : decide (223 < (bt a0 a1)) = true := decide_eq_true c16; clear c16; have H' := Aside0.mk H; clear H; go_wp2
         go_meet
         case rel => exact ⟨_, (true), (by first | rfl | (simp; done) | (simp [*]; done)), H', ⟨by have := HJ5.out; first | omega | exact Nat.le_refl _⟩, by repeat (first | exact Drawn0.refl _ | apply Drawn0.step)⟩
        ·rw [if_neg c16] at H; have c16b0 : decide (223 < (bt a0 a1)) = false := decide_eq_false c16; clear c16; by_cases c17 : (wrap64 (a1 + 1)) ≥ (a0.size : Int)
         ·rw [if_pos c17] at H; have c17b0 : decide ((a0.size : Int) ≤ (wrap64 (a1 + 1))) = true := decide_eq_true c17; clear c17; have H' := Aside0.mk H; clear H; go_wp2
          go_meet
          case rel => exact ⟨_, (true), (by first | rfl | (simp; done) | (simp [*]; done)), H', ⟨by have := HJ5.out; first | omega | exact Nat.le_refl _⟩, by repeat (first | exact Drawn0.refl _ | apply Drawn0.step)⟩
         ·rw [if_neg c17] at H; have c17b0 : decide ((a0.size : Int) ≤ (wrap64 (a1 + 1))) = false := decide_eq_false c17; clear c17; obtain ⟨ji18, hji18⟩ : ∃ j_ : Int, (wrap64 (a1 + 1)) = j_ := ⟨_, rfl⟩
          replace H : (if 0 ≤ (ji18) then (if (ji18) < (a0.size : Int) then (if (bt a0 (ji18)) < 128 then (spec_l00Letter.j1 kj5 a0 a1 (bt a0 a1) true) else (spec_l00Letter.j1 kj5 a0 a1 (bt a0 a1) (decide ((bt a0 (ji18)) > 191)))) else (none)) else (none)) = some r := by first | (rw [hji18] at H; exact H) | (simp only [hji18] at H ⊢; exact H)
          (try rw [hji18] at c17b0)
          have hji18w : (IntKind.i64.wrap (a1 + 1)) = ji18 := (i64_w _).trans hji18; by_cases c19 : 0 ≤ (ji18)
          ·rw [if_pos c19] at H; have c19b0 : decide (0 ≤ (ji18)) = true := decide_eq_true c19; clear c19; by_cases c20 : (ji18) < (a0.size : Int)
           ·rw [if_pos c20] at H; have c20b0 : decide ((ji18) < (a0.size : Int)) = true := decide_eq_true c20; clear c20; by_cases c22 : (bt a0 (ji18)) < 128
            ·rw [if_pos c22] at H; have c22b0 : decide ((bt a0 (ji18)) < 128) = true := decide_eq_true c22; clear c22; have H' := Aside0.mk H; clear H; have p21 : 0 ≤ ((ji18) : Int) := of_decide_eq_true (by first | (with_reducible assumption) | assumption); have q21 : (ji18) < (a0.size : Int) := of_decide_eq_true (by first | (with_reducible assumption) | assumption); have hx21 := bt_at a0 (ji18); replace p21 := eq_true p21; replace q21 := eq_true q21; go_wp2
             go_meet
             case rel => exact ⟨_, (true), (by first | rfl | (simp; done) | (simp [*]; done)), H', ⟨by have := HJ5.out; first | omega | exact Nat.le_refl _⟩, by repeat (first | exact Drawn0.refl _ | apply Drawn0.step)⟩
            ·rw [if_neg c22] at H; have c22b0 : decide ((bt a0 (ji18)) < 128) = false := decide_eq_false c22; clear c22; have H' := Aside0.mk H; clear H; have p21 : 0 ≤ ((ji18) : Int) := of_decide_eq_true (by first | (with_reducible assumption) | assumption); have q21 : (ji18) < (a0.size : Int) := of_decide_eq_true (by first | (with_reducible assumption) | assumption); have hx21 := bt_at a0 (ji18); replace p21 := eq_true p21; replace q21 := eq_true q21; have p23 : 0 ≤ ((ji18) : Int) := of_decide_eq_true (by first | (with_reducible assumption) | assumption); have q23 : (ji18) < (a0.size : Int) := of_decide_eq_true (by first | (with_reducible assumption) | assumption); have hx23 := bt_at a0 (ji18); replace p23 := eq_true p23; replace q23 := eq_true q23; go_wp2
             go_meet
             case rel => exact ⟨_, (decide ((bt a0 (ji18)) > 191)), (by first | rfl | (simp; done) | (simp only [← hji18] <;> (first | rfl | simp)) | (simp [*]; done)), H', ⟨by have := HJ5.out; first | omega | exact Nat.le_refl _⟩, by repeat (first | exact Drawn0.refl _ | apply Drawn0.step)⟩
           ·rw [if_neg c20] at H; exact absurd H (by simp)
          ·rw [if_neg c19] at H; exact absurd H (by simp)
      case rest =>
       clear HC14; (try clear c1); (try clear c2); (try clear p2); (try clear q2); (try clear hx2); (try clear c3); (try clear c3b0); (try clear c4); (try clear c4b0); (try clear c5); (try clear p5); (try clear q5); (try clear hx5); (try clear p6); (try clear c7); (try clear c7b0); (try clear c8); (try clear c8b0); (try clear c9); (try clear c9b0); (try clear c10); (try clear c10b0); (try clear c11); (try clear c11b0); (try clear c12); (try clear c12b0); (try clear c13); (try clear c15); (try clear c15b0); (try clear c16); (try clear c16b0); (try clear c17); (try clear c17b0); (try clear c19); (try clear c19b0); (try clear c20); (try clear c20b0); (try clear p21); (try clear q21); (try clear hx21); (try clear c22); (try clear c22b0); (try clear p23); (try clear q23); (try clear hx23); (try clear p2); (try clear p21); (try clear p23); (try clear p5); (try clear q21); (try clear q23); (try clear q5); obtain ⟨kq, x54_13, rfl, HA, HJ13, ⟨mc13, rfl⟩⟩ := hcut
       cases kq with
       | zero => exact absurd HA.out (by simp [spec_l00Letter.j1])
       | succ kj13 =>
        have H := HA.out; clear HA; simp only [spec_l00Letter.j1] at H; by_cases c24 : x54_13 = true
        ·subst c24
         have H1 : (some 0) = some r := by rw [if_pos rfl] at H; exact H
         clear H; have H := H1; clear H1; obtain rfl := Option.some.inj H; go_wp2; go_ret; exact ⟨by first | rfl | (simp; done) | (simp [*]; done), by repeat (first | exact Drawn0.refl _ | apply Drawn0.step)⟩
        ·replace c24 := Bool.eq_false_iff.mpr c24; subst c24
         have H1 : (if 0 ≤ (wrap64 (a1 + 1)) then (if (wrap64 (a1 + 1)) < (a0.size : Int) then (if (wrap64 ((wrap64 ((wrap64 ((wrap64 ((wrap64 ((bt a0 a1))) - 192)) * 64)) + (wrap64 (bt a0 (wrap64 (a1 + 1)))))) - 128)) ≥ 192 then (if (wrap64 ((wrap64 ((wrap64 ((wrap64 ((wrap64 ((bt a0 a1))) - 192)) * 64)) + (wrap64 (bt a0 (wrap64 (a1 + 1)))))) - 128)) ≤ 591 then (if (wrap64 ((wrap64 ((wrap64 ((wrap64 ((wrap64 ((bt a0 a1))) - 192)) * 64)) + (wrap64 (bt a0 (wrap64 (a1 + 1)))))) - 128)) = 215 then (if (wrap64 ((wrap64 ((wrap64 ((wrap64 ((wrap64 ((bt a0 a1))) - 192)) * 64)) + (wrap64 (bt a0 (wrap64 (a1 + 1)))))) - 128)) ≥ 913 then (if (wrap64 ((wrap64 ((wrap64 ((wrap64 ((wrap64 ((bt a0 a1))) - 192)) * 64)) + (wrap64 (bt a0 (wrap64 (a1 + 1)))))) - 128)) ≤ 969 then (some 2) else (if (wrap64 ((wrap64 ((wrap64 ((wrap64 ((wrap64 ((bt a0 a1))) - 192)) * 64)) + (wrap64 (bt a0 (wrap64 (a1 + 1)))))) - 128)) ≥ 1040 then (if (wrap64 ((wrap64 ((wrap64 ((wrap64 ((wrap64 ((bt a0 a1))) - 192)) * 64)) + (wrap64 (bt a0 (wrap64 (a1 + 1)))))) - 128)) ≤ 1103 then (some 2) else (some 0)) else (some 0))) else (if (wrap64 ((wrap64 ((wrap64 ((wrap64 ((wrap64 ((bt a0 a1))) - 192)) * 64)) + (wrap64 (bt a0 (wrap64 (a1 + 1)))))) - 128)) ≥ 1040 then (if (wrap64 ((wrap64 ((wrap64 ((wrap64 ((wrap64 ((bt a0 a1))) - 192)) * 64)) + (wrap64 (bt a0 (wrap64 (a1 + 1)))))) - 128)) ≤ 1103 then (some 2) else (some 0)) else (some 0))) else (if (wrap64 ((wrap64 ((wrap64 ((wrap64 ((wrap64 ((bt a0 a1))) - 192)) * 64)) + (wrap64 (bt a0 (wrap64 (a1 + 1)))))) - 128)) = 247 then (if (wrap64 ((wrap64 ((wrap64 ((wrap64 ((wrap64 ((bt a0 a1))) - 192)) * 64)) + (wrap64 (bt a0 (wrap64 (a1 + 1)))))) - 128)) ≥ 913 then (if (wrap64 ((wrap64 ((wrap64 ((wrap64 ((wrap64 ((bt a0 a1))) - 192)) * 64)) + (wrap64 (bt a0 (wrap64 (a1 + 1)))))) - 128)) ≤ 969 then (some 2) else (if (wrap64 ((wrap64 ((wrap64 ((wrap64 ((wrap64 ((bt a0 a1))) - 192)) * 64)) + (wrap64 (bt a0 (wrap64 (a1 + 1)))))) - 128)) ≥ 1040 then (if (wrap64 ((wrap64 ((wrap64 ((wrap64 ((wrap64 ((bt a0 a1))) - 192)) * 64)) + (wrap64 (bt a0 (wrap64 (a1 + 1)))))) - 128)) ≤ 1103 then (some 2) else (some 0)) else (some 0))) else (if (wrap64 ((wrap64 ((wrap64 ((wrap64 ((wrap64 ((bt a0 a1))) - 192)) * 64)) + (wrap64 (bt a0 (wrap64 (a1 + 1)))))) - 128)) ≥ 1040 then (if (wrap64 ((wrap64 ((wrap64 ((wrap64 ((wrap64 ((bt a0 a1))) - 192)) * 64)) + (wrap64 (bt a0 (wrap64 (a1 + 1)))))) - 128)) ≤ 1103 then (some 2) else (some 0)) else (some 0))) else (some 2))) else (if (wrap64 ((wrap64 ((wrap64 ((wrap64 ((wrap64 ((bt a0 a1))) - 192)) * 64)) + (wrap64 (bt a0 (wrap64 (a1 + 1)))))) - 128)) ≥ 913 then (if (wrap64 ((wrap64 ((wrap64 ((wrap64 ((wrap64 ((bt a0 a1))) - 192)) * 64)) + (wrap64 (bt a0 (wrap64 (a1 + 1)))))) - 128)) ≤ 969 then (some 2) else (if (wrap64 ((wrap64 ((wrap64 ((wrap64 ((wrap64 ((bt a0 a1))) - 192)) * 64)) + (wrap64 (bt a0 (wrap64 (a1 + 1)))))) - 128)) ≥ 1040 then (if (wrap64 ((wrap64 ((wrap64 ((wrap64 ((wrap64 ((bt a0 a1))) - 192)) * 64)) + (wrap64 (bt a0 (wrap64 (a1 + 1)))))) - 128)) ≤ 1103 then (some 2) else (some 0)) else (some 0))) else (if (wrap64 ((wrap64 ((wrap64 ((wrap64 ((wrap64 ((bt a0 a1))) - 192)) * 64)) + (wrap64 (bt a0 (wrap64 (a1 + 1)))))) - 128)) ≥ 1040 then (if (wrap64 ((wrap64 ((wrap64 ((wrap64 ((wrap64 ((bt a0 a1))) - 192)) * 64)) + (wrap64 (bt a0 (wrap64 (a1 + 1)))))) - 128)) ≤ 1103 then (some 2) else (some 0)) else (some 0)))) else (if (wrap64 ((wrap64 ((wrap64 ((wrap64 ((wrap64 ((bt a0 a1))) - 192)) * 64)) + (wrap64 (bt a0 (wrap64 (a1 + 1)))))) - 128)) ≥ 913 then (if (wrap64 ((wrap64 ((wrap64 ((wrap64 ((wrap64 ((bt a0 a1))) - 192)) * 64)) + (wrap64 (bt a0 (wrap64 (a1 + 1)))))) - 128)) ≤ 969 then (some 2) else (if (wrap64 ((wrap64 ((wrap64 ((wrap64 ((wrap64 ((bt a0 a1))) - 192)) * 64)) + (wrap64 (bt a0 (wrap64 (a1 + 1)))))) - 128)) ≥ 1040 then (if (wrap64 ((wrap64 ((wrap64 ((wrap64 ((wrap64 ((bt a0 a1))) - 192)) * 64)) + (wrap64 (bt a0 (wrap64 (a1 + 1)))))) - 128)) ≤ 1103 then (some 2) else (some 0)) else (some 0))) else (if (wrap64 ((wrap64 ((wrap64 ((wrap64 ((wrap64 ((bt a0 a1))) - 192)) * 64)) + (wrap64 (bt a0 (wrap64 (a1 + 1)))))) - 128)) ≥ 1040 then (if (wrap64 ((wrap64 ((wrap64 ((wrap64 ((wrap64 ((bt a0 a1))) - 192)) * 64)) + (wrap64 (bt a0 (wrap64 (a1 + 1)))))) - 128)) ≤ 1103 then (some 2) else (some 0)) else (some 0)))) else (none)) else (none)) = some r := by rw [if_neg (show ¬ (false = true) by decide)] at H; exact H
         clear H; have H := H1; clear H1; obtain ⟨ji25, hji25⟩ : ∃ j_ : Int, (wrap64 (a1 + 1)) = j_ := ⟨_, rfl⟩
         replace H : (if 0 ≤ (ji25) then (if (ji25) < (a0.size : Int) then (if (wrap64 ((wrap64 ((wrap64 ((wrap64 ((wrap64 ((bt a0 a1))) - 192)) * 64)) + (wrap64 (bt a0 (ji25))))) - 128)) ≥ 192 then (if (wrap64 ((wrap64 ((wrap64 ((wrap64 ((wrap64 ((bt a0 a1))) - 192)) * 64)) + (wrap64 (bt a0 (ji25))))) - 128)) ≤ 591 then (if (wrap64 ((wrap64 ((wrap64 ((wrap64 ((wrap64 ((bt a0 a1))) - 192)) * 64)) + (wrap64 (bt a0 (ji25))))) - 128)) = 215 then (if (wrap64 ((wrap64 ((wrap64 ((wrap64 ((wrap64 ((bt a0 a1))) - 192)) * 64)) + (wrap64 (bt a0 (ji25))))) - 128)) ≥ 913 then (if (wrap64 ((wrap64 ((wrap64 ((wrap64 ((wrap64 ((bt a0 a1))) - 192)) * 64)) + (wrap64 (bt a0 (ji25))))) - 128)) ≤ 969 then (some 2) else (if (wrap64 ((wrap64 ((wrap64 ((wrap64 ((wrap64 ((bt a0 a1))) - 192)) * 64)) + (wrap64 (bt a0 (ji25))))) - 128)) ≥ 1040 then (if (wrap64 ((wrap64 ((wrap64 ((wrap64 ((wrap64 ((bt a0 a1))) - 192)) * 64)) + (wrap64 (bt a0 (ji25))))) - 128)) ≤ 1103 then (some 2) else (some 0)) else (some 0))) else (if (wrap64 ((wrap64 ((wrap64 ((wrap64 ((wrap64 ((bt a0 a1))) - 192)) * 64)) + (wrap64 (bt a0 (ji25))))) - 128)) ≥ 1040 then (if (wrap64 ((wrap64 ((wrap64 ((wrap64 ((wrap64 ((bt a0 a1))) - 192)) * 64)) + (wrap64 (bt a0 (ji25))))) - 128)) ≤ 1103 then (some 2) else (some 0)) else (some 0))) else (if (wrap64 ((wrap64 ((wrap64 ((wrap64 ((wrap64 ((bt a0 a1))) - 192)) * 64)) + (wrap64 (bt a0 (ji25))))) - 128)) = 247 then (if (wrap64 ((wrap64 ((wrap64 ((wrap64 ((wrap64 ((bt a0 a1))) - 192)) * 64)) + (wrap64 (bt a0 (ji25))))) - 128)) ≥ 913 then (if (wrap64 ((wrap64 ((wrap64 ((wrap64 ((wrap64 ((bt a0 a1))) - 192)) * 64)) + (wrap64 (bt a0 (ji25))))) - 128)) ≤ 969 then (some 2) else (if (wrap64 ((wrap64 ((wrap64 ((wrap64 ((wrap64 ((bt a0 a1))) - 192)) * 64)) + (wrap64 (bt a0 (ji25))))) - 128)) ≥ 1040 then (if (wrap64 ((wrap64 ((wrap64 ((wrap64 ((wrap64 ((bt a0 a1))) - 192)) * 64)) + (wrap64 (bt a0 (ji25))))) - 128)) ≤ 1103 then (some 2) else (some 0)) else (some 0))) else (if (wrap64 ((wrap64 ((wrap64 ((wrap64 ((wrap64 ((bt a0 a1))) - 192)) * 64)) + (wrap64 (bt a0 (ji25))))) - 128)) ≥ 1040 then (if (wrap64 ((wrap64 ((wrap64 ((wrap64 ((wrap64 ((bt a0 a1))) - 192)) * 64)) + (wrap64 (bt a0 (ji25))))) - 128)) ≤ 1103 then (some 2) else (some 0)) else (some 0))) else (some 2))) else (if (wrap64 ((wrap64 ((wrap64 ((wrap64 ((wrap64 ((bt a0 a1))) - 192)) * 64)) + (wrap64 (bt a0 (ji25))))) - 128)) ≥ 913 then (if (wrap64 ((wrap64 ((wrap64 ((wrap64 ((wrap64 ((bt a0 a1))) - 192)) * 64)) + (wrap64 (bt a0 (ji25))))) - 128)) ≤ 969 then (some 2) else (if (wrap64 ((wrap64 ((wrap64 ((wrap64 ((wrap64 ((bt a0 a1))) - 192)) * 64)) + (wrap64 (bt a0 (ji25))))) - 128)) ≥ 1040 then (if (wrap64 ((wrap64 ((wrap64 ((wrap64 ((wrap64 ((bt a0 a1))) - 192)) * 64)) + (wrap64 (bt a0 (ji25))))) - 128)) ≤ 1103 then (some 2) else (some 0)) else (some 0))) else (if (wrap64 ((wrap64 ((wrap64 ((wrap64 ((wrap64 ((bt a0 a1))) - 192)) * 64)) + (wrap64 (bt a0 (ji25))))) - 128)) ≥ 1040 then (if (wrap64 ((wrap64 ((wrap64 ((wrap64 ((wrap64 ((bt a0 a1))) - 192)) * 64)) + (wrap64 (bt a0 (ji25))))) - 128)) ≤ 1103 then (some 2) else (some 0)) else (some 0)))) else (if (wrap64 ((wrap64 ((wrap64 ((wrap64 ((wrap64 ((bt a0 a1))) - 192)) * 64)) + (wrap64 (bt a0 (ji25))))) - 128)) ≥ 913 then (if (wrap64 ((wrap64 ((wrap64 ((wrap64 ((wrap64 ((bt a0 a1))) - 192)) * 64)) + (wrap64 (bt a0 (ji25))))) - 128)) ≤ 969 then (some 2) else (if (wrap64 ((wrap64 ((wrap64 ((wrap64 ((wrap64 ((bt a0 a1))) - 192)) * 64)) + (wrap64 (bt a0 (ji25))))) - 128)) ≥ 1040 then (if (wrap64 ((wrap64 ((wrap64 ((wrap64 ((wrap64 ((bt a0 a1))) - 192)) * 64)) + (wrap64 (bt a0 (ji25))))) - 128)) ≤ 1103 then (some 2) else (some 0)) else (some 0))) else (if (wrap64 ((wrap64 ((wrap64 ((wrap64 ((wrap64 ((bt a0 a1))) - 192)) * 64)) + (wrap64 (bt a0 (ji25))))) - 128)) ≥ 1040 then (if (wrap64 ((wrap64 ((wrap64 ((wrap64 ((wrap64 ((bt a0 a1))) - 192)) * 64)) + (wrap64 (bt a0 (ji25))))) - 128)) ≤ 1103 then (some 2) else (some 0)) else (some 0)))) else (none)) else (none)) = some r := by first | (rw [hji25] at H; exact H) | (simp only [hji25] at H ⊢; exact H)
         have hji25w : (IntKind.i64.wrap (a1 + 1)) = ji25 := (i64_w _).trans hji25; (try clear hji18w); (try clear hji18); by_cases c26 : 0 ≤ (ji25)
         ·rw [if_pos c26] at H; have c26b0 : decide (0 ≤ (ji25)) = true := decide_eq_true c26; clear c26; by_cases c27 : (ji25) < (a0.size : Int)
          ·rw [if_pos c27] at H; have c27b0 : decide ((ji25) < (a0.size : Int)) = true := decide_eq_true c27; clear c27; by_cases c29 : (wrap64 ((wrap64 ((wrap64 ((wrap64 ((wrap64 ((bt a0 a1))) - 192)) * 64)) + (wrap64 (bt a0 (ji25))))) - 128)) ≥ 192
           ·rw [if_pos c29] at H; have c29b0 : decide (192 ≤ (wrap64 ((wrap64 ((wrap64 ((wrap64 ((wrap64 ((bt a0 a1))) - 192)) * 64)) + (wrap64 (bt a0 (ji25))))) - 128))) = true := decide_eq_true c29; clear c29; by_cases c30 : (wrap64 ((wrap64 ((wrap64 ((wrap64 ((wrap64 ((bt a0 a1))) - 192)) * 64)) + (wrap64 (bt a0 (ji25))))) - 128)) ≤ 591
            ·rw [if_pos c30] at H; have c30b0 : decide ((wrap64 ((wrap64 ((wrap64 ((wrap64 ((wrap64 ((bt a0 a1))) - 192)) * 64)) + (wrap64 (bt a0 (ji25))))) - 128)) ≤ 591) = true := decide_eq_true c30; clear c30; by_cases c31 : (wrap64 ((wrap64 ((wrap64 ((wrap64 ((wrap64 ((bt a0 a1))) - 192)) * 64)) + (wrap64 (bt a0 (ji25))))) - 128)) = 215
             ·rw [if_pos c31] at H; have c31b0 : ((wrap64 ((wrap64 ((wrap64 ((wrap64 ((wrap64 ((bt a0 a1))) - 192)) * 64)) + (wrap64 (bt a0 (ji25))))) - 128)) == 215) = true := beq_iff_eq.mpr c31; have c31b1 : ((wrap64 ((wrap64 ((wrap64 ((wrap64 ((wrap64 ((bt a0 a1))) - 192)) * 64)) + (wrap64 (bt a0 (ji25))))) - 128)) != 215) = false := bne_eq_false_iff_eq.mpr c31; clear c31; by_cases c32 : (wrap64 ((wrap64 ((wrap64 ((wrap64 ((wrap64 ((bt a0 a1))) - 192)) * 64)) + (wrap64 (bt a0 (ji25))))) - 128)) ≥ 913
              ·rw [if_pos c32] at H; have c32b0 : decide (913 ≤ (wrap64 ((wrap64 ((wrap64 ((wrap64 ((wrap64 ((bt a0 a1))) - 192)) * 64)) + (wrap64 (bt a0 (ji25))))) - 128))) = true := decide_eq_true c32; clear c32; by_cases c33 : (wrap64 ((wrap64 ((wrap64 ((wrap64 ((wrap64 ((bt a0 a1))) - 192)) * 64)) + (wrap64 (bt a0 (ji25))))) - 128)) ≤ 969
               ·rw [if_pos c33] at H; have c33b0 : decide ((wrap64 ((wrap64 ((wrap64 ((wrap64 ((wrap64 ((bt a0 a1))) - 192)) * 64)) + (wrap64 (bt a0 (ji25))))) - 128)) ≤ 969) = true := decide_eq_true c33; clear c33; obtain rfl := Option.some.inj H; have p28 : 0 ≤ ((ji25) : Int) := of_decide_eq_true (by first | (with_reducible assumption) | assumption); have q28 : (ji25) < (a0.size : Int) := of_decide_eq_true (by first | (with_reducible assumption) | assumption); have hx28 := bt_at a0 (ji25); replace p28 := eq_true p28; replace q28 := eq_true q28; go_wp2; go_ret; exact ⟨by first | rfl | (simp; done) | (simp only [← hji25] <;> (first | rfl | simp)) | (simp [*]; done), by repeat (first | exact Drawn0.refl _ | apply Drawn0.step)⟩
               ·rw [if_neg c33] at H; have c33b0 : decide ((wrap64 ((wrap64 ((wrap64 ((wrap64 ((wrap64 ((bt a0 a1))) - 192)) * 64)) + (wrap64 (bt a0 (ji25))))) - 128)) ≤ 969) = false := decide_eq_false c33; clear c33; by_cases c34 : (wrap64 ((wrap64 ((wrap64 ((wrap64 ((wrap64 ((bt a0 a1))) - 192)) * 64)) + (wrap64 (bt a0 (ji25))))) - 128)) ≥ 1040
                ·rw [if_pos c34] at H; have c34b0 : decide (1040 ≤ (wrap64 ((wrap64 ((wrap64 ((wrap64 ((wrap64 ((bt a0 a1))) - 192)) * 64)) + (wrap64 (bt a0 (ji25))))) - 128))) = true := decide_eq_true c34; clear c34; by_cases c35 : (wrap64 ((wrap64 ((wrap64 ((wrap64 ((wrap64 ((bt a0 a1))) - 192)) * 64)) + (wrap64 (bt a0 (ji25))))) - 128)) ≤ 1103
                 ·rw [if_pos c35] at H; have c35b0 : decide ((wrap64 ((wrap64 ((wrap64 ((wrap64 ((wrap64 ((bt a0 a1))) - 192)) * 64)) + (wrap64 (bt a0 (ji25))))) - 128)) ≤ 1103) = true := decide_eq_true c35; clear c35; obtain rfl := Option.some.inj H; have p28 : 0 ≤ ((ji25) : Int) := of_decide_eq_true (by first | (with_reducible assumption) | assumption); have q28 : (ji25) < (a0.size : Int) := of_decide_eq_true (by first | (with_reducible assumption) | assumption); have hx28 := bt_at a0 (ji25); replace p28 := eq_true p28; replace q28 := eq_true q28; go_wp2; go_ret; exact ⟨by first | rfl | (simp; done) | (simp only [← hji25] <;> (first | rfl | simp)) | (simp [*]; done), by repeat (first | exact Drawn0.refl _ | apply Drawn0.step)⟩
                 ·rw [if_neg c35] at H; have c35b0 : decide ((wrap64 ((wrap64 ((wrap64 ((wrap64 ((wrap64 ((bt a0 a1))) - 192)) * 64)) + (wrap64 (bt a0 (ji25))))) - 128)) ≤ 1103) = false := decide_eq_false c35; clear c35; obtain rfl := Option.some.inj H; have p28 : 0 ≤ ((ji25) : Int) := of_decide_eq_true (by first | (with_reducible assumption) | assumption); have q28 : (ji25) < (a0.size : Int) := of_decide_eq_true (by first | (with_reducible assumption) | assumption); have hx28 := bt_at a0 (ji25); replace p28 := eq_true p28; replace q28 := eq_true q28; go_wp2; go_ret; exact ⟨by first | rfl | (simp; done) | (simp only [← hji25] <;> (first | rfl | simp)) | (simp [*]; done), by repeat (first | exact Drawn0.refl _ | apply Drawn0.step)⟩
                ·rw [if_neg c34] at H; have c34b0 : decide (1040 ≤ (wrap64 ((wrap64 ((wrap64 ((wrap64 ((wrap64 ((bt a0 a1))) - 192)) * 64)) + (wrap64 (bt a0 (ji25))))) - 128))) = false := decide_eq_false c34; clear c34; obtain rfl := Option.some.inj H; have p28 : 0 ≤ ((ji25) : Int) := of_decide_eq_true (by first | (with_reducible assumption) | assumption); have q28 : (ji25) < (a0.size : Int) := of_decide_eq_true (by first | (with_reducible assumption) | assumption); have hx28 := bt_at a0 (ji25); replace p28 := eq_true p28; replace q28 := eq_true q28; go_wp2; go_ret; exact ⟨by first | rfl | (simp; done) | (simp only [← hji25] <;> (first | rfl | simp)) | (simp [*]; done), by repeat (first | exact Drawn0.refl _ | apply Drawn0.step)⟩
              ·rw [if_neg c32] at H; have c32b0 : decide (913 ≤ (wrap64 ((wrap64 ((wrap64 ((wrap64 ((wrap64 ((bt a0 a1))) - 192)) * 64)) + (wrap64 (bt a0 (ji25))))) - 128))) = false := decide_eq_false c32; clear c32; by_cases c36 : (wrap64 ((wrap64 ((wrap64 ((wrap64 ((wrap64 ((bt a0 a1))) - 192)) * 64)) + (wrap64 (bt a0 (ji25))))) - 128)) ≥ 1040
               ·rw [if_pos c36] at H; have c36b0 : decide (1040 ≤ (wrap64 ((wrap64 ((wrap64 ((wrap64 ((wrap64 ((bt a0 a1))) - 192)) * 64)) + (wrap64 (bt a0 (ji25))))) - 128))) = true := decide_eq_true c36; clear c36; by_cases c37 : (wrap64 ((wrap64 ((wrap64 ((wrap64 ((wrap64 ((bt a0 a1))) - 192)) * 64)) + (wrap64 (bt a0 (ji25))))) - 128)) ≤ 1103
                ·rw [if_pos c37] at H; have c37b0 : decide ((wrap64 ((wrap64 ((wrap64 ((wrap64 ((wrap64 ((bt a0 a1))) - 192)) * 64)) + (wrap64 (bt a0 (ji25))))) - 128)) ≤ 1103) = true := decide_eq_true c37; clear c37; obtain rfl := Option.some.inj H; have p28 : 0 ≤ ((ji25) : Int) := of_decide_eq_true (by first | (with_reducible assumption) | assumption); have q28 : (ji25) < (a0.size : Int) := of_decide_eq_true (by first | (with_reducible assumption) | assumption); have hx28 := bt_at a0 (ji25); replace p28 := eq_true p28; replace q28 := eq_true q28; go_wp2; go_ret; exact ⟨by first | rfl | (simp; done) | (simp only [← hji25] <;> (first | rfl | simp)) | (simp [*]; done), by repeat (first | exact Drawn0.refl _ | apply Drawn0.step)⟩
                ·rw [if_neg c37] at H; have c37b0 : decide ((wrap64 ((wrap64 ((wrap64 ((wrap64 ((wrap64 ((bt a0 a1))) - 192)) * 64)) + (wrap64 (bt a0 (ji25))))) - 128)) ≤ 1103) = false := decide_eq_false c37; clear c37; obtain rfl := Option.some.inj H; have p28 : 0 ≤ ((ji25) : Int) := of_decide_eq_true (by first | (with_reducible assumption) | assumption); have q28 : (ji25) < (a0.size : Int) := of_decide_eq_true (by first | (with_reducible assumption) | assumption); have hx28 := bt_at a0 (ji25); replace p28 := eq_true p28; replace q28 := eq_true q28; go_wp2; go_ret; exact ⟨by first | rfl | (simp; done) | (simp only [← hji25] <;> (first | rfl | simp)) | (simp [*]; done), by repeat (first | exact Drawn0.refl _ | apply Drawn0.step)⟩
               ·rw [if_neg c36] at H; have c36b0 : decide (1040 ≤ (wrap64 ((wrap64 ((wrap64 ((wrap64 ((wrap64 ((bt a0 a1))) - 192)) * 64)) + (wrap64 (bt a0 (ji25))))) - 128))) = false := decide_eq_false c36; clear c36; obtain rfl := Option.some.inj H; have p28 : 0 ≤ ((ji25) : Int) := of_decide_eq_true (by first | (with_reducible assumption) | assumption); have q28 : (ji25) < (a0.size : Int) := of_decide_eq_true (by first | (with_reducible assumption) | assumption); have hx28 := bt_at a0 (ji25); replace p28 := eq_true p28; replace q28 := eq_true q28; go_wp2; go_ret; exact ⟨by first | rfl | (simp; done) | (simp only [← hji25] <;> (first | rfl | simp)) | (simp [*]; done), by repeat (first | exact Drawn0.refl _ | apply Drawn0.step)⟩
             ·rw [if_neg c31] at H; have c31b0 : ((wrap64 ((wrap64 ((wrap64 ((wrap64 ((wrap64 ((bt a0 a1))) - 192)) * 64)) + (wrap64 (bt a0 (ji25))))) - 128)) == 215) = false := beq_eq_false_iff_ne.mpr c31; have c31b1 : ((wrap64 ((wrap64 ((wrap64 ((wrap64 ((wrap64 ((bt a0 a1))) - 192)) * 64)) + (wrap64 (bt a0 (ji25))))) - 128)) != 215) = true := bne_iff_ne.mpr c31; by_cases c38 : (wrap64 ((wrap64 ((wrap64 ((wrap64 ((wrap64 ((bt a0 a1))) - 192)) * 64)) + (wrap64 (bt a0 (ji25))))) - 128)) = 247
              ·rw [if_pos c38] at H; have c38b0 : ((wrap64 ((wrap64 ((wrap64 ((wrap64 ((wrap64 ((bt a0 a1))) - 192)) * 64)) + (wrap64 (bt a0 (ji25))))) - 128)) == 247) = true := beq_iff_eq.mpr c38; have c38b1 : ((wrap64 ((wrap64 ((wrap64 ((wrap64 ((wrap64 ((bt a0 a1))) - 192)) * 64)) + (wrap64 (bt a0 (ji25))))) - 128)) != 247) = false := bne_eq_false_iff_eq.mpr c38; clear c38; by_cases c39 : (wrap64 ((wrap64 ((wrap64 ((wrap64 ((wrap64 ((bt a0 a1))) - 192)) * 64)) + (wrap64 (bt a0 (ji25))))) - 128)) ≥ 913
               ·rw [if_pos c39] at H; have c39b0 : decide (913 ≤ (wrap64 ((wrap64 ((wrap64 ((wrap64 ((wrap64 ((bt a0 a1))) - 192)) * 64)) + (wrap64 (bt a0 (ji25))))) - 128))) = true := decide_eq_true c39; clear c39; by_cases c40 : (wrap64 ((wrap64 ((wrap64 ((wrap64 ((wrap64 ((bt a0 a1))) - 192)) * 64)) + (wrap64 (bt a0 (ji25))))) - 128)) ≤ 969
                ·rw [if_pos c40] at H; have c40b0 : decide ((wrap64 ((wrap64 ((wrap64 ((wrap64 ((wrap64 ((bt a0 a1))) - 192)) * 64)) + (wrap64 (bt a0 (ji25))))) - 128)) ≤ 969) = true := decide_eq_true c40; clear c40; obtain rfl := Option.some.inj H; have p28 : 0 ≤ ((ji25) : Int) := of_decide_eq_true (by first | (with_reducible assumption) | assumption); have q28 : (ji25) < (a0.size : Int) := of_decide_eq_true (by first | (with_reducible assumption) | assumption); have hx28 := bt_at a0 (ji25); replace p28 := eq_true p28; replace q28 := eq_true q28; go_wp2; go_ret; exact ⟨by first | rfl | (simp; done) | (simp only [← hji25] <;> (first | rfl | simp)) | (simp [*]; done), by repeat (first | exact Drawn0.refl _ | apply Drawn0.step)⟩
                ·rw [if_neg c40] at H; have c40b0 : decide ((wrap64 ((wrap64 ((wrap64 ((wrap64 ((wrap64 ((bt a0 a1))) - 192)) * 64)) + (wrap64 (bt a0 (ji25))))) - 128)) ≤ 969) = false := decide_eq_false c40; clear c40; by_cases c41 : (wrap64 ((wrap64 ((wrap64 ((wrap64 ((wrap64 ((bt a0 a1))) - 192)) * 64)) + (wrap64 (bt a0 (ji25))))) - 128)) ≥ 1040
                 ·rw [if_pos c41] at H; have c41b0 : decide (1040 ≤ (wrap64 ((wrap64 ((wrap64 ((wrap64 ((wrap64 ((bt a0 a1))) - 192)) * 64)) + (wrap64 (bt a0 (ji25))))) - 128))) = true := decide_eq_true c41; clear c41; by_cases c42 : (wrap64 ((wrap64 ((wrap64 ((wrap64 ((wrap64 ((bt a0 a1))) - 192)) * 64)) + (wrap64 (bt a0 (ji25))))) - 128)) ≤ 1103
                  ·rw [if_pos c42] at H; have c42b0 : decide ((wrap64 ((wrap64 ((wrap64 ((wrap64 ((wrap64 ((bt a0 a1))) - 192)) * 64)) + (wrap64 (bt a0 (ji25))))) - 128)) ≤ 1103) = true := decide_eq_true c42; clear c42; obtain rfl := Option.some.inj H; have p28 : 0 ≤ ((ji25) : Int) := of_decide_eq_true (by first | (with_reducible assumption) | assumption); have q28 : (ji25) < (a0.size : Int) := of_decide_eq_true (by first | (with_reducible assumption) | assumption); have hx28 := bt_at a0 (ji25); replace p28 := eq_true p28; replace q28 := eq_true q28; go_wp2; go_ret; exact ⟨by first | rfl | (simp; done) | (simp only [← hji25] <;> (first | rfl | simp)) | (simp [*]; done), by repeat (first | exact Drawn0.refl _ | apply Drawn0.step)⟩
                  ·rw [if_neg c42] at H; have c42b0 : decide ((wrap64 ((wrap64 ((wrap64 ((wrap64 ((wrap64 ((bt a0 a1))) - 192)) * 64)) + (wrap64 (bt a0 (ji25))))) - 128)) ≤ 1103) = false := decide_eq_false c42; clear c42; obtain rfl := Option.some.inj H; have p28 : 0 ≤ ((ji25) : Int) := of_decide_eq_true (by first | (with_reducible assumption) | assumption); have q28 : (ji25) < (a0.size : Int) := of_decide_eq_true (by first | (with_reducible assumption) | assumption); have hx28 := bt_at a0 (ji25); replace p28 := eq_true p28; replace q28 := eq_true q28; go_wp2; go_ret; exact ⟨by first | rfl | (simp; done) | (simp only [← hji25] <;> (first | rfl | simp)) | (simp [*]; done), by repeat (first | exact Drawn0.refl _ | apply Drawn0.step)⟩
                 ·rw [if_neg c41] at H; have c41b0 : decide (1040 ≤ (wrap64 ((wrap64 ((wrap64 ((wrap64 ((wrap64 ((bt a0 a1))) - 192)) * 64)) + (wrap64 (bt a0 (ji25))))) - 128))) = false := decide_eq_false c41; clear c41; obtain rfl := Option.some.inj H; have p28 : 0 ≤ ((ji25) : Int) := of_decide_eq_true (by first | (with_reducible assumption) | assumption); have q28 : (ji25) < (a0.size : Int) := of_decide_eq_true (by first | (with_reducible assumption) | assumption); have hx28 := bt_at a0 (ji25); replace p28 := eq_true p28; replace q28 := eq_true q28; go_wp2; go_ret; exact ⟨by first | rfl | (simp; done) | (simp only [← hji25] <;> (first | rfl | simp)) | (simp [*]; done), by repeat (first | exact Drawn0.refl _ | apply Drawn0.step)⟩
               ·rw [if_neg c39] at H; have c39b0 : decide (913 ≤ (wrap64 ((wrap64 ((wrap64 ((wrap64 ((wrap64 ((bt a0 a1))) - 192)) * 64)) + (wrap64 (bt a0 (ji25))))) - 128))) = false := decide_eq_false c39; clear c39; by_cases c43 : (wrap64 ((wrap64 ((wrap64 ((wrap64 ((wrap64 ((bt a0 a1))) - 192)) * 64)) + (wrap64 (bt a0 (ji25))))) - 128)) ≥ 1040
                ·rw [if_pos c43] at H; have c43b0 : decide (1040 ≤ (wrap64 ((wrap64 ((wrap64 ((wrap64 ((wrap64 ((bt a0 a1))) - 192)) * 64)) + (wrap64 (bt a0 (ji25))))) - 128))) = true := decide_eq_true c43; clear c43; by_cases c44 : (wrap64 ((wrap64 ((wrap64 ((wrap64 ((wrap64 ((bt a0 a1))) - 192)) * 64)) + (wrap64 (bt a0 (ji25))))) - 128)) ≤ 1103
                 ·rw [if_pos c44] at H; have c44b0 : decide ((wrap64 ((wrap64 ((wrap64 ((wrap64 ((wrap64 ((bt a0 a1))) - 192)) * 64)) + (wrap64 (bt a0 (ji25))))) - 128)) ≤ 1103) = true := decide_eq_true c44; clear c44; obtain rfl := Option.some.inj H; have p28 : 0 ≤ ((ji25) : Int) := of_decide_eq_true (by first | (with_reducible assumption) | assumption); have q28 : (ji25) < (a0.size : Int) := of_decide_eq_true (by first | (with_reducible assumption) | assumption); have hx28 := bt_at a0 (ji25); replace p28 := eq_true p28; replace q28 := eq_true q28; go_wp2; go_ret; exact ⟨by first | rfl | (simp; done) | (simp only [← hji25] <;> (first | rfl | simp)) | (simp [*]; done), by repeat (first | exact Drawn0.refl _ | apply Drawn0.step)⟩
                 ·rw [if_neg c44] at H; have c44b0 : decide ((wrap64 ((wrap64 ((wrap64 ((wrap64 ((wrap64 ((bt a0 a1))) - 192)) * 64)) + (wrap64 (bt a0 (ji25))))) - 128)) ≤ 1103) = false := decide_eq_false c44; clear c44; obtain rfl := Option.some.inj H; have p28 : 0 ≤ ((ji25) : Int) := of_decide_eq_true (by first | (with_reducible assumption) | assumption); have q28 : (ji25) < (a0.size : Int) := of_decide_eq_true (by first | (with_reducible assumption) | assumption); have hx28 := bt_at a0 (ji25); replace p28 := eq_true p28; replace q28 := eq_true q28; go_wp2; go_ret; exact ⟨by first | rfl | (simp; done) | (simp only [← hji25] <;> (first | rfl | simp)) | (simp [*]; done), by repeat (first | exact Drawn0.refl _ | apply Drawn0.step)⟩
                ·rw [if_neg c43] at H; have c43b0 : decide (1040 ≤ (wrap64 ((wrap64 ((wrap64 ((wrap64 ((wrap64 ((bt a0 a1))) - 192)) * 64)) + (wrap64 (bt a0 (ji25))))) - 128))) = false := decide_eq_false c43; clear c43; obtain rfl := Option.some.inj H; have p28 : 0 ≤ ((ji25) : Int) := of_decide_eq_true (by first | (with_reducible assumption) | assumption); have q28 : (ji25) < (a0.size : Int) := of_decide_eq_true (by first | (with_reducible assumption) | assumption); have hx28 := bt_at a0 (ji25); replace p28 := eq_true p28; replace q28 := eq_true q28; go_wp2; go_ret; exact ⟨by first | rfl | (simp; done) | (simp only [← hji25] <;> (first | rfl | simp)) | (simp [*]; done), by repeat (first | exact Drawn0.refl _ | apply Drawn0.step)⟩
              ·rw [if_neg c38] at H; have c38b0 : ((wrap64 ((wrap64 ((wrap64 ((wrap64 ((wrap64 ((bt a0 a1))) - 192)) * 64)) + (wrap64 (bt a0 (ji25))))) - 128)) == 247) = false := beq_eq_false_iff_ne.mpr c38; have c38b1 : ((wrap64 ((wrap64 ((wrap64 ((wrap64 ((wrap64 ((bt a0 a1))) - 192)) * 64)) + (wrap64 (bt a0 (ji25))))) - 128)) != 247) = true := bne_iff_ne.mpr c38; obtain rfl := Option.some.inj H; have p28 : 0 ≤ ((ji25) : Int) := of_decide_eq_true (by first | (with_reducible assumption) | assumption); have q28 : (ji25) < (a0.size : Int) := of_decide_eq_true (by first | (with_reducible assumption) | assumption); have hx28 := bt_at a0 (ji25); replace p28 := eq_true p28; replace q28 := eq_true q28; go_wp2; go_ret; exact ⟨by first | rfl | (simp; done) | (simp only [← hji25] <;> (first | rfl | simp)) | (simp [*]; done), by repeat (first | exact Drawn0.refl _ | apply Drawn0.step)⟩
            ·rw [if_neg c30] at H; have c30b0 : decide ((wrap64 ((wrap64 ((wrap64 ((wrap64 ((wrap64 ((bt a0 a1))) - 192)) * 64)) + (wrap64 (bt a0 (ji25))))) - 128)) ≤ 591) = false := decide_eq_false c30; clear c30; by_cases c45 : (wrap64 ((wrap64 ((wrap64 ((wrap64 ((wrap64 ((bt a0 a1))) - 192)) * 64)) + (wrap64 (bt a0 (ji25))))) - 128)) ≥ 913
             ·rw [if_pos c45] at H; have c45b0 : decide (913 ≤ (wrap64 ((wrap64 ((wrap64 ((wrap64 ((wrap64 ((bt a0 a1))) - 192)) * 64)) + (wrap64 (bt a0 (ji25))))) - 128))) = true := decide_eq_true c45; clear c45; by_cases c46 : (wrap64 ((wrap64 ((wrap64 ((wrap64 ((wrap64 ((bt a0 a1))) - 192)) * 64)) + (wrap64 (bt a0 (ji25))))) - 128)) ≤ 969
              ·rw [if_pos c46] at H; have c46b0 : decide ((wrap64 ((wrap64 ((wrap64 ((wrap64 ((wrap64 ((bt a0 a1))) - 192)) * 64)) + (wrap64 (bt a0 (ji25))))) - 128)) ≤ 969) = true := decide_eq_true c46; clear c46; obtain rfl := Option.some.inj H; have p28 : 0 ≤ ((ji25) : Int) := of_decide_eq_true (by first | (with_reducible assumption) | assumption); have q28 : (ji25) < (a0.size : Int) := of_decide_eq_true (by first | (with_reducible assumption) | assumption); have hx28 := bt_at a0 (ji25); replace p28 := eq_true p28; replace q28 := eq_true q28; go_wp2; go_ret; exact ⟨by first | rfl | (simp; done) | (simp only [← hji25] <;> (first | rfl | simp)) | (simp [*]; done), by repeat (first | exact Drawn0.refl _ | apply Drawn0.step)⟩
              ·rw [if_neg c46] at H; have c46b0 : decide ((wrap64 ((wrap64 ((wrap64 ((wrap64 ((wrap64 ((bt a0 a1))) - 192)) * 64)) + (wrap64 (bt a0 (ji25))))) - 128)) ≤ 969) = false := decide_eq_false c46; clear c46; by_cases c47 : (wrap64 ((wrap64 ((wrap64 ((wrap64 ((wrap64 ((bt a0 a1))) - 192)) * 64)) + (wrap64 (bt a0 (ji25))))) - 128)) ≥ 1040
               ·rw [if_pos c47] at H; have c47b0 : decide (1040 ≤ (wrap64 ((wrap64 ((wrap64 ((wrap64 ((wrap64 ((bt a0 a1))) - 192)) * 64)) + (wrap64 (bt a0 (ji25))))) - 128))) = true := decide_eq_true c47; clear c47; by_cases c48 : (wrap64 ((wrap64 ((wrap64 ((wrap64 ((wrap64 ((bt a0 a1))) - 192)) * 64)) + (wrap64 (bt a0 (ji25))))) - 128)) ≤ 1103
                ·rw [if_pos c48] at H; have c48b0 : decide ((wrap64 ((wrap64 ((wrap64 ((wrap64 ((wrap64 ((bt a0 a1))) - 192)) * 64)) + (wrap64 (bt a0 (ji25))))) - 128)) ≤ 1103) = true := decide_eq_true c48; clear c48; obtain rfl := Option.some.inj H; have p28 : 0 ≤ ((ji25) : Int) := of_decide_eq_true (by first | (with_reducible assumption) | assumption); have q28 : (ji25) < (a0.size : Int) := of_decide_eq_true (by first | (with_reducible assumption) | assumption); have hx28 := bt_at a0 (ji25); replace p28 := eq_true p28; replace q28 := eq_true q28; go_wp2; go_ret; exact ⟨by first | rfl | (simp; done) | (simp only [← hji25] <;> (first | rfl | simp)) | (simp [*]; done), by repeat (first | exact Drawn0.refl _ | apply Drawn0.step)⟩
                ·rw [if_neg c48] at H; have c48b0 : decide ((wrap64 ((wrap64 ((wrap64 ((wrap64 ((wrap64 ((bt a0 a1))) - 192)) * 64)) + (wrap64 (bt a0 (ji25))))) - 128)) ≤ 1103) = false := decide_eq_false c48; clear c48; obtain rfl := Option.some.inj H; have p28 : 0 ≤ ((ji25) : Int) := of_decide_eq_true (by first | (with_reducible assumption) | assumption); have q28 : (ji25) < (a0.size : Int) := of_decide_eq_true (by first | (with_reducible assumption) | assumption); have hx28 := bt_at a0 (ji25); replace p28 := eq_true p28; replace q28 := eq_true q28; go_wp2; go_ret; exact ⟨by first | rfl | (simp; done) | (simp only [← hji25] <;> (first | rfl | simp)) | (simp [*]; done), by repeat (first | exact Drawn0.refl _ | apply Drawn0.step)⟩
               ·rw [if_neg c47] at H; have c47b0 : decide (1040 ≤ (wrap64 ((wrap64 ((wrap64 ((wrap64 ((wrap64 ((bt a0 a1))) - 192)) * 64)) + (wrap64 (bt a0 (ji25))))) - 128))) = false := decide_eq_false c47; clear c47; obtain rfl := Option.some.inj H; have p28 : 0 ≤ ((ji25) : Int) := of_decide_eq_true (by first | (with_reducible assumption) | assumption); have q28 : (ji25) < (a0.size : Int) := of_decide_eq_true (by first | (with_reducible assumption) | assumption); have hx28 := bt_at a0 (ji25); replace p28 := eq_true p28; replace q28 := eq_true q28; go_wp2; go_ret; exact ⟨by first | rfl | (simp; done) | (simp only [← hji25] <;> (first | rfl | simp)) | (simp [*]; done), by repeat (first | exact Drawn0.refl _ | apply Drawn0.step)⟩
             ·rw [if_neg c45] at H; have c45b0 : decide (913 ≤ (wrap64 ((wrap64 ((wrap64 ((wrap64 ((wrap64 ((bt a0 a1))) - 192)) * 64)) + (wrap64 (bt a0 (ji25))))) - 128))) = false := decide_eq_false c45; clear c45; by_cases c49 : (wrap64 ((wrap64 ((wrap64 ((wrap64 ((wrap64 ((bt a0 a1))) - 192)) * 64)) + (wrap64 (bt a0 (ji25))))) - 128)) ≥ 1040
              ·rw [if_pos c49] at H; have c49b0 : decide (1040 ≤ (wrap64 ((wrap64 ((wrap64 ((wrap64 ((wrap64 ((bt a0 a1))) - 192)) * 64)) + (wrap64 (bt a0 (ji25))))) - 128))) = true := decide_eq_true c49; clear c49; by_cases c50 : (wrap64 ((wrap64 ((wrap64 ((wrap64 ((wrap64 ((bt a0 a1))) - 192)) * 64)) + (wrap64 (bt a0 (ji25))))) - 128)) ≤ 1103
               ·rw [if_pos c50] at H; have c50b0 : decide ((wrap64 ((wrap64 ((wrap64 ((wrap64 ((wrap64 ((bt a0 a1))) - 192)) * 64)) + (wrap64 (bt a0 (ji25))))) - 128)) ≤ 1103) = true := decide_eq_true c50; clear c50; obtain rfl := Option.some.inj H; have p28 : 0 ≤ ((ji25) : Int) := of_decide_eq_true (by first | (with_reducible assumption) | assumption); have q28 : (ji25) < (a0.size : Int) := of_decide_eq_true (by first | (with_reducible assumption) | assumption); have hx28 := bt_at a0 (ji25); replace p28 := eq_true p28; replace q28 := eq_true q28; go_wp2; go_ret; exact ⟨by first | rfl | (simp; done) | (simp only [← hji25] <;> (first | rfl | simp)) | (simp [*]; done), by repeat (first | exact Drawn0.refl _ | apply Drawn0.step)⟩
               ·rw [if_neg c50] at H; have c50b0 : decide ((wrap64 ((wrap64 ((wrap64 ((wrap64 ((wrap64 ((bt a0 a1))) - 192)) * 64)) + (wrap64 (bt a0 (ji25))))) - 128)) ≤ 1103) = false := decide_eq_false c50; clear c50; obtain rfl := Option.some.inj H; have p28 : 0 ≤ ((ji25) : Int) := of_decide_eq_true (by first | (with_reducible assumption) | assumption); have q28 : (ji25) < (a0.size : Int) := of_decide_eq_true (by first | (with_reducible assumption) | assumption); have hx28 := bt_at a0 (ji25); replace p28 := eq_true p28; replace q28 := eq_true q28; go_wp2; go_ret; exact ⟨by first | rfl | (simp; done) | (simp only [← hji25] <;> (first | rfl | simp)) | (simp [*]; done), by repeat (first | exact Drawn0.refl _ | apply Drawn0.step)⟩
              ·rw [if_neg c49] at H; have c49b0 : decide (1040 ≤ (wrap64 ((wrap64 ((wrap64 ((wrap64 ((wrap64 ((bt a0 a1))) - 192)) * 64)) + (wrap64 (bt a0 (ji25))))) - 128))) = false := decide_eq_false c49; clear c49; obtain rfl := Option.some.inj H; have p28 : 0 ≤ ((ji25) : Int) := of_decide_eq_true (by first | (with_reducible assumption) | assumption); have q28 : (ji25) < (a0.size : Int) := of_decide_eq_true (by first | (with_reducible assumption) | assumption); have hx28 := bt_at a0 (ji25); replace p28 := eq_true p28; replace q28 := eq_true q28; go_wp2; go_ret; exact ⟨by first | rfl | (simp; done) | (simp only [← hji25] <;> (first | rfl | simp)) | (simp [*]; done), by repeat (first | exact Drawn0.refl _ | apply Drawn0.step)⟩
           ·rw [if_neg c29] at H; have c29b0 : decide (192 ≤ (wrap64 ((wrap64 ((wrap64 ((wrap64 ((wrap64 ((bt a0 a1))) - 192)) * 64)) + (wrap64 (bt a0 (ji25))))) - 128))) = false := decide_eq_false c29; clear c29; by_cases c51 : (wrap64 ((wrap64 ((wrap64 ((wrap64 ((wrap64 ((bt a0 a1))) - 192)) * 64)) + (wrap64 (bt a0 (ji25))))) - 128)) ≥ 913
            ·rw [if_pos c51] at H; have c51b0 : decide (913 ≤ (wrap64 ((wrap64 ((wrap64 ((wrap64 ((wrap64 ((bt a0 a1))) - 192)) * 64)) + (wrap64 (bt a0 (ji25))))) - 128))) = true := decide_eq_true c51; clear c51; by_cases c52 : (wrap64 ((wrap64 ((wrap64 ((wrap64 ((wrap64 ((bt a0 a1))) - 192)) * 64)) + (wrap64 (bt a0 (ji25))))) - 128)) ≤ 969
             ·rw [if_pos c52] at H; have c52b0 : decide ((wrap64 ((wrap64 ((wrap64 ((wrap64 ((wrap64 ((bt a0 a1))) - 192)) * 64)) + (wrap64 (bt a0 (ji25))))) - 128)) ≤ 969) = true := decide_eq_true c52; clear c52; obtain rfl := Option.some.inj H; have p28 : 0 ≤ ((ji25) : Int) := of_decide_eq_true (by first | (with_reducible assumption) | assumption); have q28 : (ji25) < (a0.size : Int) := of_decide_eq_true (by first | (with_reducible assumption) | assumption); have hx28 := bt_at a0 (ji25); replace p28 := eq_true p28; replace q28 := eq_true q28; go_wp2; go_ret; exact ⟨by first | rfl | (simp; done) | (simp only [← hji25] <;> (first | rfl | simp)) | (simp [*]; done), by repeat (first | exact Drawn0.refl _ | apply Drawn0.step)⟩
             ·rw [if_neg c52] at H; have c52b0 : decide ((wrap64 ((wrap64 ((wrap64 ((wrap64 ((wrap64 ((bt a0 a1))) - 192)) * 64)) + (wrap64 (bt a0 (ji25))))) - 128)) ≤ 969) = false := decide_eq_false c52; clear c52; by_cases c53 : (wrap64 ((wrap64 ((wrap64 ((wrap64 ((wrap64 ((bt a0 a1))) - 192)) * 64)) + (wrap64 (bt a0 (ji25))))) - 128)) ≥ 1040
              ·rw [if_pos c53] at H; have c53b0 : decide (1040 ≤ (wrap64 ((wrap64 ((wrap64 ((wrap64 ((wrap64 ((bt a0 a1))) - 192)) * 64)) + (wrap64 (bt a0 (ji25))))) - 128))) = true := decide_eq_true c53; clear c53; by_cases c54 : (wrap64 ((wrap64 ((wrap64 ((wrap64 ((wrap64 ((bt a0 a1))) - 192)) * 64)) + (wrap64 (bt a0 (ji25))))) - 128)) ≤ 1103
               ·rw [if_pos c54] at H; have c54b0 : decide ((wrap64 ((wrap64 ((wrap64 ((wrap64 ((wrap64 ((bt a0 a1))) - 192)) * 64)) + (wrap64 (bt a0 (ji25))))) - 128)) ≤ 1103) = true := decide_eq_true c54; clear c54; obtain rfl := Option.some.inj H; have p28 : 0 ≤ ((ji25) : Int) := of_decide_eq_true (by first | (with_reducible assumption) | assumption); have q28 : (ji25) < (a0.size : Int) := of_decide_eq_true (by first | (with_reducible assumption) | assumption); have hx28 := bt_at a0 (ji25); replace p28 := eq_true p28; replace q28 := eq_true q28; go_wp2; go_ret; exact ⟨by first | rfl | (simp; done) | (simp only [← hji25] <;> (first | rfl | simp)) | (simp [*]; done), by repeat (first | exact Drawn0.refl _ | apply Drawn0.step)⟩
               ·rw [if_neg c54] at H; have c54b0 : decide ((wrap64 ((wrap64 ((wrap64 ((wrap64 ((wrap64 ((bt a0 a1))) - 192)) * 64)) + (wrap64 (bt a0 (ji25))))) - 128)) ≤ 1103) = false := decide_eq_false c54; clear c54; obtain rfl := Option.some.inj H; have p28 : 0 ≤ ((ji25) : Int) := of_decide_eq_true (by first | (with_reducible assumption) | assumption); have q28 : (ji25) < (a0.size : Int) := of_decide_eq_true (by first | (with_reducible assumption) | assumption); have hx28 := bt_at a0 (ji25); replace p28 := eq_true p28; replace q28 := eq_true q28; go_wp2; go_ret; exact ⟨by first | rfl | (simp; done) | (simp only [← hji25] <;> (first | rfl | simp)) | (simp [*]; done), by repeat (first | exact Drawn0.refl _ | apply Drawn0.step)⟩
              ·rw [if_neg c53] at H; have c53b0 : decide (1040 ≤ (wrap64 ((wrap64 ((wrap64 ((wrap64 ((wrap64 ((bt a0 a1))) - 192)) * 64)) + (wrap64 (bt a0 (ji25))))) - 128))) = false := decide_eq_false c53; clear c53; obtain rfl := Option.some.inj H; have p28 : 0 ≤ ((ji25) : Int) := of_decide_eq_true (by first | (with_reducible assumption) | assumption); have q28 : (ji25) < (a0.size : Int) := of_decide_eq_true (by first | (with_reducible assumption) | assumption); have hx28 := bt_at a0 (ji25); replace p28 := eq_true p28; replace q28 := eq_true q28; go_wp2; go_ret; exact ⟨by first | rfl | (simp; done) | (simp only [← hji25] <;> (first | rfl | simp)) | (simp [*]; done), by repeat (first | exact Drawn0.refl _ | apply Drawn0.step)⟩
            ·rw [if_neg c51] at H; have c51b0 : decide (913 ≤ (wrap64 ((wrap64 ((wrap64 ((wrap64 ((wrap64 ((bt a0 a1))) - 192)) * 64)) + (wrap64 (bt a0 (ji25))))) - 128))) = false := decide_eq_false c51; clear c51; by_cases c55 : (wrap64 ((wrap64 ((wrap64 ((wrap64 ((wrap64 ((bt a0 a1))) - 192)) * 64)) + (wrap64 (bt a0 (ji25))))) - 128)) ≥ 1040
             ·rw [if_pos c55] at H; have c55b0 : decide (1040 ≤ (wrap64 ((wrap64 ((wrap64 ((wrap64 ((wrap64 ((bt a0 a1))) - 192)) * 64)) + (wrap64 (bt a0 (ji25))))) - 128))) = true := decide_eq_true c55; clear c55; by_cases c56 : (wrap64 ((wrap64 ((wrap64 ((wrap64 ((wrap64 ((bt a0 a1))) - 192)) * 64)) + (wrap64 (bt a0 (ji25))))) - 128)) ≤ 1103
              ·rw [if_pos c56] at H; have c56b0 : decide ((wrap64 ((wrap64 ((wrap64 ((wrap64 ((wrap64 ((bt a0 a1))) - 192)) * 64)) + (wrap64 (bt a0 (ji25))))) - 128)) ≤ 1103) = true := decide_eq_true c56; clear c56; obtain rfl := Option.some.inj H; have p28 : 0 ≤ ((ji25) : Int) := of_decide_eq_true (by first | (with_reducible assumption) | assumption); have q28 : (ji25) < (a0.size : Int) := of_decide_eq_true (by first | (with_reducible assumption) | assumption); have hx28 := bt_at a0 (ji25); replace p28 := eq_true p28; replace q28 := eq_true q28; go_wp2; go_ret; exact ⟨by first | rfl | (simp; done) | (simp only [← hji25] <;> (first | rfl | simp)) | (simp [*]; done), by repeat (first | exact Drawn0.refl _ | apply Drawn0.step)⟩
              ·rw [if_neg c56] at H; have c56b0 : decide ((wrap64 ((wrap64 ((wrap64 ((wrap64 ((wrap64 ((bt a0 a1))) - 192)) * 64)) + (wrap64 (bt a0 (ji25))))) - 128)) ≤ 1103) = false := decide_eq_false c56; clear c56; obtain rfl := Option.some.inj H; have p28 : 0 ≤ ((ji25) : Int) := of_decide_eq_true (by first | (with_reducible assumption) | assumption); have q28 : (ji25) < (a0.size : Int) := of_decide_eq_true (by first | (with_reducible assumption) | assumption); have hx28 := bt_at a0 (ji25); replace p28 := eq_true p28; replace q28 := eq_true q28; go_wp2; go_ret; exact ⟨by first | rfl | (simp; done) | (simp only [← hji25] <;> (first | rfl | simp)) | (simp [*]; done), by repeat (first | exact Drawn0.refl _ | apply Drawn0.step)⟩
             ·rw [if_neg c55] at H; have c55b0 : decide (1040 ≤ (wrap64 ((wrap64 ((wrap64 ((wrap64 ((wrap64 ((bt a0 a1))) - 192)) * 64)) + (wrap64 (bt a0 (ji25))))) - 128))) = false := decide_eq_false c55; clear c55; obtain rfl := Option.some.inj H; have p28 : 0 ≤ ((ji25) : Int) := of_decide_eq_true (by first | (with_reducible assumption) | assumption); have q28 : (ji25) < (a0.size : Int) := of_decide_eq_true (by first | (with_reducible assumption) | assumption); have hx28 := bt_at a0 (ji25); replace p28 := eq_true p28; replace q28 := eq_true q28; go_wp2; go_ret; exact ⟨by first | rfl | (simp; done) | (simp only [← hji25] <;> (first | rfl | simp)) | (simp [*]; done), by repeat (first | exact Drawn0.refl _ | apply Drawn0.step)⟩
          ·rw [if_neg c27] at H; exact absurd H (by simp)
         ·rw [if_neg c26] at H; exact absurd H (by simp)
  ·rw [if_neg c4] at H; exact absurd H (by simp)
 ·rw [if_neg c3] at H; exact absurd H (by simp)

/-! ### spec_l00Word: function 77 -/
mutual
def spec_l00Word.l0 : Nat → ByteArray → Int → Int → Option (Int)
 | 0, _, _, _ => none
 | k + 1, x0, x1, x5 => if x5 < (x0.size : Int) then ((spec_l00Letter.f k x0 x5).bind fun t123 => (if t123 = 0 then (if x5 > x1 then (if 0 ≤ x5 then (if (bt x0 x5) ≥ 48 then (spec_l00Word.j1 k x0 x1 x5 t123 (decide ((bt x0 x5) ≤ 57))) else (spec_l00Word.j1 k x0 x1 x5 t123 false)) else (none)) else (spec_l00Word.j1 k x0 x1 x5 t123 false)) else (spec_l00Word.j1 k x0 x1 x5 t123 false))) else (some (wrap64 (x5 - x1)))
def spec_l00Word.j1 : Nat → ByteArray → Int → Int → Int → Bool → Option (Int)
 | 0, _, _, _, _, _ => none
 | k + 1, x0, x1, x5, x6, x33 => if x33 = true then (spec_l00Word.l0 k x0 x1 (wrap64 (x5 + 1))) else (if x6 = 0 then (some (wrap64 (x5 - x1))) else (spec_l00Word.l0 k x0 x1 (wrap64 (x5 + x6))))
end
def spec_l00Word.f (k : Nat) (a0 : ByteArray) (a1 : Int) : Option (Int) := spec_l00Word.l0 k a0 a1 a1
theorem spec_l00Word.mono_l : ∀ k, (∀ y0 y1 y2, LeO (spec_l00Word.l0 k y0 y1 y2) (spec_l00Word.l0 (k + 1) y0 y1 y2)) ∧ (∀ y0 y1 y2 y3 y4, LeO (spec_l00Word.j1 k y0 y1 y2 y3 y4) (spec_l00Word.j1 (k + 1) y0 y1 y2 y3 y4))
 | 0 => ⟨fun _ _ _ r h => by simp [spec_l00Word.l0] at h, fun _ _ _ _ _ r h => by simp [spec_l00Word.j1] at h⟩
 | k + 1 => by
  obtain ⟨ih0, ih1⟩ := spec_l00Word.mono_l k; refine ⟨?_, ?_⟩
  ·intro y0 y1 y2; unfold spec_l00Word.l0
   repeat' first
   | (with_reducible exact ih0 _ _ _)
   | (with_reducible exact ih1 _ _ _ _ _)
   | (with_reducible exact spec_l00Letter.mono _ _ _)
   | (with_reducible exact LeO.refl _)
   | (with_reducible exact LeO.none _)
   | (with_reducible refine LeO.ite ?_ ?_)
   | (with_reducible refine LeO.bind ?_ (fun _ => ?_))
   | exact ih0 _ _ _
   | exact ih1 _ _ _ _ _
   | exact spec_l00Letter.mono _ _ _
   | exact LeO.none _
   | refine LeO.ite ?_ ?_
   | refine LeO.bind ?_ (fun _ => ?_)
  ·intro y0 y1 y2 y3 y4; unfold spec_l00Word.j1
   repeat' first
   | (with_reducible exact ih0 _ _ _)
   | (with_reducible exact ih1 _ _ _ _ _)
   | (with_reducible exact spec_l00Letter.mono _ _ _)
   | (with_reducible exact LeO.refl _)
   | (with_reducible exact LeO.none _)
   | (with_reducible refine LeO.ite ?_ ?_)
   | (with_reducible refine LeO.bind ?_ (fun _ => ?_))
   | exact ih0 _ _ _
   | exact ih1 _ _ _ _ _
   | exact spec_l00Letter.mono _ _ _
   | exact LeO.none _
   | refine LeO.ite ?_ ?_
   | refine LeO.bind ?_ (fun _ => ?_)
theorem spec_l00Word.mono : ∀ a0 a1 k, LeO (spec_l00Word.f k a0 a1) (spec_l00Word.f (k + 1) a0 a1) := by
 intro a0 a1 k; obtain ⟨ih0, ih1⟩ := spec_l00Word.mono_l k; unfold spec_l00Word.f
 repeat' first
   | (with_reducible exact ih0 _ _ _)
   | (with_reducible exact ih1 _ _ _ _ _)
   | (with_reducible exact spec_l00Letter.mono _ _ _)
   | (with_reducible exact LeO.refl _)
   | (with_reducible exact LeO.none _)
   | (with_reducible refine LeO.ite ?_ ?_)
   | (with_reducible refine LeO.bind ?_ (fun _ => ?_))
   | exact ih0 _ _ _
   | exact ih1 _ _ _ _ _
   | exact spec_l00Letter.mono _ _ _
   | exact LeO.none _
   | refine LeO.ite ?_ ?_
   | refine LeO.bind ?_ (fun _ => ?_)
set_option maxHeartbeats 8000000 in
set_option maxRecDepth 100000 in
theorem spec_l00Word.calls (k : Nat) (a0 : ByteArray) (a1 : Int) (r : Int) (w : World) (h : spec_l00Word.f k a0 a1 = some r) :
  Calls Tryz.prog 77 #[.string a0, .int .i64 a1] w fun e w' => e = .returned (.int .i64 r) ∧ Drawn0 w w' := by
 have H : (spec_l00Word.l0 k a0 a1 a1) = some r := h; clear h; have H' := Aside0.mk H; clear H; go_enter Tryz.func77, Tryz.ntmps77; go_wp2
 go_loopg [5] k (fun kq v5 w' => ∃ (x5_1 : Int), v5 = .int .i64 x5_1 ∧ Aside0 (spec_l00Word.l0 kq a0 a1 x5_1 = some r) ∧ Aside0 (kq ≤ k) ∧ Drawn0 w w')
 case atStart => exact ⟨(a1), (by first | rfl | (simp; done) | (simp [*]; done)), H', ⟨Nat.le_refl _⟩, by repeat (first | exact Drawn0.refl _ | apply Drawn0.step)⟩
 case round =>
  clear H'; (try clear p2); obtain ⟨x5_1, rfl, HA, HK1, ⟨m1, rfl⟩⟩ := hrel
  cases gk with
  | zero => exact absurd HA.out (by simp [spec_l00Word.l0])
  | succ k1 =>
   have H := HA.out; clear HA; simp only [spec_l00Word.l0] at H; by_cases c3 : x5_1 < (a0.size : Int)
   ·rw [if_pos c3] at H; have c3b0 : decide (x5_1 < (a0.size : Int)) = true := decide_eq_true c3; clear c3; replace H := Option.bind_eq_some_iff.mp H; obtain ⟨t123, A40, H⟩ := H; replace H : (if t123 = 0 then (if x5_1 > a1 then (if 0 ≤ x5_1 then (if (bt a0 x5_1) ≥ 48 then (spec_l00Word.j1 k1 a0 a1 x5_1 t123 (decide ((bt a0 x5_1) ≤ 57))) else (spec_l00Word.j1 k1 a0 a1 x5_1 t123 false)) else (none)) else (spec_l00Word.j1 k1 a0 a1 x5_1 t123 false)) else (spec_l00Word.j1 k1 a0 a1 x5_1 t123 false)) = some r := H; have A4 := Aside0.mk A40; clear A40; have HC5 := Aside0.mk H; clear H
    go_upto_region 4 with (first | ((with_reducible refine gate_callee (f := 93) rfl ?_); refine goesL_ (some 14) rfl rfl Tryz.func93 (by kernel_rfl) rfl #[.string a0, .int .i64 x5_1] rfl mq ?_; (with_reducible refine (spec_l00Letter.calls k1 a0 x5_1 t123 _ A4.out).mono ?_); rintro e w' ⟨rfl, ⟨nd, rfl⟩⟩; refine ⟨_, rfl, ?_⟩))
    (try simp only [Act.put, sA, s0, sS])
    go_cut [33] (fun v33 wc => ∃ (kq : Nat) (x33_4 : Bool), v33 = .bool x33_4 ∧ Aside0 (spec_l00Word.j1 kq a0 a1 x5_1 t123 x33_4 = some r) ∧ Aside0 (kq ≤ k1) ∧ Drawn0 w wc)
    case first =>
     have H := HC5.out; clear HC5; by_cases c6 : t123 = 0
     ·rw [if_pos c6] at H; have c6b0 : (t123 == 0) = true := beq_iff_eq.mpr c6; have c6b1 : (t123 != 0) = false := bne_eq_false_iff_eq.mpr c6; clear c6
      (first | rw [c6b0] | (simp only [i64_w, i32_w]; rw [c6b0]) | skip)
      by_cases c7 : x5_1 > a1
      ·rw [if_pos c7] at H; have c7b0 : decide (a1 < x5_1) = true := decide_eq_true c7; clear c7; by_cases c8 : 0 ≤ x5_1
       ·rw [if_pos c8] at H; have c8b0 : decide (0 ≤ x5_1) = true := decide_eq_true c8; clear c8; by_cases c10 : (bt a0 x5_1) ≥ 48
        ·rw [if_pos c10] at H; have c10b0 : decide (48 ≤ (bt a0 x5_1)) = true := decide_eq_true c10; clear c10; have H' := Aside0.mk H; clear H; have p9 : 0 ≤ (x5_1 : Int) := of_decide_eq_true (by first | (with_reducible assumption) | assumption); have q9 : x5_1 < (a0.size : Int) := of_decide_eq_true (by first | (with_reducible assumption) | assumption); have hx9 := bt_at a0 x5_1; replace p9 := eq_true p9; replace q9 := eq_true q9; have p11 : 0 ≤ (x5_1 : Int) := of_decide_eq_true (by first | (with_reducible assumption) | assumption); have q11 : x5_1 < (a0.size : Int) := of_decide_eq_true (by first | (with_reducible assumption) | assumption); have hx11 := bt_at a0 x5_1; replace p11 := eq_true p11; replace q11 := eq_true q11; go_wp2
         go_meet
         case rel => exact ⟨_, (decide ((bt a0 x5_1) ≤ 57)), (by first | rfl | (simp; done) | (simp [*]; done)), H', ⟨by have := HK1.out; first | omega | exact Nat.le_refl _⟩, by repeat (first | exact Drawn0.refl _ | apply Drawn0.step)⟩
        ·rw [if_neg c10] at H; have c10b0 : decide (48 ≤ (bt a0 x5_1)) = false := decide_eq_false c10; clear c10; have H' := Aside0.mk H; clear H; have p9 : 0 ≤ (x5_1 : Int) := of_decide_eq_true (by first | (with_reducible assumption) | assumption); have q9 : x5_1 < (a0.size : Int) := of_decide_eq_true (by first | (with_reducible assumption) | assumption); have hx9 := bt_at a0 x5_1; replace p9 := eq_true p9; replace q9 := eq_true q9; go_wp2
         go_meet
         case rel => exact ⟨_, (false), (by first | rfl | (simp; done) | (simp [*]; done)), H', ⟨by have := HK1.out; first | omega | exact Nat.le_refl _⟩, by repeat (first | exact Drawn0.refl _ | apply Drawn0.step)⟩
       ·rw [if_neg c8] at H; exact absurd H (by simp)
      ·rw [if_neg c7] at H; have c7b0 : decide (a1 < x5_1) = false := decide_eq_false c7; clear c7; have H' := Aside0.mk H; clear H; go_wp2
       go_meet
       case rel => exact ⟨_, (false), (by first | rfl | (simp; done) | (simp [*]; done)), H', ⟨by have := HK1.out; first | omega | exact Nat.le_refl _⟩, by repeat (first | exact Drawn0.refl _ | apply Drawn0.step)⟩
     ·rw [if_neg c6] at H; have c6b0 : (t123 == 0) = false := beq_eq_false_iff_ne.mpr c6; have c6b1 : (t123 != 0) = true := bne_iff_ne.mpr c6
      (first | rw [c6b0] | (simp only [i64_w, i32_w]; rw [c6b0]) | skip)
      have H' := Aside0.mk H; clear H; go_wp2
      go_meet
      case rel => exact ⟨_, (false), (by first | rfl | (simp; done) | (simp [*]; done)), H', ⟨by have := HK1.out; first | omega | exact Nat.le_refl _⟩, by repeat (first | exact Drawn0.refl _ | apply Drawn0.step)⟩
    case rest =>
     clear HC5; (try clear c1); (try clear p1); (try clear q1); (try clear hx1); (try clear p2); (try clear c3); (try clear c3b0); (try clear c6); (try clear c6b0); (try clear c6b1); (try clear c7); (try clear c7b0); (try clear c8); (try clear c8b0); (try clear c9); (try clear p9); (try clear q9); (try clear hx9); (try clear c10); (try clear c10b0); (try clear p11); (try clear q11); (try clear hx11); (try clear p11); (try clear p2); (try clear p9); (try clear q11); (try clear q9); obtain ⟨kq, x33_4, rfl, HA, HJ4, ⟨mc4, rfl⟩⟩ := hcut
     cases kq with
     | zero => exact absurd HA.out (by simp [spec_l00Word.j1])
     | succ kj4 =>
      have H := HA.out; clear HA; simp only [spec_l00Word.j1] at H; by_cases c12 : x33_4 = true
      ·subst c12
       have H1 : (spec_l00Word.l0 kj4 a0 a1 (wrap64 (x5_1 + 1))) = some r := by rw [if_pos rfl] at H; exact H
       clear H; have H := H1; clear H1; have H' := Aside0.mk H; clear H; go_wp2
       go_roundg kj4
       case measure => have := HK1.out; have := HJ4.out; omega
       case rel => exact ⟨(wrap64 (x5_1 + 1)), (by first | rfl | (simp; done) | (simp [*]; done)), H', ⟨by have := HK1.out; have := HJ4.out; omega⟩, by repeat (first | exact Drawn0.refl _ | apply Drawn0.step)⟩
      ·replace c12 := Bool.eq_false_iff.mpr c12; subst c12
       have H1 : (if t123 = 0 then (some (wrap64 (x5_1 - a1))) else (spec_l00Word.l0 kj4 a0 a1 (wrap64 (x5_1 + t123)))) = some r := by rw [if_neg (show ¬ (false = true) by decide)] at H; exact H
       clear H; have H := H1; clear H1; by_cases c13 : t123 = 0
       ·rw [if_pos c13] at H; have c13b0 : (t123 == 0) = true := beq_iff_eq.mpr c13; have c13b1 : (t123 != 0) = false := bne_eq_false_iff_eq.mpr c13; clear c13; obtain rfl := Option.some.inj H; go_wp2; go_ret; exact ⟨by first | rfl | (simp; done) | (simp [*]; done), by repeat (first | exact Drawn0.refl _ | apply Drawn0.step)⟩
       ·rw [if_neg c13] at H; have c13b0 : (t123 == 0) = false := beq_eq_false_iff_ne.mpr c13; have c13b1 : (t123 != 0) = true := bne_iff_ne.mpr c13; have H' := Aside0.mk H; clear H; go_wp2
        go_roundg kj4
        case measure => have := HK1.out; have := HJ4.out; omega
        case rel => exact ⟨(wrap64 (x5_1 + t123)), (by first | rfl | (simp; done) | (simp [*]; done)), H', ⟨by have := HK1.out; have := HJ4.out; omega⟩, by repeat (first | exact Drawn0.refl _ | apply Drawn0.step)⟩
   ·rw [if_neg c3] at H; have c3b0 : decide (x5_1 < (a0.size : Int)) = false := decide_eq_false c3; clear c3; obtain rfl := Option.some.inj H; go_wp2; go_ret; exact ⟨by first | rfl | (simp; done) | (simp [*]; done), by repeat (first | exact Drawn0.refl _ | apply Drawn0.step)⟩

/-! ### spec_NameOK: function 42 -/
def spec_NameOK.f (k : Nat) (a0 : ByteArray) : Option (Bool) := if (a0.size : Int) > 0 then (if (a0.size : Int) ≤ 40 then ((spec_l00Word.f k a0 0).bind fun t124 => (some (t124 == (a0.size : Int)))) else (some false)) else (some false)
theorem spec_NameOK.mono : ∀ a0 k, LeO (spec_NameOK.f k a0) (spec_NameOK.f (k + 1) a0) := by
 intro a0 k; unfold spec_NameOK.f
 repeat' first
   | (with_reducible exact spec_l00Word.mono _ _ _)
   | (with_reducible exact LeO.refl _)
   | (with_reducible exact LeO.none _)
   | (with_reducible refine LeO.ite ?_ ?_)
   | (with_reducible refine LeO.bind ?_ (fun _ => ?_))
   | exact spec_l00Word.mono _ _ _
   | exact LeO.none _
   | refine LeO.ite ?_ ?_
   | refine LeO.bind ?_ (fun _ => ?_)
set_option maxHeartbeats 8000000 in
set_option maxRecDepth 100000 in
theorem spec_NameOK.calls (k : Nat) (a0 : ByteArray) (r : Bool) (w : World) (h : spec_NameOK.f k a0 = some r) :
  Calls Tryz.prog 42 #[.string a0] w fun e w' => e = .returned (.bool r) ∧ Drawn0 w w' := by
 have H : (if (a0.size : Int) > 0 then (if (a0.size : Int) ≤ 40 then ((spec_l00Word.f k a0 0).bind fun t124 => (some (t124 == (a0.size : Int)))) else (some false)) else (some false)) = some r := h; clear h; by_cases c2 : (a0.size : Int) > 0
 ·rw [if_pos c2] at H; have c2b0 : decide (0 < (a0.size : Int)) = true := decide_eq_true c2; have c2b1 : decide (0 < a0.size) = true := decide_eq_true (by omega); clear c2; by_cases c3 : (a0.size : Int) ≤ 40
  ·rw [if_pos c3] at H; have c3b0 : decide ((a0.size : Int) ≤ 40) = true := decide_eq_true c3; have c3b1 : decide (a0.size ≤ 40) = true := decide_eq_true (by omega); clear c3; replace H := Option.bind_eq_some_iff.mp H; obtain ⟨t124, A40, H⟩ := H; replace H : (some (t124 == (a0.size : Int))) = some r := H; have A4 := Aside0.mk A40; clear A40; obtain rfl := Option.some.inj H; go_enter Tryz.func42, Tryz.ntmps42
   go_wp2_with (first | (go_at_call 77; (with_reducible refine (spec_l00Word.calls k a0 0 t124 _ A4.out).mono ?_); rintro e w' ⟨rfl, ⟨nd, rfl⟩⟩))
   go_ret; exact ⟨by first | rfl | (simp; done) | (simp [*]; done), by repeat (first | exact Drawn0.refl _ | apply Drawn0.step)⟩
  ·rw [if_neg c3] at H; have c3b0 : decide ((a0.size : Int) ≤ 40) = false := decide_eq_false c3; have c3b1 : decide (a0.size ≤ 40) = false := decide_eq_false (by omega); clear c3; obtain rfl := Option.some.inj H; go_enter Tryz.func42, Tryz.ntmps42; go_wp2; go_ret; exact ⟨by first | rfl | (simp; done) | (simp [*]; done), by repeat (first | exact Drawn0.refl _ | apply Drawn0.step)⟩
 ·rw [if_neg c2] at H; have c2b0 : decide (0 < (a0.size : Int)) = false := decide_eq_false c2; have c2b1 : decide (0 < a0.size) = false := decide_eq_false (by omega); clear c2; obtain rfl := Option.some.inj H; go_enter Tryz.func42, Tryz.ntmps42; go_wp2; go_ret; exact ⟨by first | rfl | (simp; done) | (simp [*]; done), by repeat (first | exact Drawn0.refl _ | apply Drawn0.step)⟩

/-! ### spec_l00Number: function 43 -/
mutual
def spec_l00Number.j0 : Nat → ByteArray → Int → Bool → Option (Int × Bool)
 | 0, _, _, _ => none
 | k + 1, x0, x4, x14 => if x14 = true then (if 1 ≤ (x0.size : Int) then (spec_l00Number.j1 k (x0.extract 1 x0.size) (-1)) else (none)) else (spec_l00Number.j1 k x0 x4)
def spec_l00Number.j1 : Nat → ByteArray → Int → Option (Int × Bool)
 | 0, _, _ => none
 | k + 1, x0, x4 => if (x0.size : Int) = 0 then (spec_l00Number.j2 k x0 x4 true) else (if (x0.size : Int) > 18 then (spec_l00Number.j2 k x0 x4 true) else (if 0 < (x0.size : Int) then (if (bt x0 0) = 48 then (if (x0.size : Int) > 1 then (spec_l00Number.j2 k x0 x4 true) else (spec_l00Number.j2 k x0 x4 (decide (x4 < 0)))) else (spec_l00Number.j2 k x0 x4 false)) else (none)))
def spec_l00Number.j2 : Nat → ByteArray → Int → Bool → Option (Int × Bool)
 | 0, _, _, _ => none
 | k + 1, x0, x4, x38 => if x38 = true then (some (0, false)) else (spec_l00Number.l0 k x0 x4 0 0)
def spec_l00Number.l0 : Nat → ByteArray → Int → Int → Int → Option (Int × Bool)
 | 0, _, _, _, _ => none
 | k + 1, x0, x4, x5, x6 => if x6 < (x0.size : Int) then (if 0 ≤ x6 then (if (bt x0 x6) < 48 then (some (0, false)) else (if (bt x0 x6) > 57 then (some (0, false)) else (spec_l00Number.l0 k x0 x4 (wrap64 ((wrap64 ((wrap64 (x5 * 10)) + (wrap64 (bt x0 x6)))) - 48)) (wrap64 (x6 + 1))))) else (none)) else (some (wrap64 (x4 * x5), true))
end
def spec_l00Number.f (k : Nat) (a0 : ByteArray) : Option (Int × Bool) := if (a0.size : Int) > 0 then (if 0 < (a0.size : Int) then (spec_l00Number.j0 k a0 1 ((bt a0 0) == 45)) else (none)) else (spec_l00Number.j0 k a0 1 false)
theorem spec_l00Number.mono_l : ∀ k, (∀ y0 y1 y2, LeO (spec_l00Number.j0 k y0 y1 y2) (spec_l00Number.j0 (k + 1) y0 y1 y2)) ∧ (∀ y0 y1, LeO (spec_l00Number.j1 k y0 y1) (spec_l00Number.j1 (k + 1) y0 y1)) ∧ (∀ y0 y1 y2, LeO (spec_l00Number.j2 k y0 y1 y2) (spec_l00Number.j2 (k + 1) y0 y1 y2)) ∧ (∀ y0 y1 y2 y3, LeO (spec_l00Number.l0 k y0 y1 y2 y3) (spec_l00Number.l0 (k + 1) y0 y1 y2 y3))
 | 0 => ⟨fun _ _ _ r h => by simp [spec_l00Number.j0] at h, fun _ _ r h => by simp [spec_l00Number.j1] at h, fun _ _ _ r h => by simp [spec_l00Number.j2] at h, fun _ _ _ _ r h => by simp [spec_l00Number.l0] at h⟩
 | k + 1 => by
  obtain ⟨ih0, ih1, ih2, ih3⟩ := spec_l00Number.mono_l k; refine ⟨?_, ?_, ?_, ?_⟩
  ·intro y0 y1 y2; unfold spec_l00Number.j0
   repeat' first
   | (with_reducible exact ih0 _ _ _)
   | (with_reducible exact ih1 _ _)
   | (with_reducible exact ih2 _ _ _)
   | (with_reducible exact ih3 _ _ _ _)
   | (with_reducible exact LeO.refl _)
   | (with_reducible exact LeO.none _)
   | (with_reducible refine LeO.ite ?_ ?_)
   | (with_reducible refine LeO.bind ?_ (fun _ => ?_))
   | exact ih0 _ _ _
   | exact ih1 _ _
   | exact ih2 _ _ _
   | exact ih3 _ _ _ _
   | exact LeO.none _
   | refine LeO.ite ?_ ?_
   | refine LeO.bind ?_ (fun _ => ?_)
  ·intro y0 y1; unfold spec_l00Number.j1
   repeat' first
   | (with_reducible exact ih0 _ _ _)
   | (with_reducible exact ih1 _ _)
   | (with_reducible exact ih2 _ _ _)
   | (with_reducible exact ih3 _ _ _ _)
   | (with_reducible exact LeO.refl _)
   | (with_reducible exact LeO.none _)
   | (with_reducible refine LeO.ite ?_ ?_)
   | (with_reducible refine LeO.bind ?_ (fun _ => ?_))
   | exact ih0 _ _ _
   | exact ih1 _ _
   | exact ih2 _ _ _
   | exact ih3 _ _ _ _
   | exact LeO.none _
   | refine LeO.ite ?_ ?_
   | refine LeO.bind ?_ (fun _ => ?_)
  ·intro y0 y1 y2; unfold spec_l00Number.j2
   repeat' first
   | (with_reducible exact ih0 _ _ _)
   | (with_reducible exact ih1 _ _)
   | (with_reducible exact ih2 _ _ _)
   | (with_reducible exact ih3 _ _ _ _)
   | (with_reducible exact LeO.refl _)
   | (with_reducible exact LeO.none _)
   | (with_reducible refine LeO.ite ?_ ?_)
   | (with_reducible refine LeO.bind ?_ (fun _ => ?_))
   | exact ih0 _ _ _
   | exact ih1 _ _
   | exact ih2 _ _ _
   | exact ih3 _ _ _ _
   | exact LeO.none _
   | refine LeO.ite ?_ ?_
   | refine LeO.bind ?_ (fun _ => ?_)
  ·intro y0 y1 y2 y3; unfold spec_l00Number.l0
   repeat' first
   | (with_reducible exact ih0 _ _ _)
   | (with_reducible exact ih1 _ _)
   | (with_reducible exact ih2 _ _ _)
   | (with_reducible exact ih3 _ _ _ _)
   | (with_reducible exact LeO.refl _)
   | (with_reducible exact LeO.none _)
   | (with_reducible refine LeO.ite ?_ ?_)
   | (with_reducible refine LeO.bind ?_ (fun _ => ?_))
   | exact ih0 _ _ _
   | exact ih1 _ _
   | exact ih2 _ _ _
   | exact ih3 _ _ _ _
   | exact LeO.none _
   | refine LeO.ite ?_ ?_
   | refine LeO.bind ?_ (fun _ => ?_)
theorem spec_l00Number.mono : ∀ a0 k, LeO (spec_l00Number.f k a0) (spec_l00Number.f (k + 1) a0) := by
 intro a0 k; obtain ⟨ih0, ih1, ih2, ih3⟩ := spec_l00Number.mono_l k; unfold spec_l00Number.f
 repeat' first
   | (with_reducible exact ih0 _ _ _)
   | (with_reducible exact ih1 _ _)
   | (with_reducible exact ih2 _ _ _)
   | (with_reducible exact ih3 _ _ _ _)
   | (with_reducible exact LeO.refl _)
   | (with_reducible exact LeO.none _)
   | (with_reducible refine LeO.ite ?_ ?_)
   | (with_reducible refine LeO.bind ?_ (fun _ => ?_))
   | exact ih0 _ _ _
   | exact ih1 _ _
   | exact ih2 _ _ _
   | exact ih3 _ _ _ _
   | exact LeO.none _
   | refine LeO.ite ?_ ?_
   | refine LeO.bind ?_ (fun _ => ?_)
set_option maxHeartbeats 8000000 in
set_option maxRecDepth 100000 in
theorem spec_l00Number.calls (k : Nat) (a0 : ByteArray) (r1 : Int) (r2 : Bool) (w : World) (h : spec_l00Number.f k a0 = some (r1, r2)) :
  Calls Tryz.prog 43 #[.string a0] w fun e w' => e = .returned (.tuple #[.int .i64 r1, .bool r2]) ∧ Drawn0 w w' := by
 have H : (if (a0.size : Int) > 0 then (if 0 < (a0.size : Int) then (spec_l00Number.j0 k a0 1 ((bt a0 0) == 45)) else (none)) else (spec_l00Number.j0 k a0 1 false)) = some (r1, r2) := h; clear h; have HC2 := Aside0.mk H; clear H; go_enter Tryz.func43, Tryz.ntmps43
 go_upto_region 2 with (fail)
 go_cut [14] (fun v14 wc => ∃ (kq : Nat) (x14_1 : Bool), v14 = .bool x14_1 ∧ Aside0 (spec_l00Number.j0 kq a0 1 x14_1 = some (r1, r2)) ∧ Aside0 (kq ≤ k) ∧ Drawn0 w wc)
 case first =>
  have H := HC2.out; clear HC2; by_cases c3 : (a0.size : Int) > 0
  ·rw [if_pos c3] at H; have c3b0 : decide (0 < (a0.size : Int)) = true := decide_eq_true c3; have c3b1 : decide (0 < a0.size) = true := decide_eq_true (by omega); clear c3
   (first | rw [c3b0] | (simp only [i64_w, i32_w]; rw [c3b0]) | skip)
   by_cases c4 : 0 < (a0.size : Int)
   ·rw [if_pos c4] at H; have c4b0 : decide (0 < (a0.size : Int)) = true := decide_eq_true c4; have c4b1 : decide (0 < a0.size) = true := decide_eq_true (by omega); clear c4; have H' := Aside0.mk H; clear H; have p5 : 0 ≤ (0 : Int) := (by omega); have q5 : 0 < a0.size := (by have : (0 : Int) < (a0.size : Int) := of_decide_eq_true (by first | (with_reducible assumption) | assumption); omega); have hx5 : ∀ h : 0 < a0.size, ((a0[0]'h).toNat : Int) = bt a0 0 := bt_at a0 0; clear p5; have qi5 : (0 < (a0.size : Int)) = True := eq_true (of_decide_eq_true (by first | (with_reducible assumption) | assumption)); replace q5 := eq_true q5; go_wp2
    go_meet
    case rel => exact ⟨_, (((bt a0 0) == 45)), (by first | rfl | (simp; done) | (simp [*]; done)), H', ⟨by first | omega | exact Nat.le_refl _⟩, by repeat (first | exact Drawn0.refl _ | apply Drawn0.step)⟩
   ·rw [if_neg c4] at H; exact absurd H (by simp)
  ·rw [if_neg c3] at H; have c3b0 : decide (0 < (a0.size : Int)) = false := decide_eq_false c3; have c3b1 : decide (0 < a0.size) = false := decide_eq_false (by omega); clear c3
   (first | rw [c3b0] | (simp only [i64_w, i32_w]; rw [c3b0]) | skip)
   have H' := Aside0.mk H; clear H; go_wp2
   go_meet
   case rel => exact ⟨_, (false), (by first | rfl | (simp; done) | (simp [*]; done)), H', ⟨by first | omega | exact Nat.le_refl _⟩, by repeat (first | exact Drawn0.refl _ | apply Drawn0.step)⟩
 case rest =>
  clear HC2; (try clear p2); (try clear c3); (try clear c3b0); (try clear c3b1); (try clear c4); (try clear c4b0); (try clear c4b1); (try clear p5); (try clear q5); (try clear hx5); (try clear qi5); (try clear p5); (try clear q5); obtain ⟨kq, x14_1, rfl, HA, HJ1, ⟨mc1, rfl⟩⟩ := hcut
  cases kq with
  | zero => exact absurd HA.out (by simp [spec_l00Number.j0])
  | succ kj1 =>
   have H := HA.out; clear HA; simp only [spec_l00Number.j0] at H; have HC6 := Aside0.mk H; clear H
   go_upto_if 14 with (fail)
   go_cut [0, 4] (fun v0 v4 wc => ∃ (kq : Nat) (x0_5 : ByteArray) (x4_5 : Int), v0 = .string x0_5 ∧ v4 = .int .i64 x4_5 ∧ Aside0 (spec_l00Number.j1 kq x0_5 x4_5 = some (r1, r2)) ∧ Aside0 (kq ≤ kj1) ∧ Drawn0 w wc)
   case first =>
    have H := HC6.out; clear HC6; by_cases c7 : x14_1 = true
    ·subst c7
     have H1 : (if 1 ≤ (a0.size : Int) then (spec_l00Number.j1 kj1 (a0.extract 1 a0.size) (-1)) else (none)) = some (r1, r2) := by rw [if_pos rfl] at H; exact H
     clear H; have H := H1; clear H1; by_cases c8 : 1 ≤ (a0.size : Int)
     ·rw [if_pos c8] at H; have c8b0 := eq_true c8; have c8b1 : decide (1 ≤ (a0.size : Int)) = true := decide_eq_true c8; clear c8; have H' := Aside0.mk H; clear H; go_wp2
      go_meet
      case rel => exact ⟨_, (a0.extract 1 a0.size), ((-1)), (by first | rfl | (simp; done) | (simp [*]; done)), (by first | rfl | (simp; done) | (simp [*]; done)), H', ⟨by have := HJ1.out; first | omega | exact Nat.le_refl _⟩, by repeat (first | exact Drawn0.refl _ | apply Drawn0.step)⟩
     ·rw [if_neg c8] at H; exact absurd H (by simp)
    ·replace c7 := Bool.eq_false_iff.mpr c7; subst c7
     have H1 : (spec_l00Number.j1 kj1 a0 1) = some (r1, r2) := by rw [if_neg (show ¬ (false = true) by decide)] at H; exact H
     clear H; have H := H1; clear H1; have H' := Aside0.mk H; clear H; go_wp2
     go_meet
     case rel => exact ⟨_, (a0), (1), (by first | rfl | (simp; done) | (simp [*]; done)), (by first | rfl | (simp; done) | (simp [*]; done)), H', ⟨by have := HJ1.out; first | omega | exact Nat.le_refl _⟩, by repeat (first | exact Drawn0.refl _ | apply Drawn0.step)⟩
   case rest =>
    clear HC6; (try clear c1); (try clear p2); (try clear c3); (try clear c3b0); (try clear c3b1); (try clear c4); (try clear c4b0); (try clear c4b1); (try clear p5); (try clear q5); (try clear hx5); (try clear qi5); (try clear c7); (try clear c8); (try clear c8b0); (try clear c8b1); (try clear p2); (try clear p5); (try clear q5); obtain ⟨kq, x0_5, x4_5, rfl, rfl, HA, HJ5, ⟨mc5, rfl⟩⟩ := hcut
    cases kq with
    | zero => exact absurd HA.out (by simp [spec_l00Number.j1])
    | succ kj5 =>
     have H := HA.out; clear HA; simp only [spec_l00Number.j1] at H; have HC9 := Aside0.mk H; clear H
     go_upto_region 5 with (fail)
     go_cut [38] (fun v38 wc => ∃ (kq : Nat) (x38_8 : Bool), v38 = .bool x38_8 ∧ Aside0 (spec_l00Number.j2 kq x0_5 x4_5 x38_8 = some (r1, r2)) ∧ Aside0 (kq ≤ kj5) ∧ Drawn0 w wc)
     case first =>
      have H := HC9.out; clear HC9; by_cases c10 : (x0_5.size : Int) = 0
      ·rw [if_pos c10] at H; have c10b0 : ((x0_5.size : Int) == 0) = true := beq_iff_eq.mpr c10; have c10b1 : ((x0_5.size : Int) != 0) = false := bne_eq_false_iff_eq.mpr c10; clear c10
       (first | rw [c10b0] | (simp only [i64_w, i32_w]; rw [c10b0]) | skip)
       have H' := Aside0.mk H; clear H; go_wp2
       go_meet
       case rel => exact ⟨_, (true), (by first | rfl | (simp; done) | (simp [*]; done)), H', ⟨by have := HJ1.out; have := HJ5.out; first | omega | exact Nat.le_refl _⟩, by repeat (first | exact Drawn0.refl _ | apply Drawn0.step)⟩
      ·rw [if_neg c10] at H; have c10b0 : ((x0_5.size : Int) == 0) = false := beq_eq_false_iff_ne.mpr c10; have c10b1 : ((x0_5.size : Int) != 0) = true := bne_iff_ne.mpr c10
       (first | rw [c10b0] | (simp only [i64_w, i32_w]; rw [c10b0]) | skip)
       by_cases c11 : (x0_5.size : Int) > 18
       ·rw [if_pos c11] at H; have c11b0 : decide (18 < (x0_5.size : Int)) = true := decide_eq_true c11; have c11b1 : decide (18 < x0_5.size) = true := decide_eq_true (by omega); clear c11; have H' := Aside0.mk H; clear H; go_wp2
        go_meet
        case rel => exact ⟨_, (true), (by first | rfl | (simp; done) | (simp [*]; done)), H', ⟨by have := HJ1.out; have := HJ5.out; first | omega | exact Nat.le_refl _⟩, by repeat (first | exact Drawn0.refl _ | apply Drawn0.step)⟩
       ·rw [if_neg c11] at H; have c11b0 : decide (18 < (x0_5.size : Int)) = false := decide_eq_false c11; have c11b1 : decide (18 < x0_5.size) = false := decide_eq_false (by omega); clear c11; by_cases c12 : 0 < (x0_5.size : Int)
        ·rw [if_pos c12] at H; have c12b0 : decide (0 < (x0_5.size : Int)) = true := decide_eq_true c12; have c12b1 : decide (0 < x0_5.size) = true := decide_eq_true (by omega); clear c12; by_cases c14 : (bt x0_5 0) = 48
         ·rw [if_pos c14] at H; have c14b0 : ((bt x0_5 0) == 48) = true := beq_iff_eq.mpr c14; have c14b1 : ((bt x0_5 0) != 48) = false := bne_eq_false_iff_eq.mpr c14; clear c14; by_cases c15 : (x0_5.size : Int) > 1
          ·rw [if_pos c15] at H; have c15b0 : decide (1 < (x0_5.size : Int)) = true := decide_eq_true c15; have c15b1 : decide (1 < x0_5.size) = true := decide_eq_true (by omega); clear c15; have H' := Aside0.mk H; clear H; have p13 : 0 ≤ (0 : Int) := (by omega); have q13 : 0 < x0_5.size := (by have : (0 : Int) < (x0_5.size : Int) := of_decide_eq_true (by first | (with_reducible assumption) | assumption); omega); have hx13 : ∀ h : 0 < x0_5.size, ((x0_5[0]'h).toNat : Int) = bt x0_5 0 := bt_at x0_5 0; clear p13; have qi13 : (0 < (x0_5.size : Int)) = True := eq_true (of_decide_eq_true (by first | (with_reducible assumption) | assumption)); replace q13 := eq_true q13; go_wp2
           go_meet
           case rel => exact ⟨_, (true), (by first | rfl | (simp; done) | (simp [*]; done)), H', ⟨by have := HJ1.out; have := HJ5.out; first | omega | exact Nat.le_refl _⟩, by repeat (first | exact Drawn0.refl _ | apply Drawn0.step)⟩
          ·rw [if_neg c15] at H; have c15b0 : decide (1 < (x0_5.size : Int)) = false := decide_eq_false c15; have c15b1 : decide (1 < x0_5.size) = false := decide_eq_false (by omega); clear c15; have H' := Aside0.mk H; clear H; have p13 : 0 ≤ (0 : Int) := (by omega); have q13 : 0 < x0_5.size := (by have : (0 : Int) < (x0_5.size : Int) := of_decide_eq_true (by first | (with_reducible assumption) | assumption); omega); have hx13 : ∀ h : 0 < x0_5.size, ((x0_5[0]'h).toNat : Int) = bt x0_5 0 := bt_at x0_5 0; clear p13; have qi13 : (0 < (x0_5.size : Int)) = True := eq_true (of_decide_eq_true (by first | (with_reducible assumption) | assumption)); replace q13 := eq_true q13; go_wp2
           go_meet
           case rel => exact ⟨_, (decide (x4_5 < 0)), (by first | rfl | (simp; done) | (simp [*]; done)), H', ⟨by have := HJ1.out; have := HJ5.out; first | omega | exact Nat.le_refl _⟩, by repeat (first | exact Drawn0.refl _ | apply Drawn0.step)⟩
         ·rw [if_neg c14] at H; have c14b0 : ((bt x0_5 0) == 48) = false := beq_eq_false_iff_ne.mpr c14; have c14b1 : ((bt x0_5 0) != 48) = true := bne_iff_ne.mpr c14; have H' := Aside0.mk H; clear H; have p13 : 0 ≤ (0 : Int) := (by omega); have q13 : 0 < x0_5.size := (by have : (0 : Int) < (x0_5.size : Int) := of_decide_eq_true (by first | (with_reducible assumption) | assumption); omega); have hx13 : ∀ h : 0 < x0_5.size, ((x0_5[0]'h).toNat : Int) = bt x0_5 0 := bt_at x0_5 0; clear p13; have qi13 : (0 < (x0_5.size : Int)) = True := eq_true (of_decide_eq_true (by first | (with_reducible assumption) | assumption)); replace q13 := eq_true q13; go_wp2
          go_meet
          case rel => exact ⟨_, (false), (by first | rfl | (simp; done) | (simp [*]; done)), H', ⟨by have := HJ1.out; have := HJ5.out; first | omega | exact Nat.le_refl _⟩, by repeat (first | exact Drawn0.refl _ | apply Drawn0.step)⟩
        ·rw [if_neg c12] at H; exact absurd H (by simp)
     case rest =>
      clear HC9; (try clear c1); (try clear p1); (try clear q1); (try clear hx1); (try clear qi1); (try clear p2); (try clear c3); (try clear c3b0); (try clear c3b1); (try clear c4); (try clear c4b0); (try clear c4b1); (try clear c5); (try clear p5); (try clear q5); (try clear hx5); (try clear qi5); (try clear c7); (try clear c8); (try clear c8b0); (try clear c8b1); (try clear c10); (try clear c10b0); (try clear c10b1); (try clear c11); (try clear c11b0); (try clear c11b1); (try clear c12); (try clear c12b0); (try clear c12b1); (try clear p13); (try clear q13); (try clear hx13); (try clear qi13); (try clear c14); (try clear c14b0); (try clear c14b1); (try clear c15); (try clear c15b0); (try clear c15b1); (try clear p13); (try clear p2); (try clear p5); (try clear q13); (try clear q5); obtain ⟨kq, x38_8, rfl, HA, HJ8, ⟨mc8, rfl⟩⟩ := hcut
      cases kq with
      | zero => exact absurd HA.out (by simp [spec_l00Number.j2])
      | succ kj8 =>
       have H := HA.out; clear HA; simp only [spec_l00Number.j2] at H; by_cases c16 : x38_8 = true
       ·subst c16
        have H1 : (some (0, false)) = some (r1, r2) := by rw [if_pos rfl] at H; exact H
        clear H; have H := H1; clear H1; simp only [Option.some.injEq, Prod.mk.injEq] at H; obtain ⟨rfl, rfl⟩ := H; go_wp2; go_ret2; exact ⟨by first | rfl | (simp; done) | (simp [*]; done), by repeat (first | exact Drawn0.refl _ | apply Drawn0.step)⟩
       ·replace c16 := Bool.eq_false_iff.mpr c16; subst c16
        have H1 : (spec_l00Number.l0 kj8 x0_5 x4_5 0 0) = some (r1, r2) := by rw [if_neg (show ¬ (false = true) by decide)] at H; exact H
        clear H; have H := H1; clear H1; have H' := Aside0.mk H; clear H; go_wp2
        go_loopg [5, 6] kj8 (fun kq v5 v6 w' => ∃ (x5_4 : Int) (x6_4 : Int), v5 = .int .i64 x5_4 ∧ v6 = .int .i64 x6_4 ∧ Aside0 (spec_l00Number.l0 kq x0_5 x4_5 x5_4 x6_4 = some (r1, r2)) ∧ Aside0 (kq ≤ kj8) ∧ Drawn0 w w')
        case atStart => exact ⟨(0), (0), (by first | rfl | (simp; done) | (simp [*]; done)), (by first | rfl | (simp; done) | (simp [*]; done)), H', ⟨Nat.le_refl _⟩, by repeat (first | exact Drawn0.refl _ | apply Drawn0.step)⟩
        case round =>
         clear H'; (try clear c1); (try clear p1); (try clear q1); (try clear hx1); (try clear qi1); (try clear p2); (try clear c3); (try clear c3b0); (try clear c3b1); (try clear c4); (try clear c4b0); (try clear c4b1); (try clear c5); (try clear p5); (try clear q5); (try clear hx5); (try clear qi5); (try clear c7); (try clear c8); (try clear c8b0); (try clear c8b1); (try clear c10); (try clear c10b0); (try clear c10b1); (try clear c11); (try clear c11b0); (try clear c11b1); (try clear c12); (try clear c12b0); (try clear c12b1); (try clear p13); (try clear q13); (try clear hx13); (try clear qi13); (try clear c14); (try clear c14b0); (try clear c14b1); (try clear c15); (try clear c15b0); (try clear c15b1); (try clear c16); (try clear p1); (try clear p13); (try clear p2); (try clear p5); (try clear q1); (try clear q13); (try clear q5); obtain ⟨x5_4, x6_4, rfl, rfl, HA, HK4, ⟨m4, rfl⟩⟩ := hrel
         cases gk with
         | zero => exact absurd HA.out (by simp [spec_l00Number.l0])
         | succ k4 =>
          have H := HA.out; clear HA; simp only [spec_l00Number.l0] at H; by_cases c17 : x6_4 < (x0_5.size : Int)
          ·rw [if_pos c17] at H; have c17b0 : decide (x6_4 < (x0_5.size : Int)) = true := decide_eq_true c17; clear c17; by_cases c18 : 0 ≤ x6_4
           ·rw [if_pos c18] at H; have c18b0 : decide (0 ≤ x6_4) = true := decide_eq_true c18; clear c18; by_cases c20 : (bt x0_5 x6_4) < 48
            ·rw [if_pos c20] at H; have c20b0 : decide ((bt x0_5 x6_4) < 48) = true := decide_eq_true c20; clear c20; simp only [Option.some.injEq, Prod.mk.injEq] at H; obtain ⟨rfl, rfl⟩ := H; have p19 : 0 ≤ (x6_4 : Int) := of_decide_eq_true (by first | (with_reducible assumption) | assumption); have q19 : x6_4 < (x0_5.size : Int) := of_decide_eq_true (by first | (with_reducible assumption) | assumption); have hx19 := bt_at x0_5 x6_4; replace p19 := eq_true p19; replace q19 := eq_true q19; go_wp2; go_ret2; exact ⟨by first | rfl | (simp; done) | (simp [*]; done), by repeat (first | exact Drawn0.refl _ | apply Drawn0.step)⟩
            ·rw [if_neg c20] at H; have c20b0 : decide ((bt x0_5 x6_4) < 48) = false := decide_eq_false c20; clear c20; by_cases c22 : (bt x0_5 x6_4) > 57
             ·rw [if_pos c22] at H; have c22b0 : decide (57 < (bt x0_5 x6_4)) = true := decide_eq_true c22; clear c22; simp only [Option.some.injEq, Prod.mk.injEq] at H; obtain ⟨rfl, rfl⟩ := H; have p19 : 0 ≤ (x6_4 : Int) := of_decide_eq_true (by first | (with_reducible assumption) | assumption); have q19 : x6_4 < (x0_5.size : Int) := of_decide_eq_true (by first | (with_reducible assumption) | assumption); have hx19 := bt_at x0_5 x6_4; replace p19 := eq_true p19; replace q19 := eq_true q19; have p21 : 0 ≤ (x6_4 : Int) := of_decide_eq_true (by first | (with_reducible assumption) | assumption); have q21 : x6_4 < (x0_5.size : Int) := of_decide_eq_true (by first | (with_reducible assumption) | assumption); have hx21 := bt_at x0_5 x6_4; replace p21 := eq_true p21; replace q21 := eq_true q21; go_wp2; go_ret2; exact ⟨by first | rfl | (simp; done) | (simp [*]; done), by repeat (first | exact Drawn0.refl _ | apply Drawn0.step)⟩
             ·rw [if_neg c22] at H; have c22b0 : decide (57 < (bt x0_5 x6_4)) = false := decide_eq_false c22; clear c22; have H' := Aside0.mk H; clear H; have p19 : 0 ≤ (x6_4 : Int) := of_decide_eq_true (by first | (with_reducible assumption) | assumption); have q19 : x6_4 < (x0_5.size : Int) := of_decide_eq_true (by first | (with_reducible assumption) | assumption); have hx19 := bt_at x0_5 x6_4; replace p19 := eq_true p19; replace q19 := eq_true q19; have p21 : 0 ≤ (x6_4 : Int) := of_decide_eq_true (by first | (with_reducible assumption) | assumption); have q21 : x6_4 < (x0_5.size : Int) := of_decide_eq_true (by first | (with_reducible assumption) | assumption); have hx21 := bt_at x0_5 x6_4; replace p21 := eq_true p21; replace q21 := eq_true q21; have p23 : 0 ≤ (x6_4 : Int) := of_decide_eq_true (by first | (with_reducible assumption) | assumption); have q23 : x6_4 < (x0_5.size : Int) := of_decide_eq_true (by first | (with_reducible assumption) | assumption); have hx23 := bt_at x0_5 x6_4; replace p23 := eq_true p23; replace q23 := eq_true q23; go_wp2
              go_roundg k4
              case measure => have := HJ1.out; have := HJ5.out; have := HJ8.out; have := HK4.out; omega
              case rel => exact ⟨(wrap64 ((wrap64 ((wrap64 (x5_4 * 10)) + (wrap64 (bt x0_5 x6_4)))) - 48)), (wrap64 (x6_4 + 1)), (by first | rfl | (simp; done) | (simp [*]; done)), (by first | rfl | (simp; done) | (simp [*]; done)), H', ⟨by have := HJ1.out; have := HJ5.out; have := HJ8.out; have := HK4.out; omega⟩, by repeat (first | exact Drawn0.refl _ | apply Drawn0.step)⟩
           ·rw [if_neg c18] at H; exact absurd H (by simp)
          ·rw [if_neg c17] at H; have c17b0 : decide (x6_4 < (x0_5.size : Int)) = false := decide_eq_false c17; clear c17; simp only [Option.some.injEq, Prod.mk.injEq] at H; obtain ⟨rfl, rfl⟩ := H; go_wp2; go_ret2; exact ⟨by first | rfl | (simp; done) | (simp [*]; done), by repeat (first | exact Drawn0.refl _ | apply Drawn0.step)⟩

/-! ### spec_l06Which: function 44 -/
def spec_l06Which.l0 : Nat → List ByteArray → ByteArray → Int → Option (Int)
 | 0, _, _, _ => none
 | k + 1, x0, x1, x5 => if x5 < (x0.length : Int) then (if 0 ≤ x5 then (if (rdOf ByteArray.empty x0 x5).toList = x1.toList then (some x5) else (spec_l06Which.l0 k x0 x1 (wrap64 (x5 + 1)))) else (none)) else (some 0)
def spec_l06Which.f (k : Nat) (l0 : List ByteArray) (a1 : ByteArray) : Option (Int) := spec_l06Which.l0 k l0 a1 1
theorem spec_l06Which.mono_l : ∀ k, (∀ y0 y1 y2, LeO (spec_l06Which.l0 k y0 y1 y2) (spec_l06Which.l0 (k + 1) y0 y1 y2))
 | 0 => fun _ _ _ r h => by simp [spec_l06Which.l0] at h
 | k + 1 => by
  have ih0 := spec_l06Which.mono_l k
  ·intro y0 y1 y2; unfold spec_l06Which.l0
   repeat' first
   | (with_reducible exact ih0 _ _ _)
   | (with_reducible exact LeO.refl _)
   | (with_reducible exact LeO.none _)
   | (with_reducible refine LeO.ite ?_ ?_)
   | (with_reducible refine LeO.bind ?_ (fun _ => ?_))
   | exact ih0 _ _ _
   | exact LeO.none _
   | refine LeO.ite ?_ ?_
   | refine LeO.bind ?_ (fun _ => ?_)
theorem spec_l06Which.mono : ∀ a0 a1 k, LeO (spec_l06Which.f k a0 a1) (spec_l06Which.f (k + 1) a0 a1) := by
 intro a0 a1 k; have ih0 := spec_l06Which.mono_l k; unfold spec_l06Which.f
 repeat' first
   | (with_reducible exact ih0 _ _ _)
   | (with_reducible exact LeO.refl _)
   | (with_reducible exact LeO.none _)
   | (with_reducible refine LeO.ite ?_ ?_)
   | (with_reducible refine LeO.bind ?_ (fun _ => ?_))
   | exact ih0 _ _ _
   | exact LeO.none _
   | refine LeO.ite ?_ ?_
   | refine LeO.bind ?_ (fun _ => ?_)
set_option maxHeartbeats 8000000 in
set_option maxRecDepth 100000 in
theorem spec_l06Which.calls (k : Nat) (A0 : Option Addr) (c0 : Nat) (l0 : List ByteArray) (a1 : ByteArray) (r : Int) (w : World) (hr0 : Kd.C Kd.string w A0 l0.length l0) (hc0 : l0.length ≤ c0) (h : spec_l06Which.f k l0 a1 = some r) :
  Calls Tryz.prog 44 #[.slice A0 l0.length c0, .string a1] w fun e w' => e = .returned (.int .i64 r) ∧ Drawn0 w w' := by
 have HR0 := Aside0.mk hr0; have HC0 := Aside0.mk hc0; clear hr0 hc0; have H : (spec_l06Which.l0 k l0 a1 1) = some r := h; clear h; have H' := Aside0.mk H; clear H; go_enter Tryz.func44, Tryz.ntmps44; go_wp2
 go_loopg [5] k (fun kq v5 w' => ∃ (x5_1 : Int), v5 = .int .i64 x5_1 ∧ Aside0 (spec_l06Which.l0 kq l0 a1 x5_1 = some r) ∧ Aside0 (kq ≤ k) ∧ Drawn0 w w')
 case atStart => exact ⟨(1), (by first | rfl | (simp; done) | (simp [*]; done)), H', ⟨Nat.le_refl _⟩, by repeat (first | exact Drawn0.refl _ | apply Drawn0.step)⟩
 case round =>
  clear H'; (try clear p2); obtain ⟨x5_1, rfl, HA, HK1, ⟨m1, rfl⟩⟩ := hrel
  cases gk with
  | zero => exact absurd HA.out (by simp [spec_l06Which.l0])
  | succ k1 =>
   have H := HA.out; clear HA; simp only [spec_l06Which.l0] at H; by_cases c3 : x5_1 < (l0.length : Int)
   ·rw [if_pos c3] at H; have c3b0 : decide (x5_1 < (l0.length : Int)) = true := decide_eq_true c3; clear c3; by_cases c4 : 0 ≤ x5_1
    ·rw [if_pos c4] at H; have c4b0 : decide (0 ≤ x5_1) = true := decide_eq_true c4; clear c4; by_cases c5 : (rdOf ByteArray.empty l0 x5_1).toList = a1.toList
     ·rw [if_pos c5] at H; have c5b0 : ((rdOf ByteArray.empty l0 x5_1).toList == a1.toList) = true := beq_iff_eq.mpr c5; have c5b1 : ((rdOf ByteArray.empty l0 x5_1).toList != a1.toList) = false := bne_eq_false_iff_eq.mpr c5; clear c5; obtain rfl := Option.some.inj H; have p125 : 0 ≤ (x5_1 : Int) := of_decide_eq_true (by first | (with_reducible assumption) | assumption); have q125 : x5_1 < (l0.length : Int) := of_decide_eq_true (by first | (with_reducible assumption) | assumption); obtain ⟨ad125, e125, hx125_0⟩ := Kd.at_string HR0.out x5_1 p125 q125
      cases e125
      replace p125 := eq_true p125; replace q125 := eq_true q125; go_wp2; go_ret; exact ⟨by first | rfl | (simp; done) | (simp [*]; done), by repeat (first | exact Drawn0.refl _ | apply Drawn0.step)⟩
     ·rw [if_neg c5] at H; have c5b0 : ((rdOf ByteArray.empty l0 x5_1).toList == a1.toList) = false := beq_eq_false_iff_ne.mpr c5; have c5b1 : ((rdOf ByteArray.empty l0 x5_1).toList != a1.toList) = true := bne_iff_ne.mpr c5; have H' := Aside0.mk H; clear H; have p125 : 0 ≤ (x5_1 : Int) := of_decide_eq_true (by first | (with_reducible assumption) | assumption); have q125 : x5_1 < (l0.length : Int) := of_decide_eq_true (by first | (with_reducible assumption) | assumption); obtain ⟨ad125, e125, hx125_0⟩ := Kd.at_string HR0.out x5_1 p125 q125
      cases e125
      replace p125 := eq_true p125; replace q125 := eq_true q125; go_wp2
      go_roundg k1
      case measure => have := HK1.out; omega
      case rel => exact ⟨(wrap64 (x5_1 + 1)), (by first | rfl | (simp; done) | (simp [*]; done)), H', ⟨by have := HK1.out; omega⟩, by repeat (first | exact Drawn0.refl _ | apply Drawn0.step)⟩
    ·rw [if_neg c4] at H; exact absurd H (by simp)
   ·rw [if_neg c3] at H; have c3b0 : decide (x5_1 < (l0.length : Int)) = false := decide_eq_false c3; clear c3; obtain rfl := Option.some.inj H; go_wp2; go_ret; exact ⟨by first | rfl | (simp; done) | (simp [*]; done), by repeat (first | exact Drawn0.refl _ | apply Drawn0.step)⟩

end Go.Proofs.YthhhmcijbplcoaaGreatDoor.PFnExactReadRules
