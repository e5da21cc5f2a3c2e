-- Written by wip/tools/hp.py over the kit's print (not by hand): functions and walks of All.
import Derived.Test.YtdlfpjbhcpnpfaaDoorPAllx0
namespace Go.Proofs.YtdlfpjbhcpnpfaaDoor.PAll
open Go.RowKit Go.Proofs.YtdlfpjbhcpnpfaaDoorW.PrintWords Go.Proofs.YtdlfpjbhcpnpfaaDoorW.PrintLast Go.Proofs.YtdlfpjbhcpnpfaaDoorW.PrintMore
attribute [local go_sem] max2_int min2_int max_two min_two max_three min_three max_four min_four   -- for this text's walks alone
set_option linter.unusedVariables false
set_option linter.unusedSimpArgs false

/-! ### impl_within: function 33 -/
def impl_within.f (a0 : Int) (a1 : Int) (a2 : Int) : Option (Bool) := if a0 ≥ a1 then (some (decide (a0 ≤ a2))) else (some false)
set_option maxHeartbeats 8000000 in
set_option maxRecDepth 100000 in
theorem impl_within.calls (a0 : Int) (a1 : Int) (a2 : Int) (r : Bool) (w : World) (h : impl_within.f a0 a1 a2 = some r) :
  Calls Tryd.prog 33 #[.int .i64 a0, .int .i64 a1, .int .i64 a2] w fun e w' => e = .returned (.bool r) ∧ Drawn0 w w' := by
 have H : (if a0 ≥ a1 then (some (decide (a0 ≤ a2))) else (some false)) = some r := h; clear h; by_cases c4 : a0 ≥ a1
 ·rw [if_pos c4] at H; have c4b0 : decide (a1 ≤ a0) = true := decide_eq_true c4; clear c4; obtain rfl := Option.some.inj H; go_enter Tryd.func33, Tryd.ntmps33; go_wp2; go_ret; exact ⟨by first | rfl | (simp; done) | (simp [*]; done), by repeat (first | exact Drawn0.refl _ | apply Drawn0.step)⟩
 ·rw [if_neg c4] at H; have c4b0 : decide (a1 ≤ a0) = false := decide_eq_false c4; clear c4; obtain rfl := Option.some.inj H; go_enter Tryd.func33, Tryd.ntmps33; go_wp2; go_ret; exact ⟨by first | rfl | (simp; done) | (simp [*]; done), by repeat (first | exact Drawn0.refl _ | apply Drawn0.step)⟩

/-! ### strings_Trim: function 57, by hand, off the shelf: a cutset of ASCII bytes -/
def strings_Trim.f (a0 a1 : ByteArray) : Option ByteArray := if a0.size ≤ 9223372036854775807 ∧ a1.size < 4294967281 ∧ a1.data.toList.all (fun b => decide (b.toNat < 128)) = true then some ⟨(Lib.trimS a0.data.toList a1.data.toList).toArray⟩ else none
theorem strings_Trim.calls (a0 a1 : ByteArray) (r : ByteArray) (w : World) (h : strings_Trim.f a0 a1 = some r) :
  Calls Tryd.prog 57 #[.string a0, .string a1] w fun e w' => e = .returned (.string r) ∧ Below w.heap.size w w' := by
 unfold strings_Trim.f at h
 split at h
 ·rename_i hr
  obtain rfl := Option.some.inj h; exact Any.strings_Trim_laid Tryd.lays160 (by kernel_rfl) a0 a1 w hr.1 hr.2.1 (ascii_of_all hr.2.2)
 ·cases h

/-! ### impl_areDigits: function 34 -/
def impl_areDigits.f (a0 : ByteArray) : Option (Bool) := (strings_Trim.f a0 (⟨#[48, 49, 50, 51, 52, 53, 54, 55, 56, 57]⟩ : ByteArray)).bind fun t133 => (some t133.toList.isEmpty)
set_option maxHeartbeats 8000000 in
set_option maxRecDepth 100000 in
theorem impl_areDigits.calls (a0 : ByteArray) (r : Bool) (w : World) (h : impl_areDigits.f a0 = some r) :
  Calls Tryd.prog 34 #[.string a0] w fun e w' => e = .returned (.bool r) ∧ Below w.heap.size w w' := by
 have HB := Aside0.mk (Below.refl w.heap.size w); have H : ((strings_Trim.f a0 (⟨#[48, 49, 50, 51, 52, 53, 54, 55, 56, 57]⟩ : ByteArray)).bind fun t133 => (some t133.toList.isEmpty)) = some r := h; clear h; replace H := Option.bind_eq_some_iff.mp H; obtain ⟨t133, A20, H⟩ := H; replace H : (some t133.toList.isEmpty) = some r := H; have A2 := Aside0.mk A20; clear A20; obtain rfl := Option.some.inj H; go_enter Tryd.func34, Tryd.ntmps34
 go_wp2_with (first | ((with_reducible refine gate_callee (f := 57) rfl ?_); refine goesL_ (some 4) rfl rfl Tryd.func57 (by kernel_rfl) rfl #[.string a0, .string (⟨#[48, 49, 50, 51, 52, 53, 54, 55, 56, 57]⟩ : ByteArray)] rfl mq ?_; (with_reducible refine (strings_Trim.calls a0 (⟨#[48, 49, 50, 51, 52, 53, 54, 55, 56, 57]⟩ : ByteArray) t133 _ A2.out).mono ?_); rintro e w3 ⟨rfl, hb⟩; refine ⟨_, rfl, ?_⟩; have n0_ := Aside0.mk (below_step (qb HB) hb); clear HB; have HB := n0_; clear n0_; (try clear hb); (try clear hb2); (try clear hk); (try clear hi)))
 go_ret; exact ⟨eqq, qb HB⟩

/-! ### impl_checkOf: function 35 -/
def impl_checkOf.l0 : Nat → ByteArray → Int → Int → Int → Option (Int)
 | 0, _, _, _, _ => none
 | k + 1, x0, x3, x4, x5 => if x5 ≥ 0 then (if 0 ≤ x5 then (if x5 < (x0.size : Int) then (impl_checkOf.l0 k x0 (wrap64 (x3 + (wrap64 (x4 * (((bt x0 x5) - 48) % 256))))) (wrap64 (4 - x4)) (wrap64 (x5 - 1))) else (none)) else (none)) else (some (Int.tmod (wrap64 (10 - (Int.tmod x3 10))) 10))
def impl_checkOf.f (k : Nat) (a0 : ByteArray) : Option (Int) := impl_checkOf.l0 k a0 0 3 (wrap64 ((a0.size : Int) - 1))
theorem impl_checkOf.mono_l : ∀ k, (∀ y0 y1 y2 y3, LeO (impl_checkOf.l0 k y0 y1 y2 y3) (impl_checkOf.l0 (k + 1) y0 y1 y2 y3))
 | 0 => fun _ _ _ _ r h => by simp [impl_checkOf.l0] at h
 | k + 1 => by
  have ih0 := impl_checkOf.mono_l k
  ·intro y0 y1 y2 y3; unfold impl_checkOf.l0
   repeat' first
   | (with_reducible exact ih0 _ _ _ _)
   | (with_reducible exact LeO.refl _)
   | (with_reducible exact LeO.none _)
   | (with_reducible refine LeO.ite ?_ ?_)
   | (with_reducible refine LeO.bind ?_ (fun _ => ?_))
   | exact ih0 _ _ _ _
   | exact LeO.none _
   | refine LeO.ite ?_ ?_
   | refine LeO.bind ?_ (fun _ => ?_)
theorem impl_checkOf.mono : ∀ a0 k, LeO (impl_checkOf.f k a0) (impl_checkOf.f (k + 1) a0) := by
 intro a0 k; have ih0 := impl_checkOf.mono_l k; unfold impl_checkOf.f
 repeat' first
   | (with_reducible exact ih0 _ _ _ _)
   | (with_reducible exact LeO.refl _)
   | (with_reducible exact LeO.none _)
   | (with_reducible refine LeO.ite ?_ ?_)
   | (with_reducible refine LeO.bind ?_ (fun _ => ?_))
   | exact ih0 _ _ _ _
   | exact LeO.none _
   | refine LeO.ite ?_ ?_
   | refine LeO.bind ?_ (fun _ => ?_)
set_option maxHeartbeats 8000000 in
set_option maxRecDepth 100000 in
theorem impl_checkOf.calls (k : Nat) (a0 : ByteArray) (r : Int) (w : World) (h : impl_checkOf.f k a0 = some r) :
  Calls Tryd.prog 35 #[.string a0] w fun e w' => e = .returned (.int .i64 r) ∧ Drawn0 w w' := by
 have H : (impl_checkOf.l0 k a0 0 3 (wrap64 ((a0.size : Int) - 1))) = some r := h; clear h; have H' := Aside0.mk H; clear H; go_enter Tryd.func35, Tryd.ntmps35; go_wp2
 go_loopg [3, 4, 5] k (fun kq v3 v4 v5 w' => ∃ (x3_1 : Int) (x4_1 : Int) (x5_1 : Int), v3 = .int .i64 x3_1 ∧ v4 = .int .i64 x4_1 ∧ v5 = .int .i64 x5_1 ∧ Aside0 (impl_checkOf.l0 kq a0 x3_1 x4_1 x5_1 = some r) ∧ Aside0 (kq ≤ k) ∧ Drawn0 w w')
 case atStart => exact ⟨(0), (3), (wrap64 ((a0.size : Int) - 1)), (by first | rfl | (simp; done) | (simp [*]; done)), (by first | rfl | (simp; done) | (simp [*]; done)), (by first | rfl | (simp; done) | (simp [*]; done)), H', ⟨Nat.le_refl _⟩, by repeat (first | exact Drawn0.refl _ | apply Drawn0.step)⟩
 case round =>
  clear H'; obtain ⟨x3_1, x4_1, x5_1, rfl, rfl, rfl, HA, HK1, ⟨m1, rfl⟩⟩ := hrel
  cases gk with
  | zero => exact absurd HA.out (by simp [impl_checkOf.l0])
  | succ k1 =>
   have H := HA.out; clear HA; simp only [impl_checkOf.l0] at H; by_cases c2 : x5_1 ≥ 0
   ·rw [if_pos c2] at H; have c2b0 : decide (0 ≤ x5_1) = true := decide_eq_true c2; clear c2; by_cases c3 : 0 ≤ x5_1
    ·rw [if_pos c3] at H; have c3b0 : decide (0 ≤ x5_1) = true := decide_eq_true c3; clear c3; by_cases c4 : x5_1 < (a0.size : Int)
     ·rw [if_pos c4] at H; have c4b0 : decide (x5_1 < (a0.size : Int)) = true := decide_eq_true c4; clear c4; have H' := Aside0.mk H; clear H; have p5 : 0 ≤ (x5_1 : Int) := of_decide_eq_true (by first | (with_reducible assumption) | assumption); have q5 : x5_1 < (a0.size : Int) := of_decide_eq_true (by first | (with_reducible assumption) | assumption); have hx5 := bt_at a0 x5_1; replace p5 := eq_true p5; replace q5 := eq_true q5; go_wp2
      go_roundg k1
      case measure => have := HK1.out; omega
      case rel => exact ⟨(wrap64 (x3_1 + (wrap64 (x4_1 * (((bt a0 x5_1) - 48) % 256))))), (wrap64 (4 - x4_1)), (wrap64 (x5_1 - 1)), (by first | rfl | (simp; done) | (simp [*]; done)), (by first | rfl | (simp; done) | (simp [*]; done)), (by first | rfl | (simp; done) | (simp [*]; done)), H', ⟨by have := HK1.out; omega⟩, by repeat (first | exact Drawn0.refl _ | apply Drawn0.step)⟩
     ·rw [if_neg c4] at H; exact absurd H (by simp)
    ·rw [if_neg c3] at H; exact absurd H (by simp)
   ·rw [if_neg c2] at H; have c2b0 : decide (0 ≤ x5_1) = false := decide_eq_false c2; clear c2; obtain rfl := Option.some.inj H; go_wp2; go_ret; exact ⟨by first | rfl | (simp; done) | (simp [*]; done), by repeat (first | exact Drawn0.refl _ | apply Drawn0.step)⟩

/-! ### strconv_Atoi: function 44, off the shelf: its contract is taken where it is called -/

/-! ### impl_numberOf: function 58, by hand -/
def impl_numberOf.f (a0 : ByteArray) : Option Int := if a0.size ≤ 18 then Lib.atoi a0.data.toList else none
theorem impl_numberOf.calls (a0 : ByteArray) (r : Int) (w : World) (h : impl_numberOf.f a0 = some r) :
  Calls Tryd.prog 58 #[.string a0] w fun e w' => e = .returned (.int .i64 r) ∧ Below w.heap.size w w' := by
 unfold impl_numberOf.f at h
 split at h
 ·rename_i hs
  have hc := Tryd.strconv_Atoi a0 r hs h w; clear h hs; go_enter Tryd.func58, Tryd.ntmps58
  go_wp2_with fail
  refine hc.mono ?_; rintro e w' ⟨rfl, t, rfl⟩; go_wp2; go_ret; exact ⟨rfl, bytes_below (Below.refl _ w) (Nat.le_refl _) _ _⟩
 ·cases h

/-! ### impl_readScan: function 36 -/
mutual
def impl_readScan.j0 : Nat → ByteArray → Int → Bool → Option (Int × ByteArray × Int × Int)
 | 0, _, _, _ => none
 | k + 1, x0, x4, x8 => if x8 = true then (some (0, (⟨#[]⟩ : ByteArray), 0, 4)) else (if 0 ≤ x4 then (if x4 < (x0.size : Int) then (if x4 ≤ (x0.size : Int) then ((impl_checkOf.f k (x0.extract 0 (x4 : Int).toNat)).bind fun t137 => (if (((bt x0 x4) - 48) % 256) = t137 then (if (x0.size : Int) = 8 then (impl_readScan.j1 k x0 true) else (if 0 < (x0.size : Int) then (impl_readScan.j1 k x0 ((bt x0 0) != 50)) else (none))) else (some (0, (⟨#[]⟩ : ByteArray), 0, 15)))) else (none)) else (none)) else (none))
def impl_readScan.j1 : Nat → ByteArray → Bool → Option (Int × ByteArray × Int × Int)
 | 0, _, _ => none
 | k + 1, x0, x35 => if x35 = true then (some (1, x0, 0, 0)) else (if 1 < (x0.size : Int) then (if (bt x0 1) > 49 then (some (0, (⟨#[]⟩ : ByteArray), 0, 13)) else (if 7 ≤ (x0.size : Int) then (if 12 ≤ (x0.size : Int) then ((impl_numberOf.f (x0.extract 7 12)).bind fun t138 => (some (2 + (((bt x0 1) - 48) % 256), x0.extract 2 7, t138, 0))) else (none)) else (none))) else (none))
end
def impl_readScan.f (k : Nat) (a0 : ByteArray) : Option (Int × ByteArray × Int × Int) := if (a0.size : Int) = 8 then ((impl_areDigits.f a0).bind fun t135 => (impl_readScan.j0 k a0 (wrap64 ((a0.size : Int) - 1)) (!t135))) else (if (a0.size : Int) = 13 then ((impl_areDigits.f a0).bind fun t136 => (impl_readScan.j0 k a0 (wrap64 ((a0.size : Int) - 1)) (!t136))) else (impl_readScan.j0 k a0 (wrap64 ((a0.size : Int) - 1)) true))
theorem impl_readScan.mono_l : ∀ k, (∀ y0 y1 y2, LeO (impl_readScan.j0 k y0 y1 y2) (impl_readScan.j0 (k + 1) y0 y1 y2)) ∧ (∀ y0 y1, LeO (impl_readScan.j1 k y0 y1) (impl_readScan.j1 (k + 1) y0 y1))
 | 0 => ⟨fun _ _ _ r h => by simp [impl_readScan.j0] at h, fun _ _ r h => by simp [impl_readScan.j1] at h⟩
 | k + 1 => by
  obtain ⟨ih0, ih1⟩ := impl_readScan.mono_l k; refine ⟨?_, ?_⟩
  ·intro y0 y1 y2; unfold impl_readScan.j0
   repeat' first
   | (with_reducible exact ih0 _ _ _)
   | (with_reducible exact ih1 _ _)
   | (with_reducible exact impl_checkOf.mono _ _)
   | (with_reducible exact LeO.refl _)
   | (with_reducible exact LeO.none _)
   | (with_reducible refine LeO.ite ?_ ?_)
   | (with_reducible refine LeO.bind ?_ (fun _ => ?_))
   | exact ih0 _ _ _
   | exact ih1 _ _
   | exact impl_checkOf.mono _ _
   | exact LeO.none _
   | refine LeO.ite ?_ ?_
   | refine LeO.bind ?_ (fun _ => ?_)
  ·intro y0 y1; unfold impl_readScan.j1
   repeat' first
   | (with_reducible exact ih0 _ _ _)
   | (with_reducible exact ih1 _ _)
   | (with_reducible exact impl_checkOf.mono _ _)
   | (with_reducible exact LeO.refl _)
   | (with_reducible exact LeO.none _)
   | (with_reducible refine LeO.ite ?_ ?_)
   | (with_reducible refine LeO.bind ?_ (fun _ => ?_))
   | exact ih0 _ _ _
   | exact ih1 _ _
   | exact impl_checkOf.mono _ _
   | exact LeO.none _
   | refine LeO.ite ?_ ?_
   | refine LeO.bind ?_ (fun _ => ?_)
theorem impl_readScan.mono : ∀ a0 k, LeO (impl_readScan.f k a0) (impl_readScan.f (k + 1) a0) := by
 intro a0 k; obtain ⟨ih0, ih1⟩ := impl_readScan.mono_l k; unfold impl_readScan.f
 repeat' first
   | (with_reducible exact ih0 _ _ _)
   | (with_reducible exact ih1 _ _)
   | (with_reducible exact impl_checkOf.mono _ _)
   | (with_reducible exact LeO.refl _)
   | (with_reducible exact LeO.none _)
   | (with_reducible refine LeO.ite ?_ ?_)
   | (with_reducible refine LeO.bind ?_ (fun _ => ?_))
   | exact ih0 _ _ _
   | exact ih1 _ _
   | exact impl_checkOf.mono _ _
   | exact LeO.none _
   | refine LeO.ite ?_ ?_
   | refine LeO.bind ?_ (fun _ => ?_)
def impl_readScan.T4 : Bool × List (List Nat × List Nat) := (true, [([], []), ([], []), ([0, 1], [0, 1]), ([2], [2]), ([3], [3]), ([], []), ([], []), ([5, 6], [5, 6]), ([7], [7]), ([4, 8], [4, 8]), ([9, 8], [9])])
def impl_readScan.B4 : List Nat := [0, 0, 3, 7, 15, 0, 0, 96, 224, 511, 1023]
theorem impl_readScan.tab4 : rtab .any (opsOf Tryd.f36 4) = impl_readScan.T4 := by kernel_rfl
theorem impl_readScan.bits4 : waitsOk impl_readScan.T4.2 impl_readScan.B4 = true := by kernel_rfl
def impl_readScan.T10 : Bool × List (List Nat × List Nat) := (true, [([], []), ([0], [0]), ([1], [1]), ([2], [2]), ([3], [3]), ([], []), ([5], [5]), ([], []), ([7], [7]), ([8], [8]), ([4, 6, 9], [4, 6, 9]), ([10, 9, 0, 1, 2, 3, 4, 5, 6, 7, 8, 9, 10], [10]), ([11, 0, 1, 2, 3, 4, 5, 6, 7, 8, 9, 10, 11], [])])
def impl_readScan.B10 : List Nat := [0, 1, 3, 7, 15, 0, 32, 0, 128, 384, 1023, 2047, 4095]
theorem impl_readScan.tab10 : rtab .any (opsOf Tryd.f36 10) = impl_readScan.T10 := by kernel_rfl
theorem impl_readScan.bits10 : waitsOk impl_readScan.T10.2 impl_readScan.B10 = true := by kernel_rfl
set_option maxHeartbeats 8000000 in
set_option maxRecDepth 100000 in
theorem impl_readScan.calls (k : Nat) (a0 : ByteArray) (r1 : Int) (r2 : ByteArray) (r3 : Int) (r4 : Int) (w : World) (h : impl_readScan.f k a0 = some (r1, r2, r3, r4)) :
  Calls Tryd.prog 36 #[.string a0] w fun e w' => e = .returned (.tuple #[.agg #[.int .i64 r1, .string r2, .int .i64 r3], .int .i64 r4]) ∧ Below w.heap.size w w' := by
 have hu29 := Tryd.underlying29; have HB := Aside0.mk (Below.refl w.heap.size w); have H : (if (a0.size : Int) = 8 then ((impl_areDigits.f a0).bind fun t135 => (impl_readScan.j0 k a0 (wrap64 ((a0.size : Int) - 1)) (!t135))) else (if (a0.size : Int) = 13 then ((impl_areDigits.f a0).bind fun t136 => (impl_readScan.j0 k a0 (wrap64 ((a0.size : Int) - 1)) (!t136))) else (impl_readScan.j0 k a0 (wrap64 ((a0.size : Int) - 1)) true))) = some (r1, r2, r3, r4) := h; clear h; have HC2 := Aside0.mk H; clear H; go_enter Tryd.func36, Tryd.ntmps36
 go_upto_region 2 with (first | ((with_reducible refine gate_dst (N := 2) rfl ?_); (try (refine gate_guard (by rfl) ?_; dsimp only)); refine box_event ?hg (N := 2) ?hd (cs := #[.int .i64 0, .string (⟨#[]⟩ : ByteArray), .int .i64 0]) (t := 29) ?hr ?_; (case hd => rfl); (case hg => rfl); (case hr => first | (go_simp; done) | (go_simp; rfl)); intro gb134 hg w3 hbox hb; have n0_ := Aside0.mk (below_step (qb HB) hb); have n1_ := Aside0.mk (hbox); have n2_ := Aside0.mk ((by rw [hg]; exact (below_size (qb HB)) : w.heap.size ≤ gb134)); have n3_ := Aside0.mk ((by rw [hg]; exact (below_size (qb HB)) : w.heap.size ≤ gb134)); clear HB; have HB := n0_; have BK134 := n1_; have GW134 := n2_; have GE134 := n3_; clear n0_ n1_ n2_ n3_; clear hb hbox hg))
 (try simp only [Act.put, sA, s0, sS])
 go_cut [8] (fun v8 wc => ∃ (kq : Nat) (x8_1 : Bool), v8 = .bool x8_1 ∧ Aside0 (impl_readScan.j0 kq a0 (wrap64 ((a0.size : Int) - 1)) x8_1 = some (r1, r2, r3, r4)) ∧ Aside0 (kq ≤ k) ∧ Aside0 (wc.heap[gb134]? = some (.cells #[.int .i64 0, .string (⟨#[]⟩ : ByteArray), .int .i64 0] 29 (0, 0))) ∧ Aside0 (Below w.heap.size w wc))
 case first =>
  have H := HC2.out; clear HC2; by_cases c4 : (a0.size : Int) = 8
  ·rw [if_pos c4] at H; have c4b0 : ((a0.size : Int) == 8) = true := beq_iff_eq.mpr c4; have c4b1 : ((a0.size : Int) != 8) = false := bne_eq_false_iff_eq.mpr c4; clear c4
   (first | rw [c4b0] | (simp only [i64_w, i32_w]; rw [c4b0]) | skip)
   replace H := Option.bind_eq_some_iff.mp H; obtain ⟨t135, A50, H⟩ := H; replace H : (impl_readScan.j0 k a0 (wrap64 ((a0.size : Int) - 1)) (!t135)) = some (r1, r2, r3, r4) := H; have A5 := Aside0.mk A50; clear A50; have H' := Aside0.mk H; clear H
   go_wp2_with (first | (go_at_call 34; (with_reducible refine (impl_areDigits.calls a0 t135 _ A5.out).mono ?_); rintro e w6 ⟨rfl, hb⟩; have n0_ := Aside0.mk (blk_below (bq BK134) hb); have n1_ := Aside0.mk (below_step (qb HB) hb); clear BK134; clear HB; have BK134 := n0_; have HB := n1_; clear n0_ n1_; (try clear hb); (try clear hb2); (try clear hk); (try clear hi)))
   go_meet
   case rel => exact ⟨_, (!t135), (by first | rfl | (simp; done) | (simp [*]; done)), H', ⟨by first | omega | exact Nat.le_refl _⟩, ⟨bq BK134⟩, ⟨qb HB⟩⟩
  ·rw [if_neg c4] at H; have c4b0 : ((a0.size : Int) == 8) = false := beq_eq_false_iff_ne.mpr c4; have c4b1 : ((a0.size : Int) != 8) = true := bne_iff_ne.mpr c4
   (first | rw [c4b0] | (simp only [i64_w, i32_w]; rw [c4b0]) | skip)
   by_cases c7 : (a0.size : Int) = 13
   ·rw [if_pos c7] at H; have c7b0 : ((a0.size : Int) == 13) = true := beq_iff_eq.mpr c7; have c7b1 : ((a0.size : Int) != 13) = false := bne_eq_false_iff_eq.mpr c7; clear c7; replace H := Option.bind_eq_some_iff.mp H; obtain ⟨t136, A80, H⟩ := H; replace H : (impl_readScan.j0 k a0 (wrap64 ((a0.size : Int) - 1)) (!t136)) = some (r1, r2, r3, r4) := H; have A8 := Aside0.mk A80; clear A80; have H' := Aside0.mk H; clear H
    go_wp2_with (first | (go_at_call 34; (with_reducible refine (impl_areDigits.calls a0 t136 _ A8.out).mono ?_); rintro e w9 ⟨rfl, hb⟩; have n0_ := Aside0.mk (blk_below (bq BK134) hb); have n1_ := Aside0.mk (below_step (qb HB) hb); clear BK134; clear HB; have BK134 := n0_; have HB := n1_; clear n0_ n1_; (try clear hb); (try clear hb2); (try clear hk); (try clear hi)))
    go_meet
    case rel => exact ⟨_, (!t136), (by first | rfl | (simp; done) | (simp [*]; done)), H', ⟨by first | omega | exact Nat.le_refl _⟩, ⟨bq BK134⟩, ⟨qb HB⟩⟩
   ·rw [if_neg c7] at H; have c7b0 : ((a0.size : Int) == 13) = false := beq_eq_false_iff_ne.mpr c7; have c7b1 : ((a0.size : Int) != 13) = true := bne_iff_ne.mpr c7; have H' := Aside0.mk H; clear H; go_wp2
    go_meet
    case rel => exact ⟨_, (true), (by first | rfl | (simp; done) | (simp [*]; done)), H', ⟨by first | omega | exact Nat.le_refl _⟩, ⟨bq BK134⟩, ⟨qb HB⟩⟩
 case rest =>
  clear HC2; (try clear p2); (try clear c3); (try clear c4); (try clear c4b0); (try clear c4b1); (try clear p6); (try clear c7); (try clear c7b0); (try clear c7b1); obtain ⟨kq, x8_1, rfl, HA, HJ1, BK134, HB⟩ := hcut
  cases kq with
  | zero => exact absurd HA.out (by simp [impl_readScan.j0])
  | succ kj1 =>
   have H := HA.out; clear HA; simp only [impl_readScan.j0] at H; by_cases c10 : x8_1 = true
   ·subst c10
    have H1 : (some (0, (⟨#[]⟩ : ByteArray), 0, 4)) = some (r1, r2, r3, r4) := by rw [if_pos rfl] at H; exact H
    clear H; have H := H1; clear H1; simp only [Option.some.injEq, Prod.mk.injEq] at H; obtain ⟨rfl, rfl, rfl, rfl⟩ := H; obtain ⟨hcz11_0, hcz11_1, hcz11_2, hfz11_0, hfz11_1, hfz11_2⟩ := bz3 BK134; go_wp2; refine bodyPost_ret (results_ct rfl _ _ gb134 29 #[.int .i64 0, .string (⟨#[]⟩ : ByteArray), .int .i64 0] (0, 0) _ rfl (by (with_reducible repeat (first | refine blk_drewN ?_ _ | refine blk_drew ?_ | refine blk_alloc ?_ _)); refine blk_put (cs := #[.int .i64 0, .string (⟨#[]⟩ : ByteArray), .int .i64 0]) ?_ 2 _ rfl; (with_reducible repeat (first | refine blk_drewN ?_ _ | refine blk_drew ?_ | refine blk_alloc ?_ _)); refine blk_put (cs := #[.int .i64 0, .string (⟨#[]⟩ : ByteArray), .int .i64 0]) ?_ 1 _ rfl; (with_reducible repeat (first | refine blk_drewN ?_ _ | refine blk_drew ?_ | refine blk_alloc ?_ _)); refine blk_put (cs := #[.int .i64 0, .string (⟨#[]⟩ : ByteArray), .int .i64 0]) ?_ 0 _ rfl; (with_reducible repeat (first | refine blk_drewN ?_ _ | refine blk_drew ?_ | refine blk_alloc ?_ _)); exact BK134.out) Tryd.underlying29 rfl (by kernel_rfl)) rfl ?_; exact ⟨eqq, qb HB⟩
   ·replace c10 := Bool.eq_false_iff.mpr c10; subst c10
    have H1 : (if 0 ≤ (wrap64 ((a0.size : Int) - 1)) then (if (wrap64 ((a0.size : Int) - 1)) < (a0.size : Int) then (if (wrap64 ((a0.size : Int) - 1)) ≤ (a0.size : Int) then ((impl_checkOf.f kj1 (a0.extract 0 ((wrap64 ((a0.size : Int) - 1)) : Int).toNat)).bind fun t137 => (if (((bt a0 (wrap64 ((a0.size : Int) - 1))) - 48) % 256) = t137 then (if (a0.size : Int) = 8 then (impl_readScan.j1 kj1 a0 true) else (if 0 < (a0.size : Int) then (impl_readScan.j1 kj1 a0 ((bt a0 0) != 50)) else (none))) else (some (0, (⟨#[]⟩ : ByteArray), 0, 15)))) else (none)) else (none)) else (none)) = some (r1, r2, r3, r4) := by rw [if_neg (show ¬ (false = true) by decide)] at H; exact H
    clear H; have H := H1; clear H1; obtain ⟨ji12, hji12⟩ : ∃ j_ : Int, (wrap64 ((a0.size : Int) - 1)) = j_ := ⟨_, rfl⟩
    replace H : (if 0 ≤ (ji12) then (if (ji12) < (a0.size : Int) then (if (ji12) ≤ (a0.size : Int) then ((impl_checkOf.f kj1 (a0.extract 0 ((ji12) : Int).toNat)).bind fun t137 => (if (((bt a0 (ji12)) - 48) % 256) = t137 then (if (a0.size : Int) = 8 then (impl_readScan.j1 kj1 a0 true) else (if 0 < (a0.size : Int) then (impl_readScan.j1 kj1 a0 ((bt a0 0) != 50)) else (none))) else (some (0, (⟨#[]⟩ : ByteArray), 0, 15)))) else (none)) else (none)) else (none)) = some (r1, r2, r3, r4) := by first | (rw [hji12] at H; exact H) | (simp only [hji12] at H ⊢; exact H)
    have hji12w : (IntKind.i64.wrap ((a0.size : Int) - 1)) = ji12 := (i64_w _).trans hji12; by_cases c13 : 0 ≤ (ji12)
    ·rw [if_pos c13] at H; have c13b0 : decide (0 ≤ (ji12)) = true := decide_eq_true c13; clear c13; by_cases c14 : (ji12) < (a0.size : Int)
     ·rw [if_pos c14] at H; have c14b0 : decide ((ji12) < (a0.size : Int)) = true := decide_eq_true c14; clear c14; have c16b0 := eq_true (of_decide_eq_true (by first | (with_reducible assumption) | assumption) : 0 ≤ (ji12)); by_cases c17 : (ji12) ≤ (a0.size : Int)
      ·rw [if_pos c17] at H; have c17b0 := eq_true c17; have c17b1 : decide ((ji12) ≤ (a0.size : Int)) = true := decide_eq_true c17; clear c17; replace H := Option.bind_eq_some_iff.mp H; obtain ⟨t137, A180, H⟩ := H; replace H : (if (((bt a0 (ji12)) - 48) % 256) = t137 then (if (a0.size : Int) = 8 then (impl_readScan.j1 kj1 a0 true) else (if 0 < (a0.size : Int) then (impl_readScan.j1 kj1 a0 ((bt a0 0) != 50)) else (none))) else (some (0, (⟨#[]⟩ : ByteArray), 0, 15))) = some (r1, r2, r3, r4) := H; have A18 := Aside0.mk A180; clear A180; by_cases c19 : (((bt a0 (ji12)) - 48) % 256) = t137
       ·rw [if_pos c19] at H; have c19b0 : ((((bt a0 (ji12)) - 48) % 256) == t137) = true := beq_iff_eq.mpr c19; have c19b0u0 : ((wrap64 (IntKind.u8.wrap ((bt a0 (ji12)) - 48))) == t137) = true := (congrArg (fun z_ => (z_ == t137)) (u8_back ((bt a0 (ji12)) - 48)).2).trans c19b0; have c19b0u1 : ((wrap64 (((bt a0 (ji12)) - 48) % 256)) == t137) = true := (congrArg (fun z_ => (z_ == t137)) (u8_back ((bt a0 (ji12)) - 48)).1).trans c19b0; have c19b1 : ((((bt a0 (ji12)) - 48) % 256) != t137) = false := bne_eq_false_iff_eq.mpr c19; have c19b1u0 : ((wrap64 (IntKind.u8.wrap ((bt a0 (ji12)) - 48))) != t137) = false := (congrArg (fun z_ => (z_ != t137)) (u8_back ((bt a0 (ji12)) - 48)).2).trans c19b1; have c19b1u1 : ((wrap64 (((bt a0 (ji12)) - 48) % 256)) != t137) = false := (congrArg (fun z_ => (z_ != t137)) (u8_back ((bt a0 (ji12)) - 48)).1).trans c19b1; clear c19; have HC20 := Aside0.mk H; clear H
        try go_wp2
        have n0_ := Aside0.mk (blk_drew BK134.out); have n1_ := Aside0.mk (below_drew1 HB.out); clear BK134; clear HB; have BK134 := n0_; have HB := n1_; clear n0_ n1_; have p15 : 0 ≤ ((ji12) : Int) := of_decide_eq_true (by first | (with_reducible assumption) | assumption); have q15 : (ji12) < (a0.size : Int) := of_decide_eq_true (by first | (with_reducible assumption) | assumption); have hx15 := bt_at a0 (ji12); replace p15 := eq_true p15; replace q15 := eq_true q15; refine start_ (n := 11) (S := fun w' => True) (ds := []) (rl_ true [0, 11]).toArray (by kernel_rfl) rfl rfl trivial (fun hHeld => ?_); refine with_tabW impl_readScan.tab4 impl_readScan.bits4 (fun HT_ HW_ => ?_); generalize wc.drew = w21 at BK134 HB hHeld ⊢; refine pure_ (i := 0) (N := some 24) (v := ?_) (a' := ?_) (rl_ true [1, 10]).toArray rfl rfl (any_of HT_.out (by kernel_rfl)) (fun _ _ _ h => h) (Or.inl ⟨by rfl, ?_⟩) ?_ ?_; rotate_left
        ·intro w'; go_simp; (with_reducible rfl)
        rotate_left
        ·simp only [Act.put, sA, s0, sS, i64_w, i32_w]; rfl
        refine pure_ (i := 1) (N := some 25) (v := ?_) (a' := ?_) (rl_ true [2, 9]).toArray rfl rfl (any_of HT_.out (by kernel_rfl)) (fun _ _ _ h => h) (Or.inl ⟨by rfl, ?_⟩) ?_ ?_; rotate_left
        ·intro w'; go_simp; (with_reducible rfl)
        rotate_left
        ·simp only [Act.put, sA, s0, sS, i64_w, i32_w]; rfl
        refine pure_ (i := 5) (N := some 29) (v := ?_) (a' := ?_) (rl_ true [2, 3, 1, 5]).toArray rfl rfl (any_of HT_.out (by kernel_rfl)) (fun _ _ _ h => h) (Or.inl ⟨by rfl, ?_⟩) ?_ ?_; rotate_left
        ·intro w'; go_simp; (with_reducible rfl)
        rotate_left
        ·simp only [Act.put, sA, s0, sS, i64_w, i32_w]; rfl
        refine pure_ (i := 6) (N := some 30) (v := ?_) (a' := ?_) (rl_ true [2, 3, 2, 4]).toArray rfl rfl (any_of HT_.out (by kernel_rfl)) (fun _ _ _ h => h) (Or.inl ⟨by rfl, ?_⟩) ?_ ?_; rotate_left
        ·intro w'; go_simp; (with_reducible rfl)
        rotate_left
        ·simp only [Act.put, sA, s0, sS, i64_w, i32_w]; rfl
        refine pure_ (i := 7) (N := some 31) (v := ?_) (a' := ?_) (rl_ true [2, 3, 3, 3]).toArray rfl rfl (any_of HT_.out (by kernel_rfl)) (fun _ _ _ h => h) (Or.inl ⟨by rfl, ?_⟩) ?_ ?_; rotate_left
        ·intro w'; go_simp; (with_reducible rfl)
        rotate_left
        ·simp only [Act.put, sA, s0, sS, i64_w, i32_w]; rfl
        refine take_ (i := 2) (N := some 26) (v := ?_) (a' := ?_) (rl_ true [3, 2, 3, 3]).toArray rfl rfl (take_ofW HT_.out HW_.out (by kernel_rfl)) (fun _ _ _ h => h) (Or.inl ⟨by rfl, ?_⟩) hHeld ?_ ?_; rotate_left
        ·intro w' _; go_simp; (with_reducible rfl)
        rotate_left
        ·simp only [Act.put, sA, s0, sS, i64_w, i32_w]; rfl
        refine pure_ (i := 3) (N := some 27) (v := ?_) (a' := ?_) (rl_ true [4, 1, 3, 3]).toArray rfl rfl (any_of HT_.out (by kernel_rfl)) (fun _ _ _ h => h) (Or.inl ⟨by rfl, ?_⟩) ?_ ?_; rotate_left
        ·intro w'; go_simp; (with_reducible rfl)
        rotate_left
        ·simp only [Act.put, sA, s0, sS, i64_w, i32_w]; rfl
        refine pure_ (i := 4) (N := some 28) (v := ?_) (a' := ?_) (rl_ true [8, 3]).toArray rfl rfl (any_of HT_.out (by kernel_rfl)) (fun _ _ _ h => h) (Or.inl ⟨by rfl, ?_⟩) ?_ ?_; rotate_left
        ·intro w'; go_simp; (with_reducible rfl)
        rotate_left
        ·simp only [Act.put, sA, s0, sS, i64_w, i32_w]; rfl
        refine one_ (i := 8) (N := some 32) (rl_ true [9, 2]).toArray rfl rfl (one_of HT_.out (by kernel_rfl)) (by decide) (fun K hK => ?_); refine goes_ Tryd.func35 (by kernel_rfl) rfl #[.string (a0.extract 0 ((ji12) : Int).toNat)] (by rfl) rfl rfl (by (try simp only [List.map_toArray, List.map_cons, List.map_nil]); first | done | (simp only [hji12]; rfl) | rfl | (simp only [List.length_drop, List.length_take]; rfl)) ?_; (with_reducible refine (impl_checkOf.calls kj1 (a0.extract 0 ((ji12) : Int).toNat) t137 _ A18.out).mono ?_); rintro e w' ⟨rfl, ⟨nd, rfl⟩⟩; refine ⟨_, rfl, ?_⟩; refine hK.out _ _ trivial (fun hHeld => ?_); clear hK K; refine norm_ (a' := ?_) ?_ ?_; rotate_left
        ·show Act.put _ (some 32) _ = _; simp only [Act.put, sA, s0, sS, i64_w, i32_w]; rfl
        refine pure_ (i := 9) (N := some 33) (v := ?_) (a' := ?_) (rl_ true [10, 1]).toArray rfl rfl (any_of HT_.out (by kernel_rfl)) (fun _ _ _ h => h) (Or.inl ⟨by rfl, ?_⟩) ?_ ?_; rotate_left
        ·intro w'; go_simp; (with_reducible rfl)
        rotate_left
        ·simp only [Act.put, sA, s0, sS, i64_w, i32_w]; rfl
        refine pure_ (i := 10) (N := some 23) (v := ?_) (a' := ?_) (rl_ true [11]).toArray rfl rfl (any_of HT_.out (by kernel_rfl)) (fun _ _ _ h => h) (Or.inl ⟨by rfl, ?_⟩) ?_ ?_; rotate_left
        ·intro w'; go_simp; (with_reducible rfl)
        rotate_left
        ·simp only [Act.put, sA, s0, sS, i64_w, i32_w]; rfl
        refine done_ (done_of HT_.out (by kernel_rfl)) ?_
        go_upto_region 6 with (fail)
        go_cut [35] (fun v35 wc => ∃ (kq : Nat) (x35_19 : Bool), v35 = .bool x35_19 ∧ Aside0 (impl_readScan.j1 kq a0 x35_19 = some (r1, r2, r3, r4)) ∧ Aside0 (kq ≤ kj1) ∧ Aside0 (wc.heap[gb134]? = some (.cells #[.int .i64 0, .string (⟨#[]⟩ : ByteArray), .int .i64 0] 29 (0, 0))) ∧ Aside0 (Below w.heap.size w wc))
        case first =>
         have H := HC20.out; clear HC20; by_cases c22 : (a0.size : Int) = 8
         ·rw [if_pos c22] at H; have c22b0 : ((a0.size : Int) == 8) = true := beq_iff_eq.mpr c22; have c22b1 : ((a0.size : Int) != 8) = false := bne_eq_false_iff_eq.mpr c22; clear c22
          (first | rw [c22b0] | (simp only [i64_w, i32_w]; rw [c22b0]) | skip)
          have H' := Aside0.mk H; clear H; go_wp2
          go_meet
          case rel => exact ⟨_, (true), (by first | rfl | (simp; done) | (simp [*]; done)), H', ⟨by have := HJ1.out; first | omega | exact Nat.le_refl _⟩, ⟨bq BK134⟩, ⟨qb HB⟩⟩
         ·rw [if_neg c22] at H; have c22b0 : ((a0.size : Int) == 8) = false := beq_eq_false_iff_ne.mpr c22; have c22b1 : ((a0.size : Int) != 8) = true := bne_iff_ne.mpr c22
          (first | rw [c22b0] | (simp only [i64_w, i32_w]; rw [c22b0]) | skip)
          by_cases c23 : 0 < (a0.size : Int)
          ·rw [if_pos c23] at H; have c23b0 : decide (0 < (a0.size : Int)) = true := decide_eq_true c23; have c23b1 : decide (0 < a0.size) = true := decide_eq_true (by omega); clear c23; have H' := Aside0.mk H; clear H; have p24 : 0 ≤ (0 : Int) := (by omega); have q24 : 0 < a0.size := (by have : (0 : Int) < (a0.size : Int) := of_decide_eq_true (by first | (with_reducible assumption) | assumption); omega); have hx24 : ∀ h : 0 < a0.size, ((a0[0]'h).toNat : Int) = bt a0 0 := bt_at a0 0; clear p24; have qi24 : (0 < (a0.size : Int)) = True := eq_true (of_decide_eq_true (by first | (with_reducible assumption) | assumption)); replace q24 := eq_true q24; go_wp2
           go_meet
           case rel => exact ⟨_, (((bt a0 0) != 50)), (by first | rfl | (simp; done) | (simp [*]; done)), H', ⟨by have := HJ1.out; first | omega | exact Nat.le_refl _⟩, ⟨bq BK134⟩, ⟨qb HB⟩⟩
          ·rw [if_neg c23] at H; exact absurd H (by simp)
        case rest =>
         clear HC20; (try clear c1); (try clear p1); (try clear q1); (try clear hx1); (try clear c2); (try clear p2); (try clear q2); (try clear hx2); (try clear qi2); (try clear c3); (try clear c4); (try clear c4b0); (try clear c4b1); (try clear p6); (try clear c7); (try clear c7b0); (try clear c7b1); (try clear c10); (try clear c13); (try clear c13b0); (try clear c14); (try clear c14b0); (try clear p15); (try clear q15); (try clear hx15); (try clear c16); (try clear c16b0); (try clear c17); (try clear c17b0); (try clear c17b1); (try clear c19); (try clear c19b0); (try clear c19b1); (try clear c22); (try clear c22b0); (try clear c22b1); (try clear c23); (try clear c23b0); (try clear c23b1); (try clear p24); (try clear q24); (try clear hx24); (try clear qi24); (try clear hcz11_0); (try clear hcz11_1); (try clear hcz11_2); (try clear hfz11_0); (try clear hfz11_1); (try clear hfz11_2); (try clear p15); (try clear p2); (try clear p24); (try clear p6); (try clear q15); (try clear q24); obtain ⟨kq, x35_19, rfl, HA, HJ19, BK134, HB⟩ := hcut
         cases kq with
         | zero => exact absurd HA.out (by simp [impl_readScan.j1])
         | succ kj19 =>
          have H := HA.out; clear HA; simp only [impl_readScan.j1] at H; by_cases c25 : x35_19 = true
          ·subst c25
           have H1 : (some (1, a0, 0, 0)) = some (r1, r2, r3, r4) := by rw [if_pos rfl] at H; exact H
           clear H; have H := H1; clear H1; simp only [Option.some.injEq, Prod.mk.injEq] at H; obtain ⟨rfl, rfl, rfl, rfl⟩ := H; obtain ⟨hcz26_0, hcz26_1, hcz26_2, hfz26_0, hfz26_1, hfz26_2⟩ := bz3 BK134; go_wp2; refine bodyPost_ret (results_ct rfl _ _ gb134 29 #[.int .i64 1, .string a0, .int .i64 0] (0, 0) _ rfl (by (with_reducible repeat (first | refine blk_drewN ?_ _ | refine blk_drew ?_ | refine blk_alloc ?_ _)); refine blk_put (cs := #[.int .i64 1, .string a0, .int .i64 0]) ?_ 2 _ rfl; (with_reducible repeat (first | refine blk_drewN ?_ _ | refine blk_drew ?_ | refine blk_alloc ?_ _)); refine blk_put (cs := #[.int .i64 1, .string (⟨#[]⟩ : ByteArray), .int .i64 0]) ?_ 1 _ rfl; (with_reducible repeat (first | refine blk_drewN ?_ _ | refine blk_drew ?_ | refine blk_alloc ?_ _)); refine blk_put (cs := #[.int .i64 0, .string (⟨#[]⟩ : ByteArray), .int .i64 0]) ?_ 0 _ rfl; (with_reducible repeat (first | refine blk_drewN ?_ _ | refine blk_drew ?_ | refine blk_alloc ?_ _)); exact BK134.out) Tryd.underlying29 rfl (by kernel_rfl)) rfl ?_; exact ⟨by first | rfl | (simp [errW_none, errW_some] <;> rfl) | (simp only [← hji12]; first | rfl | (simp [errW_none, errW_some] <;> rfl)) | (simp [*, errW_none, errW_some] <;> rfl), qb HB⟩
          ·replace c25 := Bool.eq_false_iff.mpr c25; subst c25
           have H1 : (if 1 < (a0.size : Int) then (if (bt a0 1) > 49 then (some (0, (⟨#[]⟩ : ByteArray), 0, 13)) else (if 7 ≤ (a0.size : Int) then (if 12 ≤ (a0.size : Int) then ((impl_numberOf.f (a0.extract 7 12)).bind fun t138 => (some (2 + (((bt a0 1) - 48) % 256), a0.extract 2 7, t138, 0))) else (none)) else (none))) else (none)) = some (r1, r2, r3, r4) := by rw [if_neg (show ¬ (false = true) by decide)] at H; exact H
           clear H; have H := H1; clear H1; by_cases c27 : 1 < (a0.size : Int)
           ·rw [if_pos c27] at H; have c27b0 : decide (1 < (a0.size : Int)) = true := decide_eq_true c27; have c27b1 : decide (1 < a0.size) = true := decide_eq_true (by omega); clear c27; by_cases c29 : (bt a0 1) > 49
            ·rw [if_pos c29] at H; have c29b0 : decide (49 < (bt a0 1)) = true := decide_eq_true c29; clear c29; simp only [Option.some.injEq, Prod.mk.injEq] at H; obtain ⟨rfl, rfl, rfl, rfl⟩ := H; have p28 : 0 ≤ (1 : Int) := (by omega); have q28 : 1 < a0.size := (by have : (1 : Int) < (a0.size : Int) := of_decide_eq_true (by first | (with_reducible assumption) | assumption); omega); have hx28 : ∀ h : 1 < a0.size, ((a0[1]'h).toNat : Int) = bt a0 1 := bt_at a0 1; clear p28; have qi28 : (1 < (a0.size : Int)) = True := eq_true (of_decide_eq_true (by first | (with_reducible assumption) | assumption)); replace q28 := eq_true q28; obtain ⟨hcz30_0, hcz30_1, hcz30_2, hfz30_0, hfz30_1, hfz30_2⟩ := bz3 BK134; go_wp2; refine bodyPost_ret (results_ct rfl _ _ gb134 29 #[.int .i64 0, .string (⟨#[]⟩ : ByteArray), .int .i64 0] (0, 0) _ rfl (by (with_reducible repeat (first | refine blk_drewN ?_ _ | refine blk_drew ?_ | refine blk_alloc ?_ _)); refine blk_put (cs := #[.int .i64 0, .string (⟨#[]⟩ : ByteArray), .int .i64 0]) ?_ 2 _ rfl; (with_reducible repeat (first | refine blk_drewN ?_ _ | refine blk_drew ?_ | refine blk_alloc ?_ _)); refine blk_put (cs := #[.int .i64 0, .string (⟨#[]⟩ : ByteArray), .int .i64 0]) ?_ 1 _ rfl; (with_reducible repeat (first | refine blk_drewN ?_ _ | refine blk_drew ?_ | refine blk_alloc ?_ _)); refine blk_put (cs := #[.int .i64 0, .string (⟨#[]⟩ : ByteArray), .int .i64 0]) ?_ 0 _ rfl; (with_reducible repeat (first | refine blk_drewN ?_ _ | refine blk_drew ?_ | refine blk_alloc ?_ _)); exact BK134.out) Tryd.underlying29 rfl (by kernel_rfl)) rfl ?_; exact ⟨by first | rfl | (simp [errW_none, errW_some] <;> rfl) | (simp only [← hji12]; first | rfl | (simp [errW_none, errW_some] <;> rfl)) | (simp [*, errW_none, errW_some] <;> rfl), qb HB⟩
            ·rw [if_neg c29] at H; have c29b0 : decide (49 < (bt a0 1)) = false := decide_eq_false c29; clear c29; by_cases c32 : 7 ≤ (a0.size : Int)
             ·rw [if_pos c32] at H; have c32b0 := eq_true c32; have c32b1 : decide (7 ≤ (a0.size : Int)) = true := decide_eq_true c32; clear c32; by_cases c33 : 12 ≤ (a0.size : Int)
              ·rw [if_pos c33] at H; have c33b0 := eq_true c33; have c33b1 : decide (12 ≤ (a0.size : Int)) = true := decide_eq_true c33; clear c33; replace H := Option.bind_eq_some_iff.mp H; obtain ⟨t138, A340, H⟩ := H; replace H : (some (2 + (((bt a0 1) - 48) % 256), a0.extract 2 7, t138, 0)) = some (r1, r2, r3, r4) := H; have A34 := Aside0.mk A340; clear A340; simp only [Option.some.injEq, Prod.mk.injEq] at H; obtain ⟨rfl, rfl, rfl, rfl⟩ := H; have p28 : 0 ≤ (1 : Int) := (by omega); have q28 : 1 < a0.size := (by have : (1 : Int) < (a0.size : Int) := of_decide_eq_true (by first | (with_reducible assumption) | assumption); omega); have hx28 : ∀ h : 1 < a0.size, ((a0[1]'h).toNat : Int) = bt a0 1 := bt_at a0 1; clear p28; have qi28 : (1 < (a0.size : Int)) = True := eq_true (of_decide_eq_true (by first | (with_reducible assumption) | assumption)); replace q28 := eq_true q28
               try go_wp2
               have n0_ := Aside0.mk (blk_drew BK134.out); have n1_ := Aside0.mk (below_drew1 HB.out); clear BK134; clear HB; have BK134 := n0_; have HB := n1_; clear n0_ n1_; have p31 : 0 ≤ (1 : Int) := (by omega); have q31 : 1 < a0.size := (by have : (1 : Int) < (a0.size : Int) := of_decide_eq_true (by first | (with_reducible assumption) | assumption); omega); have hx31 : ∀ h : 1 < a0.size, ((a0[1]'h).toNat : Int) = bt a0 1 := bt_at a0 1; clear p31; have qi31 : (1 < (a0.size : Int)) = True := eq_true (of_decide_eq_true (by first | (with_reducible assumption) | assumption)); replace q31 := eq_true q31; refine start_ (n := 13) (S := fun w' => True) (ds := []) (rl_ true [0, 13]).toArray (by kernel_rfl) rfl rfl trivial (fun hHeld => ?_); refine with_tabW impl_readScan.tab10 impl_readScan.bits10 (fun HT_ HW_ => ?_); generalize wc.drew = w35 at BK134 HB hHeld ⊢; refine pure_ (i := 0) (N := some 51) (v := ?_) (a' := ?_) (rl_ true [1, 12]).toArray rfl rfl (any_of HT_.out (by kernel_rfl)) (fun _ _ _ h => h) (Or.inl ⟨by rfl, ?_⟩) ?_ ?_; rotate_left
               ·intro w'; go_simp; (with_reducible rfl)
               rotate_left
               ·simp only [Act.put, sA, s0, sS, i64_w, i32_w]; rfl
               refine pure_ (i := 5) (N := some 56) (v := ?_) (a' := ?_) (rl_ true [1, 4, 1, 7]).toArray rfl rfl (any_of HT_.out (by kernel_rfl)) (fun _ _ _ h => h) (Or.inl ⟨by rfl, ?_⟩) ?_ ?_; rotate_left
               ·intro w'; go_simp; (with_reducible rfl)
               rotate_left
               ·simp only [Act.put, sA, s0, sS, i64_w, i32_w]; rfl
               refine pure_ (i := 6) (N := some 57) (v := ?_) (a' := ?_) (rl_ true [1, 4, 2, 6]).toArray rfl rfl (any_of HT_.out (by kernel_rfl)) (fun _ _ _ h => h) (Or.inl ⟨by rfl, ?_⟩) ?_ ?_; rotate_left
               ·intro w'; go_simp; (with_reducible rfl)
               rotate_left
               ·simp only [Act.put, sA, s0, sS, i64_w, i32_w]; rfl
               refine pure_ (i := 7) (N := some 58) (v := ?_) (a' := ?_) (rl_ true [1, 4, 3, 5]).toArray rfl rfl (any_of HT_.out (by kernel_rfl)) (fun _ _ _ h => h) (Or.inl ⟨by rfl, ?_⟩) ?_ ?_; rotate_left
               ·intro w'; go_simp; (with_reducible rfl)
               rotate_left
               ·simp only [Act.put, sA, s0, sS, i64_w, i32_w]; rfl
               refine pure_ (i := 8) (N := some 59) (v := ?_) (a' := ?_) (rl_ true [1, 4, 4, 4]).toArray rfl rfl (any_of HT_.out (by kernel_rfl)) (fun _ _ _ h => h) (Or.inl ⟨by rfl, ?_⟩) ?_ ?_; rotate_left
               ·intro w'; go_simp; (with_reducible rfl)
               rotate_left
               ·simp only [Act.put, sA, s0, sS, i64_w, i32_w]; rfl
               refine take_ (i := 1) (N := some 52) (v := ?_) (a' := ?_) (rl_ true [2, 3, 4, 4]).toArray rfl rfl (take_ofW HT_.out HW_.out (by kernel_rfl)) (fun _ _ _ h => h) (Or.inl ⟨by rfl, ?_⟩) hHeld ?_ ?_; rotate_left
               ·intro w' _; go_simp; (with_reducible rfl)
               rotate_left
               ·simp only [Act.put, sA, s0, sS, i64_w, i32_w]; rfl
               refine pure_ (i := 2) (N := some 53) (v := ?_) (a' := ?_) (rl_ true [3, 2, 4, 4]).toArray rfl rfl (any_of HT_.out (by kernel_rfl)) (fun _ _ _ h => h) (Or.inl ⟨by rfl, ?_⟩) ?_ ?_; rotate_left
               ·intro w'; go_simp; (with_reducible rfl)
               rotate_left
               ·simp only [Act.put, sA, s0, sS, i64_w, i32_w]; rfl
               refine pure_ (i := 3) (N := some 54) (v := ?_) (a' := ?_) (rl_ true [4, 1, 4, 4]).toArray rfl rfl (any_of HT_.out (by kernel_rfl)) (fun _ _ _ h => h) (Or.inl ⟨by rfl, ?_⟩) ?_ ?_; rotate_left
               ·intro w'; go_simp; (with_reducible rfl)
               rotate_left
               ·simp only [Act.put, sA, s0, sS, i64_w, i32_w]; rfl
               refine pure_ (i := 4) (N := some 55) (v := ?_) (a' := ?_) (rl_ true [9, 4]).toArray rfl rfl (any_of HT_.out (by kernel_rfl)) (fun _ _ _ h => h) (Or.inl ⟨by rfl, ?_⟩) ?_ ?_; rotate_left
               ·intro w'; go_simp; (with_reducible rfl)
               rotate_left
               ·simp only [Act.put, sA, s0, sS, i64_w, i32_w]; rfl
               refine one_ (i := 9) (N := some 60) (rl_ true [10, 3]).toArray rfl rfl (one_of HT_.out (by kernel_rfl)) (by decide) (fun K hK => ?_); refine goes_ Tryd.func58 (by kernel_rfl) rfl #[.string (a0.extract 7 12)] (by rfl) rfl rfl mq ?_; (with_reducible refine (impl_numberOf.calls (a0.extract 7 12) t138 _ A34.out).mono ?_); rintro e w36 ⟨rfl, hb⟩; refine ⟨_, rfl, ?_⟩; have n0_ := Aside0.mk (blk_below (bq BK134) hb); have n1_ := Aside0.mk (below_step (qb HB) hb); clear BK134; clear HB; have BK134 := n0_; have HB := n1_; clear n0_ n1_; (try clear hb); (try clear hb2); (try clear hk); (try clear hi); refine hK.out _ _ trivial (fun hHeld => ?_); clear hK K; refine norm_ (a' := ?_) ?_ ?_; rotate_left
               ·show Act.put _ (some 60) _ = _; simp only [Act.put, sA, s0, sS, i64_w, i32_w]; rfl
               refine pure_ (i := 10) (N := some 61) (v := ?_) (a' := ?_) (rl_ true [11, 2]).toArray rfl rfl (any_of HT_.out (by kernel_rfl)) (fun _ _ _ h => h) (Or.inl ⟨by rfl, ?_⟩) ?_ ?_; rotate_left
               ·intro w'; go_simp; (with_reducible rfl)
               rotate_left
               ·simp only [Act.put, sA, s0, sS, i64_w, i32_w]; rfl
               refine one_ (i := 11) (N := none) (rl_ true [12, 1]).toArray rfl rfl (one_of HT_.out (by kernel_rfl)) (by decide) (fun K hK => ?_); have hs37 : w36.cell? ⟨gb134, 0, none⟩ = some (.int .i64 0) := (blk_cell BK134.out 0).trans rfl; have hfs37 := blk_frozen BK134.out 0; have hs38 : w36.cell? ⟨gb134, 1, none⟩ = some (.string (⟨#[]⟩ : ByteArray)) := (blk_cell BK134.out 1).trans rfl; have hfs38 := blk_frozen BK134.out 1; have hs39 : w36.cell? ⟨gb134, 2, none⟩ = some (.int .i64 0) := (blk_cell BK134.out 2).trans rfl; have hfs39 := blk_frozen BK134.out 2; refine skip_ (w1 := ?_) (by rfl) rfl ?_ ?_; rotate_left
               ·go_simp; rfl
               refine hK.out _ _ trivial (fun hHeld => ?_); clear hK K; refine pure_ (i := 12) (N := some 3) (v := ?_) (a' := ?_) (rl_ true [13]).toArray rfl rfl (any_of HT_.out (by kernel_rfl)) (fun _ _ _ h => h) (Or.inl ⟨by rfl, ?_⟩) ?_ ?_; rotate_left
               ·intro w'; go_simp; (with_reducible rfl)
               rotate_left
               ·simp only [Act.put, sA, s0, sS, i64_w, i32_w]; rfl
               refine done_ (done_of HT_.out (by kernel_rfl)) ?_
               try go_wp2
               refine bodyPost_ret (results_ct rfl _ _ gb134 29 #[.int .i64 (2 + (((bt a0 1) - 48) % 256)), .string (a0.extract 2 7), .int .i64 t138] (0, 0) _ rfl (by (with_reducible repeat (first | refine blk_drewN ?_ _ | refine blk_drew ?_ | refine blk_alloc ?_ _)); refine blk_put (cs := #[.int .i64 (2 + (((bt a0 1) - 48) % 256)), .string (a0.extract 2 7), .int .i64 0]) ?_ 2 _ rfl; (with_reducible repeat (first | refine blk_drewN ?_ _ | refine blk_drew ?_ | refine blk_alloc ?_ _)); refine blk_put (cs := #[.int .i64 (2 + (((bt a0 1) - 48) % 256)), .string (⟨#[]⟩ : ByteArray), .int .i64 0]) ?_ 1 _ rfl; (with_reducible repeat (first | refine blk_drewN ?_ _ | refine blk_drew ?_ | refine blk_alloc ?_ _)); refine blk_put (cs := #[.int .i64 0, .string (⟨#[]⟩ : ByteArray), .int .i64 0]) ?_ 0 _ (by first | rfl | (rw [u8_two]; rfl)); (with_reducible repeat (first | refine blk_drewN ?_ _ | refine blk_drew ?_ | refine blk_alloc ?_ _)); exact BK134.out) Tryd.underlying29 rfl (by kernel_rfl)) rfl ?_; exact ⟨by first | rfl | (simp [errW_none, errW_some] <;> rfl) | (simp only [← hji12]; first | rfl | (simp [errW_none, errW_some] <;> rfl)) | (simp [*, errW_none, errW_some] <;> rfl), qb HB⟩
              ·rw [if_neg c33] at H; exact absurd H (by simp)
             ·rw [if_neg c32] at H; exact absurd H (by simp)
           ·rw [if_neg c27] at H; exact absurd H (by simp)
       ·rw [if_neg c19] at H; have c19b0 : ((((bt a0 (ji12)) - 48) % 256) == t137) = false := beq_eq_false_iff_ne.mpr c19; have c19b0u0 : ((wrap64 (IntKind.u8.wrap ((bt a0 (ji12)) - 48))) == t137) = false := (congrArg (fun z_ => (z_ == t137)) (u8_back ((bt a0 (ji12)) - 48)).2).trans c19b0; have c19b0u1 : ((wrap64 (((bt a0 (ji12)) - 48) % 256)) == t137) = false := (congrArg (fun z_ => (z_ == t137)) (u8_back ((bt a0 (ji12)) - 48)).1).trans c19b0; have c19b1 : ((((bt a0 (ji12)) - 48) % 256) != t137) = true := bne_iff_ne.mpr c19; have c19b1u0 : ((wrap64 (IntKind.u8.wrap ((bt a0 (ji12)) - 48))) != t137) = true := (congrArg (fun z_ => (z_ != t137)) (u8_back ((bt a0 (ji12)) - 48)).2).trans c19b1; have c19b1u1 : ((wrap64 (((bt a0 (ji12)) - 48) % 256)) != t137) = true := (congrArg (fun z_ => (z_ != t137)) (u8_back ((bt a0 (ji12)) - 48)).1).trans c19b1; simp only [Option.some.injEq, Prod.mk.injEq] at H; obtain ⟨rfl, rfl, rfl, rfl⟩ := H
        try go_wp2
        have n0_ := Aside0.mk (blk_drew BK134.out); have n1_ := Aside0.mk (below_drew1 HB.out); clear BK134; clear HB; have BK134 := n0_; have HB := n1_; clear n0_ n1_; have p15 : 0 ≤ ((ji12) : Int) := of_decide_eq_true (by first | (with_reducible assumption) | assumption); have q15 : (ji12) < (a0.size : Int) := of_decide_eq_true (by first | (with_reducible assumption) | assumption); have hx15 := bt_at a0 (ji12); replace p15 := eq_true p15; replace q15 := eq_true q15; refine start_ (n := 11) (S := fun w' => True) (ds := []) (rl_ true [0, 11]).toArray (by kernel_rfl) rfl rfl trivial (fun hHeld => ?_); refine with_tabW impl_readScan.tab4 impl_readScan.bits4 (fun HT_ HW_ => ?_); generalize wc.drew = w40 at BK134 HB hHeld ⊢; refine pure_ (i := 0) (N := some 24) (v := ?_) (a' := ?_) (rl_ true [1, 10]).toArray rfl rfl (any_of HT_.out (by kernel_rfl)) (fun _ _ _ h => h) (Or.inl ⟨by rfl, ?_⟩) ?_ ?_; rotate_left
        ·intro w'; go_simp; (with_reducible rfl)
        rotate_left
        ·simp only [Act.put, sA, s0, sS, i64_w, i32_w]; rfl
        refine pure_ (i := 1) (N := some 25) (v := ?_) (a' := ?_) (rl_ true [2, 9]).toArray rfl rfl (any_of HT_.out (by kernel_rfl)) (fun _ _ _ h => h) (Or.inl ⟨by rfl, ?_⟩) ?_ ?_; rotate_left
        ·intro w'; go_simp; (with_reducible rfl)
        rotate_left
        ·simp only [Act.put, sA, s0, sS, i64_w, i32_w]; rfl
        refine pure_ (i := 5) (N := some 29) (v := ?_) (a' := ?_) (rl_ true [2, 3, 1, 5]).toArray rfl rfl (any_of HT_.out (by kernel_rfl)) (fun _ _ _ h => h) (Or.inl ⟨by rfl, ?_⟩) ?_ ?_; rotate_left
        ·intro w'; go_simp; (with_reducible rfl)
        rotate_left
        ·simp only [Act.put, sA, s0, sS, i64_w, i32_w]; rfl
        refine pure_ (i := 6) (N := some 30) (v := ?_) (a' := ?_) (rl_ true [2, 3, 2, 4]).toArray rfl rfl (any_of HT_.out (by kernel_rfl)) (fun _ _ _ h => h) (Or.inl ⟨by rfl, ?_⟩) ?_ ?_; rotate_left
        ·intro w'; go_simp; (with_reducible rfl)
        rotate_left
        ·simp only [Act.put, sA, s0, sS, i64_w, i32_w]; rfl
        refine pure_ (i := 7) (N := some 31) (v := ?_) (a' := ?_) (rl_ true [2, 3, 3, 3]).toArray rfl rfl (any_of HT_.out (by kernel_rfl)) (fun _ _ _ h => h) (Or.inl ⟨by rfl, ?_⟩) ?_ ?_; rotate_left
        ·intro w'; go_simp; (with_reducible rfl)
        rotate_left
        ·simp only [Act.put, sA, s0, sS, i64_w, i32_w]; rfl
        refine take_ (i := 2) (N := some 26) (v := ?_) (a' := ?_) (rl_ true [3, 2, 3, 3]).toArray rfl rfl (take_ofW HT_.out HW_.out (by kernel_rfl)) (fun _ _ _ h => h) (Or.inl ⟨by rfl, ?_⟩) hHeld ?_ ?_; rotate_left
        ·intro w' _; go_simp; (with_reducible rfl)
        rotate_left
        ·simp only [Act.put, sA, s0, sS, i64_w, i32_w]; rfl
        refine pure_ (i := 3) (N := some 27) (v := ?_) (a' := ?_) (rl_ true [4, 1, 3, 3]).toArray rfl rfl (any_of HT_.out (by kernel_rfl)) (fun _ _ _ h => h) (Or.inl ⟨by rfl, ?_⟩) ?_ ?_; rotate_left
        ·intro w'; go_simp; (with_reducible rfl)
        rotate_left
        ·simp only [Act.put, sA, s0, sS, i64_w, i32_w]; rfl
        refine pure_ (i := 4) (N := some 28) (v := ?_) (a' := ?_) (rl_ true [8, 3]).toArray rfl rfl (any_of HT_.out (by kernel_rfl)) (fun _ _ _ h => h) (Or.inl ⟨by rfl, ?_⟩) ?_ ?_; rotate_left
        ·intro w'; go_simp; (with_reducible rfl)
        rotate_left
        ·simp only [Act.put, sA, s0, sS, i64_w, i32_w]; rfl
        refine one_ (i := 8) (N := some 32) (rl_ true [9, 2]).toArray rfl rfl (one_of HT_.out (by kernel_rfl)) (by decide) (fun K hK => ?_); refine goes_ Tryd.func35 (by kernel_rfl) rfl #[.string (a0.extract 0 ((ji12) : Int).toNat)] (by rfl) rfl rfl (by (try simp only [List.map_toArray, List.map_cons, List.map_nil]); first | done | (simp only [hji12]; rfl) | rfl | (simp only [List.length_drop, List.length_take]; rfl)) ?_; (with_reducible refine (impl_checkOf.calls kj1 (a0.extract 0 ((ji12) : Int).toNat) t137 _ A18.out).mono ?_); rintro e w' ⟨rfl, ⟨nd, rfl⟩⟩; refine ⟨_, rfl, ?_⟩; refine hK.out _ _ trivial (fun hHeld => ?_); clear hK K; refine norm_ (a' := ?_) ?_ ?_; rotate_left
        ·show Act.put _ (some 32) _ = _; simp only [Act.put, sA, s0, sS, i64_w, i32_w]; rfl
        refine pure_ (i := 9) (N := some 33) (v := ?_) (a' := ?_) (rl_ true [10, 1]).toArray rfl rfl (any_of HT_.out (by kernel_rfl)) (fun _ _ _ h => h) (Or.inl ⟨by rfl, ?_⟩) ?_ ?_; rotate_left
        ·intro w'; go_simp; (with_reducible rfl)
        rotate_left
        ·simp only [Act.put, sA, s0, sS, i64_w, i32_w]; rfl
        refine pure_ (i := 10) (N := some 23) (v := ?_) (a' := ?_) (rl_ true [11]).toArray rfl rfl (any_of HT_.out (by kernel_rfl)) (fun _ _ _ h => h) (Or.inl ⟨by rfl, ?_⟩) ?_ ?_; rotate_left
        ·intro w'; go_simp; (with_reducible rfl)
        rotate_left
        ·simp only [Act.put, sA, s0, sS, i64_w, i32_w]; rfl
        refine done_ (done_of HT_.out (by kernel_rfl)) ?_; obtain ⟨hcz41_0, hcz41_1, hcz41_2, hfz41_0, hfz41_1, hfz41_2⟩ := bz3 BK134
        try go_wp2
        refine bodyPost_ret (results_ct rfl _ _ gb134 29 #[.int .i64 0, .string (⟨#[]⟩ : ByteArray), .int .i64 0] (0, 0) _ rfl (by (with_reducible repeat (first | refine blk_drewN ?_ _ | refine blk_drew ?_ | refine blk_alloc ?_ _)); refine blk_put (cs := #[.int .i64 0, .string (⟨#[]⟩ : ByteArray), .int .i64 0]) ?_ 2 _ rfl; (with_reducible repeat (first | refine blk_drewN ?_ _ | refine blk_drew ?_ | refine blk_alloc ?_ _)); refine blk_put (cs := #[.int .i64 0, .string (⟨#[]⟩ : ByteArray), .int .i64 0]) ?_ 1 _ rfl; (with_reducible repeat (first | refine blk_drewN ?_ _ | refine blk_drew ?_ | refine blk_alloc ?_ _)); refine blk_put (cs := #[.int .i64 0, .string (⟨#[]⟩ : ByteArray), .int .i64 0]) ?_ 0 _ rfl; (with_reducible repeat (first | refine blk_drewN ?_ _ | refine blk_drew ?_ | refine blk_alloc ?_ _)); exact BK134.out) Tryd.underlying29 rfl (by kernel_rfl)) rfl ?_; exact ⟨by first | rfl | (simp [errW_none, errW_some] <;> rfl) | (simp only [← hji12]; first | rfl | (simp [errW_none, errW_some] <;> rfl)) | (simp [*, errW_none, errW_some] <;> rfl), qb HB⟩
      ·rw [if_neg c17] at H; exact absurd H (by simp)
     ·rw [if_neg c14] at H; exact absurd H (by simp)
    ·rw [if_neg c13] at H; exact absurd H (by simp)

/-! ### strconv_Itoa: function 39, by hand, off the shelf -/
/-- The library's table of powers of ten lies as its text lays it. -/
def Tabs (w : World) : Prop := Lib.TabIs Tryd.prog w "internal/strconv.uint64pow10" .u64 Lib.pow10Tab
theorem Tabs.below {w w' : World} (h : Tabs w) (hb : Below w.heap.size w w') : Tabs w' := by
 unfold Tabs Lib.TabIs World.var? at h ⊢
 cases e : Tryd.prog.globalNamed "internal/strconv.uint64pow10" with
 | none => rw [e] at h; cases h
 | some g =>
  rw [e] at h; simp only [Option.bind_some] at h ⊢
  have hg : g < w.heap.size := by
   rcases Nat.lt_or_ge g w.heap.size with q | q
   ·exact q
   ·rw [Array.getElem?_eq_none q] at h; cases h
  rw [hb.block g hg]; exact h
theorem tabs {w : World} (k : Tabs w := by first | exact Aside0.out (by with_reducible assumption) | exact Tabs.below (Aside0.out (by with_reducible assumption)) (by repeat (first | (with_reducible first | exact Aside0.out (by with_reducible assumption) | exact Below.refl _ _ | apply below_alloc | apply pw_below_drewN | apply below_drew1 | refine below_set ?_ (Aside0.out (by with_reducible assumption))) | exact Aside0.out (by assumption)))) : Tabs w := k
theorem below_grow (w : World) (k : Nat) (os : Array Obj) : Below w.heap.size w (Go.Sort.grow (w.drewN k) os) :=
 ⟨rfl, rfl, rfl, by show w.heap.size ≤ (w.heap ++ os).size; rw [Array.size_append]; omega, fun i hi => by show (w.heap ++ os)[i]? = w.heap[i]?; rw [Array.getElem?_append_left hi]⟩
def strconv_Itoa.f (a0 : Int) : Option ByteArray := if -9223372036854775808 ≤ a0 ∧ a0 ≤ 9223372036854775807 then some ⟨(Lib.itoa a0).toArray⟩ else none
theorem strconv_Itoa.calls (a0 : Int) (r : ByteArray) (w : World) (h : strconv_Itoa.f a0 = some r) (ht_ : Tabs w := by exact tabs) :
  Calls Tryd.prog 39 #[.int .i64 a0] w fun e w' => e = .returned (.string r) ∧ Below w.heap.size w w' := by
 unfold strconv_Itoa.f at h; by_cases hr : -9223372036854775808 ≤ a0 ∧ a0 ≤ 9223372036854775807
 ·rw [if_pos hr] at h; obtain rfl := Option.some.inj h; refine (Tryd.strconv_Itoa a0 hr.1 hr.2 w ht_).mono ?_; rintro e w' ⟨rfl, k, os, rfl⟩; exact ⟨rfl, below_grow w k os⟩
 ·rw [if_neg hr] at h; cases h

end Go.Proofs.YtdlfpjbhcpnpfaaDoor.PAll
