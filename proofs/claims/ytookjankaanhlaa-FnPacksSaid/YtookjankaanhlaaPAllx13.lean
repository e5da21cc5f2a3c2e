-- Written by wip/tools/hp.py over the kit's print (not by hand): functions and walks of All.
import Derived.Test.YtookjankaanhlaaPAllx0
import Derived.Test.YtookjankaanhlaaPAllx1
import Derived.Test.YtookjankaanhlaaPAllx2
namespace Go.Proofs.Ytookjankaanhlaa.PAll
open Go.RowKit Go.Proofs.YtookjankaanhlaaW.PrintWords Go.Proofs.YtookjankaanhlaaW.PrintLast Go.Proofs.YtookjankaanhlaaW.PrintMore
attribute [local go_sem] max2_int min2_int max_two min_two max_three min_three max_four min_four   -- for this text's walks alone
set_option linter.unusedVariables false
set_option linter.unusedSimpArgs false

/-! ### spec_l02Find: function 109 -/
def spec_l02Find.l0 : Nat → List (S149) → ByteArray → Int → Option (Int)
 | 0, _, _, _ => none
 | k + 1, x0, x1, x5 => if x5 < (x0.length : Int) then (if 0 ≤ x5 then (if ((rd_T149 x0 x5).f0).toList = x1.toList then (some x5) else (spec_l02Find.l0 k x0 x1 (wrap64 (x5 + 1)))) else (none)) else (some (-1))
def spec_l02Find.f (k : Nat) (l0 : List (S149)) (a1 : ByteArray) : Option (Int) := spec_l02Find.l0 k l0 a1 0
theorem spec_l02Find.mono_l : ∀ k, (∀ y0 y1 y2, LeO (spec_l02Find.l0 k y0 y1 y2) (spec_l02Find.l0 (k + 1) y0 y1 y2))
 | 0 => fun _ _ _ r h => by simp [spec_l02Find.l0] at h
 | k + 1 => by
  have ih0 := spec_l02Find.mono_l k
  ·intro y0 y1 y2
   unfold spec_l02Find.l0
   repeat' first
   | (with_reducible exact ih0 _ _ _)
   | (with_reducible exact LeO.refl _)
   | (with_reducible exact LeO.none _)
   | (with_reducible refine LeO.ite ?_ ?_)
   | (with_reducible refine LeO.bind ?_ (fun _ => ?_))
   | exact ih0 _ _ _
   | exact LeO.none _
   | refine LeO.ite ?_ ?_
   | refine LeO.bind ?_ (fun _ => ?_)
theorem spec_l02Find.mono : ∀ a0 a1 k, LeO (spec_l02Find.f k a0 a1) (spec_l02Find.f (k + 1) a0 a1) := by
 intro a0 a1 k
 have ih0 := spec_l02Find.mono_l k
 unfold spec_l02Find.f
 repeat' first
   | (with_reducible exact ih0 _ _ _)
   | (with_reducible exact LeO.refl _)
   | (with_reducible exact LeO.none _)
   | (with_reducible refine LeO.ite ?_ ?_)
   | (with_reducible refine LeO.bind ?_ (fun _ => ?_))
   | exact ih0 _ _ _
   | exact LeO.none _
   | refine LeO.ite ?_ ?_
   | refine LeO.bind ?_ (fun _ => ?_)
set_option maxHeartbeats 8000000 in
set_option maxRecDepth 100000 in
theorem spec_l02Find.calls (k : Nat) (A0 : Option Addr) (c0 : Nat) (l0 : List (S149)) (a1 : ByteArray) (r : Int) (w : World) (hr0 : Kd.C k149 w A0 l0.length l0) (hc0 : l0.length ≤ c0) (h : spec_l02Find.f k l0 a1 = some r) :
  Calls Try.prog 109 #[.slice A0 l0.length c0, .string a1] w fun e w' => e = .returned (.int .i64 r) ∧ Drawn0 w w' := by
 have HR0 := Aside0.mk hr0
 have HC0 := Aside0.mk hc0
 clear hr0 hc0
 have H : (spec_l02Find.l0 k l0 a1 0) = some r := h
 clear h
 have H' := Aside0.mk H
 clear H
 go_enter Try.func109, Try.ntmps109
 go_wp2
 go_loopg [5] k (fun kq v5 w' => ∃ (x5_1 : Int), v5 = .int .i64 x5_1 ∧ Aside0 (spec_l02Find.l0 kq l0 a1 x5_1 = some r) ∧ Aside0 (kq ≤ k) ∧ Drawn0 w w')
 case atStart => exact ⟨(0), (by first | rfl | (simp; done) | (simp [*]; done)), H', ⟨Nat.le_refl _⟩, by repeat (first | exact Drawn0.refl _ | apply Drawn0.step)⟩
 case round =>
  clear H'
  try clear c1
  try clear p2
  obtain ⟨x5_1, rfl, HA, HK1, ⟨m1, rfl⟩⟩ := hrel
  cases gk with
  | zero => exact absurd HA.out (by simp [spec_l02Find.l0])
  | succ k1 =>
   have H := HA.out
   clear HA
   simp only [spec_l02Find.l0] at H
   by_cases c3 : x5_1 < (l0.length : Int)
   ·rw [if_pos c3] at H
    have c3b0 : decide (x5_1 < (l0.length : Int)) = true := decide_eq_true c3
    clear c3
    by_cases c4 : 0 ≤ x5_1
    ·rw [if_pos c4] at H
     have c4b0 : decide (0 ≤ x5_1) = true := decide_eq_true c4
     clear c4
     by_cases c5 : ((rd_T149 l0 x5_1).f0).toList = a1.toList
     ·rw [if_pos c5] at H
      have c5b0 : (((rd_T149 l0 x5_1).f0).toList == a1.toList) = true := beq_iff_eq.mpr c5
      have c5b1 : (((rd_T149 l0 x5_1).f0).toList != a1.toList) = false := bne_eq_false_iff_eq.mpr c5
      clear c5
      obtain rfl := Option.some.inj H
      have p835 : 0 ≤ (x5_1 : Int) := of_decide_eq_true (by first | (with_reducible assumption) | assumption)
      have q835 : x5_1 < (l0.length : Int) := of_decide_eq_true (by first | (with_reducible assumption) | assumption)
      obtain ⟨ad835, e835, hx835_0, hx835_1, hx835_2⟩ := at_T149 HR0.out x5_1 p835 q835
      cases e835
      replace p835 := eq_true p835
      replace q835 := eq_true q835
      go_wp2
      go_ret
      exact ⟨by first | rfl | (simp; done) | (simp [*]; done), by repeat (first | exact Drawn0.refl _ | apply Drawn0.step)⟩
     ·rw [if_neg c5] at H
      have c5b0 : (((rd_T149 l0 x5_1).f0).toList == a1.toList) = false := beq_eq_false_iff_ne.mpr c5
      have c5b1 : (((rd_T149 l0 x5_1).f0).toList != a1.toList) = true := bne_iff_ne.mpr c5
      have H' := Aside0.mk H
      clear H
      have p835 : 0 ≤ (x5_1 : Int) := of_decide_eq_true (by first | (with_reducible assumption) | assumption)
      have q835 : x5_1 < (l0.length : Int) := of_decide_eq_true (by first | (with_reducible assumption) | assumption)
      obtain ⟨ad835, e835, hx835_0, hx835_1, hx835_2⟩ := at_T149 HR0.out x5_1 p835 q835
      cases e835
      replace p835 := eq_true p835
      replace q835 := eq_true q835
      go_wp2
      go_roundg k1
      case measure => have := HK1.out; omega
      case rel => exact ⟨(wrap64 (x5_1 + 1)), (by first | rfl | (simp; done) | (simp [*]; done)), H', ⟨by have := HK1.out; omega⟩, by repeat (first | exact Drawn0.refl _ | apply Drawn0.step)⟩
    ·rw [if_neg c4] at H
     exact absurd H (by simp)
   ·rw [if_neg c3] at H
    have c3b0 : decide (x5_1 < (l0.length : Int)) = false := decide_eq_false c3
    clear c3
    obtain rfl := Option.some.inj H
    go_wp2
    go_ret
    exact ⟨by first | rfl | (simp; done) | (simp [*]; done), by repeat (first | exact Drawn0.refl _ | apply Drawn0.step)⟩

/-! ### spec_PackUnits: function 50, by hand -/
def spec_PackUnits.fin (nm_ : ByteArray) (n : Int) (out : List Int) (go : List Int → Option (List Int × Int × ByteArray)) : Option (List Int × Int × ByteArray) :=
  if n > 1000000 then some ([], 11, nm_) else if out.length < 17592186044416 then go (out ++ [n]) else none
def spec_PackUnits.one (k : Nat) (rows : List S149) (x_ : S149) (i : Nat) (out : List Int) (go : List Int → Option (List Int × Int × ByteArray)) : Option (List Int × Int × ByteArray) :=
  (spec_NameOK.f k x_.f0).bind fun ok1 => if ok1 = true then ((spec_l01In.f x_.f2 1 1000).bind fun ok2 => if ok2 = true then
    ((spec_l02Find.f k (rows.take i) x_.f0).bind fun a => if a ≥ 0 then some ([], 7, x_.f0) else
      if x_.f1.toList = ([] : List UInt8) then spec_PackUnits.fin x_.f0 x_.f2 out go
      else (spec_l02Find.f k (rows.take i) x_.f1).bind fun b => if b < 0 then some ([], 6, x_.f0) else if b < (out.length : Int) then spec_PackUnits.fin x_.f0 (wrap64 (x_.f2 * rd out b)) out go else none)
    else some ([], 1, x_.f0)) else some ([], 1, x_.f0)
def spec_PackUnits.go (k : Nat) (rows : List S149) : List S149 → Nat → List Int → Option (List Int × Int × ByteArray)
  | [], _, out => some (out, 0, ⟨#[]⟩)
  | x_ :: rest, i, out => spec_PackUnits.one k rows x_ i out fun o => spec_PackUnits.go k rows rest (i + 1) o
def spec_PackUnits.f (k : Nat) (l0 : List S149) : Option (List Int × Int × ByteArray) :=
  if (l0.length : Int) > 4096 then some ([], 2, ⟨#[]⟩) else if (l0.length : Int) > 30 then some ([], 9, ⟨#[]⟩) else spec_PackUnits.go k l0 l0 0 []
theorem spec_PackUnits.go_cons (k : Nat) (rows : List S149) (x_ : S149) (rest : List S149) (i : Nat) (out : List Int) : spec_PackUnits.go k rows (x_ :: rest) i out = spec_PackUnits.one k rows x_ i out fun o => spec_PackUnits.go k rows rest (i + 1) o := rfl
theorem spec_PackUnits.mono_fin (a : ByteArray) (n : Int) (out : List Int) (g1 g2 : List Int → Option (List Int × Int × ByteArray)) (h : ∀ o, LeO (g1 o) (g2 o)) : LeO (spec_PackUnits.fin a n out g1) (spec_PackUnits.fin a n out g2) :=
  LeO.ite (LeO.refl _) (LeO.ite (h _) (LeO.refl _))
theorem spec_PackUnits.mono_go (k : Nat) (rows : List S149) : ∀ l i o, LeO (spec_PackUnits.go k rows l i o) (spec_PackUnits.go (k + 1) rows l i o)
  | [], _, _ => LeO.refl _
  | r :: rest, i, o => LeO.bind (spec_NameOK.mono _ k) (fun _ => LeO.ite (LeO.bind (LeO.refl _) (fun _ => LeO.ite (LeO.bind (spec_l02Find.mono _ _ k) (fun _ => LeO.ite (LeO.refl _) (LeO.ite
      (spec_PackUnits.mono_fin _ _ _ _ _ (fun o => spec_PackUnits.mono_go k rows rest (i + 1) o))
      (LeO.bind (spec_l02Find.mono _ _ k) (fun _ => LeO.ite (LeO.refl _) (LeO.ite (spec_PackUnits.mono_fin _ _ _ _ _ (fun o => spec_PackUnits.mono_go k rows rest (i + 1) o)) (LeO.refl _))))))) (LeO.refl _))) (LeO.refl _))
theorem spec_PackUnits.mono : ∀ l0 k, LeO (spec_PackUnits.f k l0) (spec_PackUnits.f (k + 1) l0) := fun l0 k => LeO.ite (LeO.refl _) (LeO.ite (LeO.refl _) (spec_PackUnits.mono_go k l0 l0 0 []))
theorem spec_PackUnits.i3 : (Try.prog.info? 3).map (fun i => (i.zero, i.size, i.bytes)) = some (some (.int .i64 0), 1, 8) := by kernel_rfl
theorem spec_PackUnits.iP : (Try.prog.info? 149).map (fun i => (i.zero, i.size, i.bytes)) = some (some (.agg #[(.string ⟨#[]⟩), (.string ⟨#[]⟩), (.int .i64 0)]), 3, 40) := by kernel_rfl
set_option maxHeartbeats 16000000 in
set_option maxRecDepth 100000 in
theorem spec_PackUnits.calls (k : Nat) (A0 : Option Addr) (c0 : Nat) (l0 : List S149) (r1 : List Int) (r2 : Int) (r3 : ByteArray) (w : World) (hr0 : Kd.C k149 w A0 l0.length l0) (hc0 : l0.length ≤ c0) (h : spec_PackUnits.f k l0 = some (r1, r2, r3)) :
    Calls Try.prog 50 #[.slice A0 l0.length c0] w fun e w' => ∃ v0_ : Value, e = .returned (.tuple #[v0_, .int .i64 r2, .string r3]) ∧ Kd.R (Kd.int .i64) 3 w' w.heap.size (fun _ => True) v0_ r1 ∧ Below w.heap.size w w' := by
  have hbig : l0.length ≤ 9223372036854775807 := hr0.2.1
  have HR := Aside0.mk hr0
  have HC := Aside0.mk hc0
  have hempty : ∀ W W' : World, w.heap.size ≤ W.heap.size → W'.heap = (W.alloc (.cells #[] 3)).heap → Kd.R (Kd.int .i64) 3 W' w.heap.size (fun _ => True) (.slice (some ⟨W.heap.size, 0, none⟩) 0 0) [] := by
    intro W W' hle he
    have h2 := own_weaken (Kd.own_of_R (row_empty (Kd.int .i64) W 3)) hle
    exact Kd.R_of_own (by unfold World.ownsRow at h2 ⊢; rw [he]; exact h2) (fun _ _ => trivial)
  have HE := Aside0.mk hempty
  clear hr0 hc0 hempty
  unfold spec_PackUnits.f at h
  by_cases c1 : (l0.length : Int) > 4096
  · rw [if_pos c1] at h
    have hh := Option.some.inj h
    simp only [Prod.mk.injEq] at hh
    obtain ⟨rfl, rfl, rfl⟩ := hh
    have c1b : decide (4096 < (l0.length : Int)) = true := decide_eq_true c1
    have c1n : decide (4096 < l0.length) = true := decide_eq_true (by omega)
    clear c1 h
    go_enter Try.func50, Try.ntmps50
    go_wp2
    go_ret3
    exact ⟨_, rfl, HE.out w _ (Nat.le_refl _) rfl, (Below.refl _ w).alloc (Nat.le_refl _) _⟩
  rw [if_neg c1] at h
  have c1b : decide (4096 < (l0.length : Int)) = false := decide_eq_false c1
  have c1n : decide (4096 < l0.length) = false := decide_eq_false (by omega)
  clear c1
  by_cases c2 : (l0.length : Int) > 30
  · rw [if_pos c2] at h
    have hh := Option.some.inj h
    simp only [Prod.mk.injEq] at hh
    obtain ⟨rfl, rfl, rfl⟩ := hh
    have c2b : decide (30 < (l0.length : Int)) = true := decide_eq_true c2
    have c2n : decide (30 < l0.length) = true := decide_eq_true (by omega)
    clear c2 h
    go_enter Try.func50, Try.ntmps50
    go_wp2
    go_ret3
    exact ⟨_, rfl, HE.out w _ (Nat.le_refl _) rfl, (Below.refl _ w).alloc (Nat.le_refl _) _⟩
  · rw [if_neg c2] at h
    have H := Aside0.mk h
    have c2b : decide (30 < (l0.length : Int)) = false := decide_eq_false c2
    have c2n : decide (30 < l0.length) = false := decide_eq_false (by omega)
    clear c2 h
    go_enter Try.func50, Try.ntmps50
    go_wp2
    have R0 := Aside0.mk (row_empty (Kd.int .i64) w 3)
    have B0 := Aside0.mk ((Below.refl _ w).alloc (Nat.le_refl _) (.cells #[] 3))
    generalize w.alloc (.cells #[] 3) = w3 at *
    go_loopg [5, 6] l0.length (fun gg s5 s6 wr => ∃ (kk : Nat) (out : List Int), kk ≤ l0.length ∧ l0.length - kk ≤ gg ∧ s6 = .int .i64 kk ∧ Aside0 (Below w.heap.size w wr) ∧ Aside0 (Kd.R (Kd.int .i64) 3 wr w.heap.size (fun _ => True) s5 out) ∧ Aside0 (spec_PackUnits.go k l0 (l0.drop kk) kk out = some (r1, r2, r3)))
    case atStart => exact ⟨0, [], Nat.zero_le _, by omega, rfl, B0, R0, ⟨H.out⟩⟩
    case round =>
      obtain ⟨kk, out, hkk, hg, rfl, BW, HO, HF⟩ := hrel
      by_cases hlt : kk < l0.length
      · have hltz : (kk : Int) < (l0.length : Int) := by omega
        have hf := HF.out
        have hcons : l0.drop kk = rd_T149 l0 (kk : Int) :: l0.drop (kk + 1) := by
          rw [List.drop_eq_getElem_cons hlt]
          congr 1
          unfold rd_T149
          rw [Int.toNat_natCast, List.getD_eq_getElem?_getD, List.getElem?_eq_getElem hlt]
          rfl
        obtain ⟨ad, rfl, hx0, hx1, hx2⟩ := at_T149 (Kd.C_below HR.out BW.out) (kk : Int) (by omega) hltz
        rw [hcons, spec_PackUnits.go_cons] at hf
        clear hcons
        simp only [Int.toNat_natCast] at hx0 hx1 hx2
        generalize hxx : rd_T149 l0 (kk : Int) = x_ at *
        clear hxx
        unfold spec_PackUnits.one at hf
        obtain ⟨ok1, hok1, hf2⟩ := Option.bind_eq_some_iff.mp hf
        have HOK1 := Aside0.mk hok1
        have HF2 := Aside0.mk hf2
        clear hf hok1 hf2 HF
        obtain ⟨A5, c5, rfl, hl5, hr5⟩ := Kd.R_reads HO.out
        have HL5 := Aside0.mk hl5
        have HR5 := Aside0.mk hr5
        clear hl5 hr5
        have HT : Aside0 (Kd.C k149 wr (some ad) (l0.take kk).length (l0.take kk)) := Aside0.mk (Kd.C_take (Kd.C_below HR.out BW.out) (by omega))
        have hlen : (l0.take kk).length = kk := by rw [List.length_take]; omega
        have HLEN := Aside0.mk hlen
        clear hlen
        have hkc : kk ≤ c0 := by have := HC.out; omega
        have hkn : (kk : Int) ≤ (c0 : Int) := by omega
        have hk0 : 0 ≤ (kk : Int) := by omega
        have hblk0 : (wr.alloc (.cells #[.string x_.f0, .string x_.f1, .int .i64 x_.f2] 149)).heap[wr.heap.size]? = some (.cells #[.string x_.f0, .string x_.f1, .int .i64 x_.f2] 149 (0, 0)) := blk_new wr _
        have BA : Aside0 (Below wr.heap.size wr (wr.alloc (.cells #[.string x_.f0, .string x_.f1, .int .i64 x_.f2] 149))) := Aside0.mk ((Below.refl _ wr).alloc (Nat.le_refl _) _)
        have HBLK0 := Aside0.mk hblk0
        clear hblk0
        go_wp2_with fail
        refine (spec_NameOK.calls (k := k) (r := ok1) (w := _) (h := HOK1.out)).mono ?_
        rintro e w1 ⟨rfl, hd1⟩
        have hb1 := hd1.below
        have HBLK1 := Aside0.mk (blk_below HBLK0.out hb1)
        have B1 : Aside0 (Below wr.heap.size wr w1) := Aside0.mk (below_trans BA.out hb1)
        clear hd1 hb1 hx0 hx1 hx2
        have hblk := HBLK1.out
        have d0 := (blk_cell hblk 0).trans rfl
        have d1 := (blk_cell hblk 1).trans rfl
        have d2 := (blk_cell hblk 2).trans rfl
        have BF : Aside0 (Below w.heap.size w w1) := Aside0.mk (below_trans BW.out B1.out)
        clear hblk
        cases ok1 with
        | false =>
          have h3 := HF2.out
          simp only [Bool.false_eq_true, if_false, Option.some.injEq, Prod.mk.injEq] at h3
          obtain ⟨rfl, rfl, rfl⟩ := h3
          clear HF2
          have a0 := (blk_cell (blk_alloc HBLK1.out (.cells #[] 3)) 0).trans rfl
          go_wp2
          go_region
          all_goals go_wp2
          go_ret3
          exact ⟨_, rfl, HE.out w1 _ BF.out.size rfl, by repeat (first | exact BF.out.alloc BF.out.size _ | exact BF.out | apply below_drew | apply pw_below_drewN)⟩
        | true =>
          have h3 := HF2.out
          simp only [if_true] at h3
          obtain ⟨ok2, hok2, h4⟩ := Option.bind_eq_some_iff.mp h3
          have HOK2 := Aside0.mk hok2
          have H4 := Aside0.mk h4
          clear h3 hok2 h4 HF2
          go_wp2_with fail
          refine (spec_l01In.calls (r := ok2) (w := _) (h := HOK2.out)).mono ?_
          rintro e w2 ⟨rfl, hd2⟩
          have hb2 := hd2.below
          have HBLK2 := Aside0.mk (blk_below HBLK1.out hb2)
          have B2 : Aside0 (Below wr.heap.size wr w2) := Aside0.mk (below_trans B1.out hb2)
          clear hd2 hb2 d0 d1 d2 BF HBLK1
          have hblk := HBLK2.out
          have d0 := (blk_cell hblk 0).trans rfl
          have d1 := (blk_cell hblk 1).trans rfl
          have d2 := (blk_cell hblk 2).trans rfl
          have BF : Aside0 (Below w.heap.size w w2) := Aside0.mk (below_trans BW.out B2.out)
          clear hblk
          cases ok2 with
          | false =>
            have h3 := H4.out
            simp only [Bool.false_eq_true, if_false, Option.some.injEq, Prod.mk.injEq] at h3
            obtain ⟨rfl, rfl, rfl⟩ := h3
            clear H4
            have a0 := (blk_cell (blk_alloc HBLK2.out (.cells #[] 3)) 0).trans rfl
            go_wp2
            go_region
            all_goals go_wp2
            go_ret3
            exact ⟨_, rfl, HE.out w2 _ BF.out.size rfl, by repeat (first | exact BF.out.alloc BF.out.size _ | exact BF.out | apply below_drew | apply pw_below_drewN)⟩
          | true =>
            have h3 := H4.out
            simp only [if_true] at h3
            obtain ⟨a_, ha, h5⟩ := Option.bind_eq_some_iff.mp h3
            have H5 := Aside0.mk h5
            have CA : ∀ n, Calls Try.prog 109 #[.slice (some ad) kk c0, .string x_.f0] (w2.drewN n) fun e w' => e = .returned (.int .i64 a_) ∧ Drawn0 (w2.drewN n) w' := by
              intro n
              have C := spec_l02Find.calls (k := k) (A0 := some ad) (c0 := c0) (l0 := l0.take kk) (a1 := x_.f0) (r := a_) (w := w2.drewN n) (hr0 := Kd.C_below HT.out (pw_below_drewN B2.out n)) (hc0 := by rw [HLEN.out]; exact hkc) (h := ha)
              rwa [HLEN.out] at C
            have HCA := Aside0.mk CA
            clear h3 ha h5 CA H4
            obtain ⟨i0, hi0, _, hsz0, _⟩ := info_parts spec_PackUnits.iP
            have hcut := cut_to (P := Try.prog) 81 149 .i64 Try.underlying81 hi0 (some ad) l0.length c0 (kk : Int) hk0 (by omega) HC.out
            simp only [Int.toNat_natCast] at hcut
            clear hi0 hsz0
            go_wp2
            go_quiet (first | (go_at_call 109; (with_reducible refine (HCA.out _).mono ?_); rintro e w' ⟨rfl, ⟨nd, rfl⟩⟩; (try first | exact ⟨rfl, _, World.drewN_drewN _ _ _⟩ | exact ⟨rfl, _, Eq.trans (World.drewN_drewN _ _ _) (congrArg (World.drewN _) (Nat.add_assoc _ _ _))⟩)))
            have B4 := Aside0.mk (pw_below_drewN B2.out nq)
            have HBLK4 : Aside0 ((w2.drewN nq).heap[wr.heap.size]? = some (.cells #[.string x_.f0, .string x_.f1, .int .i64 x_.f2] 149 (0, 0))) := Aside0.mk HBLK2.out
            have BF : Aside0 (Below w.heap.size w (w2.drewN nq)) := Aside0.mk (below_trans BW.out B4.out)
            clear d0 d1 d2 hcut HCA HBLK2 B2
            generalize w2.drewN nq = w4 at *
            have h5 := H5.out
            by_cases ca : a_ ≥ 0
            · rw [if_pos ca] at h5
              simp only [Option.some.injEq, Prod.mk.injEq] at h5
              obtain ⟨rfl, rfl, rfl⟩ := h5
              have cad : decide (0 ≤ a_) = true := decide_eq_true ca
              have cad2 : decide (a_ < 0) = false := decide_eq_false (by omega)
              have ca2 : ¬ a_ < 0 := by omega
              have hblk := HBLK4.out
              have d0 := (blk_cell hblk 0).trans rfl
              have d1 := (blk_cell hblk 1).trans rfl
              have d2 := (blk_cell hblk 2).trans rfl
              have a0 := (blk_cell (blk_alloc hblk (.cells #[] 3)) 0).trans rfl
              clear hblk
              go_wp2
              go_region
              all_goals go_wp2
              go_ret3
              exact ⟨_, rfl, HE.out w4 _ BF.out.size rfl, by repeat (first | exact BF.out.alloc BF.out.size _ | exact BF.out | apply below_drew | apply pw_below_drewN)⟩
            · rw [if_neg ca] at h5
              have cad : decide (0 ≤ a_) = false := decide_eq_false ca
              have cad2 : decide (a_ < 0) = true := decide_eq_true (by omega)
              have ca2 : a_ < 0 := by omega
              by_cases ce : x_.f1.toList = ([] : List UInt8)
              · rw [if_pos ce] at h5
                have H7 := Aside0.mk h5
                have ce1 : (x_.f1.toList == ([] : List UInt8)) = true := beq_iff_eq.mpr ce
                have ce2 : x_.f1.toList.isEmpty = true := by rw [ce]; rfl
                clear h5 H5
                have hblk := HBLK4.out
                have d0 := (blk_cell hblk 0).trans rfl
                have d1 := (blk_cell hblk 1).trans rfl
                have d2 := (blk_cell hblk 2).trans rfl
                have a0 := (blk_cell (blk_alloc hblk (.cells #[] 3)) 0).trans rfl
                clear hblk
                have h8 := H7.out
                unfold spec_PackUnits.fin at h8
                by_cases hv : x_.f2 > 1000000
                · rw [if_pos hv] at h8
                  simp only [Option.some.injEq, Prod.mk.injEq] at h8
                  obtain ⟨rfl, rfl, rfl⟩ := h8
                  have hvd : decide (1000000 < x_.f2) = true := decide_eq_true hv
                  clear hv
                  go_wp2
                  go_region
                  all_goals go_wp2
                  go_ret3
                  exact ⟨_, rfl, HE.out w4 _ BF.out.size rfl, by repeat (first | exact BF.out.alloc BF.out.size _ | exact BF.out | apply below_drew | apply pw_below_drewN)⟩
                · rw [if_neg hv] at h8
                  by_cases hlim : out.length < 17592186044416
                  · rw [if_pos hlim] at h8
                    have H8 := Aside0.mk h8
                    have HLIM := Aside0.mk hlim
                    have hvd : decide (1000000 < x_.f2) = false := decide_eq_false hv
                    clear hv hlim h8
                    have HO4 := Aside0.mk (Kd.R_below HO.out B4.out)
                    go_wp2_with (at_builtin; refine Kd.R_append (Kd.int .i64) (w0 := w) w.heap.size rfl (.tmp 79) (.tmp 81) 84 3 (.int .i64 0) 8 rfl Try.underlying84 spec_PackUnits.i3 rfl (by decide) (by omega) (.slice A5 out.length c5) out (x_.f2) [.int .i64 (x_.f2)] (fun _ => True) (fun _ => False) rfl rfl ?aP (fun _ hk => hk.elim) ?aF ?aO ?aB ?aS ?aL ?_; (case aP => exact rfl); (case aB => exact BF.out); (case aF => exact (fun _ _ => trivial)); (case aO => exact HO4.out); (case aS => exact BF.out.size); (case aL => have := HLIM.out; omega); intro v5 w5 ho hb_ hg_ hat_; have HO5 := Aside0.mk ho; have HB5 := Aside0.mk hb_; clear ho hb_ hg_ hat_)
                    go_roundg (l0.length - (kk + 1))
                    case measure => omega
                    case rel => exact ⟨kk + 1, out ++ [x_.f2], by omega, by omega, by go_num, HB5, HO5, ⟨H8.out⟩⟩
                  · rw [if_neg hlim] at h8; cases h8
              · rw [if_neg ce] at h5
                have ce1 : (x_.f1.toList == ([] : List UInt8)) = false := beq_eq_false_iff_ne.mpr ce
                have ce2 : x_.f1.toList.isEmpty = false := by
                  cases hh : x_.f1.toList with
                  | nil => exact absurd hh ce
                  | cons a b => rfl
                obtain ⟨b_, hb, h6⟩ := Option.bind_eq_some_iff.mp h5
                have H6 := Aside0.mk h6
                have CB : ∀ n, Calls Try.prog 109 #[.slice (some ad) kk c0, .string x_.f1] (w4.drewN n) fun e w' => e = .returned (.int .i64 b_) ∧ Drawn0 (w4.drewN n) w' := by
                  intro n
                  have C := spec_l02Find.calls (k := k) (A0 := some ad) (c0 := c0) (l0 := l0.take kk) (a1 := x_.f1) (r := b_) (w := w4.drewN n) (hr0 := Kd.C_below HT.out (pw_below_drewN B4.out n)) (hc0 := by rw [HLEN.out]; exact hkc) (h := hb)
                  rwa [HLEN.out] at C
                have HCB := Aside0.mk CB
                clear h5 hb h6 CB H5 ce
                obtain ⟨i0, hi0, _, hsz0, _⟩ := info_parts spec_PackUnits.iP
                have hcut := cut_to (P := Try.prog) 81 149 .i64 Try.underlying81 hi0 (some ad) l0.length c0 (kk : Int) hk0 (by omega) HC.out
                simp only [Int.toNat_natCast] at hcut
                clear hi0 hsz0
                have hblk := HBLK4.out
                have d0 := (blk_cell hblk 0).trans rfl
                have d1 := (blk_cell hblk 1).trans rfl
                have d2 := (blk_cell hblk 2).trans rfl
                have a0 := (blk_cell (blk_alloc hblk (.cells #[] 3)) 0).trans rfl
                clear hblk
                go_wp2
                go_quiet (first | (go_at_call 109; (with_reducible refine (HCB.out _).mono ?_); rintro e w' ⟨rfl, ⟨nd, rfl⟩⟩; (try first | exact ⟨rfl, _, World.drewN_drewN _ _ _⟩ | exact ⟨rfl, _, Eq.trans (World.drewN_drewN _ _ _) (congrArg (World.drewN _) (Nat.add_assoc _ _ _))⟩)))
                have B6 := Aside0.mk (pw_below_drewN B4.out nq)
                have HBLK6 : Aside0 ((w4.drewN nq).heap[wr.heap.size]? = some (.cells #[.string x_.f0, .string x_.f1, .int .i64 x_.f2] 149 (0, 0))) := Aside0.mk HBLK4.out
                clear BF d0 d1 d2 a0
                have BF : Aside0 (Below w.heap.size w (w4.drewN nq)) := Aside0.mk (below_trans BW.out B6.out)
                clear hcut HCB HBLK4 B4
                generalize w4.drewN nq = w6 at *
                have h6 := H6.out
                by_cases cb : b_ < 0
                · rw [if_pos cb] at h6
                  simp only [Option.some.injEq, Prod.mk.injEq] at h6
                  obtain ⟨rfl, rfl, rfl⟩ := h6
                  have cbd : decide (b_ < 0) = true := decide_eq_true cb
                  clear cb
                  have hblk := HBLK6.out
                  have d0 := (blk_cell hblk 0).trans rfl
                  have d1 := (blk_cell hblk 1).trans rfl
                  have d2 := (blk_cell hblk 2).trans rfl
                  have a0 := (blk_cell (blk_alloc hblk (.cells #[] 3)) 0).trans rfl
                  clear hblk
                  go_wp2
                  go_region
                  all_goals go_wp2
                  go_ret3
                  exact ⟨_, rfl, HE.out w6 _ BF.out.size rfl, by repeat (first | exact BF.out.alloc BF.out.size _ | exact BF.out | apply below_drew | apply pw_below_drewN)⟩
                · rw [if_neg cb] at h6
                  have cbd : decide (b_ < 0) = false := decide_eq_false cb
                  have cb0 : 0 ≤ b_ := by omega
                  clear cb
                  by_cases cl : b_ < (out.length : Int)
                  · rw [if_pos cl] at h6
                    have H7 := Aside0.mk h6
                    clear h6 H6
                    obtain ⟨ad5, rfl, hx5⟩ := Kd.at_int (Kd.C_below HR5.out B6.out) b_ cb0 cl
                    have hblk := HBLK6.out
                    have d0 := (blk_cell hblk 0).trans rfl
                    have d1 := (blk_cell hblk 1).trans rfl
                    have d2 := (blk_cell hblk 2).trans rfl
                    have a0 := (blk_cell (blk_alloc hblk (.cells #[] 3)) 0).trans rfl
                    clear hblk
                    have h8 := H7.out
                    unfold spec_PackUnits.fin at h8
                    by_cases hv : wrap64 (x_.f2 * rd out b_) > 1000000
                    · rw [if_pos hv] at h8
                      simp only [Option.some.injEq, Prod.mk.injEq] at h8
                      obtain ⟨rfl, rfl, rfl⟩ := h8
                      have hvd : decide (1000000 < wrap64 (x_.f2 * rd out b_)) = true := decide_eq_true hv
                      clear hv
                      go_wp2
                      go_region
                      all_goals go_wp2
                      go_ret3
                      exact ⟨_, rfl, HE.out w6 _ BF.out.size rfl, by repeat (first | exact BF.out.alloc BF.out.size _ | exact BF.out | apply below_drew | apply pw_below_drewN)⟩
                    · rw [if_neg hv] at h8
                      by_cases hlim : out.length < 17592186044416
                      · rw [if_pos hlim] at h8
                        have H8 := Aside0.mk h8
                        have HLIM := Aside0.mk hlim
                        have hvd : decide (1000000 < wrap64 (x_.f2 * rd out b_)) = false := decide_eq_false hv
                        clear hv hlim h8
                        have HO4 := Aside0.mk (Kd.R_below HO.out B6.out)
                        go_wp2_with (at_builtin; refine Kd.R_append (Kd.int .i64) (w0 := w) w.heap.size rfl (.tmp 79) (.tmp 81) 84 3 (.int .i64 0) 8 rfl Try.underlying84 spec_PackUnits.i3 rfl (by decide) (by omega) (.slice (some ad5) out.length c5) out (wrap64 (x_.f2 * rd out b_)) [.int .i64 (wrap64 (x_.f2 * rd out b_))] (fun _ => True) (fun _ => False) rfl rfl ?aP (fun _ hk => hk.elim) ?aF ?aO ?aB ?aS ?aL ?_; (case aP => exact rfl); (case aB => exact BF.out); (case aF => exact (fun _ _ => trivial)); (case aO => exact HO4.out); (case aS => exact BF.out.size); (case aL => have := HLIM.out; omega); intro v5 w5 ho hb_ hg_ hat_; have HO5 := Aside0.mk ho; have HB5 := Aside0.mk hb_; clear ho hb_ hg_ hat_)
                        go_roundg (l0.length - (kk + 1))
                        case measure => omega
                        case rel => exact ⟨kk + 1, out ++ [wrap64 (x_.f2 * rd out b_)], by omega, by omega, by go_num, HB5, HO5, ⟨H8.out⟩⟩
                      · rw [if_neg hlim] at h8; cases h8
                  · rw [if_neg cl] at h6; cases h6
      · have : kk = l0.length := by omega
        subst this
        have hltz : ¬ (l0.length : Int) < (l0.length : Int) := by omega
        have hf := HF.out
        rw [List.drop_length] at hf
        have hh := Option.some.inj hf
        simp only [Prod.mk.injEq] at hh
        obtain ⟨rfl, rfl, rfl⟩ := hh
        clear hf
        go_wp2
        go_ret3
        exact ⟨_, rfl, HO.out, BW.out⟩

/-! ### impl_Pack_107: function 107 -/
def impl_Pack_107.f (l0 : List (S149)) : Option (Bool) := some (decide ((l0.length : Int) ≤ 4096))
set_option maxHeartbeats 8000000 in
set_option maxRecDepth 100000 in
theorem impl_Pack_107.calls (A0 : Option Addr) (c0 : Nat) (l0 : List (S149)) (r : Bool) (w : World) (hr0 : Kd.C k149 w A0 l0.length l0) (hc0 : l0.length ≤ c0) (h : impl_Pack_107.f l0 = some r) :
  Calls Try.prog 107 #[.slice A0 l0.length c0] w fun e w' => e = .returned (.bool r) ∧ Drawn0 w w' := by
 have HR0 := Aside0.mk hr0
 have HC0 := Aside0.mk hc0
 clear hr0 hc0
 have H : (some (decide ((l0.length : Int) ≤ 4096))) = some r := h
 clear h
 obtain rfl := Option.some.inj H
 go_enter Try.func107, Try.ntmps107
 go_wp2
 go_ret
 exact ⟨by first | rfl | (simp; done) | (simp [*]; done), by repeat (first | exact Drawn0.refl _ | apply Drawn0.step)⟩

/-! ### impl_Pack_135: function 135, by hand, over whatever function value -/
def impl_Pack_135.f (p : S149 → Option Bool) : List S149 → Int → Option Int
  | [], _ => some (-1)
  | x :: xs, i => (p x).bind fun b => if b = true then some i else impl_Pack_135.f p xs (i + 1)
theorem impl_Pack_135.cons (p : S149 → Option Bool) (x : S149) (xs : List S149) (i : Int) : impl_Pack_135.f p (x :: xs) i = (p x).bind fun b => if b = true then some i else impl_Pack_135.f p xs (i + 1) := rfl
theorem impl_Pack_135.mono (p q : S149 → Option Bool) (h : ∀ x, LeO (p x) (q x)) : ∀ l i, LeO (impl_Pack_135.f p l i) (impl_Pack_135.f q l i)
  | [], _ => LeO.refl _
  | x :: xs, i => LeO.bind (h x) (fun b => LeO.ite (LeO.refl _) (impl_Pack_135.mono p q h xs (i + 1)))
set_option maxHeartbeats 8000000 in
set_option maxRecDepth 100000 in
theorem impl_Pack_135.calls (p : S149 → Option Bool) (l0 : List S149) (A0 : Option Addr) (c0 : Nat) (g : Nat) (lb : Array Value) (r : Int) (w : World) (eg : ∀ args w, (callFunc g args).run Try.prog w = .ok (.enter g args) w)
    (hp : ∀ (W_ : World) (x_ : S149) (b_ : Bool), Below w.heap.size w W_ → p x_ = some b_ → Calls Try.prog g (#[.agg #[.string x_.f0, .string x_.f1, .int .i64 x_.f2]] ++ lb) W_ fun e w' => e = .returned (.bool b_) ∧ Below W_.heap.size W_ w')
    (hr0 : Kd.C k149 w A0 l0.length l0) (hc0 : l0.length ≤ c0) (h : impl_Pack_135.f p l0 0 = some r) :
    Calls Try.prog 135 #[.slice A0 l0.length c0, .func (.func g) #[] lb] w fun e w' => e = .returned (.int .i64 r) ∧ Below w.heap.size w w' := by
  have hbig : l0.length ≤ 9223372036854775807 := hr0.2.1
  have HP := Aside0.mk hp
  have HR := Aside0.mk hr0
  have H := Aside0.mk h
  clear hp hr0 h
  go_enter Try.func135, Try.ntmps135
  go_wp2
  go_loopg [5, 8] l0.length (fun gg _ s8 wr => ∃ kk : Nat, kk ≤ l0.length ∧ l0.length - kk ≤ gg ∧ s8 = .int .i64 kk ∧ Aside0 (Below w.heap.size w wr) ∧ Aside0 (impl_Pack_135.f p (l0.drop kk) kk = some r))
  case atStart => exact ⟨0, Nat.zero_le _, by omega, rfl, ⟨Below.refl _ w⟩, ⟨H.out⟩⟩
  case round =>
    obtain ⟨kk, hkk, hg, rfl, BW, HF⟩ := hrel
    by_cases hlt : kk < l0.length
    · have hltz : (kk : Int) < (l0.length : Int) := by omega
      have hf := HF.out
      have hcons : l0.drop kk = rd_T149 l0 (kk : Int) :: l0.drop (kk + 1) := by
        rw [List.drop_eq_getElem_cons hlt]
        congr 1
        unfold rd_T149
        rw [Int.toNat_natCast, List.getD_eq_getElem?_getD, List.getElem?_eq_getElem hlt]
        rfl
      obtain ⟨ad, rfl, hx0, hx1, hx2⟩ := at_T149 (Kd.C_below HR.out BW.out) (kk : Int) (by omega) hltz
      rw [hcons, impl_Pack_135.cons] at hf
      clear hcons
      simp only [Int.toNat_natCast] at hx0 hx1 hx2
      generalize hxx : rd_T149 l0 (kk : Int) = x_ at *
      have HX := Aside0.mk hxx
      clear hxx
      obtain ⟨b, hb, hf2⟩ := Option.bind_eq_some_iff.mp hf
      have hcall := HP.out wr x_ b BW.out hb
      have HB := Aside0.mk hb
      have HF2 := Aside0.mk hf2
      clear hf hb hf2
      cases b with
      | true =>
        go_wp2_with (go_at_fn g; refine hcall.mono ?_; rintro e w' ⟨rfl, hb'⟩)
        go_ret
        have hr_ := HF2.out
        simp only [if_true, Option.some.injEq] at hr_
        exact ⟨by rw [← hr_]; rfl, BW.out.trans (hb'.mono BW.out.size)⟩
      | false =>
        go_wp2_with (go_at_fn g; refine hcall.mono ?_; rintro e w' ⟨rfl, hb'⟩)
        go_roundg (l0.length - (kk + 1))
        case measure => omega
        case rel =>
          have hr_ := HF2.out
          simp only [Bool.false_eq_true, if_false] at hr_
          exact ⟨kk + 1, by omega, by omega, by go_num, ⟨BW.out.trans (hb'.mono BW.out.size)⟩, ⟨by rw [show ((kk + 1 : Nat) : Int) = (kk : Int) + 1 by omega]; exact hr_⟩⟩
    · have hltz : ¬ (kk : Int) < (l0.length : Int) := by omega
      have : kk = l0.length := by omega
      subst this
      have hf := HF.out
      rw [List.drop_length] at hf
      have hr_ : -1 = r := Option.some.inj hf
      have HX := Aside0.mk hr_
      clear hf hr_
      go_wp2
      go_ret
      exact ⟨by rw [← HX.out]; rfl, BW.out⟩

/-- A state of type 149 at block g of W; what its slices lead to came in by w0. -/
def IsS149 (w0 W : World) (g : Nat) (f0 : ByteArray) (f1 : ByteArray) (f2 : Int) : Prop := W.heap[g]? = some (.cells #[.string f0, .string f1, .int .i64 f2] 149 (0, 0)) ∧ w0.heap.size ≤ g
theorem IsS149.grown {w0 W : World} {g : Nat} {f0 : ByteArray} {f1 : ByteArray} {f2 : Int} {W1 : World} {row : Option Nat} (h : IsS149 w0 W g f0 f1 f2) (hw : W.grownBy W1 row) (hne : some g ≠ row) : IsS149 w0 W1 g f0 f1 f2 := by
 obtain ⟨hb, hg⟩ := h
 exact ⟨blk_grown hb hw hne, hg⟩
theorem IsS149.own_neN {w0 W : World} {g : Nat} {f0 : ByteArray} {f1 : ByteArray} {f2 : Int} {α : Type} {d : Kd α} {e : Nat} {base : Nat} {ok : Nat → Prop} {v : Value} {xs : List α} (h : IsS149 w0 W g f0 f1 f2) (ho : Kd.N d e W base ok v xs) (ht : e ≠ 149) : some g ≠ v.ownBlock := by
 obtain ⟨hb, hg⟩ := h
 exact Kd.N_ne ho hb ht
theorem IsS149.fresh {w0 W : World} {g : Nat} {f0 : ByteArray} {f1 : ByteArray} {f2 : Int} (h : IsS149 w0 W g f0 f1 f2) : ∀ k, W.heap.size ≤ k → k ≠ g := by
 obtain ⟨hb, hg⟩ := h
 exact Kd.freshB hb
theorem IsS149.kept {w0 W : World} {g : Nat} {f0 : ByteArray} {f1 : ByteArray} {f2 : Int} {W1 : World} {S : Nat → Prop} (h : IsS149 w0 W g f0 f1 f2) (hk : Kept W W1 S) (hne : ¬ S g) : IsS149 w0 W1 g f0 f1 f2 := by
 obtain ⟨hb, hg⟩ := h
 exact ⟨blk_kept hb hk hne, hg⟩
theorem IsS149.below {w0 W : World} {g : Nat} {f0 : ByteArray} {f1 : ByteArray} {f2 : Int} {W1 : World} (h : IsS149 w0 W g f0 f1 f2) (hw : Below W.heap.size W W1) : IsS149 w0 W1 g f0 f1 f2 := h.grown (grown_of_below hw none) (by simp)
theorem IsS149.alloc {w0 W : World} {g : Nat} {f0 : ByteArray} {f1 : ByteArray} {f2 : Int} (h : IsS149 w0 W g f0 f1 f2) (o : Obj) : IsS149 w0 (W.alloc o) g f0 f1 f2 := h.below (below_alloc (Below.refl _ _) o)
theorem IsS149.drewN {w0 W : World} {g : Nat} {f0 : ByteArray} {f1 : ByteArray} {f2 : Int} (h : IsS149 w0 W g f0 f1 f2) (m : Nat) : IsS149 w0 (W.drewN m) g f0 f1 f2 := h
theorem IsS149.drew {w0 W : World} {g : Nat} {f0 : ByteArray} {f1 : ByteArray} {f2 : Int} (h : IsS149 w0 W g f0 f1 f2) : IsS149 w0 W.drew g f0 f1 f2 := h
theorem IsS149.at_ {w0 W : World} {g : Nat} {f0 : ByteArray} {f1 : ByteArray} {f2 : Int} {w' : World} {m : Nat} (hq : W.drewN m = w') (h : IsS149 w0 W g f0 f1 f2) : IsS149 w0 w' g f0 f1 f2 := by subst hq; exact IsS149.drewN h m
theorem IsS149.apart {w0 W : World} {g : Nat} {f0 : ByteArray} {f1 : ByteArray} {f2 : Int} {α : Type} {d : Kd α} {e : Nat} {base : Nat} {ok : Nat → Prop} {v : Value} {xs : List α} (h : IsS149 w0 W g f0 f1 f2) (ho : d.R e W base ok v xs) (ht : ∀ q, q ∈ e :: d.E → q ≠ 149) : d.R e W base (fun k => ok k ∧ k ≠ g) v xs := by
 obtain ⟨hb, hg⟩ := h
 exact Kd.R_types ho hb ht
theorem IsS149.own_ne {w0 W : World} {g : Nat} {f0 : ByteArray} {f1 : ByteArray} {f2 : Int} {α : Type} {d : Kd α} {e : Nat} {base : Nat} {ok : Nat → Prop} {v : Value} {xs : List α} (h : IsS149 w0 W g f0 f1 f2) (ho : d.R e W base ok v xs) (ht : e ≠ 149) : some g ≠ v.ownBlock := by
 obtain ⟨hb, hg⟩ := h
 exact Kd.R_ne ho hb ht
theorem IsS149.apartQ {w0 W : World} {g : Nat} {f0 : ByteArray} {f1 : ByteArray} {f2 : Int} {α : Type} {d : Kd α} {e : Nat} {base : Nat} {ok : Nat → Prop} {v : Value} {xs : List α} (h : IsS149 w0 W g f0 f1 f2) (ho : d.Q e W base ok v xs) (ht : ∀ q, q ∈ e :: d.E → q ≠ 149) : d.Q e W base (fun k => ok k ∧ k ≠ g) v xs := by
 obtain ⟨hb, hg⟩ := h
 exact Kd.Q_types ho hb ht
theorem IsS149.own_neQ {w0 W : World} {g : Nat} {f0 : ByteArray} {f1 : ByteArray} {f2 : Int} {α : Type} {d : Kd α} {e : Nat} {base : Nat} {ok : Nat → Prop} {v : Value} {xs : List α} (h : IsS149 w0 W g f0 f1 f2) (ho : d.Q e W base ok v xs) (ht : e ≠ 149) : some g ≠ v.ownBlock := by
 obtain ⟨hb, hg⟩ := h
 exact Kd.Q_ne ho hb ht
theorem IsS149.apartS {w0 W : World} {g : Nat} {f0 : ByteArray} {f1 : ByteArray} {f2 : Int} {α : Type} {d : Kd α} {e : Nat} {base : Nat} {ok : Nat → Prop} {v : Value} {xs : List α} (h : IsS149 w0 W g f0 f1 f2) (ho : d.S e W base ok v xs) (ht : ∀ q, q ∈ e :: d.E → q ≠ 149) : d.S e W base (fun k => ok k ∧ k ≠ g) v xs := by
 obtain ⟨hb, hg⟩ := h
 exact Kd.S_types ho hb ht
theorem IsS149.own_neS {w0 W : World} {g : Nat} {f0 : ByteArray} {f1 : ByteArray} {f2 : Int} {α : Type} {d : Kd α} {e : Nat} {base : Nat} {ok : Nat → Prop} {v : Value} {xs : List α} (h : IsS149 w0 W g f0 f1 f2) (ho : d.S e W base ok v xs) (ht : e ≠ 149) : some g ≠ v.ownBlock := by
 obtain ⟨hb, hg⟩ := h
 exact Kd.S_ne ho hb ht
theorem IsS149.lt {w0 W : World} {g : Nat} {f0 : ByteArray} {f1 : ByteArray} {f2 : Int} (h : IsS149 w0 W g f0 f1 f2) : g < W.heap.size := by
 obtain ⟨hb, hg⟩ := h
 exact blk_lt hb
theorem IsS149.ge {w0 W : World} {g : Nat} {f0 : ByteArray} {f1 : ByteArray} {f2 : Int} (h : IsS149 w0 W g f0 f1 f2) : w0.heap.size ≤ g := by
 obtain ⟨hb, hg⟩ := h
 exact hg
theorem IsS149.ne_blk {w0 W : World} {g : Nat} {f0 : ByteArray} {f1 : ByteArray} {f2 : Int} {a : Nat} {cs : Array Value} {t : TypeId} {fr : Nat × Nat} (h : IsS149 w0 W g f0 f1 f2) (hb2 : W.heap[a]? = some (.cells cs t fr)) (ht : t ≠ 149) : g ≠ a := by
 obtain ⟨hb, hg⟩ := h
 rintro rfl
 rw [hb] at hb2
 injection hb2 with hb2
 injection hb2 with _ ht2
 exact ht ht2.symm
theorem IsS149.far {w0 W : World} {g : Nat} {f0 : ByteArray} {f1 : ByteArray} {f2 : Int} {p : Addr} (h : IsS149 w0 W g f0 f1 f2) (hne : g ≠ p.block) (u : Value) : IsS149 w0 (W.setCell p u) g f0 f1 f2 := by
 obtain ⟨hb, hg⟩ := h
 exact ⟨blk_far hb hne u, hg⟩
theorem cellS149_0 {W : World} {g : Nat} {f0 : ByteArray} {f1 : ByteArray} {f2 : Int} (h : W.heap[g]? = some (.cells #[.string f0, .string f1, .int .i64 f2] 149 (0, 0))) : W.cell? ⟨g, 0, none⟩ = some (.string f0) := (blk_cell h 0).trans rfl
theorem IsS149.set_0 {w0 W : World} {g : Nat} {f0 : ByteArray} {f1 : ByteArray} {f2 : Int} (h : IsS149 w0 W g f0 f1 f2) (x : ByteArray) : IsS149 w0 (W.setCell ⟨g, 0, none⟩ (.string x)) g x f1 f2 := by
 obtain ⟨hb, hg⟩ := h
 exact ⟨by simpa using blk_set hb 0 (.string x), hg⟩
theorem cellS149_1 {W : World} {g : Nat} {f0 : ByteArray} {f1 : ByteArray} {f2 : Int} (h : W.heap[g]? = some (.cells #[.string f0, .string f1, .int .i64 f2] 149 (0, 0))) : W.cell? ⟨g, 1, none⟩ = some (.string f1) := (blk_cell h 1).trans rfl
theorem IsS149.set_1 {w0 W : World} {g : Nat} {f0 : ByteArray} {f1 : ByteArray} {f2 : Int} (h : IsS149 w0 W g f0 f1 f2) (x : ByteArray) : IsS149 w0 (W.setCell ⟨g, 1, none⟩ (.string x)) g f0 x f2 := by
 obtain ⟨hb, hg⟩ := h
 exact ⟨by simpa using blk_set hb 1 (.string x), hg⟩
theorem cellS149_2 {W : World} {g : Nat} {f0 : ByteArray} {f1 : ByteArray} {f2 : Int} (h : W.heap[g]? = some (.cells #[.string f0, .string f1, .int .i64 f2] 149 (0, 0))) : W.cell? ⟨g, 2, none⟩ = some (.int .i64 f2) := (blk_cell h 2).trans rfl
theorem IsS149.set_2 {w0 W : World} {g : Nat} {f0 : ByteArray} {f1 : ByteArray} {f2 : Int} (h : IsS149 w0 W g f0 f1 f2) (x : Int) : IsS149 w0 (W.setCell ⟨g, 2, none⟩ (.int .i64 x)) g f0 f1 x := by
 obtain ⟨hb, hg⟩ := h
 exact ⟨by simpa using blk_set hb 2 (.int .i64 x), hg⟩
theorem IsS149.new (w0 W : World) (f0 : ByteArray) (f1 : ByteArray) (f2 : Int) (hB : Below w0.heap.size w0 W) : IsS149 w0 (W.alloc (.cells #[.string f0, .string f1, .int .i64 f2] 149)) W.heap.size f0 f1 f2 := ⟨by simpa using heap_alloc_new W _, hB.size⟩

/-! ### impl_packUnits_1: function 136 -/
def impl_packUnits_1.f (a0_0 : ByteArray) (a0_1 : ByteArray) (a0_2 : Int) (s1_0 : ByteArray) (s1_1 : ByteArray) (s1_2 : Int) : Option (Bool × ByteArray × ByteArray × Int) := some ((a0_0.toList == s1_1.toList), s1_0, s1_1, s1_2)
set_option maxHeartbeats 8000000 in
set_option maxRecDepth 100000 in
theorem impl_packUnits_1.calls (a0_0 : ByteArray) (a0_1 : ByteArray) (a0_2 : Int) (g : Nat) (s1_0 : ByteArray) (s1_1 : ByteArray) (s1_2 : Int) (r1 : Bool) (r2 : ByteArray) (r3 : ByteArray) (r4 : Int) (w0 w : World) (hI : IsS149 w0 w g s1_0 s1_1 s1_2) (hB : Below w0.heap.size w0 w) (h : impl_packUnits_1.f a0_0 a0_1 a0_2 s1_0 s1_1 s1_2 = some (r1, r2, r3, r4)) :
  Calls Try.prog 136 #[.agg #[.string a0_0, .string a0_1, .int .i64 a0_2], .pointer (some ⟨g, 0, none⟩)] w fun e w' => e = .returned (.bool r1) ∧ IsS149 w0 w' g r2 r3 r4 ∧ Below w0.heap.size w0 w' ∧ KeepBut w w' g none := by
 have hu149 := Try.underlying149
 have HI1 := Aside0.mk hI
 have HK := Aside0.mk (KeepBut.refl w g none)
 have HL := Aside0.mk hB.size
 clear hI
 have HW0 := Aside0.mk hB.size
 have HB := Aside0.mk hB
 clear hB
 have H : (some ((a0_0.toList == s1_1.toList), s1_0, s1_1, s1_2)) = some (r1, r2, r3, r4) := h
 clear h
 simp only [Option.some.injEq, Prod.mk.injEq] at H
 obtain ⟨rfl, rfl, rfl, rfl⟩ := H
 go_enter Try.func136, Try.ntmps136
 go_wp2_with (first | ((with_reducible refine gate_dst (N := 2) rfl ?_); refine box_event ?hg (N := 2) ?hd (cs := #[.string a0_0, .string a0_1, .int .i64 a0_2]) (t := 149) ?hr ?_; (case hd => rfl); (case hg => rfl); (case hr => first | (go_simp; done) | (go_simp; rfl)); intro gb905 hg w3 hbox hb; have n0_ := Aside0.mk (IsS149.below (by repeat (first | (with_reducible first | exact HI1.out | apply IsS149.alloc | apply IsS149.drewN | apply IsS149.drew | apply IsS149.set_0 | apply IsS149.set_1 | apply IsS149.set_2) | exact HI1.out)) hb); have n1_ := Aside0.mk (KeepBut.trans (by repeat (first | (with_reducible first | exact HK.out | apply KeepBut.set_ | apply keep_drewN | apply keep_drew | apply keep_alloc) | exact HK.out)) (KeepBut.of_below hb g none) (.inl rfl)); have n2_ := Aside0.mk (below_step (by repeat (first | (with_reducible first | exact HB.out | apply below_alloc | apply pw_below_drewN | apply below_drew1 | refine below_set ?_ (IsS149.ge HI1.out)) | exact HB.out)) hb); have n3_ := Aside0.mk (hbox); have n4_ := Aside0.mk ((by rw [hg]; exact (keep_size (w := w) (g := g) (row := none) (by repeat (first | (with_reducible first | exact HK.out | apply KeepBut.set_ | apply keep_drewN | apply keep_drew | apply keep_alloc) | exact HK.out))) : w.heap.size ≤ gb905)); have n5_ := Aside0.mk ((Nat.le_trans HW0.out (by rw [hg]; exact (keep_size (w := w) (g := g) (row := none) (by repeat (first | (with_reducible first | exact HK.out | apply KeepBut.set_ | apply keep_drewN | apply keep_drew | apply keep_alloc) | exact HK.out))) : w.heap.size ≤ gb905) : w0.heap.size ≤ gb905)); have n6_ := Aside0.mk ((by rw [hg]; exact Nat.ne_of_lt (IsS149.lt (show IsS149 w0 _ g s1_0 s1_1 s1_2 from by repeat (first | (with_reducible first | exact HI1.out | apply IsS149.alloc | apply IsS149.drewN | apply IsS149.drew | apply IsS149.set_0 | apply IsS149.set_1 | apply IsS149.set_2) | exact HI1.out))) : g ≠ gb905)); have n7_ := Aside0.mk ((by rw [hg]; exact Nat.ne_of_gt (IsS149.lt (show IsS149 w0 _ g s1_0 s1_1 s1_2 from by repeat (first | (with_reducible first | exact HI1.out | apply IsS149.alloc | apply IsS149.drewN | apply IsS149.drew | apply IsS149.set_0 | apply IsS149.set_1 | apply IsS149.set_2) | exact HI1.out))) : gb905 ≠ g)); clear HI1; clear HK; clear HB; have HI1 := n0_; have HK := n1_; have HB := n2_; have BK905 := n3_; have GW905 := n4_; have GE905 := n5_; have NB1_905 := n6_; have NB905_1 := n7_; clear n0_ n1_ n2_ n3_ n4_ n5_ n6_ n7_; clear hb hbox hg; have hnb4 := NB905_1.out; have hnc4 := NB1_905.out; have hcz5_0 : w3.cell? ⟨gb905, 0, none⟩ = some (.string a0_0) := (blk_cell BK905.out 0).trans rfl; have hcz5_1 : w3.cell? ⟨gb905, 1, none⟩ = some (.string a0_1) := (blk_cell BK905.out 1).trans rfl; have hcz5_2 : w3.cell? ⟨gb905, 2, none⟩ = some (.int .i64 a0_2) := (blk_cell BK905.out 2).trans rfl; have hfz5_0 := blk_frozen BK905.out 0; have hfz5_1 := blk_frozen BK905.out 1; have hfz5_2 := blk_frozen BK905.out 2; obtain ⟨HGz6, hgz6⟩ := HI1.out; have hcz6_0 := cellS149_0 HGz6; have hcz6_1 := cellS149_1 HGz6; have hcz6_2 := cellS149_2 HGz6; have hfz6_0 := blk_frozen HGz6 0; have hfz6_1 := blk_frozen HGz6 1; have hfz6_2 := blk_frozen HGz6 2; clear HGz6 hgz6))
 go_ret
 exact ⟨by first | rfl | (simp [errW_none, errW_some] <;> rfl) | (simp [*, errW_none, errW_some] <;> rfl), by repeat (first | (with_reducible first | exact HI1.out | apply IsS149.alloc | apply IsS149.drewN | apply IsS149.drew | apply IsS149.set_0 | apply IsS149.set_1 | apply IsS149.set_2 | refine IsS149.far ?_ NB1_905.out _) | exact HI1.out), by repeat (first | (with_reducible first | exact HB.out | apply below_alloc | apply pw_below_drewN | apply below_drew1 | refine below_set ?_ (IsS149.ge HI1.out) | refine below_set ?_ GE905.out) | exact HB.out), by repeat (first | (with_reducible first | exact HK.out | apply KeepBut.set_ | apply keep_drewN | apply keep_drew | apply keep_alloc | refine keep_far ?_ GW905.out _) | exact HK.out)⟩

/-! ### impl_Pack_137: function 137, by hand, over whatever function value -/
def impl_Pack_137.f (p : S149 → Option Bool) (l : List S149) : Option Bool := (impl_Pack_135.f p l 0).bind fun i => some (decide (i ≥ 0))
theorem impl_Pack_137.mono (p q : S149 → Option Bool) (h : ∀ x, LeO (p x) (q x)) (l : List S149) : LeO (impl_Pack_137.f p l) (impl_Pack_137.f q l) := LeO.bind (impl_Pack_135.mono p q h l 0) (fun _ => LeO.refl _)
set_option maxHeartbeats 8000000 in
set_option maxRecDepth 100000 in
theorem impl_Pack_137.calls (p : S149 → Option Bool) (l0 : List S149) (A0 : Option Addr) (c0 : Nat) (g : Nat) (lb : Array Value) (r : Bool) (w : World) (eg : ∀ args w, (callFunc g args).run Try.prog w = .ok (.enter g args) w)
    (hp : ∀ (W_ : World) (x_ : S149) (b_ : Bool), Below w.heap.size w W_ → p x_ = some b_ → Calls Try.prog g (#[.agg #[.string x_.f0, .string x_.f1, .int .i64 x_.f2]] ++ lb) W_ fun e w' => e = .returned (.bool b_) ∧ Below W_.heap.size W_ w')
    (hr0 : Kd.C k149 w A0 l0.length l0) (hc0 : l0.length ≤ c0) (h : impl_Pack_137.f p l0 = some r) :
    Calls Try.prog 137 #[.slice A0 l0.length c0, .func (.func g) #[] lb] w fun e w' => e = .returned (.bool r) ∧ Below w.heap.size w w' := by
  obtain ⟨i, hi, h2⟩ := Option.bind_eq_some_iff.mp h
  have hr_ : decide (i ≥ 0) = r := Option.some.inj h2
  have C := impl_Pack_135.calls p l0 A0 c0 g lb i w eg hp hr0 hc0 hi
  have HR_ := Aside0.mk hr_
  clear h hi h2 hp hr_
  by_cases hpos : 0 ≤ i
  · have hd : decide (0 ≤ i) = true := decide_eq_true hpos
    go_enter Try.func137, Try.ntmps137
    go_wp2_with (go_at_call 135; refine C.mono ?_; rintro e w' ⟨rfl, hb'⟩)
    go_ret
    exact ⟨by rw [← HR_.out, decide_eq_true (show i ≥ 0 by omega)]; rfl, hb'⟩
  · have hd : decide (0 ≤ i) = false := decide_eq_false hpos
    go_enter Try.func137, Try.ntmps137
    go_wp2_with (go_at_call 135; refine C.mono ?_; rintro e w' ⟨rfl, hb'⟩)
    go_ret
    exact ⟨by rw [← HR_.out, decide_eq_false (show ¬ i ≥ 0 by omega)]; rfl, hb'⟩

/-! ### impl_packUnits_2: function 138 -/
def impl_packUnits_2.f (a0_0 : ByteArray) (a0_1 : ByteArray) (a0_2 : Int) (s1_0 : ByteArray) (s1_1 : ByteArray) (s1_2 : Int) : Option (Bool × ByteArray × ByteArray × Int) := some ((a0_0.toList == s1_0.toList), s1_0, s1_1, s1_2)
set_option maxHeartbeats 8000000 in
set_option maxRecDepth 100000 in
theorem impl_packUnits_2.calls (a0_0 : ByteArray) (a0_1 : ByteArray) (a0_2 : Int) (g : Nat) (s1_0 : ByteArray) (s1_1 : ByteArray) (s1_2 : Int) (r1 : Bool) (r2 : ByteArray) (r3 : ByteArray) (r4 : Int) (w0 w : World) (hI : IsS149 w0 w g s1_0 s1_1 s1_2) (hB : Below w0.heap.size w0 w) (h : impl_packUnits_2.f a0_0 a0_1 a0_2 s1_0 s1_1 s1_2 = some (r1, r2, r3, r4)) :
  Calls Try.prog 138 #[.agg #[.string a0_0, .string a0_1, .int .i64 a0_2], .pointer (some ⟨g, 0, none⟩)] w fun e w' => e = .returned (.bool r1) ∧ IsS149 w0 w' g r2 r3 r4 ∧ Below w0.heap.size w0 w' ∧ KeepBut w w' g none := by
 have hu149 := Try.underlying149
 have HI1 := Aside0.mk hI
 have HK := Aside0.mk (KeepBut.refl w g none)
 have HL := Aside0.mk hB.size
 clear hI
 have HW0 := Aside0.mk hB.size
 have HB := Aside0.mk hB
 clear hB
 have H : (some ((a0_0.toList == s1_0.toList), s1_0, s1_1, s1_2)) = some (r1, r2, r3, r4) := h
 clear h
 simp only [Option.some.injEq, Prod.mk.injEq] at H
 obtain ⟨rfl, rfl, rfl, rfl⟩ := H
 go_enter Try.func138, Try.ntmps138
 go_wp2_with (first | ((with_reducible refine gate_dst (N := 2) rfl ?_); refine box_event ?hg (N := 2) ?hd (cs := #[.string a0_0, .string a0_1, .int .i64 a0_2]) (t := 149) ?hr ?_; (case hd => rfl); (case hg => rfl); (case hr => first | (go_simp; done) | (go_simp; rfl)); intro gb906 hg w3 hbox hb; have n0_ := Aside0.mk (IsS149.below (by repeat (first | (with_reducible first | exact HI1.out | apply IsS149.alloc | apply IsS149.drewN | apply IsS149.drew | apply IsS149.set_0 | apply IsS149.set_1 | apply IsS149.set_2) | exact HI1.out)) hb); have n1_ := Aside0.mk (KeepBut.trans (by repeat (first | (with_reducible first | exact HK.out | apply KeepBut.set_ | apply keep_drewN | apply keep_drew | apply keep_alloc) | exact HK.out)) (KeepBut.of_below hb g none) (.inl rfl)); have n2_ := Aside0.mk (below_step (by repeat (first | (with_reducible first | exact HB.out | apply below_alloc | apply pw_below_drewN | apply below_drew1 | refine below_set ?_ (IsS149.ge HI1.out)) | exact HB.out)) hb); have n3_ := Aside0.mk (hbox); have n4_ := Aside0.mk ((by rw [hg]; exact (keep_size (w := w) (g := g) (row := none) (by repeat (first | (with_reducible first | exact HK.out | apply KeepBut.set_ | apply keep_drewN | apply keep_drew | apply keep_alloc) | exact HK.out))) : w.heap.size ≤ gb906)); have n5_ := Aside0.mk ((Nat.le_trans HW0.out (by rw [hg]; exact (keep_size (w := w) (g := g) (row := none) (by repeat (first | (with_reducible first | exact HK.out | apply KeepBut.set_ | apply keep_drewN | apply keep_drew | apply keep_alloc) | exact HK.out))) : w.heap.size ≤ gb906) : w0.heap.size ≤ gb906)); have n6_ := Aside0.mk ((by rw [hg]; exact Nat.ne_of_lt (IsS149.lt (show IsS149 w0 _ g s1_0 s1_1 s1_2 from by repeat (first | (with_reducible first | exact HI1.out | apply IsS149.alloc | apply IsS149.drewN | apply IsS149.drew | apply IsS149.set_0 | apply IsS149.set_1 | apply IsS149.set_2) | exact HI1.out))) : g ≠ gb906)); have n7_ := Aside0.mk ((by rw [hg]; exact Nat.ne_of_gt (IsS149.lt (show IsS149 w0 _ g s1_0 s1_1 s1_2 from by repeat (first | (with_reducible first | exact HI1.out | apply IsS149.alloc | apply IsS149.drewN | apply IsS149.drew | apply IsS149.set_0 | apply IsS149.set_1 | apply IsS149.set_2) | exact HI1.out))) : gb906 ≠ g)); clear HI1; clear HK; clear HB; have HI1 := n0_; have HK := n1_; have HB := n2_; have BK906 := n3_; have GW906 := n4_; have GE906 := n5_; have NB1_906 := n6_; have NB906_1 := n7_; clear n0_ n1_ n2_ n3_ n4_ n5_ n6_ n7_; clear hb hbox hg; have hnb4 := NB906_1.out; have hnc4 := NB1_906.out; have hcz5_0 : w3.cell? ⟨gb906, 0, none⟩ = some (.string a0_0) := (blk_cell BK906.out 0).trans rfl; have hcz5_1 : w3.cell? ⟨gb906, 1, none⟩ = some (.string a0_1) := (blk_cell BK906.out 1).trans rfl; have hcz5_2 : w3.cell? ⟨gb906, 2, none⟩ = some (.int .i64 a0_2) := (blk_cell BK906.out 2).trans rfl; have hfz5_0 := blk_frozen BK906.out 0; have hfz5_1 := blk_frozen BK906.out 1; have hfz5_2 := blk_frozen BK906.out 2; obtain ⟨HGz6, hgz6⟩ := HI1.out; have hcz6_0 := cellS149_0 HGz6; have hcz6_1 := cellS149_1 HGz6; have hcz6_2 := cellS149_2 HGz6; have hfz6_0 := blk_frozen HGz6 0; have hfz6_1 := blk_frozen HGz6 1; have hfz6_2 := blk_frozen HGz6 2; clear HGz6 hgz6))
 go_ret
 exact ⟨by first | rfl | (simp [errW_none, errW_some] <;> rfl) | (simp [*, errW_none, errW_some] <;> rfl), by repeat (first | (with_reducible first | exact HI1.out | apply IsS149.alloc | apply IsS149.drewN | apply IsS149.drew | apply IsS149.set_0 | apply IsS149.set_1 | apply IsS149.set_2 | refine IsS149.far ?_ NB1_906.out _) | exact HI1.out), by repeat (first | (with_reducible first | exact HB.out | apply below_alloc | apply pw_below_drewN | apply below_drew1 | refine below_set ?_ (IsS149.ge HI1.out) | refine below_set ?_ GE906.out) | exact HB.out), by repeat (first | (with_reducible first | exact HK.out | apply KeepBut.set_ | apply keep_drewN | apply keep_drew | apply keep_alloc | refine keep_far ?_ GW906.out _) | exact HK.out)⟩

/-! ### impl_packUnits: function 108, by hand -/
def impl_packUnits.p1 (p x : S149) : Option Bool := (impl_packUnits_1.f x.f0 x.f1 x.f2 p.f0 p.f1 p.f2).bind fun t => some t.1
def impl_packUnits.p2 (p x : S149) : Option Bool := (impl_packUnits_2.f x.f0 x.f1 x.f2 p.f0 p.f1 p.f2).bind fun t => some t.1
def impl_packUnits.fin (go : List Int → Option (List Int × Int × ByteArray)) (p : S149) (out : List Int) (u : Int) : Option (List Int × Int × ByteArray) :=
  if u > 1000000 then some ([], 11, p.f0) else (if out.length < 17592186044416 then go (out ++ [u]) else none)
def impl_packUnits.one (go : List Int → Option (List Int × Int × ByteArray)) (k : Nat) (rows : List S149) (p : S149) (i : Nat) (out : List Int) : Option (List Int × Int × ByteArray) :=
  (impl_Pack_135.f (impl_packUnits.p1 p) (rows.take i) 0).bind fun at_ =>
  (impl_NameOK.f k p.f0).bind fun nm => if nm = true then
    ((impl_within.f p.f2 1 1000).bind fun ok => if ok = true then
      ((impl_Pack_137.f (impl_packUnits.p2 p) (rows.take i)).bind fun tw => if tw = true then some ([], 7, p.f0)
        else if p.f1.toList = ([] : List UInt8) then impl_packUnits.fin go p out (wrap64 p.f2)
        else if at_ < 0 then some ([], 6, p.f0)
        else if at_ < (out.length : Int) then impl_packUnits.fin go p out (wrap64 (rd out at_ * p.f2)) else none)
      else some ([], 1, p.f0))
    else some ([], 1, p.f0)
def impl_packUnits.go (k : Nat) (rows : List S149) : List S149 → Nat → List Int → Option (List Int × Int × ByteArray)
  | [], _, out => some (out, 0, (⟨#[]⟩ : ByteArray))
  | p :: rest, i, out => impl_packUnits.one (fun o => impl_packUnits.go k rows rest (i + 1) o) k rows p i out
theorem impl_packUnits.go_cons (k : Nat) (rows : List S149) (p : S149) (rest : List S149) (i : Nat) (out : List Int) : impl_packUnits.go k rows (p :: rest) i out = impl_packUnits.one (fun o => impl_packUnits.go k rows rest (i + 1) o) k rows p i out := rfl
def impl_packUnits.f (k : Nat) (l0 : List S149) : Option (List Int × Int × ByteArray) := if (l0.length : Int) > 30 then some ([], 9, (⟨#[]⟩ : ByteArray)) else impl_packUnits.go k l0 l0 0 []
theorem impl_packUnits.mono_fin (g h : List Int → Option (List Int × Int × ByteArray)) (hg : ∀ o, LeO (g o) (h o)) (p : S149) (out : List Int) (u : Int) : LeO (impl_packUnits.fin g p out u) (impl_packUnits.fin h p out u) :=
  LeO.ite (LeO.refl _) (LeO.ite (hg _) (LeO.refl _))
theorem impl_packUnits.mono_one (g h : List Int → Option (List Int × Int × ByteArray)) (hg : ∀ o, LeO (g o) (h o)) (k : Nat) (rows : List S149) (p : S149) (i : Nat) (out : List Int) : LeO (impl_packUnits.one g k rows p i out) (impl_packUnits.one h (k + 1) rows p i out) :=
  LeO.bind (LeO.refl _) (fun _ => LeO.bind (impl_NameOK.mono _ k) (fun _ => LeO.ite (LeO.bind (LeO.refl _) (fun _ => LeO.ite (LeO.bind (LeO.refl _) (fun _ => LeO.ite (LeO.refl _) (LeO.ite (impl_packUnits.mono_fin g h hg p out _) (LeO.ite (LeO.refl _) (LeO.ite (impl_packUnits.mono_fin g h hg p out _) (LeO.refl _)))))) (LeO.refl _))) (LeO.refl _)))
theorem impl_packUnits.mono_go (k : Nat) (rows : List S149) : ∀ l i out, LeO (impl_packUnits.go k rows l i out) (impl_packUnits.go (k + 1) rows l i out)
  | [], _, _ => LeO.refl _
  | p :: rest, i, out => impl_packUnits.mono_one _ _ (fun o => impl_packUnits.mono_go k rows rest (i + 1) o) k rows p i out
theorem impl_packUnits.mono : ∀ l0 k, LeO (impl_packUnits.f k l0) (impl_packUnits.f (k + 1) l0) := fun l0 k => LeO.ite (LeO.refl _) (impl_packUnits.mono_go k l0 l0 0 [])
theorem impl_packUnits.pays1 (x_ : S149) (w0 w1 : World) (g : Nat) (hg : w0.heap.size ≤ g) (hB1 : Below w0.heap.size w0 w1) (hblk : w1.heap[g]? = some (.cells #[.string x_.f0, .string x_.f1, .int .i64 x_.f2] 149 (0, 0))) :
    ∀ (W_ : World) (y_ : S149) (b_ : Bool), Below w1.heap.size w1 W_ → impl_packUnits.p1 x_ y_ = some b_ → Calls Try.prog 136 (#[.agg #[.string y_.f0, .string y_.f1, .int .i64 y_.f2]] ++ #[.pointer (some ⟨g, 0, none⟩)]) W_ fun e w' => e = .returned (.bool b_) ∧ Below W_.heap.size W_ w' := by
  intro W y b_ hW hy
  obtain ⟨t, ht, h4⟩ := Option.bind_eq_some_iff.mp hy
  obtain rfl : t.1 = b_ := Option.some.inj h4
  have hWb := blk_below hblk hW
  have hs : t = (t.1, x_.f0, x_.f1, x_.f2) := by unfold impl_packUnits_1.f at ht; obtain rfl := Option.some.inj ht; rfl
  rw [hs] at ht
  have hB : Below w0.heap.size w0 W := below_trans hB1 hW
  refine (impl_packUnits_1.calls (w0 := w0) (w := W) (g := g) (hI := ⟨hWb, hg⟩) (hB := hB) (h := ht)).mono ?_
  rintro e w2 ⟨rfl, ⟨hI2, _⟩, hB2, hk2⟩
  exact ⟨rfl, below_keep hB hB2 hk2 hWb hI2⟩
theorem impl_packUnits.pays2 (x_ : S149) (w0 w1 : World) (g : Nat) (hg : w0.heap.size ≤ g) (hB1 : Below w0.heap.size w0 w1) (hblk : w1.heap[g]? = some (.cells #[.string x_.f0, .string x_.f1, .int .i64 x_.f2] 149 (0, 0))) :
    ∀ (W_ : World) (y_ : S149) (b_ : Bool), Below w1.heap.size w1 W_ → impl_packUnits.p2 x_ y_ = some b_ → Calls Try.prog 138 (#[.agg #[.string y_.f0, .string y_.f1, .int .i64 y_.f2]] ++ #[.pointer (some ⟨g, 0, none⟩)]) W_ fun e w' => e = .returned (.bool b_) ∧ Below W_.heap.size W_ w' := by
  intro W y b_ hW hy
  obtain ⟨t, ht, h4⟩ := Option.bind_eq_some_iff.mp hy
  obtain rfl : t.1 = b_ := Option.some.inj h4
  have hWb := blk_below hblk hW
  have hs : t = (t.1, x_.f0, x_.f1, x_.f2) := by unfold impl_packUnits_2.f at ht; obtain rfl := Option.some.inj ht; rfl
  rw [hs] at ht
  have hB : Below w0.heap.size w0 W := below_trans hB1 hW
  refine (impl_packUnits_2.calls (w0 := w0) (w := W) (g := g) (hI := ⟨hWb, hg⟩) (hB := hB) (h := ht)).mono ?_
  rintro e w2 ⟨rfl, ⟨hI2, _⟩, hB2, hk2⟩
  exact ⟨rfl, below_keep hB hB2 hk2 hWb hI2⟩
set_option maxHeartbeats 16000000 in
set_option maxRecDepth 100000 in
theorem impl_packUnits.calls (k : Nat) (A0 : Option Addr) (c0 : Nat) (l0 : List S149) (r1 : List Int) (r2 : Int) (r3 : ByteArray) (w : World) (hr0 : Kd.C k149 w A0 l0.length l0) (hc0 : l0.length ≤ c0) (h : impl_packUnits.f k l0 = some (r1, r2, r3)) :
    Calls Try.prog 108 #[.slice A0 l0.length c0] w fun e w' => ∃ v0_ : Value, e = .returned (.tuple #[v0_, .int .i64 r2, .string r3]) ∧ Kd.R (Kd.int .i64) 3 w' w.heap.size (fun _ => True) v0_ r1 ∧ Below w.heap.size w w' := by
  have hbig : l0.length ≤ 9223372036854775807 := hr0.2.1
  have HR := Aside0.mk hr0
  have HC := Aside0.mk hc0
  clear hr0 hc0
  unfold impl_packUnits.f at h
  by_cases c1 : (l0.length : Int) > 30
  · rw [if_pos c1] at h
    have hh := Option.some.inj h
    simp only [Prod.mk.injEq] at hh
    obtain ⟨rfl, rfl, rfl⟩ := hh
    have c1b : decide (30 < (l0.length : Int)) = true := decide_eq_true c1
    have c1n : decide (30 < l0.length) = true := decide_eq_true (by omega)
    clear c1 h
    go_enter Try.func108, Try.ntmps108
    go_wp2
    go_ret3
    exact ⟨.slice none 0 0, rfl, Kd.R_nil _ _ _ _ _, Below.refl _ _⟩
  · rw [if_neg c1] at h
    have H := Aside0.mk h
    have c1b : decide (30 < (l0.length : Int)) = false := decide_eq_false c1
    have c1n : decide (30 < l0.length) = false := decide_eq_false (by omega)
    clear c1 h
    go_enter Try.func108, Try.ntmps108
    go_wp2
    have R0 := Aside0.mk (row_empty (Kd.int .i64) w 3)
    have B0 := Aside0.mk ((Below.refl _ w).alloc (Nat.le_refl _) (.cells #[] 3))
    generalize w.alloc (.cells #[] 3) = w3 at *
    go_loopg [5, 17] l0.length (fun gg s5 s17 wr => ∃ (kk : Nat) (out : List Int), kk ≤ l0.length ∧ l0.length - kk ≤ gg ∧ s17 = .int .i64 kk ∧ Aside0 (Below w.heap.size w wr) ∧ Aside0 (Kd.R (Kd.int .i64) 3 wr w.heap.size (fun _ => True) s5 out) ∧ Aside0 (impl_packUnits.go k l0 (l0.drop kk) kk out = some (r1, r2, r3)))
    case atStart => exact ⟨0, [], Nat.zero_le _, by omega, rfl, B0, R0, ⟨H.out⟩⟩
    case round =>
      obtain ⟨kk, out, hkk, hg, rfl, BW, HO, HF⟩ := hrel
      by_cases hlt : kk < l0.length
      · have hltz : (kk : Int) < (l0.length : Int) := by omega
        have hf := HF.out
        have hcons : l0.drop kk = rd_T149 l0 (kk : Int) :: l0.drop (kk + 1) := by
          rw [List.drop_eq_getElem_cons hlt]
          congr 1
          unfold rd_T149
          rw [Int.toNat_natCast, List.getD_eq_getElem?_getD, List.getElem?_eq_getElem hlt]
          rfl
        obtain ⟨ad, rfl, hx0, hx1, hx2⟩ := at_T149 (Kd.C_below HR.out BW.out) (kk : Int) (by omega) hltz
        rw [hcons, impl_packUnits.go_cons] at hf
        clear hcons
        simp only [Int.toNat_natCast] at hx0 hx1 hx2
        generalize hxx : rd_T149 l0 (kk : Int) = x_ at *
        clear hxx
        unfold impl_packUnits.one at hf
        obtain ⟨at_, hat, hf2⟩ := Option.bind_eq_some_iff.mp hf
        obtain ⟨nm, hnm, hf3⟩ := Option.bind_eq_some_iff.mp hf2
        have HAT := Aside0.mk hat
        have HNM := Aside0.mk hnm
        have HF3 := Aside0.mk hf3
        clear hf hat hf2 hnm hf3
        obtain ⟨A5, c5, rfl, hl5, hr5⟩ := Kd.R_reads HO.out
        have HL5 := Aside0.mk hl5
        have HR5 := Aside0.mk hr5
        clear hl5 hr5
        have HT : Aside0 (Kd.C k149 wr (some ad) (l0.take kk).length (l0.take kk)) := Aside0.mk (Kd.C_take (Kd.C_below HR.out BW.out) (by omega))
        have hlen : (l0.take kk).length = kk := by rw [List.length_take]; omega
        have HLEN := Aside0.mk hlen
        clear hlen
        have hkc : kk ≤ c0 := by have := HC.out; omega
        have hkn : (kk : Int) ≤ (c0 : Int) := by omega
        have hblk0 : (wr.alloc (.cells #[.string x_.f0, .string x_.f1, .int .i64 x_.f2] 149)).heap[wr.heap.size]? = some (.cells #[.string x_.f0, .string x_.f1, .int .i64 x_.f2] 149 (0, 0)) := blk_new wr _
        have BA : Aside0 (Below wr.heap.size wr (wr.alloc (.cells #[.string x_.f0, .string x_.f1, .int .i64 x_.f2] 149))) := Aside0.mk ((Below.refl _ wr).alloc (Nat.le_refl _) _)
        have C1 := impl_Pack_135.calls (impl_packUnits.p1 x_) (l0.take kk) (some ad) c0 136 #[.pointer (some ⟨wr.heap.size, 0, none⟩)] at_ (wr.alloc (.cells #[.string x_.f0, .string x_.f1, .int .i64 x_.f2] 149)) (fun args w => enters_of Try.func136 (by kernel_rfl) rfl args w)
          (impl_packUnits.pays1 x_ wr _ wr.heap.size (Nat.le_refl _) BA.out hblk0) (Kd.C_below HT.out BA.out) (by rw [HLEN.out]; exact hkc) HAT.out
        rw [HLEN.out] at C1
        have HC1 := Aside0.mk C1
        have HBLK0 := Aside0.mk hblk0
        clear C1 hblk0
        go_wp2_with fail
        refine HC1.out.mono ?_
        rintro e w1 ⟨rfl, hb1⟩
        have hblk := blk_below HBLK0.out hb1
        have B1 : Aside0 (Below wr.heap.size wr w1) := Aside0.mk (below_trans BA.out hb1)
        have d0 := (blk_cell hblk 0).trans rfl
        have d2 := (blk_cell hblk 2).trans rfl
        have HBLK1 := Aside0.mk hblk
        clear hb1 hblk hx0 hx1 hx2
        go_wp2_with fail
        refine (impl_NameOK.calls (k := k) (r := nm) (w := _) (h := HNM.out)).mono ?_
        rintro e w2 ⟨rfl, hb2⟩
        have hbx : Below w1.heap.size w1 w2 := by first | exact hb2 | exact hb2.below
        have BF : Aside0 (Below w.heap.size w w2) := Aside0.mk (below_trans (below_trans BW.out B1.out) hbx)
        clear hb2 d0 d2
        cases nm with
        | false =>
          have h3 := HF3.out
          simp only [Bool.false_eq_true, if_false, Option.some.injEq, Prod.mk.injEq] at h3
          obtain ⟨rfl, rfl, rfl⟩ := h3
          have hblk := blk_below HBLK1.out hbx
          have d0 := (blk_cell hblk 0).trans rfl
          have d1 := (blk_cell hblk 1).trans rfl
          have d2 := (blk_cell hblk 2).trans rfl
          clear hblk
          go_wp2
          go_region
          all_goals go_wp2
          go_ret3
          exact ⟨.slice none 0 0, rfl, Kd.R_nil _ _ _ _ _, by repeat (first | exact BF.out | apply below_drew | apply pw_below_drewN)⟩
        | true =>
          have h3 := HF3.out
          simp only [if_true] at h3
          obtain ⟨ok, hok, h4⟩ := Option.bind_eq_some_iff.mp h3
          have HOK := Aside0.mk hok
          have H4 := Aside0.mk h4
          clear h3 hok h4
          have hblk := blk_below HBLK1.out hbx
          have d0 := (blk_cell hblk 0).trans rfl
          have d1 := (blk_cell hblk 1).trans rfl
          have d2 := (blk_cell hblk 2).trans rfl
          have HBLK2 := Aside0.mk hblk
          have HBX := Aside0.mk hbx
          clear hblk hbx BF
          go_wp2_with fail
          refine (impl_within.calls (r := ok) (w := _) (h := HOK.out)).mono ?_
          rintro e w3 ⟨rfl, hd3⟩
          have hbx : Below w2.heap.size w2 w3 := hd3.below
          have B3 : Aside0 (Below wr.heap.size wr w3) := Aside0.mk (below_trans (below_trans B1.out HBX.out) hbx)
          have BF : Aside0 (Below w.heap.size w w3) := Aside0.mk (below_trans BW.out B3.out)
          clear hd3 d0 d1 d2
          cases ok with
          | false =>
            have h5 := H4.out
            simp only [Bool.false_eq_true, if_false, Option.some.injEq, Prod.mk.injEq] at h5
            obtain ⟨rfl, rfl, rfl⟩ := h5
            have hblk := blk_below HBLK2.out hbx
            have d0 := (blk_cell hblk 0).trans rfl
            have d1 := (blk_cell hblk 1).trans rfl
            have d2 := (blk_cell hblk 2).trans rfl
            clear hblk
            go_wp2
            go_region
            all_goals go_wp2
            go_ret3
            exact ⟨.slice none 0 0, rfl, Kd.R_nil _ _ _ _ _, by repeat (first | exact BF.out | apply below_drew | apply pw_below_drewN)⟩
          | true =>
            have h5 := H4.out
            simp only [if_true] at h5
            obtain ⟨tw, htw, h6⟩ := Option.bind_eq_some_iff.mp h5
            have H6 := Aside0.mk h6
            have hblk := blk_below HBLK2.out hbx
            have C2 := impl_Pack_137.calls (impl_packUnits.p2 x_) (l0.take kk) (some ad) c0 138 #[.pointer (some ⟨wr.heap.size, 0, none⟩)] tw w3 (fun args w => enters_of Try.func138 (by kernel_rfl) rfl args w)
              (impl_packUnits.pays2 x_ wr _ wr.heap.size (Nat.le_refl _) B3.out hblk) (Kd.C_below HT.out B3.out) (by rw [HLEN.out]; exact hkc) htw
            rw [HLEN.out] at C2
            have HC2 := Aside0.mk C2
            have HBLK3 := Aside0.mk hblk
            clear C2 hblk hbx h5 htw h6 BF
            go_wp2_with fail
            refine HC2.out.mono ?_
            rintro e w4 ⟨rfl, hbx⟩
            have B4 : Aside0 (Below wr.heap.size wr w4) := Aside0.mk (below_trans B3.out hbx)
            have BF : Aside0 (Below w.heap.size w w4) := Aside0.mk (below_trans BW.out B4.out)
            cases tw with
            | true =>
              have h7 := H6.out
              simp only [if_true, Option.some.injEq, Prod.mk.injEq] at h7
              obtain ⟨rfl, rfl, rfl⟩ := h7
              have hblk := blk_below HBLK3.out hbx
              have d0 := (blk_cell hblk 0).trans rfl
              have d1 := (blk_cell hblk 1).trans rfl
              have d2 := (blk_cell hblk 2).trans rfl
              clear hblk
              go_wp2
              go_region
              all_goals go_wp2
              go_ret3
              exact ⟨.slice none 0 0, rfl, Kd.R_nil _ _ _ _ _, by repeat (first | exact BF.out | apply below_drew | apply pw_below_drewN)⟩
            | false =>
              have h7 := H6.out
              simp only [Bool.false_eq_true, if_false] at h7
              by_cases ce : x_.f1.toList = ([] : List UInt8)
              · rw [if_pos ce] at h7
                have H7 := Aside0.mk h7
                have ce1 : (x_.f1.toList == ([] : List UInt8)) = true := beq_iff_eq.mpr ce
                have ce2 : x_.f1.toList.isEmpty = true := by rw [ce]; rfl
                clear h7
                have hblk := blk_below HBLK3.out hbx
                have d0 := (blk_cell hblk 0).trans rfl
                have d1 := (blk_cell hblk 1).trans rfl
                have d2 := (blk_cell hblk 2).trans rfl
                have HBLK4 := Aside0.mk hblk
                clear hblk
                by_cases hv : wrap64 x_.f2 > 1000000
                · have h8 := H7.out
                  unfold impl_packUnits.fin at h8
                  rw [if_pos hv] at h8
                  simp only [Option.some.injEq, Prod.mk.injEq] at h8
                  obtain ⟨rfl, rfl, rfl⟩ := h8
                  have hvd : decide (1000000 < wrap64 x_.f2) = true := decide_eq_true hv
                  clear hv
                  go_wp2
                  go_region
                  all_goals go_wp2
                  go_ret3
                  exact ⟨.slice none 0 0, rfl, Kd.R_nil _ _ _ _ _, by repeat (first | exact BF.out | apply below_drew | apply pw_below_drewN)⟩
                · have h8 := H7.out
                  unfold impl_packUnits.fin at h8
                  rw [if_neg hv] at h8
                  by_cases hlim : out.length < 17592186044416
                  · rw [if_pos hlim] at h8
                    have H8 := Aside0.mk h8
                    have HLIM := Aside0.mk hlim
                    have hvd : decide (1000000 < wrap64 x_.f2) = false := decide_eq_false hv
                    clear hv hlim h8
                    have HO4 := Aside0.mk (Kd.R_below (Kd.R_below HO.out B3.out) hbx)
                    go_wp2_with (at_builtin; refine Kd.R_append (Kd.int .i64) (w0 := w) w.heap.size rfl (.tmp 75) (.tmp 77) 84 3 (.int .i64 0) 8 rfl Try.underlying84 (by kernel_rfl : (Try.prog.info? 3).map (fun i => (i.zero, i.size, i.bytes)) = some (some (.int .i64 0), 1, 8)) rfl (by decide) (by omega) (.slice A5 out.length c5) out (wrap64 x_.f2) [.int .i64 (wrap64 x_.f2)] (fun _ => True) (fun _ => False) rfl rfl ?aP (fun _ hk => hk.elim) ?aF ?aO ?aB ?aS ?aL ?_; (case aP => exact rfl); (case aB => exact BF.out); (case aF => exact (fun _ _ => trivial)); (case aO => exact HO4.out); (case aS => exact BF.out.size); (case aL => have := HLIM.out; omega); intro v5 w5 ho hb_ hg_ hat_; have HO5 := Aside0.mk ho; have HB5 := Aside0.mk hb_; clear ho hb_ hg_ hat_)
                    go_roundg (l0.length - (kk + 1))
                    case measure => omega
                    case rel => exact ⟨kk + 1, out ++ [wrap64 x_.f2], by omega, by omega, by go_num, HB5, HO5, ⟨H8.out⟩⟩
                  · rw [if_neg hlim] at h8; cases h8
              · rw [if_neg ce] at h7
                have ce1 : (x_.f1.toList == ([] : List UInt8)) = false := beq_eq_false_iff_ne.mpr ce
                have ce2 : x_.f1.toList.isEmpty = false := by
                  cases hh : x_.f1.toList with
                  | nil => exact absurd hh ce
                  | cons a b => rfl
                by_cases ca : at_ < 0
                · rw [if_pos ca] at h7
                  simp only [Option.some.injEq, Prod.mk.injEq] at h7
                  obtain ⟨rfl, rfl, rfl⟩ := h7
                  have cad : decide (at_ < 0) = true := decide_eq_true ca
                  clear ca ce
                  have hblk := blk_below HBLK3.out hbx
                  have d0 := (blk_cell hblk 0).trans rfl
                  have d1 := (blk_cell hblk 1).trans rfl
                  have d2 := (blk_cell hblk 2).trans rfl
                  clear hblk
                  go_wp2
                  go_region
                  all_goals go_wp2
                  go_ret3
                  exact ⟨.slice none 0 0, rfl, Kd.R_nil _ _ _ _ _, by repeat (first | exact BF.out | apply below_drew | apply pw_below_drewN)⟩
                · rw [if_neg ca] at h7
                  by_cases cl : at_ < (out.length : Int)
                  · rw [if_pos cl] at h7
                    have H7 := Aside0.mk h7
                    have cad : decide (at_ < 0) = false := decide_eq_false ca
                    have ca0 : 0 ≤ at_ := by omega
                    obtain ⟨ad5, rfl, hx5⟩ := Kd.at_int (Kd.C_below (Kd.C_below HR5.out B3.out) hbx) at_ ca0 cl
                    have hblk := blk_below HBLK3.out hbx
                    have d0 := (blk_cell hblk 0).trans rfl
                    have d1 := (blk_cell hblk 1).trans rfl
                    have d2 := (blk_cell hblk 2).trans rfl
                    clear hblk ca ce h7
                    by_cases hv : wrap64 (rd out at_ * x_.f2) > 1000000
                    · have h8 := H7.out
                      unfold impl_packUnits.fin at h8
                      rw [if_pos hv] at h8
                      simp only [Option.some.injEq, Prod.mk.injEq] at h8
                      obtain ⟨rfl, rfl, rfl⟩ := h8
                      have hvd : decide (1000000 < wrap64 (rd out at_ * x_.f2)) = true := decide_eq_true hv
                      clear hv
                      go_wp2
                      go_region
                      all_goals go_wp2
                      go_ret3
                      exact ⟨.slice none 0 0, rfl, Kd.R_nil _ _ _ _ _, by repeat (first | exact BF.out | apply below_drew | apply pw_below_drewN)⟩
                    · have h8 := H7.out
                      unfold impl_packUnits.fin at h8
                      rw [if_neg hv] at h8
                      by_cases hlim : out.length < 17592186044416
                      · rw [if_pos hlim] at h8
                        have H8 := Aside0.mk h8
                        have HLIM := Aside0.mk hlim
                        have hvd : decide (1000000 < wrap64 (rd out at_ * x_.f2)) = false := decide_eq_false hv
                        clear hv hlim h8
                        have HO4 := Aside0.mk (Kd.R_below (Kd.R_below HO.out B3.out) hbx)
                        go_wp2_with (at_builtin; refine Kd.R_append (Kd.int .i64) (w0 := w) w.heap.size rfl (.tmp 75) (.tmp 77) 84 3 (.int .i64 0) 8 rfl Try.underlying84 (by kernel_rfl : (Try.prog.info? 3).map (fun i => (i.zero, i.size, i.bytes)) = some (some (.int .i64 0), 1, 8)) rfl (by decide) (by omega) (.slice (some ad5) out.length c5) out (wrap64 (rd out at_ * x_.f2)) [.int .i64 (wrap64 (rd out at_ * x_.f2))] (fun _ => True) (fun _ => False) rfl rfl ?aP (fun _ hk => hk.elim) ?aF ?aO ?aB ?aS ?aL ?_; (case aP => exact rfl); (case aB => exact BF.out); (case aF => exact (fun _ _ => trivial)); (case aO => exact HO4.out); (case aS => exact BF.out.size); (case aL => have := HLIM.out; omega); intro v5 w5 ho hb_ hg_ hat_; have HO5 := Aside0.mk ho; have HB5 := Aside0.mk hb_; clear ho hb_ hg_ hat_)
                        go_roundg (l0.length - (kk + 1))
                        case measure => omega
                        case rel => exact ⟨kk + 1, out ++ [wrap64 (rd out at_ * x_.f2)], by omega, by omega, by go_num, HB5, HO5, ⟨H8.out⟩⟩
                      · rw [if_neg hlim] at h8; cases h8
                  · rw [if_neg cl] at h7; cases h7
      · have : kk = l0.length := by omega
        subst this
        have hltz : ¬ (l0.length : Int) < (l0.length : Int) := by omega
        have hf := HF.out
        rw [List.drop_length] at hf
        have hh := Option.some.inj hf
        simp only [Prod.mk.injEq] at hh
        obtain ⟨rfl, rfl, rfl⟩ := hh
        clear hf
        go_wp2
        go_ret3
        exact ⟨_, rfl, HO.out, BW.out⟩

end Go.Proofs.Ytookjankaanhlaa.PAll
