-- Written by wip/tools/hp.py over the kit's print (not by hand): functions and walks of All.
import Derived.Test.YtookjankaanhlaaPAllx0
import Derived.Test.YtookjankaanhlaaPAllx1
import Derived.Test.YtookjankaanhlaaPAllx13
import Derived.Test.YtookjankaanhlaaPAllx24
import Derived.Test.YtookjankaanhlaaPAllx25
import Derived.Test.YtookjankaanhlaaPAllx26
namespace Go.Proofs.Ytookjankaanhlaa.PAll
open Go.RowKit Go.Proofs.YtookjankaanhlaaW.PrintWords Go.Proofs.YtookjankaanhlaaW.PrintLast Go.Proofs.YtookjankaanhlaaW.PrintMore
attribute [local go_sem] max2_int min2_int max_two min_two max_three min_three max_four min_four   -- for this text's walks alone
set_option linter.unusedVariables false
set_option linter.unusedSimpArgs false

/-! ### spec_Unpack: function 60, by hand -/
def spec_Unpack.scan (sizes : List Int) (units : Int) : List Int → Int → Int → Option Int
  | [], _, best => some best
  | s :: rest, i, best => if s ≤ units then (if best < 0 then spec_Unpack.scan sizes units rest (i + 1) i
      else if best < (sizes.length : Int) then (if s > rd sizes best then spec_Unpack.scan sizes units rest (i + 1) i else spec_Unpack.scan sizes units rest (i + 1) best) else none)
      else spec_Unpack.scan sizes units rest (i + 1) best
def spec_Unpack.loop (sizes : List Int) : Nat → List Int → Int → Option (List Int × Int × Int)
  | 0, _, _ => none
  | k + 1, out, units => (spec_Unpack.scan sizes units sizes 0 (-1)).bind fun best => if best < 0 then some (out, units, 0)
      else if best < (sizes.length : Int) then (if best < (out.length : Int) then (if rd sizes best = 0 then none
        else spec_Unpack.loop sizes k (out.set best.toNat (wrap64 (rd out best + wrap64 (Int.tdiv units (rd sizes best))))) (Int.tmod units (rd sizes best))) else none) else none
def spec_Unpack.f (k : Nat) (l0 : List S149) (a1 : Int) : Option (List Int × Int × Int) :=
  (spec_PackUnits.f k l0).bind fun t => if t.2.1 = 0 then ((spec_l01In.f a1 0 1000000).bind fun ok => if ok = true then
      (let sizes := t.1; if l0.length ≤ 17592186044416 then spec_Unpack.loop sizes k (List.replicate l0.length 0) a1 else none) else some ([], 0, 5)) else some ([], 0, t.2.1)
theorem spec_Unpack.mono_loop (sizes : List Int) : ∀ k out units, LeO (spec_Unpack.loop sizes k out units) (spec_Unpack.loop sizes (k + 1) out units)
  | 0, _, _ => fun r h => by cases h
  | k + 1, out, units => LeO.bind (LeO.refl _) (fun _ => LeO.ite (LeO.refl _) (LeO.ite (LeO.ite (LeO.ite (LeO.refl _) (spec_Unpack.mono_loop sizes k _ _)) (LeO.refl _)) (LeO.refl _)))
theorem spec_Unpack.mono : ∀ l0 a1 k, LeO (spec_Unpack.f k l0 a1) (spec_Unpack.f (k + 1) l0 a1) := fun l0 a1 k =>
  LeO.bind (spec_PackUnits.mono l0 k) (fun t => LeO.ite (LeO.bind (LeO.refl _) (fun _ => LeO.ite (LeO.ite (spec_Unpack.mono_loop _ k _ _) (LeO.refl _)) (LeO.refl _))) (LeO.refl _))
set_option maxHeartbeats 16000000 in
set_option maxRecDepth 100000 in
theorem spec_Unpack.calls (k : Nat) (A0 : Option Addr) (c0 : Nat) (l0 : List S149) (a1 : Int) (r1 : List Int) (r2 : Int) (r3 : Int) (w : World) (hr0 : Kd.C k149 w A0 l0.length l0) (hc0 : l0.length ≤ c0) (h : spec_Unpack.f k l0 a1 = some (r1, r2, r3)) :
    Calls Try.prog 60 #[.slice A0 l0.length c0, .int .i64 a1] w fun e w' => ∃ v0_ : Value, e = .returned (.tuple #[v0_, .int .i64 r2, .int .i64 r3]) ∧ Kd.R (Kd.int .i64) 3 w' w.heap.size (fun _ => True) v0_ r1 ∧ Below w.heap.size w w' := by
  unfold spec_Unpack.f at h
  obtain ⟨⟨sizes, code, who⟩, hpu, h2⟩ := Option.bind_eq_some_iff.mp h
  have HPU := Aside0.mk (spec_PackUnits.calls k (l0 := l0) (A0 := A0) (c0 := c0) (r1 := sizes) (r2 := code) (r3 := who) (w := w) (hr0 := hr0) (hc0 := hc0) (h := hpu))
  have HL0 := Aside0.mk hr0.2.1
  clear h hpu hr0 hc0
  simp only [] at h2
  go_enter Try.func60, Try.ntmps60
  by_cases hcode : code = 0
  · subst hcode
    rw [if_pos rfl] at h2
    obtain ⟨ok, hok, h3⟩ := Option.bind_eq_some_iff.mp h2
    have HOK := Aside0.mk hok
    have H3 := Aside0.mk h3
    clear h2 hok h3
    go_wp2_with fail
    refine HPU.out.mono ?_
    rintro e w1 ⟨v0, rfl, ho, hb1⟩
    obtain ⟨A5, c5, rfl, hl5, hr5⟩ := Kd.R_reads ho
    have HO := Aside0.mk ho
    have HR5 := Aside0.mk hr5
    have HL5 := Aside0.mk hl5
    have HB1 := Aside0.mk hb1
    have hbig := hr5.2.1
    clear ho hr5 hl5 hb1
    go_wp2_with fail
    refine (spec_l01In.calls (r := ok) (w := _) (h := HOK.out)).mono ?_
    rintro e w2 ⟨rfl, hd2⟩
    have hb2 : Below w1.heap.size w1 w2 := hd2.below
    have HB2 := Aside0.mk hb2
    clear hd2 hb2
    cases ok with
    | false =>
      have h4 := H3.out
      simp only [Bool.false_eq_true, if_false, Option.some.injEq, Prod.mk.injEq] at h4
      obtain ⟨rfl, rfl, rfl⟩ := h4
      go_wp2
      go_ret3
      exact ⟨_, rfl, Kd.R_of_own (own_weaken (Kd.own_of_R (row_empty (Kd.int .i64) _ 3)) (Nat.le_trans HB1.out.size HB2.out.size)) (fun _ _ => trivial), (below_trans HB1.out HB2.out).alloc (Nat.le_trans HB1.out.size HB2.out.size) _⟩
    | true =>
      have h4 := H3.out
      simp only [if_true] at h4
      by_cases hlim : l0.length ≤ 17592186044416
      · rw [if_pos hlim] at h4
        have H4 := Aside0.mk h4
        clear h4
        have hlz : (0 : Int) ≤ (l0.length : Int) := by omega
        have hmk := print_make (P := Try.prog) 84 3 .i64 8 Try.underlying84 (by kernel_rfl : (Try.prog.info? 3).map (fun i => (i.zero, i.size, i.bytes)) = some (some (.int .i64 0), 1, 8)) (by decide) l0.length (by omega) w2
        go_wp2
        have OW := Aside0.mk (own_made w2 w.heap.size 3 .i64 l0.length (Nat.le_trans HB1.out.size HB2.out.size) (by omega))
        have BW2 := Aside0.mk ((Below.refl w2.heap.size w2).alloc (Nat.le_refl _) (.cells (madeCells #[.int .i64 0] l0.length) 3))
        have RS := Aside0.mk (Kd.C_below HR5.out HB2.out)
        have BL := Aside0.mk (below_trans HB1.out HB2.out)
        clear hmk
        generalize w2.alloc (.cells (madeCells #[.int .i64 0] l0.length) 3) = w3 at *
        go_loopg [11] k (fun gg s1 wr => ∃ (outl : List Int) (u : Int), s1 = .int .i64 u ∧ Aside0 (outl.length = l0.length) ∧ Aside0 (Below w2.heap.size w2 wr) ∧ Aside0 (wr.ownsRow w.heap.size 3 1 (.slice (some ⟨w2.heap.size, 0, none⟩) l0.length l0.length) l0.length (nums .i64 outl)) ∧ Aside0 (spec_Unpack.loop sizes gg outl u = some (r1, r2, r3)))
        case atStart => exact ⟨_, _, rfl, ⟨List.length_replicate⟩, BW2, OW, H4⟩
        case round =>
          obtain ⟨outl, u, rfl, HLEN, BW, HO2, HF⟩ := hrel
          cases gk with
          | zero => exact absurd HF.out (by simp [spec_Unpack.loop])
          | succ kf =>
          have hf := HF.out
          rw [spec_Unpack.loop] at hf
          obtain ⟨best, hs, h5⟩ := Option.bind_eq_some_iff.mp hf
          have HS := Aside0.mk hs
          have H5 := Aside0.mk h5
          have RW := Aside0.mk (Kd.C_below RS.out BW.out)
          have hslen : sizes.length ≤ 9223372036854775807 := RW.out.2.1
          clear hf hs h5 HF
          go_wp2
          go_loopg [13, 12] sizes.length (fun gg sI sB w' => ∃ (kk : Nat) (b : Int), kk ≤ sizes.length ∧ sizes.length - kk ≤ gg ∧ sI = .int .i64 kk ∧ sB = .int .i64 b ∧ Aside0 (Below w2.heap.size w2 w') ∧ Aside0 (w'.ownsRow w.heap.size 3 1 (.slice (some ⟨w2.heap.size, 0, none⟩) l0.length l0.length) l0.length (nums .i64 outl)) ∧ Aside0 (spec_Unpack.scan sizes u (sizes.drop kk) kk b = some best))
          case atStart => exact ⟨0, -1, Nat.zero_le _, by omega, rfl, rfl, BW, HO2, HS⟩
          case round =>
            clear RW BW HO2
            obtain ⟨kk, b, hkk, hg, rfl, rfl, BW, HO2, HSC⟩ := hrel
            have RW := Aside0.mk (Kd.C_below RS.out BW.out)
            by_cases hlt : kk < sizes.length
            · have hltz : (kk : Int) < (sizes.length : Int) := by omega
              have hcons : sizes.drop kk = rd sizes (kk : Int) :: sizes.drop (kk + 1) := by
                rw [List.drop_eq_getElem_cons hlt]
                congr 1
                unfold rd
                rw [Int.toNat_natCast, List.getD_eq_getElem?_getD, List.getElem?_eq_getElem hlt]
                rfl
              have hsc := HSC.out
              rw [hcons, spec_Unpack.scan] at hsc
              clear hcons HSC
              obtain ⟨ad5, rfl, hx5⟩ := Kd.at_int RW.out (kk : Int) (by omega) hltz
              simp only [Int.toNat_natCast] at hx5
              have hkn : 0 ≤ (kk : Int) := by omega
              by_cases c1 : rd sizes (kk : Int) ≤ u
              · rw [if_pos c1] at hsc
                have c1b : decide (rd sizes (kk : Int) ≤ u) = true := decide_eq_true c1
                clear c1
                by_cases c2 : b < 0
                · rw [if_pos c2] at hsc
                  have HSC := Aside0.mk hsc
                  have c2b : decide (b < 0) = true := decide_eq_true c2
                  clear c2 hsc
                  go_wp2; go_quiet (fail); go_wp2
                  go_roundg (sizes.length - (kk + 1))
                  case measure => omega
                  case rel => exact ⟨kk + 1, _, by omega, by omega, by go_num, rfl, ⟨by repeat (first | exact BW.out | apply below_drew1 | apply pw_below_drewN)⟩, ⟨by exact HO2.out⟩, ⟨by simpa using HSC.out⟩⟩
                · rw [if_neg c2] at hsc
                  have c2b : decide (b < 0) = false := decide_eq_false c2
                  have hb0 : 0 ≤ b := by omega
                  clear c2
                  by_cases c3 : b < (sizes.length : Int)
                  · rw [if_pos c3] at hsc
                    obtain ⟨ad6, e6, hx6⟩ := Kd.at_int RW.out b hb0 c3
                    cases e6
                    by_cases c4 : rd sizes (kk : Int) > rd sizes b
                    · rw [if_pos c4] at hsc
                      have HSC := Aside0.mk hsc
                      have c4b : decide (rd sizes b < rd sizes (kk : Int)) = true := decide_eq_true c4
                      clear c4 hsc
                      go_wp2; go_quiet (fail); go_wp2
                      go_roundg (sizes.length - (kk + 1))
                      case measure => omega
                      case rel => exact ⟨kk + 1, _, by omega, by omega, by go_num, rfl, ⟨by repeat (first | exact BW.out | apply below_drew1 | apply pw_below_drewN)⟩, ⟨by exact HO2.out⟩, ⟨by simpa using HSC.out⟩⟩
                    · rw [if_neg c4] at hsc
                      have HSC := Aside0.mk hsc
                      have c4b : decide (rd sizes b < rd sizes (kk : Int)) = false := decide_eq_false c4
                      clear c4 hsc
                      go_wp2; go_quiet (fail); go_wp2
                      go_roundg (sizes.length - (kk + 1))
                      case measure => omega
                      case rel => exact ⟨kk + 1, _, by omega, by omega, by go_num, rfl, ⟨by repeat (first | exact BW.out | apply below_drew1 | apply pw_below_drewN)⟩, ⟨by exact HO2.out⟩, ⟨by simpa using HSC.out⟩⟩
                  · rw [if_neg c3] at hsc; cases hsc
              · rw [if_neg c1] at hsc
                have HSC := Aside0.mk hsc
                have c1b : decide (rd sizes (kk : Int) ≤ u) = false := decide_eq_false c1
                clear c1 hsc
                go_wp2; go_quiet (fail); go_wp2
                go_roundg (sizes.length - (kk + 1))
                case measure => omega
                case rel => exact ⟨kk + 1, _, by omega, by omega, by go_num, rfl, ⟨by repeat (first | exact BW.out | apply below_drew1 | apply pw_below_drewN)⟩, ⟨by exact HO2.out⟩, ⟨by simpa using HSC.out⟩⟩
            · have : kk = sizes.length := by omega
              subst this
              have hltz : ¬ (sizes.length : Int) < (sizes.length : Int) := by omega
              have hsc := HSC.out
              rw [List.drop_length, spec_Unpack.scan] at hsc
              obtain rfl := Option.some.inj hsc
              clear hsc HSC
              have h5 := H5.out
              by_cases c1 : b < 0
              · rw [if_pos c1] at h5
                have c1b : decide (b < 0) = true := decide_eq_true c1
                simp only [Option.some.injEq, Prod.mk.injEq] at h5
                obtain ⟨rfl, rfl, rfl⟩ := h5
                clear c1
                go_wp2
                go_ret3
                exact ⟨_, rfl, Kd.R_of_own (by rw [HLEN.out]; exact HO2.out) (fun _ _ => trivial), below_trans BL.out BW.out⟩
              · rw [if_neg c1] at h5
                have c1b : decide (b < 0) = false := decide_eq_false c1
                have hb0 : 0 ≤ b := by omega
                clear c1
                by_cases c2 : b < (sizes.length : Int)
                · rw [if_pos c2] at h5
                  by_cases c3 : b < (outl.length : Int)
                  · rw [if_pos c3] at h5
                    by_cases c4 : rd sizes b = 0
                    · rw [if_pos c4] at h5; cases h5
                    · rw [if_neg c4] at h5
                      have HF := Aside0.mk h5
                      clear h5
                      obtain ⟨ad5, rfl, hx5⟩ := Kd.at_int RW.out b hb0 c2
                      have hxo := (own_at HO2.out b hb0 (by have := HLEN.out; omega)).1
                      have hfo := (own_at HO2.out b hb0 (by have := HLEN.out; omega)).2
                      have c2n : b < (l0.length : Int) := by have := HLEN.out; omega
                      have hb0' := eq_true hb0
                      have c2' := eq_true c2
                      have c2n' := eq_true c2n
                      have HO4 := Aside0.mk (own_drew (own_store HO2.out b (wrap64 (rd outl b + wrap64 (Int.tdiv u (rd sizes b))))).1)
                      have BW4 := Aside0.mk (below_drew1 (below_set (j := b.toNat) (v := .int .i64 (wrap64 (rd outl b + wrap64 (Int.tdiv u (rd sizes b))))) BW.out (Nat.le_refl _)))
                      have RW4 := Aside0.mk (Kd.C_below RS.out BW4.out)
                      go_wp2
                      go_region
                      clear hx5 hxo hfo RW HO2 BW
                      generalize (wr.setCell ⟨w2.heap.size, b.toNat, none⟩ (.int .i64 (wrap64 (rd outl b + wrap64 (Int.tdiv u (rd sizes b)))))).drew = w5 at *
                      obtain ⟨ad7, e7, hx7⟩ := Kd.at_int RW4.out b hb0 c2
                      cases e7
                      go_wp2
                      go_roundg kf
                      case measure => omega
                      case rel => exact ⟨_, _, rfl, ⟨by rw [List.length_set]; exact HLEN.out⟩, BW4, HO4, HF⟩
                  · rw [if_neg c3] at h5; cases h5
                · rw [if_neg c2] at h5; cases h5
      · rw [if_neg hlim] at h4; cases h4
  · rw [if_neg hcode] at h2
    simp only [Option.some.injEq, Prod.mk.injEq] at h2
    obtain ⟨rfl, rfl, rfl⟩ := h2
    have hc1 : (code == 0) = false := beq_eq_false_iff_ne.mpr hcode
    have hc2 : (code != 0) = true := bne_iff_ne.mpr hcode
    clear hcode
    go_wp2_with fail
    refine HPU.out.mono ?_
    rintro e w1 ⟨v0, rfl, ho, hb1⟩
    have HB1 := Aside0.mk hb1
    clear ho hb1
    go_wp2
    go_ret3
    exact ⟨_, rfl, Kd.R_of_own (own_weaken (Kd.own_of_R (row_empty (Kd.int .i64) _ 3)) HB1.out.size) (fun _ _ => trivial), HB1.out.alloc HB1.out.size _⟩

/-! ### laws_FnExactUnpack: function 13 -/
mutual
def laws_FnExactUnpack.j0 : Nat → List (S152) → Int → List Int → Int → Int → List (S149) → List Int → Int → Int → Bool → Option (Bool)
 | 0, _, _, _, _, _, _, _, _, _, _ => none
 | k + 1, x0, x1, x6, x7, x8, x9, x10, x11, x12, x54 => if x54 = true then (some false) else ((laws_toPackS.f k x0).bind fun t1023 => ((laws_eqPackS.f k x9 t1023).bind fun t1026 => (if t1026 = true then ((laws_markPackS.f k x9 1).bind fun bt1027 => (if bt1027.1 < 0 then (laws_FnExactUnpack.j1 k x0 x1 x6 x7 x8 x10 true) else ((laws_eqIntS.f k x10 x6).bind fun t1029 => (if t1029 = true then (if x11 = x7 then (laws_FnExactUnpack.j1 k x0 x1 x6 x7 x8 x10 (x12 != x8)) else (laws_FnExactUnpack.j1 k x0 x1 x6 x7 x8 x10 true)) else (laws_FnExactUnpack.j1 k x0 x1 x6 x7 x8 x10 true))))) else (some false))))
def laws_FnExactUnpack.j1 : Nat → List (S152) → Int → List Int → Int → Int → List Int → Bool → Option (Bool)
 | 0, _, _, _, _, _, _, _ => none
 | k + 1, x0, x1, x6, x7, x8, x10, x80 => if x80 = true then (some false) else ((laws_markIntS.f k x10 1).bind fun bt1030 => ((laws_heldIntS.f k bt1030.2 1).bind fun t1032 => (if t1032 < 0 then (some false) else (if t1032 = bt1030.1 then ((laws_toPackS.f k x0).bind fun t1033 => ((impl_Unpack.f k t1033 x1).bind fun bt1036 => ((laws_eqIntS.f k bt1036.1 x6).bind fun t1041 => (if t1041 = true then (if bt1036.2.1 = x7 then (laws_FnExactUnpack.j2 k bt1030.2 bt1030.1 (bt1036.2.2 != x8)) else (laws_FnExactUnpack.j2 k bt1030.2 bt1030.1 true)) else (laws_FnExactUnpack.j2 k bt1030.2 bt1030.1 true))))) else (some false)))))
def laws_FnExactUnpack.j2 : Nat → List Int → Int → Bool → Option (Bool)
 | 0, _, _, _ => none
 | k + 1, x10, x14, x113 => if x113 = true then (some false) else ((laws_heldIntS.f k x10 1).bind fun t1042 => (if t1042 < 0 then (some false) else (if t1042 = x14 then (some true) else (some false))))
end
def laws_FnExactUnpack.f (k : Nat) (l0 : List (S152)) (a1 : Int) : Option (Bool) := (laws_szPackS.f k l0 1048576).bind fun t1005 => (if t1005 < 0 then (some true) else ((laws_toPackS.f k l0).bind fun t1006 => ((spec_Unpack.f k t1006 a1).bind fun bt1009 => ((laws_toPackS.f k l0).bind fun t1014 => ((impl_Unpack.f k t1014 a1).bind fun bt1017 => ((laws_eqIntS.f k bt1017.1 bt1009.1).bind fun t1022 => (if t1022 = true then (if bt1017.2.1 = bt1009.2.1 then (laws_FnExactUnpack.j0 k l0 a1 bt1009.1 bt1009.2.1 bt1009.2.2 t1014 bt1017.1 bt1017.2.1 bt1017.2.2 (bt1017.2.2 != bt1009.2.2)) else (laws_FnExactUnpack.j0 k l0 a1 bt1009.1 bt1009.2.1 bt1009.2.2 t1014 bt1017.1 bt1017.2.1 bt1017.2.2 true)) else (laws_FnExactUnpack.j0 k l0 a1 bt1009.1 bt1009.2.1 bt1009.2.2 t1014 bt1017.1 bt1017.2.1 bt1017.2.2 true))))))))
theorem laws_FnExactUnpack.mono_l : ∀ k, (∀ y0 y1 y2 y3 y4 y5 y6 y7 y8 y9, LeO (laws_FnExactUnpack.j0 k y0 y1 y2 y3 y4 y5 y6 y7 y8 y9) (laws_FnExactUnpack.j0 (k + 1) y0 y1 y2 y3 y4 y5 y6 y7 y8 y9)) ∧ (∀ y0 y1 y2 y3 y4 y5 y6, LeO (laws_FnExactUnpack.j1 k y0 y1 y2 y3 y4 y5 y6) (laws_FnExactUnpack.j1 (k + 1) y0 y1 y2 y3 y4 y5 y6)) ∧ (∀ y0 y1 y2, LeO (laws_FnExactUnpack.j2 k y0 y1 y2) (laws_FnExactUnpack.j2 (k + 1) y0 y1 y2))
 | 0 => ⟨fun _ _ _ _ _ _ _ _ _ _ r h => by simp [laws_FnExactUnpack.j0] at h, fun _ _ _ _ _ _ _ r h => by simp [laws_FnExactUnpack.j1] at h, fun _ _ _ r h => by simp [laws_FnExactUnpack.j2] at h⟩
 | k + 1 => by
  obtain ⟨ih0, ih1, ih2⟩ := laws_FnExactUnpack.mono_l k
  refine ⟨?_, ?_, ?_⟩
  ·intro y0 y1 y2 y3 y4 y5 y6 y7 y8 y9
   unfold laws_FnExactUnpack.j0
   repeat' first
   | (with_reducible exact ih0 _ _ _ _ _ _ _ _ _ _)
   | (with_reducible exact ih1 _ _ _ _ _ _ _)
   | (with_reducible exact ih2 _ _ _)
   | (with_reducible exact impl_Unpack.mono _ _ _)
   | (with_reducible exact laws_eqIntS.mono _ _ _)
   | (with_reducible exact laws_eqPackS.mono _ _ _)
   | (with_reducible exact laws_heldIntS.mono _ _ _)
   | (with_reducible exact laws_markIntS.mono _ _ _)
   | (with_reducible exact laws_markPackS.mono _ _ _)
   | (with_reducible exact laws_szPackS.mono _ _ _)
   | (with_reducible exact laws_toPackS.mono _ _)
   | (with_reducible exact spec_Unpack.mono _ _ _)
   | (with_reducible exact LeO.refl _)
   | (with_reducible exact LeO.none _)
   | (with_reducible refine LeO.ite ?_ ?_)
   | (with_reducible refine LeO.bind ?_ (fun _ => ?_))
   | exact ih0 _ _ _ _ _ _ _ _ _ _
   | exact ih1 _ _ _ _ _ _ _
   | exact ih2 _ _ _
   | exact impl_Unpack.mono _ _ _
   | exact laws_eqIntS.mono _ _ _
   | exact laws_eqPackS.mono _ _ _
   | exact laws_heldIntS.mono _ _ _
   | exact laws_markIntS.mono _ _ _
   | exact laws_markPackS.mono _ _ _
   | exact laws_szPackS.mono _ _ _
   | exact laws_toPackS.mono _ _
   | exact spec_Unpack.mono _ _ _
   | exact LeO.none _
   | refine LeO.ite ?_ ?_
   | refine LeO.bind ?_ (fun _ => ?_)
  ·intro y0 y1 y2 y3 y4 y5 y6
   unfold laws_FnExactUnpack.j1
   repeat' first
   | (with_reducible exact ih0 _ _ _ _ _ _ _ _ _ _)
   | (with_reducible exact ih1 _ _ _ _ _ _ _)
   | (with_reducible exact ih2 _ _ _)
   | (with_reducible exact impl_Unpack.mono _ _ _)
   | (with_reducible exact laws_eqIntS.mono _ _ _)
   | (with_reducible exact laws_eqPackS.mono _ _ _)
   | (with_reducible exact laws_heldIntS.mono _ _ _)
   | (with_reducible exact laws_markIntS.mono _ _ _)
   | (with_reducible exact laws_markPackS.mono _ _ _)
   | (with_reducible exact laws_szPackS.mono _ _ _)
   | (with_reducible exact laws_toPackS.mono _ _)
   | (with_reducible exact spec_Unpack.mono _ _ _)
   | (with_reducible exact LeO.refl _)
   | (with_reducible exact LeO.none _)
   | (with_reducible refine LeO.ite ?_ ?_)
   | (with_reducible refine LeO.bind ?_ (fun _ => ?_))
   | exact ih0 _ _ _ _ _ _ _ _ _ _
   | exact ih1 _ _ _ _ _ _ _
   | exact ih2 _ _ _
   | exact impl_Unpack.mono _ _ _
   | exact laws_eqIntS.mono _ _ _
   | exact laws_eqPackS.mono _ _ _
   | exact laws_heldIntS.mono _ _ _
   | exact laws_markIntS.mono _ _ _
   | exact laws_markPackS.mono _ _ _
   | exact laws_szPackS.mono _ _ _
   | exact laws_toPackS.mono _ _
   | exact spec_Unpack.mono _ _ _
   | exact LeO.none _
   | refine LeO.ite ?_ ?_
   | refine LeO.bind ?_ (fun _ => ?_)
  ·intro y0 y1 y2
   unfold laws_FnExactUnpack.j2
   repeat' first
   | (with_reducible exact ih0 _ _ _ _ _ _ _ _ _ _)
   | (with_reducible exact ih1 _ _ _ _ _ _ _)
   | (with_reducible exact ih2 _ _ _)
   | (with_reducible exact impl_Unpack.mono _ _ _)
   | (with_reducible exact laws_eqIntS.mono _ _ _)
   | (with_reducible exact laws_eqPackS.mono _ _ _)
   | (with_reducible exact laws_heldIntS.mono _ _ _)
   | (with_reducible exact laws_markIntS.mono _ _ _)
   | (with_reducible exact laws_markPackS.mono _ _ _)
   | (with_reducible exact laws_szPackS.mono _ _ _)
   | (with_reducible exact laws_toPackS.mono _ _)
   | (with_reducible exact spec_Unpack.mono _ _ _)
   | (with_reducible exact LeO.refl _)
   | (with_reducible exact LeO.none _)
   | (with_reducible refine LeO.ite ?_ ?_)
   | (with_reducible refine LeO.bind ?_ (fun _ => ?_))
   | exact ih0 _ _ _ _ _ _ _ _ _ _
   | exact ih1 _ _ _ _ _ _ _
   | exact ih2 _ _ _
   | exact impl_Unpack.mono _ _ _
   | exact laws_eqIntS.mono _ _ _
   | exact laws_eqPackS.mono _ _ _
   | exact laws_heldIntS.mono _ _ _
   | exact laws_markIntS.mono _ _ _
   | exact laws_markPackS.mono _ _ _
   | exact laws_szPackS.mono _ _ _
   | exact laws_toPackS.mono _ _
   | exact spec_Unpack.mono _ _ _
   | exact LeO.none _
   | refine LeO.ite ?_ ?_
   | refine LeO.bind ?_ (fun _ => ?_)
theorem laws_FnExactUnpack.mono : ∀ a0 a1 k, LeO (laws_FnExactUnpack.f k a0 a1) (laws_FnExactUnpack.f (k + 1) a0 a1) := by
 intro a0 a1 k
 obtain ⟨ih0, ih1, ih2⟩ := laws_FnExactUnpack.mono_l k
 unfold laws_FnExactUnpack.f
 repeat' first
   | (with_reducible exact ih0 _ _ _ _ _ _ _ _ _ _)
   | (with_reducible exact ih1 _ _ _ _ _ _ _)
   | (with_reducible exact ih2 _ _ _)
   | (with_reducible exact impl_Unpack.mono _ _ _)
   | (with_reducible exact laws_eqIntS.mono _ _ _)
   | (with_reducible exact laws_eqPackS.mono _ _ _)
   | (with_reducible exact laws_heldIntS.mono _ _ _)
   | (with_reducible exact laws_markIntS.mono _ _ _)
   | (with_reducible exact laws_markPackS.mono _ _ _)
   | (with_reducible exact laws_szPackS.mono _ _ _)
   | (with_reducible exact laws_toPackS.mono _ _)
   | (with_reducible exact spec_Unpack.mono _ _ _)
   | (with_reducible exact LeO.refl _)
   | (with_reducible exact LeO.none _)
   | (with_reducible refine LeO.ite ?_ ?_)
   | (with_reducible refine LeO.bind ?_ (fun _ => ?_))
   | exact ih0 _ _ _ _ _ _ _ _ _ _
   | exact ih1 _ _ _ _ _ _ _
   | exact ih2 _ _ _
   | exact impl_Unpack.mono _ _ _
   | exact laws_eqIntS.mono _ _ _
   | exact laws_eqPackS.mono _ _ _
   | exact laws_heldIntS.mono _ _ _
   | exact laws_markIntS.mono _ _ _
   | exact laws_markPackS.mono _ _ _
   | exact laws_szPackS.mono _ _ _
   | exact laws_toPackS.mono _ _
   | exact spec_Unpack.mono _ _ _
   | exact LeO.none _
   | refine LeO.ite ?_ ?_
   | refine LeO.bind ?_ (fun _ => ?_)
set_option maxHeartbeats 8000000 in
set_option maxRecDepth 100000 in
theorem laws_FnExactUnpack.calls (k : Nat) (A0 : Option Addr) (c0 : Nat) (l0 : List (S152)) (a1 : Int) (r : Bool) (w : World) (hr0 : Kd.C k152 w A0 l0.length l0) (hc0 : l0.length ≤ c0) (h : laws_FnExactUnpack.f k l0 a1 = some r) :
  Calls Try.prog 13 #[.slice A0 l0.length c0, .int .i64 a1] w fun e w' => e = .returned (.bool r) ∧ Below w.heap.size w w' := by
 have HR0 := Aside0.mk hr0
 have HC0 := Aside0.mk hc0
 clear hr0 hc0
 have HB := Aside0.mk (Below.refl w.heap.size w)
 have H : ((laws_szPackS.f k l0 1048576).bind fun t1005 => (if t1005 < 0 then (some true) else ((laws_toPackS.f k l0).bind fun t1006 => ((spec_Unpack.f k t1006 a1).bind fun bt1009 => ((laws_toPackS.f k l0).bind fun t1014 => ((impl_Unpack.f k t1014 a1).bind fun bt1017 => ((laws_eqIntS.f k bt1017.1 bt1009.1).bind fun t1022 => (if t1022 = true then (if bt1017.2.1 = bt1009.2.1 then (laws_FnExactUnpack.j0 k l0 a1 bt1009.1 bt1009.2.1 bt1009.2.2 t1014 bt1017.1 bt1017.2.1 bt1017.2.2 (bt1017.2.2 != bt1009.2.2)) else (laws_FnExactUnpack.j0 k l0 a1 bt1009.1 bt1009.2.1 bt1009.2.2 t1014 bt1017.1 bt1017.2.1 bt1017.2.2 true)) else (laws_FnExactUnpack.j0 k l0 a1 bt1009.1 bt1009.2.1 bt1009.2.2 t1014 bt1017.1 bt1017.2.1 bt1017.2.2 true))))))))) = some r := h
 clear h
 replace H := Option.bind_eq_some_iff.mp H
 obtain ⟨t1005, A30, H⟩ := H
 replace H : (if t1005 < 0 then (some true) else ((laws_toPackS.f k l0).bind fun t1006 => ((spec_Unpack.f k t1006 a1).bind fun bt1009 => ((laws_toPackS.f k l0).bind fun t1014 => ((impl_Unpack.f k t1014 a1).bind fun bt1017 => ((laws_eqIntS.f k bt1017.1 bt1009.1).bind fun t1022 => (if t1022 = true then (if bt1017.2.1 = bt1009.2.1 then (laws_FnExactUnpack.j0 k l0 a1 bt1009.1 bt1009.2.1 bt1009.2.2 t1014 bt1017.1 bt1017.2.1 bt1017.2.2 (bt1017.2.2 != bt1009.2.2)) else (laws_FnExactUnpack.j0 k l0 a1 bt1009.1 bt1009.2.1 bt1009.2.2 t1014 bt1017.1 bt1017.2.1 bt1017.2.2 true)) else (laws_FnExactUnpack.j0 k l0 a1 bt1009.1 bt1009.2.1 bt1009.2.2 t1014 bt1017.1 bt1017.2.1 bt1017.2.2 true)))))))) = some r := H
 have A3 := Aside0.mk A30
 clear A30
 by_cases c4 : t1005 < 0
 ·rw [if_pos c4] at H
  have c4b0 : decide (t1005 < 0) = true := decide_eq_true c4
  clear c4
  obtain rfl := Option.some.inj H
  go_enter Try.func13, Try.ntmps13
  go_wp2_with (first | ((with_reducible refine gate_callee (f := 53) rfl ?_); refine goesL_ (some 21) rfl rfl Try.func53 (by kernel_rfl) rfl #[.slice A0 l0.length c0, .int .i64 1048576] rfl (by (try simp only [List.map_toArray, List.map_cons, List.map_nil]); first | done | rfl | (simp only [List.length_drop, List.length_take]; rfl)) ?_; (with_reducible refine (laws_szPackS.calls k _ _ l0 1048576 t1005 _ ?side1 ?side2 A3.out).mono ?_); (case side1 => repeat (first | exact HR0.out | (with_reducible refine Kd.C_alloc ?_ _) | (with_reducible refine Kd.C_drewN ?_ _) | (with_reducible refine Kd.C_drew ?_))); (case side2 => exact HC0.out); rintro e w5 ⟨rfl, hb⟩; refine ⟨_, rfl, ?_⟩; have n0_ := Aside0.mk (below_step (by repeat (first | (with_reducible first | exact HB.out | apply below_alloc | apply pw_below_drewN | apply below_drew1) | exact HB.out)) hb); clear HB; have HB := n0_; clear n0_; (try clear hb); (try clear hb2); (try clear hk); (try clear hi)))
  go_ret
  exact ⟨by first | rfl | (simp [errW_none, errW_some] <;> rfl) | (simp [*, errW_none, errW_some] <;> rfl), by repeat (first | (with_reducible first | exact HB.out | apply below_alloc | apply pw_below_drewN | apply below_drew1) | exact HB.out)⟩
 ·rw [if_neg c4] at H
  have c4b0 : decide (t1005 < 0) = false := decide_eq_false c4
  clear c4
  replace H := Option.bind_eq_some_iff.mp H
  obtain ⟨t1006, A60, H⟩ := H
  replace H : ((spec_Unpack.f k t1006 a1).bind fun bt1009 => ((laws_toPackS.f k l0).bind fun t1014 => ((impl_Unpack.f k t1014 a1).bind fun bt1017 => ((laws_eqIntS.f k bt1017.1 bt1009.1).bind fun t1022 => (if t1022 = true then (if bt1017.2.1 = bt1009.2.1 then (laws_FnExactUnpack.j0 k l0 a1 bt1009.1 bt1009.2.1 bt1009.2.2 t1014 bt1017.1 bt1017.2.1 bt1017.2.2 (bt1017.2.2 != bt1009.2.2)) else (laws_FnExactUnpack.j0 k l0 a1 bt1009.1 bt1009.2.1 bt1009.2.2 t1014 bt1017.1 bt1017.2.1 bt1017.2.2 true)) else (laws_FnExactUnpack.j0 k l0 a1 bt1009.1 bt1009.2.1 bt1009.2.2 t1014 bt1017.1 bt1017.2.1 bt1017.2.2 true)))))) = some r := H
  have A6 := Aside0.mk A60
  clear A60
  replace H := Option.bind_eq_some_iff.mp H
  obtain ⟨⟨t1009, t1010, t1011⟩, A70, H⟩ := H
  replace H : ((laws_toPackS.f k l0).bind fun t1014 => ((impl_Unpack.f k t1014 a1).bind fun bt1017 => ((laws_eqIntS.f k bt1017.1 t1009).bind fun t1022 => (if t1022 = true then (if bt1017.2.1 = t1010 then (laws_FnExactUnpack.j0 k l0 a1 t1009 t1010 t1011 t1014 bt1017.1 bt1017.2.1 bt1017.2.2 (bt1017.2.2 != t1011)) else (laws_FnExactUnpack.j0 k l0 a1 t1009 t1010 t1011 t1014 bt1017.1 bt1017.2.1 bt1017.2.2 true)) else (laws_FnExactUnpack.j0 k l0 a1 t1009 t1010 t1011 t1014 bt1017.1 bt1017.2.1 bt1017.2.2 true))))) = some r := H
  have A7 := Aside0.mk A70
  clear A70
  replace H := Option.bind_eq_some_iff.mp H
  obtain ⟨t1014, A80, H⟩ := H
  replace H : ((impl_Unpack.f k t1014 a1).bind fun bt1017 => ((laws_eqIntS.f k bt1017.1 t1009).bind fun t1022 => (if t1022 = true then (if bt1017.2.1 = t1010 then (laws_FnExactUnpack.j0 k l0 a1 t1009 t1010 t1011 t1014 bt1017.1 bt1017.2.1 bt1017.2.2 (bt1017.2.2 != t1011)) else (laws_FnExactUnpack.j0 k l0 a1 t1009 t1010 t1011 t1014 bt1017.1 bt1017.2.1 bt1017.2.2 true)) else (laws_FnExactUnpack.j0 k l0 a1 t1009 t1010 t1011 t1014 bt1017.1 bt1017.2.1 bt1017.2.2 true)))) = some r := H
  have A8 := Aside0.mk A80
  clear A80
  replace H := Option.bind_eq_some_iff.mp H
  obtain ⟨⟨t1017, t1018, t1019⟩, A90, H⟩ := H
  replace H : ((laws_eqIntS.f k t1017 t1009).bind fun t1022 => (if t1022 = true then (if t1018 = t1010 then (laws_FnExactUnpack.j0 k l0 a1 t1009 t1010 t1011 t1014 t1017 t1018 t1019 (t1019 != t1011)) else (laws_FnExactUnpack.j0 k l0 a1 t1009 t1010 t1011 t1014 t1017 t1018 t1019 true)) else (laws_FnExactUnpack.j0 k l0 a1 t1009 t1010 t1011 t1014 t1017 t1018 t1019 true))) = some r := H
  have A9 := Aside0.mk A90
  clear A90
  have HC10 := Aside0.mk H
  clear H
  go_enter Try.func13, Try.ntmps13
  go_upto_region 8 with (first | ((with_reducible refine gate_callee (f := 53) rfl ?_); refine goesL_ (some 21) rfl rfl Try.func53 (by kernel_rfl) rfl #[.slice A0 l0.length c0, .int .i64 1048576] rfl (by (try simp only [List.map_toArray, List.map_cons, List.map_nil]); first | done | rfl | (simp only [List.length_drop, List.length_take]; rfl)) ?_; (with_reducible refine (laws_szPackS.calls k _ _ l0 1048576 t1005 _ ?side1 ?side2 A3.out).mono ?_); (case side1 => repeat (first | exact HR0.out | (with_reducible refine Kd.C_alloc ?_ _) | (with_reducible refine Kd.C_drewN ?_ _) | (with_reducible refine Kd.C_drew ?_))); (case side2 => exact HC0.out); rintro e w11 ⟨rfl, hb⟩; refine ⟨_, rfl, ?_⟩; have n0_ := Aside0.mk (below_step (by repeat (first | (with_reducible first | exact HB.out | apply below_alloc | apply pw_below_drewN | apply below_drew1) | exact HB.out)) hb); clear HB; have HB := n0_; clear n0_; (try clear hb); (try clear hb2); (try clear hk); (try clear hi)) | ((with_reducible refine gate_callee (f := 54) rfl ?_); refine goesL_ (some 26) rfl rfl Try.func54 (by kernel_rfl) rfl #[.slice A0 l0.length c0] rfl (by (try simp only [List.map_toArray, List.map_cons, List.map_nil]); first | done | rfl | (simp only [List.length_drop, List.length_take]; rfl)) ?_; (with_reducible refine (laws_toPackS.calls k _ _ l0 t1006 _ ?side1 ?side2 A6.out).mono ?_); (case side1 => repeat (first | exact (Kd.C_below HR0.out HB.out) | (with_reducible refine Kd.C_alloc ?_ _) | (with_reducible refine Kd.C_drewN ?_ _) | (with_reducible refine Kd.C_drew ?_))); (case side2 => exact HC0.out); rintro e w12 ⟨v1007, rfl, ho0, hb⟩; refine ⟨_, rfl, ?_⟩; have n0_ := Aside0.mk (Kd.R_lower ho0 (below_size (by repeat (first | (with_reducible first | exact HB.out | apply below_alloc | apply pw_below_drewN | apply below_drew1) | exact HB.out)))); have n1_ := Aside0.mk (below_step (by repeat (first | (with_reducible first | exact HB.out | apply below_alloc | apply pw_below_drewN | apply below_drew1) | exact HB.out)) hb); clear HB; have HO1008 := n0_; have HB := n1_; clear n0_ n1_; (try clear hb); (try clear hb2); (try clear hk); (try clear hi); (try clear ho0); obtain ⟨Ao13, co13, eo13⟩ := Kd.R_slice HO1008.out; subst eo13) | ((with_reducible refine gate_callee (f := 60) rfl ?_); refine goesL_ (some 28) rfl rfl Try.func60 (by kernel_rfl) rfl #[.slice Ao13 t1006.length co13, .int .i64 a1] rfl (by (try simp only [List.map_toArray, List.map_cons, List.map_nil]); first | done | rfl | (simp only [List.length_drop, List.length_take]; rfl)) ?_; (with_reducible refine (spec_Unpack.calls k _ _ t1006 a1 t1009 t1010 t1011 _ ?side1 ?side2 A7.out).mono ?_); (case side1 => repeat (first | exact (Kd.R_reads' HO1008.out).2.2 | (with_reducible refine Kd.C_alloc ?_ _) | (with_reducible refine Kd.C_drewN ?_ _) | (with_reducible refine Kd.C_drew ?_))); (case side2 => exact (Kd.R_reads' HO1008.out).2.1); rintro e w14 ⟨v1012, rfl, ho0, hb⟩; refine ⟨_, rfl, ?_⟩; have n0_ := Aside0.mk (Kd.R_below (by (with_reducible repeat (first | apply Kd.R_alloc | apply Kd.R_drewN | apply Kd.R_drew)); exact HO1008.out) hb); have n1_ := Aside0.mk (Kd.R_lower ho0 (below_size (by repeat (first | (with_reducible first | exact HB.out | apply below_alloc | apply pw_below_drewN | apply below_drew1) | exact HB.out)))); have n2_ := Aside0.mk (below_step (by repeat (first | (with_reducible first | exact HB.out | apply below_alloc | apply pw_below_drewN | apply below_drew1) | exact HB.out)) hb); clear HO1008; clear HB; have HO1008 := n0_; have HO1013 := n1_; have HB := n2_; clear n0_ n1_ n2_; (try clear hb); (try clear hb2); (try clear hk); (try clear hi); (try clear ho0)) | ((with_reducible refine gate_callee (f := 54) rfl ?_); refine goesL_ (some 33) rfl rfl Try.func54 (by kernel_rfl) rfl #[.slice A0 l0.length c0] rfl (by (try simp only [List.map_toArray, List.map_cons, List.map_nil]); first | done | rfl | (simp only [List.length_drop, List.length_take]; rfl)) ?_; (with_reducible refine (laws_toPackS.calls k _ _ l0 t1014 _ ?side1 ?side2 A8.out).mono ?_); (case side1 => repeat (first | exact (Kd.C_below HR0.out HB.out) | (with_reducible refine Kd.C_alloc ?_ _) | (with_reducible refine Kd.C_drewN ?_ _) | (with_reducible refine Kd.C_drew ?_))); (case side2 => exact HC0.out); rintro e w15 ⟨v1015, rfl, ho0, hb⟩; refine ⟨_, rfl, ?_⟩; have n0_ := Aside0.mk (Kd.R_elder' (by (with_reducible repeat (first | apply Kd.R_alloc | apply Kd.R_drewN | apply Kd.R_drew)); exact HO1008.out) (Kd.R_base ho0) hb); have n1_ := Aside0.mk (Kd.R_below (by (with_reducible repeat (first | apply Kd.R_alloc | apply Kd.R_drewN | apply Kd.R_drew)); exact HO1013.out) hb); have n2_ := Aside0.mk (Kd.R_lower (Kd.R_new' ho0 (Kd.R_lt (by (with_reducible repeat (first | apply Kd.R_alloc | apply Kd.R_drewN | apply Kd.R_drew)); exact HO1008.out))) (below_size (by repeat (first | (with_reducible first | exact HB.out | apply below_alloc | apply pw_below_drewN | apply below_drew1) | exact HB.out)))); have n3_ := Aside0.mk (below_step (by repeat (first | (with_reducible first | exact HB.out | apply below_alloc | apply pw_below_drewN | apply below_drew1) | exact HB.out)) hb); clear HO1008; clear HO1013; clear HB; have HO1008 := n0_; have HO1013 := n1_; have HO1016 := n2_; have HB := n3_; clear n0_ n1_ n2_ n3_; (try clear hb); (try clear hb2); (try clear hk); (try clear hi); (try clear ho0); obtain ⟨Ao16, co16, eo16⟩ := Kd.R_slice HO1016.out; subst eo16) | ((with_reducible refine gate_callee (f := 52) rfl ?_); refine goesL_ (some 37) rfl rfl Try.func52 (by kernel_rfl) rfl #[.slice Ao16 t1014.length co16, .int .i64 a1] rfl (by (try simp only [List.map_toArray, List.map_cons, List.map_nil]); first | done | rfl | (simp only [List.length_drop, List.length_take]; rfl)) ?_; (with_reducible refine (impl_Unpack.calls k _ _ t1014 a1 t1017 t1018 t1019 _ ?side1 ?side2 A9.out).mono ?_); (case side1 => repeat (first | exact (Kd.R_reads' HO1016.out).2.2 | (with_reducible refine Kd.C_alloc ?_ _) | (with_reducible refine Kd.C_drewN ?_ _) | (with_reducible refine Kd.C_drew ?_))); (case side2 => exact (Kd.R_reads' HO1016.out).2.1); rintro e w17 ⟨v1020, rfl, ho0, hb⟩; refine ⟨_, rfl, ?_⟩; have n0_ := Aside0.mk (Kd.R_below (by (with_reducible repeat (first | apply Kd.R_alloc | apply Kd.R_drewN | apply Kd.R_drew)); exact HO1008.out) hb); have n1_ := Aside0.mk (Kd.R_elder' (by (with_reducible repeat (first | apply Kd.R_alloc | apply Kd.R_drewN | apply Kd.R_drew)); exact HO1013.out) (Kd.R_base ho0) hb); have n2_ := Aside0.mk (Kd.R_below (by (with_reducible repeat (first | apply Kd.R_alloc | apply Kd.R_drewN | apply Kd.R_drew)); exact HO1016.out) hb); have n3_ := Aside0.mk (Kd.R_lower (Kd.R_new' ho0 (Kd.R_lt (by (with_reducible repeat (first | apply Kd.R_alloc | apply Kd.R_drewN | apply Kd.R_drew)); exact HO1013.out))) (below_size (by repeat (first | (with_reducible first | exact HB.out | apply below_alloc | apply pw_below_drewN | apply below_drew1) | exact HB.out)))); have n4_ := Aside0.mk (below_step (by repeat (first | (with_reducible first | exact HB.out | apply below_alloc | apply pw_below_drewN | apply below_drew1) | exact HB.out)) hb); clear HO1008; clear HO1013; clear HO1016; clear HB; have HO1008 := n0_; have HO1013 := n1_; have HO1016 := n2_; have HO1021 := n3_; have HB := n4_; clear n0_ n1_ n2_ n3_ n4_; (try clear hb); (try clear hb2); (try clear hk); (try clear hi); (try clear ho0)))
  (try simp only [Act.put, List.setIfInBounds_toArray, List.set_cons_zero, List.set_cons_succ])
  go_cut [54] (fun v54 wc => ∃ (kq : Nat) (x54_9 : Bool), v54 = .bool x54_9 ∧ Aside0 (laws_FnExactUnpack.j0 kq l0 a1 t1009 t1010 t1011 t1014 t1017 t1018 t1019 x54_9 = some r) ∧ Aside0 (kq ≤ k) ∧ Aside0 (Kd.R (Kd.int .i64) 3 wc w.heap.size (fun k_ => some k_ ≠ (v1020 : Value).ownBlock) v1012 t1009) ∧ Aside0 (Kd.R k149 149 wc w.heap.size (fun _ => True) (.slice Ao16 t1014.length co16) t1014) ∧ Aside0 (Kd.R (Kd.int .i64) 3 wc w.heap.size (fun k_ => some k_ ≠ (v1012 : Value).ownBlock) v1020 t1017) ∧ Aside0 (Below w.heap.size w wc))
  case first =>
   have H := HC10.out
   clear HC10
   replace H := Option.bind_eq_some_iff.mp H
   obtain ⟨t1022, A180, H⟩ := H
   replace H : (if t1022 = true then (if t1018 = t1010 then (laws_FnExactUnpack.j0 k l0 a1 t1009 t1010 t1011 t1014 t1017 t1018 t1019 (t1019 != t1011)) else (laws_FnExactUnpack.j0 k l0 a1 t1009 t1010 t1011 t1014 t1017 t1018 t1019 true)) else (laws_FnExactUnpack.j0 k l0 a1 t1009 t1010 t1011 t1014 t1017 t1018 t1019 true)) = some r := H
   have A18 := Aside0.mk A180
   clear A180
   by_cases c19 : t1022 = true
   ·subst c19
    have H1 : (if t1018 = t1010 then (laws_FnExactUnpack.j0 k l0 a1 t1009 t1010 t1011 t1014 t1017 t1018 t1019 (t1019 != t1011)) else (laws_FnExactUnpack.j0 k l0 a1 t1009 t1010 t1011 t1014 t1017 t1018 t1019 true)) = some r := by rw [if_pos rfl] at H; exact H
    clear H
    have H := H1
    clear H1
    by_cases c20 : t1018 = t1010
    ·rw [if_pos c20] at H
     have c20b0 : (t1018 == t1010) = true := beq_iff_eq.mpr c20
     have c20b1 : (t1018 != t1010) = false := bne_eq_false_iff_eq.mpr c20
     clear c20
     (first | rw [c20b0] | (simp only [i64_w, i32_w]; rw [c20b0]) | skip)
     have H' := Aside0.mk H
     clear H
     obtain ⟨Ao21, co21, eo21⟩ := Kd.R_slice HO1021.out
     subst eo21
     obtain ⟨Ao22, co22, eo22⟩ := Kd.R_slice HO1013.out
     subst eo22
     go_wp2_with (first | ((with_reducible refine gate_callee (f := 55) rfl ?_); refine goesL_ (some 43) rfl rfl Try.func55 (by kernel_rfl) rfl #[.slice Ao21 t1017.length co21, .slice Ao22 t1009.length co22] rfl (by (try simp only [List.map_toArray, List.map_cons, List.map_nil]); first | done | rfl | (simp only [List.length_drop, List.length_take]; rfl)) ?_; (with_reducible refine (laws_eqIntS.calls k _ _ t1017 _ _ t1009 true _ ?side1 ?side2 ?side3 ?side4 A18.out).mono ?_); (case side1 => repeat (first | exact (Kd.R_reads' HO1021.out).2.2 | (with_reducible refine Kd.C_alloc ?_ _) | (with_reducible refine Kd.C_drewN ?_ _) | (with_reducible refine Kd.C_drew ?_))); (case side2 => exact (Kd.R_reads' HO1021.out).2.1); (case side3 => repeat (first | exact (Kd.R_reads' HO1013.out).2.2 | (with_reducible refine Kd.C_alloc ?_ _) | (with_reducible refine Kd.C_drewN ?_ _) | (with_reducible refine Kd.C_drew ?_))); (case side4 => exact (Kd.R_reads' HO1013.out).2.1); rintro e w' ⟨rfl, ⟨nd, rfl⟩⟩; refine ⟨_, rfl, ?_⟩))
     go_meet
     case rel => exact ⟨_, ((t1019 != t1011)), (by first | rfl | (simp; done) | (simp [*]; done)), H', ⟨by first | omega | exact Nat.le_refl _⟩, ⟨by (with_reducible repeat (first | apply Kd.R_alloc | apply Kd.R_drewN | apply Kd.R_drew)); exact Kd.R_mono HO1013.out (fun _ hk => hk.2)⟩, ⟨by (with_reducible repeat (first | apply Kd.R_alloc | apply Kd.R_drewN | apply Kd.R_drew)); exact Kd.R_mono HO1016.out (fun _ hk => trivial)⟩, ⟨by (with_reducible repeat (first | apply Kd.R_alloc | apply Kd.R_drewN | apply Kd.R_drew)); exact Kd.R_mono HO1021.out (fun _ hk => hk.2)⟩, ⟨by repeat (first | (with_reducible first | exact HB.out | apply below_alloc | apply pw_below_drewN | apply below_drew1) | exact HB.out)⟩⟩
    ·rw [if_neg c20] at H
     have c20b0 : (t1018 == t1010) = false := beq_eq_false_iff_ne.mpr c20
     have c20b1 : (t1018 != t1010) = true := bne_iff_ne.mpr c20
     (first | rw [c20b0] | (simp only [i64_w, i32_w]; rw [c20b0]) | skip)
     have H' := Aside0.mk H
     clear H
     obtain ⟨Ao23, co23, eo23⟩ := Kd.R_slice HO1021.out
     subst eo23
     obtain ⟨Ao24, co24, eo24⟩ := Kd.R_slice HO1013.out
     subst eo24
     go_wp2_with (first | ((with_reducible refine gate_callee (f := 55) rfl ?_); refine goesL_ (some 43) rfl rfl Try.func55 (by kernel_rfl) rfl #[.slice Ao23 t1017.length co23, .slice Ao24 t1009.length co24] rfl (by (try simp only [List.map_toArray, List.map_cons, List.map_nil]); first | done | rfl | (simp only [List.length_drop, List.length_take]; rfl)) ?_; (with_reducible refine (laws_eqIntS.calls k _ _ t1017 _ _ t1009 true _ ?side1 ?side2 ?side3 ?side4 A18.out).mono ?_); (case side1 => repeat (first | exact (Kd.R_reads' HO1021.out).2.2 | (with_reducible refine Kd.C_alloc ?_ _) | (with_reducible refine Kd.C_drewN ?_ _) | (with_reducible refine Kd.C_drew ?_))); (case side2 => exact (Kd.R_reads' HO1021.out).2.1); (case side3 => repeat (first | exact (Kd.R_reads' HO1013.out).2.2 | (with_reducible refine Kd.C_alloc ?_ _) | (with_reducible refine Kd.C_drewN ?_ _) | (with_reducible refine Kd.C_drew ?_))); (case side4 => exact (Kd.R_reads' HO1013.out).2.1); rintro e w' ⟨rfl, ⟨nd, rfl⟩⟩; refine ⟨_, rfl, ?_⟩))
     go_meet
     case rel => exact ⟨_, (true), (by first | rfl | (simp; done) | (simp [*]; done)), H', ⟨by first | omega | exact Nat.le_refl _⟩, ⟨by (with_reducible repeat (first | apply Kd.R_alloc | apply Kd.R_drewN | apply Kd.R_drew)); exact Kd.R_mono HO1013.out (fun _ hk => hk.2)⟩, ⟨by (with_reducible repeat (first | apply Kd.R_alloc | apply Kd.R_drewN | apply Kd.R_drew)); exact Kd.R_mono HO1016.out (fun _ hk => trivial)⟩, ⟨by (with_reducible repeat (first | apply Kd.R_alloc | apply Kd.R_drewN | apply Kd.R_drew)); exact Kd.R_mono HO1021.out (fun _ hk => hk.2)⟩, ⟨by repeat (first | (with_reducible first | exact HB.out | apply below_alloc | apply pw_below_drewN | apply below_drew1) | exact HB.out)⟩⟩
   ·replace c19 := Bool.eq_false_iff.mpr c19
    subst c19
    have H1 : (laws_FnExactUnpack.j0 k l0 a1 t1009 t1010 t1011 t1014 t1017 t1018 t1019 true) = some r := by rw [if_neg (show ¬ (false = true) by decide)] at H; exact H
    clear H
    have H := H1
    clear H1
    have H' := Aside0.mk H
    clear H
    obtain ⟨Ao25, co25, eo25⟩ := Kd.R_slice HO1021.out
    subst eo25
    obtain ⟨Ao26, co26, eo26⟩ := Kd.R_slice HO1013.out
    subst eo26
    go_wp2_with (first | ((with_reducible refine gate_callee (f := 55) rfl ?_); refine goesL_ (some 43) rfl rfl Try.func55 (by kernel_rfl) rfl #[.slice Ao25 t1017.length co25, .slice Ao26 t1009.length co26] rfl (by (try simp only [List.map_toArray, List.map_cons, List.map_nil]); first | done | rfl | (simp only [List.length_drop, List.length_take]; rfl)) ?_; (with_reducible refine (laws_eqIntS.calls k _ _ t1017 _ _ t1009 false _ ?side1 ?side2 ?side3 ?side4 A18.out).mono ?_); (case side1 => repeat (first | exact (Kd.R_reads' HO1021.out).2.2 | (with_reducible refine Kd.C_alloc ?_ _) | (with_reducible refine Kd.C_drewN ?_ _) | (with_reducible refine Kd.C_drew ?_))); (case side2 => exact (Kd.R_reads' HO1021.out).2.1); (case side3 => repeat (first | exact (Kd.R_reads' HO1013.out).2.2 | (with_reducible refine Kd.C_alloc ?_ _) | (with_reducible refine Kd.C_drewN ?_ _) | (with_reducible refine Kd.C_drew ?_))); (case side4 => exact (Kd.R_reads' HO1013.out).2.1); rintro e w' ⟨rfl, ⟨nd, rfl⟩⟩; refine ⟨_, rfl, ?_⟩))
    go_meet
    case rel => exact ⟨_, (true), (by first | rfl | (simp; done) | (simp [*]; done)), H', ⟨by first | omega | exact Nat.le_refl _⟩, ⟨by (with_reducible repeat (first | apply Kd.R_alloc | apply Kd.R_drewN | apply Kd.R_drew)); exact Kd.R_mono HO1013.out (fun _ hk => hk.2)⟩, ⟨by (with_reducible repeat (first | apply Kd.R_alloc | apply Kd.R_drewN | apply Kd.R_drew)); exact Kd.R_mono HO1016.out (fun _ hk => trivial)⟩, ⟨by (with_reducible repeat (first | apply Kd.R_alloc | apply Kd.R_drewN | apply Kd.R_drew)); exact Kd.R_mono HO1021.out (fun _ hk => hk.2)⟩, ⟨by repeat (first | (with_reducible first | exact HB.out | apply below_alloc | apply pw_below_drewN | apply below_drew1) | exact HB.out)⟩⟩
  case rest =>
   clear HC10
   try clear c1
   try clear c2
   try clear p2
   try clear c4
   try clear c4b0
   try clear c5
   try clear c6
   try clear c13
   try clear c19
   try clear c20
   try clear c20b0
   try clear c20b1
   obtain ⟨kq, x54_9, rfl, HA, HJ9, HO_6, HO_9, HO_10, HB⟩ := hcut
   cases kq with
   | zero => exact absurd HA.out (by simp [laws_FnExactUnpack.j0])
   | succ kj9 =>
    have H := HA.out
    clear HA
    simp only [laws_FnExactUnpack.j0] at H
    by_cases c27 : x54_9 = true
    ·subst c27
     have H1 : (some false) = some r := by rw [if_pos rfl] at H; exact H
     clear H
     have H := H1
     clear H1
     obtain rfl := Option.some.inj H
     go_wp2
     go_ret
     exact ⟨by first | rfl | (simp [errW_none, errW_some] <;> rfl) | (simp [*, errW_none, errW_some] <;> rfl), by repeat (first | (with_reducible first | exact HB.out | apply below_alloc | apply pw_below_drewN | apply below_drew1) | exact HB.out)⟩
    ·replace c27 := Bool.eq_false_iff.mpr c27
     subst c27
     have H1 : ((laws_toPackS.f kj9 l0).bind fun t1023 => ((laws_eqPackS.f kj9 t1014 t1023).bind fun t1026 => (if t1026 = true then ((laws_markPackS.f kj9 t1014 1).bind fun bt1027 => (if bt1027.1 < 0 then (laws_FnExactUnpack.j1 kj9 l0 a1 t1009 t1010 t1011 t1017 true) else ((laws_eqIntS.f kj9 t1017 t1009).bind fun t1029 => (if t1029 = true then (if t1018 = t1010 then (laws_FnExactUnpack.j1 kj9 l0 a1 t1009 t1010 t1011 t1017 (t1019 != t1011)) else (laws_FnExactUnpack.j1 kj9 l0 a1 t1009 t1010 t1011 t1017 true)) else (laws_FnExactUnpack.j1 kj9 l0 a1 t1009 t1010 t1011 t1017 true))))) else (some false)))) = some r := by rw [if_neg (show ¬ (false = true) by decide)] at H; exact H
     clear H
     have H := H1
     clear H1
     replace H := Option.bind_eq_some_iff.mp H
     obtain ⟨t1023, A280, H⟩ := H
     replace H : ((laws_eqPackS.f kj9 t1014 t1023).bind fun t1026 => (if t1026 = true then ((laws_markPackS.f kj9 t1014 1).bind fun bt1027 => (if bt1027.1 < 0 then (laws_FnExactUnpack.j1 kj9 l0 a1 t1009 t1010 t1011 t1017 true) else ((laws_eqIntS.f kj9 t1017 t1009).bind fun t1029 => (if t1029 = true then (if t1018 = t1010 then (laws_FnExactUnpack.j1 kj9 l0 a1 t1009 t1010 t1011 t1017 (t1019 != t1011)) else (laws_FnExactUnpack.j1 kj9 l0 a1 t1009 t1010 t1011 t1017 true)) else (laws_FnExactUnpack.j1 kj9 l0 a1 t1009 t1010 t1011 t1017 true))))) else (some false))) = some r := H
     have A28 := Aside0.mk A280
     clear A280
     replace H := Option.bind_eq_some_iff.mp H
     obtain ⟨t1026, A290, H⟩ := H
     replace H : (if t1026 = true then ((laws_markPackS.f kj9 t1014 1).bind fun bt1027 => (if bt1027.1 < 0 then (laws_FnExactUnpack.j1 kj9 l0 a1 t1009 t1010 t1011 t1017 true) else ((laws_eqIntS.f kj9 t1017 t1009).bind fun t1029 => (if t1029 = true then (if t1018 = t1010 then (laws_FnExactUnpack.j1 kj9 l0 a1 t1009 t1010 t1011 t1017 (t1019 != t1011)) else (laws_FnExactUnpack.j1 kj9 l0 a1 t1009 t1010 t1011 t1017 true)) else (laws_FnExactUnpack.j1 kj9 l0 a1 t1009 t1010 t1011 t1017 true))))) else (some false)) = some r := H
     have A29 := Aside0.mk A290
     clear A290
     by_cases c30 : t1026 = true
     ·subst c30
      have H1 : ((laws_markPackS.f kj9 t1014 1).bind fun bt1027 => (if bt1027.1 < 0 then (laws_FnExactUnpack.j1 kj9 l0 a1 t1009 t1010 t1011 t1017 true) else ((laws_eqIntS.f kj9 t1017 t1009).bind fun t1029 => (if t1029 = true then (if t1018 = t1010 then (laws_FnExactUnpack.j1 kj9 l0 a1 t1009 t1010 t1011 t1017 (t1019 != t1011)) else (laws_FnExactUnpack.j1 kj9 l0 a1 t1009 t1010 t1011 t1017 true)) else (laws_FnExactUnpack.j1 kj9 l0 a1 t1009 t1010 t1011 t1017 true))))) = some r := by rw [if_pos rfl] at H; exact H
      clear H
      have H := H1
      clear H1
      replace H := Option.bind_eq_some_iff.mp H
      obtain ⟨⟨t1027, t1028⟩, A310, H⟩ := H
      replace H : (if t1027 < 0 then (laws_FnExactUnpack.j1 kj9 l0 a1 t1009 t1010 t1011 t1017 true) else ((laws_eqIntS.f kj9 t1017 t1009).bind fun t1029 => (if t1029 = true then (if t1018 = t1010 then (laws_FnExactUnpack.j1 kj9 l0 a1 t1009 t1010 t1011 t1017 (t1019 != t1011)) else (laws_FnExactUnpack.j1 kj9 l0 a1 t1009 t1010 t1011 t1017 true)) else (laws_FnExactUnpack.j1 kj9 l0 a1 t1009 t1010 t1011 t1017 true)))) = some r := H
      have A31 := Aside0.mk A310
      clear A310
      have HC32 := Aside0.mk H
      clear H
      go_upto_region 14 with (first | ((with_reducible refine gate_callee (f := 54) rfl ?_); refine goesL_ (some 57) rfl rfl Try.func54 (by kernel_rfl) rfl #[.slice A0 l0.length c0] rfl (by (try simp only [List.map_toArray, List.map_cons, List.map_nil]); first | done | rfl | (simp only [List.length_drop, List.length_take]; rfl)) ?_; (with_reducible refine (laws_toPackS.calls kj9 _ _ l0 t1023 _ ?side1 ?side2 A28.out).mono ?_); (case side1 => repeat (first | exact (Kd.C_below HR0.out HB.out) | (with_reducible refine Kd.C_alloc ?_ _) | (with_reducible refine Kd.C_drewN ?_ _) | (with_reducible refine Kd.C_drew ?_))); (case side2 => exact HC0.out); rintro e w33 ⟨v1024, rfl, ho0, hb⟩; refine ⟨_, rfl, ?_⟩; have n0_ := Aside0.mk (Kd.R_below (by (with_reducible repeat (first | apply Kd.R_alloc | apply Kd.R_drewN | apply Kd.R_drew)); exact HO_6.out) hb); have n1_ := Aside0.mk (Kd.R_elder' (by (with_reducible repeat (first | apply Kd.R_alloc | apply Kd.R_drewN | apply Kd.R_drew)); exact HO_9.out) (Kd.R_base ho0) hb); have n2_ := Aside0.mk (Kd.R_below (by (with_reducible repeat (first | apply Kd.R_alloc | apply Kd.R_drewN | apply Kd.R_drew)); exact HO_10.out) hb); have n3_ := Aside0.mk (Kd.R_lower (Kd.R_new' ho0 (Kd.R_lt (by (with_reducible repeat (first | apply Kd.R_alloc | apply Kd.R_drewN | apply Kd.R_drew)); exact HO_9.out))) (below_size (by repeat (first | (with_reducible first | exact HB.out | apply below_alloc | apply pw_below_drewN | apply below_drew1) | exact HB.out)))); have n4_ := Aside0.mk (below_step (by repeat (first | (with_reducible first | exact HB.out | apply below_alloc | apply pw_below_drewN | apply below_drew1) | exact HB.out)) hb); clear HO_6; clear HO_9; clear HO_10; clear HB; have HO_6 := n0_; have HO_9 := n1_; have HO_10 := n2_; have HO1025 := n3_; have HB := n4_; clear n0_ n1_ n2_ n3_ n4_; (try clear hb); (try clear hb2); (try clear hk); (try clear hi); (try clear ho0); obtain ⟨Ao34, co34, eo34⟩ := Kd.R_slice HO1025.out; subst eo34) | ((with_reducible refine gate_callee (f := 56) rfl ?_); refine goesL_ (some 58) rfl rfl Try.func56 (by kernel_rfl) rfl #[.slice Ao16 t1014.length co16, .slice Ao34 t1023.length co34] rfl (by (try simp only [List.map_toArray, List.map_cons, List.map_nil]); first | done | rfl | (simp only [List.length_drop, List.length_take]; rfl)) ?_; (with_reducible refine (laws_eqPackS.calls kj9 _ _ t1014 _ _ t1023 true _ ?side1 ?side2 ?side3 ?side4 A29.out).mono ?_); (case side1 => repeat (first | exact (Kd.R_reads' HO_9.out).2.2 | (with_reducible refine Kd.C_alloc ?_ _) | (with_reducible refine Kd.C_drewN ?_ _) | (with_reducible refine Kd.C_drew ?_))); (case side2 => exact (Kd.R_reads' HO_9.out).2.1); (case side3 => repeat (first | exact (Kd.R_reads' HO1025.out).2.2 | (with_reducible refine Kd.C_alloc ?_ _) | (with_reducible refine Kd.C_drewN ?_ _) | (with_reducible refine Kd.C_drew ?_))); (case side4 => exact (Kd.R_reads' HO1025.out).2.1); rintro e w35 ⟨rfl, hb⟩; refine ⟨_, rfl, ?_⟩; have n0_ := Aside0.mk (Kd.R_below (by (with_reducible repeat (first | apply Kd.R_alloc | apply Kd.R_drewN | apply Kd.R_drew)); exact HO_6.out) hb); have n1_ := Aside0.mk (Kd.R_below (by (with_reducible repeat (first | apply Kd.R_alloc | apply Kd.R_drewN | apply Kd.R_drew)); exact HO_9.out) hb); have n2_ := Aside0.mk (Kd.R_below (by (with_reducible repeat (first | apply Kd.R_alloc | apply Kd.R_drewN | apply Kd.R_drew)); exact HO_10.out) hb); have n3_ := Aside0.mk (Kd.R_below (by (with_reducible repeat (first | apply Kd.R_alloc | apply Kd.R_drewN | apply Kd.R_drew)); exact HO1025.out) hb); have n4_ := Aside0.mk (below_step (by repeat (first | (with_reducible first | exact HB.out | apply below_alloc | apply pw_below_drewN | apply below_drew1) | exact HB.out)) hb); clear HO_6; clear HO_9; clear HO_10; clear HO1025; clear HB; have HO_6 := n0_; have HO_9 := n1_; have HO_10 := n2_; have HO1025 := n3_; have HB := n4_; clear n0_ n1_ n2_ n3_ n4_; (try clear hb); (try clear hb2); (try clear hk); (try clear hi)) | ((with_reducible refine gate_callee (f := 57) rfl ?_); refine goesL_ (some 62) rfl rfl Try.func57 (by kernel_rfl) rfl #[.slice Ao16 t1014.length co16, .int .i64 1] rfl (by (try simp only [List.map_toArray, List.map_cons, List.map_nil]); first | done | rfl | (simp only [List.length_drop, List.length_take]; rfl)) ?_; (with_reducible refine (laws_markPackS.calls kj9 (fun k_ => some k_ = (.slice Ao16 t1014.length co16 : Value).ownBlock) (.slice Ao16 t1014.length co16) t1014 1 t1027 t1028 w _ ?side1 ?side2 A31.out).mono ?_); (case side1 => repeat (first | (with_reducible first | exact HB.out | apply below_alloc | apply pw_below_drewN | apply below_drew1) | exact HB.out)); (case side2 => exact Kd.R_tight rfl HO_9.out); rintro e w36 ⟨rfl, hy0, hb, hkp⟩; refine ⟨_, rfl, ?_⟩; have n0_ := Aside0.mk (Kd.R_mono (ok' := fun k_ => some k_ ≠ (v1020 : Value).ownBlock) (Kd.R_keptB ((Kd.R_apart' HO_6.out (Kd.R_typed HO_9.out) (by decide))) hkp (fun k_ hk_ hs_ => (hk_.2) hs_)) (fun k_ hk_ => hk_.1.1)); have n1_ := Aside0.mk (Kd.R_reok rfl hy0 (fun k_ e_ => HO_9.out.1 k_ e_)); have n2_ := Aside0.mk (Kd.R_mono (ok' := fun k_ => some k_ ≠ (v1012 : Value).ownBlock) (Kd.R_keptB ((Kd.R_apart' HO_10.out (Kd.R_typed HO_9.out) (by decide))) hkp (fun k_ hk_ hs_ => (hk_.2) hs_)) (fun k_ hk_ => hk_.1.1)); have n3_ := Aside0.mk (Kd.R_mono (ok' := fun k_ => some k_ ≠ (.slice Ao16 t1014.length co16 : Value).ownBlock) (Kd.R_keptB (HO1025.out) hkp (fun k_ hk_ hs_ => (hk_.2) hs_)) (fun k_ hk_ => hk_.1.2)); have n4_ := Aside0.mk (hb); clear HO_6; clear HO_9; clear HO_10; clear HO1025; clear HB; have HO_6 := n0_; have HO_9 := n1_; have HO_10 := n2_; have HO1025 := n3_; have HB := n4_; clear n0_ n1_ n2_ n3_ n4_; (try clear hb); (try clear hkp); (try clear hy0)))
      (try simp only [Act.put, List.setIfInBounds_toArray, List.set_cons_zero, List.set_cons_succ])
      go_cut [80] (fun v80 wc => ∃ (kq : Nat) (x80_31 : Bool), v80 = .bool x80_31 ∧ Aside0 (laws_FnExactUnpack.j1 kq l0 a1 t1009 t1010 t1011 t1017 x80_31 = some r) ∧ Aside0 (kq ≤ kj9) ∧ Aside0 (Kd.R (Kd.int .i64) 3 wc w.heap.size (fun k_ => some k_ ≠ (v1020 : Value).ownBlock) v1012 t1009) ∧ Aside0 (Kd.R (Kd.int .i64) 3 wc w.heap.size (fun k_ => some k_ ≠ (v1012 : Value).ownBlock) v1020 t1017) ∧ Aside0 (Below w.heap.size w wc))
      case first =>
       have H := HC32.out
       clear HC32
       by_cases c37 : t1027 < 0
       ·rw [if_pos c37] at H
        have c37b0 : decide (t1027 < 0) = true := decide_eq_true c37
        clear c37
        (first | rw [c37b0] | (simp only [i64_w, i32_w]; rw [c37b0]) | skip)
        have H' := Aside0.mk H
        clear H
        go_wp2
        go_meet
        case rel => exact ⟨_, (true), (by first | rfl | (simp; done) | (simp [*]; done)), H', ⟨by have := HJ9.out; first | omega | exact Nat.le_refl _⟩, ⟨by (with_reducible repeat (first | apply Kd.R_alloc | apply Kd.R_drewN | apply Kd.R_drew)); exact HO_6.out⟩, ⟨by (with_reducible repeat (first | apply Kd.R_alloc | apply Kd.R_drewN | apply Kd.R_drew)); exact HO_10.out⟩, ⟨by repeat (first | (with_reducible first | exact HB.out | apply below_alloc | apply pw_below_drewN | apply below_drew1) | exact HB.out)⟩⟩
       ·rw [if_neg c37] at H
        have c37b0 : decide (t1027 < 0) = false := decide_eq_false c37
        clear c37
        (first | rw [c37b0] | (simp only [i64_w, i32_w]; rw [c37b0]) | skip)
        replace H := Option.bind_eq_some_iff.mp H
        obtain ⟨t1029, A380, H⟩ := H
        replace H : (if t1029 = true then (if t1018 = t1010 then (laws_FnExactUnpack.j1 kj9 l0 a1 t1009 t1010 t1011 t1017 (t1019 != t1011)) else (laws_FnExactUnpack.j1 kj9 l0 a1 t1009 t1010 t1011 t1017 true)) else (laws_FnExactUnpack.j1 kj9 l0 a1 t1009 t1010 t1011 t1017 true)) = some r := H
        have A38 := Aside0.mk A380
        clear A380
        by_cases c39 : t1029 = true
        ·subst c39
         have H1 : (if t1018 = t1010 then (laws_FnExactUnpack.j1 kj9 l0 a1 t1009 t1010 t1011 t1017 (t1019 != t1011)) else (laws_FnExactUnpack.j1 kj9 l0 a1 t1009 t1010 t1011 t1017 true)) = some r := by rw [if_pos rfl] at H; exact H
         clear H
         have H := H1
         clear H1
         by_cases c40 : t1018 = t1010
         ·rw [if_pos c40] at H
          have c40b0 : (t1018 == t1010) = true := beq_iff_eq.mpr c40
          have c40b1 : (t1018 != t1010) = false := bne_eq_false_iff_eq.mpr c40
          clear c40
          have H' := Aside0.mk H
          clear H
          obtain ⟨Ao41, co41, eo41⟩ := Kd.R_slice HO_10.out
          subst eo41
          obtain ⟨Ao42, co42, eo42⟩ := Kd.R_slice HO_6.out
          subst eo42
          go_wp2_with (first | (go_at_call 55; (with_reducible refine (laws_eqIntS.calls kj9 _ _ t1017 _ _ t1009 true _ ?side1 ?side2 ?side3 ?side4 A38.out).mono ?_); (case side1 => repeat (first | exact (Kd.R_reads' HO_10.out).2.2 | (with_reducible refine Kd.C_alloc ?_ _) | (with_reducible refine Kd.C_drewN ?_ _) | (with_reducible refine Kd.C_drew ?_))); (case side2 => exact (Kd.R_reads' HO_10.out).2.1); (case side3 => repeat (first | exact (Kd.R_reads' HO_6.out).2.2 | (with_reducible refine Kd.C_alloc ?_ _) | (with_reducible refine Kd.C_drewN ?_ _) | (with_reducible refine Kd.C_drew ?_))); (case side4 => exact (Kd.R_reads' HO_6.out).2.1); rintro e w' ⟨rfl, ⟨nd, rfl⟩⟩))
          go_meet
          case rel => exact ⟨_, ((t1019 != t1011)), (by first | rfl | (simp; done) | (simp [*]; done)), H', ⟨by have := HJ9.out; first | omega | exact Nat.le_refl _⟩, ⟨by (with_reducible repeat (first | apply Kd.R_alloc | apply Kd.R_drewN | apply Kd.R_drew)); exact HO_6.out⟩, ⟨by (with_reducible repeat (first | apply Kd.R_alloc | apply Kd.R_drewN | apply Kd.R_drew)); exact HO_10.out⟩, ⟨by repeat (first | (with_reducible first | exact HB.out | apply below_alloc | apply pw_below_drewN | apply below_drew1) | exact HB.out)⟩⟩
         ·rw [if_neg c40] at H
          have c40b0 : (t1018 == t1010) = false := beq_eq_false_iff_ne.mpr c40
          have c40b1 : (t1018 != t1010) = true := bne_iff_ne.mpr c40
          have H' := Aside0.mk H
          clear H
          obtain ⟨Ao43, co43, eo43⟩ := Kd.R_slice HO_10.out
          subst eo43
          obtain ⟨Ao44, co44, eo44⟩ := Kd.R_slice HO_6.out
          subst eo44
          go_wp2_with (first | (go_at_call 55; (with_reducible refine (laws_eqIntS.calls kj9 _ _ t1017 _ _ t1009 true _ ?side1 ?side2 ?side3 ?side4 A38.out).mono ?_); (case side1 => repeat (first | exact (Kd.R_reads' HO_10.out).2.2 | (with_reducible refine Kd.C_alloc ?_ _) | (with_reducible refine Kd.C_drewN ?_ _) | (with_reducible refine Kd.C_drew ?_))); (case side2 => exact (Kd.R_reads' HO_10.out).2.1); (case side3 => repeat (first | exact (Kd.R_reads' HO_6.out).2.2 | (with_reducible refine Kd.C_alloc ?_ _) | (with_reducible refine Kd.C_drewN ?_ _) | (with_reducible refine Kd.C_drew ?_))); (case side4 => exact (Kd.R_reads' HO_6.out).2.1); rintro e w' ⟨rfl, ⟨nd, rfl⟩⟩))
          go_meet
          case rel => exact ⟨_, (true), (by first | rfl | (simp; done) | (simp [*]; done)), H', ⟨by have := HJ9.out; first | omega | exact Nat.le_refl _⟩, ⟨by (with_reducible repeat (first | apply Kd.R_alloc | apply Kd.R_drewN | apply Kd.R_drew)); exact HO_6.out⟩, ⟨by (with_reducible repeat (first | apply Kd.R_alloc | apply Kd.R_drewN | apply Kd.R_drew)); exact HO_10.out⟩, ⟨by repeat (first | (with_reducible first | exact HB.out | apply below_alloc | apply pw_below_drewN | apply below_drew1) | exact HB.out)⟩⟩
        ·replace c39 := Bool.eq_false_iff.mpr c39
         subst c39
         have H1 : (laws_FnExactUnpack.j1 kj9 l0 a1 t1009 t1010 t1011 t1017 true) = some r := by rw [if_neg (show ¬ (false = true) by decide)] at H; exact H
         clear H
         have H := H1
         clear H1
         have H' := Aside0.mk H
         clear H
         obtain ⟨Ao45, co45, eo45⟩ := Kd.R_slice HO_10.out
         subst eo45
         obtain ⟨Ao46, co46, eo46⟩ := Kd.R_slice HO_6.out
         subst eo46
         go_wp2_with (first | (go_at_call 55; (with_reducible refine (laws_eqIntS.calls kj9 _ _ t1017 _ _ t1009 false _ ?side1 ?side2 ?side3 ?side4 A38.out).mono ?_); (case side1 => repeat (first | exact (Kd.R_reads' HO_10.out).2.2 | (with_reducible refine Kd.C_alloc ?_ _) | (with_reducible refine Kd.C_drewN ?_ _) | (with_reducible refine Kd.C_drew ?_))); (case side2 => exact (Kd.R_reads' HO_10.out).2.1); (case side3 => repeat (first | exact (Kd.R_reads' HO_6.out).2.2 | (with_reducible refine Kd.C_alloc ?_ _) | (with_reducible refine Kd.C_drewN ?_ _) | (with_reducible refine Kd.C_drew ?_))); (case side4 => exact (Kd.R_reads' HO_6.out).2.1); rintro e w' ⟨rfl, ⟨nd, rfl⟩⟩))
         go_meet
         case rel => exact ⟨_, (true), (by first | rfl | (simp; done) | (simp [*]; done)), H', ⟨by have := HJ9.out; first | omega | exact Nat.le_refl _⟩, ⟨by (with_reducible repeat (first | apply Kd.R_alloc | apply Kd.R_drewN | apply Kd.R_drew)); exact HO_6.out⟩, ⟨by (with_reducible repeat (first | apply Kd.R_alloc | apply Kd.R_drewN | apply Kd.R_drew)); exact HO_10.out⟩, ⟨by repeat (first | (with_reducible first | exact HB.out | apply below_alloc | apply pw_below_drewN | apply below_drew1) | exact HB.out)⟩⟩
      case rest =>
       clear HC32
       try clear c1
       try clear c2
       try clear p2
       try clear c3
       try clear c4
       try clear c4b0
       try clear c5
       try clear c6
       try clear c13
       try clear c19
       try clear c20
       try clear c20b0
       try clear c20b1
       try clear c27
       try clear c30
       try clear c37
       try clear c37b0
       try clear c39
       try clear c40
       try clear c40b0
       try clear c40b1
       try clear p2
       obtain ⟨kq, x80_31, rfl, HA, HJ31, HO_6, HO_10, HB⟩ := hcut
       cases kq with
       | zero => exact absurd HA.out (by simp [laws_FnExactUnpack.j1])
       | succ kj31 =>
        have H := HA.out
        clear HA
        simp only [laws_FnExactUnpack.j1] at H
        by_cases c47 : x80_31 = true
        ·subst c47
         have H1 : (some false) = some r := by rw [if_pos rfl] at H; exact H
         clear H
         have H := H1
         clear H1
         obtain rfl := Option.some.inj H
         go_wp2
         go_ret
         exact ⟨by first | rfl | (simp [errW_none, errW_some] <;> rfl) | (simp [*, errW_none, errW_some] <;> rfl), by repeat (first | (with_reducible first | exact HB.out | apply below_alloc | apply pw_below_drewN | apply below_drew1) | exact HB.out)⟩
        ·replace c47 := Bool.eq_false_iff.mpr c47
         subst c47
         have H1 : ((laws_markIntS.f kj31 t1017 1).bind fun bt1030 => ((laws_heldIntS.f kj31 bt1030.2 1).bind fun t1032 => (if t1032 < 0 then (some false) else (if t1032 = bt1030.1 then ((laws_toPackS.f kj31 l0).bind fun t1033 => ((impl_Unpack.f kj31 t1033 a1).bind fun bt1036 => ((laws_eqIntS.f kj31 bt1036.1 t1009).bind fun t1041 => (if t1041 = true then (if bt1036.2.1 = t1010 then (laws_FnExactUnpack.j2 kj31 bt1030.2 bt1030.1 (bt1036.2.2 != t1011)) else (laws_FnExactUnpack.j2 kj31 bt1030.2 bt1030.1 true)) else (laws_FnExactUnpack.j2 kj31 bt1030.2 bt1030.1 true))))) else (some false))))) = some r := by rw [if_neg (show ¬ (false = true) by decide)] at H; exact H
         clear H
         have H := H1
         clear H1
         replace H := Option.bind_eq_some_iff.mp H
         obtain ⟨⟨t1030, t1031⟩, A480, H⟩ := H
         replace H : ((laws_heldIntS.f kj31 t1031 1).bind fun t1032 => (if t1032 < 0 then (some false) else (if t1032 = t1030 then ((laws_toPackS.f kj31 l0).bind fun t1033 => ((impl_Unpack.f kj31 t1033 a1).bind fun bt1036 => ((laws_eqIntS.f kj31 bt1036.1 t1009).bind fun t1041 => (if t1041 = true then (if bt1036.2.1 = t1010 then (laws_FnExactUnpack.j2 kj31 t1031 t1030 (bt1036.2.2 != t1011)) else (laws_FnExactUnpack.j2 kj31 t1031 t1030 true)) else (laws_FnExactUnpack.j2 kj31 t1031 t1030 true))))) else (some false)))) = some r := H
         have A48 := Aside0.mk A480
         clear A480
         replace H := Option.bind_eq_some_iff.mp H
         obtain ⟨t1032, A490, H⟩ := H
         replace H : (if t1032 < 0 then (some false) else (if t1032 = t1030 then ((laws_toPackS.f kj31 l0).bind fun t1033 => ((impl_Unpack.f kj31 t1033 a1).bind fun bt1036 => ((laws_eqIntS.f kj31 bt1036.1 t1009).bind fun t1041 => (if t1041 = true then (if bt1036.2.1 = t1010 then (laws_FnExactUnpack.j2 kj31 t1031 t1030 (bt1036.2.2 != t1011)) else (laws_FnExactUnpack.j2 kj31 t1031 t1030 true)) else (laws_FnExactUnpack.j2 kj31 t1031 t1030 true))))) else (some false))) = some r := H
         have A49 := Aside0.mk A490
         clear A490
         by_cases c50 : t1032 < 0
         ·rw [if_pos c50] at H
          have c50b0 : decide (t1032 < 0) = true := decide_eq_true c50
          clear c50
          obtain rfl := Option.some.inj H
          obtain ⟨Ao51, co51, eo51⟩ := Kd.R_slice HO_10.out
          subst eo51
          go_wp2_with (first | ((with_reducible refine gate_callee (f := 58) rfl ?_); refine goesL_ (some 83) rfl rfl Try.func58 (by kernel_rfl) rfl #[.slice Ao51 t1017.length co51, .int .i64 1] rfl (by (try simp only [List.map_toArray, List.map_cons, List.map_nil]); first | done | rfl | (simp only [List.length_drop, List.length_take]; rfl)) ?_; (with_reducible refine (laws_markIntS.calls kj31 (fun k_ => some k_ = (.slice Ao51 t1017.length co51 : Value).ownBlock) (.slice Ao51 t1017.length co51) t1017 1 t1030 t1031 w _ ?side1 ?side2 A48.out).mono ?_); (case side1 => repeat (first | (with_reducible first | exact HB.out | apply below_alloc | apply pw_below_drewN | apply below_drew1) | exact HB.out)); (case side2 => exact Kd.R_tight rfl HO_10.out); rintro e w52 ⟨rfl, hy0, hb, hkp⟩; refine ⟨_, rfl, ?_⟩; have n0_ := Aside0.mk (Kd.R_mono (ok' := fun k_ => some k_ ≠ (.slice Ao51 t1017.length co51 : Value).ownBlock) (Kd.R_keptB (HO_6.out) hkp (fun k_ hk_ hs_ => (hk_) hs_)) (fun k_ hk_ => hk_.1)); have n1_ := Aside0.mk (Kd.R_reok rfl hy0 (fun k_ e_ => HO_10.out.1 k_ e_)); have n2_ := Aside0.mk (hb); clear HO_6; clear HO_10; clear HB; have HO_6 := n0_; have HO_10 := n1_; have HB := n2_; clear n0_ n1_ n2_; (try clear hb); (try clear hkp); (try clear hy0)) | ((with_reducible refine gate_callee (f := 59) rfl ?_); refine goesL_ (some 86) rfl rfl Try.func59 (by kernel_rfl) rfl #[.slice Ao51 t1031.length co51, .int .i64 1] rfl (by (try simp only [List.map_toArray, List.map_cons, List.map_nil]); first | done | (rw [show t1031.length = t1017.length from (Kd.R_reads' HO_10.out).1.symm] <;> rfl) | rfl | (simp only [List.length_drop, List.length_take]; rfl)) ?_; (with_reducible refine (laws_heldIntS.calls kj31 _ _ t1031 1 t1032 _ ?side1 ?side2 A49.out).mono ?_); (case side1 => repeat (first | exact (Kd.R_reads' HO_10.out).2.2 | (with_reducible refine Kd.C_alloc ?_ _) | (with_reducible refine Kd.C_drewN ?_ _) | (with_reducible refine Kd.C_drew ?_))); (case side2 => rw [show t1031.length = t1017.length from (Kd.R_reads' HO_10.out).1.symm]; exact (Kd.R_reads' HO_10.out).2.1); rintro e w' ⟨rfl, ⟨nd, rfl⟩⟩; refine ⟨_, rfl, ?_⟩))
          go_ret
          exact ⟨by first | rfl | (simp [errW_none, errW_some] <;> rfl) | (simp [*, errW_none, errW_some] <;> rfl), by repeat (first | (with_reducible first | exact HB.out | apply below_alloc | apply pw_below_drewN | apply below_drew1) | exact HB.out)⟩
         ·rw [if_neg c50] at H
          have c50b0 : decide (t1032 < 0) = false := decide_eq_false c50
          clear c50
          by_cases c53 : t1032 = t1030
          ·rw [if_pos c53] at H
           have c53b0 : (t1032 == t1030) = true := beq_iff_eq.mpr c53
           have c53b1 : (t1032 != t1030) = false := bne_eq_false_iff_eq.mpr c53
           clear c53
           replace H := Option.bind_eq_some_iff.mp H
           obtain ⟨t1033, A540, H⟩ := H
           replace H : ((impl_Unpack.f kj31 t1033 a1).bind fun bt1036 => ((laws_eqIntS.f kj31 bt1036.1 t1009).bind fun t1041 => (if t1041 = true then (if bt1036.2.1 = t1010 then (laws_FnExactUnpack.j2 kj31 t1031 t1030 (bt1036.2.2 != t1011)) else (laws_FnExactUnpack.j2 kj31 t1031 t1030 true)) else (laws_FnExactUnpack.j2 kj31 t1031 t1030 true)))) = some r := H
           have A54 := Aside0.mk A540
           clear A540
           replace H := Option.bind_eq_some_iff.mp H
           obtain ⟨⟨t1036, t1037, t1038⟩, A550, H⟩ := H
           replace H : ((laws_eqIntS.f kj31 t1036 t1009).bind fun t1041 => (if t1041 = true then (if t1037 = t1010 then (laws_FnExactUnpack.j2 kj31 t1031 t1030 (t1038 != t1011)) else (laws_FnExactUnpack.j2 kj31 t1031 t1030 true)) else (laws_FnExactUnpack.j2 kj31 t1031 t1030 true))) = some r := H
           have A55 := Aside0.mk A550
           clear A550
           have HC56 := Aside0.mk H
           clear H
           obtain ⟨Ao57, co57, eo57⟩ := Kd.R_slice HO_10.out
           subst eo57
           go_upto_region 25 with (first | ((with_reducible refine gate_callee (f := 58) rfl ?_); refine goesL_ (some 83) rfl rfl Try.func58 (by kernel_rfl) rfl #[.slice Ao57 t1017.length co57, .int .i64 1] rfl (by (try simp only [List.map_toArray, List.map_cons, List.map_nil]); first | done | rfl | (simp only [List.length_drop, List.length_take]; rfl)) ?_; (with_reducible refine (laws_markIntS.calls kj31 (fun k_ => some k_ = (.slice Ao57 t1017.length co57 : Value).ownBlock) (.slice Ao57 t1017.length co57) t1017 1 t1030 t1031 w _ ?side1 ?side2 A48.out).mono ?_); (case side1 => repeat (first | (with_reducible first | exact HB.out | apply below_alloc | apply pw_below_drewN | apply below_drew1) | exact HB.out)); (case side2 => exact Kd.R_tight rfl HO_10.out); rintro e w58 ⟨rfl, hy0, hb, hkp⟩; refine ⟨_, rfl, ?_⟩; have n0_ := Aside0.mk (Kd.R_mono (ok' := fun k_ => some k_ ≠ (.slice Ao57 t1017.length co57 : Value).ownBlock) (Kd.R_keptB (HO_6.out) hkp (fun k_ hk_ hs_ => (hk_) hs_)) (fun k_ hk_ => hk_.1)); have n1_ := Aside0.mk (Kd.R_reok rfl hy0 (fun k_ e_ => HO_10.out.1 k_ e_)); have n2_ := Aside0.mk (hb); clear HO_6; clear HO_10; clear HB; have HO_6 := n0_; have HO_10 := n1_; have HB := n2_; clear n0_ n1_ n2_; (try clear hb); (try clear hkp); (try clear hy0)) | ((with_reducible refine gate_callee (f := 59) rfl ?_); refine goesL_ (some 86) rfl rfl Try.func59 (by kernel_rfl) rfl #[.slice Ao57 t1031.length co57, .int .i64 1] rfl (by (try simp only [List.map_toArray, List.map_cons, List.map_nil]); first | done | (rw [show t1031.length = t1017.length from (Kd.R_reads' HO_10.out).1.symm] <;> rfl) | rfl | (simp only [List.length_drop, List.length_take]; rfl)) ?_; (with_reducible refine (laws_heldIntS.calls kj31 _ _ t1031 1 t1032 _ ?side1 ?side2 A49.out).mono ?_); (case side1 => repeat (first | exact (Kd.R_reads' HO_10.out).2.2 | (with_reducible refine Kd.C_alloc ?_ _) | (with_reducible refine Kd.C_drewN ?_ _) | (with_reducible refine Kd.C_drew ?_))); (case side2 => rw [show t1031.length = t1017.length from (Kd.R_reads' HO_10.out).1.symm]; exact (Kd.R_reads' HO_10.out).2.1); rintro e w' ⟨rfl, ⟨nd, rfl⟩⟩; refine ⟨_, rfl, ?_⟩) | ((with_reducible refine gate_callee (f := 54) rfl ?_); refine goesL_ (some 94) rfl rfl Try.func54 (by kernel_rfl) rfl #[.slice A0 l0.length c0] rfl (by (try simp only [List.map_toArray, List.map_cons, List.map_nil]); first | done | rfl | (simp only [List.length_drop, List.length_take]; rfl)) ?_; (with_reducible refine (laws_toPackS.calls kj31 _ _ l0 t1033 _ ?side1 ?side2 A54.out).mono ?_); (case side1 => repeat (first | exact (Kd.C_below HR0.out (by repeat (first | (with_reducible first | exact HB.out | apply below_alloc | apply pw_below_drewN | apply below_drew1) | exact HB.out))) | (with_reducible refine Kd.C_alloc ?_ _) | (with_reducible refine Kd.C_drewN ?_ _) | (with_reducible refine Kd.C_drew ?_))); (case side2 => exact HC0.out); rintro e w59 ⟨v1034, rfl, ho0, hb⟩; refine ⟨_, rfl, ?_⟩; have n0_ := Aside0.mk (Kd.R_below (by (with_reducible repeat (first | apply Kd.R_alloc | apply Kd.R_drewN | apply Kd.R_drew)); exact HO_6.out) hb); have n1_ := Aside0.mk (Kd.R_below (by (with_reducible repeat (first | apply Kd.R_alloc | apply Kd.R_drewN | apply Kd.R_drew)); exact HO_10.out) hb); have n2_ := Aside0.mk (Kd.R_lower ho0 (below_size (by repeat (first | (with_reducible first | exact HB.out | apply below_alloc | apply pw_below_drewN | apply below_drew1) | exact HB.out)))); have n3_ := Aside0.mk (below_step (by repeat (first | (with_reducible first | exact HB.out | apply below_alloc | apply pw_below_drewN | apply below_drew1) | exact HB.out)) hb); clear HO_6; clear HO_10; clear HB; have HO_6 := n0_; have HO_10 := n1_; have HO1035 := n2_; have HB := n3_; clear n0_ n1_ n2_ n3_; (try clear hb); (try clear hb2); (try clear hk); (try clear hi); (try clear ho0); obtain ⟨Ao60, co60, eo60⟩ := Kd.R_slice HO1035.out; subst eo60) | ((with_reducible refine gate_callee (f := 52) rfl ?_); refine goesL_ (some 96) rfl rfl Try.func52 (by kernel_rfl) rfl #[.slice Ao60 t1033.length co60, .int .i64 a1] rfl (by (try simp only [List.map_toArray, List.map_cons, List.map_nil]); first | done | rfl | (simp only [List.length_drop, List.length_take]; rfl)) ?_; (with_reducible refine (impl_Unpack.calls kj31 _ _ t1033 a1 t1036 t1037 t1038 _ ?side1 ?side2 A55.out).mono ?_); (case side1 => repeat (first | exact (Kd.R_reads' HO1035.out).2.2 | (with_reducible refine Kd.C_alloc ?_ _) | (with_reducible refine Kd.C_drewN ?_ _) | (with_reducible refine Kd.C_drew ?_))); (case side2 => exact (Kd.R_reads' HO1035.out).2.1); rintro e w61 ⟨v1039, rfl, ho0, hb⟩; refine ⟨_, rfl, ?_⟩; have n0_ := Aside0.mk (Kd.R_elder' (by (with_reducible repeat (first | apply Kd.R_alloc | apply Kd.R_drewN | apply Kd.R_drew)); exact HO_6.out) (Kd.R_base ho0) hb); have n1_ := Aside0.mk (Kd.R_elder' (by (with_reducible repeat (first | apply Kd.R_alloc | apply Kd.R_drewN | apply Kd.R_drew)); exact HO_10.out) (Kd.R_base ho0) hb); have n2_ := Aside0.mk (Kd.R_below (by (with_reducible repeat (first | apply Kd.R_alloc | apply Kd.R_drewN | apply Kd.R_drew)); exact HO1035.out) hb); have n3_ := Aside0.mk (Kd.R_lower (Kd.R_new' (Kd.R_new' ho0 (Kd.R_lt (by (with_reducible repeat (first | apply Kd.R_alloc | apply Kd.R_drewN | apply Kd.R_drew)); exact HO_6.out))) (Kd.R_lt (by (with_reducible repeat (first | apply Kd.R_alloc | apply Kd.R_drewN | apply Kd.R_drew)); exact HO_10.out))) (below_size (by repeat (first | (with_reducible first | exact HB.out | apply below_alloc | apply pw_below_drewN | apply below_drew1) | exact HB.out)))); have n4_ := Aside0.mk (below_step (by repeat (first | (with_reducible first | exact HB.out | apply below_alloc | apply pw_below_drewN | apply below_drew1) | exact HB.out)) hb); clear HO_6; clear HO_10; clear HO1035; clear HB; have HO_6 := n0_; have HO_10 := n1_; have HO1035 := n2_; have HO1040 := n3_; have HB := n4_; clear n0_ n1_ n2_ n3_ n4_; (try clear hb); (try clear hb2); (try clear hk); (try clear hi); (try clear ho0)))
           (try simp only [Act.put, List.setIfInBounds_toArray, List.set_cons_zero, List.set_cons_succ])
           go_cut [113] (fun v113 wc => ∃ (kq : Nat) (x113_55 : Bool), v113 = .bool x113_55 ∧ Aside0 (laws_FnExactUnpack.j2 kq t1031 t1030 x113_55 = some r) ∧ Aside0 (kq ≤ kj31) ∧ Aside0 (Kd.R (Kd.int .i64) 3 wc w.heap.size (fun _ => True) (.slice Ao57 t1017.length co57) t1031) ∧ Aside0 (Below w.heap.size w wc))
           case first =>
            have H := HC56.out
            clear HC56
            replace H := Option.bind_eq_some_iff.mp H
            obtain ⟨t1041, A620, H⟩ := H
            replace H : (if t1041 = true then (if t1037 = t1010 then (laws_FnExactUnpack.j2 kj31 t1031 t1030 (t1038 != t1011)) else (laws_FnExactUnpack.j2 kj31 t1031 t1030 true)) else (laws_FnExactUnpack.j2 kj31 t1031 t1030 true)) = some r := H
            have A62 := Aside0.mk A620
            clear A620
            by_cases c63 : t1041 = true
            ·subst c63
             have H1 : (if t1037 = t1010 then (laws_FnExactUnpack.j2 kj31 t1031 t1030 (t1038 != t1011)) else (laws_FnExactUnpack.j2 kj31 t1031 t1030 true)) = some r := by rw [if_pos rfl] at H; exact H
             clear H
             have H := H1
             clear H1
             by_cases c64 : t1037 = t1010
             ·rw [if_pos c64] at H
              have c64b0 : (t1037 == t1010) = true := beq_iff_eq.mpr c64
              have c64b1 : (t1037 != t1010) = false := bne_eq_false_iff_eq.mpr c64
              clear c64
              (first | rw [c64b0] | (simp only [i64_w, i32_w]; rw [c64b0]) | skip)
              have H' := Aside0.mk H
              clear H
              obtain ⟨Ao65, co65, eo65⟩ := Kd.R_slice HO1040.out
              subst eo65
              obtain ⟨Ao66, co66, eo66⟩ := Kd.R_slice HO_6.out
              subst eo66
              go_wp2_with (first | ((with_reducible refine gate_callee (f := 55) rfl ?_); refine goesL_ (some 102) rfl rfl Try.func55 (by kernel_rfl) rfl #[.slice Ao65 t1036.length co65, .slice Ao66 t1009.length co66] rfl (by (try simp only [List.map_toArray, List.map_cons, List.map_nil]); first | done | rfl | (simp only [List.length_drop, List.length_take]; rfl)) ?_; (with_reducible refine (laws_eqIntS.calls kj31 _ _ t1036 _ _ t1009 true _ ?side1 ?side2 ?side3 ?side4 A62.out).mono ?_); (case side1 => repeat (first | exact (Kd.R_reads' HO1040.out).2.2 | (with_reducible refine Kd.C_alloc ?_ _) | (with_reducible refine Kd.C_drewN ?_ _) | (with_reducible refine Kd.C_drew ?_))); (case side2 => exact (Kd.R_reads' HO1040.out).2.1); (case side3 => repeat (first | exact (Kd.R_reads' HO_6.out).2.2 | (with_reducible refine Kd.C_alloc ?_ _) | (with_reducible refine Kd.C_drewN ?_ _) | (with_reducible refine Kd.C_drew ?_))); (case side4 => exact (Kd.R_reads' HO_6.out).2.1); rintro e w' ⟨rfl, ⟨nd, rfl⟩⟩; refine ⟨_, rfl, ?_⟩))
              go_meet
              case rel => exact ⟨_, ((t1038 != t1011)), (by first | rfl | (simp; done) | (simp [*]; done)), H', ⟨by have := HJ9.out; have := HJ31.out; first | omega | exact Nat.le_refl _⟩, ⟨by (with_reducible repeat (first | apply Kd.R_alloc | apply Kd.R_drewN | apply Kd.R_drew)); exact Kd.R_mono HO_10.out (fun _ hk => trivial)⟩, ⟨by repeat (first | (with_reducible first | exact HB.out | apply below_alloc | apply pw_below_drewN | apply below_drew1) | exact HB.out)⟩⟩
             ·rw [if_neg c64] at H
              have c64b0 : (t1037 == t1010) = false := beq_eq_false_iff_ne.mpr c64
              have c64b1 : (t1037 != t1010) = true := bne_iff_ne.mpr c64
              (first | rw [c64b0] | (simp only [i64_w, i32_w]; rw [c64b0]) | skip)
              have H' := Aside0.mk H
              clear H
              obtain ⟨Ao67, co67, eo67⟩ := Kd.R_slice HO1040.out
              subst eo67
              obtain ⟨Ao68, co68, eo68⟩ := Kd.R_slice HO_6.out
              subst eo68
              go_wp2_with (first | ((with_reducible refine gate_callee (f := 55) rfl ?_); refine goesL_ (some 102) rfl rfl Try.func55 (by kernel_rfl) rfl #[.slice Ao67 t1036.length co67, .slice Ao68 t1009.length co68] rfl (by (try simp only [List.map_toArray, List.map_cons, List.map_nil]); first | done | rfl | (simp only [List.length_drop, List.length_take]; rfl)) ?_; (with_reducible refine (laws_eqIntS.calls kj31 _ _ t1036 _ _ t1009 true _ ?side1 ?side2 ?side3 ?side4 A62.out).mono ?_); (case side1 => repeat (first | exact (Kd.R_reads' HO1040.out).2.2 | (with_reducible refine Kd.C_alloc ?_ _) | (with_reducible refine Kd.C_drewN ?_ _) | (with_reducible refine Kd.C_drew ?_))); (case side2 => exact (Kd.R_reads' HO1040.out).2.1); (case side3 => repeat (first | exact (Kd.R_reads' HO_6.out).2.2 | (with_reducible refine Kd.C_alloc ?_ _) | (with_reducible refine Kd.C_drewN ?_ _) | (with_reducible refine Kd.C_drew ?_))); (case side4 => exact (Kd.R_reads' HO_6.out).2.1); rintro e w' ⟨rfl, ⟨nd, rfl⟩⟩; refine ⟨_, rfl, ?_⟩))
              go_meet
              case rel => exact ⟨_, (true), (by first | rfl | (simp; done) | (simp [*]; done)), H', ⟨by have := HJ9.out; have := HJ31.out; first | omega | exact Nat.le_refl _⟩, ⟨by (with_reducible repeat (first | apply Kd.R_alloc | apply Kd.R_drewN | apply Kd.R_drew)); exact Kd.R_mono HO_10.out (fun _ hk => trivial)⟩, ⟨by repeat (first | (with_reducible first | exact HB.out | apply below_alloc | apply pw_below_drewN | apply below_drew1) | exact HB.out)⟩⟩
            ·replace c63 := Bool.eq_false_iff.mpr c63
             subst c63
             have H1 : (laws_FnExactUnpack.j2 kj31 t1031 t1030 true) = some r := by rw [if_neg (show ¬ (false = true) by decide)] at H; exact H
             clear H
             have H := H1
             clear H1
             have H' := Aside0.mk H
             clear H
             obtain ⟨Ao69, co69, eo69⟩ := Kd.R_slice HO1040.out
             subst eo69
             obtain ⟨Ao70, co70, eo70⟩ := Kd.R_slice HO_6.out
             subst eo70
             go_wp2_with (first | ((with_reducible refine gate_callee (f := 55) rfl ?_); refine goesL_ (some 102) rfl rfl Try.func55 (by kernel_rfl) rfl #[.slice Ao69 t1036.length co69, .slice Ao70 t1009.length co70] rfl (by (try simp only [List.map_toArray, List.map_cons, List.map_nil]); first | done | rfl | (simp only [List.length_drop, List.length_take]; rfl)) ?_; (with_reducible refine (laws_eqIntS.calls kj31 _ _ t1036 _ _ t1009 false _ ?side1 ?side2 ?side3 ?side4 A62.out).mono ?_); (case side1 => repeat (first | exact (Kd.R_reads' HO1040.out).2.2 | (with_reducible refine Kd.C_alloc ?_ _) | (with_reducible refine Kd.C_drewN ?_ _) | (with_reducible refine Kd.C_drew ?_))); (case side2 => exact (Kd.R_reads' HO1040.out).2.1); (case side3 => repeat (first | exact (Kd.R_reads' HO_6.out).2.2 | (with_reducible refine Kd.C_alloc ?_ _) | (with_reducible refine Kd.C_drewN ?_ _) | (with_reducible refine Kd.C_drew ?_))); (case side4 => exact (Kd.R_reads' HO_6.out).2.1); rintro e w' ⟨rfl, ⟨nd, rfl⟩⟩; refine ⟨_, rfl, ?_⟩))
             go_meet
             case rel => exact ⟨_, (true), (by first | rfl | (simp; done) | (simp [*]; done)), H', ⟨by have := HJ9.out; have := HJ31.out; first | omega | exact Nat.le_refl _⟩, ⟨by (with_reducible repeat (first | apply Kd.R_alloc | apply Kd.R_drewN | apply Kd.R_drew)); exact Kd.R_mono HO_10.out (fun _ hk => trivial)⟩, ⟨by repeat (first | (with_reducible first | exact HB.out | apply below_alloc | apply pw_below_drewN | apply below_drew1) | exact HB.out)⟩⟩
           case rest =>
            clear HC56
            try clear c1
            try clear c2
            try clear p2
            try clear c3
            try clear c4
            try clear c4b0
            try clear c5
            try clear c6
            try clear c13
            try clear c19
            try clear c20
            try clear c20b0
            try clear c20b1
            try clear c27
            try clear c30
            try clear c37
            try clear c37b0
            try clear c39
            try clear c40
            try clear c40b0
            try clear c40b1
            try clear c47
            try clear c50
            try clear c50b0
            try clear c52
            try clear c53
            try clear c53b0
            try clear c53b1
            try clear c54
            try clear c55
            try clear c56
            try clear c57
            try clear c58
            try clear c59
            try clear c60
            try clear c63
            try clear c64
            try clear c64b0
            try clear c64b1
            try clear p2
            obtain ⟨kq, x113_55, rfl, HA, HJ55, HO_10, HB⟩ := hcut
            have hl10_55 := (Kd.R_reads' HO_10.out).1
            rw [hl10_55] at HO_10
            (try simp only [hl10_55])
            cases kq with
            | zero => exact absurd HA.out (by simp [laws_FnExactUnpack.j2])
            | succ kj55 =>
             have H := HA.out
             clear HA
             simp only [laws_FnExactUnpack.j2] at H
             by_cases c71 : x113_55 = true
             ·subst c71
              have H1 : (some false) = some r := by rw [if_pos rfl] at H; exact H
              clear H
              have H := H1
              clear H1
              obtain rfl := Option.some.inj H
              go_wp2
              go_ret
              exact ⟨by first | rfl | (simp [errW_none, errW_some] <;> rfl) | (simp [*, errW_none, errW_some] <;> rfl), by repeat (first | (with_reducible first | exact HB.out | apply below_alloc | apply pw_below_drewN | apply below_drew1) | exact HB.out)⟩
             ·replace c71 := Bool.eq_false_iff.mpr c71
              subst c71
              have H1 : ((laws_heldIntS.f kj55 t1031 1).bind fun t1042 => (if t1042 < 0 then (some false) else (if t1042 = t1030 then (some true) else (some false)))) = some r := by rw [if_neg (show ¬ (false = true) by decide)] at H; exact H
              clear H
              have H := H1
              clear H1
              replace H := Option.bind_eq_some_iff.mp H
              obtain ⟨t1042, A720, H⟩ := H
              replace H : (if t1042 < 0 then (some false) else (if t1042 = t1030 then (some true) else (some false))) = some r := H
              have A72 := Aside0.mk A720
              clear A720
              by_cases c73 : t1042 < 0
              ·rw [if_pos c73] at H
               have c73b0 : decide (t1042 < 0) = true := decide_eq_true c73
               clear c73
               obtain rfl := Option.some.inj H
               go_wp2_with (first | ((with_reducible refine gate_callee (f := 59) rfl ?_); refine goesL_ (some 116) rfl rfl Try.func59 (by kernel_rfl) rfl #[.slice Ao57 t1031.length co57, .int .i64 1] rfl (by (try simp only [List.map_toArray, List.map_cons, List.map_nil]); first | done | rfl | (simp only [List.length_drop, List.length_take]; rfl)) ?_; (with_reducible refine (laws_heldIntS.calls kj55 _ _ t1031 1 t1042 _ ?side1 ?side2 A72.out).mono ?_); (case side1 => repeat (first | exact (Kd.R_reads' HO_10.out).2.2 | (with_reducible refine Kd.C_alloc ?_ _) | (with_reducible refine Kd.C_drewN ?_ _) | (with_reducible refine Kd.C_drew ?_))); (case side2 => exact (Kd.R_reads' HO_10.out).2.1); rintro e w' ⟨rfl, ⟨nd, rfl⟩⟩; refine ⟨_, rfl, ?_⟩))
               go_ret
               exact ⟨by first | rfl | (simp [errW_none, errW_some] <;> rfl) | (simp [*, errW_none, errW_some] <;> rfl), by repeat (first | (with_reducible first | exact HB.out | apply below_alloc | apply pw_below_drewN | apply below_drew1) | exact HB.out)⟩
              ·rw [if_neg c73] at H
               have c73b0 : decide (t1042 < 0) = false := decide_eq_false c73
               clear c73
               by_cases c74 : t1042 = t1030
               ·rw [if_pos c74] at H
                have c74b0 : (t1042 == t1030) = true := beq_iff_eq.mpr c74
                have c74b1 : (t1042 != t1030) = false := bne_eq_false_iff_eq.mpr c74
                clear c74
                obtain rfl := Option.some.inj H
                go_wp2_with (first | ((with_reducible refine gate_callee (f := 59) rfl ?_); refine goesL_ (some 116) rfl rfl Try.func59 (by kernel_rfl) rfl #[.slice Ao57 t1031.length co57, .int .i64 1] rfl (by (try simp only [List.map_toArray, List.map_cons, List.map_nil]); first | done | rfl | (simp only [List.length_drop, List.length_take]; rfl)) ?_; (with_reducible refine (laws_heldIntS.calls kj55 _ _ t1031 1 t1042 _ ?side1 ?side2 A72.out).mono ?_); (case side1 => repeat (first | exact (Kd.R_reads' HO_10.out).2.2 | (with_reducible refine Kd.C_alloc ?_ _) | (with_reducible refine Kd.C_drewN ?_ _) | (with_reducible refine Kd.C_drew ?_))); (case side2 => exact (Kd.R_reads' HO_10.out).2.1); rintro e w' ⟨rfl, ⟨nd, rfl⟩⟩; refine ⟨_, rfl, ?_⟩))
                go_ret
                exact ⟨by first | rfl | (simp [errW_none, errW_some] <;> rfl) | (simp [*, errW_none, errW_some] <;> rfl), by repeat (first | (with_reducible first | exact HB.out | apply below_alloc | apply pw_below_drewN | apply below_drew1) | exact HB.out)⟩
               ·rw [if_neg c74] at H
                have c74b0 : (t1042 == t1030) = false := beq_eq_false_iff_ne.mpr c74
                have c74b1 : (t1042 != t1030) = true := bne_iff_ne.mpr c74
                obtain rfl := Option.some.inj H
                go_wp2_with (first | ((with_reducible refine gate_callee (f := 59) rfl ?_); refine goesL_ (some 116) rfl rfl Try.func59 (by kernel_rfl) rfl #[.slice Ao57 t1031.length co57, .int .i64 1] rfl (by (try simp only [List.map_toArray, List.map_cons, List.map_nil]); first | done | rfl | (simp only [List.length_drop, List.length_take]; rfl)) ?_; (with_reducible refine (laws_heldIntS.calls kj55 _ _ t1031 1 t1042 _ ?side1 ?side2 A72.out).mono ?_); (case side1 => repeat (first | exact (Kd.R_reads' HO_10.out).2.2 | (with_reducible refine Kd.C_alloc ?_ _) | (with_reducible refine Kd.C_drewN ?_ _) | (with_reducible refine Kd.C_drew ?_))); (case side2 => exact (Kd.R_reads' HO_10.out).2.1); rintro e w' ⟨rfl, ⟨nd, rfl⟩⟩; refine ⟨_, rfl, ?_⟩))
                go_ret
                exact ⟨by first | rfl | (simp [errW_none, errW_some] <;> rfl) | (simp [*, errW_none, errW_some] <;> rfl), by repeat (first | (with_reducible first | exact HB.out | apply below_alloc | apply pw_below_drewN | apply below_drew1) | exact HB.out)⟩
          ·rw [if_neg c53] at H
           have c53b0 : (t1032 == t1030) = false := beq_eq_false_iff_ne.mpr c53
           have c53b1 : (t1032 != t1030) = true := bne_iff_ne.mpr c53
           obtain rfl := Option.some.inj H
           obtain ⟨Ao75, co75, eo75⟩ := Kd.R_slice HO_10.out
           subst eo75
           go_wp2_with (first | ((with_reducible refine gate_callee (f := 58) rfl ?_); refine goesL_ (some 83) rfl rfl Try.func58 (by kernel_rfl) rfl #[.slice Ao75 t1017.length co75, .int .i64 1] rfl (by (try simp only [List.map_toArray, List.map_cons, List.map_nil]); first | done | rfl | (simp only [List.length_drop, List.length_take]; rfl)) ?_; (with_reducible refine (laws_markIntS.calls kj31 (fun k_ => some k_ = (.slice Ao75 t1017.length co75 : Value).ownBlock) (.slice Ao75 t1017.length co75) t1017 1 t1030 t1031 w _ ?side1 ?side2 A48.out).mono ?_); (case side1 => repeat (first | (with_reducible first | exact HB.out | apply below_alloc | apply pw_below_drewN | apply below_drew1) | exact HB.out)); (case side2 => exact Kd.R_tight rfl HO_10.out); rintro e w76 ⟨rfl, hy0, hb, hkp⟩; refine ⟨_, rfl, ?_⟩; have n0_ := Aside0.mk (Kd.R_mono (ok' := fun k_ => some k_ ≠ (.slice Ao75 t1017.length co75 : Value).ownBlock) (Kd.R_keptB (HO_6.out) hkp (fun k_ hk_ hs_ => (hk_) hs_)) (fun k_ hk_ => hk_.1)); have n1_ := Aside0.mk (Kd.R_reok rfl hy0 (fun k_ e_ => HO_10.out.1 k_ e_)); have n2_ := Aside0.mk (hb); clear HO_6; clear HO_10; clear HB; have HO_6 := n0_; have HO_10 := n1_; have HB := n2_; clear n0_ n1_ n2_; (try clear hb); (try clear hkp); (try clear hy0)) | ((with_reducible refine gate_callee (f := 59) rfl ?_); refine goesL_ (some 86) rfl rfl Try.func59 (by kernel_rfl) rfl #[.slice Ao75 t1031.length co75, .int .i64 1] rfl (by (try simp only [List.map_toArray, List.map_cons, List.map_nil]); first | done | (rw [show t1031.length = t1017.length from (Kd.R_reads' HO_10.out).1.symm] <;> rfl) | rfl | (simp only [List.length_drop, List.length_take]; rfl)) ?_; (with_reducible refine (laws_heldIntS.calls kj31 _ _ t1031 1 t1032 _ ?side1 ?side2 A49.out).mono ?_); (case side1 => repeat (first | exact (Kd.R_reads' HO_10.out).2.2 | (with_reducible refine Kd.C_alloc ?_ _) | (with_reducible refine Kd.C_drewN ?_ _) | (with_reducible refine Kd.C_drew ?_))); (case side2 => rw [show t1031.length = t1017.length from (Kd.R_reads' HO_10.out).1.symm]; exact (Kd.R_reads' HO_10.out).2.1); rintro e w' ⟨rfl, ⟨nd, rfl⟩⟩; refine ⟨_, rfl, ?_⟩))
           go_ret
           exact ⟨by first | rfl | (simp [errW_none, errW_some] <;> rfl) | (simp [*, errW_none, errW_some] <;> rfl), by repeat (first | (with_reducible first | exact HB.out | apply below_alloc | apply pw_below_drewN | apply below_drew1) | exact HB.out)⟩
     ·replace c30 := Bool.eq_false_iff.mpr c30
      subst c30
      have H1 : (some false) = some r := by rw [if_neg (show ¬ (false = true) by decide)] at H; exact H
      clear H
      have H := H1
      clear H1
      obtain rfl := Option.some.inj H
      go_wp2_with (first | ((with_reducible refine gate_callee (f := 54) rfl ?_); refine goesL_ (some 57) rfl rfl Try.func54 (by kernel_rfl) rfl #[.slice A0 l0.length c0] rfl (by (try simp only [List.map_toArray, List.map_cons, List.map_nil]); first | done | rfl | (simp only [List.length_drop, List.length_take]; rfl)) ?_; (with_reducible refine (laws_toPackS.calls kj9 _ _ l0 t1023 _ ?side1 ?side2 A28.out).mono ?_); (case side1 => repeat (first | exact (Kd.C_below HR0.out HB.out) | (with_reducible refine Kd.C_alloc ?_ _) | (with_reducible refine Kd.C_drewN ?_ _) | (with_reducible refine Kd.C_drew ?_))); (case side2 => exact HC0.out); rintro e w77 ⟨v1024, rfl, ho0, hb⟩; refine ⟨_, rfl, ?_⟩; have n0_ := Aside0.mk (Kd.R_below (by (with_reducible repeat (first | apply Kd.R_alloc | apply Kd.R_drewN | apply Kd.R_drew)); exact HO_6.out) hb); have n1_ := Aside0.mk (Kd.R_elder' (by (with_reducible repeat (first | apply Kd.R_alloc | apply Kd.R_drewN | apply Kd.R_drew)); exact HO_9.out) (Kd.R_base ho0) hb); have n2_ := Aside0.mk (Kd.R_below (by (with_reducible repeat (first | apply Kd.R_alloc | apply Kd.R_drewN | apply Kd.R_drew)); exact HO_10.out) hb); have n3_ := Aside0.mk (Kd.R_lower (Kd.R_new' ho0 (Kd.R_lt (by (with_reducible repeat (first | apply Kd.R_alloc | apply Kd.R_drewN | apply Kd.R_drew)); exact HO_9.out))) (below_size (by repeat (first | (with_reducible first | exact HB.out | apply below_alloc | apply pw_below_drewN | apply below_drew1) | exact HB.out)))); have n4_ := Aside0.mk (below_step (by repeat (first | (with_reducible first | exact HB.out | apply below_alloc | apply pw_below_drewN | apply below_drew1) | exact HB.out)) hb); clear HO_6; clear HO_9; clear HO_10; clear HB; have HO_6 := n0_; have HO_9 := n1_; have HO_10 := n2_; have HO1025 := n3_; have HB := n4_; clear n0_ n1_ n2_ n3_ n4_; (try clear hb); (try clear hb2); (try clear hk); (try clear hi); (try clear ho0); obtain ⟨Ao78, co78, eo78⟩ := Kd.R_slice HO1025.out; subst eo78) | ((with_reducible refine gate_callee (f := 56) rfl ?_); refine goesL_ (some 58) rfl rfl Try.func56 (by kernel_rfl) rfl #[.slice Ao16 t1014.length co16, .slice Ao78 t1023.length co78] rfl (by (try simp only [List.map_toArray, List.map_cons, List.map_nil]); first | done | rfl | (simp only [List.length_drop, List.length_take]; rfl)) ?_; (with_reducible refine (laws_eqPackS.calls kj9 _ _ t1014 _ _ t1023 false _ ?side1 ?side2 ?side3 ?side4 A29.out).mono ?_); (case side1 => repeat (first | exact (Kd.R_reads' HO_9.out).2.2 | (with_reducible refine Kd.C_alloc ?_ _) | (with_reducible refine Kd.C_drewN ?_ _) | (with_reducible refine Kd.C_drew ?_))); (case side2 => exact (Kd.R_reads' HO_9.out).2.1); (case side3 => repeat (first | exact (Kd.R_reads' HO1025.out).2.2 | (with_reducible refine Kd.C_alloc ?_ _) | (with_reducible refine Kd.C_drewN ?_ _) | (with_reducible refine Kd.C_drew ?_))); (case side4 => exact (Kd.R_reads' HO1025.out).2.1); rintro e w79 ⟨rfl, hb⟩; refine ⟨_, rfl, ?_⟩; have n0_ := Aside0.mk (Kd.R_below (by (with_reducible repeat (first | apply Kd.R_alloc | apply Kd.R_drewN | apply Kd.R_drew)); exact HO_6.out) hb); have n1_ := Aside0.mk (Kd.R_below (by (with_reducible repeat (first | apply Kd.R_alloc | apply Kd.R_drewN | apply Kd.R_drew)); exact HO_9.out) hb); have n2_ := Aside0.mk (Kd.R_below (by (with_reducible repeat (first | apply Kd.R_alloc | apply Kd.R_drewN | apply Kd.R_drew)); exact HO_10.out) hb); have n3_ := Aside0.mk (Kd.R_below (by (with_reducible repeat (first | apply Kd.R_alloc | apply Kd.R_drewN | apply Kd.R_drew)); exact HO1025.out) hb); have n4_ := Aside0.mk (below_step (by repeat (first | (with_reducible first | exact HB.out | apply below_alloc | apply pw_below_drewN | apply below_drew1) | exact HB.out)) hb); clear HO_6; clear HO_9; clear HO_10; clear HO1025; clear HB; have HO_6 := n0_; have HO_9 := n1_; have HO_10 := n2_; have HO1025 := n3_; have HB := n4_; clear n0_ n1_ n2_ n3_ n4_; (try clear hb); (try clear hb2); (try clear hk); (try clear hi)))
      go_ret
      exact ⟨by first | rfl | (simp [errW_none, errW_some] <;> rfl) | (simp [*, errW_none, errW_some] <;> rfl), by repeat (first | (with_reducible first | exact HB.out | apply below_alloc | apply pw_below_drewN | apply below_drew1) | exact HB.out)⟩

end Go.Proofs.Ytookjankaanhlaa.PAll
