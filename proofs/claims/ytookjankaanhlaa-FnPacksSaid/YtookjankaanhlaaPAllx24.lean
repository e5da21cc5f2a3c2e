-- Written by wip/tools/hp.py over the kit's print (not by hand): functions and walks of All.
import Derived.Test.YtookjankaanhlaaPAllx0
import Derived.Test.YtookjankaanhlaaPAllx1
import Derived.Test.YtookjankaanhlaaPAllx14
namespace Go.Proofs.Ytookjankaanhlaa.PAll
open Go.RowKit Go.Proofs.YtookjankaanhlaaW.PrintWords Go.Proofs.YtookjankaanhlaaW.PrintLast Go.Proofs.YtookjankaanhlaaW.PrintMore
attribute [local go_sem] max2_int min2_int max_two min_two max_three min_three max_four min_four   -- for this text's walks alone
set_option linter.unusedVariables false
set_option linter.unusedSimpArgs false

/-! ### impl_Unpack: function 52, by hand -/
def impl_Unpack.scan (sizes : List Int) (units : Int) : List Int → Int → Int → Option Int
  | [], _, best => some best
  | s :: rest, i, best => if s ≤ units then (if best < 0 then impl_Unpack.scan sizes units rest (i + 1) i
      else if best < (sizes.length : Int) then (if s > rd sizes best then impl_Unpack.scan sizes units rest (i + 1) i else impl_Unpack.scan sizes units rest (i + 1) best) else none)
      else impl_Unpack.scan sizes units rest (i + 1) best
def impl_Unpack.loop (sizes : List Int) : Nat → List Int → Int → Option (List Int × Int × Int)
  | 0, _, _ => none
  | k + 1, out, units => (impl_Unpack.scan sizes units sizes 0 (-1)).bind fun best => if best < 0 then some (out, units, 0)
      else if best < (sizes.length : Int) then (if best < (out.length : Int) then (if rd sizes best = 0 then none
        else impl_Unpack.loop sizes k (out.set best.toNat (wrap64 (rd out best + wrap64 (Int.tdiv units (rd sizes best))))) (Int.tmod units (rd sizes best))) else none) else none
def impl_Unpack.f (k : Nat) (l0 : List S149) (a1 : Int) : Option (List Int × Int × Int) :=
  (impl_PackUnits.f k l0).bind fun t => if t.2.1 = 0 then ((impl_within.f a1 0 1000000).bind fun ok => if ok = true then
      (let sizes := t.1; if sizes.length ≤ 17592186044416 then impl_Unpack.loop sizes k (List.replicate sizes.length 0) a1 else none) else some ([], 0, 5)) else some ([], 0, t.2.1)
theorem impl_Unpack.mono_loop (sizes : List Int) : ∀ k out units, LeO (impl_Unpack.loop sizes k out units) (impl_Unpack.loop sizes (k + 1) out units)
  | 0, _, _ => fun r h => by cases h
  | k + 1, out, units => LeO.bind (LeO.refl _) (fun _ => LeO.ite (LeO.refl _) (LeO.ite (LeO.ite (LeO.ite (LeO.refl _) (impl_Unpack.mono_loop sizes k _ _)) (LeO.refl _)) (LeO.refl _)))
theorem impl_Unpack.mono : ∀ l0 a1 k, LeO (impl_Unpack.f k l0 a1) (impl_Unpack.f (k + 1) l0 a1) := fun l0 a1 k =>
  LeO.bind (impl_PackUnits.mono l0 k) (fun t => LeO.ite (LeO.bind (LeO.refl _) (fun _ => LeO.ite (LeO.ite (impl_Unpack.mono_loop _ k _ _) (LeO.refl _)) (LeO.refl _))) (LeO.refl _))
set_option maxHeartbeats 16000000 in
set_option maxRecDepth 100000 in
theorem impl_Unpack.calls (k : Nat) (A0 : Option Addr) (c0 : Nat) (l0 : List S149) (a1 : Int) (r1 : List Int) (r2 : Int) (r3 : Int) (w : World) (hr0 : Kd.C k149 w A0 l0.length l0) (hc0 : l0.length ≤ c0) (h : impl_Unpack.f k l0 a1 = some (r1, r2, r3)) :
    Calls Try.prog 52 #[.slice A0 l0.length c0, .int .i64 a1] w fun e w' => ∃ v0_ : Value, e = .returned (.tuple #[v0_, .int .i64 r2, .int .i64 r3]) ∧ Kd.R (Kd.int .i64) 3 w' w.heap.size (fun _ => True) v0_ r1 ∧ Below w.heap.size w w' := by
  unfold impl_Unpack.f at h
  obtain ⟨⟨sizes, code, who⟩, hpu, h2⟩ := Option.bind_eq_some_iff.mp h
  have HPU := Aside0.mk (impl_PackUnits.calls k (l0 := l0) (A0 := A0) (c0 := c0) (r1 := sizes) (r2 := code) (r3 := who) (w := w) (hr0 := hr0) (hc0 := hc0) (h := hpu))
  have HL0 := Aside0.mk hr0.2.1
  clear h hpu hr0 hc0
  simp only [] at h2
  go_enter Try.func52, Try.ntmps52
  by_cases hcode : code = 0
  · subst hcode
    rw [if_pos rfl] at h2
    obtain ⟨ok, hok, h3⟩ := Option.bind_eq_some_iff.mp h2
    have HOK := Aside0.mk hok
    have H3 := Aside0.mk h3
    clear h2 hok h3
    go_wp2_with fail
    refine HPU.out.mono ?_
    rintro e w1 ⟨v0, rfl, ho, hb1⟩
    obtain ⟨A5, c5, rfl, hl5, hr5⟩ := Kd.R_reads ho
    have HO := Aside0.mk ho
    have HR5 := Aside0.mk hr5
    have HL5 := Aside0.mk hl5
    have HB1 := Aside0.mk hb1
    have hbig := hr5.2.1
    clear ho hr5 hl5 hb1
    go_wp2_with fail
    refine (impl_within.calls (r := ok) (w := _) (h := HOK.out)).mono ?_
    rintro e w2 ⟨rfl, hd2⟩
    have hb2 : Below w1.heap.size w1 w2 := hd2.below
    have HB2 := Aside0.mk hb2
    clear hd2 hb2
    cases ok with
    | false =>
      have h4 := H3.out
      simp only [Bool.false_eq_true, if_false, Option.some.injEq, Prod.mk.injEq] at h4
      obtain ⟨rfl, rfl, rfl⟩ := h4
      go_wp2
      go_ret3
      exact ⟨.slice none 0 0, rfl, Kd.R_nil _ _ _ _ _, below_trans HB1.out HB2.out⟩
    | true =>
      have h4 := H3.out
      simp only [if_true] at h4
      by_cases hlim : sizes.length ≤ 17592186044416
      · rw [if_pos hlim] at h4
        have H4 := Aside0.mk h4
        clear h4
        have hlz : (0 : Int) ≤ (sizes.length : Int) := by omega
        have hmk := print_make (P := Try.prog) 84 3 .i64 8 Try.underlying84 (by kernel_rfl : (Try.prog.info? 3).map (fun i => (i.zero, i.size, i.bytes)) = some (some (.int .i64 0), 1, 8)) (by decide) sizes.length (by omega) w2
        go_wp2
        have OW := Aside0.mk (own_made w2 w.heap.size 3 .i64 sizes.length (Nat.le_trans HB1.out.size HB2.out.size) (by omega))
        have BW2 := Aside0.mk ((Below.refl w2.heap.size w2).alloc (Nat.le_refl _) (.cells (madeCells #[.int .i64 0] sizes.length) 3))
        have RS := Aside0.mk (Kd.C_below HR5.out HB2.out)
        have BL := Aside0.mk (below_trans HB1.out HB2.out)
        clear hmk
        generalize w2.alloc (.cells (madeCells #[.int .i64 0] sizes.length) 3) = w3 at *
        go_loopg [1] k (fun gg s1 wr => ∃ (outl : List Int) (u : Int), s1 = .int .i64 u ∧ Aside0 (outl.length = sizes.length) ∧ Aside0 (Below w2.heap.size w2 wr) ∧ Aside0 (wr.ownsRow w.heap.size 3 1 (.slice (some ⟨w2.heap.size, 0, none⟩) sizes.length sizes.length) sizes.length (nums .i64 outl)) ∧ Aside0 (impl_Unpack.loop sizes gg outl u = some (r1, r2, r3)))
        case atStart => exact ⟨_, _, rfl, ⟨List.length_replicate⟩, BW2, OW, H4⟩
        case round =>
          obtain ⟨outl, u, rfl, HLEN, BW, HO2, HF⟩ := hrel
          cases gk with
          | zero => exact absurd HF.out (by simp [impl_Unpack.loop])
          | succ kf =>
          have hf := HF.out
          rw [impl_Unpack.loop] at hf
          obtain ⟨best, hs, h5⟩ := Option.bind_eq_some_iff.mp hf
          have HS := Aside0.mk hs
          have H5 := Aside0.mk h5
          have RW := Aside0.mk (Kd.C_below RS.out BW.out)
          have hslen : sizes.length ≤ 9223372036854775807 := RW.out.2.1
          clear hf hs h5 HF
          go_wp2
          go_loopg [33, 11] sizes.length (fun gg sI sB w' => ∃ (kk : Nat) (b : Int), kk ≤ sizes.length ∧ sizes.length - kk ≤ gg ∧ sI = .int .i64 kk ∧ sB = .int .i64 b ∧ Aside0 (Below w2.heap.size w2 w') ∧ Aside0 (w'.ownsRow w.heap.size 3 1 (.slice (some ⟨w2.heap.size, 0, none⟩) sizes.length sizes.length) sizes.length (nums .i64 outl)) ∧ Aside0 (impl_Unpack.scan sizes u (sizes.drop kk) kk b = some best))
          case atStart => exact ⟨0, -1, Nat.zero_le _, by omega, rfl, rfl, BW, HO2, HS⟩
          case round =>
            clear RW BW HO2
            obtain ⟨kk, b, hkk, hg, rfl, rfl, BW, HO2, HSC⟩ := hrel
            have RW := Aside0.mk (Kd.C_below RS.out BW.out)
            by_cases hlt : kk < sizes.length
            · have hltz : (kk : Int) < (sizes.length : Int) := by omega
              have hcons : sizes.drop kk = rd sizes (kk : Int) :: sizes.drop (kk + 1) := by
                rw [List.drop_eq_getElem_cons hlt]
                congr 1
                unfold rd
                rw [Int.toNat_natCast, List.getD_eq_getElem?_getD, List.getElem?_eq_getElem hlt]
                rfl
              have hsc := HSC.out
              rw [hcons, impl_Unpack.scan] at hsc
              clear hcons HSC
              obtain ⟨ad5, rfl, hx5⟩ := Kd.at_int RW.out (kk : Int) (by omega) hltz
              simp only [Int.toNat_natCast] at hx5
              have hkn : 0 ≤ (kk : Int) := by omega
              by_cases c1 : rd sizes (kk : Int) ≤ u
              · rw [if_pos c1] at hsc
                have c1b : decide (rd sizes (kk : Int) ≤ u) = true := decide_eq_true c1
                clear c1
                by_cases c2 : b < 0
                · rw [if_pos c2] at hsc
                  have HSC := Aside0.mk hsc
                  have c2b : decide (b < 0) = true := decide_eq_true c2
                  clear c2 hsc
                  go_wp2
                  go_roundg (sizes.length - (kk + 1))
                  case measure => omega
                  case rel => exact ⟨kk + 1, _, by omega, by omega, by go_num, rfl, ⟨by repeat (first | exact BW.out | apply below_drew1 | apply pw_below_drewN)⟩, ⟨by exact HO2.out⟩, ⟨by simpa using HSC.out⟩⟩
                · rw [if_neg c2] at hsc
                  have c2b : decide (b < 0) = false := decide_eq_false c2
                  have hb0 : 0 ≤ b := by omega
                  clear c2
                  by_cases c3 : b < (sizes.length : Int)
                  · rw [if_pos c3] at hsc
                    obtain ⟨ad6, e6, hx6⟩ := Kd.at_int RW.out b hb0 c3
                    cases e6
                    by_cases c4 : rd sizes (kk : Int) > rd sizes b
                    · rw [if_pos c4] at hsc
                      have HSC := Aside0.mk hsc
                      have c4b : decide (rd sizes b < rd sizes (kk : Int)) = true := decide_eq_true c4
                      clear c4 hsc
                      go_wp2
                      go_roundg (sizes.length - (kk + 1))
                      case measure => omega
                      case rel => exact ⟨kk + 1, _, by omega, by omega, by go_num, rfl, ⟨by repeat (first | exact BW.out | apply below_drew1 | apply pw_below_drewN)⟩, ⟨by exact HO2.out⟩, ⟨by simpa using HSC.out⟩⟩
                    · rw [if_neg c4] at hsc
                      have HSC := Aside0.mk hsc
                      have c4b : decide (rd sizes b < rd sizes (kk : Int)) = false := decide_eq_false c4
                      clear c4 hsc
                      go_wp2
                      go_roundg (sizes.length - (kk + 1))
                      case measure => omega
                      case rel => exact ⟨kk + 1, _, by omega, by omega, by go_num, rfl, ⟨by repeat (first | exact BW.out | apply below_drew1 | apply pw_below_drewN)⟩, ⟨by exact HO2.out⟩, ⟨by simpa using HSC.out⟩⟩
                  · rw [if_neg c3] at hsc; cases hsc
              · rw [if_neg c1] at hsc
                have HSC := Aside0.mk hsc
                have c1b : decide (rd sizes (kk : Int) ≤ u) = false := decide_eq_false c1
                clear c1 hsc
                go_wp2
                go_roundg (sizes.length - (kk + 1))
                case measure => omega
                case rel => exact ⟨kk + 1, _, by omega, by omega, by go_num, rfl, ⟨by repeat (first | exact BW.out | apply below_drew1 | apply pw_below_drewN)⟩, ⟨by exact HO2.out⟩, ⟨by simpa using HSC.out⟩⟩
            · have : kk = sizes.length := by omega
              subst this
              have hltz : ¬ (sizes.length : Int) < (sizes.length : Int) := by omega
              have hsc := HSC.out
              rw [List.drop_length, impl_Unpack.scan] at hsc
              obtain rfl := Option.some.inj hsc
              clear hsc HSC
              have h5 := H5.out
              by_cases c1 : b < 0
              · rw [if_pos c1] at h5
                have c1b : decide (b < 0) = true := decide_eq_true c1
                simp only [Option.some.injEq, Prod.mk.injEq] at h5
                obtain ⟨rfl, rfl, rfl⟩ := h5
                clear c1
                go_wp2
                go_ret3
                exact ⟨_, rfl, Kd.R_of_own (by rw [HLEN.out]; exact HO2.out) (fun _ _ => trivial), below_trans BL.out BW.out⟩
              · rw [if_neg c1] at h5
                have c1b : decide (b < 0) = false := decide_eq_false c1
                have hb0 : 0 ≤ b := by omega
                clear c1
                by_cases c2 : b < (sizes.length : Int)
                · rw [if_pos c2] at h5
                  by_cases c3 : b < (outl.length : Int)
                  · rw [if_pos c3] at h5
                    by_cases c4 : rd sizes b = 0
                    · rw [if_pos c4] at h5; cases h5
                    · rw [if_neg c4] at h5
                      have HF := Aside0.mk h5
                      clear h5
                      obtain ⟨ad5, rfl, hx5⟩ := Kd.at_int RW.out b hb0 c2
                      have hxo := (own_at HO2.out b hb0 (by have := HLEN.out; omega)).1
                      have hfo := (own_at HO2.out b hb0 (by have := HLEN.out; omega)).2
                      have c2n : b < (sizes.length : Int) := by have := HLEN.out; omega
                      have hb0' := eq_true hb0
                      have c2' := eq_true c2
                      have c2n' := eq_true c2n
                      have HO4 := Aside0.mk (own_drew (own_store HO2.out b (wrap64 (rd outl b + wrap64 (Int.tdiv u (rd sizes b))))).1)
                      have BW4 := Aside0.mk (below_drew1 (below_set (j := b.toNat) (v := .int .i64 (wrap64 (rd outl b + wrap64 (Int.tdiv u (rd sizes b))))) BW.out (Nat.le_refl _)))
                      have RW4 := Aside0.mk (Kd.C_below RS.out BW4.out)
                      go_wp2
                      go_region
                      clear hx5 hxo hfo RW HO2 BW
                      generalize (wr.setCell ⟨w2.heap.size, b.toNat, none⟩ (.int .i64 (wrap64 (rd outl b + wrap64 (Int.tdiv u (rd sizes b)))))).drew = w5 at *
                      obtain ⟨ad7, e7, hx7⟩ := Kd.at_int RW4.out b hb0 c2
                      cases e7
                      go_wp2
                      go_roundg kf
                      case measure => omega
                      case rel => exact ⟨_, _, rfl, ⟨by rw [List.length_set]; exact HLEN.out⟩, BW4, HO4, HF⟩
                  · rw [if_neg c3] at h5; cases h5
                · rw [if_neg c2] at h5; cases h5
      · rw [if_neg hlim] at h4; cases h4
  · rw [if_neg hcode] at h2
    simp only [Option.some.injEq, Prod.mk.injEq] at h2
    obtain ⟨rfl, rfl, rfl⟩ := h2
    have hc1 : (code == 0) = false := beq_eq_false_iff_ne.mpr hcode
    have hc2 : (code != 0) = true := bne_iff_ne.mpr hcode
    clear hcode
    go_wp2_with fail
    refine HPU.out.mono ?_
    rintro e w1 ⟨v0, rfl, ho, hb1⟩
    have HB1 := Aside0.mk hb1
    clear ho hb1
    go_wp2
    go_ret3
    exact ⟨.slice none 0 0, rfl, Kd.R_nil _ _ _ _ _, HB1.out⟩

end Go.Proofs.Ytookjankaanhlaa.PAll
