/- slices.symMergeCmpFunc at elements of one cell: two sorted blocks made one: at any length. Printed by wip/gen/gen_SortB.py. -/
import Derived.Test.YtfccbbbejjdakaaSortB
import Derived.Deep.Cut
import Derived.Deep.DeepCutAuto
import Derived.Deep.CutBlock
namespace Go.Proofs.Ytfccbbbejjdakaa
open Go.Shelf Go.RowKit Go.Lib Go.Sort Go.Proofs
variable {α : Type} [Inhabited α]

set_option maxHeartbeats 16000000 in
set_option maxRecDepth 1000000 in
theorem symMerge_mid (enc : α → Value) (cf : α → α → Int) (g : Nat) (cb : Array Value) (B V : α → α → Prop) (O : Ord B V (ltOf cf)) (blk off cap : Nat) (d0 : Array α) (w0 : World) (eg : ∀ args w, (callFunc g args).run Try.prog w = .ok (.enter g args) w) (hcmp : CmpLays1 Try.prog g cb enc cf blk off d0.size w0) (R : Row1 enc w0 blk off d0) (hsz : d0.size < 2305843009213693952) (a m b : Nat) (d : Array α) (w : World) (S : SW enc w0 blk off d w) (hs : d.size = d0.size) (ham : a < m) (hmb : m < b) (hb : b ≤ d0.size) (hsl : Srt B a m d) (hsr : Srt B m b d) (hV : Ahead V a m b d) (h0 : ¬ m = a + 1) (h1 : ¬ b = m + 1)
    (N_ : Nat) (ih : ∀ (a m b : Nat) (d : Array α) (w : World), b - a < N_ → SW enc w0 blk off d w → d.size = d0.size → a < m → m < b → b ≤ d0.size → Srt B a m d → Srt B m b d → Ahead V a m b d →
    Calls Try.prog 34 #[.slice (some ⟨blk, off, none⟩) d0.size cap, .int .i64 a, .int .i64 m, .int .i64 b, .func (.func g) #[] cb] w fun e w' => e = .returned (.tuple #[]) ∧ ∃ d', Srt B a b d' ∧ Within a b d d' ∧ SW enc w0 blk off d' w') (hN : N_ = b - a) :
    Calls Try.prog 34 #[.slice (some ⟨blk, off, none⟩) d0.size cap, .int .i64 a, .int .i64 m, .int .i64 b, .func (.func g) #[] cb] w fun e w' => e = .returned (.tuple #[]) ∧ ∃ d', Srt B a b d' ∧ Within a b d d' ∧ SW enc w0 blk off d' w' := by
  have mixed : Try.prog.follows .mixedOrders = true := by kernel_rfl
  have hcl0 := R.hO.cells
  simp only [Value.cells] at hcl0
  have hst := R.hO.store Try.prog
  have HC : Aside _ := hcmp
  have S0 : Aside (SW enc w0 blk off d w) := S
  have HL : Aside _ := hsl
  have HR : Aside _ := hsr
  have HV : Aside _ := hV
  clear S hcmp hsl hsr hV
  have IH : Aside _ := ih
  have hN1 : b - a ≤ N_ := by omega
  clear ih hN
  have q0 : ((m : Int) - (a : Int) == 1) = false := beq_eq_false_iff_ne.mpr (by omega)
  have r0 : IntKind.i64.wrap ((m : Int) - (a : Int)) = (m : Int) - (a : Int) := by rw [IntKind.wrap_i64]; omega
  have q1 : ((b : Int) - (m : Int) == 1) = false := beq_eq_false_iff_ne.mpr (by omega)
  have r1 : IntKind.i64.wrap ((b : Int) - (m : Int)) = (b : Int) - (m : Int) := by rw [IntKind.wrap_i64]; omega
  obtain ⟨mid, hmid⟩ : ∃ x, x = (a + b) / 2 := ⟨_, rfl⟩
  have em : ((a : Int) + (b : Int)) / 2 = (mid : Int) := by omega
  have rm0 : IntKind.i64.wrap ((a : Int) + (b : Int)) = (a : Int) + (b : Int) := by rw [IntKind.wrap_i64]; omega
  have rm : IntKind.i64.wrap (mid : Int) = (mid : Int) := by rw [IntKind.wrap_i64]; omega
  obtain ⟨nn, hnn⟩ : ∃ x, x = mid + m := ⟨_, rfl⟩
  have en : (mid : Int) + (m : Int) = (nn : Int) := by omega
  have rn : IntKind.i64.wrap (nn : Int) = (nn : Int) := by rw [IntKind.wrap_i64]; omega
  obtain ⟨p, hp⟩ : ∃ x, x = nn - 1 := ⟨_, rfl⟩
  have ep : (nn : Int) - 1 = (p : Int) := by omega
  have rp : IntKind.i64.wrap (p : Int) = (p : Int) := by rw [IntKind.wrap_i64]; omega
  have p1 : p + 1 ≤ nn := by omega
  have p2 : nn ≤ p + 1 := by omega
  have n1 : nn ≤ mid + m := by omega
  have n2 : mid + m ≤ nn := by omega
  have m1 : 2 * mid ≤ a + b := by omega
  have m2 : a + b ≤ 2 * mid + 1 := by omega
  have HM : Aside (mid = (a + b) / 2) := hmid
  clear hmid hnn hp h0 h1
  go_enter Try.func34, Try.ntmps34
  go_upto_if 140 with (fail)
  clear q0 r0 q1 r1
  go_cut [20, 21] (fun v20 v21 wc => ∃ (lo r0 : Nat), v20 = .int .i64 lo ∧ v21 = .int .i64 r0 ∧ Aside (lo = if mid < m then mid + m - b else a) ∧ Aside (r0 = if mid < m then mid else m) ∧ Aside (SW enc w0 blk off d wc))
  case first =>
    by_cases hgt : mid < m
    · have hgtz : (mid : Int) < (m : Int) := by omega
      obtain ⟨lo, hlo⟩ : ∃ x, x = nn - b := ⟨_, rfl⟩
      have el : (nn : Int) - (b : Int) = (lo : Int) := by omega
      have rl : IntKind.i64.wrap (lo : Int) = (lo : Int) := by rw [IntKind.wrap_i64]; omega
      have HLO : Aside (lo = if mid < m then mid + m - b else a) := by show lo = _; rw [if_pos hgt]; omega
      have HR0 : Aside (mid = if mid < m then mid else m) := by show mid = _; rw [if_pos hgt]
      have hgd : decide ((mid : Int) < (m : Int)) = true := decide_eq_true hgtz
      clear hlo hgt
      go_wp2
      go_meet
      case rel => exact ⟨lo, mid, rfl, rfl, HLO, HR0, S0⟩
    · have hgtz : ¬ (mid : Int) < (m : Int) := by omega
      have HLO : Aside (a = if mid < m then mid + m - b else a) := by show a = _; rw [if_neg hgt]
      have HR0 : Aside (m = if mid < m then mid else m) := by show m = _; rw [if_neg hgt]
      have hgd : decide ((mid : Int) < (m : Int)) = false := decide_eq_false hgtz
      clear hgt
      go_wp2
      go_meet
      case rel => exact ⟨a, m, rfl, rfl, HLO, HR0, S0⟩
  case rest => as_aux_lemma =>
    clear S0
    obtain ⟨lo, r0, rfl, rfl, HLO, HR0, S0⟩ := hcut
    have hb2 : a ≤ lo ∧ r0 ≤ m ∧ r0 ≤ mid ∧ lo ≤ r0 ∧ mid + m ≤ lo + b := by
      have x1 := HLO.out
      have x2 := HR0.out
      by_cases c : mid < m
      · rw [if_pos c] at x1 x2; omega
      · rw [if_neg c] at x1 x2; omega
    obtain ⟨b1, b2, b3, b4, b5⟩ := hb2
    go_wp2
    go_loopg [20, 21] (r0 - lo) (fun g1 vs vr wr => ∃ (s r : Nat), vs = .int .i64 s ∧ vr = .int .i64 r ∧ lo ≤ s ∧ s ≤ r ∧ r ≤ r0 ∧ r - s ≤ g1 ∧ Aside (∀ c, lo ≤ c → c < s → B d[c]! d[mid + m - 1 - c]!) ∧ Aside (∀ c, r ≤ c → c < r0 → B d[mid + m - 1 - c]! d[c]!) ∧ Aside (SW enc w0 blk off d wr))
    case atStart => exact ⟨lo, r0, rfl, rfl, Nat.le_refl _, b4, Nat.le_refl _, Nat.le_refl _, (fun h x1 x2 => by omega), (fun h x1 x2 => by omega), S0⟩
    case round => as_aux_lemma =>
      clear S0
      obtain ⟨s, r, rfl, rfl, hls, hsr', hrr, hg, HI, HJ, S1⟩ := hrel
      by_cases hlt : s < r
      · have hltz : (s : Int) < (r : Int) := by omega
        obtain ⟨c, hc0⟩ : ∃ h, h = (s + r) / 2 := ⟨_, rfl⟩
        have eh : ((s : Int) + (r : Int)) / 2 = (c : Int) := by omega
        have ri : IntKind.i64.wrap ((s : Int) + (r : Int)) = (s : Int) + (r : Int) := by rw [IntKind.wrap_i64]; omega
        have rh : IntKind.i64.wrap (c : Int) = (c : Int) := by rw [IntKind.wrap_i64]; omega
        have c1 : s ≤ c := by omega
        have c2 : c < r := by omega
        obtain ⟨jq, hq0⟩ : ∃ h, h = p - c := ⟨_, rfl⟩
        have eq : (p : Int) - (c : Int) = (jq : Int) := by omega
        have rq : IntKind.i64.wrap (jq : Int) = (jq : Int) := by rw [IntKind.wrap_i64]; omega
        have k1 : jq + c ≤ p := by omega
        have k2 : p ≤ jq + c := by omega
        clear hc0 hq0
        have HX : Aside (mid + m - 1 - c = jq) := by show _ = _; omega
        cases hl : ltOf cf d[jq]! d[c]! with
        | false =>
          obtain ⟨ix, hix⟩ : ∃ q, q = jq := ⟨_, rfl⟩
          have etx : ((jq : Int)).toNat = ix := by omega
          have epx : (0 : Int) ≤ (jq : Int) := by omega
          have ebx : (jq : Int) < (d0.size : Int) := by omega
          have ewx : IntKind.i64.wrap ((jq : Int)) = (jq : Int) := by rw [IntKind.wrap_i64]; omega
          obtain ⟨iy, hiy⟩ : ∃ q, q = c := ⟨_, rfl⟩
          have ety : ((c : Int)).toNat = iy := by omega
          have epy : (0 : Int) ≤ (c : Int) := by omega
          have eby : (c : Int) < (d0.size : Int) := by omega
          have ewy : IntKind.i64.wrap ((c : Int)) = (c : Int) := by rw [IntKind.wrap_i64]; omega
          obtain ⟨x, hx⟩ : ∃ x, x = d[jq]! := ⟨_, rfl⟩
          obtain ⟨y, hy⟩ : ∃ x, x = d[c]! := ⟨_, rfl⟩
          have la := S1.out.cl R (by omega) (jq) (by omega)
          have lb := S1.out.cl R (by omega) (c) (by omega)
          rw [← hx, ← hix] at la
          rw [← hy, ← hiy] at lb
          have hc := S1.out.cmp HC.out (by omega) x y
          have hv : ¬ cf x y < 0 := by rw [hx, hy]; exact of_decide_eq_false hl
          have hd : decide (cf x y < 0) = false := decide_eq_false hv
          clear hx hy hix hiy
          go_wp2_with fail
          go_quiet_grown (first | (go_at_fn g; refine Calls.grown_of (hc _ _)))
          have S2 : Aside (SW enc w0 blk off d (grow (wr.drewN nq) osq)) := S1.out.grown nq osq
          clear la lb hc S1
          generalize grow (wr.drewN nq) osq = w2 at S2 ⊢
          clear nq osq
          clear etx ety
          go_wp2
          go_roundg (r - (c + 1))
          case measure => omega
          case rel => exact ⟨c + 1, r, by first | rfl | go_num, rfl, by omega, by omega, hrr, Nat.le_refl _, (search_go O HM.out ham hmb HLO.out HR0.out HL.out HR.out HV.out hls c1 (by omega) (by rw [HX.out]; exact hl)), HJ, S2⟩
        | true =>
          obtain ⟨ix, hix⟩ : ∃ q, q = jq := ⟨_, rfl⟩
          have etx : ((jq : Int)).toNat = ix := by omega
          have epx : (0 : Int) ≤ (jq : Int) := by omega
          have ebx : (jq : Int) < (d0.size : Int) := by omega
          have ewx : IntKind.i64.wrap ((jq : Int)) = (jq : Int) := by rw [IntKind.wrap_i64]; omega
          obtain ⟨iy, hiy⟩ : ∃ q, q = c := ⟨_, rfl⟩
          have ety : ((c : Int)).toNat = iy := by omega
          have epy : (0 : Int) ≤ (c : Int) := by omega
          have eby : (c : Int) < (d0.size : Int) := by omega
          have ewy : IntKind.i64.wrap ((c : Int)) = (c : Int) := by rw [IntKind.wrap_i64]; omega
          obtain ⟨x, hx⟩ : ∃ x, x = d[jq]! := ⟨_, rfl⟩
          obtain ⟨y, hy⟩ : ∃ x, x = d[c]! := ⟨_, rfl⟩
          have la := S1.out.cl R (by omega) (jq) (by omega)
          have lb := S1.out.cl R (by omega) (c) (by omega)
          rw [← hx, ← hix] at la
          rw [← hy, ← hiy] at lb
          have hc := S1.out.cmp HC.out (by omega) x y
          have hv : cf x y < 0 := by rw [hx, hy]; exact of_decide_eq_true hl
          have hd : decide (cf x y < 0) = true := decide_eq_true hv
          clear hx hy hix hiy
          go_wp2_with fail
          go_quiet_grown (first | (go_at_fn g; refine Calls.grown_of (hc _ _)))
          have S2 : Aside (SW enc w0 blk off d (grow (wr.drewN nq) osq)) := S1.out.grown nq osq
          clear la lb hc S1
          generalize grow (wr.drewN nq) osq = w2 at S2 ⊢
          clear nq osq
          clear etx ety
          go_wp2
          go_roundg (c - s)
          case measure => omega
          case rel => exact ⟨s, c, rfl, by first | rfl | go_num, hls, c1, by omega, Nat.le_refl _, HI, (search_stop O HM.out ham hmb HLO.out HR0.out HL.out HR.out HV.out (by omega) c2 hrr (by rw [HX.out]; exact hl)), S2⟩
      · have hltz : ¬ (s : Int) < (r : Int) := by omega
        obtain rfl : s = r := by omega
        have C0 := cross_of O hmb HM.out HLO.out HR0.out HL.out HR.out hls hrr HI.out HJ.out
        obtain ⟨e, he0⟩ : ∃ h, h = nn - s := ⟨_, rfl⟩
        have ee : (nn : Int) - (s : Int) = (e : Int) := by omega
        have re : IntKind.i64.wrap (e : Int) = (e : Int) := by rw [IntKind.wrap_i64]; omega
        have k1 : e + s ≤ nn := by omega
        have k2 : nn ≤ e + s := by omega
        have k3 : e ≤ b := by omega
        have k4 : m ≤ e := by omega
        have HE : Aside (mid + m - s = e) := by show _ = _; omega
        have HC0 : Aside (Cross B a m b mid s d) := C0
        clear he0 C0 HI HJ
        go_upto_region 39 with (fail)
        go_cut [185] (fun v185 wc => v185 = .bool (decide (s < m ∧ m < e)) ∧ Aside (SW enc w0 blk off d wc))
        case first =>
          by_cases hp1 : s < m
          · have hp1z : (s : Int) < (m : Int) := by omega
            by_cases hp2 : m < e
            · have hp2z : (m : Int) < (e : Int) := by omega
              go_wp2
              go_meet
              case rel => exact ⟨congrArg Value.bool (decide_eq_true (p := s < m ∧ m < e) ⟨hp1, hp2⟩).symm, S1⟩
            · have hp2z : ¬ (m : Int) < (e : Int) := by omega
              go_wp2
              go_meet
              case rel => exact ⟨congrArg Value.bool (decide_eq_false (p := s < m ∧ m < e) (by omega)).symm, S1⟩
          · have hp1z : ¬ (s : Int) < (m : Int) := by omega
            go_wp2
            go_meet
            case rel => exact ⟨congrArg Value.bool (decide_eq_false (p := s < m ∧ m < e) (by omega)).symm, S1⟩
        case rest => as_aux_lemma =>
          clear S1
          obtain ⟨rfl, S1⟩ := hcut
          go_upto_if 185 with (fail)
          go_cut [24] (fun v24 wc => v24 = .int .i64 e ∧ ∃ (d1 : Array α), Aside (RotB s m e d d1) ∧ Aside (SW enc w0 blk off d1 wc))
          case first =>
            by_cases hp : s < m ∧ m < e
            · have hpd : decide (s < m ∧ m < e) = true := decide_eq_true hp
              have hsm := hp.1
              have hme := hp.2
              clear hp
              rw [hpd]
              go_wp2_with fail
              refine (rotate_s enc (.func (.func g) #[] cb) blk off cap s m e d0 d w0 _ R hs S1.out hsm hme (by omega) (by omega)).mono ?_
              rintro e_ w9 ⟨rfl, d9, hd9, hS9⟩
              have HD : Aside (RotB s m e d d9) := hd9
              have S9 : Aside (SW enc w0 blk off d9 w9) := hS9
              clear hd9 hS9 S1
              go_wp2
              go_meet
              case rel => exact ⟨rfl, d9, HD, S9⟩
            · have hpd : decide (s < m ∧ m < e) = false := decide_eq_false hp
              have HD : Aside (RotB s m e d d) := RotB.none_ d (by omega) (by omega) k4
              clear hp
              rw [hpd]
              go_wp2
              go_meet
              case rel => exact ⟨rfl, d, HD, S1⟩
          case rest => as_aux_lemma =>
            clear S1
            obtain ⟨rfl, d1, HD, S1⟩ := hcut
            have X0 := cross_split HC0.out hmb HM.out (by omega) HL.out HR.out HV.out (by rw [HE.out]; exact HD.out)
            rw [HE.out] at X0
            have X : Aside _ := X0
            have hs1 : d1.size = d0.size := HD.out.1.trans hs
            clear X0
            go_upto_region 41 with (fail)
            go_cut [199] (fun v199 wc => v199 = .bool (decide (a < s ∧ s < mid)) ∧ Aside (SW enc w0 blk off d1 wc))
            case first =>
              by_cases hp1 : a < s
              · have hp1z : (a : Int) < (s : Int) := by omega
                by_cases hp2 : s < mid
                · have hp2z : (s : Int) < (mid : Int) := by omega
                  go_wp2
                  go_meet
                  case rel => exact ⟨congrArg Value.bool (decide_eq_true (p := a < s ∧ s < mid) ⟨hp1, hp2⟩).symm, S1⟩
                · have hp2z : ¬ (s : Int) < (mid : Int) := by omega
                  go_wp2
                  go_meet
                  case rel => exact ⟨congrArg Value.bool (decide_eq_false (p := a < s ∧ s < mid) (by omega)).symm, S1⟩
              · have hp1z : ¬ (a : Int) < (s : Int) := by omega
                go_wp2
                go_meet
                case rel => exact ⟨congrArg Value.bool (decide_eq_false (p := a < s ∧ s < mid) (by omega)).symm, S1⟩
            case rest => as_aux_lemma =>
              clear S1
              obtain ⟨rfl, S1⟩ := hcut
              go_upto_if 199 with (fail)
              go_cut [24] (fun v24 wc => v24 = .int .i64 e ∧ ∃ (d2 : Array α), Aside (Srt B a mid d2 ∧ Within a mid d1 d2) ∧ Aside (SW enc w0 blk off d2 wc))
              case first =>
                by_cases hp : a < s ∧ s < mid
                · have hpd : decide (a < s ∧ s < mid) = true := decide_eq_true hp
                  have has := hp.1
                  have hsm := hp.2
                  clear hp
                  rw [hpd]
                  go_wp2_with fail
                  refine (IH.out a s mid d1 _ (by omega) S1.out hs1 has hsm (by omega) X.out.1 X.out.2.1 X.out.2.2.1).mono ?_
                  rintro e_ w9 ⟨rfl, d9, hd9, hW9, hS9⟩
                  have HD2 : Aside (Srt B a mid d9 ∧ Within a mid d1 d9) := ⟨hd9, hW9⟩
                  have S9 : Aside (SW enc w0 blk off d9 w9) := hS9
                  clear hd9 hW9 hS9 S1
                  go_wp2
                  go_meet
                  case rel => exact ⟨rfl, d9, HD2, S9⟩
                · have hpd : decide (a < s ∧ s < mid) = false := decide_eq_false hp
                  have HD2 : Aside (Srt B a mid d1 ∧ Within a mid d1 d1) := ⟨by
                    by_cases c : a = s
                    · rw [c]; exact X.out.2.1
                    · rw [show mid = s by omega]; exact X.out.1, Within.refl _ _ _⟩
                  clear hp
                  rw [hpd]
                  go_wp2
                  go_meet
                  case rel => exact ⟨rfl, d1, HD2, S1⟩
              case rest => as_aux_lemma =>
                clear S1
                obtain ⟨rfl, d2, HD2, S2⟩ := hcut
                have hs2 : d2.size = d0.size := HD2.out.2.1.trans hs1
                have E2 : Aside (∀ i, mid ≤ i → i < b → d2[i]! = d1[i]!) := fun i x1 x2 => HD2.out.2.2.1 i (by omega) (Or.inr x1)
                go_upto_region 43 with (fail)
                go_cut [213] (fun v213 wc => v213 = .bool (decide (mid < e ∧ e < b)) ∧ Aside (SW enc w0 blk off d2 wc))
                case first =>
                  by_cases hp1 : mid < e
                  · have hp1z : (mid : Int) < (e : Int) := by omega
                    by_cases hp2 : e < b
                    · have hp2z : (e : Int) < (b : Int) := by omega
                      go_wp2
                      go_meet
                      case rel => exact ⟨congrArg Value.bool (decide_eq_true (p := mid < e ∧ e < b) ⟨hp1, hp2⟩).symm, S2⟩
                    · have hp2z : ¬ (e : Int) < (b : Int) := by omega
                      go_wp2
                      go_meet
                      case rel => exact ⟨congrArg Value.bool (decide_eq_false (p := mid < e ∧ e < b) (by omega)).symm, S2⟩
                  · have hp1z : ¬ (mid : Int) < (e : Int) := by omega
                    go_wp2
                    go_meet
                    case rel => exact ⟨congrArg Value.bool (decide_eq_false (p := mid < e ∧ e < b) (by omega)).symm, S2⟩
                case rest => as_aux_lemma =>
                  clear S2
                  obtain ⟨rfl, S2⟩ := hcut
                  go_upto_if 213 with (fail)
                  by_cases hp : mid < e ∧ e < b
                  · have hpd : decide (mid < e ∧ e < b) = true := decide_eq_true hp
                    have hme := hp.1
                    have heb := hp.2
                    clear hp
                    rw [hpd]
                    go_wp2_with fail
                    refine (IH.out mid e b d2 _ (by omega) S2.out hs2 hme heb hb (X.out.2.2.2.1.of_eq fun i x1 x2 => E2.out i x1 (by omega)) (X.out.2.2.2.2.1.of_eq fun i x1 x2 => E2.out i (by omega) x2) (fun i j x1 x2 x3 x4 => by rw [E2.out i x1 (by omega), E2.out j (by omega) x4]; exact X.out.2.2.2.2.2.1 i j x1 x2 x3 x4)).mono ?_
                    rintro e_ w9 ⟨rfl, d9, hd9, hW9, hS9⟩
                    have q := merge_join (by omega) (by omega) (by omega) X.out.2.2.2.2.2.2.2 X.out.2.2.2.2.2.2.1 HD2.out ⟨hd9, hW9⟩
                    have Q : Aside (Srt B a b d9 ∧ Within a b d d9) := q
                    have S9 : Aside (SW enc w0 blk off d9 w9) := hS9
                    clear hd9 hW9 hS9 S2 q
                    go_wp2
                    go_end0
                    exact ⟨rfl, d9, Q.out.1, Q.out.2, S9.out⟩
                  · have hpd : decide (mid < e ∧ e < b) = false := decide_eq_false hp
                    have q := merge_join (d3 := d2) (by omega) (by omega) (by omega) X.out.2.2.2.2.2.2.2 X.out.2.2.2.2.2.2.1 HD2.out ⟨by
                      by_cases c : e = b
                      · have := X.out.2.2.2.1; rw [c] at this; exact this.of_eq E2.out
                      · have := X.out.2.2.2.2.1; rw [show e = mid by omega] at this; exact this.of_eq E2.out, Within.refl mid b d2⟩
                    have Q : Aside (Srt B a b d2 ∧ Within a b d d2) := q
                    clear q hp
                    rw [hpd]
                    go_wp2
                    go_end0
                    exact ⟨rfl, d2, Q.out.1, Q.out.2, S2.out⟩

theorem symMerge_s (enc : α → Value) (cf : α → α → Int) (g : Nat) (cb : Array Value) (B V : α → α → Prop) (O : Ord B V (ltOf cf)) (blk off cap : Nat) (d0 : Array α) (w0 : World) (eg : ∀ args w, (callFunc g args).run Try.prog w = .ok (.enter g args) w) (hcmp : CmpLays1 Try.prog g cb enc cf blk off d0.size w0) (R : Row1 enc w0 blk off d0) (hsz : d0.size < 2305843009213693952) : ∀ (n : Nat) (a m b : Nat) (d : Array α) (w : World), b - a = n → SW enc w0 blk off d w → d.size = d0.size → a < m → m < b → b ≤ d0.size → Srt B a m d → Srt B m b d → Ahead V a m b d →
    Calls Try.prog 34 #[.slice (some ⟨blk, off, none⟩) d0.size cap, .int .i64 a, .int .i64 m, .int .i64 b, .func (.func g) #[] cb] w fun e w' => e = .returned (.tuple #[]) ∧ ∃ d', Srt B a b d' ∧ Within a b d d' ∧ SW enc w0 blk off d' w' := by
  intro n
  induction n using Nat.strongRecOn with
  | _ n ih =>
    intro a m b d w hn S hs ham hmb hb hsl hsr hV
    by_cases h0 : m = a + 1
    · exact symMerge_one enc cf g cb B V O blk off cap d0 w0 eg hcmp R hsz a m b d w S hs ham hmb hb hsl hsr hV h0
    by_cases h1 : b = m + 1
    · exact symMerge_last enc cf g cb B V O blk off cap d0 w0 eg hcmp R hsz a m b d w S hs ham hmb hb hsl hsr hV h0 h1
    exact symMerge_mid enc cf g cb B V O blk off cap d0 w0 eg hcmp R hsz a m b d w S hs ham hmb hb hsl hsr hV h0 h1 n (fun a m b d w hlt => ih (b - a) hlt a m b d w rfl) hn.symm

end Go.Proofs.Ytfccbbbejjdakaa
