/- slices.symMergeCmpFunc at elements of one cell: two sorted blocks made one. Printed by wip/gen/gen_SortB.py. -/
import Derived.Test.YtfccbbbejjdakaaSortA
namespace Go.Proofs.Ytfccbbbejjdakaa
open Go.Shelf Go.RowKit Go.Lib Go.Sort Go.Proofs
variable {α : Type} [Inhabited α]

set_option maxHeartbeats 16000000 in
set_option maxRecDepth 1000000 in
theorem symMerge_one (enc : α → Value) (cf : α → α → Int) (g : Nat) (cb : Array Value) (B V : α → α → Prop) (O : Ord B V (ltOf cf)) (blk off cap : Nat) (d0 : Array α) (w0 : World) (eg : ∀ args w, (callFunc g args).run Try.prog w = .ok (.enter g args) w) (hcmp : CmpLays1 Try.prog g cb enc cf blk off d0.size w0) (R : Row1 enc w0 blk off d0) (hsz : d0.size < 2305843009213693952) (a m b : Nat) (d : Array α) (w : World) (S : SW enc w0 blk off d w) (hs : d.size = d0.size) (ham : a < m) (hmb : m < b) (hb : b ≤ d0.size) (hsl : Srt B a m d) (hsr : Srt B m b d) (hV : Ahead V a m b d) (h1 : m = a + 1) :
    Calls Try.prog 34 #[.slice (some ⟨blk, off, none⟩) d0.size cap, .int .i64 a, .int .i64 m, .int .i64 b, .func (.func g) #[] cb] w fun e w' => e = .returned (.tuple #[]) ∧ ∃ d', Srt B a b d' ∧ Within a b d d' ∧ SW enc w0 blk off d' w' := by
  have mixed : Try.prog.follows .mixedOrders = true := by kernel_rfl
  have hcl0 := R.hO.cells
  simp only [Value.cells] at hcl0
  have hst := R.hO.store Try.prog
  have HC : Aside _ := hcmp
  have S0 : Aside (SW enc w0 blk off d w) := S
  have HL : Aside _ := hsl
  have HR : Aside _ := hsr
  have HV : Aside _ := hV
  clear S hcmp hsl hsr hV
  have e1 : (m : Int) - (a : Int) = 1 := by omega
  have hm1 : m ≤ a + 1 := by omega
  clear h1
  go_enter Try.func34, Try.ntmps34
  go_wp2
  clear e1
  go_loopg [10, 11] (b - m) (fun g1 vi vj wr => ∃ (i j : Nat), vi = .int .i64 i ∧ vj = .int .i64 j ∧ m ≤ i ∧ i ≤ j ∧ j ≤ b ∧ j - i ≤ g1 ∧ Aside (∀ h, a + 1 ≤ h → h < i → B d[h]! d[a]!) ∧ Aside (∀ h, j ≤ h → h < b → B d[a]! d[h]!) ∧ Aside (SW enc w0 blk off d wr))
  case atStart => exact ⟨m, b, rfl, rfl, Nat.le_refl _, by omega, Nat.le_refl _, Nat.le_refl _, (fun h x1 x2 => by omega), (fun h x1 x2 => by omega), S0⟩
  case round =>
    clear S0
    obtain ⟨i, j, rfl, rfl, hmi, hij, hjb, hg, HI, HJ, S1⟩ := hrel
    by_cases hlt : i < j
    · have hltz : (i : Int) < (j : Int) := by omega
      obtain ⟨h, hh⟩ : ∃ h, h = (i + j) / 2 := ⟨_, rfl⟩
      have eh : ((i : Int) + (j : Int)) / 2 = (h : Int) := by omega
      have hh1 : i ≤ h := by omega
      have hh2 : h < j := by omega
      clear hh
      have ri : IntKind.i64.wrap ((i : Int) + (j : Int)) = (i : Int) + (j : Int) := by rw [IntKind.wrap_i64]; omega
      have rh : IntKind.i64.wrap (h : Int) = (h : Int) := by rw [IntKind.wrap_i64]; omega
      cases hl : ltOf cf d[h]! d[a]! with
      | true =>
        obtain ⟨ix, hix⟩ : ∃ q, q = h := ⟨_, rfl⟩
        have etx : ((h : Int)).toNat = ix := by omega
        have epx : (0 : Int) ≤ (h : Int) := by omega
        have ebx : (h : Int) < (d0.size : Int) := by omega
        have ewx : IntKind.i64.wrap ((h : Int)) = (h : Int) := by rw [IntKind.wrap_i64]; omega
        obtain ⟨iy, hiy⟩ : ∃ q, q = a := ⟨_, rfl⟩
        have ety : ((a : Int)).toNat = iy := by omega
        have epy : (0 : Int) ≤ (a : Int) := by omega
        have eby : (a : Int) < (d0.size : Int) := by omega
        have ewy : IntKind.i64.wrap ((a : Int)) = (a : Int) := by rw [IntKind.wrap_i64]; omega
        obtain ⟨x, hx⟩ : ∃ x, x = d[h]! := ⟨_, rfl⟩
        obtain ⟨y, hy⟩ : ∃ x, x = d[a]! := ⟨_, rfl⟩
        have la := S1.out.cl R (by omega) (h) (by omega)
        have lb := S1.out.cl R (by omega) (a) (by omega)
        rw [← hx, ← hix] at la
        rw [← hy, ← hiy] at lb
        have hc := S1.out.cmp HC.out (by omega) x y
        have hv : cf x y < 0 := by rw [hx, hy]; exact of_decide_eq_true hl
        have hd : decide (cf x y < 0) = true := decide_eq_true hv
        clear hx hy hix hiy
        go_wp2_with fail
        go_quiet_grown (first | (go_at_fn g; refine Calls.grown_of (hc _ _)))
        have S2 : Aside (SW enc w0 blk off d (grow (wr.drewN nq) osq)) := S1.out.grown nq osq
        clear la lb hc S1
        generalize grow (wr.drewN nq) osq = w2 at S2 ⊢
        clear nq osq
        clear etx ety
        go_wp2
        go_roundg (j - (h + 1))
        case measure => omega
        case rel => exact ⟨h + 1, j, by first | rfl | go_num, rfl, by omega, by omega, hjb, Nat.le_refl _, (fun q x1 x2 => by
          have b1 := O.yes _ _ (HV.out a h (by omega) (by omega) (by omega) (by omega)) hl
          by_cases e : q = h
          · rw [e]; exact b1
          · exact O.tr _ _ _ (HR.out q h (by omega) (by omega) (by omega)) b1), HJ, S2⟩
      | false =>
        obtain ⟨ix, hix⟩ : ∃ q, q = h := ⟨_, rfl⟩
        have etx : ((h : Int)).toNat = ix := by omega
        have epx : (0 : Int) ≤ (h : Int) := by omega
        have ebx : (h : Int) < (d0.size : Int) := by omega
        have ewx : IntKind.i64.wrap ((h : Int)) = (h : Int) := by rw [IntKind.wrap_i64]; omega
        obtain ⟨iy, hiy⟩ : ∃ q, q = a := ⟨_, rfl⟩
        have ety : ((a : Int)).toNat = iy := by omega
        have epy : (0 : Int) ≤ (a : Int) := by omega
        have eby : (a : Int) < (d0.size : Int) := by omega
        have ewy : IntKind.i64.wrap ((a : Int)) = (a : Int) := by rw [IntKind.wrap_i64]; omega
        obtain ⟨x, hx⟩ : ∃ x, x = d[h]! := ⟨_, rfl⟩
        obtain ⟨y, hy⟩ : ∃ x, x = d[a]! := ⟨_, rfl⟩
        have la := S1.out.cl R (by omega) (h) (by omega)
        have lb := S1.out.cl R (by omega) (a) (by omega)
        rw [← hx, ← hix] at la
        rw [← hy, ← hiy] at lb
        have hc := S1.out.cmp HC.out (by omega) x y
        have hv : ¬ cf x y < 0 := by rw [hx, hy]; exact of_decide_eq_false hl
        have hd : decide (cf x y < 0) = false := decide_eq_false hv
        clear hx hy hix hiy
        go_wp2_with fail
        go_quiet_grown (first | (go_at_fn g; refine Calls.grown_of (hc _ _)))
        have S2 : Aside (SW enc w0 blk off d (grow (wr.drewN nq) osq)) := S1.out.grown nq osq
        clear la lb hc S1
        generalize grow (wr.drewN nq) osq = w2 at S2 ⊢
        clear nq osq
        clear etx ety
        go_wp2
        go_roundg (h - i)
        case measure => omega
        case rel => exact ⟨i, h, rfl, by first | rfl | go_num, hmi, by omega, by omega, Nat.le_refl _, HI, (fun q x1 x2 => by
          have b1 := O.no _ _ (HV.out a h (by omega) (by omega) (by omega) (by omega)) hl
          by_cases e : q = h
          · rw [e]; exact b1
          · exact O.tr _ _ _ b1 (HR.out h q (by omega) (by omega) (by omega))), S2⟩
    · have hltz : ¬ (i : Int) < (j : Int) := by omega
      obtain rfl : i = j := by omega
      go_wp2
      go_loopg [13] (i - 1 - a) (fun g2 vk wr => ∃ (k : Nat) (dk : Array α), vk = .int .i64 k ∧ a ≤ k ∧ k ≤ i - 1 ∧ i - 1 - k ≤ g2 ∧ Aside (ShiftUp a k d dk) ∧ Aside (SW enc w0 blk off dk wr))
      case atStart => exact ⟨a, d, rfl, Nat.le_refl _, by omega, Nat.le_refl _, ShiftUp.zero a d, S1⟩
      case round =>
        clear S1
        obtain ⟨k, dk, rfl, hak, hki, hg2, HP, SK⟩ := hrel
        have hsk : dk.size = d.size := HP.out.1
        have ei : (i : Int) - 1 = ((i - 1 : Nat) : Int) := by omega
        have ri : IntKind.i64.wrap (((i - 1 : Nat) : Int)) = ((i - 1 : Nat) : Int) := by rw [IntKind.wrap_i64]; omega
        by_cases hlt2 : k < i - 1
        · have hltz2 : (k : Int) < ((i - 1 : Nat) : Int) := by omega
          obtain ⟨ix, hix⟩ : ∃ q, q = k := ⟨_, rfl⟩
          have etx : ((k : Int)).toNat = ix := by omega
          have epx : (0 : Int) ≤ (k : Int) := by omega
          have ebx : (k : Int) < (d0.size : Int) := by omega
          have ewx : IntKind.i64.wrap ((k : Int)) = (k : Int) := by rw [IntKind.wrap_i64]; omega
          obtain ⟨iy, hiy⟩ : ∃ q, q = k + 1 := ⟨_, rfl⟩
          have ety : ((k : Int) + 1).toNat = iy := by omega
          have epy : (0 : Int) ≤ (k : Int) + 1 := by omega
          have eby : (k : Int) + 1 < (d0.size : Int) := by omega
          have ewy : IntKind.i64.wrap ((k : Int) + 1) = (k : Int) + 1 := by rw [IntKind.wrap_i64]; omega
          obtain ⟨x, hx⟩ : ∃ x, x = dk[k]! := ⟨_, rfl⟩
          obtain ⟨y, hy⟩ : ∃ x, x = dk[k + 1]! := ⟨_, rfl⟩
          have S3 : Aside (SW enc w0 blk off (swp dk (k) (k + 1)) ((wr.setCell ⟨blk, off + ix, none⟩ (enc y)).setCell ⟨blk, off + iy, none⟩ (enc x)).drew) := by rw [hix, hiy, hx, hy]; exact SK.out.swapped R (k) (k + 1) (by omega) (by omega)
          have c1a := SK.out.c1 R (by omega) (k) (by omega)
          have c1b := SK.out.c1 R (by omega) (k + 1) (by omega)
          have f1a := SK.out.f1 R (by omega) (k) (by omega)
          have f1b := SK.out.f1 R (by omega) (k + 1) (by omega)
          obtain ⟨u1, c1c⟩ := SK.out.c2 R (by omega) (k) (k + 1) (by omega) (by omega) (enc y)
          replace c1c : (wr.setCell ⟨blk, off + ix, none⟩ (enc y)).cell? ⟨blk, off + iy, none⟩ = some u1 := by rw [hix, hiy]; exact c1c
          replace c1a : wr.cell? ⟨blk, off + ix, none⟩ = some (enc x) := by rw [hix, hx]; exact c1a
          replace c1b : wr.cell? ⟨blk, off + iy, none⟩ = some (enc y) := by rw [hiy, hy]; exact c1b
          replace f1a : wr.frozen? ⟨blk, off + ix, none⟩ = false := by rw [hix]; exact f1a
          replace f1b : wr.frozen? ⟨blk, off + iy, none⟩ = false := by rw [hiy]; exact f1b
          clear SK hx hy hix hiy
          go_wp2_with fail
          go_big_region_o
          clear c1a c1b c1c f1a f1b
          generalize ((wr.setCell ⟨blk, off + ix, none⟩ (enc y)).setCell ⟨blk, off + iy, none⟩ (enc x)).drew = w3 at S3 ⊢
          clear etx ety
          go_wp2
          go_roundg (i - 1 - (k + 1))
          case measure => omega
          case rel => exact ⟨k + 1, swp dk k (k + 1), by first | rfl | go_num, by omega, by omega, Nat.le_refl _, HP.out.step hak (by omega), S3⟩
        · have hltz2 : ¬ (k : Int) < ((i - 1 : Nat) : Int) := by omega
          go_wp2
          refine bodyPost_ret (results_none rfl _ _ _) rfl ?_
          obtain rfl : k = i - 1 := by omega
          have q := shiftUp_ok (by omega) hjb (by omega) (fun p q p1 p2 p3 => HR.out p q (by omega) p2 p3) HI.out HJ.out HP.out
          exact ⟨rfl, dk, q.1, q.2, SK.out⟩

set_option maxHeartbeats 16000000 in
set_option maxRecDepth 1000000 in
theorem symMerge_last (enc : α → Value) (cf : α → α → Int) (g : Nat) (cb : Array Value) (B V : α → α → Prop) (O : Ord B V (ltOf cf)) (blk off cap : Nat) (d0 : Array α) (w0 : World) (eg : ∀ args w, (callFunc g args).run Try.prog w = .ok (.enter g args) w) (hcmp : CmpLays1 Try.prog g cb enc cf blk off d0.size w0) (R : Row1 enc w0 blk off d0) (hsz : d0.size < 2305843009213693952) (a m b : Nat) (d : Array α) (w : World) (S : SW enc w0 blk off d w) (hs : d.size = d0.size) (ham : a < m) (hmb : m < b) (hb : b ≤ d0.size) (hsl : Srt B a m d) (hsr : Srt B m b d) (hV : Ahead V a m b d) (h0 : ¬ m = a + 1) (h1 : b = m + 1) :
    Calls Try.prog 34 #[.slice (some ⟨blk, off, none⟩) d0.size cap, .int .i64 a, .int .i64 m, .int .i64 b, .func (.func g) #[] cb] w fun e w' => e = .returned (.tuple #[]) ∧ ∃ d', Srt B a b d' ∧ Within a b d d' ∧ SW enc w0 blk off d' w' := by
  have mixed : Try.prog.follows .mixedOrders = true := by kernel_rfl
  have hcl0 := R.hO.cells
  simp only [Value.cells] at hcl0
  have hst := R.hO.store Try.prog
  have HC : Aside _ := hcmp
  have S0 : Aside (SW enc w0 blk off d w) := S
  have HL : Aside _ := hsl
  have HR : Aside _ := hsr
  have HV : Aside _ := hV
  clear S hcmp hsl hsr hV
  have e1 : (b : Int) - (m : Int) = 1 := by omega
  have hb1 : b ≤ m + 1 := by omega
  clear h1
  have q0 : ((m : Int) - (a : Int) == 1) = false := beq_eq_false_iff_ne.mpr (by omega)
  have r0 : IntKind.i64.wrap ((m : Int) - (a : Int)) = (m : Int) - (a : Int) := by rw [IntKind.wrap_i64]; omega
  go_enter Try.func34, Try.ntmps34
  go_wp2
  clear e1 q0 r0
  go_loopg [14, 15] (m - a) (fun g1 vi vj wr => ∃ (i j : Nat), vi = .int .i64 i ∧ vj = .int .i64 j ∧ a ≤ i ∧ i ≤ j ∧ j ≤ m ∧ j - i ≤ g1 ∧ Aside (∀ h, a ≤ h → h < i → B d[h]! d[m]!) ∧ Aside (∀ h, j ≤ h → h < m → B d[m]! d[h]!) ∧ Aside (SW enc w0 blk off d wr))
  case atStart => exact ⟨a, m, rfl, rfl, Nat.le_refl _, by omega, Nat.le_refl _, Nat.le_refl _, (fun h x1 x2 => by omega), (fun h x1 x2 => by omega), S0⟩
  case round =>
    clear S0
    obtain ⟨i, j, rfl, rfl, hmi, hij, hjb, hg, HI, HJ, S1⟩ := hrel
    by_cases hlt : i < j
    · have hltz : (i : Int) < (j : Int) := by omega
      obtain ⟨h, hh⟩ : ∃ h, h = (i + j) / 2 := ⟨_, rfl⟩
      have eh : ((i : Int) + (j : Int)) / 2 = (h : Int) := by omega
      have hh1 : i ≤ h := by omega
      have hh2 : h < j := by omega
      clear hh
      have ri : IntKind.i64.wrap ((i : Int) + (j : Int)) = (i : Int) + (j : Int) := by rw [IntKind.wrap_i64]; omega
      have rh : IntKind.i64.wrap (h : Int) = (h : Int) := by rw [IntKind.wrap_i64]; omega
      cases hl : ltOf cf d[m]! d[h]! with
      | false =>
        obtain ⟨ix, hix⟩ : ∃ q, q = m := ⟨_, rfl⟩
        have etx : ((m : Int)).toNat = ix := by omega
        have epx : (0 : Int) ≤ (m : Int) := by omega
        have ebx : (m : Int) < (d0.size : Int) := by omega
        have ewx : IntKind.i64.wrap ((m : Int)) = (m : Int) := by rw [IntKind.wrap_i64]; omega
        obtain ⟨iy, hiy⟩ : ∃ q, q = h := ⟨_, rfl⟩
        have ety : ((h : Int)).toNat = iy := by omega
        have epy : (0 : Int) ≤ (h : Int) := by omega
        have eby : (h : Int) < (d0.size : Int) := by omega
        have ewy : IntKind.i64.wrap ((h : Int)) = (h : Int) := by rw [IntKind.wrap_i64]; omega
        obtain ⟨x, hx⟩ : ∃ x, x = d[m]! := ⟨_, rfl⟩
        obtain ⟨y, hy⟩ : ∃ x, x = d[h]! := ⟨_, rfl⟩
        have la := S1.out.cl R (by omega) (m) (by omega)
        have lb := S1.out.cl R (by omega) (h) (by omega)
        rw [← hx, ← hix] at la
        rw [← hy, ← hiy] at lb
        have hc := S1.out.cmp HC.out (by omega) x y
        have hv : ¬ cf x y < 0 := by rw [hx, hy]; exact of_decide_eq_false hl
        have hd : decide (cf x y < 0) = false := decide_eq_false hv
        clear hx hy hix hiy
        go_wp2_with fail
        go_quiet_grown (first | (go_at_fn g; refine Calls.grown_of (hc _ _)))
        have S2 : Aside (SW enc w0 blk off d (grow (wr.drewN nq) osq)) := S1.out.grown nq osq
        clear la lb hc S1
        generalize grow (wr.drewN nq) osq = w2 at S2 ⊢
        clear nq osq
        clear etx ety
        go_wp2
        go_roundg (j - (h + 1))
        case measure => omega
        case rel => exact ⟨h + 1, j, by first | rfl | go_num, rfl, by omega, by omega, hjb, Nat.le_refl _, (fun q x1 x2 => by
          have b1 := O.no _ _ (HV.out h m (by omega) (by omega) (by omega) (by omega)) hl
          by_cases e : q = h
          · rw [e]; exact b1
          · exact O.tr _ _ _ (HL.out q h (by omega) (by omega) (by omega)) b1), HJ, S2⟩
      | true =>
        obtain ⟨ix, hix⟩ : ∃ q, q = m := ⟨_, rfl⟩
        have etx : ((m : Int)).toNat = ix := by omega
        have epx : (0 : Int) ≤ (m : Int) := by omega
        have ebx : (m : Int) < (d0.size : Int) := by omega
        have ewx : IntKind.i64.wrap ((m : Int)) = (m : Int) := by rw [IntKind.wrap_i64]; omega
        obtain ⟨iy, hiy⟩ : ∃ q, q = h := ⟨_, rfl⟩
        have ety : ((h : Int)).toNat = iy := by omega
        have epy : (0 : Int) ≤ (h : Int) := by omega
        have eby : (h : Int) < (d0.size : Int) := by omega
        have ewy : IntKind.i64.wrap ((h : Int)) = (h : Int) := by rw [IntKind.wrap_i64]; omega
        obtain ⟨x, hx⟩ : ∃ x, x = d[m]! := ⟨_, rfl⟩
        obtain ⟨y, hy⟩ : ∃ x, x = d[h]! := ⟨_, rfl⟩
        have la := S1.out.cl R (by omega) (m) (by omega)
        have lb := S1.out.cl R (by omega) (h) (by omega)
        rw [← hx, ← hix] at la
        rw [← hy, ← hiy] at lb
        have hc := S1.out.cmp HC.out (by omega) x y
        have hv : cf x y < 0 := by rw [hx, hy]; exact of_decide_eq_true hl
        have hd : decide (cf x y < 0) = true := decide_eq_true hv
        clear hx hy hix hiy
        go_wp2_with fail
        go_quiet_grown (first | (go_at_fn g; refine Calls.grown_of (hc _ _)))
        have S2 : Aside (SW enc w0 blk off d (grow (wr.drewN nq) osq)) := S1.out.grown nq osq
        clear la lb hc S1
        generalize grow (wr.drewN nq) osq = w2 at S2 ⊢
        clear nq osq
        clear etx ety
        go_wp2
        go_roundg (h - i)
        case measure => omega
        case rel => exact ⟨i, h, rfl, by first | rfl | go_num, hmi, by omega, by omega, Nat.le_refl _, HI, (fun q x1 x2 => by
          have b1 := O.yes _ _ (HV.out h m (by omega) (by omega) (by omega) (by omega)) hl
          by_cases e : q = h
          · rw [e]; exact b1
          · exact O.tr _ _ _ b1 (HL.out h q (by omega) (by omega) (by omega))), S2⟩
    · have hltz : ¬ (i : Int) < (j : Int) := by omega
      obtain rfl : i = j := by omega
      go_wp2
      go_loopg [17] (m - i) (fun g2 vk wr => ∃ (k : Nat) (dk : Array α), vk = .int .i64 k ∧ i ≤ k ∧ k ≤ m ∧ k - i ≤ g2 ∧ Aside (ShiftDn k m d dk) ∧ Aside (SW enc w0 blk off dk wr))
      case atStart => exact ⟨m, d, rfl, hjb, Nat.le_refl _, Nat.le_refl _, ShiftDn.zero m d, S1⟩
      case round =>
        clear S1
        obtain ⟨k, dk, rfl, hak, hki, hg2, HP, SK⟩ := hrel
        have hsk : dk.size = d.size := HP.out.1
        by_cases hlt2 : i < k
        · obtain ⟨k, rfl⟩ : ∃ p, k = p + 1 := ⟨k - 1, by omega⟩
          have hltz2 : (i : Int) < (k : Int) + 1 := by omega
          obtain ⟨ix, hix⟩ : ∃ q, q = k + 1 := ⟨_, rfl⟩
          have etx : ((k : Int) + 1).toNat = ix := by omega
          have epx : (0 : Int) ≤ (k : Int) + 1 := by omega
          have ebx : (k : Int) + 1 < (d0.size : Int) := by omega
          have ewx : IntKind.i64.wrap ((k : Int) + 1) = (k : Int) + 1 := by rw [IntKind.wrap_i64]; omega
          obtain ⟨iy, hiy⟩ : ∃ q, q = k := ⟨_, rfl⟩
          have ety : ((k : Int)).toNat = iy := by omega
          have epy : (0 : Int) ≤ (k : Int) := by omega
          have eby : (k : Int) < (d0.size : Int) := by omega
          have ewy : IntKind.i64.wrap ((k : Int)) = (k : Int) := by rw [IntKind.wrap_i64]; omega
          obtain ⟨x, hx⟩ : ∃ x, x = dk[k + 1]! := ⟨_, rfl⟩
          obtain ⟨y, hy⟩ : ∃ x, x = dk[k]! := ⟨_, rfl⟩
          have S3 : Aside (SW enc w0 blk off (swp dk (k + 1) (k)) ((wr.setCell ⟨blk, off + ix, none⟩ (enc y)).setCell ⟨blk, off + iy, none⟩ (enc x)).drew) := by rw [hix, hiy, hx, hy]; exact SK.out.swapped R (k + 1) (k) (by omega) (by omega)
          have c1a := SK.out.c1 R (by omega) (k + 1) (by omega)
          have c1b := SK.out.c1 R (by omega) (k) (by omega)
          have f1a := SK.out.f1 R (by omega) (k + 1) (by omega)
          have f1b := SK.out.f1 R (by omega) (k) (by omega)
          obtain ⟨u1, c1c⟩ := SK.out.c2 R (by omega) (k + 1) (k) (by omega) (by omega) (enc y)
          replace c1c : (wr.setCell ⟨blk, off + ix, none⟩ (enc y)).cell? ⟨blk, off + iy, none⟩ = some u1 := by rw [hix, hiy]; exact c1c
          replace c1a : wr.cell? ⟨blk, off + ix, none⟩ = some (enc x) := by rw [hix, hx]; exact c1a
          replace c1b : wr.cell? ⟨blk, off + iy, none⟩ = some (enc y) := by rw [hiy, hy]; exact c1b
          replace f1a : wr.frozen? ⟨blk, off + ix, none⟩ = false := by rw [hix]; exact f1a
          replace f1b : wr.frozen? ⟨blk, off + iy, none⟩ = false := by rw [hiy]; exact f1b
          clear SK hx hy hix hiy
          go_wp2_with fail
          go_big_region_o
          clear c1a c1b c1c f1a f1b
          generalize ((wr.setCell ⟨blk, off + ix, none⟩ (enc y)).setCell ⟨blk, off + iy, none⟩ (enc x)).drew = w3 at S3 ⊢
          clear etx ety
          go_wp2
          go_roundg (k - i)
          case measure => omega
          case rel => exact ⟨k, swp dk (k + 1) k, by first | rfl | go_num, by omega, by omega, Nat.le_refl _, HP.out.step hki (by omega), S3⟩
        · have hltz2 : ¬ (i : Int) < (k : Int) := by omega
          go_wp2
          refine bodyPost_ret (results_none rfl _ _ _) rfl ?_
          obtain rfl : k = i := by omega
          have q := shiftDn_ok hmi hjb (by omega) HL.out HI.out HJ.out HP.out
          obtain rfl : b = m + 1 := by omega
          exact ⟨rfl, dk, q.1, q.2, SK.out⟩

end Go.Proofs.Ytfccbbbejjdakaa
