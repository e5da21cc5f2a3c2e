/- slices.swapRangeCmpFunc and slices.rotateCmpFunc at elements of one cell: what they do to the row. -/
import Derived.Test.YtfccbbbejjdakaaProg
import Derived.Test.YtfccbbbejjdakaaStable
import Derived.Shelf.SlSortCmp.Insertion1
namespace Go.Proofs.Ytfccbbbejjdakaa
open Go.Shelf Go.RowKit Go.Lib Go.Sort Go.Proofs
variable {α : Type} [Inhabited α]

set_option maxHeartbeats 16000000 in
set_option maxRecDepth 1000000 in
theorem swapRange_s (enc : α → Value) (fv : Value) (blk off cap a b n : Nat) (d0 d : Array α) (w0 w : World) (R : Row1 enc w0 blk off d0) (hs : d.size = d0.size) (S : SW enc w0 blk off d w) (hab : a + n ≤ b) (hb : b + n ≤ d.size) (hsz : d.size < 4611686018427387904) :
    Calls Try.prog 36 #[.slice (some ⟨blk, off, none⟩) d0.size cap, .int .i64 a, .int .i64 b, .int .i64 n, fv] w fun e w' => e = .returned (.tuple #[]) ∧ ∃ d', SwapB a b n d d' ∧ SW enc w0 blk off d' w' := by
  have mixed : Try.prog.follows .mixedOrders = true := by kernel_rfl
  have hcl0 := R.hO.cells
  simp only [Value.cells] at hcl0
  have hst := R.hO.store Try.prog
  have S0 : Aside (SW enc w0 blk off d w) := S
  clear S
  go_enter Try.func36, Try.ntmps36
  go_wp2
  go_loopg [10] n (fun g1 vi wr => ∃ (k : Nat) (dk : Array α), vi = .int .i64 k ∧ k ≤ n ∧ n - k ≤ g1 ∧ Aside (SwapB a b k d dk) ∧ Aside (SW enc w0 blk off dk wr))
  case atStart => exact ⟨0, d, rfl, Nat.zero_le _, by omega, SwapB.zero a b d, S0⟩
  case round =>
    clear S0
    obtain ⟨k, dk, rfl, hk, hg, HP, S1⟩ := hrel
    have hsk : dk.size = d.size := HP.out.1
    by_cases hlt : k < n
    · have hltz : (k : Int) < (n : Int) := by omega
      obtain ⟨i1, hi1⟩ : ∃ q, q = a + k := ⟨_, rfl⟩
      obtain ⟨j1, hj1⟩ : ∃ q, q = b + k := ⟨_, rfl⟩
      have ea : ((a : Int) + (k : Int)).toNat = i1 := by omega
      have pa : (0 : Int) ≤ (a : Int) + (k : Int) := by omega
      have ba : (a : Int) + (k : Int) < (d0.size : Int) := by omega
      have ra : IntKind.i64.wrap ((a : Int) + (k : Int)) = (a : Int) + (k : Int) := by rw [IntKind.wrap_i64]; omega
      have ec : ((b : Int) + (k : Int)).toNat = j1 := by omega
      have pc : (0 : Int) ≤ (b : Int) + (k : Int) := by omega
      have bc : (b : Int) + (k : Int) < (d0.size : Int) := by omega
      have rc : IntKind.i64.wrap ((b : Int) + (k : Int)) = (b : Int) + (k : Int) := by rw [IntKind.wrap_i64]; omega
      obtain ⟨x, hx⟩ : ∃ x, x = dk[a + k]! := ⟨_, rfl⟩
      obtain ⟨y, hy⟩ : ∃ x, x = dk[b + k]! := ⟨_, rfl⟩
      have S3 : Aside (SW enc w0 blk off (swp dk (a + k) (b + k)) ((wr.setCell ⟨blk, off + i1, none⟩ (enc y)).setCell ⟨blk, off + j1, none⟩ (enc x)).drew) := by rw [hi1, hj1, hx, hy]; exact S1.out.swapped R (a + k) (b + k) (by omega) (by omega)
      have c1a := S1.out.c1 R (by omega) (a + k) (by omega)
      have c1b := S1.out.c1 R (by omega) (b + k) (by omega)
      have f1a := S1.out.f1 R (by omega) (a + k) (by omega)
      have f1b := S1.out.f1 R (by omega) (b + k) (by omega)
      obtain ⟨u1, c1c⟩ := S1.out.c2 R (by omega) (a + k) (b + k) (by omega) (by omega) (enc y)
      rw [← hj1, ← hi1] at c1c
      rw [← hx, ← hi1] at c1a
      rw [← hy, ← hj1] at c1b
      rw [← hi1] at f1a
      rw [← hj1] at f1b
      clear S1 hx hy hi1 hj1
      go_wp2_with fail
      go_big_region_o
      clear c1a c1b c1c f1a f1b
      generalize ((wr.setCell ⟨blk, off + i1, none⟩ (enc y)).setCell ⟨blk, off + j1, none⟩ (enc x)).drew = w3 at S3 ⊢
      clear ea ec
      go_wp2
      go_roundg (n - (k + 1))
      case measure => omega
      case rel => exact ⟨k + 1, swp dk (a + k) (b + k), by go_num, by omega, by omega, HP.out.step hlt hab hb, S3⟩
    · have hltz : ¬ (k : Int) < (n : Int) := by omega
      go_wp2
      go_end0
      obtain rfl : k = n := by omega
      exact ⟨rfl, dk, HP.out, S1.out⟩

set_option maxHeartbeats 16000000 in
set_option maxRecDepth 1000000 in
theorem rotate_s (enc : α → Value) (fv : Value) (blk off cap a m b : Nat) (d0 d : Array α) (w0 w : World) (R : Row1 enc w0 blk off d0) (hs : d.size = d0.size) (S : SW enc w0 blk off d w) (ham : a < m) (hmb : m < b) (hb : b ≤ d.size) (hsz : d.size < 4611686018427387904) :
    Calls Try.prog 35 #[.slice (some ⟨blk, off, none⟩) d0.size cap, .int .i64 a, .int .i64 m, .int .i64 b, fv] w fun e w' => e = .returned (.tuple #[]) ∧ ∃ d', RotB a m b d d' ∧ SW enc w0 blk off d' w' := by
  have mixed : Try.prog.follows .mixedOrders = true := by kernel_rfl
  have S0 : Aside (SW enc w0 blk off d w) := S
  clear S
  have e1 : (m : Int) - (a : Int) = ((m - a : Nat) : Int) := by omega
  have e2 : (b : Int) - (m : Int) = ((b - m : Nat) : Int) := by omega
  have r1 : IntKind.i64.wrap ((m - a : Nat) : Int) = ((m - a : Nat) : Int) := by rw [IntKind.wrap_i64]; omega
  have r2 : IntKind.i64.wrap ((b - m : Nat) : Int) = ((b - m : Nat) : Int) := by rw [IntKind.wrap_i64]; omega
  go_enter Try.func35, Try.ntmps35
  go_wp2
  go_loopg [10, 11] (m + b) (fun g1 vi vj wr => ∃ (i j : Nat) (dk : Array α), vi = .int .i64 i ∧ vj = .int .i64 j ∧ 0 < i ∧ i ≤ m ∧ 0 < j ∧ m + j ≤ d.size ∧ i + j ≤ g1 ∧ dk.size = d.size ∧ Aside (∀ d2, RotB (m - i) m (m + j) dk d2 → RotB a m b d d2) ∧ Aside (SW enc w0 blk off dk wr))
  case atStart => exact ⟨m - a, b - m, d, by first | rfl | go_num, by first | rfl | go_num, by omega, by omega, by omega, by omega, by omega, rfl, (fun d2 h => by rw [show m - (m - a) = a by omega, show m + (b - m) = b by omega] at h; exact h), S0⟩
  case round =>
    clear S0 e1 e2 r1 r2
    obtain ⟨i, j, dk, rfl, rfl, hi, him, hj, hjs, hg, hsk, HR, S1⟩ := hrel
    have e1 : (m : Int) - (i : Int) = ((m - i : Nat) : Int) := by omega
    have r1 : IntKind.i64.wrap ((m - i : Nat) : Int) = ((m - i : Nat) : Int) := by rw [IntKind.wrap_i64]; omega
    by_cases hij : i = j
    · subst hij
      have hq : ((i : Int) != (i : Int)) = false := bne_self_eq_false _
      go_wp2_with fail
      refine (swapRange_s enc fv blk off cap (m - i) m i d0 dk w0 wr R (by omega) S1.out (by omega) (by omega) (by omega)).mono ?_
      rintro e w1 ⟨rfl, d', hd', hS'⟩
      clear S1
      go_wp2
      go_end0
      exact ⟨rfl, d', HR.out d' (RotB.same him hd'), hS'⟩
    · have hq : ((i : Int) != (j : Int)) = true := bne_iff_ne.mpr (by omega)
      by_cases hlt : j < i
      · have hltz : (j : Int) < (i : Int) := by omega
        have e3 : (i : Int) - (j : Int) = ((i - j : Nat) : Int) := by omega
        have r3 : IntKind.i64.wrap ((i - j : Nat) : Int) = ((i - j : Nat) : Int) := by rw [IntKind.wrap_i64]; omega
        go_wp2_with fail
        refine (swapRange_s enc fv blk off cap (m - i) m j d0 dk w0 wr R (by omega) S1.out (by omega) (by omega) (by omega)).mono ?_
        rintro e w1 ⟨rfl, d', hd', hS'⟩
        have S2 : Aside (SW enc w0 blk off d' w1) := hS'
        clear S1 hS'
        go_wp2
        go_roundg (i - j + j)
        case measure => omega
        case rel => exact ⟨i - j, j, d', by first | rfl | go_num, rfl, by omega, by omega, hj, hjs, by omega, hd'.1.trans hsk, (fun d2 h => HR.out d2 (RotB.left him hlt (by omega) hd' h)), S2⟩
      · have hltz : ¬ (j : Int) < (i : Int) := by omega
        have e3 : (j : Int) - (i : Int) = ((j - i : Nat) : Int) := by omega
        have r3 : IntKind.i64.wrap ((j - i : Nat) : Int) = ((j - i : Nat) : Int) := by rw [IntKind.wrap_i64]; omega
        have e4 : (m : Int) + (j : Int) - (i : Int) = ((m + j - i : Nat) : Int) := by omega
        have r4 : IntKind.i64.wrap ((m + j - i : Nat) : Int) = ((m + j - i : Nat) : Int) := by rw [IntKind.wrap_i64]; omega
        have r5 : IntKind.i64.wrap ((m : Int) + (j : Int)) = (m : Int) + (j : Int) := by rw [IntKind.wrap_i64]; omega
        go_wp2_with fail
        refine (swapRange_s enc fv blk off cap (m - i) (m + j - i) i d0 dk w0 wr R (by omega) S1.out (by omega) (by omega) (by omega)).mono ?_
        rintro e w1 ⟨rfl, d', hd', hS'⟩
        have S2 : Aside (SW enc w0 blk off d' w1) := hS'
        clear S1 hS'
        go_wp2
        go_roundg (i + (j - i))
        case measure => omega
        case rel => exact ⟨i, j - i, d', rfl, by first | rfl | go_num, hi, him, by omega, by omega, by omega, hd'.1.trans hsk, (fun d2 h => HR.out d2 (RotB.right him (by omega) (by omega) hd' h)), S2⟩

end Go.Proofs.Ytfccbbbejjdakaa
