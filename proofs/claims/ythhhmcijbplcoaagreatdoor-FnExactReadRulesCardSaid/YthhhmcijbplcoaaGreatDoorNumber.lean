/- The reference's reading of a number. -/
import Derived.Test.YthhhmcijbplcoaaGreatDoorPFnExactReadRulesx1
import Derived.Test.YthhhmcijbplcoaaGreatDoorBs
import Derived.Test.YthhhmcijbplcoaaGreatDoorDec
namespace Go.Proofs.YthhhmcijbplcoaaGreatDoor
open Go.RowKit Go.Proofs.YthhhmcijbplcoaaGreatDoor.PFnExactReadRules Go.Proofs.YthhhmcijbplcoaaGreatDoorW.PrintWords Go.Proofs.YthhhmcijbplcoaaGreatDoorW.PrintLast

theorem num_loop (l : List UInt8) (h18 : l.length ≤ 18) (s : Int) : ∀ (m k i acc : Nat), i + m = l.length → m < k → acc < 10 ^ i →
    spec_l00Number.l0 k (bs l) s (acc : Int) (i : Int) = some (match Lib.decFrom acc (l.drop i) with | some v => (wrap64 (s * v), true) | none => (0, false))
  | 0, k, i, acc, hi, hk, _ => by
    obtain ⟨k, rfl⟩ : ∃ q, k = q + 1 := ⟨k - 1, by omega⟩
    rw [spec_l00Number.l0, bs_size, if_neg (by omega), List.drop_eq_nil_of_le (by omega)]
    rfl
  | m + 1, k, i, acc, hi, hk, ha => by
    obtain ⟨k, rfl⟩ : ∃ q, k = q + 1 := ⟨k - 1, by omega⟩
    have hl : i < l.length := by omega
    have hp : (10 : Nat) ^ i ≤ 10 ^ 17 := Nat.pow_le_pow_right (by omega) (by omega)
    have hb : (l[i]'hl).toNat < 256 := (l[i]'hl).toNat_lt
    rw [spec_l00Number.l0, bs_size, if_pos (by omega), if_pos (by omega), bt_bs hl, List.drop_eq_getElem_cons hl, Lib.decFrom]
    have hd : dg1 (l[i]'hl) = decide (48 ≤ (l[i]'hl).toNat ∧ (l[i]'hl).toNat ≤ 57) := rfl
    generalize (l[i]'hl) = b at *
    by_cases c1 : ((b.toNat : Nat) : Int) < 48
    · rw [if_pos c1, digitVal_no (by rw [hd]; exact decide_eq_false (by omega))]
    · rw [if_neg c1]
      by_cases c2 : ((b.toNat : Nat) : Int) > 57
      · rw [if_pos c2, digitVal_no (by rw [hd]; exact decide_eq_false (by omega))]
      · rw [if_neg c2, digitVal_of (by rw [hd]; exact decide_eq_true (by omega))]
        have hn : acc * 10 + (b.toNat - 48) < 10 ^ (i + 1) := by rw [Nat.pow_succ]; omega
        have ih := num_loop l h18 s m k (i + 1) (acc * 10 + (b.toNat - 48)) (by omega) (by omega) hn
        rw [w64 (x := (acc : Int) * 10) (by omega) (by omega), w64 (x := (b.toNat : Int)) (by omega) (by omega), w64 (x := (acc : Int) * 10 + b.toNat) (by omega) (by omega), w64 (x := (acc : Int) * 10 + b.toNat - 48) (by omega) (by omega), w64 (x := (i : Int) + 1) (by omega) (by omega),
          show (acc : Int) * 10 + b.toNat - 48 = ((acc * 10 + (b.toNat - 48) : Nat) : Int) by omega, show (i : Int) + 1 = ((i + 1 : Nat) : Int) by omega]
        exact ih
/-- What is read behind the sign. -/
def numAt (s : Int) (W : List UInt8) : Int × Bool := if isNum W ∧ W.length ≤ 18 ∧ ¬ (s < 0 ∧ W.head? = some 48) then (wrap64 (s * dec W), true) else (0, false)
theorem num_at (s : Int) (W : List UInt8) (k : Nat) (hk : 25 ≤ k) : spec_l00Number.j1 k (bs W) s = some (numAt s W) := by
  obtain ⟨k, rfl⟩ : ∃ q, k = q + 1 := ⟨k - 1, by omega⟩
  obtain ⟨k, rfl⟩ : ∃ q, k = q + 1 := ⟨k - 1, by omega⟩
  have bad : spec_l00Number.j2 (k + 1) (bs W) s true = some (0, false) := by rw [spec_l00Number.j2, if_pos rfl]
  have good : W.length ≤ 18 → spec_l00Number.j2 (k + 1) (bs W) s false = some (if W.all dg1 = true then (wrap64 (s * dec W), true) else (0, false)) := fun h18 => by
    have h := num_loop W h18 s W.length k 0 0 (by omega) (by omega) (by decide)
    rw [List.drop_zero] at h
    rw [spec_l00Number.j2, if_neg (by decide)]
    refine h.trans ?_
    by_cases ha : W.all dg1 = true
    · rw [dec_is ha, if_pos ha]
    · rw [dec_none W 0 (Bool.eq_false_iff.2 ha), if_neg ha]
  rw [spec_l00Number.j1, bs_size]
  unfold numAt isNum
  cases W with
  | nil => simp [bad]
  | cons a t =>
    rw [if_neg (by simp only [List.length_cons]; omega)]
    by_cases c1 : (((a :: t).length : Nat) : Int) > 18
    · rw [if_pos c1, bad, if_neg (fun h => by omega)]
    · rw [if_neg c1, if_pos (by simp only [List.length_cons]; omega), show bt (bs (a :: t)) 0 = (a.toNat : Int) from bt_bs (l := a :: t) (i := 0) (by simp)]
      have hg := good (by omega)
      by_cases c48 : ((a.toNat : Nat) : Int) = 48
      · have ea : a = 48 := UInt8.toNat_inj.1 (by rw [show (48 : UInt8).toNat = 48 from rfl]; omega)
        subst ea
        rw [if_pos c48]
        by_cases c3 : (((48 :: t : List UInt8).length : Nat) : Int) > 1
        · rw [if_pos c3, bad, if_neg (fun h => by have := h.1.2.2 rfl; omega)]
        · rw [if_neg c3]
          by_cases c4 : s < 0
          · rw [decide_eq_true c4, bad, if_neg (fun h => h.2.2 ⟨c4, rfl⟩)]
          · rw [decide_eq_false c4, hg]
            have ht : t = [] := by cases t with | nil => rfl | cons _ _ => simp only [List.length_cons] at c3; omega
            subst ht
            rw [if_pos (by decide), if_pos ⟨⟨by decide, by simp, fun _ => rfl⟩, by decide, fun h => c4 h.1⟩]
      · rw [if_neg c48, hg]
        have hne : ¬ ((a :: t).head? = some 48) := fun h => by
          simp only [List.head?_cons, Option.some.injEq] at h
          rw [h] at c48; exact c48 rfl
        by_cases ha : (a :: t).all dg1 = true
        · rw [if_pos ha, if_pos ⟨⟨ha, by simp, fun h => absurd h hne⟩, by omega, fun h => hne h.2⟩]
        · rw [if_neg ha, if_neg (fun h => ha h.1.1)]
/-- What is read. -/
def numS (l : List UInt8) : Int × Bool := if l.head? = some 45 then numAt (-1) l.tail else numAt 1 l
theorem l00num_is (l : List UInt8) (k : Nat) (hk : 30 ≤ k) : spec_l00Number.f k (bs l) = some (numS l) := by
  obtain ⟨k, rfl⟩ : ∃ q, k = q + 1 := ⟨k - 1, by omega⟩
  unfold spec_l00Number.f numS
  rw [bs_size]
  cases l with
  | nil =>
    rw [if_neg (by simp), spec_l00Number.j0, if_neg (by decide), num_at 1 [] k (by omega)]; rfl
  | cons a t =>
    rw [if_pos (by simp only [List.length_cons]; omega), if_pos (by simp only [List.length_cons]; omega), show bt (bs (a :: t)) 0 = (a.toNat : Int) from bt_bs (l := a :: t) (i := 0) (by simp), spec_l00Number.j0, bs_size]
    by_cases c : ((a.toNat : Nat) : Int) = 45
    · have ea : a = 45 := UInt8.toNat_inj.1 (by rw [show (45 : UInt8).toNat = 45 from rfl]; omega)
      subst ea
      rw [beq_iff_eq.2 c, if_pos rfl, if_pos (by simp only [List.length_cons]; omega), bs_cut, if_pos (show (45 :: t : List UInt8).head? = some 45 from rfl)]
      have e : (List.drop 1 (45 :: t)).take ((45 :: t : List UInt8).length - 1) = t := by simp
      rw [e]; exact num_at (-1) t k (by omega)
    · have hne : ¬ ((a :: t).head? = some 45) := fun h => by
        simp only [List.head?_cons, Option.some.injEq] at h
        rw [h] at c; exact c rfl
      rw [beq_eq_false_iff_ne.2 c, if_neg (by decide), if_neg hne]
      exact num_at 1 _ k (by omega)

end Go.Proofs.YthhhmcijbplcoaaGreatDoor
