/- The statements' own marks: numbers written over a row, one after another; what was written is found again. -/
import Derived.Test.YtfccbbbejjdakaaPAllx4
import Derived.Test.YtfccbbbejjdakaaLoop
namespace Go.Proofs.Ytfccbbbejjdakaa
open Go.RowKit Go.Proofs.Ytfccbbbejjdakaa.PAll Go.Proofs.YtfccbbbejjdakaaW.PrintWords Go.Proofs.YtfccbbbejjdakaaW.PrintLast

/-- The numbers from a on. -/
def numsFrom (a : Int) : Nat → List Int
  | 0 => []
  | n + 1 => a :: numsFrom (a + 1) n

theorem numsFrom_length : ∀ (n : Nat) (a : Int), (numsFrom a n).length = n
  | 0, _ => rfl
  | n + 1, a => by rw [numsFrom, List.length_cons, numsFrom_length n]

theorem markInt_loop : ∀ (d i : Nat) (l : List Int) (a : Int), i + d = l.length → 0 ≤ a → a + d ≤ 1000000000 → l.length ≤ 1000000000 → ∀ k, d < k → laws_markIntS.l0 k l a (i : Int) = some (a + d, l.take i ++ numsFrom a d) := by
  intro d
  induction d with
  | zero =>
    intro i l a hi h0 h1 hl k hk
    obtain ⟨k, rfl⟩ : ∃ m, k = m + 1 := ⟨k - 1, by omega⟩
    rw [laws_markIntS.l0, if_neg (by omega), List.take_of_length_le (by omega), numsFrom, List.append_nil]
    simp
  | succ d ih =>
    intro i l a hi h0 h1 hl k hk
    obtain ⟨k, rfl⟩ : ∃ m, k = m + 1 := ⟨k - 1, by omega⟩
    rw [laws_markIntS.l0, if_pos (by omega), if_pos (by omega), Int.toNat_natCast, w64 (x := a + 1) (by omega) (by omega), w64 (x := (i : Int) + 1) (by omega) (by omega)]
    have := ih (i + 1) (l.set i a) (a + 1) (by rw [List.length_set]; omega) (by omega) (by omega) (by rw [List.length_set]; omega) k (by omega)
    rw [show ((i + 1 : Nat) : Int) = (i : Int) + 1 by omega] at this
    rw [this, numsFrom]
    have e : (l.set i a).take (i + 1) = l.take i ++ [a] := by
      rw [List.take_succ_eq_append_getElem (by rw [List.length_set]; omega), List.getElem_set_self, List.take_set_of_le (by omega)]
    rw [e, List.append_assoc]
    simp only [List.singleton_append, Option.some.injEq, Prod.mk.injEq, and_true]
    omega

theorem heldInt_loop : ∀ (d i : Nat) (l : List Int) (a : Int), i + d = l.length → l.drop i = numsFrom a d → 0 ≤ a → a + d ≤ 1000000000 → l.length ≤ 1000000000 → ∀ k, d < k → laws_heldIntS.l0 k l a (i : Int) = some (a + d) := by
  intro d
  induction d with
  | zero =>
    intro i l a hi hn h0 h1 hl k hk
    obtain ⟨k, rfl⟩ : ∃ m, k = m + 1 := ⟨k - 1, by omega⟩
    rw [laws_heldIntS.l0, if_neg (by omega)]
    simp
  | succ d ih =>
    intro i l a hi hn h0 h1 hl k hk
    obtain ⟨k, rfl⟩ : ∃ m, k = m + 1 := ⟨k - 1, by omega⟩
    rw [List.drop_eq_getElem_cons (by omega : i < l.length), numsFrom, List.cons.injEq] at hn
    have hr : rd l (i : Int) = a := by
      unfold rd
      rw [Int.toNat_natCast, List.getD_eq_getElem?_getD, List.getElem?_eq_getElem (by omega : i < l.length)]
      exact hn.1
    rw [laws_heldIntS.l0, if_pos (by omega), if_pos (by omega), if_pos hr, w64 (x := a + 1) (by omega) (by omega), w64 (x := (i : Int) + 1) (by omega) (by omega)]
    have := ih (i + 1) l (a + 1) (by omega) hn.2 (by omega) (by omega) hl k (by omega)
    rw [show ((i + 1 : Nat) : Int) = (i : Int) + 1 by omega] at this
    rw [this]
    simp only [Option.some.injEq]
    omega

theorem markInt_is (l : List Int) (h : l.length ≤ 2000000) (k : Nat) (hk : l.length < k) : laws_markIntS.f k l 1 = some (1 + (l.length : Int), numsFrom 1 l.length) := by
  unfold laws_markIntS.f
  have := markInt_loop l.length 0 l 1 (by omega) (by omega) (by omega) (by omega) k hk
  simpa using this

theorem heldInt_is (n : Nat) (h : n ≤ 2000000) (k : Nat) (hk : n < k) : laws_heldIntS.f k (numsFrom 1 n) 1 = some (1 + (n : Int)) := by
  unfold laws_heldIntS.f
  have := heldInt_loop n 0 (numsFrom 1 n) 1 (by rw [numsFrom_length]; omega) (by simp) (by omega) (by omega) (by rw [numsFrom_length]; omega) k hk
  simpa using this

theorem eqInt_loop (l : List Int) (h : l.length ≤ 2000000) : ∀ d i k, i + d = l.length → d < k → laws_eqIntS.l0 k l l (i : Int) = some true := by
  intro d
  induction d with
  | zero =>
    intro i k hi hk
    obtain ⟨k, rfl⟩ : ∃ m, k = m + 1 := ⟨k - 1, by omega⟩
    rw [laws_eqIntS.l0, if_neg (by omega)]
  | succ d ih =>
    intro i k hi hk
    obtain ⟨k, rfl⟩ : ∃ m, k = m + 1 := ⟨k - 1, by omega⟩
    rw [laws_eqIntS.l0, if_pos (by omega), if_pos (by omega), if_pos (by omega), if_pos rfl, w64 (x := (i : Int) + 1) (by omega) (by omega)]
    have := ih (i + 1) k (by omega) (by omega)
    rwa [show ((i + 1 : Nat) : Int) = (i : Int) + 1 by omega] at this

theorem eqInt_refl (l : List Int) (h : l.length ≤ 2000000) (k : Nat) (hk : l.length < k) : laws_eqIntS.f k l l = some true := by
  unfold laws_eqIntS.f
  rw [if_pos rfl]
  have := eqInt_loop l h l.length 0 k (by omega) hk
  simpa using this

end Go.Proofs.Ytfccbbbejjdakaa
