/- The statements' own marks on price rows and steps: what was written over the steps is found again. -/
import Derived.Test.YtembklbofdgmgaaPAllx0
import Derived.Test.YtembklbofdgmgaaPAllx5
import Derived.Test.YtembklbofdgmgaaPAllx6
import Derived.Test.YtembklbofdgmgaaMarkText
import Derived.Test.YtembklbofdgmgaaStdPriceRow
namespace Go.Proofs.Ytembklbofdgmgaa
open Go.RowKit Go.Proofs.Ytembklbofdgmgaa.PAll Go.Proofs.YtembklbofdgmgaaW.PrintWords Go.Proofs.YtembklbofdgmgaaW.PrintLast

theorem markPriceRow_loop : ∀ (d i : Nat) (l : List S44) (a : Int), i + d = l.length → 0 ≤ a → a + 6 * d ≤ 1000000000 → l.length ≤ 1000000000 → ∀ k, d + 20 < k → ∃ n l', laws_markPriceRowS.l0 k l a (i : Int) = some (n, l') ∧ 0 ≤ n := by
  intro d
  induction d with
  | zero =>
    intro i l a hi h0 h1 hl k hk
    obtain ⟨k, rfl⟩ : ∃ m, k = m + 1 := ⟨k - 1, by omega⟩
    rw [laws_markPriceRowS.l0, if_neg (by omega)]
    exact ⟨_, _, rfl, h0⟩
  | succ d ih =>
    intro i l a hi h0 h1 hl k hk
    obtain ⟨k, rfl⟩ : ∃ m, k = m + 1 := ⟨k - 1, by omega⟩
    obtain ⟨t0, e0⟩ := markText_any a (by omega) k (by omega)
    obtain ⟨t1, e1⟩ := markText_any (a + 1) (by omega) k (by omega)
    rw [laws_markPriceRowS.l0, if_pos (by omega), e0, Option.bind_some, if_pos (by omega), w64 (x := a + 1) (by omega) (by omega), w64 (x := a + 1 + 1) (by omega) (by omega), w64 (x := a + 1 + 1 + 1) (by omega) (by omega), w64 (x := a + 1 + 1 + 1 + 1) (by omega) (by omega), w64 (x := a + 1 + 1 + 1 + 1 + 1) (by omega) (by omega), w64 (x := a + 1 + 1 + 1 + 1 + 1 + 1) (by omega) (by omega), w64 (x := (i : Int) + 1) (by omega) (by omega)]
    simp only [Option.bind_some]
    rw [e1]
    simp only [Option.bind_some]
    generalize hz : List.set _ _ _ = l2
    have hlen : l2.length = l.length := by rw [← hz]; simp only [List.length_set]
    obtain ⟨n, l', e, n0⟩ := ih (i + 1) l2 (a + 1 + 1 + 1 + 1 + 1 + 1) (by omega) (by omega) (by omega) (by omega) k (by omega)
    rw [show ((i + 1 : Nat) : Int) = (i : Int) + 1 by omega] at e
    exact ⟨n, l', e, n0⟩

theorem markPriceRow_any (l : List S44) (h : l.length ≤ 2000000) (k : Nat) (hk : l.length + 20 < k) : ∃ n l', laws_markPriceRowS.f k l 1 = some (n, l') ∧ 0 ≤ n := by
  unfold laws_markPriceRowS.f
  have := markPriceRow_loop l.length 0 l 1 (by omega) (by omega) (by omega) (by omega) k hk
  simpa using this

theorem rdPriceStep1 {l : List S40} {i : Nat} (h : i < l.length) : rd_T40 l (i : Int) = l[i] := by
  unfold rd_T40
  rw [Int.toNat_natCast, List.getD_eq_getElem?_getD, List.getElem?_eq_getElem h]; rfl

/-- The sums that are written over others. -/
def stepsFrom (a : Int) : Nat → List S40
  | 0 => []
  | n + 1 => ⟨a, a + 1⟩ :: stepsFrom (a + 1 + 1) n

theorem stepsFrom_length : ∀ (n : Nat) (a : Int), (stepsFrom a n).length = n
  | 0, _ => rfl
  | n + 1, a => by rw [stepsFrom, List.length_cons, stepsFrom_length n]

theorem rdSet {l : List S40} {i : Nat} (h : i < l.length) (x : S40) : rd_T40 (l.set i x) (i : Int) = x := by
  rw [rdPriceStep1 (by rw [List.length_set]; exact h), List.getElem_set_self]

theorem markStep_loop : ∀ (d i : Nat) (l : List S40) (a : Int), i + d = l.length → 0 ≤ a → a + 2 * d ≤ 1000000000 → l.length ≤ 1000000000 → ∀ k, d < k → laws_markPriceStepS.l0 k l a (i : Int) = some (a + 2 * d, l.take i ++ stepsFrom a d) := by
  intro d
  induction d with
  | zero =>
    intro i l a hi h0 h1 hl k hk
    obtain ⟨k, rfl⟩ : ∃ m, k = m + 1 := ⟨k - 1, by omega⟩
    rw [laws_markPriceStepS.l0, if_neg (by omega), List.take_of_length_le (by omega), stepsFrom, List.append_nil]
    simp
  | succ d ih =>
    intro i l a hi h0 h1 hl k hk
    obtain ⟨k, rfl⟩ : ∃ m, k = m + 1 := ⟨k - 1, by omega⟩
    have hil : i < l.length := by omega
    rw [laws_markPriceStepS.l0, if_pos (by omega), if_pos (by omega), Int.toNat_natCast, w64 (x := a + 1) (by omega) (by omega), w64 (x := a + 1 + 1) (by omega) (by omega), w64 (x := (i : Int) + 1) (by omega) (by omega)]
    simp only [Option.bind_some, rdSet hil, List.set_set]
    have := ih (i + 1) (l.set i ⟨a, a + 1⟩) (a + 1 + 1) (by rw [List.length_set]; omega) (by omega) (by omega) (by rw [List.length_set]; omega) k (by omega)
    rw [show ((i + 1 : Nat) : Int) = (i : Int) + 1 by omega] at this
    rw [this, stepsFrom]
    have e : (l.set i (⟨a, a + 1⟩ : S40)).take (i + 1) = l.take i ++ [⟨a, a + 1⟩] := by
      rw [List.take_succ_eq_append_getElem (by rw [List.length_set]; omega), List.getElem_set_self, List.take_set_of_le (by omega)]
    rw [e, List.append_assoc]
    simp only [List.singleton_append, Option.some.injEq, Prod.mk.injEq, and_true]
    omega

theorem heldStep_loop : ∀ (d i : Nat) (l : List S40) (a : Int), i + d = l.length → l.drop i = stepsFrom a d → 0 ≤ a → a + 2 * d ≤ 1000000000 → l.length ≤ 1000000000 → ∀ k, d < k → laws_heldPriceStepS.l0 k l a (i : Int) = some (a + 2 * d) := by
  intro d
  induction d with
  | zero =>
    intro i l a hi hn h0 h1 hl k hk
    obtain ⟨k, rfl⟩ : ∃ m, k = m + 1 := ⟨k - 1, by omega⟩
    rw [laws_heldPriceStepS.l0, if_neg (by omega)]
    simp
  | succ d ih =>
    intro i l a hi hn h0 h1 hl k hk
    obtain ⟨k, rfl⟩ : ∃ m, k = m + 1 := ⟨k - 1, by omega⟩
    have hil : i < l.length := by omega
    rw [List.drop_eq_getElem_cons hil, stepsFrom, List.cons.injEq] at hn
    rw [laws_heldPriceStepS.l0, if_pos (by omega), if_pos (by omega), rdPriceStep1 hil, hn.1, w64 (x := a + 1) (by omega) (by omega), w64 (x := a + 1 + 1) (by omega) (by omega), w64 (x := (i : Int) + 1) (by omega) (by omega)]
    rw [if_pos rfl, if_pos rfl]
    have := ih (i + 1) l (a + 1 + 1) (by omega) hn.2 (by omega) (by omega) hl k (by omega)
    rw [show ((i + 1 : Nat) : Int) = (i : Int) + 1 by omega] at this
    rw [this]
    simp only [Option.some.injEq]
    omega

theorem markStep_is (l : List S40) (h : l.length ≤ 2000000) (k : Nat) (hk : l.length < k) : laws_markPriceStepS.f k l 1 = some (1 + 2 * (l.length : Int), stepsFrom 1 l.length) := by
  unfold laws_markPriceStepS.f
  have := markStep_loop l.length 0 l 1 (by omega) (by omega) (by omega) (by omega) k hk
  simpa using this

theorem heldStep_is (n : Nat) (h : n ≤ 2000000) (k : Nat) (hk : n < k) : laws_heldPriceStepS.f k (stepsFrom 1 n) 1 = some (1 + 2 * (n : Int)) := by
  unfold laws_heldPriceStepS.f
  have := heldStep_loop n 0 (stepsFrom 1 n) 1 (by rw [stepsFrom_length]; omega) (by simp) (by omega) (by omega) (by rw [stepsFrom_length]; omega) k hk
  simpa using this

theorem eqStep_refl (l : List S40) (h : l.length ≤ 2000000) (k : Nat) (hk : l.length < k) : laws_eqPriceStepS.f k l l = some true := by
  have loop : ∀ d i k, i + d = l.length → d < k → laws_eqPriceStepS.l0 k l l (i : Int) = some true := by
    intro d
    induction d with
    | zero =>
      intro i k hi hk
      obtain ⟨k, rfl⟩ : ∃ m, k = m + 1 := ⟨k - 1, by omega⟩
      rw [laws_eqPriceStepS.l0, if_neg (by omega)]
    | succ d ih =>
      intro i k hi hk
      obtain ⟨k, rfl⟩ : ∃ m, k = m + 1 := ⟨k - 1, by omega⟩
      have e : ∀ x : S40, laws_eqPriceStep.f x.f0 x.f1 x.f0 x.f1 = some true := fun x => by unfold laws_eqPriceStep.f; simp
      rw [laws_eqPriceStepS.l0, if_pos (by omega), if_pos (by omega), if_pos (by omega), e]
      simp only [Option.bind_some]
      rw [if_pos trivial, w64 (x := (i : Int) + 1) (by omega) (by omega)]
      have := ih (i + 1) k (by omega) (by omega)
      rwa [show ((i + 1 : Nat) : Int) = (i : Int) + 1 by omega] at this
  unfold laws_eqPriceStepS.f
  rw [if_pos rfl]
  have := loop l.length 0 k (by omega) hk
  simpa using this

end Go.Proofs.Ytembklbofdgmgaa
