/- The statements' own marks on rows, lines and sums of taxes: what was written over the sums is found again. -/
import Derived.Test.YtgmohjegijndeaaPAllx0
import Derived.Test.YtgmohjegijndeaaPAllx1
import Derived.Test.YtgmohjegijndeaaPAllx7
import Derived.Test.YtgmohjegijndeaaPAllx8
import Derived.Test.YtgmohjegijndeaaMarkText
import Derived.Test.YtgmohjegijndeaaStdTaxRow
import Derived.Test.YtgmohjegijndeaaStdTaxLine
namespace Go.Proofs.Ytgmohjegijndeaa
open Go.RowKit Go.Proofs.Ytgmohjegijndeaa.PAll Go.Proofs.YtgmohjegijndeaaW.PrintWords Go.Proofs.YtgmohjegijndeaaW.PrintLast

theorem szTaxRowS_ok' (l : List S56) (hl : l.length ≤ 9223372036854775807) (hok : ∀ y ∈ l, okS56 y) : ∃ r, (∀ k, l.length < k → laws_szTaxRowS.f k l 1048576 = some r) ∧ (r < 0 ∨ (0 ≤ r ∧ l.length ≤ 1048576)) ∧ r ≤ 1048576 := by
  have key : ∀ d i left, i + d = l.length → l.length ≤ 1048576 → (0 : Int) ≤ left → left ≤ 1048576 → ∃ r, (∀ k, d < k → laws_szTaxRowS.l0 k l left (i : Int) = some r) ∧ (r < 0 ∨ 0 ≤ r) ∧ r ≤ 1048576 := by
    intro d
    induction d with
    | zero =>
      intro i left hi hl2 h0 h1
      refine ⟨left, fun k hk => ?_, by omega⟩
      obtain ⟨k, rfl⟩ : ∃ m, k = m + 1 := ⟨k - 1, by omega⟩
      rw [laws_szTaxRowS.l0, if_neg (by omega)]
    | succ d ih =>
      intro i left hi hl2 h0 h1
      obtain ⟨r, hr, hs, hle⟩ := szTaxRow_ok l[i] (hok _ (List.getElem_mem _)) left h0 h1
      by_cases hn : r < 0
      · refine ⟨-1, fun k hk => ?_, by omega⟩
        obtain ⟨k, rfl⟩ : ∃ m, k = m + 1 := ⟨k - 1, by omega⟩
        rw [laws_szTaxRowS.l0, if_pos (by omega), if_pos (by omega), rdATaxRow (show i < l.length by omega), hr]
        simp only [Option.bind_some]
        rw [if_pos hn]
      · obtain ⟨r2, hr2, hs2, hs3⟩ := ih (i + 1) r (by omega) hl2 (by omega) (by omega)
        refine ⟨r2, fun k hk => ?_, hs2, hs3⟩
        obtain ⟨k, rfl⟩ : ∃ m, k = m + 1 := ⟨k - 1, by omega⟩
        rw [laws_szTaxRowS.l0, if_pos (by omega), if_pos (by omega), rdATaxRow (show i < l.length by omega), hr]
        simp only [Option.bind_some]
        rw [if_neg hn, w64 (by omega) (by omega)]
        have := hr2 k (by omega)
        rw [show ((i + 1 : Nat) : Int) = (i : Int) + 1 by omega] at this
        exact this
  unfold laws_szTaxRowS.f
  rw [w64 (x := 1048576 - (l.length : Int)) (by omega) (by omega)]
  by_cases h : 1048576 - (l.length : Int) < 0
  · exact ⟨-1, fun k _ => by rw [if_pos h], by omega⟩
  · obtain ⟨r, hr, hs, hs9⟩ := key l.length 0 (1048576 - (l.length : Int)) (by omega) (by omega) (by omega) (by omega)
    refine ⟨r, fun k hk => ?_, by omega, hs9⟩
    rw [if_neg h]
    have := hr k hk
    simpa using this

theorem markTaxRow_loop : ∀ (d i : Nat) (l : List S66) (a : Int), i + d = l.length → 0 ≤ a → a + 6 * d ≤ 1000000000 → l.length ≤ 1000000000 → ∀ k, d + 20 < k → ∃ n l', laws_markTaxRowS.l0 k l a (i : Int) = some (n, l') ∧ 0 ≤ n ∧ n ≤ a + 6 * d := by
  intro d
  induction d with
  | zero =>
    intro i l a hi h0 h1 hl k hk
    obtain ⟨k, rfl⟩ : ∃ m, k = m + 1 := ⟨k - 1, by omega⟩
    rw [laws_markTaxRowS.l0, if_neg (by omega)]
    exact ⟨_, _, rfl, h0, by omega⟩
  | succ d ih =>
    intro i l a hi h0 h1 hl k hk
    obtain ⟨k, rfl⟩ : ∃ m, k = m + 1 := ⟨k - 1, by omega⟩
    rw [laws_markTaxRowS.l0, if_pos (by omega), if_pos (by omega), w64 (x := a + 1) (by omega) (by omega), w64 (x := a + 1 + 1) (by omega) (by omega), w64 (x := a + 1 + 1 + 1) (by omega) (by omega), w64 (x := a + 1 + 1 + 1 + 1) (by omega) (by omega), w64 (x := a + 1 + 1 + 1 + 1 + 1) (by omega) (by omega), w64 (x := a + 1 + 1 + 1 + 1 + 1 + 1) (by omega) (by omega), w64 (x := (i : Int) + 1) (by omega) (by omega)]
    obtain ⟨t1, e1⟩ := markText_any (a + 1) (by omega) k (by omega)
    simp only [Option.bind_some]
    rw [e1]
    simp only [Option.bind_some]
    generalize hz : List.set _ _ _ = l2
    have hlen : l2.length = l.length := by rw [← hz]; simp only [List.length_set]
    obtain ⟨n, l', e, n0, n1⟩ := ih (i + 1) l2 (a + 1 + 1 + 1 + 1 + 1 + 1) (by omega) (by omega) (by omega) (by omega) k (by omega)
    rw [show ((i + 1 : Nat) : Int) = (i : Int) + 1 by omega] at e
    exact ⟨n, l', e, n0, by omega⟩

theorem markTaxRow_any (l : List S66) (h : l.length ≤ 2000000) (k : Nat) (hk : l.length + 20 < k) : ∃ n l', laws_markTaxRowS.f k l 1 = some (n, l') ∧ 0 ≤ n ∧ n ≤ 1 + 6 * l.length := by
  unfold laws_markTaxRowS.f
  have := markTaxRow_loop l.length 0 l 1 (by omega) (by omega) (by omega) (by omega) k hk
  simpa using this

theorem markTaxLine_loop : ∀ (d i : Nat) (l : List S45) (a : Int), i + d = l.length → 0 ≤ a → a + 6 * d ≤ 1000000000 → l.length ≤ 1000000000 → ∀ k, d < k → ∃ n l', laws_markTaxLineS.l0 k l a (i : Int) = some (n, l') ∧ 0 ≤ n := by
  intro d
  induction d with
  | zero =>
    intro i l a hi h0 h1 hl k hk
    obtain ⟨k, rfl⟩ : ∃ m, k = m + 1 := ⟨k - 1, by omega⟩
    rw [laws_markTaxLineS.l0, if_neg (by omega)]
    exact ⟨_, _, rfl, h0⟩
  | succ d ih =>
    intro i l a hi h0 h1 hl k hk
    obtain ⟨k, rfl⟩ : ∃ m, k = m + 1 := ⟨k - 1, by omega⟩
    rw [laws_markTaxLineS.l0, if_pos (by omega), if_pos (by omega), w64 (x := a + 1) (by omega) (by omega), w64 (x := a + 1 + 1) (by omega) (by omega), w64 (x := (i : Int) + 1) (by omega) (by omega)]
    simp only [Option.bind_some]
    generalize hz : List.set _ _ _ = l2
    have hlen : l2.length = l.length := by rw [← hz]; simp only [List.length_set]
    obtain ⟨n, l', e, n0⟩ := ih (i + 1) l2 (a + 1 + 1) (by omega) (by omega) (by omega) (by omega) k (by omega)
    rw [show ((i + 1 : Nat) : Int) = (i : Int) + 1 by omega] at e
    exact ⟨n, l', e, n0⟩

theorem markTaxLine_any (l : List S45) (a : Int) (h : l.length ≤ 2000000) (a0 : 0 ≤ a) (a1 : a ≤ 100000000) (k : Nat) (hk : l.length < k) : ∃ n l', laws_markTaxLineS.f k l a = some (n, l') ∧ 0 ≤ n := by
  unfold laws_markTaxLineS.f
  have := markTaxLine_loop l.length 0 l a (by omega) a0 (by omega) (by omega) k hk
  simpa using this

theorem rdTaxSum1 {l : List S47} {i : Nat} (h : i < l.length) : rd_T47 l (i : Int) = l[i] := by
  unfold rd_T47
  rw [Int.toNat_natCast, List.getD_eq_getElem?_getD, List.getElem?_eq_getElem h]; rfl

/-- The sums that are written over others. -/
def sumsFrom (a : Int) : Nat → List S47
  | 0 => []
  | n + 1 => ⟨a, a + 1, a + 1 + 1, a + 1 + 1 + 1⟩ :: sumsFrom (a + 1 + 1 + 1 + 1) n

theorem sumsFrom_length : ∀ (n : Nat) (a : Int), (sumsFrom a n).length = n
  | 0, _ => rfl
  | n + 1, a => by rw [sumsFrom, List.length_cons, sumsFrom_length n]

theorem rdSet {l : List S47} {i : Nat} (h : i < l.length) (x : S47) : rd_T47 (l.set i x) (i : Int) = x := by
  rw [rdTaxSum1 (by rw [List.length_set]; exact h), List.getElem_set_self]

theorem markSum_loop : ∀ (d i : Nat) (l : List S47) (a : Int), i + d = l.length → 0 ≤ a → a + 4 * d ≤ 1000000000 → l.length ≤ 1000000000 → ∀ k, d < k → laws_markTaxSumS.l0 k l a (i : Int) = some (a + 4 * d, l.take i ++ sumsFrom a d) := by
  intro d
  induction d with
  | zero =>
    intro i l a hi h0 h1 hl k hk
    obtain ⟨k, rfl⟩ : ∃ m, k = m + 1 := ⟨k - 1, by omega⟩
    rw [laws_markTaxSumS.l0, if_neg (by omega), List.take_of_length_le (by omega), sumsFrom, List.append_nil]
    simp
  | succ d ih =>
    intro i l a hi h0 h1 hl k hk
    obtain ⟨k, rfl⟩ : ∃ m, k = m + 1 := ⟨k - 1, by omega⟩
    have hil : i < l.length := by omega
    rw [laws_markTaxSumS.l0, if_pos (by omega), if_pos (by omega), Int.toNat_natCast, w64 (x := a + 1) (by omega) (by omega), w64 (x := a + 1 + 1) (by omega) (by omega), w64 (x := a + 1 + 1 + 1) (by omega) (by omega), w64 (x := a + 1 + 1 + 1 + 1) (by omega) (by omega), w64 (x := (i : Int) + 1) (by omega) (by omega)]
    simp only [Option.bind_some, rdSet hil, List.set_set]
    have := ih (i + 1) (l.set i ⟨a, a + 1, a + 1 + 1, a + 1 + 1 + 1⟩) (a + 1 + 1 + 1 + 1) (by rw [List.length_set]; omega) (by omega) (by omega) (by rw [List.length_set]; omega) k (by omega)
    rw [show ((i + 1 : Nat) : Int) = (i : Int) + 1 by omega] at this
    rw [this, sumsFrom]
    have e : (l.set i (⟨a, a + 1, a + 1 + 1, a + 1 + 1 + 1⟩ : S47)).take (i + 1) = l.take i ++ [⟨a, a + 1, a + 1 + 1, a + 1 + 1 + 1⟩] := by
      rw [List.take_succ_eq_append_getElem (by rw [List.length_set]; omega), List.getElem_set_self, List.take_set_of_le (by omega)]
    rw [e, List.append_assoc]
    simp only [List.singleton_append, Option.some.injEq, Prod.mk.injEq, and_true]
    omega

theorem heldSum_loop : ∀ (d i : Nat) (l : List S47) (a : Int), i + d = l.length → l.drop i = sumsFrom a d → 0 ≤ a → a + 4 * d ≤ 1000000000 → l.length ≤ 1000000000 → ∀ k, d < k → laws_heldTaxSumS.l0 k l a (i : Int) = some (a + 4 * d) := by
  intro d
  induction d with
  | zero =>
    intro i l a hi hn h0 h1 hl k hk
    obtain ⟨k, rfl⟩ : ∃ m, k = m + 1 := ⟨k - 1, by omega⟩
    rw [laws_heldTaxSumS.l0, if_neg (by omega)]
    simp
  | succ d ih =>
    intro i l a hi hn h0 h1 hl k hk
    obtain ⟨k, rfl⟩ : ∃ m, k = m + 1 := ⟨k - 1, by omega⟩
    have hil : i < l.length := by omega
    rw [List.drop_eq_getElem_cons hil, sumsFrom, List.cons.injEq] at hn
    rw [laws_heldTaxSumS.l0, if_pos (by omega), if_pos (by omega), rdTaxSum1 hil, hn.1, w64 (x := a + 1) (by omega) (by omega), w64 (x := a + 1 + 1) (by omega) (by omega), w64 (x := a + 1 + 1 + 1) (by omega) (by omega), w64 (x := a + 1 + 1 + 1 + 1) (by omega) (by omega), w64 (x := (i : Int) + 1) (by omega) (by omega)]
    rw [if_pos rfl, if_pos rfl, if_pos rfl, if_pos rfl]
    have := ih (i + 1) l (a + 1 + 1 + 1 + 1) (by omega) hn.2 (by omega) (by omega) hl k (by omega)
    rw [show ((i + 1 : Nat) : Int) = (i : Int) + 1 by omega] at this
    rw [this]
    simp only [Option.some.injEq]
    omega

theorem markSum_is (l : List S47) (h : l.length ≤ 2000000) (k : Nat) (hk : l.length < k) : laws_markTaxSumS.f k l 1 = some (1 + 4 * (l.length : Int), sumsFrom 1 l.length) := by
  unfold laws_markTaxSumS.f
  have := markSum_loop l.length 0 l 1 (by omega) (by omega) (by omega) (by omega) k hk
  simpa using this

theorem heldSum_is (n : Nat) (h : n ≤ 2000000) (k : Nat) (hk : n < k) : laws_heldTaxSumS.f k (sumsFrom 1 n) 1 = some (1 + 4 * (n : Int)) := by
  unfold laws_heldTaxSumS.f
  have := heldSum_loop n 0 (sumsFrom 1 n) 1 (by rw [sumsFrom_length]; omega) (by simp) (by omega) (by omega) (by rw [sumsFrom_length]; omega) k hk
  simpa using this

theorem eqSum_refl (l : List S47) (h : l.length ≤ 2000000) (k : Nat) (hk : l.length < k) : laws_eqTaxSumS.f k l l = some true := by
  have loop : ∀ d i k, i + d = l.length → d < k → laws_eqTaxSumS.l0 k l l (i : Int) = some true := by
    intro d
    induction d with
    | zero =>
      intro i k hi hk
      obtain ⟨k, rfl⟩ : ∃ m, k = m + 1 := ⟨k - 1, by omega⟩
      rw [laws_eqTaxSumS.l0, if_neg (by omega)]
    | succ d ih =>
      intro i k hi hk
      obtain ⟨k, rfl⟩ : ∃ m, k = m + 1 := ⟨k - 1, by omega⟩
      have e : ∀ x : S47, laws_eqTaxSum.f x.f0 x.f1 x.f2 x.f3 x.f0 x.f1 x.f2 x.f3 = some true := fun x => by unfold laws_eqTaxSum.f; simp
      rw [laws_eqTaxSumS.l0, if_pos (by omega), if_pos (by omega), if_pos (by omega), e]
      simp only [Option.bind_some]
      rw [if_pos trivial, w64 (x := (i : Int) + 1) (by omega) (by omega)]
      have := ih (i + 1) k (by omega) (by omega)
      rwa [show ((i + 1 : Nat) : Int) = (i : Int) + 1 by omega] at this
  unfold laws_eqTaxSumS.f
  rw [if_pos rfl]
  have := loop l.length 0 k (by omega) hk
  simpa using this

end Go.Proofs.Ytgmohjegijndeaa
