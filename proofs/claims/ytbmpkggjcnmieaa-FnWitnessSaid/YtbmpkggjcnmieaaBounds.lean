/- Bounds: the reference's bounds of a field with which terms can all hold are the program's narrowed ones, and its least facts are the least of them. -/
import Derived.Test.YtbmpkggjcnmieaaPAllx0
import Derived.Test.YtbmpkggjcnmieaaPAllx3
import Derived.Test.YtbmpkggjcnmieaaPAllx4
import Derived.Test.YtbmpkggjcnmieaaPAllx6
import Derived.Test.YtbmpkggjcnmieaaClause1
namespace Go.Proofs.Ytbmpkggjcnmieaa
open Go.RowKit Go.Proofs.Ytbmpkggjcnmieaa.PAll Go.Proofs.YtbmpkggjcnmieaaW.PrintWords Go.Proofs.YtbmpkggjcnmieaaW.PrintLast Go.Proofs.YtbmpkggjcnmieaaW.PrintMore

theorem bone_lo (b : Nat → Int) (x : S47) (i : Nat) : impl_narrowed.one b x (2 * i) = if i = x.f0.toNat ∧ x.f1 ≠ 2 then mx (b (2 * i)) x.f2 else b (2 * i) := by
  unfold impl_narrowed.one
  by_cases h : i = x.f0.toNat ∧ x.f1 ≠ 2
  · rw [if_pos h, if_pos ⟨by omega, h.2⟩]
  · rw [if_neg h, if_neg (fun e => h ⟨by omega, e.2⟩), if_neg (fun e => by omega)]

theorem bone_hi (b : Nat → Int) (x : S47) (i : Nat) : impl_narrowed.one b x (2 * i + 1) = if i = x.f0.toNat ∧ x.f1 ≠ 1 then mn (b (2 * i + 1)) x.f2 else b (2 * i + 1) := by
  unfold impl_narrowed.one
  rw [if_neg (fun e => by omega)]
  by_cases h : i = x.f0.toNat ∧ x.f1 ≠ 1
  · rw [if_pos h, if_pos ⟨by omega, h.2⟩]
  · rw [if_neg h, if_neg (fun e => h ⟨by omega, e.2⟩)]

theorem ball_lo (i : Nat) (h : 1 ≤ i) (h5 : i ≤ 5) : impl_bounds.all (2 * i) = loB (i : Int) ∧ impl_bounds.all (2 * i + 1) = hiB (i : Int) := by
  have : i = 1 ∨ i = 2 ∨ i = 3 ∨ i = 4 ∨ i = 5 := by omega
  rcases this with rfl | rfl | rfl | rfl | rfl <;> exact ⟨rfl, rfl⟩

/-- Terms whose fields are right. -/
def TermsOK (l : List S47) : Prop := l.length ≤ 1000 ∧ ∀ x ∈ l, 1 ≤ x.f0 ∧ x.f0 ≤ 5

theorem bounds_is (l : List S47) (h : TermsOK l) (j : Nat) (h1 : 1 ≤ j) (h5 : j ≤ 5) (k : Nat) (hk : l.length < k) :
    spec_l06Bounds.f k l (j : Int) = some (impl_narrowed.go impl_bounds.all l (2 * j), impl_narrowed.go impl_bounds.all l (2 * j + 1)) := by
  have key : ∀ d i (b : Nat → Int) k, i + d = l.length → d < k → spec_l06Bounds.l0 k l (j : Int) (b (2 * j)) (b (2 * j + 1)) (i : Int) = some (impl_narrowed.go b (l.drop i) (2 * j), impl_narrowed.go b (l.drop i) (2 * j + 1)) := by
    intro d
    induction d with
    | zero =>
      intro i b k hi hk
      obtain ⟨k, rfl⟩ : ∃ m, k = m + 1 := ⟨k - 1, by omega⟩
      rw [spec_l06Bounds.l0, if_neg (by omega), List.drop_eq_nil_of_le (by omega)]; rfl
    | succ d ih =>
      intro i b k hi hk
      obtain ⟨k, rfl⟩ : ∃ m, k = m + 1 := ⟨k - 1, by omega⟩
      have hil : i < l.length := by omega
      have hL := h.1
      have hx := h.2 _ (List.getElem_mem hil)
      have e := ih (i + 1) (impl_narrowed.one b l[i]) k (by omega) (by omega)
      rw [bone_lo, bone_hi] at e
      rw [spec_l06Bounds.l0, if_pos (by omega), if_pos (by omega), rdBTerm hil, w64 (by omega) (by omega), List.drop_eq_getElem_cons hil, impl_narrowed.go, ← e, show ((i + 1 : Nat) : Int) = (i : Int) + 1 by omega]
      generalize l[i] = x at *
      by_cases hf : x.f0 = (j : Int)
      · have hj : j = x.f0.toNat := by omega
        rw [if_pos hf]
        by_cases o2 : x.f1 = 2
        · rw [if_pos o2, if_neg (show ¬ x.f1 = 1 by omega), if_neg (show ¬ (j = x.f0.toNat ∧ x.f1 ≠ 2) from fun q => q.2 o2), if_pos (show j = x.f0.toNat ∧ x.f1 ≠ 1 from ⟨hj, by omega⟩)]
        · rw [if_neg o2, if_pos (show j = x.f0.toNat ∧ x.f1 ≠ 2 from ⟨hj, o2⟩)]
          by_cases o1 : x.f1 = 1
          · rw [if_pos o1, if_neg (show ¬ (j = x.f0.toNat ∧ x.f1 ≠ 1) from fun q => q.2 o1)]
          · rw [if_neg o1, if_pos (show j = x.f0.toNat ∧ x.f1 ≠ 1 from ⟨hj, o1⟩)]
      · have hj : ¬ j = x.f0.toNat := by omega
        rw [if_neg hf, if_neg (show ¬ (j = x.f0.toNat ∧ x.f1 ≠ 2) from fun q => hj q.1), if_neg (show ¬ (j = x.f0.toNat ∧ x.f1 ≠ 1) from fun q => hj q.1)]
  have hlo := low_is (j : Int) (by omega)
  have hb := ball_lo j h1 h5
  unfold spec_l06Bounds.f
  rw [hlo.1, Option.bind_some, hlo.2, Option.bind_some, ← hb.1, ← hb.2]
  have := key l.length 0 impl_bounds.all k (by omega) hk
  simpa using this

/-- No facts are within bounds. -/
def emptyB (b : Nat → Int) : Bool := decide (b 2 > b 3) || (decide (b 4 > b 5) || (decide (b 6 > b 7) || (decide (b 8 > b 9) || decide (b 10 > b 11))))

theorem least_is (l : List S47) (h : TermsOK l) (k : Nat) (hk : l.length + 10 < k) :
    spec_l06Least.f k l = some (if emptyB (impl_narrowed.go impl_bounds.all l) = true then (0, 0, 0, 0, 0, false) else
      (impl_narrowed.go impl_bounds.all l 2, impl_narrowed.go impl_bounds.all l 4, impl_narrowed.go impl_bounds.all l 6, impl_narrowed.go impl_bounds.all l 8, impl_narrowed.go impl_bounds.all l 10, true)) := by
  obtain ⟨k, rfl⟩ : ∃ m, k = m + 6 := ⟨k - 6, by omega⟩
  have b1 : spec_l06Bounds.f (k + 5) l 1 = some (impl_narrowed.go impl_bounds.all l 2, impl_narrowed.go impl_bounds.all l 3) := bounds_is l h 1 (by omega) (by omega) (k + 5) (by omega)
  have b2 : spec_l06Bounds.f (k + 4) l 2 = some (impl_narrowed.go impl_bounds.all l 4, impl_narrowed.go impl_bounds.all l 5) := bounds_is l h 2 (by omega) (by omega) (k + 4) (by omega)
  have b3 : spec_l06Bounds.f (k + 3) l 3 = some (impl_narrowed.go impl_bounds.all l 6, impl_narrowed.go impl_bounds.all l 7) := bounds_is l h 3 (by omega) (by omega) (k + 3) (by omega)
  have b4 : spec_l06Bounds.f (k + 2) l 4 = some (impl_narrowed.go impl_bounds.all l 8, impl_narrowed.go impl_bounds.all l 9) := bounds_is l h 4 (by omega) (by omega) (k + 2) (by omega)
  have b5 : spec_l06Bounds.f (k + 1) l 5 = some (impl_narrowed.go impl_bounds.all l 10, impl_narrowed.go impl_bounds.all l 11) := bounds_is l h 5 (by omega) (by omega) (k + 1) (by omega)
  generalize impl_narrowed.go impl_bounds.all l = b at *
  unfold spec_l06Least.f emptyB
  rw [spec_l06Least.l0, if_pos (by decide), b1, Option.bind_some]
  by_cases h1 : b 2 > b 3
  · rw [if_pos h1, decide_eq_true h1]; rfl
  rw [if_neg h1, decide_eq_false h1, if_pos (by simp), w64 (by decide) (by decide)]
  rw [spec_l06Least.l0, if_pos (by decide), show ((1 : Int) + 1) = 2 from rfl, b2, Option.bind_some]
  by_cases h2 : b 4 > b 5
  · rw [if_pos h2, decide_eq_true h2]; rfl
  rw [if_neg h2, decide_eq_false h2, if_pos (by simp), w64 (by decide) (by decide)]
  rw [spec_l06Least.l0, if_pos (by decide), show ((2 : Int) + 1) = 3 from rfl, b3, Option.bind_some]
  by_cases h3 : b 6 > b 7
  · rw [if_pos h3, decide_eq_true h3]; rfl
  rw [if_neg h3, decide_eq_false h3, if_pos (by simp), w64 (by decide) (by decide)]
  rw [spec_l06Least.l0, if_pos (by decide), show ((3 : Int) + 1) = 4 from rfl, b4, Option.bind_some]
  by_cases h4 : b 8 > b 9
  · rw [if_pos h4, decide_eq_true h4]; rfl
  rw [if_neg h4, decide_eq_false h4, if_pos (by simp), w64 (by decide) (by decide)]
  rw [spec_l06Least.l0, if_pos (by decide), show ((4 : Int) + 1) = 5 from rfl, b5, Option.bind_some]
  by_cases h5 : b 10 > b 11
  · rw [if_pos h5, decide_eq_true h5]; rfl
  rw [if_neg h5, decide_eq_false h5, if_pos (by simp), w64 (by decide) (by decide)]
  rw [spec_l06Least.l0, if_neg (by decide)]
  rfl

theorem go_zero : ∀ (l : List S47) (b : Nat → Int), (∀ x ∈ l, 1 ≤ x.f0 ∧ x.f0 ≤ 5) → impl_narrowed.go b l 0 = b 0 ∧ impl_narrowed.go b l 1 = b 1
  | [], _, _ => ⟨rfl, rfl⟩
  | x :: xs, b, h => by
    have hx := h x (List.mem_cons_self ..)
    have e := go_zero xs (impl_narrowed.one b x) (fun y hy => h y (List.mem_cons_of_mem _ hy))
    have h0 := bone_lo b x 0
    have h1 := bone_hi b x 0
    rw [if_neg (fun q => by omega)] at h0 h1
    rw [impl_narrowed.go]
    exact ⟨e.1.trans h0, e.2.trans h1⟩

theorem empty_is (b : Nat → Int) (h : b 0 ≤ b 1) : impl_isEmpty.f b = emptyB b := by
  unfold impl_isEmpty.f emptyB
  simp only [impl_isEmpty.idx, Nat.mul_zero, Nat.zero_add, Nat.mul_one, Nat.reduceMul, Nat.reduceAdd]
  rw [if_neg (show ¬ b 0 > b 1 by omega)]
  by_cases h1 : b 2 > b 3
  · simp [h1]
  by_cases h2 : b 4 > b 5
  · simp [h1, h2]
  by_cases h3 : b 6 > b 7
  · simp [h1, h2, h3]
  by_cases h4 : b 8 > b 9
  · simp [h1, h2, h3, h4]
  by_cases h5 : b 10 > b 11
  · simp [h1, h2, h3, h4, h5]
  · simp [h1, h2, h3, h4, h5]

theorem go_append : ∀ (l m : List S47) (b : Nat → Int), impl_narrowed.go b (l ++ m) = impl_narrowed.go (impl_narrowed.go b l) m
  | [], _, _ => rfl
  | x :: xs, m, b => by rw [List.cons_append, impl_narrowed.go, impl_narrowed.go, go_append xs m]

theorem clauseB_terms (c : S37) (h : clauseB c = true) : c.f1.length ≤ 8 ∧ ∀ x ∈ c.f1, (1 ≤ x.f0 ∧ x.f0 ≤ 5) ∧ (1 ≤ x.f1 ∧ x.f1 ≤ 3) := by
  unfold clauseB at h
  rw [Bool.and_eq_true, Bool.and_eq_true, Bool.and_eq_true] at h
  refine ⟨by have := of_decide_eq_true h.2.1; omega, fun x hx => ?_⟩
  have := List.all_eq_true.1 h.2.2.2 x hx
  unfold termB at this
  rw [Bool.and_eq_true, Bool.and_eq_true] at this
  exact ⟨of_decide_eq_true this.1, of_decide_eq_true this.2.1⟩

/-- The bounds of a rule's facts. -/
def bnd (c : S37) : Nat → Int := impl_narrowed.go impl_bounds.all c.f1

end Go.Proofs.Ytbmpkggjcnmieaa
