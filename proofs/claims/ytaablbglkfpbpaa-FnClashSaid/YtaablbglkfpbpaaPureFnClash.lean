/- FnClash is true for every two codes of bytes: longer ones are let by by the law's own guard; the drawn rules are right, both sides tell the same hidden rules, none of them is decided for, and a clash is told with facts that make both rules fire, whichever comes first. -/
import Derived.Test.YtaablbglkfpbpaaPAllx0
import Derived.Test.YtaablbglkfpbpaaPAllx19
import Derived.Test.YtaablbglkfpbpaaPAllx3
import Derived.Test.YtaablbglkfpbpaaFires
import Derived.Test.YtaablbglkfpbpaaDrawClauses
import Derived.Test.YtaablbglkfpbpaaAt
namespace Go.Proofs.Ytaablbglkfpbpaa.Pure
open Go.RowKit Go.Proofs.Ytaablbglkfpbpaa Go.Proofs.Ytaablbglkfpbpaa.PAll Go.Proofs.YtaablbglkfpbpaaW.PrintWords Go.Proofs.YtaablbglkfpbpaaW.PrintLast

theorem two_ (x y : S32) (hx : clauseB x = true) (hy : clauseB y = true) (f0 f1 f2 f3 f4 : Int) (hw : Within (nums f0 f1 f2 f3 f4) impl_bounds.all) (k : Nat) (hk : 1000 ≤ k) : laws_FnClash.two k x y f0 f1 f2 f3 f4 = some true := by
  have ht := clash_tells x y hx hy
  unfold laws_FnClash.two
  rw [clash_impl x y _ (by omega), Option.bind_some, clash_impl y x _ (by omega), Option.bind_some, clash_spec x y _ (by omega), Option.bind_some, clash_comm y x]
  have fr := fun g0 g1 g2 g3 g4 => lawFires_is g0 g1 g2 g3 g4 x hx k (by omega)
  have fs := fun g0 g1 g2 g3 g4 => lawFires_is g0 g1 g2 g3 g4 y hy k (by omega)
  generalize clashB x y = r at *
  obtain ⟨r0, r1, r2, r3, r4, r5, r6⟩ := r
  obtain ⟨t1, t2, t3⟩ := ht
  simp only at t1 t2 t3
  rw [if_pos ⟨laws_FnClash.same_refl _, laws_FnClash.same_refl _, t3⟩]
  by_cases e : x.f2 = y.f2 ∧ x.f3 = y.f3
  · rw [if_pos e]
    cases r5
    · rfl
    · rcases (t1 rfl).1 with h | h
      · exact absurd e.1 h
      · exact absurd e.2 h
  have hu : x.f2 ≠ y.f2 ∨ x.f3 ≠ y.f3 := by
    by_cases e2 : x.f2 = y.f2
    · right; exact fun e3 => e ⟨e2, e3⟩
    · left; exact e2
  rw [if_neg e]
  cases r5
  · rw [if_neg (show ¬ (false = true) by decide), fr, Option.bind_some]
    cases ha : firesB (nums f0 f1 f2 f3 f4) x
    · rfl
    · rw [if_pos rfl, fs, Option.bind_some]
      cases hb : firesB (nums f0 f1 f2 f3 f4) y
      · rfl
      · exact (t2 rfl hu f0 f1 f2 f3 f4 hw ha hb).elim
  · obtain ⟨_, q2, q3⟩ := t1 rfl
    rw [if_pos rfl, fr, Option.bind_some]
    simp only
    rw [q2, if_pos rfl, fs, Option.bind_some]
    rw [q3, if_pos rfl]

/-- The end: two rules, told one way and the other. -/
theorem ends_ (l1 : List Int) (h1 : (l1.length : Int) ≤ 1048576) (hb1 : ∀ x ∈ l1, 0 ≤ x ∧ x ≤ 255) (L : List S32) (h7 : L.length ≤ 7) (hall : ∀ c ∈ L, clauseB c = true) (f0 f1 f2 f3 f4 : Int) (hw : Within (nums f0 f1 f2 f3 f4) impl_bounds.all) (k : Nat) (hk : 1000 ≤ k) :
    laws_FnClash.rest k l1 L f0 f1 f2 f3 f4 = some true := by
  unfold laws_FnClash.rest
  by_cases h2 : (L.length : Int) < 2
  · rw [if_pos h2]
  rw [if_neg h2]
  obtain ⟨a, ea, a0, a1⟩ := at_ok 0 (L.length : Int) h1 hb1 (by omega) (by omega) (by omega)
  obtain ⟨b, eb, b0, b1⟩ := at_ok 1 (L.length : Int) h1 hb1 (by omega) (by omega) (by omega)
  have a2 := a1 (by omega)
  have b2 := b1 (by omega)
  obtain ⟨i, rfl⟩ : ∃ i : Nat, a = i := ⟨a.toNat, by omega⟩
  obtain ⟨j, rfl⟩ : ∃ j : Nat, b = j := ⟨b.toNat, by omega⟩
  have hi : i < L.length := by omega
  have hj : j < L.length := by omega
  rw [ea, Option.bind_some, eb, Option.bind_some, if_pos ⟨⟨a0, a2⟩, b0, b2⟩, rdBClause hi, rdBClause hj]
  exact two_ _ _ (hall _ (List.getElem_mem hi)) (hall _ (List.getElem_mem hj)) f0 f1 f2 f3 f4 hw k hk

theorem hid_length (rows : List S32) : ∀ (l : List S32) (i : Nat), (hidGo rows l i).length ≤ l.length
  | [], _ => Nat.le_refl _
  | x :: xs, i => by
    have := hid_length rows xs (i + 1)
    rw [hidGo]
    split <;> simp only [List.length_cons] <;> omega

theorem FnClash (l0 : List Int) (l1 : List Int) (h0 : l0.length ≤ 9223372036854775807 ∧ ∀ y ∈ l0, (Lit.int .u8 y).wf = true) (h1 : l1.length ≤ 9223372036854775807 ∧ ∀ y ∈ l1, (Lit.int .u8 y).wf = true) : ∃ k, laws_FnClash.f k l0 l1 = some true := by
  refine ⟨2300000, ?_⟩
  unfold laws_FnClash.f
  by_cases hl0 : (l0.length : Int) > 1048576
  · rw [if_pos hl0]
  rw [if_neg hl0]
  by_cases hl1 : (l1.length : Int) > 1048576
  · rw [if_pos hl1]
  rw [if_neg hl1]
  obtain ⟨L, f0, f1, f2, f3, f4, eL, h7, hc, hw⟩ := clausesOf_ok (l := l0) (by omega) h0.2
  obtain ⟨_, hall⟩ := clausesB_all L hc
  have hB : hiddenB L = (hidGo L L 0, 0) := by
    unfold hiddenB
    rw [if_neg (by omega), hc, if_neg (by decide)]
  have hlen := hid_length L L 0
  obtain ⟨w, _, hww⟩ := isIn_is f0 f1 f2 f3 f4 impl_bounds.all
  have hD : decideB L (nums f0 f1 f2 f3 f4) w = if firstOf (firesB (nums f0 f1 f2 f3 f4)) L 0 < 0 then (0, 8) else (firstOf (firesB (nums f0 f1 f2 f3 f4)) L 0, 0) := by
    unfold decideB
    rw [if_neg (show ¬ L.length > 4096 by omega), hc, if_neg (by decide), hww.2 hw, if_neg (by decide)]
  rw [eL _ (by omega), Option.bind_some, hidden_impl L (by omega) _ (by omega), Option.bind_some, hidden_spec L _ (by omega), Option.bind_some, hB, if_pos rfl, sameInts_refl _ (show (hidGo L L 0).length ≤ 2000000 by omega) _ (show (hidGo L L 0).length < 2300000 by omega), Option.bind_some, if_pos rfl, decide_impl L (by omega) f0 f1 f2 f3 f4 w hww _ (by omega), Option.bind_some, hD]
  have he := ends_ l1 (by omega) (bytes_bd h1.2) L h7 hall f0 f1 f2 f3 f4 hw 2300000 (by omega)
  by_cases hn : firstOf (firesB (nums f0 f1 f2 f3 f4)) L 0 < 0
  · rw [if_pos hn, if_neg (fun q => by have := q.1; revert this; decide)]
    exact he
  · rw [if_neg hn, if_neg (fun q => decided_not_hidden f0 f1 f2 f3 f4 L hc hw q.2)]
    exact he

end Go.Proofs.Ytaablbglkfpbpaa.Pure
