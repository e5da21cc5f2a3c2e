/- Hidden rules: the program and the reference tell the same ones; both sides. -/
import Derived.Test.YtbmpkggjcnmieaaPAllx0
import Derived.Test.YtbmpkggjcnmieaaPAllx2
import Derived.Test.YtbmpkggjcnmieaaPAllx3
import Derived.Test.YtbmpkggjcnmieaaPAllx5
import Derived.Test.YtbmpkggjcnmieaaPAllx6
import Derived.Test.YtbmpkggjcnmieaaPAllx7
import Derived.Test.YtbmpkggjcnmieaaGoC
import Derived.Test.YtbmpkggjcnmieaaBounds
namespace Go.Proofs.Ytbmpkggjcnmieaa
open Go.RowKit Go.Proofs.Ytbmpkggjcnmieaa.PAll Go.Proofs.YtbmpkggjcnmieaaW.PrintWords Go.Proofs.YtbmpkggjcnmieaaW.PrintLast

/-- The bounds of a rule's facts. -/
def bnd (c : S37) : Nat → Int := impl_narrowed.go impl_bounds.all c.f1

/-- Bounds lie within others. -/
def coversB (b c : Nat → Int) : Bool := impl_covers.go b c 6 0

def hidB (rows : List S37) (x : S37) (i : Nat) : Bool := emptyB (bnd x) || (rows.take i).any fun c => coversB (bnd c) (bnd x)

/-- The hidden rules' places. -/
def hidGo (rows : List S37) : List S37 → Nat → List Int
  | [], _ => []
  | x :: xs, i => if hidB rows x i = true then (i : Int) :: hidGo rows xs (i + 1) else hidGo rows xs (i + 1)

def hiddenB (l : List S37) : List Int × Int :=
  if l.length > 4096 then ([], 2) else if clausesB l = false then ([], 1) else (hidGo l l 0, 0)

theorem firstOf_any {α : Type} (q : α → Bool) : ∀ (l : List α) (i : Int), 0 ≤ i → decide (firstOf q l i ≥ 0) = l.any q
  | [], _, _ => rfl
  | x :: xs, i, h => by
    rw [firstOf, List.any_cons]
    cases hx : q x
    · rw [if_neg (by decide), Bool.false_or]; exact firstOf_any q xs (i + 1) (by omega)
    · rw [if_pos rfl, decide_eq_true h]; rfl

theorem clausesB_all (l : List S37) (h : clausesB l = true) : l.length ≤ 40 ∧ ∀ c ∈ l, clauseB c = true := by
  unfold clausesB at h
  rw [Bool.and_eq_true] at h
  exact ⟨by have := of_decide_eq_true h.2; omega, goC_all l l 0 h.1⟩

theorem bnd_ok (c : S37) (h : clauseB c = true) : TermsOK c.f1 ∧ bnd c 0 = 0 ∧ bnd c 1 = 0 := by
  have ht := clauseB_terms c h
  have hk : TermsOK c.f1 := ⟨by omega, fun x hx => (ht.2 x hx).1⟩
  exact ⟨hk, go_zero _ impl_bounds.all hk.2⟩

theorem hidden_go (l0 : List S37) (hall : ∀ c ∈ l0, clauseB c = true) : ∀ (l : List S37) (i : Nat) (out : List Int), (∀ c ∈ l, clauseB c = true) → out.length ≤ i → i + l.length ≤ 4096 →
    impl_Hidden.go l0 l i out = some (out ++ hidGo l0 l i, 0)
  | [], _, out, _, _, _ => by rw [impl_Hidden.go, hidGo, List.append_nil]
  | x :: xs, i, out, hl, ho, hi => by
    have hx := bnd_ok x (hl x (List.mem_cons_self ..))
    have hi' : i + 1 + xs.length ≤ 4096 := by simp only [List.length_cons] at hi; omega
    have ih := fun out' h => hidden_go l0 hall xs (i + 1) out' (fun c hc => hl c (List.mem_cons_of_mem _ hc)) h hi'
    have he : impl_isEmpty.f (impl_narrowed.go impl_bounds.all x.f1) = emptyB (bnd x) := empty_is _ (show bnd x 0 ≤ bnd x 1 by rw [hx.2.1, hx.2.2]; decide)
    have hq : impl_Clause_28.f (impl_Hidden_1.p (impl_narrowed.go impl_bounds.all x.f1)) (l0.take i) = some ((l0.take i).any fun c => coversB (bnd c) (bnd x)) := by
      unfold impl_Clause_28.f
      rw [idx_is _ (fun c => coversB (bnd c) (bnd x)) (l0.take i) 0 (fun c hc => by
        have hc' := bnd_ok c (hall c (List.mem_of_mem_take hc))
        unfold impl_Hidden_1.p
        rw [if_pos (List.all_eq_true.2 fun t ht => decide_eq_true (hc'.1.2 t ht))]; rfl), Option.bind_some, firstOf_any _ _ _ (by omega)]
    rw [impl_Hidden.go_cons, if_pos (List.all_eq_true.2 fun t ht => decide_eq_true (hx.1.2 t ht)), he, hq, hidGo]
    unfold hidB
    cases emptyB (bnd x)
    · rw [if_neg (by decide), Option.bind_some, Bool.false_or]
      cases (l0.take i).any fun c => coversB (bnd c) (bnd x)
      · rw [if_neg (by decide), if_neg (by decide)]; exact ih out (by omega)
      · rw [if_pos rfl, if_pos rfl, if_pos (by omega), ih _ (by simp only [List.length_append, List.length_cons, List.length_nil]; omega), List.append_assoc]; rfl
    · rw [if_pos rfl, Option.bind_some, if_pos rfl, Bool.true_or, if_pos rfl, if_pos (by omega), ih _ (by simp only [List.length_append, List.length_cons, List.length_nil]; omega), List.append_assoc]; rfl

theorem hidden_impl (l : List S37) (hl : l.length ≤ 1048576) (k : Nat) (hk : 2200000 ≤ k) : impl_Hidden.f k l = some (hiddenB l) := by
  unfold impl_Hidden.f hiddenB impl_Clause_24.f
  rw [Option.bind_some]
  by_cases h : l.length > 4096
  · rw [decide_eq_false (by omega), if_pos h]; rfl
  rw [decide_eq_true (by omega), if_neg h, if_pos rfl, clauses_impl l hl k hk, Option.bind_some]
  cases hc : clausesB l
  · rfl
  have hall := clausesB_all l hc
  rw [if_pos rfl, if_neg (by decide), hidden_go l hall.2 l 0 [] hall.2 (by simp) (by omega)]; rfl

theorem covers_is (l m : List S47) (hl : TermsOK l) (hm : TermsOK m) (a b : ByteArray) (c d e f : Int) (k : Nat) (hk : l.length + m.length + 20 < k) :
    spec_l06Covers.f k a l c d b m e f = some (coversB (impl_narrowed.go impl_bounds.all l) (impl_narrowed.go impl_bounds.all m)) := by
  have z1 := go_zero l impl_bounds.all hl.2
  have z2 := go_zero m impl_bounds.all hm.2
  have key : ∀ (dd i k : Nat), i + dd = 6 → 1 ≤ i → dd + l.length + m.length + 10 < k → spec_l06Covers.l0 k (i : Int) a l c d b m e f = some (impl_covers.go (impl_narrowed.go impl_bounds.all l) (impl_narrowed.go impl_bounds.all m) dd i) := by
    intro dd
    induction dd with
    | zero =>
      intro i k hi h1 hk
      obtain ⟨k, rfl⟩ : ∃ m, k = m + 1 := ⟨k - 1, by omega⟩
      rw [spec_l06Covers.l0, if_neg (by omega)]; rfl
    | succ dd ih =>
      intro i k hi h1 hk
      obtain ⟨k, rfl⟩ : ∃ m, k = m + 1 := ⟨k - 1, by omega⟩
      have e := ih (i + 1) k (by omega) (by omega) (by omega)
      rw [show ((i + 1 : Nat) : Int) = (i : Int) + 1 by omega] at e
      rw [spec_l06Covers.l0, if_pos (by omega), bounds_is l hl i h1 (by omega) k (by omega), Option.bind_some, bounds_is m hm i h1 (by omega) k (by omega), Option.bind_some, w64 (by omega) (by omega), e, impl_covers.go]
      split
      · rfl
      · split <;> rfl
  unfold spec_l06Covers.f coversB
  have := key 5 1 k (by omega) (by omega) (by omega)
  rw [show ((1 : Nat) : Int) = 1 from rfl] at this
  have e0 : impl_covers.go (impl_narrowed.go impl_bounds.all l) (impl_narrowed.go impl_bounds.all m) 6 0 = impl_covers.go (impl_narrowed.go impl_bounds.all l) (impl_narrowed.go impl_bounds.all m) 5 1 := by
    rw [impl_covers.go, if_neg (show ¬ impl_narrowed.go impl_bounds.all m 0 < impl_narrowed.go impl_bounds.all l 0 by rw [z1.1, z2.1]; decide), if_neg (show ¬ impl_narrowed.go impl_bounds.all m 1 > impl_narrowed.go impl_bounds.all l 1 by rw [z1.2, z2.2]; decide)]
  rw [this, e0]

theorem hidden_spec (l : List S37) (k : Nat) (hk : 2200000 ≤ k) : spec_Hidden.f k l = some (hiddenB l) := by
  unfold spec_Hidden.f hiddenB
  by_cases h : l.length > 4096
  · rw [if_pos (by omega), if_pos h]
  rw [if_neg (by omega), if_neg h, clauses_spec l k hk, Option.bind_some]
  cases hc : clausesB l
  · rfl
  obtain ⟨h40, hall⟩ := clausesB_all l hc
  rw [if_pos rfl, if_neg (by decide)]
  have key : ∀ d i (out : List Int) k, i + d = l.length → out.length ≤ i → d * 100 + 100 < k → spec_Hidden.l0 k l out (i : Int) = some (out ++ hidGo l (l.drop i) i, 0) := by
    intro d
    induction d with
    | zero =>
      intro i out k hi ho hk
      obtain ⟨k, rfl⟩ : ∃ m, k = m + 1 := ⟨k - 1, by omega⟩
      rw [spec_Hidden.l0, if_neg (by omega), List.drop_eq_nil_of_le (by omega), hidGo, List.append_nil]
    | succ d ih =>
      intro i out k hi ho hk
      obtain ⟨k, rfl⟩ : ∃ m, k = m + 1 := ⟨k - 1, by omega⟩
      have hil : i < l.length := by omega
      have hx := bnd_ok _ (hall _ (List.getElem_mem hil))
      have inner : ∀ e j (hid : Bool) k, j + e = i → e + d * 100 + 130 < k → spec_Hidden.l1 k l out (i : Int) hid (j : Int) =
          some ((if (hid || ((l.take i).drop j).any fun c => coversB (bnd c) (bnd l[i])) = true then out ++ [(i : Int)] else out) ++ hidGo l (l.drop (i + 1)) (i + 1), 0) := by
        intro e
        induction e with
        | zero =>
          intro j hid k hj hk
          obtain ⟨k, rfl⟩ : ∃ m, k = m + 1 := ⟨k - 1, by omega⟩
          have e1 := ih (i + 1) out k (by omega) (by omega) (by omega)
          have e2 := ih (i + 1) (out ++ [(i : Int)]) k (by omega) (by simp only [List.length_append, List.length_cons, List.length_nil]; omega) (by omega)
          rw [show ((i + 1 : Nat) : Int) = (i : Int) + 1 by omega] at e1 e2
          rw [spec_Hidden.l1, if_neg (by omega), w64 (by omega) (by omega), e1, e2, show (l.take i).drop j = [] from List.drop_eq_nil_of_le (by rw [List.length_take]; omega), List.any_nil, Bool.or_false, if_pos (show out.length < 17592186044416 by omega)]
          cases hid
          · rfl
          · rfl
        | succ e ihe =>
          intro j hid k hj hk
          obtain ⟨k, rfl⟩ : ∃ m, k = m + 1 := ⟨k - 1, by omega⟩
          have hjl : j < l.length := by omega
          cases hid
          · have ht := ihe (j + 1)
            have hy := bnd_ok _ (hall _ (List.getElem_mem hjl))
            have b1 := (clauseB_terms _ (hall _ (List.getElem_mem hil))).1
            have b2 := (clauseB_terms _ (hall _ (List.getElem_mem hjl))).1
            rw [spec_Hidden.l1, if_pos (by omega), if_neg (by decide), if_pos (by omega), if_pos (by omega), if_pos (by omega), if_pos (by omega), rdBClause hjl, rdBClause hil, covers_is _ _ hy.1 hx.1 _ _ _ _ _ _ _ (by omega), Option.bind_some, w64 (by omega) (by omega)]
            have e3 := ht (coversB (bnd l[j]) (bnd l[i])) k (by omega) (by omega)
            rw [show ((j + 1 : Nat) : Int) = (j : Int) + 1 by omega] at e3
            unfold bnd at e3
            rw [e3]
            have hd : (l.take i).drop j = l[j] :: (l.take i).drop (j + 1) := by
              rw [List.drop_eq_getElem_cons (by rw [List.length_take]; omega), List.getElem_take]
            rw [hd, List.any_cons, Bool.false_or]
            rfl
          · have e2 := ih (i + 1) (out ++ [(i : Int)]) k (by omega) (by simp only [List.length_append, List.length_cons, List.length_nil]; omega) (by omega)
            rw [show ((i + 1 : Nat) : Int) = (i : Int) + 1 by omega] at e2
            rw [spec_Hidden.l1, if_pos (by omega), if_pos rfl, if_pos (by omega), w64 (by omega) (by omega), e2]
            rfl
      have b1 := (clauseB_terms _ (hall _ (List.getElem_mem hil))).1
      rw [spec_Hidden.l0, if_pos (by omega), if_pos (by omega), rdBClause hil, least_is _ hx.1 _ (by omega), Option.bind_some]
      have e4 := inner i 0 (emptyB (bnd l[i])) k (by omega) (by omega)
      rw [List.drop_zero] at e4
      have e5 : (!(if emptyB (impl_narrowed.go impl_bounds.all l[i].f1) = true then ((0 : Int), (0 : Int), (0 : Int), (0 : Int), (0 : Int), false) else
        (impl_narrowed.go impl_bounds.all l[i].f1 2, impl_narrowed.go impl_bounds.all l[i].f1 4, impl_narrowed.go impl_bounds.all l[i].f1 6, impl_narrowed.go impl_bounds.all l[i].f1 8, impl_narrowed.go impl_bounds.all l[i].f1 10, true)).2.2.2.2.2) = emptyB (bnd l[i]) := by
        unfold bnd
        cases emptyB (impl_narrowed.go impl_bounds.all l[i].f1) <;> rfl
      rw [e5]
      refine e4.trans ?_
      rw [List.drop_eq_getElem_cons hil, hidGo]
      have e6 : (emptyB (bnd l[i]) || (l.take i).any fun c => coversB (bnd c) (bnd l[i])) = hidB l l[i] i := rfl
      rw [e6]
      cases hidB l l[i] i
      · rfl
      · rw [if_pos rfl, if_pos rfl, List.append_assoc]; rfl
  have := key l.length 0 [] k (by omega) (by simp) (by omega)
  simpa using this

end Go.Proofs.Ytbmpkggjcnmieaa
