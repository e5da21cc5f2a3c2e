/- Hidden rules: the program and the reference tell the same ones; and none of them is the one that is decided for. -/
import Derived.Test.YtaablbglkfpbpaaPAllx0
import Derived.Test.YtaablbglkfpbpaaPAllx12
import Derived.Test.YtaablbglkfpbpaaPAllx2
import Derived.Test.YtaablbglkfpbpaaPAllx3
import Derived.Test.YtaablbglkfpbpaaPAllx7
import Derived.Test.YtaablbglkfpbpaaDecideI
import Derived.Test.YtaablbglkfpbpaaBounds
namespace Go.Proofs.Ytaablbglkfpbpaa
open Go.RowKit Go.Proofs.Ytaablbglkfpbpaa.PAll Go.Proofs.YtaablbglkfpbpaaW.PrintWords Go.Proofs.YtaablbglkfpbpaaW.PrintLast

/-- The bounds of a rule's facts. -/
def bnd (c : S32) : Nat → Int := impl_narrowed.go impl_bounds.all c.f1

/-- Bounds lie within others. -/
def coversB (b c : Nat → Int) : Bool := impl_covers.go b c 6 0

def hidB (rows : List S32) (x : S32) (i : Nat) : Bool := emptyB (bnd x) || (rows.take i).any fun c => coversB (bnd c) (bnd x)

/-- The hidden rules' places. -/
def hidGo (rows : List S32) : List S32 → Nat → List Int
  | [], _ => []
  | x :: xs, i => if hidB rows x i = true then (i : Int) :: hidGo rows xs (i + 1) else hidGo rows xs (i + 1)

def hiddenB (l : List S32) : List Int × Int :=
  if l.length > 4096 then ([], 2) else if clausesB l = false then ([], 1) else (hidGo l l 0, 0)

theorem firstOf_any {α : Type} (q : α → Bool) : ∀ (l : List α) (i : Int), 0 ≤ i → decide (firstOf q l i ≥ 0) = l.any q
  | [], _, _ => rfl
  | x :: xs, i, h => by
    rw [firstOf, List.any_cons]
    cases hx : q x
    · rw [if_neg (by decide), Bool.false_or]; exact firstOf_any q xs (i + 1) (by omega)
    · rw [if_pos rfl, decide_eq_true h]; rfl

theorem clausesB_all (l : List S32) (h : clausesB l = true) : l.length ≤ 40 ∧ ∀ c ∈ l, clauseB c = true := by
  unfold clausesB at h
  rw [Bool.and_eq_true] at h
  exact ⟨by have := of_decide_eq_true h.2; omega, goC_all l l 0 h.1⟩

theorem bnd_ok (c : S32) (h : clauseB c = true) : TermsOK c.f1 ∧ bnd c 0 = 0 ∧ bnd c 1 = 0 := by
  have ht := clauseB_terms c h
  have hk : TermsOK c.f1 := ⟨by omega, fun x hx => (ht.2 x hx).1⟩
  exact ⟨hk, go_zero _ impl_bounds.all hk.2⟩

theorem hidden_go (l0 : List S32) (hall : ∀ c ∈ l0, clauseB c = true) : ∀ (l : List S32) (i : Nat) (out : List Int), (∀ c ∈ l, clauseB c = true) → out.length ≤ i → i + l.length ≤ 4096 →
    impl_Hidden.go l0 l i out = some (out ++ hidGo l0 l i, 0)
  | [], _, out, _, _, _ => by rw [impl_Hidden.go, hidGo, List.append_nil]
  | x :: xs, i, out, hl, ho, hi => by
    have hx := bnd_ok x (hl x (List.mem_cons_self ..))
    have hi' : i + 1 + xs.length ≤ 4096 := by simp only [List.length_cons] at hi; omega
    have ih := fun out' h => hidden_go l0 hall xs (i + 1) out' (fun c hc => hl c (List.mem_cons_of_mem _ hc)) h hi'
    have he : impl_isEmpty.f (impl_narrowed.go impl_bounds.all x.f1) = emptyB (bnd x) := empty_is _ (show bnd x 0 ≤ bnd x 1 by rw [hx.2.1, hx.2.2]; decide)
    have hq : impl_Clause_48.f (impl_Hidden_1.p (impl_narrowed.go impl_bounds.all x.f1)) (l0.take i) = some ((l0.take i).any fun c => coversB (bnd c) (bnd x)) := by
      unfold impl_Clause_48.f
      rw [idx_is _ (fun c => coversB (bnd c) (bnd x)) (l0.take i) 0 (fun c hc => by
        have hc' := bnd_ok c (hall c (List.mem_of_mem_take hc))
        unfold impl_Hidden_1.p
        rw [if_pos (List.all_eq_true.2 fun t ht => decide_eq_true (hc'.1.2 t ht))]; rfl), Option.bind_some, firstOf_any _ _ _ (by omega)]
    rw [impl_Hidden.go_cons, if_pos (List.all_eq_true.2 fun t ht => decide_eq_true (hx.1.2 t ht)), he, hq, hidGo]
    unfold hidB
    cases emptyB (bnd x)
    · rw [if_neg (by decide), Option.bind_some, Bool.false_or]
      cases (l0.take i).any fun c => coversB (bnd c) (bnd x)
      · rw [if_neg (by decide), if_neg (by decide)]; exact ih out (by omega)
      · rw [if_pos rfl, if_pos rfl, if_pos (by omega), ih _ (by simp only [List.length_append, List.length_cons, List.length_nil]; omega), List.append_assoc]; rfl
    · rw [if_pos rfl, Option.bind_some, if_pos rfl, Bool.true_or, if_pos rfl, if_pos (by omega), ih _ (by simp only [List.length_append, List.length_cons, List.length_nil]; omega), List.append_assoc]; rfl

theorem hidden_impl (l : List S32) (hl : l.length ≤ 1048576) (k : Nat) (hk : 2200000 ≤ k) : impl_Hidden.f k l = some (hiddenB l) := by
  unfold impl_Hidden.f hiddenB impl_Clause_46.f
  rw [Option.bind_some]
  by_cases h : l.length > 4096
  · rw [decide_eq_false (by omega), if_pos h]; rfl
  rw [decide_eq_true (by omega), if_neg h, if_pos rfl, clauses_impl l hl k hk, Option.bind_some]
  cases hc : clausesB l
  · rfl
  have hall := clausesB_all l hc
  rw [if_pos rfl, if_neg (by decide), hidden_go l hall.2 l 0 [] hall.2 (by simp) (by omega)]; rfl

theorem covers_is (l m : List S59) (hl : TermsOK l) (hm : TermsOK m) (a b : ByteArray) (c d e f : Int) (k : Nat) (hk : l.length + m.length + 20 < k) :
    spec_l06Covers.f k a l c d b m e f = some (coversB (impl_narrowed.go impl_bounds.all l) (impl_narrowed.go impl_bounds.all m)) := by
  have z1 := go_zero l impl_bounds.all hl.2
  have z2 := go_zero m impl_bounds.all hm.2
  have key : ∀ (dd i k : Nat), i + dd = 6 → 1 ≤ i → dd + l.length + m.length + 10 < k → spec_l06Covers.l0 k (i : Int) a l c d b m e f = some (impl_covers.go (impl_narrowed.go impl_bounds.all l) (impl_narrowed.go impl_bounds.all m) dd i) := by
    intro dd
    induction dd with
    | zero =>
      intro i k hi h1 hk
      obtain ⟨k, rfl⟩ : ∃ m, k = m + 1 := ⟨k - 1, by omega⟩
      rw [spec_l06Covers.l0, if_neg (by omega)]; rfl
    | succ dd ih =>
      intro i k hi h1 hk
      obtain ⟨k, rfl⟩ : ∃ m, k = m + 1 := ⟨k - 1, by omega⟩
      have e := ih (i + 1) k (by omega) (by omega) (by omega)
      rw [show ((i + 1 : Nat) : Int) = (i : Int) + 1 by omega] at e
      rw [spec_l06Covers.l0, if_pos (by omega), bounds_is l hl i h1 (by omega) k (by omega), Option.bind_some, bounds_is m hm i h1 (by omega) k (by omega), Option.bind_some, w64 (by omega) (by omega), e, impl_covers.go]
      split
      · rfl
      · split <;> rfl
  unfold spec_l06Covers.f coversB
  have := key 5 1 k (by omega) (by omega) (by omega)
  rw [show ((1 : Nat) : Int) = 1 from rfl] at this
  have e0 : impl_covers.go (impl_narrowed.go impl_bounds.all l) (impl_narrowed.go impl_bounds.all m) 6 0 = impl_covers.go (impl_narrowed.go impl_bounds.all l) (impl_narrowed.go impl_bounds.all m) 5 1 := by
    rw [impl_covers.go, if_neg (show ¬ impl_narrowed.go impl_bounds.all m 0 < impl_narrowed.go impl_bounds.all l 0 by rw [z1.1, z2.1]; decide), if_neg (show ¬ impl_narrowed.go impl_bounds.all m 1 > impl_narrowed.go impl_bounds.all l 1 by rw [z1.2, z2.2]; decide)]
  rw [this, e0]

theorem hidden_spec (l : List S32) (k : Nat) (hk : 2200000 ≤ k) : spec_Hidden.f k l = some (hiddenB l) := by
  unfold spec_Hidden.f hiddenB
  by_cases h : l.length > 4096
  · rw [if_pos (by omega), if_pos h]
  rw [if_neg (by omega), if_neg h, clauses_spec l k hk, Option.bind_some]
  cases hc : clausesB l
  · rfl
  obtain ⟨h40, hall⟩ := clausesB_all l hc
  rw [if_pos rfl, if_neg (by decide)]
  have key : ∀ d i (out : List Int) k, i + d = l.length → out.length ≤ i → d * 100 + 100 < k → spec_Hidden.l0 k l out (i : Int) = some (out ++ hidGo l (l.drop i) i, 0) := by
    intro d
    induction d with
    | zero =>
      intro i out k hi ho hk
      obtain ⟨k, rfl⟩ : ∃ m, k = m + 1 := ⟨k - 1, by omega⟩
      rw [spec_Hidden.l0, if_neg (by omega), List.drop_eq_nil_of_le (by omega), hidGo, List.append_nil]
    | succ d ih =>
      intro i out k hi ho hk
      obtain ⟨k, rfl⟩ : ∃ m, k = m + 1 := ⟨k - 1, by omega⟩
      have hil : i < l.length := by omega
      have hx := bnd_ok _ (hall _ (List.getElem_mem hil))
      have inner : ∀ e j (hid : Bool) k, j + e = i → e + d * 100 + 130 < k → spec_Hidden.l1 k l out (i : Int) hid (j : Int) =
          some ((if (hid || ((l.take i).drop j).any fun c => coversB (bnd c) (bnd l[i])) = true then out ++ [(i : Int)] else out) ++ hidGo l (l.drop (i + 1)) (i + 1), 0) := by
        intro e
        induction e with
        | zero =>
          intro j hid k hj hk
          obtain ⟨k, rfl⟩ : ∃ m, k = m + 1 := ⟨k - 1, by omega⟩
          have e1 := ih (i + 1) out k (by omega) (by omega) (by omega)
          have e2 := ih (i + 1) (out ++ [(i : Int)]) k (by omega) (by simp only [List.length_append, List.length_cons, List.length_nil]; omega) (by omega)
          rw [show ((i + 1 : Nat) : Int) = (i : Int) + 1 by omega] at e1 e2
          rw [spec_Hidden.l1, if_neg (by omega), w64 (by omega) (by omega), e1, e2, show (l.take i).drop j = [] from List.drop_eq_nil_of_le (by rw [List.length_take]; omega), List.any_nil, Bool.or_false, if_pos (show out.length < 17592186044416 by omega)]
          cases hid
          · rfl
          · rfl
        | succ e ihe =>
          intro j hid k hj hk
          obtain ⟨k, rfl⟩ : ∃ m, k = m + 1 := ⟨k - 1, by omega⟩
          have hjl : j < l.length := by omega
          cases hid
          · have ht := ihe (j + 1)
            have hy := bnd_ok _ (hall _ (List.getElem_mem hjl))
            have b1 := (clauseB_terms _ (hall _ (List.getElem_mem hil))).1
            have b2 := (clauseB_terms _ (hall _ (List.getElem_mem hjl))).1
            rw [spec_Hidden.l1, if_pos (by omega), if_neg (by decide), if_pos (by omega), if_pos (by omega), if_pos (by omega), if_pos (by omega), rdBClause hjl, rdBClause hil, covers_is _ _ hy.1 hx.1 _ _ _ _ _ _ _ (by omega), Option.bind_some, w64 (by omega) (by omega)]
            have e3 := ht (coversB (bnd l[j]) (bnd l[i])) k (by omega) (by omega)
            rw [show ((j + 1 : Nat) : Int) = (j : Int) + 1 by omega] at e3
            unfold bnd at e3
            rw [e3]
            have hd : (l.take i).drop j = l[j] :: (l.take i).drop (j + 1) := by
              rw [List.drop_eq_getElem_cons (by rw [List.length_take]; omega), List.getElem_take]
            rw [hd, List.any_cons, Bool.false_or]
            rfl
          · have e2 := ih (i + 1) (out ++ [(i : Int)]) k (by omega) (by simp only [List.length_append, List.length_cons, List.length_nil]; omega) (by omega)
            rw [show ((i + 1 : Nat) : Int) = (i : Int) + 1 by omega] at e2
            rw [spec_Hidden.l1, if_pos (by omega), if_pos rfl, if_pos (by omega), w64 (by omega) (by omega), e2]
            rfl
      have b1 := (clauseB_terms _ (hall _ (List.getElem_mem hil))).1
      rw [spec_Hidden.l0, if_pos (by omega), if_pos (by omega), rdBClause hil, least_is _ hx.1 _ (by omega), Option.bind_some]
      have e4 := inner i 0 (emptyB (bnd l[i])) k (by omega) (by omega)
      rw [List.drop_zero] at e4
      have e5 : (!(if emptyB (impl_narrowed.go impl_bounds.all l[i].f1) = true then ((0 : Int), (0 : Int), (0 : Int), (0 : Int), (0 : Int), false) else
        (impl_narrowed.go impl_bounds.all l[i].f1 2, impl_narrowed.go impl_bounds.all l[i].f1 4, impl_narrowed.go impl_bounds.all l[i].f1 6, impl_narrowed.go impl_bounds.all l[i].f1 8, impl_narrowed.go impl_bounds.all l[i].f1 10, true)).2.2.2.2.2) = emptyB (bnd l[i]) := by
        unfold bnd
        cases emptyB (impl_narrowed.go impl_bounds.all l[i].f1) <;> rfl
      rw [e5]
      refine e4.trans ?_
      rw [List.drop_eq_getElem_cons hil, hidGo]
      have e6 : (emptyB (bnd l[i]) || (l.take i).any fun c => coversB (bnd c) (bnd l[i])) = hidB l l[i] i := rfl
      rw [e6]
      cases hidB l l[i] i
      · rfl
      · rw [if_pos rfl, if_pos rfl, List.append_assoc]; rfl
  have := key l.length 0 [] k (by omega) (by simp) (by omega)
  simpa using this

theorem mem_hid (rows : List S32) : ∀ (l : List S32) (i : Nat) (z : Int), z ∈ hidGo rows l i → ∃ j, ∃ h : j < l.length, z = ((i + j : Nat) : Int) ∧ hidB rows l[j] (i + j) = true
  | [], _, _, h => by simp [hidGo] at h
  | x :: xs, i, z, h => by
    rw [hidGo] at h
    have rest : z ∈ hidGo rows xs (i + 1) → ∃ j, ∃ h : j < (x :: xs).length, z = ((i + j : Nat) : Int) ∧ hidB rows (x :: xs)[j] (i + j) = true := fun q => by
      obtain ⟨j, hj, e, hh⟩ := mem_hid rows xs (i + 1) z q
      exact ⟨j + 1, by simp only [List.length_cons]; omega, by rw [e]; congr 1; omega, by rw [show i + (j + 1) = i + 1 + j by omega]; exact hh⟩
    cases hx : hidB rows x i
    · rw [hx, if_neg (by decide)] at h; exact rest h
    · rw [hx, if_pos rfl] at h
      rcases List.mem_cons.1 h with e | e
      · exact ⟨0, by simp, by simpa using e, hx⟩
      · exact rest e

theorem covers_mono (b c : Nat → Int) (f : List Int) : ∀ d i, impl_covers.go b c d i = true → (∀ j, i ≤ j → j < i + d → c (2 * j) ≤ f.getD j 0 ∧ f.getD j 0 ≤ c (2 * j + 1)) → ∀ j, i ≤ j → j < i + d → b (2 * j) ≤ f.getD j 0 ∧ f.getD j 0 ≤ b (2 * j + 1)
  | 0, _, _, _, j, h0, h1 => by omega
  | d + 1, i, h, hc, j, h0, h1 => by
    rw [impl_covers.go] at h
    by_cases a : c (2 * i) < b (2 * i)
    · rw [if_pos a] at h; cases h
    rw [if_neg a] at h
    by_cases e : c (2 * i + 1) > b (2 * i + 1)
    · rw [if_pos e] at h; cases h
    rw [if_neg e] at h
    by_cases hj : j = i
    · have := hc i (by omega) (by omega)
      rw [hj]; omega
    · exact covers_mono b c f d (i + 1) h (fun j h0 h1 => hc j (by omega) (by omega)) j (by omega) (by omega)

theorem covers_within (b c : Nat → Int) (f : List Int) (h : coversB b c = true) (w : Within f c) : Within f b := by
  intro j hj
  exact covers_mono b c f 6 0 h (fun j _ h1 => w j (by omega)) j (by omega) (by omega)

theorem fires_within (f0 f1 f2 f3 f4 : Int) (c : S32) (h : clauseB c = true) (hw : Within (nums f0 f1 f2 f3 f4) impl_bounds.all) : firesB (nums f0 f1 f2 f3 f4) c = true ↔ Within (nums f0 f1 f2 f3 f4) (bnd c) := by
  have hc := (clause_terms c h).2
  unfold bnd
  rw [within_go _ _ _ (fun x hx => (hc x hx).1)]
  unfold firesB
  rw [List.all_eq_true]
  exact ⟨fun H => ⟨hw, fun x hx => (holdsB_iff _ x (hc x hx).2).1 (H x hx)⟩, fun H x hx => (holdsB_iff _ x (hc x hx).2).2 (H.2 x hx)⟩

theorem within_empty (f : List Int) (b : Nat → Int) (h : Within f b) : emptyB b = false := by
  have h1 := h 1 (by omega)
  have h2 := h 2 (by omega)
  have h3 := h 3 (by omega)
  have h4 := h 4 (by omega)
  have h5 := h 5 (by omega)
  simp only [Nat.mul_one, Nat.reduceMul, Nat.reduceAdd] at h1 h2 h3 h4 h5
  unfold emptyB
  rw [decide_eq_false (by omega), decide_eq_false (by omega), decide_eq_false (by omega), decide_eq_false (by omega), decide_eq_false (by omega)]; rfl

theorem first_before {α : Type} (q : α → Bool) : ∀ (l : List α) (b : Int) (i : Nat), 0 ≤ b → firstOf q l b = b + i → ∀ x ∈ l.take i, q x = false
  | [], _, _, _, _, x, hx => by simp at hx
  | y :: ys, b, 0, _, _, x, hx => by simp at hx
  | y :: ys, b, i + 1, hb, h, x, hx => by
    rw [firstOf] at h
    cases hy : q y
    · rw [hy, if_neg (by decide)] at h
      rw [List.take_succ_cons] at hx
      rcases List.mem_cons.1 hx with e | e
      · rw [e]; exact hy
      · exact first_before q ys (b + 1) i (by omega) (by omega) x e
    · rw [hy, if_pos rfl] at h; omega

/-- The rule that is decided for is none of the hidden ones. -/
theorem decided_not_hidden (f0 f1 f2 f3 f4 : Int) (l : List S32) (hc : clausesB l = true) (hw : Within (nums f0 f1 f2 f3 f4) impl_bounds.all) : firstOf (firesB (nums f0 f1 f2 f3 f4)) l 0 ∉ hidGo l l 0 := by
  intro hm
  obtain ⟨_, hall⟩ := clausesB_all l hc
  obtain ⟨j, hj, e, hh⟩ := mem_hid l l 0 _ hm
  rw [Nat.zero_add] at e hh
  have hfire : firesB (nums f0 f1 f2 f3 f4) l[j] = true := by
    cases hq : firesB (nums f0 f1 f2 f3 f4) l[j]
    · exfalso
      have : ∀ (l : List S32) (b : Int) (j : Nat) (hj : j < l.length), 0 ≤ b → firesB (nums f0 f1 f2 f3 f4) l[j] = false → firstOf (firesB (nums f0 f1 f2 f3 f4)) l b ≠ b + j := by
        intro l
        induction l with
        | nil => intro b j hj; simp at hj
        | cons y ys ih =>
          intro b j hj hb hf
          rw [firstOf]
          cases j with
          | zero =>
            have hy : firesB (nums f0 f1 f2 f3 f4) y = false := hf
            rw [hy, if_neg (by decide)]
            rcases firstOf_bd (firesB (nums f0 f1 f2 f3 f4)) ys (b + 1) (by omega) with e | e <;> omega
          | succ j =>
            have hf' : firesB (nums f0 f1 f2 f3 f4) (ys[j]'(by simpa using hj)) = false := hf
            have := ih (b + 1) j (by simpa using hj) (by omega) hf'
            cases firesB (nums f0 f1 f2 f3 f4) y
            · rw [if_neg (by decide)]; omega
            · rw [if_pos rfl]; omega
      exact this l 0 j hj (by omega) hq (by omega)
    · rfl
  have hwj := (fires_within f0 f1 f2 f3 f4 l[j] (hall _ (List.getElem_mem hj)) hw).1 hfire
  unfold hidB at hh
  rw [within_empty _ _ hwj, Bool.false_or, List.any_eq_true] at hh
  obtain ⟨c, hcm, hcov⟩ := hh
  have hwc := covers_within _ _ _ hcov hwj
  have hf := (fires_within f0 f1 f2 f3 f4 c (hall _ (List.mem_of_mem_take hcm)) hw).2 hwc
  have := first_before (firesB (nums f0 f1 f2 f3 f4)) l 0 j (by omega) (by omega) c hcm
  rw [hf] at this; cases this

end Go.Proofs.Ytaablbglkfpbpaa
