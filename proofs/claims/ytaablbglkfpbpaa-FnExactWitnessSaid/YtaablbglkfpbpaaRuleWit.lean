/- A rule's witness: of a rule the program and the reference tell the same facts, the same code and the same terms that can not all hold. -/
import Derived.Test.YtaablbglkfpbpaaPAllx0
import Derived.Test.YtaablbglkfpbpaaPAllx3
import Derived.Test.YtaablbglkfpbpaaPAllx5
import Derived.Test.YtaablbglkfpbpaaPAllx6
import Derived.Test.YtaablbglkfpbpaaBounds
namespace Go.Proofs.Ytaablbglkfpbpaa
open Go.RowKit Go.Proofs.Ytaablbglkfpbpaa.PAll Go.Proofs.YtaablbglkfpbpaaW.PrintWords Go.Proofs.YtaablbglkfpbpaaW.PrintLast

/-- What is told of a rule. -/
def witB (c : S32) : Int × Int × Int × Int × Int × Int × List Int :=
  bif clauseB c then
    (bif emptyB (impl_narrowed.go impl_bounds.all c.f1) then (0, 0, 0, 0, 0, 8, impl_conflict.all c.f1) else
      (impl_narrowed.go impl_bounds.all c.f1 2, impl_narrowed.go impl_bounds.all c.f1 4, impl_narrowed.go impl_bounds.all c.f1 6, impl_narrowed.go impl_bounds.all c.f1 8, impl_narrowed.go impl_bounds.all c.f1 10, 0, []))
  else (0, 0, 0, 0, 0, 1, [])

theorem wit_terms (c : S32) (h : clauseB c = true) : TermsOK c.f1 := by
  have h1 := clauseB_terms c h
  exact ⟨by omega, fun x hx => (h1.2 x hx).1⟩
theorem wit_impl (c : S32) (k : Nat) (hk : 100 ≤ k) : impl_Witness.f k c.f0 c.f1 c.f2 c.f3 = some (witB c) := by
  unfold impl_Witness.f witB
  rw [clause_impl c k (by omega), Option.bind_some]
  cases ha : clauseB c
  · rfl
  have ht := wit_terms c ha
  rw [if_pos rfl, if_pos ⟨List.all_eq_true.2 fun x hx => decide_eq_true (ht.2 x hx), (clauseB_terms c ha).1⟩]
  have hz := go_zero _ impl_bounds.all ht.2
  rw [empty_is _ (by rw [hz.1, hz.2]; decide)]
  cases emptyB (impl_narrowed.go impl_bounds.all c.f1)
  · rw [if_neg (by decide)]; rfl
  · rw [if_pos rfl]; rfl

theorem start_get (m j : Nat) (R : List Int) (h : j < m) : (impl_conflict.start m ++ R)[j]? = some (j : Int) := by
  unfold impl_conflict.start
  rw [List.getElem?_append_left (by simpa using h), List.getElem?_map, List.getElem?_range h]
  rfl
theorem start_filter (m : Nat) (R : List Int) (hR : ∀ r ∈ R, (m : Int) < r) : ((impl_conflict.start (m + 1) ++ R).filter fun k_ => !decide (k_ = (m : Int))) = impl_conflict.start m ++ R := by
  rw [impl_conflict.start_succ, List.filter_append, List.filter_append]
  have e1 : (impl_conflict.start m).filter (fun k_ => !decide (k_ = (m : Int))) = impl_conflict.start m := by
    rw [List.filter_eq_self]
    intro a ha
    have := impl_conflict.start_in m a ha
    simp; omega
  have e2 : R.filter (fun k_ => !decide (k_ = (m : Int))) = R := by
    rw [List.filter_eq_self]
    intro a ha
    have := hR a ha
    simp; omega
  have e3 : [(m : Int)].filter (fun k_ => !decide (k_ = (m : Int))) = [] := by simp
  rw [e1, e2, e3, List.append_nil]
theorem start_cuts (m : Nat) (R : List Int) : (impl_conflict.start (m + 1) ++ R).take m = impl_conflict.start m ∧ (impl_conflict.start (m + 1) ++ R).drop (m + 1) = R := by
  have hl := impl_conflict.start_len m
  rw [impl_conflict.start_succ, List.append_assoc]
  refine ⟨List.take_left' hl, ?_⟩
  rw [← List.append_assoc]
  exact List.drop_left' (by simp [hl])

/-- The reference's loop over the kept terms: a stretch of places other than the one that is left out. -/
theorem wit_run (ts : List S59) (hts : ts.length ≤ 8) (kept : List Int) (hin : ∀ k ∈ kept, 0 ≤ k ∧ k < (ts.length : Int)) (hkl : kept.length ≤ 8) (i : Int) (n : ByteArray) (a b : Int) : ∀ (L : List Int) (j : Nat) (acc : List S59) (k : Nat),
    (∃ rest, kept.drop j = L ++ rest) → (∀ q, j ≤ q → q < j + L.length → (q : Int) ≠ i) → acc.length + L.length ≤ 8 → spec_Witness.l2 (k + L.length) kept i acc (j : Int) n ts a b = spec_Witness.l2 k kept i (acc ++ impl_conflict.own ts L) ((j + L.length : Nat) : Int) n ts a b
  | [], j, acc, k, _, _, _ => by simp [impl_conflict.own]
  | x :: L, j, acc, k, ⟨rest, hr⟩, hq, ha => by
    have hj : j < kept.length := by
      rcases Nat.lt_or_ge j kept.length with q | q
      · exact q
      · rw [List.drop_eq_nil_of_le q] at hr; cases hr
    rw [List.drop_eq_getElem_cons hj, List.cons_append, List.cons.injEq] at hr
    obtain ⟨hx, hr⟩ := hr
    have hrd : rd kept (j : Int) = x := by
      unfold rd
      rw [Int.toNat_natCast, List.getD_eq_getElem?_getD, List.getElem?_eq_getElem hj, ← hx]; rfl
    have hxin := hin x (by rw [← hx]; exact List.getElem_mem hj)
    simp only [List.length_cons] at hq ha ⊢
    have ih := wit_run ts hts kept hin hkl i n a b L (j + 1) (acc ++ [rd_T59 ts x]) k ⟨rest, hr⟩ (fun q h1 h2 => hq q (by omega) (by omega)) (by rw [List.length_append]; simp only [List.length_cons, List.length_nil]; omega)
    rw [show k + (L.length + 1) = (k + L.length) + 1 by omega, spec_Witness.l2, if_pos (by omega), if_neg (hq j (by omega) (by omega)), if_pos (by omega), hrd, if_pos hxin.1, if_pos hxin.2, if_pos (by omega), w64 (by omega) (by omega)]
    rw [show j + (L.length + 1) = j + 1 + L.length by omega]
    have e : acc ++ impl_conflict.own ts (x :: L) = acc ++ [rd_T59 ts x] ++ impl_conflict.own ts L := by simp [impl_conflict.own]
    rw [e]
    exact ih
theorem own_len (ts : List S59) (l : List Int) : (impl_conflict.own ts l).length = l.length := by unfold impl_conflict.own; simp
/-- One round: all places but m are run over. -/
theorem wit_round (ts : List S59) (ht : ts.length ≤ 8) (n : ByteArray) (a b : Int) (m : Nat) (R : List Int) (k : Nat) (hR : ∀ r ∈ R, ((m + 1 : Nat) : Int) ≤ r ∧ r < (ts.length : Int)) (hm : m + 1 ≤ ts.length) (hl : m + 1 + R.length ≤ 8) :
    spec_Witness.l1 (k + R.length + 1 + m + 1) (impl_conflict.start (m + 1) ++ R) (m : Int) n ts a b = spec_Witness.l2 k (impl_conflict.start (m + 1) ++ R) (m : Int) (impl_conflict.own ts (impl_conflict.start m ++ R)) ((m + 1 + R.length : Nat) : Int) n ts a b := by
  have hsl := impl_conflict.start_len (m + 1)
  have hsm := impl_conflict.start_len m
  have hkl : (impl_conflict.start (m + 1) ++ R).length = m + 1 + R.length := by rw [List.length_append, hsl]
  have hin : ∀ k ∈ impl_conflict.start (m + 1) ++ R, 0 ≤ k ∧ k < (ts.length : Int) := fun x hx => by
    rcases List.mem_append.1 hx with h | h
    · have := impl_conflict.start_in (m + 1) x h; omega
    · have := hR x h; omega
  obtain ⟨hc1, hc2⟩ := start_cuts m R
  have h1 : ∃ rest, (impl_conflict.start (m + 1) ++ R).drop 0 = impl_conflict.start m ++ rest := ⟨(impl_conflict.start (m + 1) ++ R).drop m, by rw [List.drop_zero, ← hc1, List.take_append_drop]⟩
  have h2 : ∃ rest, (impl_conflict.start (m + 1) ++ R).drop (m + 1) = R ++ rest := ⟨[], by rw [hc2, List.append_nil]⟩
  generalize impl_conflict.start (m + 1) ++ R = kept at *
  have r1 := wit_run ts ht kept hin (by omega) (m : Int) n a b (impl_conflict.start m) 0 [] (k + R.length + 1) h1 (fun q _ h2 => by rw [hsm] at h2; omega) (by rw [hsm]; simp only [List.length_nil]; omega)
  rw [hsm, List.nil_append, Nat.zero_add] at r1
  have r2 := wit_run ts ht kept hin (by omega) (m : Int) n a b R (m + 1) (impl_conflict.own ts (impl_conflict.start m)) k h2 (fun q h1 _ => by omega) (by rw [own_len, hsm]; omega)
  have how : impl_conflict.own ts (impl_conflict.start m) ++ impl_conflict.own ts R = impl_conflict.own ts (impl_conflict.start m ++ R) := by unfold impl_conflict.own; rw [List.map_append]
  rw [how] at r2
  have r0 : spec_Witness.l1 (k + R.length + 1 + m + 1) kept (m : Int) n ts a b = spec_Witness.l2 (k + R.length + 1 + m) kept (m : Int) [] ((0 : Nat) : Int) n ts a b := by
    rw [spec_Witness.l1, if_pos (by omega)]; rfl
  have r3 : spec_Witness.l2 (k + R.length + 1) kept (m : Int) (impl_conflict.own ts (impl_conflict.start m)) ((m : Nat) : Int) n ts a b = spec_Witness.l2 (k + R.length) kept (m : Int) (impl_conflict.own ts (impl_conflict.start m)) ((m + 1 : Nat) : Int) n ts a b := by
    rw [spec_Witness.l2, if_pos (by omega), if_pos rfl, w64 (by omega) (by omega), show ((m : Int) + 1) = ((m + 1 : Nat) : Int) by omega]
  exact r0.trans (r1.trans (r3.trans r2))
/-- The end of a round. -/
theorem wit_end (ts : List S59) (hts : ∀ x ∈ ts, 1 ≤ x.f0 ∧ x.f0 ≤ 5) (n : ByteArray) (a b : Int) (m : Nat) (R : List Int) (k : Nat) (hR : ∀ r ∈ R, ((m + 1 : Nat) : Int) ≤ r ∧ r < (ts.length : Int)) (hm : m + 1 ≤ ts.length) (hl : m + 1 + R.length ≤ 8) (hk : 100 ≤ k) :
    spec_Witness.l2 (k + 1) (impl_conflict.start (m + 1) ++ R) (m : Int) (impl_conflict.own ts (impl_conflict.start m ++ R)) ((m + 1 + R.length : Nat) : Int) n ts a b = spec_Witness.l1 k (if impl_isEmpty.f (impl_narrowed.go impl_bounds.all (impl_conflict.own ts (impl_conflict.start m ++ R))) = true then impl_conflict.start m ++ R else impl_conflict.start (m + 1) ++ R) ((m : Int) - 1) n ts a b := by
  have hsl := impl_conflict.start_len (m + 1)
  have hsm := impl_conflict.start_len m
  have hkl : (impl_conflict.start (m + 1) ++ R).length = m + 1 + R.length := by rw [List.length_append, hsl]
  obtain ⟨hc1, hc2⟩ := start_cuts m R
  have hin2 : ∀ k ∈ impl_conflict.start m ++ R, 0 ≤ k ∧ k < (ts.length : Int) := fun x hx => by
    rcases List.mem_append.1 hx with h | h
    · have := impl_conflict.start_in m x h; omega
    · have := hR x h; omega
  have hT : TermsOK (impl_conflict.own ts (impl_conflict.start m ++ R)) := ⟨by rw [own_len, List.length_append, hsm]; omega, impl_conflict.own_in hin2 hts⟩
  have hL := least_is _ hT k (by rw [own_len, List.length_append, hsm]; omega)
  have hz := go_zero _ impl_bounds.all hT.2
  have hE := empty_is (impl_narrowed.go impl_bounds.all (impl_conflict.own ts (impl_conflict.start m ++ R))) (by rw [hz.1, hz.2]; decide)
  have hw : wrap64 ((m : Int) - 1) = (m : Int) - 1 := w64 (by omega) (by omega)
  have hw2 : wrap64 ((m : Int) + 1) = ((m + 1 : Nat) : Int) := by rw [w64 (by omega) (by omega)]; omega
  rw [hE]
  clear hE hz hin2 hT
  generalize impl_conflict.own ts (impl_conflict.start m ++ R) = OW at *
  rw [spec_Witness.l2, if_neg (by rw [hkl]; omega), hL, Option.bind_some, hw, hw2]
  clear hL
  generalize emptyB (impl_narrowed.go impl_bounds.all OW) = E
  generalize impl_conflict.start (m + 1) ++ R = kept at *
  cases E
  · simp only [Bool.false_eq_true, if_false, if_true]
  · simp only [Bool.false_eq_true, if_false, if_true, Option.bind_some]
    rw [if_pos (by omega), if_pos (by rw [hkl]; omega), Int.toNat_natCast, hc1, List.nil_append, hsm, if_pos (by simp only [List.length_nil]; omega), if_pos (by omega), if_pos (by rw [hkl]; omega), Int.toNat_natCast, hc2, if_pos (by omega)]
/-- The reference's loop that leaves terms out, from the last one down. -/
theorem wit_down (ts : List S59) (ht : ts.length ≤ 8) (hts : ∀ x ∈ ts, 1 ≤ x.f0 ∧ x.f0 ≤ 5) (n : ByteArray) (a b : Int) : ∀ (m : Nat) (R : List Int) (k : Nat), (∀ r ∈ R, (m : Int) ≤ r ∧ r < (ts.length : Int)) → m ≤ ts.length → m + R.length ≤ 8 → 20 * m + 200 ≤ k →
    spec_Witness.l1 k (impl_conflict.start m ++ R) ((m : Int) - 1) n ts a b = some (0, 0, 0, 0, 0, 8, impl_conflict.go ts m (impl_conflict.start m ++ R)) := by
  intro m
  induction m with
  | zero =>
    intro R k _ _ _ hk
    obtain ⟨k, rfl⟩ : ∃ q, k = q + 1 := ⟨k - 1, by omega⟩
    rw [spec_Witness.l1, if_neg (by omega), impl_conflict.go]
  | succ m ih =>
    intro R k hR hm hl hk
    have hfil := start_filter m R (fun r hr => by have := (hR r hr).1; omega)
    obtain ⟨k, rfl⟩ : ∃ q, k = (q + 1) + R.length + 1 + m + 1 := ⟨k - (R.length + m + 3), by omega⟩
    have hi : ((m + 1 : Nat) : Int) - 1 = (m : Int) := by omega
    rw [hi, wit_round ts ht n a b m R (k + 1) hR hm hl, wit_end ts hts n a b m R k hR hm hl (by omega), impl_conflict.go, hfil]
    by_cases c : impl_isEmpty.f (impl_narrowed.go impl_bounds.all (impl_conflict.own ts (impl_conflict.start m ++ R))) = true
    · rw [if_pos c, if_pos c]
      exact ih R k (fun r hr => by have := hR r hr; omega) (by omega) (by omega) (by omega)
    · rw [if_neg c, if_neg c]
      have e : impl_conflict.start (m + 1) ++ R = impl_conflict.start m ++ ((m : Int) :: R) := by rw [impl_conflict.start_succ]; simp
      rw [e]
      exact ih ((m : Int) :: R) k (fun r hr => by
        rcases List.mem_cons.1 hr with rfl | h
        · omega
        · have := hR r h; omega) (by omega) (by simp only [List.length_cons]; omega) (by omega)
theorem wit_up (ts : List S59) (ht : ts.length ≤ 8) (n : ByteArray) (a b : Int) : ∀ (d m k : Nat), m + d = ts.length → spec_Witness.l0 (k + d + 1) (impl_conflict.start m) (m : Int) n ts a b = spec_Witness.l1 k (impl_conflict.start ts.length) ((ts.length : Int) - 1) n ts a b
  | 0, m, k, hm => by
    have : m = ts.length := by omega
    subst this
    rw [spec_Witness.l0, if_neg (by omega), impl_conflict.start_len, w64 (by omega) (by omega)]
  | d + 1, m, k, hm => by
    rw [spec_Witness.l0, if_pos (by omega), impl_conflict.start_len, if_pos (by omega), ← impl_conflict.start_succ, w64 (by omega) (by omega), show (m : Int) + 1 = ((m + 1 : Nat) : Int) by omega]
    exact wit_up ts ht n a b d (m + 1) k (by omega)
theorem wit_spec (c : S32) (k : Nat) (hk : 1000 ≤ k) : spec_Witness.f k c.f0 c.f1 c.f2 c.f3 = some (witB c) := by
  unfold spec_Witness.f witB
  rw [clause_spec c _ (by omega), Option.bind_some]
  cases ha : clauseB c
  · rfl
  have ht := wit_terms c ha
  have h8 := (clauseB_terms c ha).1
  rw [if_pos rfl, least_is _ ht _ (by omega), Option.bind_some]
  cases emptyB (impl_narrowed.go impl_bounds.all c.f1)
  · simp
  · simp only [if_true, Bool.false_eq_true, if_false]
    obtain ⟨k, rfl⟩ : ∃ q, k = q + c.f1.length + 1 := ⟨k - (c.f1.length + 1), by omega⟩
    have u := wit_up c.f1 h8 c.f0 c.f2 c.f3 c.f1.length 0 k (by omega)
    have e0 : impl_conflict.start 0 = [] := rfl
    rw [e0, show (((0 : Nat) : Int)) = 0 from rfl] at u
    rw [u]
    have d := wit_down c.f1 h8 ht.2 c.f0 c.f2 c.f3 c.f1.length [] k (fun r hr => by simp at hr) (Nat.le_refl _) (by simp only [List.length_nil]; omega) (by omega)
    rw [List.append_nil] at d
    rw [d]
    rfl
/-- How long a told row is. -/
theorem go_len (ts : List S59) : ∀ (m : Nat) (l : List Int), (impl_conflict.go ts m l).length ≤ l.length
  | 0, l => Nat.le_refl _
  | m + 1, l => by
    rw [impl_conflict.go]
    split
    · exact Nat.le_trans (go_len ts m _) (List.length_filter_le _ _)
    · exact go_len ts m l
theorem witB_len (c : S32) : (witB c).2.2.2.2.2.2.length ≤ 8 := by
  unfold witB
  cases ha : clauseB c
  · simp
  · cases emptyB (impl_narrowed.go impl_bounds.all c.f1)
    · simp
    · simp only [cond_true]
      have := go_len c.f1 c.f1.length (impl_conflict.start c.f1.length)
      rw [impl_conflict.start_len] at this
      have h8 := (clauseB_terms c ha).1
      unfold impl_conflict.all
      omega
/-- A rule's terms are marked. -/
theorem markTerm_loop : ∀ (d i : Nat) (l : List S59) (a : Int), i + d = l.length → 0 ≤ a → a + 3 * d ≤ 1000000000 → l.length ≤ 100000000 → ∀ k, d < k → ∃ t, laws_markTermS.l0 k l a (i : Int) = some (a + 3 * d, t)
  | 0, i, l, a, hi, _, _, _, k, hk => by
    obtain ⟨k, rfl⟩ : ∃ q, k = q + 1 := ⟨k - 1, by omega⟩
    exact ⟨l, by rw [laws_markTermS.l0, if_neg (by omega)]; simp⟩
  | d + 1, i, l, a, hi, h0, h1, hl, k, hk => by
    obtain ⟨k, rfl⟩ : ∃ q, k = q + 1 := ⟨k - 1, by omega⟩
    rw [laws_markTermS.l0, if_pos (by omega), if_pos (by omega), Option.bind_some, Option.bind_some, w64 (x := a + 1) (by omega) (by omega), w64 (x := a + 1 + 1) (by omega) (by omega), w64 (x := a + 1 + 1 + 1) (by omega) (by omega), w64 (x := (i : Int) + 1) (by omega) (by omega)]
    have key : ∀ l' : List S59, l'.length = l.length → ∃ t, laws_markTermS.l0 k l' (a + 1 + 1 + 1) ((i : Int) + 1) = some (a + 3 * ((d + 1 : Nat) : Int), t) := fun l' h' => by
      obtain ⟨t, e⟩ := markTerm_loop d (i + 1) l' (a + 1 + 1 + 1) (by omega) (by omega) (by omega) (by omega) k (by omega)
      exact ⟨t, by rw [show (i : Int) + 1 = ((i + 1 : Nat) : Int) by omega, e]; congr 2; omega⟩
    exact key _ (by simp only [List.length_set])

end Go.Proofs.Ytaablbglkfpbpaa
