/- Deals: the program and the reference answer alike whether they are right, given rounds enough. -/
import Derived.Test.YtoifgopjjkaodaaPAllx0
import Derived.Test.YtoifgopjjkaodaaPAllx7
import Derived.Test.YtoifgopjjkaodaaPAllx8
import Derived.Test.YtoifgopjjkaodaaPAllx9
import Derived.Test.YtoifgopjjkaodaaName
import Derived.Test.YtoifgopjjkaodaaIn1
import Derived.Test.YtoifgopjjkaodaaStdDeal
namespace Go.Proofs.Ytoifgopjjkaodaa
open Go.RowKit Go.Proofs.Ytoifgopjjkaodaa.PAll Go.Proofs.YtoifgopjjkaodaaW.PrintWords Go.Proofs.YtoifgopjjkaodaaW.PrintLast

def kindB (kind need value : Int) : Bool :=
  if kind = 1 then decide (need = 1) && decide (0 ≤ value ∧ value ≤ 100)
  else if kind = 2 ∨ kind = 4 then decide (1 ≤ need ∧ need ≤ 4) && decide (0 ≤ value ∧ value ≤ 100000000)
  else if kind = 3 then decide (2 ≤ need ∧ need ≤ 4) && decide (value = 0)
  else false

theorem kind_impl (k : Nat) (s : ByteArray) (kind : Int) (l : List ByteArray) (need value : Int) (o : Bool) : impl_isDeal.j0 (k + 2) false s kind l need value o = some (kindB kind need value) := by
  rw [impl_isDeal.j0, if_neg (by decide)]
  unfold kindB
  by_cases h1 : kind = 1
  · rw [if_pos h1, if_pos h1]
    by_cases hn : need = 1
    · rw [if_pos hn, decide_eq_true hn, within_b]; rfl
    · rw [if_neg hn, decide_eq_false hn]; rfl
  · rw [if_neg h1, if_neg h1]
    have key : ∀ b : Bool, (b = true ↔ (kind = 2 ∨ kind = 4)) → impl_isDeal.j1 (k + 1) kind b s kind l need value o = some (if kind = 2 ∨ kind = 4 then decide (1 ≤ need ∧ need ≤ 4) && decide (0 ≤ value ∧ value ≤ 100000000) else if kind = 3 then decide (2 ≤ need ∧ need ≤ 4) && decide (value = 0) else false) := by
      intro b hb
      rw [impl_isDeal.j1]
      cases b
      · have h24 : ¬ (kind = 2 ∨ kind = 4) := fun h => absurd (hb.2 h) (by decide)
        rw [if_neg (by decide), if_neg h24]
        by_cases h3 : kind = 3
        · rw [if_pos h3, if_pos h3, within_b, Option.bind_some]
          cases decide (2 ≤ need ∧ need ≤ 4)
          · rfl
          · rw [if_pos rfl]; rfl
        · rw [if_neg h3, if_neg h3]
      · rw [if_pos rfl, if_pos (hb.1 rfl), within_b, Option.bind_some]
        cases decide (1 ≤ need ∧ need ≤ 4)
        · rfl
        · rw [if_pos rfl, within_b]; rfl
    by_cases h2 : kind = 2
    · rw [if_pos h2]
      exact key _ (by simp [h2])
    · rw [if_neg h2]
      exact key _ (by simp [h2])

theorem names_is (l : List ByteArray) (k : Nat) (hk : 84 ≤ k) : impl_areNames.f k l = some (l.all nameB) := by
  have key : ∀ (l : List ByteArray) (i : Int), 0 ≤ i → ∃ r, slices_IndexFunc_string_string.f (fun x => impl_areNames_1.f k x) l i = some r ∧ decide (r ≥ 0) = !l.all nameB := by
    intro l
    induction l with
    | nil => intro i _; exact ⟨-1, rfl, rfl⟩
    | cons x xs ih =>
      intro i hi
      obtain ⟨r, e, hr⟩ := ih (i + 1) (by omega)
      unfold slices_IndexFunc_string_string.f
      have hx : impl_areNames_1.f k x = some (!nameB x) := by
        unfold impl_areNames_1.f
        rw [(name_both x k hk).1]; rfl
      rw [hx, Option.bind_some, List.all_cons]
      cases nameB x
      · exact ⟨i, rfl, by rw [decide_eq_true (by omega)]; rfl⟩
      · exact ⟨r, e, by rw [hr]; rfl⟩
  obtain ⟨r, e, hr⟩ := key l 0 (by omega)
  unfold impl_areNames.f slices_ContainsFunc_string_string_impl_areNames_1.f slices_ContainsFunc_string_string.f
  rw [e, Option.bind_some, Option.bind_some, hr, Bool.not_not]

/-- A deal is right by itself. -/
def dealB (d : S51) : Bool := nameB d.f0 && decide (1 ≤ (d.f2.length : Int) ∧ (d.f2.length : Int) ≤ 6) && d.f2.all nameB && !twiceB [] d.f2 && kindB d.f1 d.f3 d.f4

theorem deal_is (d : S51) (k : Nat) (hk : 84 ≤ k) : impl_isDeal.f k d.f0 d.f1 d.f2 d.f3 d.f4 d.f5 = some (dealB d) := by
  obtain ⟨k, rfl⟩ : ∃ m, k = m + 2 := ⟨k - 2, by omega⟩
  have ht : impl_isDeal.j0 (k + 2) true d.f0 d.f1 d.f2 d.f3 d.f4 d.f5 = some false := by rw [impl_isDeal.j0, if_pos rfl]
  unfold impl_isDeal.f dealB
  rw [(name_both d.f0 _ hk).1, Option.bind_some, within_b, Option.bind_some, names_is _ _ hk, Option.bind_some]
  cases nameB d.f0
  · rw [if_neg (by decide), ht]; rfl
  rw [if_pos rfl]
  by_cases hl : 1 ≤ (d.f2.length : Int) ∧ (d.f2.length : Int) ≤ 6
  · rw [decide_eq_true hl, if_pos rfl, twice_is _ (by omega) _ (by omega), Option.bind_some]
    cases d.f2.all nameB
    · rw [if_neg (by decide), ht]; rfl
    rw [if_pos rfl]
    cases twiceB [] d.f2
    · rw [kind_impl]; rfl
    · rw [ht]; rfl
  · rw [decide_eq_false hl, if_neg (by decide), ht]; rfl

def dealsB (l : List S51) : Bool := if l.length > 6 then false else l.all dealB && !twiceB [] (l.map (·.f0))

theorem impl_deals (l : List S51) (k : Nat) (hk : 200 ≤ k) : impl_DealsOK.f k l = some (dealsB l) := by
  unfold impl_DealsOK.f dealsB
  by_cases h : l.length > 6
  · rw [if_pos (by omega), if_pos h]
  rw [if_neg (by omega), if_neg h]
  have key : ∀ d i k, i + d = l.length → d + 100 < k → impl_DealsOK.l0 k ((l.take i).map (·.f0)) l (l.length : Int) (i : Int) = some ((l.drop i).all dealB && !twiceB [] (l.map (·.f0))) := by
    intro d
    induction d with
    | zero =>
      intro i k hi hk
      obtain ⟨k, rfl⟩ : ∃ m, k = m + 1 := ⟨k - 1, by omega⟩
      rw [impl_DealsOK.l0, if_neg (by omega), List.drop_eq_nil_of_le (by omega), List.take_of_length_le (by omega), twice_is _ (by rw [List.length_map]; omega) _ (by rw [List.length_map]; omega)]
      rfl
    | succ d ih =>
      intro i k hi hk
      obtain ⟨k, rfl⟩ : ∃ m, k = m + 1 := ⟨k - 1, by omega⟩
      have hil : i < l.length := by omega
      rw [impl_DealsOK.l0, if_pos (by omega), if_pos (by omega), if_pos (by omega), rdBDeal hil, deal_is _ k (by omega), Option.bind_some, List.drop_eq_getElem_cons hil, List.all_cons]
      cases dealB l[i]
      · rfl
      · rw [if_pos rfl, if_pos (by rw [List.length_map, List.length_take]; omega), w64 (by omega) (by omega)]
        have e := ih (i + 1) k (by omega) (by omega)
        rw [show ((i + 1 : Nat) : Int) = (i : Int) + 1 by omega, List.take_succ_eq_append_getElem hil, List.map_append] at e
        exact e
  have := key l.length 0 k (by omega) (by omega)
  simpa using this

/-- The articles of a deal, in the reference's order of looking. -/
def artsB (pre : List ByteArray) : List ByteArray → Bool
  | [] => true
  | x :: xs => nameB x && (!hasB pre x && artsB (pre ++ [x]) xs)

theorem arts_is : ∀ (l pre : List ByteArray), artsB pre l = (l.all nameB && !twiceB pre l)
  | [], _ => rfl
  | x :: xs, pre => by
    rw [artsB, twiceB, List.all_cons, arts_is xs]
    cases nameB x <;> cases hasB pre x <;> cases xs.all nameB <;> simp

/-- The deals, in the reference's order of looking. -/
def goS (pre : List ByteArray) : List S51 → Bool
  | [] => true
  | d :: ds => nameB d.f0 && (decide (1 ≤ (d.f2.length : Int) ∧ (d.f2.length : Int) ≤ 6) && (!hasB pre d.f0 && (artsB [] d.f2 && (kindB d.f1 d.f3 d.f4 && goS (pre ++ [d.f0]) ds))))

theorem goS_is : ∀ (l : List S51) (pre : List ByteArray), goS pre l = (l.all dealB && !twiceB pre (l.map (·.f0)))
  | [], _ => rfl
  | d :: ds, pre => by
    rw [goS, List.map_cons, twiceB, List.all_cons, goS_is ds, arts_is]
    unfold dealB
    cases nameB d.f0 <;> cases decide (1 ≤ (d.f2.length : Int) ∧ (d.f2.length : Int) ≤ 6) <;> cases hasB pre d.f0 <;> cases d.f2.all nameB <;> cases twiceB [] d.f2 <;> cases kindB d.f1 d.f3 d.f4 <;> simp

theorem spec_arts (rows : List S51) (i : Int) (s : ByteArray) (kind : Int) (l : List ByteArray) (need value : Int) (o : Bool) (hl : l.length ≤ 6) (r : Bool) (K : Nat)
    (next : ∀ k, K ≤ k → spec_DealsOK.l0 k rows (wrap64 (i + 1)) = some r) : ∀ d j k, j + d = l.length → d + 84 + K + 10 < k →
    spec_DealsOK.l2 k rows i (j : Int) s kind l need value o = some (artsB (l.take j) (l.drop j) && (kindB kind need value && r)) := by
  intro d
  induction d with
  | zero =>
    intro j k hj hk
    obtain ⟨k, rfl⟩ : ∃ m, k = m + 2 := ⟨k - 2, by omega⟩
    rw [spec_DealsOK.l2, if_neg (by omega), List.drop_eq_nil_of_le (by omega), artsB, Bool.true_and]
    unfold kindB
    by_cases h1 : kind = 1
    · rw [if_pos h1, if_pos h1]
      by_cases hn : need = 1
      · rw [if_pos hn, decide_eq_true hn, in1_is, Option.bind_some]
        cases decide (0 ≤ value ∧ value ≤ 100)
        · rfl
        · rw [if_pos rfl, next _ (by omega)]; rfl
      · rw [if_neg hn, decide_eq_false hn]; rfl
    · rw [if_neg h1, if_neg h1]
      have key : ∀ b : Bool, (b = true ↔ (kind = 2 ∨ kind = 4)) → spec_DealsOK.j4 (k + 1) rows i false kind b s kind l need value o = some ((if kind = 2 ∨ kind = 4 then decide (1 ≤ need ∧ need ≤ 4) && decide (0 ≤ value ∧ value ≤ 100000000) else if kind = 3 then decide (2 ≤ need ∧ need ≤ 4) && decide (value = 0) else false) && r) := by
        intro b hb
        rw [spec_DealsOK.j4]
        cases b
        · have h24 : ¬ (kind = 2 ∨ kind = 4) := fun h => absurd (hb.2 h) (by decide)
          rw [if_neg (by decide), if_neg h24]
          by_cases h3 : kind = 3
          · rw [if_pos h3, if_pos h3, in1_is, Option.bind_some]
            cases decide (2 ≤ need ∧ need ≤ 4)
            · rfl
            · rw [if_pos rfl]
              by_cases hv : value = 0
              · rw [if_pos hv, decide_eq_true hv, next _ (by omega)]; rfl
              · rw [if_neg hv, decide_eq_false hv]; rfl
          · rw [if_neg h3, if_neg h3, if_neg (by decide)]; rfl
        · rw [if_pos rfl, if_pos (hb.1 rfl), in1_is, Option.bind_some]
          cases decide (1 ≤ need ∧ need ≤ 4)
          · rfl
          · rw [if_pos rfl, in1_is, Option.bind_some]
            cases decide (0 ≤ value ∧ value ≤ 100000000)
            · rfl
            · rw [if_pos rfl, next _ (by omega)]; rfl
      by_cases h2 : kind = 2
      · rw [if_pos h2]
        exact key _ (by simp [h2])
      · rw [if_neg h2]
        exact key _ (by simp [h2])
  | succ d ih =>
    intro j k hj hk
    obtain ⟨k, rfl⟩ : ∃ m, k = m + 1 := ⟨k - 1, by omega⟩
    have hjl : j < l.length := by omega
    rw [spec_DealsOK.l2, if_pos (by omega), if_pos (by omega), rdText hjl, (name_both _ k (by omega)).2, Option.bind_some, List.drop_eq_getElem_cons hjl, artsB]
    cases nameB l[j]
    · rfl
    rw [if_pos rfl, if_pos (by omega), Int.toNat_natCast, has_is _ _ (by rw [List.length_take]; omega) k (by rw [List.length_take]; omega), Option.bind_some]
    cases hasB (l.take j) l[j]
    · rw [if_neg (by decide), w64 (by omega) (by omega)]
      have e := ih (j + 1) k (by omega) (by omega)
      rw [show ((j + 1 : Nat) : Int) = (j : Int) + 1 by omega, List.take_succ_eq_append_getElem hjl] at e
      exact e
    · rfl

theorem spec_earlier (rows : List S51) (i : Nat) (hi : i < rows.length) (hr : rows.length ≤ 6) (s : ByteArray) (kind : Int) (l : List ByteArray) (need value : Int) (o : Bool) (r : Bool) (K : Nat)
    (next : ∀ k, K ≤ k → spec_DealsOK.l2 k rows (i : Int) 0 s kind l need value o = some r) : ∀ d j k, j + d = i → d + K < k →
    spec_DealsOK.l1 k rows (i : Int) (j : Int) s kind l need value o = some (!(((rows.take i).drop j).any (fun y => decide (y.f0.toList = s.toList))) && r) := by
  intro d
  induction d with
  | zero =>
    intro j k hj hk
    obtain ⟨k, rfl⟩ : ∃ m, k = m + 1 := ⟨k - 1, by omega⟩
    rw [spec_DealsOK.l1, if_neg (by omega), List.drop_eq_nil_of_le (by rw [List.length_take]; omega), next k (by omega)]
    rfl
  | succ d ih =>
    intro j k hj hk
    obtain ⟨k, rfl⟩ : ∃ m, k = m + 1 := ⟨k - 1, by omega⟩
    have hjl : j < (rows.take i).length := by rw [List.length_take]; omega
    rw [spec_DealsOK.l1, if_pos (by omega), if_pos (by omega), if_pos (by omega), rdBDeal (by omega), List.drop_eq_getElem_cons hjl, List.any_cons, List.getElem_take]
    by_cases h : rows[j].f0.toList = s.toList
    · rw [if_pos h, decide_eq_true h]; rfl
    · rw [if_neg h, decide_eq_false h, w64 (by omega) (by omega)]
      have e := ih (j + 1) k (by omega) (by omega)
      rw [show ((j + 1 : Nat) : Int) = (j : Int) + 1 by omega] at e
      exact e

theorem spec_body (rows : List S51) (i : Nat) (hi : i < rows.length) (hr : rows.length ≤ 6) (x : S51) (hlen : x.f2.length ≤ 6) (r : Bool) (K : Nat)
    (next : ∀ k, K ≤ k → spec_DealsOK.l0 k rows (wrap64 ((i : Int) + 1)) = some r) (k : Nat) (hk : K + 300 < k) :
    spec_DealsOK.l1 k rows (i : Int) 0 x.f0 x.f1 x.f2 x.f3 x.f4 x.f5 = some (!((rows.take i).any (fun y => decide (y.f0.toList = x.f0.toList))) && (artsB [] x.f2 && (kindB x.f1 x.f3 x.f4 && r))) := by
  have n2 : ∀ k, K + 150 ≤ k → spec_DealsOK.l2 k rows (i : Int) 0 x.f0 x.f1 x.f2 x.f3 x.f4 x.f5 = some (artsB [] x.f2 && (kindB x.f1 x.f3 x.f4 && r)) := by
    intro k hk
    have := spec_arts rows (i : Int) x.f0 x.f1 x.f2 x.f3 x.f4 x.f5 hlen r K next x.f2.length 0 k (Nat.zero_add _) (by omega)
    rw [show ((0 : Nat) : Int) = 0 from rfl] at this
    simpa only [List.take_zero, List.drop_zero] using this
  have := spec_earlier rows i hi hr x.f0 x.f1 x.f2 x.f3 x.f4 x.f5 (artsB [] x.f2 && (kindB x.f1 x.f3 x.f4 && r)) (K + 150) n2 i 0 k (Nat.zero_add _) (by omega)
  rw [show ((0 : Nat) : Int) = 0 from rfl] at this
  simpa only [List.drop_zero] using this

theorem spec_deals (l : List S51) (k : Nat) (hk : 8000 ≤ k) : spec_DealsOK.f k l = some (dealsB l) := by
  unfold spec_DealsOK.f dealsB
  by_cases h : l.length > 6
  · rw [if_pos (by omega), if_pos h]
  rw [if_neg (by omega), if_neg h, ← goS_is]
  have key : ∀ d i k, i + d = l.length → d * 1000 + 1000 < k → spec_DealsOK.l0 k l (i : Int) = some (goS ((l.take i).map (·.f0)) (l.drop i)) := by
    intro d
    induction d with
    | zero =>
      intro i k hi hk
      obtain ⟨k, rfl⟩ : ∃ m, k = m + 1 := ⟨k - 1, by omega⟩
      rw [spec_DealsOK.l0, if_neg (by omega), List.drop_eq_nil_of_le (by omega)]
      rfl
    | succ d ih =>
      intro i k hi hk
      obtain ⟨k, rfl⟩ : ∃ m, k = m + 2 := ⟨k - 2, by omega⟩
      have hil : i < l.length := by omega
      have ht : ∀ s kind a need value o, spec_DealsOK.j1 (k + 1) l (i : Int) true s kind a need value o = some false := fun s kind a need value o => by rw [spec_DealsOK.j1, if_pos rfl]
      rw [spec_DealsOK.l0, if_pos (by omega), if_pos (by omega), rdBDeal hil, (name_both _ (k + 1) (by omega)).2, Option.bind_some, List.drop_eq_getElem_cons hil, goS]
      cases nameB l[i].f0
      · rw [if_neg (by decide), ht]; rfl
      rw [if_pos rfl]
      by_cases h1 : (l[i].f2.length : Int) < 1
      · rw [if_pos h1, ht, decide_eq_false (by omega)]; rfl
      rw [if_neg h1]
      by_cases h6 : (l[i].f2.length : Int) > 6
      · rw [decide_eq_true h6, ht, decide_eq_false (by omega)]; rfl
      rw [decide_eq_false h6, decide_eq_true (show 1 ≤ (l[i].f2.length : Int) ∧ (l[i].f2.length : Int) ≤ 6 by omega), spec_DealsOK.j1, if_neg (by decide)]
      have hx : l[i].f2.length ≤ 6 := by omega
      have n1 : ∀ k, d * 1000 + 1000 + 1 ≤ k → spec_DealsOK.l0 k l (wrap64 ((i : Int) + 1)) = some (goS ((l.take i).map (·.f0) ++ [l[i].f0]) (l.drop (i + 1))) := fun k hk => by
        rw [w64 (by omega) (by omega), show (i : Int) + 1 = ((i + 1 : Nat) : Int) by omega]
        have e := ih (i + 1) k (by omega) hk
        rwa [List.take_succ_eq_append_getElem hil, List.map_append] at e
      generalize l[i] = x at *
      have n3 := spec_body l i hil (by omega) x hx _ _ n1 k (by omega)
      rw [n3]
      simp only [Bool.true_and]
      unfold hasB
      rw [List.any_map]
      rfl
  have := key l.length 0 k (by omega) (by omega)
  simpa using this

end Go.Proofs.Ytoifgopjjkaodaa
