/- FnExactReadRules is true for every text: longer ones are let by by the law's own guard; both sides give the same rules, or the same error at the same line, and the rules lie apart from whatever else was handed out. -/
import Derived.Test.YthhhmcijbplcoaaGreatDoorPFnExactReadRulesx0
import Derived.Test.YthhhmcijbplcoaaGreatDoorPFnExactReadRulesx8
import Derived.Test.YthhhmcijbplcoaaGreatDoorReadBoth
import Derived.Test.YthhhmcijbplcoaaGreatDoorMarkText
import Derived.Test.YthhhmcijbplcoaaGreatDoorEqClauses
namespace Go.Proofs.YthhhmcijbplcoaaGreatDoor.Pure
open Go.RowKit Go.Proofs.YthhhmcijbplcoaaGreatDoor Go.Proofs.YthhhmcijbplcoaaGreatDoor.PFnExactReadRules Go.Proofs.YthhhmcijbplcoaaGreatDoorW.PrintWords Go.Proofs.YthhhmcijbplcoaaGreatDoorW.PrintLast

/-- What is marked on a rule's terms. -/
def mkT (a : Int) : Nat → List S66
  | 0 => []
  | n + 1 => ⟨a, a + 1, a + 2⟩ :: mkT (a + 3) n
theorem mkT_len : ∀ (n : Nat) (a : Int), (mkT a n).length = n
  | 0, _ => rfl
  | n + 1, a => by rw [mkT, List.length_cons, mkT_len n]
theorem getD_app {l r : List S66} {x : S66} {i : Nat} (h : l.length = i) : rd_T66 (l ++ x :: r) (i : Int) = x := by
  rw [rdBTerm (by rw [List.length_append, List.length_cons]; omega)]
  subst h
  simp
theorem set_app {l r : List S66} {x y : S66} {i : Nat} (h : l.length = i) : (l ++ x :: r).set i y = l ++ y :: r := by
  rw [List.set_append_right _ _ (by omega), h, Nat.sub_self, List.set_cons_zero]
theorem markT_loop : ∀ (r l : List S66) (a : Int) (k : Nat), 0 ≤ a → a + 3 * (r.length : Int) ≤ 1000000000 → l.length + r.length ≤ 1000 → r.length < k → laws_markTermS.l0 k (l ++ r) a (l.length : Int) = some (a + 3 * (r.length : Int), l ++ mkT a r.length)
  | [], l, a, k, h0, h1, hl, hk => by
    obtain ⟨k, rfl⟩ : ∃ q, k = q + 1 := ⟨k - 1, by omega⟩
    rw [laws_markTermS.l0, List.append_nil, if_neg (by omega)]
    simp [mkT]
  | x :: r, l, a, k, h0, h1, hl, hk => by
    obtain ⟨k, rfl⟩ : ∃ q, k = q + 1 := ⟨k - 1, by omega⟩
    simp only [List.length_cons] at h1 hl hk
    rw [laws_markTermS.l0, if_pos (by rw [List.length_append, List.length_cons]; omega), if_pos (by omega), Int.toNat_natCast, getD_app rfl, set_app rfl, Option.bind_some, getD_app rfl, set_app rfl, Option.bind_some, getD_app rfl, set_app rfl, w64 (x := a + 1) (by omega) (by omega), w64 (x := a + 1 + 1) (by omega) (by omega), w64 (x := a + 1 + 1 + 1) (by omega) (by omega), w64 (x := (l.length : Int) + 1) (by omega) (by omega)]
    have ih := markT_loop r (l ++ [⟨a, a + 1, a + 1 + 1⟩]) (a + 1 + 1 + 1) k (by omega) (by omega) (by rw [List.length_append, List.length_singleton]; omega) (by omega)
    rw [List.length_append, List.length_singleton, List.append_assoc, List.singleton_append, show ((l.length + 1 : Nat) : Int) = (l.length : Int) + 1 by omega] at ih
    rw [ih, List.length_cons, mkT, show a + 1 + 1 + 1 = a + 3 by omega, show a + 1 + 1 = a + 2 by omega, List.append_assoc, List.singleton_append]
    congr 2
    omega
theorem heldT_loop (l : List S66) (hl : l.length ≤ 1000) : ∀ (d i : Nat) (a : Int) (k : Nat), i + d = l.length → l.drop i = mkT a d → 0 ≤ a → a + 3 * (d : Int) ≤ 1000000000 → d < k → laws_heldTermS.l0 k l a (i : Int) = some (a + 3 * (d : Int)) := by
  intro d
  induction d with
  | zero =>
    intro i a k hi hm h0 h1 hk
    obtain ⟨k, rfl⟩ : ∃ q, k = q + 1 := ⟨k - 1, by omega⟩
    rw [laws_heldTermS.l0, if_neg (by omega)]
    simp
  | succ d ih =>
    intro i a k hi hm h0 h1 hk
    obtain ⟨k, rfl⟩ : ∃ q, k = q + 1 := ⟨k - 1, by omega⟩
    have hil : i < l.length := by omega
    rw [List.drop_eq_getElem_cons hil, mkT, List.cons.injEq] at hm
    rw [laws_heldTermS.l0, if_pos (by omega), if_pos (by omega), rdBTerm hil, hm.1, if_pos rfl, w64 (x := a + 1) (by omega) (by omega), if_pos rfl, w64 (x := a + 1 + 1) (by omega) (by omega), if_pos (show a + 2 = a + 1 + 1 by omega), w64 (x := a + 1 + 1 + 1) (by omega) (by omega), w64 (x := (i : Int) + 1) (by omega) (by omega), show (i : Int) + 1 = ((i + 1 : Nat) : Int) by omega, ih (i + 1) (a + 1 + 1 + 1) k (by omega) (by rw [hm.2]; congr 1; omega) (by omega) (by omega) (by omega)]
    congr 1
    omega
/-- Rules are marked, and the marks are found. -/
theorem mark_held (k : Nat) (hk : 2000 ≤ k) : ∀ (l : List S41) (a : Int), 0 ≤ a → (∀ c ∈ l, c.f1.length ≤ 8) → a + 30 * (l.length : Int) ≤ 100000 →
    ∃ m l', laws_markClauseS.go2 k l a = some (m, l') ∧ 0 ≤ m ∧ ∀ (p : List S41), p.length + l.length ≤ 1000 → ∀ kk, 1000 + l.length < kk → laws_heldClauseS.l0 kk (p ++ l') a (p.length : Int) = some m
  | [], a, h0, _, _ => ⟨a, [], rfl, h0, fun p hp kk hkk => by
    obtain ⟨kk, rfl⟩ : ∃ q, kk = q + 1 := ⟨kk - 1, by omega⟩
    rw [laws_heldClauseS.l0, List.append_nil, if_neg (by omega)]⟩
  | c :: l, a, h0, h8, h1 => by
    simp only [List.length_cons] at h1
    have hc := h8 c List.mem_cons_self
    obtain ⟨t, et⟩ := markText_all a (by omega)
    have e2 : laws_markTermS.f k c.f1 (a + 1) = some (a + 1 + 3 * (c.f1.length : Int), mkT (a + 1) c.f1.length) := by
      have := markT_loop c.f1 [] (a + 1) k (by omega) (by omega) (by simp only [List.length_nil]; omega) (by omega)
      unfold laws_markTermS.f
      simpa using this
    obtain ⟨m, l', e3, hm, hh⟩ := mark_held k hk l (a + 1 + 3 * (c.f1.length : Int) + 1 + 1) (by omega) (fun x hx => h8 x (List.mem_cons_of_mem _ hx)) (by omega)
    refine ⟨m, ⟨t, mkT (a + 1) c.f1.length, a + 1 + 3 * (c.f1.length : Int), a + 1 + 3 * (c.f1.length : Int) + 1⟩ :: l', ?_, hm, fun p hp kk hkk => ?_⟩
    · rw [laws_markClauseS.go2, et k (by omega), Option.bind_some, w64 (x := a + 1) (by omega) (by omega), e2, Option.bind_some, w64 (x := a + 1 + 3 * (c.f1.length : Int) + 1) (by omega) (by omega), w64 (x := a + 1 + 3 * (c.f1.length : Int) + 1 + 1) (by omega) (by omega), e3, Option.bind_some]
    · rw [List.length_cons] at hkk hp
      obtain ⟨kk, rfl⟩ : ∃ q, kk = q + 1 := ⟨kk - 1, by omega⟩
      have hget : rd_T41 (p ++ ⟨t, mkT (a + 1) c.f1.length, a + 1 + 3 * (c.f1.length : Int), a + 1 + 3 * (c.f1.length : Int) + 1⟩ :: l') (p.length : Int) = ⟨t, mkT (a + 1) c.f1.length, a + 1 + 3 * (c.f1.length : Int), a + 1 + 3 * (c.f1.length : Int) + 1⟩ := by
        rw [rdBClause (by rw [List.length_append, List.length_cons]; omega)]
        simp
      have eh : laws_heldTermS.f kk (mkT (a + 1) c.f1.length) (a + 1) = some (a + 1 + 3 * (c.f1.length : Int)) := by
        have := heldT_loop (mkT (a + 1) c.f1.length) (by rw [mkT_len]; omega) c.f1.length 0 (a + 1) kk (by rw [mkT_len]; omega) (by simp) (by omega) (by omega) (by omega)
        unfold laws_heldTermS.f
        simpa using this
      rw [laws_heldClauseS.l0, if_pos (by rw [List.length_append, List.length_cons]; omega), if_pos (by omega), et kk (by omega), Option.bind_some, hget, if_pos rfl, w64 (x := a + 1) (by omega) (by omega), eh, Option.bind_some, if_neg (by omega), if_pos rfl, w64 (x := a + 1 + 3 * (c.f1.length : Int) + 1) (by omega) (by omega), if_pos rfl, w64 (x := a + 1 + 3 * (c.f1.length : Int) + 1 + 1) (by omega) (by omega), w64 (x := (p.length : Int) + 1) (by omega) (by omega)]
      have := hh (p ++ [⟨t, mkT (a + 1) c.f1.length, a + 1 + 3 * (c.f1.length : Int), a + 1 + 3 * (c.f1.length : Int) + 1⟩]) (by rw [List.length_append, List.length_singleton]; omega) kk (by omega)
      rw [List.length_append, List.length_singleton, List.append_assoc, List.singleton_append, show ((p.length + 1 : Nat) : Int) = (p.length : Int) + 1 by omega] at this
      exact this

theorem FnExactReadRules (a0 : ByteArray) (_ : a0.size ≤ 9223372036854775807) : ∃ k, laws_FnExactReadRules.f k a0 = some true := by
  refine ⟨a0.size + 1000000, ?_⟩
  unfold laws_FnExactReadRules.f
  by_cases hn : (a0.size : Int) > 1048576
  · rw [if_pos hn]
  rw [if_neg hn]
  obtain ⟨r, hr, e1, e2⟩ := rules_both a0 (a0.size + 1000000) (by omega)
  have h8 : ∀ c ∈ r.1, c.f1.length ≤ 8 := fun c hc => by
    have := hr.right c hc
    unfold clauseB at this
    rw [Bool.and_eq_true, Bool.and_eq_true] at this
    have := of_decide_eq_true this.2.1
    omega
  have hl := hr.len
  obtain ⟨m, l', e3, hm, hh⟩ := mark_held (a0.size + 1000000) (by omega) r.1 1 (by omega) h8 (by omega)
  have e4 : laws_heldClauseS.f (a0.size + 1000000) l' 1 = some m := by
    have := hh [] (by simp only [List.length_nil]; omega) (a0.size + 1000000) (by omega)
    exact this
  rw [e1, Option.bind_some, e2, Option.bind_some, eqCS1 r.1 (by omega) (fun x hx => by have := h8 x hx; omega) _ (by omega), Option.bind_some, if_pos ⟨rfl, rfl, rfl⟩, e3, Option.bind_some, e4, Option.bind_some, if_pos ⟨hm, rfl⟩]

end Go.Proofs.YthhhmcijbplcoaaGreatDoor.Pure
