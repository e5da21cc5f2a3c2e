/- Drawn rules and facts: the rules are right, their names are told apart, and the facts are in range. -/
import Derived.Test.YthhhmcijbplcoaaGreatDoorPFnRulesx0
import Derived.Test.YthhhmcijbplcoaaGreatDoorPFnRulesx5
import Derived.Test.YthhhmcijbplcoaaGreatDoorPFnRulesx6
import Derived.Test.YthhhmcijbplcoaaGreatDoorPFnRulesx8
import Derived.Test.YthhhmcijbplcoaaGreatDoorDraw0
import Derived.Test.YthhhmcijbplcoaaGreatDoorFiresW
import Derived.KernelRfl
namespace Go.Proofs.YthhhmcijbplcoaaGreatDoor
open Go.RowKit Go.Proofs.YthhhmcijbplcoaaGreatDoor.PFnRules Go.Proofs.YthhhmcijbplcoaaGreatDoorW.PrintWords Go.Proofs.YthhhmcijbplcoaaGreatDoorW.PrintLast

theorem range_ok (f : Int) (h : 1 ≤ f ∧ f ≤ 5) : ∃ n, mn 30 (wrap64 (wrap64 (hiB f - loB f) + 1)) = n ∧ 1 ≤ n ∧ n ≤ 30 ∧ n ≤ hiB f - loB f + 1 ∧ 0 ≤ loB f ∧ hiB f ≤ 1000000 := by
  have : f = 1 ∨ f = 2 ∨ f = 3 ∨ f = 4 ∨ f = 5 := by omega
  rcases this with rfl | rfl | rfl | rfl | rfl
  · exact ⟨30, by decide +kernel, by decide, by decide, by decide +kernel, by decide +kernel, by decide +kernel⟩
  · exact ⟨30, by decide +kernel, by decide, by decide, by decide +kernel, by decide +kernel, by decide +kernel⟩
  · exact ⟨24, by decide +kernel, by decide, by decide, by decide +kernel, by decide +kernel, by decide +kernel⟩
  · exact ⟨7, by decide +kernel, by decide, by decide, by decide +kernel, by decide +kernel, by decide +kernel⟩
  · exact ⟨30, by decide +kernel, by decide, by decide, by decide +kernel, by decide +kernel, by decide +kernel⟩

theorem termJ_ok {l : List Int} {i s : Int} (f : Int) (hf : 1 ≤ f ∧ f ≤ 5) (h : SrcOK l i s) (hi : i ≤ 999990000) :
    ∃ (x : S66) (i' s' : Int), (∀ k, 1 ≤ k → spec_l00Src_term.j0 k f l i s = some (x.f0, x.f1, x.f2, i', s')) ∧ termB x = true ∧ i ≤ i' ∧ i' ≤ i + 6 ∧ SrcOK l i' s' := by
  obtain ⟨n, en, n1, n2, n3, n4, n5⟩ := range_ok f hf
  obtain ⟨r1, i1, s1, e1, a0, a1, _, g1, g1', h1⟩ := next_ok 3 h (by omega) (by omega)
  obtain ⟨r2, i2, s2, e2, b0, b1, _, g2, g2', h2⟩ := next_ok n h1 (by omega) (by omega)
  have a2 := a1 (by omega)
  have b2 := b1 (by omega)
  have hl := low_is f hf
  refine ⟨⟨f, 1 + r1, loB f + r2⟩, i2, s2, fun k hk => ?_, ?_, by omega, by omega, h2⟩
  · obtain ⟨k, rfl⟩ : ∃ m, k = m + 1 := ⟨k - 1, by omega⟩
    rw [spec_l00Src_term.j0, hl.1, Option.bind_some, e1, Option.bind_some, hl.2, Option.bind_some, en, e2, Option.bind_some, w64 (x := 1 + r1) (by omega) (by omega), w64 (x := loB f + r2) (by omega) (by omega)]
  · unfold termB
    rw [decide_eq_true (show 1 ≤ f ∧ f ≤ 5 from hf), decide_eq_true (show 1 ≤ 1 + r1 ∧ 1 + r1 ≤ 3 by omega), decide_eq_true (show loB f ≤ loB f + r2 ∧ loB f + r2 ≤ hiB f by omega)]
    rfl

theorem term_ok {l : List Int} {i s : Int} (h : SrcOK l i s) (hi : i ≤ 999980000) :
    ∃ (x : S66) (i' s' : Int), (∀ k, 1 ≤ k → spec_l00Src_term.f k l i s = some (x.f0, x.f1, x.f2, i', s')) ∧ termB x = true ∧ i ≤ i' ∧ i' ≤ i + 15 ∧ SrcOK l i' s' := by
  obtain ⟨r1, i1, s1, e1, a0, a1, _, g1, g1', h1⟩ := next_ok 5 h (by omega) (by omega)
  have a2 := a1 (by omega)
  obtain ⟨q, i2, s2, e2, g2, g2', h2⟩ := chance_ok 2 h1 (by omega) (by omega)
  cases q
  · obtain ⟨x, i3, s3, e3, t3, g3, g3', h3⟩ := termJ_ok (1 + r1) (by omega) h2 (by omega)
    refine ⟨x, i3, s3, fun k hk => ?_, t3, by omega, by omega, h3⟩
    unfold spec_l00Src_term.f
    rw [e1, Option.bind_some, e2, Option.bind_some, if_neg (show ¬ (false = true) by decide), w64 (x := 1 + r1) (by omega) (by omega), e3 k hk]
  · obtain ⟨r3, i3, s3, e3, b0, b1, _, g3, g3', h3⟩ := next_ok 2 h2 (by omega) (by omega)
    have b2 := b1 (by omega)
    obtain ⟨x, i4, s4, e4, t4, g4, g4', h4⟩ := termJ_ok (1 + r3 * 2) (by omega) h3 (by omega)
    refine ⟨x, i4, s4, fun k hk => ?_, t4, by omega, by omega, h4⟩
    unfold spec_l00Src_term.f
    rw [e1, Option.bind_some, e2, Option.bind_some, if_pos rfl, e3, Option.bind_some, w64 (x := r3 * 2) (by omega) (by omega), w64 (x := 1 + r3 * 2) (by omega) (by omega), e4 k hk]

/-- The name of the drawn rule of a place. -/
def rname (a : Int) : ByteArray := (⟨#[114]⟩ : ByteArray) ++ strOfNums [(wrap64 (48 + a)) % 256]

theorem rname_ok (a : Int) (h : 0 ≤ a ∧ a ≤ 6) : nameB (rname a) = true := by
  have : a = 0 ∨ a = 1 ∨ a = 2 ∨ a = 3 ∨ a = 4 ∨ a = 5 ∨ a = 6 := by omega
  rcases this with rfl | rfl | rfl | rfl | rfl | rfl | rfl <;> decide +kernel

theorem rname_apart (a b : Int) (h : 0 ≤ a ∧ a ≤ 6) (k : 0 ≤ b ∧ b ≤ 6) (hn : a ≠ b) : ((rname a).toList == (rname b).toList) = false := by
  have ha : a = 0 ∨ a = 1 ∨ a = 2 ∨ a = 3 ∨ a = 4 ∨ a = 5 ∨ a = 6 := by omega
  have hb : b = 0 ∨ b = 1 ∨ b = 2 ∨ b = 3 ∨ b = 4 ∨ b = 5 ∨ b = 6 := by omega
  rcases ha with rfl | rfl | rfl | rfl | rfl | rfl | rfl <;> rcases hb with rfl | rfl | rfl | rfl | rfl | rfl | rfl <;> first | exact absurd rfl hn | decide +kernel

theorem terms_loop (l : List Int) (nm : ByteArray) (act : Int) (ha : 1 ≤ act ∧ act ≤ 3) : ∀ (d : Nat) (c : Int) (ts : List S66) (i s : Int), c = d → ts.length + d ≤ 8 → (∀ x ∈ ts, termB x = true) → SrcOK l i s → i + 15 * d ≤ 999970000 →
    ∃ (ts' : List S66) (n i' s' : Int), (∀ k, d + 1 < k → spec_l00Src_clause.l0 k c l i s nm ts act 0 = some (nm, ts', act, n, i', s')) ∧ ts'.length ≤ 8 ∧ (∀ x ∈ ts', termB x = true) ∧ actB act n = true ∧ i ≤ i' ∧ i' ≤ i + 15 * d + 3 ∧ SrcOK l i' s' := by
  intro d
  induction d with
  | zero =>
    intro c ts i s hc hl ht h hi
    by_cases h3 : act = 3
    · refine ⟨ts, 0, i, s, fun k hk => ?_, by omega, ht, by rw [h3]; rfl, by omega, by omega, h⟩
      obtain ⟨k, rfl⟩ : ∃ m, k = m + 1 := ⟨k - 1, by omega⟩
      rw [spec_l00Src_clause.l0, if_neg (by omega), if_pos h3]
    · obtain ⟨r, i1, s1, e1, a0, a1, _, g1, g1', h1⟩ := next_ok 4 h (by omega) (by omega)
      have a2 := a1 (by omega)
      refine ⟨ts, 5 * r, i1, s1, fun k hk => ?_, by omega, ht, ?_, by omega, by omega, h1⟩
      · obtain ⟨k, rfl⟩ : ∃ m, k = m + 1 := ⟨k - 1, by omega⟩
        rw [spec_l00Src_clause.l0, if_neg (by omega), if_neg h3, e1, Option.bind_some, w64 (by omega) (by omega)]
      · unfold actB
        have : act = 1 ∨ act = 2 := by omega
        rcases this with e | e
        · rw [if_pos e]; exact decide_eq_true (by omega)
        · rw [if_neg (by omega), if_pos e]; exact decide_eq_true (by omega)
  | succ d ih =>
    intro c ts i s hc hl ht h hi
    obtain ⟨x, i1, s1, e1, t1, g1, g1', h1⟩ := term_ok h (by omega)
    obtain ⟨ts', n, i2, s2, e2, l2, t2, a2, g2, g2', h2⟩ := ih (c - 1) (ts ++ [x]) i1 s1 (by omega) (by simp only [List.length_append, List.length_cons, List.length_nil]; omega)
      (fun y hy => by rcases List.mem_append.1 hy with e | e; · exact ht y e
                      · rw [List.mem_singleton.1 e]; exact t1) h1 (by omega)
    refine ⟨ts', n, i2, s2, fun k hk => ?_, l2, t2, a2, by omega, by omega, h2⟩
    obtain ⟨k, rfl⟩ : ∃ m, k = m + 1 := ⟨k - 1, by omega⟩
    rw [spec_l00Src_clause.l0, if_pos (by omega), e1 k (by omega), Option.bind_some, if_pos (by omega), w64 (by omega) (by omega)]
    exact e2 k (by omega)

theorem strN_one (x : Int) : (strOfNums [x]).size = 1 := by unfold strOfNums; rfl

theorem clause_ok {l : List Int} {i s : Int} (a : Int) (ha : 0 ≤ a ∧ a ≤ 6) (h : SrcOK l i s) (hi : i ≤ 999960000) :
    ∃ (c : S41) (i' s' : Int), (∀ k, 20 ≤ k → spec_l00Src_clause.f k l i s a = some (c.f0, c.f1, c.f2, c.f3, i', s')) ∧ clauseB c = true ∧ c.f0 = rname a ∧ i ≤ i' ∧ i' ≤ i + 100 ∧ SrcOK l i' s' := by
  obtain ⟨r1, i1, s1, e1, a0, a1, _, g1, g1', h1⟩ := next_ok 3 h (by omega) (by omega)
  obtain ⟨r2, i2, s2, e2, b0, b1, _, g2, g2', h2⟩ := next_ok 5 h1 (by omega) (by omega)
  have a2 := a1 (by omega)
  have b2 := b1 (by omega)
  obtain ⟨ts, n, i3, s3, e3, l3, t3, c3, g3, g3', h3⟩ := terms_loop l (rname a) (1 + r1) (by omega) r2.toNat r2 [] i2 s2 (by omega) (by simp only [List.length_nil]; omega) (fun x hx => by simp at hx) h2 (by omega)
  refine ⟨⟨rname a, ts, 1 + r1, n⟩, i3, s3, fun k hk => ?_, ?_, rfl, by omega, by omega, h3⟩
  · obtain ⟨k, rfl⟩ : ∃ m, k = m + 1 := ⟨k - 1, by omega⟩
    unfold spec_l00Src_clause.f
    rw [spec_l00Digits.f, if_neg (by omega), if_neg (by omega), if_pos (by omega), Option.bind_some, if_pos (by rw [strN_one]; decide), e1, Option.bind_some, e2, Option.bind_some, w64 (x := 1 + r1) (by omega) (by omega)]
    exact e3 (k + 1) (by omega)
  · unfold clauseB
    rw [rname_ok a ha, decide_eq_true (show ((ts.length : Nat) : Int) ≤ 8 by omega), c3, List.all_eq_true.2 t3]
    rfl

theorem firstOf_none {α : Type} (q : α → Bool) : ∀ (l : List α) (b : Int), (∀ x ∈ l, q x = false) → firstOf q l b = -1
  | [], _, _ => rfl
  | x :: xs, b, h => by
    rw [firstOf, h x (List.mem_cons_self ..), if_neg (by decide)]
    exact firstOf_none q xs (b + 1) (fun y hy => h y (List.mem_cons_of_mem _ hy))

/-- Rules as drawn: each right, and named by its place. -/
def Drawn_ (L : List S41) : Prop := ∀ j (hj : j < L.length), clauseB L[j] = true ∧ L[j].f0 = rname j

theorem drawn_right (L : List S41) (h7 : L.length ≤ 7) (h : Drawn_ L) : clausesB L = true := by
  have key : ∀ d i, i + d = L.length → goC L (L.drop i) i = true := by
    intro d
    induction d with
    | zero => intro i hi; rw [List.drop_eq_nil_of_le (by omega), goC]
    | succ d ih =>
      intro i hi
      have hil : i < L.length := by omega
      have hx := h i hil
      rw [List.drop_eq_getElem_cons hil, goC, hx.1, ih (i + 1) (by omega), firstOf_none (namedC L[i].f0) (L.take i) 0 (fun y hy => by
        obtain ⟨j, hj, e⟩ := List.mem_iff_getElem.1 hy
        rw [List.length_take] at hj
        rw [List.getElem_take] at e
        rw [← e]
        unfold namedC
        rw [hx.2, (h j (by omega)).2]
        exact rname_apart _ _ (by omega) (by omega) (by omega))]
      rfl
  unfold clausesB
  have := key L.length 0 (by omega)
  rw [List.drop_zero] at this
  rw [this, decide_eq_true (by omega)]; rfl

theorem clauses_loop (l : List Int) : ∀ (d : Nat) (c : Int) (L : List S41) (i s : Int), c = d → L.length + d ≤ 7 → Drawn_ L → SrcOK l i s → i + 100 * d ≤ 999950000 →
    ∃ (L' : List S41) (i' s' : Int), (∀ k, d + 20 < k → spec_l00Src_clauses.l0 k L c l i s = some (L', i', s')) ∧ L'.length ≤ 7 ∧ Drawn_ L' ∧ i ≤ i' ∧ i' ≤ i + 100 * d ∧ SrcOK l i' s' := by
  intro d
  induction d with
  | zero =>
    intro c L i s hc hl hd h hi
    refine ⟨L, i, s, fun k hk => ?_, by omega, hd, by omega, by omega, h⟩
    obtain ⟨k, rfl⟩ : ∃ m, k = m + 1 := ⟨k - 1, by omega⟩
    rw [spec_l00Src_clauses.l0, if_neg (by omega)]
  | succ d ih =>
    intro c L i s hc hl hd h hi
    obtain ⟨x, i1, s1, e1, t1, n1, g1, g1', h1⟩ := clause_ok (L.length : Int) (by omega) h (by omega)
    obtain ⟨L', i2, s2, e2, l2, d2, g2, g2', h2⟩ := ih (c - 1) (L ++ [x]) i1 s1 (by omega) (by simp only [List.length_append, List.length_cons, List.length_nil]; omega)
      (fun j hj => by
        by_cases hjl : j < L.length
        · rw [List.getElem_append_left hjl]; exact hd j hjl
        · have : j = L.length := by simp only [List.length_append, List.length_cons, List.length_nil] at hj; omega
          subst this
          rw [List.getElem_append_right (Nat.le_refl _)]
          simp only [Nat.sub_self, List.getElem_cons_zero]
          exact ⟨t1, n1⟩) h1 (by omega)
    refine ⟨L', i2, s2, fun k hk => ?_, l2, d2, by omega, by omega, h2⟩
    obtain ⟨k, rfl⟩ : ∃ m, k = m + 1 := ⟨k - 1, by omega⟩
    rw [spec_l00Src_clauses.l0, if_pos (by omega), e1 k (by omega), Option.bind_some, if_pos (by omega), w64 (by omega) (by omega)]
    exact e2 k (by omega)

theorem clausesOf_ok {l : List Int} (hl : (l.length : Int) ≤ 1048576) (hb : ∀ x ∈ l, (Lit.int .u8 x).wf = true) :
    ∃ (L : List S41) (f0 f1 f2 f3 f4 : Int), (∀ k, 100 ≤ k → spec_ClausesOf.f k l = some (L, f0, f1, f2, f3, f4)) ∧ L.length ≤ 7 ∧ clausesB L = true ∧ Within (nums f0 f1 f2 f3 f4) impl_bounds.all ∧ Drawn_ L := by
  have h := source_ok hl hb
  obtain ⟨n, en, n1, n2⟩ := size_ok 7 h (by omega) (by omega)
  obtain ⟨r, i1, s1, e1, a0, a1, _, g1, g1', h1⟩ := next_ok (n + 1) h (by omega) (by omega)
  have a2 := a1 (by omega)
  obtain ⟨L, i2, s2, e2, l2, d2, g2, g2', h2⟩ := clauses_loop l r.toNat r [] i1 s1 (by omega) (by simp only [List.length_nil]; omega) (fun j hj => by simp at hj) h1 (by omega)
  obtain ⟨q1, i3, s3, e3, b0, b1, _, g3, g3', h3⟩ := next_ok 40 h2 (by omega) (by omega)
  obtain ⟨q2, i4, s4, e4, c0, c1, _, g4, g4', h4⟩ := next_ok 60 h3 (by omega) (by omega)
  obtain ⟨q3, i5, s5, e5, d0, d1, _, g5, g5', h5⟩ := next_ok 24 h4 (by omega) (by omega)
  obtain ⟨q4, i6, s6, e6, f0, f1, _, g6, g6', h6⟩ := next_ok 7 h5 (by omega) (by omega)
  obtain ⟨q5, i7, s7, e7, k0, k1, _, g7, g7', h7⟩ := next_ok 60 h6 (by omega) (by omega)
  have b2 := b1 (by omega)
  have c2 := c1 (by omega)
  have d3 := d1 (by omega)
  have f2 := f1 (by omega)
  have k2 := k1 (by omega)
  refine ⟨L, 1 + q1, q2, q3, 1 + q4, q5, fun k hk => ?_, l2, drawn_right L l2 d2, fun i hi => ?_, d2⟩
  · unfold spec_ClausesOf.f spec_l00Source.f spec_l00Src_clauses.f
    rw [Option.bind_some, en, Option.bind_some, w64 (x := n + 1) (by omega) (by omega), e1, Option.bind_some, e2 k (by omega), Option.bind_some, e3, Option.bind_some, e4, Option.bind_some, e5, Option.bind_some, e6, Option.bind_some, e7, Option.bind_some, w64 (x := 1 + q1) (by omega) (by omega), w64 (x := 1 + q4) (by omega) (by omega)]
  · have : i = 0 ∨ i = 1 ∨ i = 2 ∨ i = 3 ∨ i = 4 ∨ i = 5 := by omega
    rcases this with rfl | rfl | rfl | rfl | rfl | rfl
    · exact ⟨Int.le_refl 0, Int.le_refl 0⟩
    · exact ⟨show (1 : Int) ≤ 1 + q1 by omega, show 1 + q1 ≤ (999 : Int) by omega⟩
    · exact ⟨show (0 : Int) ≤ q2 by omega, show q2 ≤ (1000000 : Int) by omega⟩
    · exact ⟨show (0 : Int) ≤ q3 by omega, show q3 ≤ (23 : Int) by omega⟩
    · exact ⟨show (1 : Int) ≤ 1 + q4 by omega, show 1 + q4 ≤ (7 : Int) by omega⟩
    · exact ⟨show (0 : Int) ≤ q5 by omega, show q5 ≤ (120 : Int) by omega⟩

end Go.Proofs.YthhhmcijbplcoaaGreatDoor
