/- FnWitness is true for every two codes of bytes: longer ones are let by by the law's own guard; the drawn rule is right: with the program's facts it fires and is decided for; where there are none the told terms ascend, are two or more, can not all hold, and can without any one of them; and no drawn facts make such a rule fire. -/
import Derived.Test.YtbmpkggjcnmieaaPAllx0
import Derived.Test.YtbmpkggjcnmieaaPAllx10
import Derived.Test.YtbmpkggjcnmieaaPAllx11
import Derived.Test.YtbmpkggjcnmieaaPAllx12
import Derived.Test.YtbmpkggjcnmieaaPAllx13
import Derived.Test.YtbmpkggjcnmieaaPAllx3
import Derived.Test.YtbmpkggjcnmieaaTellCore
import Derived.Test.YtbmpkggjcnmieaaDrawClauses
namespace Go.Proofs.Ytbmpkggjcnmieaa.Pure
open Go.RowKit Go.Proofs.Ytbmpkggjcnmieaa Go.Proofs.Ytbmpkggjcnmieaa.PAll Go.Proofs.YtbmpkggjcnmieaaW.PrintWords Go.Proofs.YtbmpkggjcnmieaaW.PrintLast

theorem clause_sub (c : S37) (a : List S47) (h : clauseB c = true) (hs : ∀ x ∈ a, x ∈ c.f1) (hl : a.length ≤ 8) : clauseB (⟨c.f0, a, c.f2, c.f3⟩ : S37) = true := by
  unfold clauseB at h ⊢
  simp only [Bool.and_eq_true, decide_eq_true_eq] at h ⊢
  exact ⟨h.1, by omega, h.2.2.1, List.all_eq_true.2 fun x hx => List.all_eq_true.1 h.2.2.2 x (hs x hx)⟩

/-- A right rule whose terms can hold: what is told of it, and that it fires with that. -/
theorem wit_fires (c : S37) (h : clauseB c = true) (he : noneB c.f1 = false) : ∃ g0 g1 g2 g3 g4 : Int, witB c = (g0, g1, g2, g3, g4, 0, []) ∧ Within (nums g0 g1 g2 g3 g4) impl_bounds.all ∧ firesB (nums g0 g1 g2 g3 g4) c = true := by
  have ht := wit_terms c h
  have hz := go_zero c.f1 impl_bounds.all ht.2
  have hw := least_within (impl_narrowed.go impl_bounds.all c.f1) he (hz.1.trans rfl) (hz.2.trans rfl)
  have ha := within_all _ c.f1 ht.2 hw
  refine ⟨impl_narrowed.go impl_bounds.all c.f1 2, impl_narrowed.go impl_bounds.all c.f1 4, impl_narrowed.go impl_bounds.all c.f1 6, impl_narrowed.go impl_bounds.all c.f1 8, impl_narrowed.go impl_bounds.all c.f1 10, ?_, ha.1, (fires_within _ _ _ _ _ c h ha.1).2 hw⟩
  unfold witB
  rw [h, show emptyB (impl_narrowed.go impl_bounds.all c.f1) = false from he]
  rfl

theorem wit_none (c : S37) (h : clauseB c = true) (he : noneB c.f1 = true) : witB c = (0, 0, 0, 0, 0, 8, impl_conflict.all c.f1) := by
  unfold witB
  rw [h, show emptyB (impl_narrowed.go impl_bounds.all c.f1) = true from he]
  rfl

theorem rdTerm_at (ts : List S47) (k : Int) : (⟨(rd_T47 ts k).f0, (rd_T47 ts k).f1, (rd_T47 ts k).f2⟩ : S47) = rd_T47 ts k := rfl

theorem rd_at {l : List Int} {i : Nat} (h : i < l.length) : rd l (i : Int) = l[i] := by
  unfold rd
  rw [Int.toNat_natCast, List.getD_eq_getElem?_getD, List.getElem?_eq_getElem h]; rfl

/-- The end: no drawn facts make the rule fire. -/
theorem law_end (l1 : List Int) (hl : (l1.length : Int) ≤ 1048576) (hb : ∀ x ∈ l1, (Lit.int .u8 x).wf = true) (c : S37) (h : clauseB c = true) (he : noneB c.f1 = true) (k : Nat) (hk : 200 ≤ k) :
    ((spec_ClausesOf.f k l1).bind fun bt338 => ((laws_fires.f k c.f0 c.f1 c.f2 c.f3 bt338.2.1 bt338.2.2.1 bt338.2.2.2.1 bt338.2.2.2.2.1 bt338.2.2.2.2.2).bind fun t347 => (some (!t347)))) = some true := by
  obtain ⟨L, f0, f1, f2, f3, f4, hL, _, _, hw⟩ := clausesOf_ok hl hb
  rw [hL k (by omega)]
  simp only [Option.bind_some]
  rw [lawFires_is f0 f1 f2 f3 f4 c h k (by omega), Option.bind_some]
  have : firesB (nums f0 f1 f2 f3 f4) c = false := by
    cases hf : firesB (nums f0 f1 f2 f3 f4) c
    · rfl
    · have := within_empty _ _ ((fires_within f0 f1 f2 f3 f4 c h hw).1 hf)
      unfold bnd at this
      unfold noneB at he
      rw [he] at this; cases this
  rw [this]; rfl

theorem law_less (l1 : List Int) (hl : (l1.length : Int) ≤ 1048576) (hb : ∀ x ∈ l1, (Lit.int .u8 x).wf = true) (c : S37) (h : clauseB c = true) (he : noneB c.f1 = true) : ∀ (d i k : Nat), i + d = (impl_conflict.all c.f1).length → 2 * d + 300 ≤ k →
    laws_FnWitness.l1 k l1 (impl_conflict.all c.f1) (i : Int) c.f0 c.f1 c.f2 c.f3 c.f0 (impl_conflict.own c.f1 (impl_conflict.all c.f1)) c.f2 c.f3 = some true := by
  have ht := clauseB_terms c h
  obtain ⟨hasc, hr, hn, hm⟩ := core_is c.f1 (fun x hx => (ht.2 x hx).1) he
  have hlen : (impl_conflict.all c.f1).length ≤ 8 := by
    have : (impl_conflict.all c.f1).length ≤ c.f1.length := by
      have q := core_go c.f1 (fun x hx => (ht.2 x hx).1) (fun b h0 h1 => empty_is b (by rw [h0, h1]; decide)) c.f1.length (impl_conflict.start c.f1.length) (Nat.le_refl _) (fun k hk => (start_mem _ k).1 hk) (by rw [own_start]; exact he) (fun k hk h => by have := (start_mem _ k).1 hk; omega)
      have := q.1.length_le
      rw [impl_conflict.start_len] at this
      exact this
    omega
  generalize impl_conflict.all c.f1 = core at *
  have hol : ∀ l, (impl_conflict.own c.f1 l).length = l.length := fun l => by unfold impl_conflict.own; simp
  intro d
  induction d with
  | zero =>
    intro i k hi hk
    obtain ⟨k, rfl⟩ : ∃ m, k = m + 1 := ⟨k - 1, by omega⟩
    rw [laws_FnWitness.l1, if_neg (by omega)]
    exact law_end l1 hl hb c h he k (by omega)
  | succ d ih =>
    intro i k hi hk
    obtain ⟨k, rfl⟩ : ∃ m, k = m + 2 := ⟨k - 2, by omega⟩
    have hil : i < core.length := by omega
    have w : wrap64 ((i : Int) + 1) = ((i + 1 : Nat) : Int) := by rw [w64 (by omega) (by omega)]; omega
    have e : (([] : List S47) ++ (impl_conflict.own c.f1 core).take i) ++ (impl_conflict.own c.f1 core).drop (i + 1) = impl_conflict.own c.f1 (dropI core core[i]) := by
      rw [dropI_at core hasc i hil, List.nil_append]
      unfold impl_conflict.own
      rw [List.map_append, List.map_take, List.map_drop]
    have hdl : (dropI core core[i]).length ≤ 8 := Nat.le_trans (List.length_filter_le _ _) hlen
    have hsub : ∀ x ∈ impl_conflict.own c.f1 (dropI core core[i]), x ∈ c.f1 := own_mem c.f1 _ (fun j hj => hr j ((mem_dropI _ _ j).1 hj).1)
    have hc := clause_sub c _ h hsub (by rw [hol]; exact hdl)
    obtain ⟨g0, g1, g2, g3, g4, hw, hwa, hf⟩ := wit_fires _ hc (hm _ (List.getElem_mem hil))
    have t1 : ((impl_conflict.own c.f1 core).take i).length ≤ 8 := by rw [List.length_take, hol]; omega
    have t2 : ((impl_conflict.own c.f1 core).drop (i + 1)).length ≤ 8 := by rw [List.length_drop, hol]; omega
    rw [show k + 2 = (k + 1) + 1 from rfl, laws_FnWitness.l1, if_pos (by omega), Option.bind_some, if_pos (by omega), if_pos (by rw [hol]; omega), Option.bind_some, Int.toNat_natCast, if_pos (by simp only [List.length_nil]; omega), Option.bind_some, w, if_pos (by omega), if_pos (by rw [hol]; omega), Option.bind_some, Int.toNat_natCast, if_pos (by rw [List.nil_append]; omega), Option.bind_some, e]
    have hwi := wit_impl (⟨c.f0, impl_conflict.own c.f1 (dropI core core[i]), c.f2, c.f3⟩ : S37) (k + 1) (by omega)
    rw [hw] at hwi
    simp only at hwi
    rw [hwi]
    simp only [Option.bind_some, if_true]
    have hfi := lawFires_is g0 g1 g2 g3 g4 _ hc (k + 1) (by omega)
    simp only at hfi
    rw [hfi, hf]
    simp only [Option.bind_some, Bool.not_true]
    rw [laws_FnWitness.j5, if_neg Bool.false_ne_true, w]
    exact ih (i + 1) k (by omega) (by omega)

theorem law_core (l1 : List Int) (hl : (l1.length : Int) ≤ 1048576) (hb : ∀ x ∈ l1, (Lit.int .u8 x).wf = true) (c : S37) (h : clauseB c = true) (he : noneB c.f1 = true) : ∀ (d i k : Nat), i + d = (impl_conflict.all c.f1).length → 2 * d + 700 ≤ k →
    laws_FnWitness.l0 k l1 (impl_conflict.all c.f1) (i : Int) c.f0 c.f1 c.f2 c.f3 c.f0 (impl_conflict.own c.f1 ((impl_conflict.all c.f1).take i)) c.f2 c.f3 = some true := by
  have ht := clauseB_terms c h
  have less := law_less l1 hl hb c h he
  obtain ⟨hasc, hr, hn, hm⟩ := core_is c.f1 (fun x hx => (ht.2 x hx).1) he
  have hlen : (impl_conflict.all c.f1).length ≤ 8 := by
    have q := core_go c.f1 (fun x hx => (ht.2 x hx).1) (fun b h0 h1 => empty_is b (by rw [h0, h1]; decide)) c.f1.length (impl_conflict.start c.f1.length) (Nat.le_refl _) (fun k hk => (start_mem _ k).1 hk) (by rw [own_start]; exact he) (fun k hk h => by have := (start_mem _ k).1 hk; omega)
    have := q.1.length_le
    rw [impl_conflict.start_len] at this
    have : (impl_conflict.all c.f1).length ≤ c.f1.length := this
    omega
  generalize impl_conflict.all c.f1 = core at *
  have hol : ∀ l, (impl_conflict.own c.f1 l).length = l.length := fun l => by unfold impl_conflict.own; simp
  intro d
  induction d with
  | zero =>
    intro i k hi hk
    obtain ⟨k, rfl⟩ : ∃ m, k = m + 1 := ⟨k - 1, by omega⟩
    rw [laws_FnWitness.l0, if_neg (by omega), List.take_of_length_le (by omega)]
    have hsub : ∀ x ∈ impl_conflict.own c.f1 core, x ∈ c.f1 := own_mem c.f1 _ hr
    have hc := clause_sub c _ h hsub (by rw [hol]; exact hlen)
    have hwi := wit_impl (⟨c.f0, impl_conflict.own c.f1 core, c.f2, c.f3⟩ : S37) k (by omega)
    rw [wit_none _ hc hn] at hwi
    simp only at hwi
    rw [hwi]
    simp only [Option.bind_some, if_true]
    exact less core.length 0 k (by omega) (by omega)
  | succ d ih =>
    intro i k hi hk
    obtain ⟨k, rfl⟩ : ∃ m, k = m + 2 := ⟨k - 2, by omega⟩
    have hil : i < core.length := by omega
    have w : wrap64 ((i : Int) + 1) = ((i + 1 : Nat) : Int) := by rw [w64 (by omega) (by omega)]; omega
    have hk0 := hr _ (List.getElem_mem hil)
    have J : laws_FnWitness.j3 (k + 1) l1 core (i : Int) false c.f0 c.f1 c.f2 c.f3 c.f0 (impl_conflict.own c.f1 (core.take i)) c.f2 c.f3 = some true := by
      rw [laws_FnWitness.j3, if_neg Bool.false_ne_true, if_pos (by omega), if_pos (by omega), rd_at hil, if_pos hk0.1, if_pos hk0.2, if_pos (by rw [hol, List.length_take]; omega), w, rdTerm_at]
      have := ih (i + 1) k (by omega) (by omega)
      rw [List.take_succ_eq_append_getElem hil] at this
      have e : impl_conflict.own c.f1 (core.take i ++ [core[i]]) = impl_conflict.own c.f1 (core.take i) ++ [rd_T47 c.f1 core[i]] := by
        unfold impl_conflict.own; rw [List.map_append]; rfl
      rw [e] at this
      exact this
    rw [show k + 2 = (k + 1) + 1 from rfl, laws_FnWitness.l0, if_pos (by omega), if_pos (by omega), rd_at hil, if_neg (by omega), if_neg (by omega)]
    by_cases h0 : (i : Int) > 0
    · have hpp := List.pairwise_iff_getElem.1 hasc (i - 1) i (by omega) hil (by omega)
      rw [if_pos h0, w64 (x := (i : Int) - 1) (by omega) (by omega), if_pos (by omega), if_pos (by omega), show (i : Int) - 1 = ((i - 1 : Nat) : Int) by omega, rd_at (by omega : i - 1 < core.length), decide_eq_false (by omega)]
      exact J
    · rw [if_neg h0]
      exact J

theorem FnWitness : laws_FnWitness.Pure := by
  intro l0 l1 _ _ hb0 _ _ hb1
  refine ⟨2300001, ?_⟩
  unfold laws_FnWitness.f
  have J : laws_FnWitness.j0 2300001 l0 l1 true = some true := by rw [show (2300001 : Nat) = 2300000 + 1 from rfl, laws_FnWitness.j0, if_pos rfl]
  by_cases hl0 : (l0.length : Int) > 1048576
  · rw [if_pos hl0, J]
  rw [if_neg hl0]
  by_cases hl1 : (l1.length : Int) > 1048576
  · rw [decide_eq_true hl1, J]
  rw [decide_eq_false hl1, show (2300001 : Nat) = 2300000 + 1 from rfl, laws_FnWitness.j0, if_neg Bool.false_ne_true]
  have hs := source_ok (l := l0) (by omega) hb0
  obtain ⟨c, i', s', hc, hcb, hn, _, _, _⟩ := clause_ok (l := l0) 0 (by omega) hs (by omega)
  have hC : spec_ClauseOf.f 2300000 l0 = some (c.f0, c.f1, c.f2, c.f3) := by
    unfold spec_ClauseOf.f spec_l00Source.f
    simp only [Option.bind_some]
    rw [hc _ (by omega)]
    rfl
  rw [hC]
  simp only [Option.bind_some]
  rw [wit_impl c 2300000 (by omega)]
  simp only [Option.bind_some]
  cases he : noneB c.f1
  · obtain ⟨g0, g1, g2, g3, g4, hw, hwa, hf⟩ := wit_fires c hcb he
    rw [hw]
    simp only [if_true]
    have hcl : clausesB [c] = true := drawn_right [c] (by simp) (by
      intro j hj
      have : j = 0 := by simpa using hj
      subst this
      exact ⟨hcb, hn⟩)
    have hd := decide_impl [c] (by simp) g0 g1 g2 g3 g4 true ⟨fun _ => hwa, fun _ => rfl⟩ 2300000 (by omega)
    have hdB : decideB [c] (nums g0 g1 g2 g3 g4) true = (0, 0) := by
      unfold decideB
      rw [if_neg (by simp), hcl, if_neg (by decide), if_neg (by decide), firstOf, hf, if_pos rfl]
      rfl
    rw [hdB] at hd
    rw [show ([(⟨c.f0, c.f1, c.f2, c.f3⟩ : S37)] : List S37) = [c] from rfl, hd]
    simp only [Option.bind_some]
    rw [if_pos (by simp), lawFires_is g0 g1 g2 g3 g4 c hcb _ (by omega), hf]
    simp only [Option.bind_some, if_true]
    rfl
  · have h2 := core_two c.f1 (fun x hx => by unfold clauseB at hcb; simp only [Bool.and_eq_true] at hcb; exact List.all_eq_true.1 hcb.2.2.2 x hx) he
    rw [wit_none c hcb he]
    simp only
    rw [if_neg (by decide), if_pos trivial, decide_eq_false (by omega), show (2300000 : Nat) = 2299999 + 1 from rfl, laws_FnWitness.j1, if_neg Bool.false_ne_true]
    have := law_core l1 (by omega) hb1 c hcb he (impl_conflict.all c.f1).length 0 2299999 (by omega) (by
      have := (clauseB_terms c hcb).1
      have q : (impl_conflict.all c.f1).length ≤ c.f1.length := by
        have q := core_go c.f1 (fun x hx => ((clauseB_terms c hcb).2 x hx).1) (fun b h0 h1 => empty_is b (by rw [h0, h1]; decide)) c.f1.length (impl_conflict.start c.f1.length) (Nat.le_refl _) (fun k hk => (start_mem _ k).1 hk) (by rw [own_start]; exact he) (fun k hk h => by have := (start_mem _ k).1 hk; omega)
        have := q.1.length_le
        rw [impl_conflict.start_len] at this
        exact this
      omega)
    exact this

end Go.Proofs.Ytbmpkggjcnmieaa.Pure
