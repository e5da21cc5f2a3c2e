/- The terms that can not all hold: without any one of them the others can; there are two of them or more, ascending. -/
import Derived.Test.YtbmpkggjcnmieaaPAllx0
import Derived.Test.YtbmpkggjcnmieaaPAllx11
import Derived.Test.YtbmpkggjcnmieaaPAllx3
import Derived.Test.YtbmpkggjcnmieaaPAllx4
import Derived.Test.YtbmpkggjcnmieaaTellI
import Derived.Test.YtbmpkggjcnmieaaFiresW
namespace Go.Proofs.Ytbmpkggjcnmieaa
open Go.RowKit Go.Proofs.Ytbmpkggjcnmieaa.PAll Go.Proofs.YtbmpkggjcnmieaaW.PrintWords Go.Proofs.YtbmpkggjcnmieaaW.PrintLast

/-- Terms that can not all hold. -/
def noneB (ts : List S47) : Bool := emptyB (impl_narrowed.go impl_bounds.all ts)

theorem none_iff (ts : List S47) (h : ∀ x ∈ ts, 1 ≤ x.f0 ∧ x.f0 ≤ 5) : noneB ts = false ↔ ∃ f, Within f impl_bounds.all ∧ ∀ x ∈ ts, Holds f x := by
  constructor
  · intro e
    have hz := go_zero ts impl_bounds.all h
    have := least_within _ e (hz.1.trans rfl) (hz.2.trans rfl)
    exact ⟨_, within_all _ ts h this⟩
  · rintro ⟨f, h1, h2⟩
    exact within_empty f _ ((within_go f ts impl_bounds.all h).2 ⟨h1, h2⟩)

/-- Fewer terms hold where more do. -/
theorem none_mono (a b : List S47) (hb : ∀ x ∈ b, 1 ≤ x.f0 ∧ x.f0 ≤ 5) (hs : ∀ x ∈ a, x ∈ b) (h : noneB b = false) : noneB a = false := by
  obtain ⟨f, h1, h2⟩ := (none_iff b hb).1 h
  exact (none_iff a (fun x hx => hb x (hs x hx))).2 ⟨f, h1, fun x hx => h2 x (hs x hx)⟩

theorem own_mem (ts : List S47) (l : List Int) (hl : ∀ k ∈ l, 0 ≤ k ∧ k < (ts.length : Int)) : ∀ x ∈ impl_conflict.own ts l, x ∈ ts := by
  intro x hx
  unfold impl_conflict.own at hx
  obtain ⟨k, hk, rfl⟩ := List.mem_map.1 hx
  have := hl k hk
  unfold rd_T47
  rw [List.getD_eq_getElem?_getD, List.getElem?_eq_getElem (by omega)]
  exact List.getElem_mem _

theorem own_sub (ts : List S47) (a b : List Int) (h : ∀ k ∈ a, k ∈ b) : ∀ x ∈ impl_conflict.own ts a, x ∈ impl_conflict.own ts b := by
  intro x hx
  unfold impl_conflict.own at hx ⊢
  obtain ⟨k, hk, rfl⟩ := List.mem_map.1 hx
  exact List.mem_map.2 ⟨k, h k hk, rfl⟩

def dropI (l : List Int) (i : Int) : List Int := l.filter fun k_ => !decide (k_ = i)

theorem mem_dropI (l : List Int) (i x : Int) : x ∈ dropI l i ↔ x ∈ l ∧ x ≠ i := by
  unfold dropI
  rw [List.mem_filter]
  simp

/-- What is left of the search. -/
theorem core_go (ts : List S47) (ht : ∀ x ∈ ts, 1 ≤ x.f0 ∧ x.f0 ≤ 5) (hz : ∀ b : Nat → Int, b 0 = 0 → b 1 = 0 → impl_isEmpty.f b = emptyB b) : ∀ (n : Nat) (l : List Int), n ≤ ts.length → (∀ k ∈ l, 0 ≤ k ∧ k < (ts.length : Int)) → noneB (impl_conflict.own ts l) = true → (∀ k ∈ l, (n : Int) ≤ k → noneB (impl_conflict.own ts (dropI l k)) = false) →
    (impl_conflict.go ts n l).Sublist l ∧ noneB (impl_conflict.own ts (impl_conflict.go ts n l)) = true ∧ ∀ k ∈ impl_conflict.go ts n l, noneB (impl_conflict.own ts (dropI (impl_conflict.go ts n l) k)) = false
  | 0, l, _, hl, he, hm => by
    rw [impl_conflict.go]
    exact ⟨List.Sublist.refl _, he, fun k hk => hm k hk (by have := hl k hk; omega)⟩
  | n + 1, l, hn, hl, he, hm => by
    rw [impl_conflict.go]
    have hd : ∀ k ∈ dropI l (n : Int), 0 ≤ k ∧ k < (ts.length : Int) := fun k hk => hl k ((mem_dropI l _ k).1 hk).1
    have ho : ∀ x ∈ impl_conflict.own ts (dropI l (n : Int)), 1 ≤ x.f0 ∧ x.f0 ≤ 5 := fun x hx => ht x (own_mem ts _ hd x hx)
    have hg := go_zero _ impl_bounds.all ho
    have hE : impl_isEmpty.f (impl_narrowed.go impl_bounds.all (impl_conflict.own ts (dropI l (n : Int)))) = noneB (impl_conflict.own ts (dropI l (n : Int))) := hz _ (hg.1.trans rfl) (hg.2.trans rfl)
    by_cases hq : noneB (impl_conflict.own ts (dropI l (n : Int))) = true
    · rw [show (l.filter fun k_ => !decide (k_ = (n : Int))) = dropI l (n : Int) from rfl, if_pos (hE.trans hq)]
      have := core_go ts ht hz n (dropI l (n : Int)) (by omega) hd hq (fun k hk hnk => by
        have hk' := (mem_dropI l _ k).1 hk
        have h1 := hm k hk'.1 (by omega)
        refine none_mono _ _ (fun x hx => ht x (own_mem ts (dropI l k) (fun j hj => hl j ((mem_dropI l _ j).1 hj).1) x hx)) (own_sub ts _ _ (fun j hj => ?_)) h1
        have hj' := (mem_dropI _ _ j).1 hj
        exact (mem_dropI l k j).2 ⟨((mem_dropI l _ j).1 hj'.1).1, hj'.2⟩)
      exact ⟨this.1.trans (List.filter_sublist), this.2⟩
    · rw [show (l.filter fun k_ => !decide (k_ = (n : Int))) = dropI l (n : Int) from rfl, if_neg (by rw [hE]; exact hq)]
      refine core_go ts ht hz n l (by omega) hl he (fun k hk hnk => ?_)
      by_cases e : k = (n : Int)
      · rw [e]; exact Bool.eq_false_iff.2 hq
      · exact hm k hk (by omega)

theorem start_mem (m : Nat) (k : Int) : k ∈ impl_conflict.start m ↔ 0 ≤ k ∧ k < (m : Int) := by
  unfold impl_conflict.start
  rw [List.mem_map]
  constructor
  · rintro ⟨j, hj, rfl⟩
    have := List.mem_range.1 hj
    omega
  · intro h
    exact ⟨k.toNat, List.mem_range.2 (by omega), by omega⟩

theorem start_asc (m : Nat) : (impl_conflict.start m).Pairwise (· < ·) := by
  unfold impl_conflict.start
  rw [List.pairwise_map]
  exact (List.pairwise_lt_range).imp (fun h => by omega)

theorem own_start (ts : List S47) : impl_conflict.own ts (impl_conflict.start ts.length) = ts := by
  unfold impl_conflict.own impl_conflict.start
  rw [List.map_map]
  apply List.ext_getElem
  · simp
  · intro i h1 h2
    simp only [List.getElem_map, List.getElem_range, Function.comp]
    unfold rd_T47
    rw [Int.toNat_natCast, List.getD_eq_getElem?_getD, List.getElem?_eq_getElem h2]; rfl

/-- The core of terms that can not all hold. -/
theorem core_is (ts : List S47) (ht : ∀ x ∈ ts, 1 ≤ x.f0 ∧ x.f0 ≤ 5) (he : noneB ts = true) :
    (impl_conflict.all ts).Pairwise (· < ·) ∧ (∀ k ∈ impl_conflict.all ts, 0 ≤ k ∧ k < (ts.length : Int)) ∧ noneB (impl_conflict.own ts (impl_conflict.all ts)) = true ∧ ∀ k ∈ impl_conflict.all ts, noneB (impl_conflict.own ts (dropI (impl_conflict.all ts) k)) = false := by
  unfold impl_conflict.all
  have := core_go ts ht (fun b h0 h1 => empty_is b (by rw [h0, h1]; decide)) ts.length (impl_conflict.start ts.length) (Nat.le_refl _) (fun k hk => (start_mem _ k).1 hk) (by rw [own_start]; exact he) (fun k hk h => by have := (start_mem _ k).1 hk; omega)
  exact ⟨(start_asc _).sublist this.1, fun k hk => (start_mem _ k).1 (this.1.subset hk), this.2⟩

theorem nums_get (f0 f1 f2 f3 f4 : Int) : (nums f0 f1 f2 f3 f4).getD 0 0 = 0 ∧ (nums f0 f1 f2 f3 f4).getD 1 0 = f0 ∧ (nums f0 f1 f2 f3 f4).getD 2 0 = f1 ∧ (nums f0 f1 f2 f3 f4).getD 3 0 = f2 ∧ (nums f0 f1 f2 f3 f4).getD 4 0 = f3 ∧ (nums f0 f1 f2 f3 f4).getD 5 0 = f4 := ⟨rfl, rfl, rfl, rfl, rfl, rfl⟩

/-- One right term can hold. -/
theorem one_holds (x : S47) (h : termB x = true) : noneB [x] = false := by
  unfold termB at h
  simp only [Bool.and_eq_true, decide_eq_true_eq] at h
  obtain ⟨h0, h1, h2⟩ := h
  rw [none_iff [x] (fun y hy => by rw [List.mem_singleton.1 hy]; exact h0)]
  have hx : x.f0 = 1 ∨ x.f0 = 2 ∨ x.f0 = 3 ∨ x.f0 = 4 ∨ x.f0 = 5 := by omega
  have hold : ∀ f : List Int, f.getD x.f0.toNat 0 = x.f2 → ∀ y ∈ [x], Holds f y := by
    intro f hf y hy
    rw [List.mem_singleton.1 hy]
    unfold Holds
    rw [hf]
    exact ⟨fun _ => Int.le_refl _, fun _ => Int.le_refl _⟩
  have wi : ∀ f0 f1 f2 f3 f4 : Int, (1 ≤ f0 ∧ f0 ≤ 999) → (0 ≤ f1 ∧ f1 ≤ 1000000) → (0 ≤ f2 ∧ f2 ≤ 23) → (1 ≤ f3 ∧ f3 ≤ 7) → (0 ≤ f4 ∧ f4 ≤ 120) → Within (nums f0 f1 f2 f3 f4) impl_bounds.all := by
    intro f0 f1 f2 f3 f4 g0 g1 g2 g3 g4 i hi
    have : i = 0 ∨ i = 1 ∨ i = 2 ∨ i = 3 ∨ i = 4 ∨ i = 5 := by omega
    rcases this with rfl | rfl | rfl | rfl | rfl | rfl
    · exact ⟨Int.le_refl _, Int.le_refl _⟩
    · exact g0
    · exact g1
    · exact g2
    · exact g3
    · exact g4
  rcases hx with e | e | e | e | e
  · rw [e] at h2
    exact ⟨nums x.f2 0 0 1 0, wi _ _ _ _ _ h2 (by omega) (by omega) (by omega) (by omega), hold _ (by rw [e]; rfl)⟩
  · rw [e] at h2
    exact ⟨nums 1 x.f2 0 1 0, wi _ _ _ _ _ (by omega) h2 (by omega) (by omega) (by omega), hold _ (by rw [e]; rfl)⟩
  · rw [e] at h2
    exact ⟨nums 1 0 x.f2 1 0, wi _ _ _ _ _ (by omega) (by omega) h2 (by omega) (by omega), hold _ (by rw [e]; rfl)⟩
  · rw [e] at h2
    exact ⟨nums 1 0 0 x.f2 0, wi _ _ _ _ _ (by omega) (by omega) (by omega) h2 (by omega), hold _ (by rw [e]; rfl)⟩
  · rw [e] at h2
    exact ⟨nums 1 0 0 1 x.f2, wi _ _ _ _ _ (by omega) (by omega) (by omega) (by omega) h2, hold _ (by rw [e]; rfl)⟩

theorem nil_holds : noneB ([] : List S47) = false := by decide

theorem core_two (ts : List S47) (hb : ∀ x ∈ ts, termB x = true) (he : noneB ts = true) : 2 ≤ (impl_conflict.all ts).length := by
  have ht : ∀ x ∈ ts, 1 ≤ x.f0 ∧ x.f0 ≤ 5 := fun x hx => by
    have := hb x hx; unfold termB at this; simp only [Bool.and_eq_true, decide_eq_true_eq] at this; exact this.1
  obtain ⟨_, hr, hn, _⟩ := core_is ts ht he
  generalize impl_conflict.all ts = l at *
  match l, hr, hn with
  | [], _, hn => have := nil_holds; unfold impl_conflict.own at hn; rw [List.map_nil] at hn; rw [this] at hn; cases hn
  | [k], hr, hn =>
    have hm := own_mem ts [k] hr (rd_T47 ts k) (by unfold impl_conflict.own; simp)
    have := one_holds _ (hb _ hm)
    unfold impl_conflict.own at hn
    rw [List.map_cons, List.map_nil, this] at hn; cases hn
  | _ :: _ :: _, _, _ => simp only [List.length_cons]; omega

/-- Of ascending numbers: all but the one at a place. -/
theorem dropI_at (l : List Int) (h : l.Pairwise (· < ·)) (i : Nat) (hi : i < l.length) : dropI l l[i] = l.take i ++ l.drop (i + 1) := by
  have e : l = l.take i ++ l[i] :: l.drop (i + 1) := by rw [← List.drop_eq_getElem_cons hi, List.take_append_drop]
  have h' := h
  rw [e, List.pairwise_append, List.pairwise_cons] at h'
  have k1 : ∀ x ∈ l.take i, (!decide (x = l[i])) = true := fun x hx => by
    have := h'.2.2 x hx l[i] List.mem_cons_self
    simp; omega
  have k2 : ∀ x ∈ l.drop (i + 1), (!decide (x = l[i])) = true := fun x hx => by
    have := h'.2.1.1 x hx
    simp; omega
  unfold dropI
  generalize l[i] = y at *
  refine (congrArg (List.filter _) e).trans ?_
  rw [List.filter_append, List.filter_cons, if_neg (by simp), List.filter_eq_self.2 k1, List.filter_eq_self.2 k2]

end Go.Proofs.Ytbmpkggjcnmieaa
