/- Share: the parts add up to the amount, each is less than one from its share, and a greater weight has no less of it. -/
import Derived.Test.YtfccbbbejjdakaaPAllx3
import Derived.Test.YtfccbbbejjdakaaShareBoth
namespace Go.Proofs.Ytfccbbbejjdakaa
open Go.RowKit Go.Proofs.Ytfccbbbejjdakaa.PAll Go.Proofs.YtfccbbbejjdakaaW.PrintWords Go.Proofs.YtfccbbbejjdakaaW.PrintLast

/-- The sum of what is above 0. -/
def psum (r : List Int) : Int := (r.map fun x => if 0 < x then x else 0).sum

theorem psum_set : ∀ (r : List Int) (b : Nat), b < r.length → 0 < r.getD b 0 → psum (r.set b (-1)) = psum r - r.getD b 0
  | [], b, h, _ => absurd h (Nat.not_lt_zero _)
  | x :: xs, 0, _, h => by
    have h : 0 < x := h
    unfold psum
    rw [List.set_cons_zero, List.map_cons, List.sum_cons, List.map_cons, List.sum_cons, if_neg (by omega), if_pos h]
    show _ = _ - x
    omega
  | x :: xs, b + 1, h, h2 => by
    have h2 : 0 < xs.getD b 0 := by simpa using h2
    have := psum_set xs b (by simpa using h) h2
    unfold psum at this ⊢
    rw [List.set_cons_succ, List.map_cons, List.sum_cons, List.map_cons, List.sum_cons, this]
    have e : (x :: xs).getD (b + 1) 0 = xs.getD b 0 := by simp
    rw [e]; omega

theorem psum_pos : ∀ (r : List Int), 0 < psum r → ∃ j, j < r.length ∧ 0 < r.getD j 0
  | [], h => by simp [psum] at h
  | x :: xs, h => by
    by_cases c : 0 < x
    · exact ⟨0, by simp, c⟩
    · unfold psum at h
      rw [List.map_cons, List.sum_cons, if_neg c, Int.zero_add] at h
      obtain ⟨j, h1, h2⟩ := psum_pos xs h
      exact ⟨j + 1, by simpa using h1, by simpa using h2⟩

theorem psum_eq : ∀ (r : List Int), (∀ x ∈ r, 0 ≤ x) → psum r = r.sum
  | [], _ => rfl
  | x :: xs, h => by
    have := psum_eq xs fun y hy => h y (List.mem_cons_of_mem _ hy)
    have hx := h x List.mem_cons_self
    unfold psum at this ⊢
    rw [List.map_cons, List.sum_cons, List.sum_cons, this]
    split <;> omega

theorem greedy_len : ∀ (n : Nat) (l : List Int), (greedy n l).length = n
  | 0, _ => rfl
  | n + 1, l => by rw [greedy, List.length_cons, greedy_len n]

/-- Each that is taken has a rest, none is taken twice, and where one is taken all with a greater rest are. -/
theorem greedy_good (all : Int) (ha : 0 < all) : ∀ (n : Nat) (r : List Int), (∀ j, r.getD j 0 < all) → (n : Int) * all ≤ psum r →
    (∀ i ∈ greedy n r, i < r.length ∧ 0 < r.getD i 0) ∧ (greedy n r).Nodup ∧ ∀ i k, i < r.length → r.getD k 0 < r.getD i 0 → k ∈ greedy n r → i ∈ greedy n r
  | 0, r, _, _ => ⟨fun i h => by simp [greedy] at h, by simp [greedy], fun i k _ _ h => by simp [greedy] at h⟩
  | n + 1, r, hr, hp => by
    have hm : ((n + 1 : Nat) : Int) * all = (n : Int) * all + all := by rw [Int.natCast_add, Int.add_mul]; simp
    have hn0 : 0 ≤ (n : Int) * all := Int.mul_nonneg (by omega) (by omega)
    rw [hm] at hp
    obtain ⟨j, hj, hj2⟩ := psum_pos r (by omega)
    have hb := bestIx_is r (by rintro rfl; simp at hj)
    have hbp : 0 < r.getD (bestIx r) 0 := by have := hb.le j hj; omega
    have hba := hr (bestIx r)
    have hgd : ∀ i, (r.set (bestIx r) (-1)).getD i 0 = if i = bestIx r then -1 else r.getD i 0 := fun i => getD_set _ _ _ _ hb.lt
    obtain ⟨h1, h2, h3⟩ := greedy_good all ha n (r.set (bestIx r) (-1)) (fun i => by rw [hgd]; have := hr i; split <;> omega) (by rw [psum_set r _ hb.lt hbp]; omega)
    have hne : ∀ i ∈ greedy n (r.set (bestIx r) (-1)), i ≠ bestIx r ∧ i < r.length ∧ 0 < r.getD i 0 := fun i hi => by
      have := h1 i hi
      rw [hgd, List.length_set] at this
      by_cases c : i = bestIx r
      · rw [if_pos c] at this; omega
      · rw [if_neg c] at this; exact ⟨c, this⟩
    rw [greedy]
    refine ⟨fun i hi => ?_, ?_, fun i k hi hk hm => ?_⟩
    · rcases List.mem_cons.1 hi with rfl | hi
      · exact ⟨hb.lt, hbp⟩
      · exact (hne i hi).2
    · rw [List.nodup_cons]
      exact ⟨fun h => (hne _ h).1 rfl, h2⟩
    · rcases List.mem_cons.1 hm with rfl | hm
      · have := hb.le i hi; omega
      · by_cases c : i = bestIx r
        · rw [c]; exact List.mem_cons_self
        · refine List.mem_cons_of_mem _ (h3 i k (by rw [List.length_set]; exact hi) ?_ hm)
          rw [hgd, hgd, if_neg c, if_neg (hne k hm).1]; exact hk

theorem incs_at : ∀ (is : List Nat) (l : List Int), is.Nodup → (∀ i ∈ is, i < l.length) → ∀ j, (impl_Share.incs l is).getD j 0 = l.getD j 0 + if j ∈ is then 1 else 0
  | [], l, _, _, j => by simp [impl_Share.incs]
  | i :: is, l, hn, hl, j => by
    rw [List.nodup_cons] at hn
    have hi := hl i List.mem_cons_self
    have := incs_at is (l.set i (l.getD i 0 + 1)) hn.2 (fun k hk => by rw [List.length_set]; exact hl k (List.mem_cons_of_mem _ hk)) j
    show (impl_Share.incs (l.set i (l.getD i 0 + 1)) is).getD j 0 = _
    rw [this, getD_set _ _ _ _ hi]
    by_cases c : j = i
    · subst c
      rw [if_pos rfl, if_neg hn.1, if_pos List.mem_cons_self]; omega
    · rw [if_neg c]
      by_cases d : j ∈ is
      · rw [if_pos d, if_pos (List.mem_cons_of_mem _ d)]
      · rw [if_neg d, if_neg]
        intro h
        rcases List.mem_cons.1 h with h | h
        · exact c h
        · exact d h

theorem sum_set1 : ∀ (l : List Int) (i : Nat), i < l.length → (l.set i (l.getD i 0 + 1)).sum = l.sum + 1
  | [], i, h => absurd h (Nat.not_lt_zero _)
  | x :: xs, 0, _ => by rw [List.set_cons_zero, List.sum_cons, List.sum_cons]; show x + 1 + _ = _; omega
  | x :: xs, i + 1, h => by
    have := sum_set1 xs i (by simpa using h)
    have e : (x :: xs).getD (i + 1) 0 = xs.getD i 0 := by simp
    rw [e, List.set_cons_succ, List.sum_cons, List.sum_cons, this]; omega

theorem incs_sum : ∀ (is : List Nat) (l : List Int), (∀ i ∈ is, i < l.length) → (impl_Share.incs l is).sum = l.sum + is.length
  | [], l, _ => by simp [impl_Share.incs]
  | i :: is, l, hl => by
    show (impl_Share.incs (l.set i (l.getD i 0 + 1)) is).sum = _
    rw [incs_sum is _ (fun k hk => by rw [List.length_set]; exact hl k (List.mem_cons_of_mem _ hk)), sum_set1 l i (hl i List.mem_cons_self), List.length_cons]
    omega

structure Shared (n all : Int) (w o : List Int) : Prop where
  len : o.length = w.length
  sum : o.sum = n
  near : ∀ i, i < w.length → o.getD i 0 * all - n * w.getD i 0 < all ∧ -(o.getD i 0 * all - n * w.getD i 0) < all
  pos : ∀ i, 0 ≤ o.getD i 0
  mono : ∀ i k, i < w.length → k < w.length → w.getD k 0 < w.getD i 0 → o.getD k 0 ≤ o.getD i 0

theorem shared (n : Int) (w : List Int) (hn : 0 ≤ n ∧ n ≤ 1000000000) (hx : ∀ x ∈ w, 0 ≤ x ∧ x ≤ 1000000) (ha : 0 < w.sum) : Shared n w.sum w (impl_Share.out n w.sum w) := by
  have hleft := impl_Share.left_bd n w ha
  have hsums := impl_Share.sums n w.sum w
  have hqb := impl_Share.quots_bd n w.sum w 1000000000 1000000 hn (by omega) ha hx (by omega)
  have hlq : (impl_Share.quots n w.sum w).length = w.length := by unfold impl_Share.quots; rw [List.length_map]
  unfold impl_Share.out
  generalize w.sum = all at *
  have hrd : ∀ j, (w.map fun x => n * x % all).getD j 0 = n * w.getD j 0 % all := fun j => by
    rw [List.getD_eq_getElem?_getD, List.getElem?_map, List.getD_eq_getElem?_getD]
    rcases Nat.lt_or_ge j w.length with q | q
    · rw [List.getElem?_eq_getElem q]; rfl
    · rw [List.getElem?_eq_none q]; simp
  have hqd : ∀ j, (impl_Share.quots n all w).getD j 0 = n * w.getD j 0 / all := fun j => by
    unfold impl_Share.quots
    rw [List.getD_eq_getElem?_getD, List.getElem?_map, List.getD_eq_getElem?_getD]
    rcases Nat.lt_or_ge j w.length with q | q
    · rw [List.getElem?_eq_getElem q]; rfl
    · rw [List.getElem?_eq_none q]; simp
  obtain ⟨t, ht⟩ : ∃ t : Nat, n - (impl_Share.quots n all w).sum = (t : Int) := ⟨(n - (impl_Share.quots n all w).sum).toNat, by omega⟩
  rw [ht, Int.toNat_natCast]
  have hps : (t : Int) * all ≤ psum (w.map fun x => n * x % all) := by
    rw [psum_eq _ (fun x hx => by
      obtain ⟨y, _, rfl⟩ := List.mem_map.1 hx
      exact Int.emod_nonneg _ (by omega)), ← ht, Int.sub_mul, Int.mul_comm (impl_Share.quots n all w).sum all]
    omega
  obtain ⟨g1, g2, g3⟩ := greedy_good all ha t (w.map fun x => n * x % all) (fun j => by rw [hrd]; exact Int.emod_lt_of_pos _ ha) hps
  rw [List.length_map] at g1 g3
  have gl := greedy_len t (w.map fun x => n * x % all)
  generalize greedy t (w.map fun x => n * x % all) = G at *
  have hat := incs_at G (impl_Share.quots n all w) g2 (fun i hi => by rw [hlq]; exact (g1 i hi).1)
  refine ⟨by rw [impl_Share.incs_length, hlq], ?_, fun i hi => ?_, fun i => ?_, fun i k hi hk hw => ?_⟩
  · rw [incs_sum G _ (fun i hi => by rw [hlq]; exact (g1 i hi).1), gl]; omega
  · rw [hat, hqd]
    have e := Int.mul_ediv_add_emod (n * w.getD i 0) all
    have e1 := Int.emod_nonneg (n * w.getD i 0) (show all ≠ 0 by omega)
    have e2 := Int.emod_lt_of_pos (n * w.getD i 0) ha
    have g := g1 i
    rw [hrd] at g
    generalize n * w.getD i 0 / all = q at *
    generalize n * w.getD i 0 % all = r at *
    generalize n * w.getD i 0 = p at *
    rw [Int.mul_comm] at e
    by_cases c : i ∈ G
    · rw [if_pos c, Int.add_mul]
      have := (g c).2
      omega
    · rw [if_neg c, Int.add_zero]; omega
  · rw [hat]
    have := hqb i
    split <;> omega
  · rw [hat, hat, hqd, hqd]
    have e := Int.mul_ediv_add_emod (n * w.getD i 0) all
    have e' := Int.mul_ediv_add_emod (n * w.getD k 0) all
    have g := g1 k
    have g' := g3 i k hi
    rw [hrd, hrd] at g'
    rw [hrd] at g
    have hle : n * w.getD k 0 / all ≤ n * w.getD i 0 / all := Int.ediv_le_ediv ha (Int.mul_le_mul_of_nonneg_left (by omega) hn.1)
    by_cases c : k ∈ G
    · rw [if_pos c]
      by_cases d : i ∈ G
      · rw [if_pos d]; omega
      · rw [if_neg d]
        have hr0 := (g c).2
        have hnr : ¬ n * w.getD k 0 % all < n * w.getD i 0 % all := fun h => d (g' h c)
        have hlt : n * w.getD k 0 < n * w.getD i 0 := by
          rcases Int.lt_or_le 0 n with q | q
          · exact Int.mul_lt_mul_of_pos_left hw q
          · have : n = 0 := by omega
            subst this
            rw [Int.zero_mul, Int.zero_emod] at hr0; omega
        rcases Int.lt_or_le (n * w.getD k 0 / all) (n * w.getD i 0 / all) with q | q
        · omega
        · have : n * w.getD k 0 / all = n * w.getD i 0 / all := by omega
          rw [this] at e'
          omega
    · rw [if_neg c]
      split <;> omega

end Go.Proofs.Ytfccbbbejjdakaa
