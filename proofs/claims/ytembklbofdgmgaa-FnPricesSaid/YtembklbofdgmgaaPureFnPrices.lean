/- FnPrices is true for every two codes of bytes: longer ones are let by by the law's own guard; the drawn rows are right, the program's steps begin where they are asked to and change at each step, and at each minute the last step tells the price that the program and the reference tell, which hangs on the rows that hold alone. -/
import Derived.Test.YtembklbofdgmgaaPAllx0
import Derived.Test.YtembklbofdgmgaaPAllx1
import Derived.Test.YtembklbofdgmgaaPAllx3
import Derived.Test.YtembklbofdgmgaaPAllx5
import Derived.Test.YtembklbofdgmgaaPAllx9
import Derived.Test.YtembklbofdgmgaaStepsI
import Derived.Test.YtembklbofdgmgaaPriceVal
import Derived.Test.YtembklbofdgmgaaPriceDraw
import Derived.Test.YtembklbofdgmgaaAt
namespace Go.Proofs.Ytembklbofdgmgaa.Pure
open Go.RowKit Go.Proofs.Ytembklbofdgmgaa Go.Proofs.Ytembklbofdgmgaa.PAll Go.Proofs.YtembklbofdgmgaaW.PrintWords Go.Proofs.YtembklbofdgmgaaW.PrintLast

/-- What PriceAt tells of a right book. -/
def atV (l : List S44) (a1 a2 : ByteArray) (m : Int) : Int × Int × Int := if bestAt l a1 a2 m < 0 then (0, 0, 8) else ((rd_T44 l (bestAt l a1 a2 m)).f5, bestAt l a1 a2 m, 0)

theorem implAt_is (l : List S44) (a1 a2 : ByteArray) (m : Int) (h1 : a1.size ≤ 65536) (h2 : a2.size ≤ 65536) (hp : pricesB l = true) (k : Nat) (hk : 300 ≤ k) : impl_PriceAt.f k l a1 a2 m = some (atV l a1 a2 m) := by
  obtain ⟨k, rfl⟩ : ∃ q, k = q + 1 := ⟨k - 1, by omega⟩
  have hl : l.length ≤ 80 ∧ l.all priceB = true := by unfold pricesB at hp; simpa using hp
  have hb := bestAt_lt l a1 a2 m hl.1 hl.2
  unfold impl_PriceAt.f impl_PriceRow_24.f atV
  simp only [Option.bind_some]
  rw [decide_eq_true (show (l.length : Int) ≤ 4096 by omega), if_pos rfl, texts2_is, decide_eq_true ⟨h1, h2⟩]
  simp only [Option.bind_some, Bool.not_true]
  rw [impl_PriceAt.j0, if_neg Bool.false_ne_true, implPrices_is _ _ (by omega), hp]
  simp only [Option.bind_some, if_true]
  rw [implAt_best l a1 a2 m hl.1 hl.2 k (by omega)]
  simp only [Option.bind_some]
  by_cases h : bestAt l a1 a2 m < 0
  · rw [if_pos h, if_pos h]
  · rw [if_neg h, if_neg h, if_pos (by omega), if_pos hb]

theorem specAt_is (l : List S44) (a1 a2 : ByteArray) (m : Int) (h1 : a1.size ≤ 65536) (h2 : a2.size ≤ 65536) (hp : pricesB l = true) (k : Nat) (hk : 300 ≤ k) : spec_PriceAt.f k l a1 a2 m = some (atV l a1 a2 m) := by
  have hl : l.length ≤ 80 ∧ l.all priceB = true := by unfold pricesB at hp; simpa using hp
  have hb := bestAt_lt l a1 a2 m hl.1 hl.2
  unfold spec_PriceAt.f spec_l04Long.f atV
  rw [if_neg (show ¬ (l.length : Int) > 4096 by omega), if_neg (show ¬ (a1.size : Int) > 65536 by omega), decide_eq_false (show ¬ (a2.size : Int) > 65536 by omega)]
  simp only [Option.bind_some, Bool.false_eq_true, if_false]
  rw [specPrices_is _ _ (by omega), hp]
  simp only [Option.bind_some, if_true]
  rw [specAt_best l a1 a2 m hl.1 hl.2 k (by omega)]
  simp only [Option.bind_some]
  by_cases h : bestAt l a1 a2 m < 0
  · rw [if_pos h, if_pos h]
  · rw [if_neg h, if_neg h, if_pos (by omega), if_pos hb]

/-- The rows that hold at a minute. -/
def holdB (a1 : ByteArray) (m : Int) (r : S44) : Bool := decide (r.f0.toList = a1.toList) && (decide (r.f3 ≤ m) && decide (m < r.f4))

theorem held_best (l : List S44) (a1 a2 : ByteArray) (m : Int) : bestRow (l.filter (holdB a1 m)) a1 a2 m = bestRow l a1 a2 m := by
  unfold bestRow
  refine fold_filter a1 a2 m _ l none (fun r _ hf => ?_)
  unfold fitsB at hf
  unfold holdB
  simp only [Bool.and_eq_true, decide_eq_true_eq] at hf ⊢
  exact ⟨hf.1, hf.2.2⟩

theorem held_ok (l : List S44) (a1 : ByteArray) (m : Int) (hp : pricesB l = true) : pricesB (l.filter (holdB a1 m)) = true := by
  unfold pricesB at hp ⊢
  simp only [Bool.and_eq_true, decide_eq_true_eq] at hp ⊢
  refine ⟨Nat.le_trans (List.length_filter_le _ _) hp.1, ?_⟩
  rw [List.all_eq_true]
  exact fun x hx => List.all_eq_true.1 hp.2 x (List.mem_filter.1 hx).1

theorem at_held (l : List S44) (a1 a2 : ByteArray) (m : Int) : (atV (l.filter (holdB a1 m)) a1 a2 m).2.2 = (atV l a1 a2 m).2.2 ∧ ((atV l a1 a2 m).2.2 = 0 → (atV (l.filter (holdB a1 m)) a1 a2 m).1 = amtB l a1 a2 m) := by
  have hb := held_best l a1 a2 m
  have n1 := best_none l a1 a2 m
  have n2 := best_none (l.filter (holdB a1 m)) a1 a2 m
  rw [hb] at n2
  have am := amt_best (l.filter (holdB a1 m)) a1 a2 m
  rw [hb, ← amt_best l a1 a2 m] at am
  unfold atV
  by_cases h : bestAt l a1 a2 m < 0
  · rw [if_pos h, if_pos (n2.2 (n1.1 h))]
    exact ⟨rfl, fun e => by cases e⟩
  · have h' : ¬ bestAt (l.filter (holdB a1 m)) a1 a2 m < 0 := fun q => h (n1.2 (n2.1 q))
    rw [if_neg h, if_neg h']
    refine ⟨rfl, fun _ => ?_⟩
    unfold amtB at am
    rw [if_neg h'] at am
    exact am

theorem law_held (rows : List S44) (a1 a2 : ByteArray) (t : Int) (steps : List S40) (i m n c : Int) (hr : rows.length ≤ 80) (K : Nat) (R : Bool) (v : Int × Int × Int) (hc : v.2.2 = c) (hn : v.2.2 = 0 → v.1 = n) (HL : ∀ k, K ≤ k → laws_FnPrices.l0 k rows a1 a2 t steps i (wrap64 (m + 1)) = some R) : ∀ (d j : Nat) (x : List S44) (k : Nat), j + d = rows.length → x.length + d ≤ 200 → K + 2 * d + 2 ≤ k →
    (∀ k, K ≤ k → impl_PriceAt.f k (x ++ (rows.drop j).filter (holdB a1 m)) a1 a2 m = some v) →
    laws_FnPrices.l1 k rows a1 a2 t steps i m n c x (j : Int) = some R := by
  intro d
  induction d with
  | zero =>
    intro j x k hj hx hk H
    obtain ⟨k, rfl⟩ : ∃ q, k = q + 2 := ⟨k - 2, by omega⟩
    have H := H (k + 1) (by omega)
    rw [List.drop_eq_nil_of_le (by omega), List.filter_nil, List.append_nil] at H
    have J9 : laws_FnPrices.j9 (k + 1) rows a1 a2 t steps i m false = some R := by
      rw [laws_FnPrices.j9, if_neg Bool.false_ne_true]; exact HL k (by omega)
    rw [show k + 2 = (k + 1) + 1 from rfl, laws_FnPrices.l1, if_neg (by omega), H, Option.bind_some, if_pos hc]
    by_cases h0 : v.2.2 = 0
    · rw [if_pos h0, hn h0, bne_self_eq_false]; exact J9
    · rw [if_neg h0]; exact J9
  | succ d ih =>
    intro j x k hj hx hk H
    obtain ⟨k, rfl⟩ : ∃ q, k = q + 2 := ⟨k - 2, by omega⟩
    have hjl : j < rows.length := by omega
    have w : wrap64 ((j : Int) + 1) = ((j + 1 : Nat) : Int) := by rw [w64 (by omega) (by omega)]; omega
    rw [List.drop_eq_getElem_cons hjl] at H
    have no : holdB a1 m rows[j] = false → laws_FnPrices.j8 (k + 1) rows a1 a2 t steps i m n c x (j : Int) false = some R := fun hh => by
      rw [laws_FnPrices.j8, if_neg Bool.false_ne_true, w]
      exact ih (j + 1) x k (by omega) (by omega) (by omega) (fun k hk => by
        have := H k hk
        rw [List.filter_cons, if_neg (by rw [hh]; decide)] at this
        exact this)
    rw [show k + 2 = (k + 1) + 1 from rfl, laws_FnPrices.l1, if_pos (by omega), if_pos (by omega), rdBPriceRow hjl]
    by_cases h0 : rows[j].f0.toList = a1.toList
    · rw [if_pos h0]
      by_cases h1 : rows[j].f3 ≤ m
      · rw [if_pos h1]
        by_cases h2 : m < rows[j].f4
        · rw [decide_eq_true h2, laws_FnPrices.j8, if_pos rfl, if_pos (by omega), if_pos (by omega), if_pos (by omega), rdBPriceRow hjl, w]
          refine ih (j + 1) _ k (by omega) (by rw [List.length_append]; simp only [List.length_cons, List.length_nil]; omega) (by omega) (fun k hk => ?_)
          have := H k hk
          rw [List.filter_cons, if_pos (by unfold holdB; rw [decide_eq_true h0, decide_eq_true h1, decide_eq_true h2]; rfl)] at this
          rw [List.append_assoc]
          exact this
        · rw [decide_eq_false h2]
          exact no (by unfold holdB; rw [decide_eq_false h2]; simp)
      · rw [if_neg h1]
        exact no (by unfold holdB; rw [decide_eq_false h1]; simp)
    · rw [if_neg h0]
      exact no (by unfold holdB; rw [decide_eq_false h0]; simp)

/-- One minute: what the program tells is what the step tells, and the rows that hold are enough. -/
theorem law_minute (rows : List S44) (a1 a2 : ByteArray) (t : Int) (steps : List S40) (i : Nat) (m : Int) (h1 : a1.size ≤ 65536) (h2 : a2.size ≤ 65536) (hp : pricesB rows = true) (hi : i < steps.length) (ha : (steps[i]'hi).f1 = amtB rows a1 a2 m) (hm : 0 ≤ m ∧ m ≤ 10000000) (K : Nat) (hK : 300 ≤ K) (R : Bool)
    (H : ∀ k, K ≤ k → laws_FnPrices.l0 k rows a1 a2 t steps (i : Int) (m + 1) = some R) (k : Nat) (hk : K + 200 ≤ k) : laws_FnPrices.j4 k rows a1 a2 t steps (i : Int) m = some R := by
  have hl : rows.length ≤ 80 ∧ rows.all priceB = true := by unfold pricesB at hp; simpa using hp
  obtain ⟨k, rfl⟩ : ∃ q, k = q + 3 := ⟨k - 3, by omega⟩
  rw [show k + 3 = (k + 2) + 1 from rfl, laws_FnPrices.j4, implAt_is rows a1 a2 m h1 h2 hp _ (by omega)]
  simp only [Option.bind_some]
  rw [specAt_is rows a1 a2 m h1 h2 hp _ (by omega)]
  simp only [Option.bind_some, if_true, bne_self_eq_false]
  rw [show k + 2 = (k + 1) + 1 from rfl, laws_FnPrices.j5, if_neg Bool.false_ne_true]
  have hh := at_held rows a1 a2 m
  have J6 : ∀ n, n = amtB rows a1 a2 m → laws_FnPrices.j6 (k + 1) rows a1 a2 t steps (i : Int) m n (atV rows a1 a2 m).2.2 = some R := by
    intro n hn
    rw [laws_FnPrices.j6, if_pos (by omega), if_pos (by omega), rdPriceStep hi, ha, if_pos hn]
    refine law_held rows a1 a2 t steps (i : Int) m n _ hl.1 K R (atV (rows.filter (holdB a1 m)) a1 a2 m) hh.1 (fun h0 => by rw [hn]; exact hh.2 (hh.1.symm.trans h0)) (fun k hk => by rw [w64 (x := m + 1) (by omega) (by omega)]; exact H k hk) rows.length 0 [] k (by omega) (by simp only [List.length_nil]; omega) (by omega) (fun k hk => ?_)
    rw [List.drop_zero, List.nil_append, implAt_is _ a1 a2 m h1 h2 (held_ok rows a1 m hp) k (by omega)]
  by_cases h0 : (atV rows a1 a2 m).2.2 = 0
  · rw [if_pos h0]
    refine J6 _ ?_
    unfold atV at h0 ⊢
    unfold amtB
    by_cases q : bestAt rows a1 a2 m < 0
    · rw [if_pos q] at h0; cases h0
    · rw [if_neg q, if_neg q]
  · rw [if_neg h0]
    refine J6 _ ?_
    unfold atV at h0
    unfold amtB
    by_cases q : bestAt rows a1 a2 m < 0
    · rw [if_pos q]
    · rw [if_neg q] at h0; exact absurd rfl h0

theorem chain_get : ∀ (ss : List S40) (a : Option Int), ChainB a ss → ∀ (i : Nat) (h : i + 1 < ss.length), (ss[i]'(by omega)).f1 ≠ (ss[i + 1]'h).f1
  | [], _, _, i, h => by simp at h
  | s :: ss, a, hc, i, h => by
    obtain ⟨_, hc⟩ := hc
    cases i with
    | zero =>
      cases ss with
      | nil => simp at h
      | cons y ys =>
        have := hc.1
        intro e
        exact this (congrArg some e)
    | succ i => exact chain_get ss _ hc i (by simpa using h)

theorem val_head (l : List S40) (h : 0 < l.length) (m : Int) (hle : (l[0]'h).f0 ≤ m) : valB l m 0 = valB (l.drop (0 + 1)) m (l[0]'h).f1 := by
  cases l with
  | nil => simp at h
  | cons s ss =>
    show valB (s :: ss) m 0 = valB ss m s.f1
    rw [valB]
    exact if_pos hle

set_option maxHeartbeats 4000000 in
theorem law_loop (rows : List S44) (a1 a2 : ByteArray) (f t : Int) (h1 : a1.size ≤ 65536) (h2 : a2.size ≤ 65536) (hp : pricesB rows = true) (hf : 0 ≤ f) (ht : t ≤ 1000000) : ∀ (n : Nat) (i : Nat) (m : Int) (k : Nat) (hi : i < (stepsB rows a1 a2 f t).length), m + n = t → f ≤ m → 210 * n + 500 ≤ k →
    (∀ s ∈ (stepsB rows a1 a2 f t).drop (i + 1), m ≤ s.f0) → (∀ m', m ≤ m' → valB (stepsB rows a1 a2 f t) m' 0 = valB ((stepsB rows a1 a2 f t).drop (i + 1)) m' ((stepsB rows a1 a2 f t)[i]'hi).f1) →
    laws_FnPrices.l0 k rows a1 a2 t (stepsB rows a1 a2 f t) (i : Int) m = some true := by
  have hl : rows.length ≤ 80 ∧ rows.all priceB = true := by unfold pricesB at hp; simpa using hp
  have hsl := steps_len rows a1 a2 f t hl.1
  have hasc := walk_asc (amtB rows a1 a2) (sortedB f t rows) none (sorted_asc f t rows)
  have hch := walk_chain (amtB rows a1 a2) (sortedB f t rows) none
  have hval := steps_val rows a1 a2 f t
  have hmem : ∀ s ∈ stepsB rows a1 a2 f t, s.f0 = f ∨ (f ≤ s.f0 ∧ s.f0 < t) := fun s hs => by
    rcases (sorted_mem f t rows _).1 (walk_mem _ _ _ s hs).1 with q | q
    · exact .inl q
    · exact .inr ⟨by have := q.1.1; omega, q.1.2⟩
  change (stepsB rows a1 a2 f t).Pairwise _ at hasc
  change ChainB none (stepsB rows a1 a2 f t) at hch
  generalize stepsB rows a1 a2 f t = steps at *
  intro n
  induction n with
  | zero =>
    intro i m k hi hm hfm hk hb hc
    obtain ⟨k, rfl⟩ : ∃ q, k = q + 1 := ⟨k - 1, by omega⟩
    rw [laws_FnPrices.l0, if_neg (by omega), w64 (x := (i : Int) + 1) (by omega) (by omega)]
    have : i + 1 = steps.length := by
      rcases Nat.lt_or_ge (i + 1) steps.length with q | q
      · exfalso
        have hs : steps[i + 1] ∈ steps.drop (i + 1) := by rw [List.drop_eq_getElem_cons q]; exact List.mem_cons_self
        have g1 := hb _ hs
        have g2 := hmem _ (List.getElem_mem q)
        have g3 := (List.pairwise_iff_getElem.1 hasc) i (i + 1) hi q (by omega)
        have g4 := hmem _ (List.getElem_mem hi)
        rcases g2 with e | e
        · rcases g4 with e' | e' <;> omega
        · omega
      · omega
    rw [show (i : Int) + 1 = (steps.length : Int) by omega]
    simp
  | succ n ih =>
    intro i m k hi hm hfm hk hb hc
    obtain ⟨k, rfl⟩ : ∃ q, k = q + 2 := ⟨k - 2, by omega⟩
    have hA : valB steps m 0 = amtB rows a1 a2 m := by
      have := hval (m - f).toNat 0 (by omega)
      rw [show f + ((m - f).toNat : Int) = m by omega] at this
      exact this
    have hcm := hc m (Int.le_refl _)
    rw [hA] at hcm
    have HCM := Aside0.mk hcm
    clear hcm hA
    have WI := Aside0.mk (show wrap64 ((i : Int) + 1) = ((i + 1 : Nat) : Int) by rw [w64 (by omega) (by omega)]; omega)
    -- the step stays
    have stay : (∀ s ∈ steps.drop (i + 1), m < s.f0) → laws_FnPrices.j3 (k + 1) rows a1 a2 t steps (i : Int) m false = some true := by
      intro hb'
      rw [laws_FnPrices.j3, if_neg Bool.false_ne_true]
      have e := Aside0.mk (show (steps[i]).f1 = amtB rows a1 a2 m by rw [HCM.out, val_before _ _ _ hb'])
      exact law_minute rows a1 a2 t steps i m h1 h2 hp hi e.out (by omega) (210 * n + 500) (by omega) true
        (fun k hk => ih i (m + 1) k hi (by omega) (by omega) hk (fun s hs => by have := hb' s hs; omega) (fun m' hm' => hc m' (by omega))) k (by omega)
    rw [show k + 2 = (k + 1) + 1 from rfl, laws_FnPrices.l0, if_pos (by omega), WI.out]
    by_cases hn : i + 1 < steps.length
    · have hd : steps.drop (i + 1) = steps[i + 1] :: steps.drop (i + 1 + 1) := List.drop_eq_getElem_cons hn
      have hgt : ∀ s ∈ steps.drop (i + 1 + 1), (steps[i + 1]).f0 < s.f0 := by
        intro s hs
        have := hasc.sublist (List.drop_sublist (i + 1) steps)
        rw [hd, List.pairwise_cons] at this
        exact this.1 s hs
      rw [if_pos (by omega), if_pos (by omega), rdPriceStep hn]
      by_cases hq : (steps[i + 1]).f0 = m
      · have e0 : ((steps[i + 1]).f0 == m) = true := by rw [hq]; simp
        rw [e0, laws_FnPrices.j3, if_pos rfl, WI.out, if_pos (by omega), if_pos (by omega), w64 (x := ((i + 1 : Nat) : Int) - 1) (by omega) (by omega), show ((i + 1 : Nat) : Int) - 1 = (i : Int) by omega, if_pos (by omega), if_pos (by omega), rdPriceStep hn, rdPriceStep hi,
          if_neg (fun e => chain_get steps none hch i hn e.symm)]
        have hgt' : ∀ s ∈ steps.drop (i + 1 + 1), m < s.f0 := fun s hs => by have := hgt s hs; omega
        have hle : (steps[i + 1]).f0 ≤ m := by omega
        have e := Aside0.mk (show (steps[i + 1]).f1 = amtB rows a1 a2 m by
          rw [HCM.out, hd, valB, if_pos hle, val_before _ _ _ hgt'])
        exact law_minute rows a1 a2 t steps (i + 1) m h1 h2 hp hn e.out (by omega) (210 * n + 500) (by omega) true
          (fun k hk => ih (i + 1) (m + 1) k hn (by omega) (by omega) hk (fun s hs => by have := hgt' s hs; omega) (fun m' hm' => by
            rw [hc m' (by omega), hd, valB, if_pos (by omega)])) k (by omega)
      · have e0 : ((steps[i + 1]).f0 == m) = false := by simpa using hq
        rw [e0]
        have g1 := hb (steps[i + 1]) (by rw [hd]; exact List.mem_cons_self)
        refine stay (fun s hs => ?_)
        rw [hd] at hs
        rcases List.mem_cons.1 hs with q | q
        · rw [q]; omega
        · have := hgt s q; omega
    · rw [if_neg (show ¬ ((i + 1 : Nat) : Int) < (steps.length : Int) from fun q => hn (Int.ofNat_lt.1 q))]
      exact stay (fun s hs => by rw [List.drop_eq_nil_of_le (Nat.le_of_not_lt hn)] at hs; cases hs)

theorem FnPrices : laws_FnPrices.Pure := by
  intro l0 l1 _ _ hb0 _ _ hb1
  refine ⟨40000, ?_⟩
  unfold laws_FnPrices.f
  have J : laws_FnPrices.j0 40000 l0 l1 true = some true := by rw [show (40000 : Nat) = 39999 + 1 from rfl, laws_FnPrices.j0, if_pos rfl]
  by_cases hl0 : (l0.length : Int) > 1048576
  · rw [if_pos hl0, J]
  rw [if_neg hl0]
  by_cases hl1 : (l1.length : Int) > 1048576
  · rw [decide_eq_true hl1, J]
  rw [decide_eq_false hl1, show (40000 : Nat) = 39999 + 1 from rfl, laws_FnPrices.j0, if_neg Bool.false_ne_true]
  obtain ⟨rows, hrows, hlen, hall⟩ := rowsOf_ok (l := l0) (by omega) hb0
  have hp : pricesB rows = true := by unfold pricesB; rw [hall, decide_eq_true (show rows.length ≤ 80 by omega)]; rfl
  have bb := bytes_bd hb1
  obtain ⟨t0, e0, t00, t01⟩ := at_ok 0 3 (l := l1) (by omega) bb (by omega) (by omega) (by omega)
  obtain ⟨t1, e1, t10, t11⟩ := at_ok 1 3 (l := l1) (by omega) bb (by omega) (by omega) (by omega)
  obtain ⟨t2, e2, t20, t21⟩ := at_ok 2 60 (l := l1) (by omega) bb (by omega) (by omega) (by omega)
  obtain ⟨t3, e3, t30, t31⟩ := at_ok 3 70 (l := l1) (by omega) bb (by omega) (by omega) (by omega)
  have t02 := t01 (by omega)
  have t12 := t11 (by omega)
  have t22 := t21 (by omega)
  have t32 := t31 (by omega)
  rw [hrows _ (by omega)]
  simp only [Option.bind_some, List.length_cons, List.length_nil, Nat.zero_add, Nat.reduceAdd, Int.cast_ofNat_Int]
  rw [e0]
  simp only [Option.bind_some]
  rw [if_pos t00, if_pos t02, e1]
  simp only [Option.bind_some]
  rw [if_pos t10, if_pos t12, e2]
  simp only [Option.bind_some]
  rw [e3]
  simp only [Option.bind_some]
  have z1 : (rdOf ByteArray.empty [(⟨#[109, 105, 108, 107]⟩ : ByteArray), (⟨#[98, 114, 111, 116]⟩ : ByteArray), (⟨#[107, 195, 164, 115, 101]⟩ : ByteArray)] t0).size ≤ 65536 := by
    have : t0 = 0 ∨ t0 = 1 ∨ t0 = 2 := by omega
    rcases this with q | q | q <;> rw [q] <;> decide +kernel
  have z2 : (rdOf ByteArray.empty [(⟨#[]⟩ : ByteArray), (⟨#[110, 111, 114, 116, 104]⟩ : ByteArray), (⟨#[115, 111, 117, 116, 104]⟩ : ByteArray)] t1).size ≤ 65536 := by
    have : t1 = 0 ∨ t1 = 1 ∨ t1 = 2 := by omega
    rcases this with q | q | q <;> rw [q] <;> decide +kernel
  generalize rdOf ByteArray.empty [(⟨#[109, 105, 108, 107]⟩ : ByteArray), (⟨#[98, 114, 111, 116]⟩ : ByteArray), (⟨#[107, 195, 164, 115, 101]⟩ : ByteArray)] t0 = a1 at *
  generalize rdOf ByteArray.empty [(⟨#[]⟩ : ByteArray), (⟨#[110, 111, 114, 116, 104]⟩ : ByteArray), (⟨#[115, 111, 117, 116, 104]⟩ : ByteArray)] t1 = a2 at *
  rw [w64 (x := t2 + 1) (by omega) (by omega), w64 (x := t2 + 1 + t3) (by omega) (by omega), implSteps_is rows a1 a2 t2 (t2 + 1 + t3) _ (by omega)]
  simp only [Option.bind_some]
  rw [implPrices_is _ _ (by omega), hp]
  simp only [Option.bind_some, if_true]
  have hv : priceStepsB rows a1 a2 t2 (t2 + 1 + t3) = (stepsB rows a1 a2 t2 (t2 + 1 + t3), 0) := by
    unfold priceStepsB
    rw [if_pos ⟨by omega, z1, z2⟩, if_pos hp, if_pos ⟨by omega, by omega, by omega⟩]
  rw [hv]
  simp only [if_true]
  obtain ⟨rest, hs, hgt, hasc⟩ := sorted_cons t2 (t2 + 1 + t3) rows
  have hst : stepsB rows a1 a2 t2 (t2 + 1 + t3) = ⟨t2, amtB rows a1 a2 t2⟩ :: walkB (amtB rows a1 a2) rest (some (amtB rows a1 a2 t2)) := by
    unfold stepsB
    rw [hs, walkB, if_neg (by simp)]
  have hpos : 0 < (stepsB rows a1 a2 t2 (t2 + 1 + t3)).length := by rw [hst]; simp
  have hr0 : rd_T40 (stepsB rows a1 a2 t2 (t2 + 1 + t3)) 0 = ⟨t2, amtB rows a1 a2 t2⟩ := by rw [hst]; rfl
  rw [if_neg (show ¬ ((stepsB rows a1 a2 t2 (t2 + 1 + t3)).length : Int) = 0 by omega), if_pos (by omega), hr0]
  simp only [bne_self_eq_false]
  rw [show (39999 : Nat) = 39998 + 1 from rfl, laws_FnPrices.j1, if_neg Bool.false_ne_true]
  have := law_loop rows a1 a2 t2 (t2 + 1 + t3) z1 z2 hp t20 (by omega) (1 + t3).toNat 0 t2 39998 hpos (by omega) (by omega) (by omega) (fun s hs' => by
    rw [hst] at hs'
    have := hgt _ (walk_mem _ _ _ s hs').1
    omega) (fun m' hm' => val_head _ hpos m' (by rw [List.getElem_of_eq hst hpos]; exact hm'))
  exact this

end Go.Proofs.Ytembklbofdgmgaa.Pure
