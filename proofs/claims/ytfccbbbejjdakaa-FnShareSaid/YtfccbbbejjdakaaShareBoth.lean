/- Share: the reference gives what the program gives: the greatest rests one after another, of equals the first. -/
import Derived.Test.YtfccbbbejjdakaaPAllx3
import Derived.Test.YtfccbbbejjdakaaPAllx4
import Derived.Test.YtfccbbbejjdakaaLoop
import Derived.Test.YtfccbbbejjdakaaGreedy
namespace Go.Proofs.Ytfccbbbejjdakaa
open Go.RowKit Go.Proofs.Ytfccbbbejjdakaa.PAll Go.Proofs.YtfccbbbejjdakaaW.PrintWords Go.Proofs.YtfccbbbejjdakaaW.PrintLast

theorem rd_nat (l : List Int) (i : Nat) : rd l (i : Int) = l.getD i 0 := by unfold rd; rw [Int.toNat_natCast]

theorem sIn_is (a b c : Int) : spec_l01In.f a b c = some (decide (b ≤ a ∧ a ≤ c)) := by
  unfold spec_l01In.f
  by_cases h : a ≥ b
  · rw [if_pos h]; simp [show b ≤ a from h]
  · rw [if_neg h]; simp [show ¬ b ≤ a from h]

/-- The sign, put onto each. -/
theorem shareL4 (a0 x8 : Int) (h8 : x8 = if a0 < 0 then -1 else 1) (l : List Int) (hl : l.length ≤ 1000) (hb : ∀ j, 0 ≤ l.getD j 0 ∧ l.getD j 0 ≤ 4000000000000000) : ∀ d i k, i + d = l.length → d < k →
    spec_Share.l4 k x8 (impl_Share.signs a0 i l) (i : Int) = some (l.map (fun x => if a0 < 0 then -x else x), 0) := by
  intro d
  induction d with
  | zero =>
    intro i k hi hk
    obtain ⟨k, rfl⟩ : ∃ m, k = m + 1 := ⟨k - 1, by omega⟩
    obtain rfl : i = l.length := by omega
    rw [spec_Share.l4, impl_Share.signs_len, if_neg (by omega), impl_Share.signs_all]
  | succ d ih =>
    intro i k hi hk
    obtain ⟨k, rfl⟩ : ∃ m, k = m + 1 := ⟨k - 1, by omega⟩
    rw [spec_Share.l4, impl_Share.signs_len, if_pos (by omega), if_pos (by omega), impl_Share.signs_at, Int.toNat_natCast, w64 (x := (i : Int) + 1) (by omega) (by omega)]
    have h := hb i
    have := ih (i + 1) k (by omega) (by omega)
    rw [show ((i + 1 : Nat) : Int) = (i : Int) + 1 by omega] at this
    rw [← this]
    congr 1
    by_cases c : a0 < 0
    · rw [if_pos c] at h8
      rw [h8, w64 (x := -1 * l.getD i 0) (by omega) (by omega), show -1 * l.getD i 0 = -(l.getD i 0) by omega]
      exact impl_Share.signs_neg a0 i l (by omega) c
    · rw [if_neg c] at h8
      rw [h8, Int.one_mul, w64 (x := l.getD i 0) (by omega) (by omega), impl_Share.signs_pos _ _ _ c, impl_Share.signs_pos _ _ _ c]
      rw [List.getD_eq_getElem?_getD, List.getElem?_eq_getElem (by omega), Option.getD_some, List.set_getElem_self]

/-- The search of the greatest rest. -/
theorem shareL3 (x8 : Int) (out rests : List Int) (left : Int) (hl : rests.length ≤ 1000) (ho : out.length = rests.length) (hb : ∀ j, 0 ≤ out.getD j 0 ∧ out.getD j 0 ≤ 4000000000000000) (h0 : 0 ≤ left ∧ left ≤ 1000000) (K : Nat) (r : Option (List Int × Int)) (bb : Nat)
    (hend : ∀ k, K ≤ k → spec_Share.l2 k x8 (out.set bb (out.getD bb 0 + 1)) (rests.set bb (-1)) (left - 1) = r) :
    ∀ d i b k, i + d = rests.length → b < i → b < rests.length → bestFrom rests d i b = bb → K + d < k → spec_Share.l3 k x8 out rests left (b : Int) (i : Int) = r := by
  intro d
  induction d with
  | zero =>
    intro i b k hi hbi hbl hbb hk
    obtain ⟨k, rfl⟩ : ∃ m, k = m + 1 := ⟨k - 1, by omega⟩
    rw [bestFrom] at hbb
    subst hbb
    have h := hb b
    rw [spec_Share.l3, if_neg (by omega), if_pos (by omega), if_pos (by omega), if_pos (by omega), rd_nat, Int.toNat_natCast, w64 (x := out.getD b 0 + 1) (by omega) (by omega), w64 (x := left - 1) (by omega) (by omega)]
    exact hend k (by omega)
  | succ d ih =>
    intro i b k hi hbi hbl hbb hk
    obtain ⟨k, rfl⟩ : ∃ m, k = m + 1 := ⟨k - 1, by omega⟩
    rw [bestFrom] at hbb
    rw [spec_Share.l3, if_pos (by omega), if_pos (by omega), if_pos (by omega), if_pos (by omega), rd_nat, rd_nat, w64 (x := (i : Int) + 1) (by omega) (by omega)]
    by_cases c : rests.getD i 0 > rests.getD b 0
    · rw [if_pos c] at hbb ⊢
      have := ih (i + 1) i k (by omega) (by omega) (by omega) hbb (by omega)
      rwa [show ((i + 1 : Nat) : Int) = (i : Int) + 1 by omega] at this
    · rw [if_neg c] at hbb ⊢
      have := ih (i + 1) b k (by omega) (by omega) hbl hbb (by omega)
      rwa [show ((i + 1 : Nat) : Int) = (i : Int) + 1 by omega] at this

theorem shareL2 (x8 : Int) (r : Option (List Int × Int)) (K : Nat) (m : Nat) (hm : m + 1 ≤ 1000) : ∀ (n : Nat) (out rests : List Int) (c : Int), rests.length = m + 1 → out.length = m + 1 → n ≤ 1000 → 0 ≤ c → c + n ≤ 4000000000000000 → (∀ j, 0 ≤ out.getD j 0 ∧ out.getD j 0 ≤ c) →
    (∀ k, K ≤ k → spec_Share.l4 k x8 (impl_Share.incs out (greedy n rests)) 0 = r) → ∀ k, K + n * (m + 3) < k → spec_Share.l2 k x8 out rests (n : Int) = r := by
  intro n
  induction n with
  | zero =>
    intro out rests c hr ho hn hc hcn hb hend k hk
    obtain ⟨k, rfl⟩ : ∃ q, k = q + 1 := ⟨k - 1, by omega⟩
    rw [spec_Share.l2, if_neg (by omega)]
    exact hend k (by omega)
  | succ n ih =>
    intro out rests c hr ho hn hc hcn hb hend k hk
    obtain ⟨k, rfl⟩ : ∃ q, k = q + 1 := ⟨k - 1, by omega⟩
    have hmul : (n + 1) * (m + 3) = n * (m + 3) + (m + 3) := Nat.succ_mul _ _
    rw [spec_Share.l2, if_pos (by omega)]
    have hbl : bestIx rests < rests.length := (bestIx_is rests (by intro e; rw [e] at hr; simp at hr)).lt
    refine shareL3 x8 out rests ((n + 1 : Nat) : Int) (by omega) (by omega) (fun j => by have := hb j; omega) (by omega) (K + n * (m + 3) + 1) r (bestIx rests) (fun k' hk' => ?_) m 1 0 k (by omega) (by omega) (by omega) ?_ (by omega)
    · rw [show ((n + 1 : Nat) : Int) - 1 = (n : Int) by omega]
      refine ih _ _ (c + 1) (by rw [List.length_set]; exact hr) (by rw [List.length_set]; exact ho) (by omega) (by omega) (by omega) (fun j => ?_) (fun k2 hk2 => ?_) k' (by omega)
      · rw [getD_set _ _ _ _ (by omega)]
        have h1 := hb j
        have h2 := hb (bestIx rests)
        split <;> omega
      · have := hend k2 hk2
        rwa [greedy] at this
    · unfold bestIx; rw [show rests.length - 1 = m by omega]

theorem emod_is (a b : Int) (h : 0 ≤ a) : Int.tmod a b = a % b := Int.tmod_eq_emod_of_nonneg h

theorem shareL1 (ws : List Int) (all x8 size : Int) (hl : ws.length ≤ 1000) (hs : 0 ≤ size ∧ size ≤ 1000000000) (ha : 0 < all) (hx : ∀ x ∈ ws, 0 ≤ x ∧ x ≤ 1000000) (K : Nat) (r : Option (List Int × Int))
    (hend : ∀ k, K ≤ k → spec_Share.l2 k x8 (impl_Share.quots size all ws) (ws.map fun x => size * x % all) (size - (impl_Share.quots size all ws).sum) = r) :
    ∀ d i k, i + d = ws.length → K + d < k → spec_Share.l1 k ws all x8 size (impl_Share.quots size all (ws.take i)) ((ws.take i).map fun x => size * x % all) (size - (impl_Share.quots size all (ws.take i)).sum) (i : Int) = r := by
  intro d
  induction d with
  | zero =>
    intro i k hi hk
    obtain ⟨k, rfl⟩ : ∃ m, k = m + 1 := ⟨k - 1, by omega⟩
    rw [spec_Share.l1, if_neg (by omega), List.take_of_length_le (by omega)]
    exact hend k (by omega)
  | succ d ih =>
    intro i k hi hk
    obtain ⟨k, rfl⟩ : ∃ m, k = m + 1 := ⟨k - 1, by omega⟩
    have hil : i < ws.length := by omega
    have hlq : (impl_Share.quots size all (ws.take i)).length = i := by unfold impl_Share.quots; rw [List.length_map, List.length_take]; omega
    have hlr : ((ws.take i).map fun x => size * x % all).length = i := by rw [List.length_map, List.length_take]; omega
    have hxi := hx _ (List.getElem_mem hil)
    have e : rd ws (i : Int) = ws[i] := by rw [rd_nat, List.getD_eq_getElem?_getD, List.getElem?_eq_getElem hil]; rfl
    have hm0 : 0 ≤ size * ws[i] := Int.mul_nonneg hs.1 hxi.1
    have hm1 : size * ws[i] ≤ 1000000000000000 := by
      have := Int.mul_le_mul hs.2 hxi.2 hxi.1 (by omega : (0 : Int) ≤ 1000000000)
      omega
    have hq0 : 0 ≤ size * ws[i] / all := Int.ediv_nonneg hm0 (by omega)
    have hq1 : size * ws[i] / all ≤ size * ws[i] := Int.ediv_le_self _ hm0
    have hsb : 0 ≤ (impl_Share.quots size all (ws.take i)).sum ∧ (impl_Share.quots size all (ws.take i)).sum ≤ 1000 * 1000000000000000 := by
      have h1 := impl_Share.sum_bd (impl_Share.quots size all (ws.take i)) 1000000000000000 (fun x hx' => by
        obtain ⟨j, hj, rfl⟩ := List.getElem_of_mem hx'
        have := impl_Share.quots_bd size all (ws.take i) 1000000000 1000000 hs (by omega) ha (fun y hy => hx y (List.mem_of_mem_take hy)) (by omega) j
        rw [List.getD_eq_getElem?_getD, List.getElem?_eq_getElem hj, Option.getD_some] at this
        omega)
      rw [hlq] at h1
      omega
    have et : ws.take (i + 1) = ws.take i ++ [ws[i]] := List.take_succ_eq_append_getElem hil
    have eq1 : impl_Share.quots size all (ws.take (i + 1)) = impl_Share.quots size all (ws.take i) ++ [size * ws[i] / all] := by
      unfold impl_Share.quots; rw [et, List.map_append]; rfl
    have eq2 : (ws.take (i + 1)).map (fun x => size * x % all) = (ws.take i).map (fun x => size * x % all) ++ [size * ws[i] % all] := by rw [et, List.map_append]; rfl
    have := ih (i + 1) k (by omega) (by omega)
    rw [eq1, eq2] at this
    rw [spec_Share.l1, if_pos (by omega), if_pos (by omega), if_neg (by omega), if_pos (by omega), Option.bind_some, if_pos (by omega), if_pos (by rw [List.length_append, hlq, List.length_singleton]; omega), e, w64 (x := size * ws[i]) (by omega) (by omega), Int.tdiv_eq_ediv_of_nonneg hm0, emod_is _ _ hm0, w64 (x := size * ws[i] / all) (by omega) (by omega), w64 (x := (i : Int) + 1) (by omega) (by omega)]
    have er : rd (impl_Share.quots size all (ws.take i) ++ [size * ws[i] / all]) (i : Int) = size * ws[i] / all := by
      rw [rd_nat, List.getD_eq_getElem?_getD, List.getElem?_append_right (by omega), hlq, Nat.sub_self]; rfl
    rw [er, w64 (by omega) (by omega)]
    rw [List.sum_append, List.sum_singleton, show ((i + 1 : Nat) : Int) = (i : Int) + 1 by omega] at this
    rw [← this]
    congr 1
    omega

theorem shareL0 (a0 : Int) (ws : List Int) (hl : ws.length ≤ 1000) (K : Nat) (r : List Int × Int)
    (hend : ws.all (fun x => decide (0 ≤ x ∧ x ≤ 1000000)) = true → ∀ k, K ≤ k → (if ws.sum = 0 then some (([] : List Int), (10 : Int)) else if a0 < 0 then spec_Share.j2 k a0 ws ws.sum (-1) else spec_Share.j2 k a0 ws ws.sum 1) = some r)
    (hbad : ws.all (fun x => decide (0 ≤ x ∧ x ≤ 1000000)) = false → r = ([], 1)) :
    ∀ d i k, i + d = ws.length → K + d < k → (∀ x ∈ ws.take i, 0 ≤ x ∧ x ≤ 1000000) → spec_Share.l0 k a0 ws (ws.take i).sum (i : Int) = some r := by
  intro d
  induction d with
  | zero =>
    intro i k hi hk hx
    obtain ⟨k, rfl⟩ : ∃ m, k = m + 1 := ⟨k - 1, by omega⟩
    rw [List.take_of_length_le (by omega)] at hx ⊢
    rw [spec_Share.l0, if_neg (by omega)]
    exact hend (List.all_eq_true.2 fun x h => decide_eq_true (hx x h)) k (by omega)
  | succ d ih =>
    intro i k hi hk hx
    obtain ⟨k, rfl⟩ : ∃ m, k = m + 1 := ⟨k - 1, by omega⟩
    have hil : i < ws.length := by omega
    have e : rd ws (i : Int) = ws[i] := by rw [rd_nat, List.getD_eq_getElem?_getD, List.getElem?_eq_getElem hil]; rfl
    rw [spec_Share.l0, if_pos (by omega), if_pos (by omega), e, sIn_is, Option.bind_some]
    by_cases c : 0 ≤ ws[i] ∧ ws[i] ≤ 1000000
    · rw [decide_eq_true c, if_pos rfl]
      have et : ws.take (i + 1) = ws.take i ++ [ws[i]] := List.take_succ_eq_append_getElem hil
      have hb := impl_Share.sum_bd (ws.take i) 1000000 hx
      have hlt : (ws.take i).length = i := by rw [List.length_take]; omega
      rw [hlt] at hb
      have := ih (i + 1) k (by omega) (by omega) (fun x h => by
        rw [et, List.mem_append, List.mem_singleton] at h
        rcases h with h | h
        · exact hx x h
        · rw [h]; exact c)
      rw [et, List.sum_append, List.sum_singleton, show ((i + 1 : Nat) : Int) = (i : Int) + 1 by omega] at this
      rw [w64 (by omega) (by omega), w64 (x := (i : Int) + 1) (by omega) (by omega)]
      exact this
    · rw [decide_eq_false c, if_neg (by decide)]
      rw [hbad]
      cases h : ws.all (fun x => decide (0 ≤ x ∧ x ≤ 1000000)) with
      | false => rfl
      | true => exact absurd (of_decide_eq_true (List.all_eq_true.1 h _ (List.getElem_mem hil))) c

/-- What the reference answers, the program answers. -/
theorem share_both (a0 : Int) (ws : List Int) : ∃ r, impl_Share.f a0 ws = some r ∧ r.1.length ≤ 60 ∧ ∀ k, 10000 ≤ k → spec_Share.f k a0 ws = some r := by
  unfold impl_Share.f
  by_cases h1 : (ws.length : Int) > 4096
  · rw [if_pos h1]
    exact ⟨_, rfl, by simp, fun k hk => by unfold spec_Share.f; rw [if_pos h1]⟩
  rw [if_neg h1]
  have hm : spec_l01Money.f a0 = some (decide (-1000000000 ≤ a0 ∧ a0 ≤ 1000000000)) := by
    unfold spec_l01Money.f
    rw [sIn_is]; rfl
  have hj : ∀ k, 2 ≤ k → spec_Share.j0 k a0 ws true = some ([], 1) := fun k hk => by
    obtain ⟨k, rfl⟩ : ∃ m, k = m + 1 := ⟨k - 1, by omega⟩
    rw [spec_Share.j0, if_pos rfl]
  by_cases h2 : -1000000000 ≤ a0 ∧ a0 ≤ 1000000000
  rotate_left
  · rw [if_neg (by omega)]
    exact ⟨_, rfl, by simp, fun k hk => by unfold spec_Share.f; rw [if_neg h1, hm, Option.bind_some, decide_eq_false h2, if_neg (by decide)]; exact hj k (by omega)⟩
  by_cases h3 : 1 ≤ ws.length ∧ ws.length ≤ 60
  rotate_left
  · rw [if_neg (by omega)]
    refine ⟨_, rfl, by simp, fun k hk => ?_⟩
    unfold spec_Share.f
    rw [if_neg h1, hm, Option.bind_some, decide_eq_true h2, if_pos rfl]
    by_cases h4 : (ws.length : Int) < 1
    · rw [if_pos h4]; exact hj k (by omega)
    · rw [if_neg h4, decide_eq_true (show (ws.length : Int) > 60 by omega)]; exact hj k (by omega)
  rw [if_pos (by omega)]
  have hs : ∀ k, 9000 ≤ k → ∀ r : List Int × Int, (∀ k, 8000 ≤ k → spec_Share.l0 k a0 ws 0 0 = some r) → spec_Share.f k a0 ws = some r := fun k hk r h => by
    unfold spec_Share.f
    rw [if_neg h1, hm, Option.bind_some, decide_eq_true h2, if_pos rfl, if_neg (by omega), decide_eq_false (show ¬ (ws.length : Int) > 60 by omega)]
    obtain ⟨k, rfl⟩ : ∃ m, k = m + 1 := ⟨k - 1, by omega⟩
    rw [spec_Share.j0, if_neg (by decide)]
    exact h k (by omega)
  cases ha : ws.all (fun x => decide (0 ≤ x ∧ x ≤ 1000000)) with
  | false =>
    rw [if_neg (by decide)]
    refine ⟨_, rfl, by simp, fun k hk => hs k (by omega) _ fun k hk => ?_⟩
    have := shareL0 a0 ws (by omega) 1000 ([], 1) (fun h => by rw [ha] at h; cases h) (fun _ => rfl) ws.length 0 k (by omega) (by omega) (by simp)
    simpa using this
  | true =>
    rw [if_pos rfl]
    have hx : ∀ x ∈ ws, 0 ≤ x ∧ x ≤ 1000000 := fun x h => of_decide_eq_true (List.all_eq_true.1 ha x h)
    have hsb := impl_Share.sum_bd ws 1000000 hx
    by_cases h5 : ws.sum = 0
    · rw [if_pos h5]
      refine ⟨_, rfl, by simp, fun k hk => hs k (by omega) _ fun k hk => ?_⟩
      have := shareL0 a0 ws (by omega) 1000 ([], 10) (fun _ k _ => by rw [if_pos h5]) (fun h => by rw [ha] at h; cases h) ws.length 0 k (by omega) (by omega) (by simp)
      simpa using this
    · rw [if_neg h5]
      obtain ⟨size, hsz⟩ : ∃ s, s = impl_Share.size a0 := ⟨_, rfl⟩
      have hszb : 0 ≤ size ∧ size ≤ 1000000000 := by rw [hsz]; unfold impl_Share.size; split <;> omega
      have hpos : 0 < ws.sum := by omega
      have hleft := impl_Share.left_bd size ws hpos
      have hqb := impl_Share.quots_bd size ws.sum ws 1000000000 1000000 hszb (by omega) hpos hx (by omega)
      have hlq : (impl_Share.quots size ws.sum ws).length = ws.length := by unfold impl_Share.quots; rw [List.length_map]
      rw [← hsz]
      refine ⟨_, rfl, ?_, fun k hk => hs k (by omega) _ fun k hk => ?_⟩
      · unfold impl_Share.out
        simp only [List.length_map, impl_Share.incs_length, hlq]; omega
      obtain ⟨m, hml⟩ : ∃ m, ws.length = m + 1 := ⟨ws.length - 1, by omega⟩
      obtain ⟨n, hn⟩ : ∃ n : Nat, size - (impl_Share.quots size ws.sum ws).sum = (n : Int) := ⟨(size - (impl_Share.quots size ws.sum ws).sum).toNat, by omega⟩
      have hn60 : n ≤ 60 := by omega
      have hnm : n * (m + 3) ≤ 60 * (m + 3) := Nat.mul_le_mul_right _ hn60
      obtain ⟨out, hout⟩ : ∃ o, o = impl_Share.out size ws.sum ws := ⟨_, rfl⟩
      have hout2 : out = impl_Share.incs (impl_Share.quots size ws.sum ws) (greedy n (ws.map fun x => size * x % ws.sum)) := by
        rw [hout]; unfold impl_Share.out; rw [hn, Int.toNat_natCast]
      have hgl : ∀ (n : Nat) (l : List Int), (greedy n l).length = n := fun n => by
        induction n with
        | zero => intro l; rfl
        | succ n ih => intro l; rw [greedy, List.length_cons, ih]
      have hob : ∀ j, 0 ≤ out.getD j 0 ∧ out.getD j 0 ≤ 4000000000000000 := fun j => by
        have := impl_Share.incs_bd (greedy n (ws.map fun x => size * x % ws.sum)) 0 _ _ (by omega) hqb j
        rw [hgl, ← hout2] at this
        omega
      have hol : out.length = ws.length := by rw [hout2, impl_Share.incs_length, hlq]
      have L : ∀ x8 : Int, (x8 = if a0 < 0 then -1 else 1) → ∀ k, 6000 ≤ k → spec_Share.l1 k ws ws.sum x8 size [] [] size 0 = some (out.map (fun x => if a0 < 0 then -x else x), 0) := fun x8 h8 k hk => by
        have := shareL1 ws ws.sum x8 size (by omega) hszb hpos hx 5000 (some (out.map (fun x => if a0 < 0 then -x else x), 0)) (fun k hk => ?_) ws.length 0 k (by omega) (by omega)
        · simpa [impl_Share.quots] using this
        · rw [hn]
          refine shareL2 x8 _ 100 m (by omega) n _ _ 1000000000000000 (by rw [List.length_map]; exact hml) (by rw [hlq]; exact hml) (by omega) (by omega) (by omega) (fun j => by have := hqb j; omega) (fun k hk => ?_) k (by omega)
          rw [← hout2]
          have := shareL4 a0 x8 h8 out (by omega) hob out.length 0 k (by omega) (by omega)
          rwa [show impl_Share.signs a0 0 out = out by unfold impl_Share.signs; rfl] at this
      have := shareL0 a0 ws (by omega) 7000 (out.map (fun x => if a0 < 0 then -x else x), 0) (fun _ k hk => ?_) (fun h => by rw [ha] at h; cases h) ws.length 0 k (by omega) (by omega) (by simp)
      · rw [← hout]
        simpa using this
      · rw [if_neg h5]
        obtain ⟨k, rfl⟩ : ∃ m, k = m + 1 := ⟨k - 1, by omega⟩
        by_cases c : a0 < 0
        · rw [if_pos c, spec_Share.j2, w64 (x := -1 * a0) (by omega) (by omega), show -1 * a0 = size by rw [hsz]; unfold impl_Share.size; rw [if_pos c]; omega]
          exact L (-1) (by rw [if_pos c]) k (by omega)
        · rw [if_neg c, spec_Share.j2, w64 (x := 1 * a0) (by omega) (by omega), show 1 * a0 = size by rw [hsz]; unfold impl_Share.size; rw [if_neg c]; omega]
          exact L 1 (by rw [if_neg c]) k (by omega)

end Go.Proofs.Ytfccbbbejjdakaa
