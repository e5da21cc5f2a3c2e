/- FnShare is true for every two rows of bytes: the drawn weights are one to ten, not all 0, the parts add up to the amount, each is less than one from its share, a greater weight has no less of it, and below 0 they are the same below 0. -/
import Derived.Test.YtfccbbbejjdakaaPAllx3
import Derived.Test.YtfccbbbejjdakaaPAllx5
import Derived.Test.YtfccbbbejjdakaaShareLaw
import Derived.Test.YtfccbbbejjdakaaAmount
namespace Go.Proofs.Ytfccbbbejjdakaa.Pure
open Go.RowKit Go.Proofs.Ytfccbbbejjdakaa Go.Proofs.Ytfccbbbejjdakaa.PAll Go.Proofs.YtfccbbbejjdakaaW.PrintWords Go.Proofs.YtfccbbbejjdakaaW.PrintLast

theorem sizeS_ok {l : List Int} {i s : Int} (n : Int) (h : SrcOK l i s) (h0 : 1 ≤ n) (h1 : n ≤ 1000000) : ∃ r, spec_l00Src_size.f l i s n = some (r, i, s) ∧ 1 ≤ r ∧ r ≤ n := by
  have hl := h.len
  unfold spec_l00Src_size.f
  rw [w64 (x := (l.length : Int) / 12) (by omega) (by omega), w64 (x := 1 + (l.length : Int) / 12) (by omega) (by omega)]
  refine ⟨_, rfl, ?_⟩
  unfold mn
  split <;> omega

structure WOK (w : List Int) (n : Nat) : Prop where
  len0 : 1 ≤ w.length
  len1 : w.length + n ≤ 10
  el : ∀ x ∈ w, 0 ≤ x ∧ x ≤ 29
  sum : 0 < w.sum

theorem weights_loop : ∀ (n : Nat) (w l : List Int) (i s : Int), WOK w n → SrcOK l i s → i ≤ 1000000 - 3 * n → ∃ w', WOK w' 0 ∧ ∀ k, n < k → spec_WeightsOf.l0 k w n l i s = some w' := by
  intro n
  induction n with
  | zero =>
    intro w l i s hw h hi
    refine ⟨w, hw, fun k hk => ?_⟩
    obtain ⟨k, rfl⟩ : ∃ m, k = m + 1 := ⟨k - 1, by omega⟩
    rw [spec_WeightsOf.l0, if_neg (by omega)]
  | succ n ih =>
    intro w l i s hw h hi
    obtain ⟨r, i', s', e, r0, r1, _, g0, g1, h'⟩ := next_ok 30 h (by omega) (by omega)
    have := r1 (by omega)
    have hl := hw.len1
    have hl0 := hw.len0
    obtain ⟨w', hw', hk'⟩ := ih (w ++ [r]) l i' s' ⟨by rw [List.length_append]; omega, by rw [List.length_append, List.length_singleton]; omega, fun x hx => by
      rcases List.mem_append.1 hx with hx | hx
      · exact hw.el x hx
      · rw [List.mem_singleton.1 hx]; omega, by
      rw [List.sum_append, List.sum_singleton]
      have := hw.sum
      omega⟩ h' (by omega)
    refine ⟨w', hw', fun k hk => ?_⟩
    obtain ⟨k, rfl⟩ : ∃ m, k = m + 1 := ⟨k - 1, by omega⟩
    rw [spec_WeightsOf.l0, if_pos (by omega), e, Option.bind_some, if_pos (by omega), w64 (x := ((n + 1 : Nat) : Int) - 1) (by omega) (by omega), show ((n + 1 : Nat) : Int) - 1 = (n : Int) by omega]
    exact hk' k (by omega)

theorem weights_ok {l : List Int} (hl : (l.length : Int) ≤ 1048576) (hb : ∀ x ∈ l, (Lit.int .u8 x).wf = true) : ∃ w, WOK w 0 ∧ ∀ k, 20 ≤ k → spec_WeightsOf.f k l = some w := by
  have h := source_ok hl hb
  obtain ⟨a, i1, s1, e1, a0, a1, _, g10, g11, h1⟩ := next_ok 9 h (by omega) (by omega)
  have := a1 (by omega)
  obtain ⟨c, e2, c0, c1⟩ := sizeS_ok 9 h1 (by omega) (by omega)
  obtain ⟨n, i3, s3, e3, n0, n1, _, g30, g31, h3⟩ := next_ok (c + 1) h1 (by omega) (by omega)
  have := n1 (by omega)
  obtain ⟨n, rfl⟩ : ∃ q : Nat, n = (q : Int) := ⟨n.toNat, by omega⟩
  have hw : WOK [1 + a] n := ⟨by simp, by simp; omega, fun x hx => by rw [List.mem_singleton.1 hx]; omega, by simp; omega⟩
  obtain ⟨w, hw', ew⟩ := weights_loop n _ l i3 s3 hw h3 (by omega)
  refine ⟨w, hw', fun k hk => ?_⟩
  unfold spec_WeightsOf.f
  rw [show spec_l00Source.f l = some (l, 0, (l.length : Int) % 1000) from rfl, Option.bind_some, e1, Option.bind_some, e2, Option.bind_some, w64 (x := c + 1) (by omega) (by omega), e3, Option.bind_some, w64 (x := 1 + a) (by omega) (by omega)]
  exact ew k (by omega)

theorem sum_loop (l : List Int) (hx : ∀ x ∈ l, 0 ≤ x ∧ x ≤ 1000000000000000) (hl : l.length ≤ 1000) : ∀ (d i k : Nat), i + d = l.length → d < k → laws_sum.l0 k l (l.take i).sum (i : Int) = some l.sum := by
  intro d
  induction d with
  | zero =>
    intro i k hi hk
    obtain ⟨k, rfl⟩ : ∃ q, k = q + 1 := ⟨k - 1, by omega⟩
    rw [laws_sum.l0, if_neg (by omega), List.take_of_length_le (by omega)]
  | succ d ih =>
    intro i k hi hk
    obtain ⟨k, rfl⟩ : ∃ q, k = q + 1 := ⟨k - 1, by omega⟩
    have hil : i < l.length := by omega
    have hx1 := hx _ (List.getElem_mem hil)
    have er : rd l (i : Int) = l[i] := by rw [rd_nat, List.getD_eq_getElem?_getD, List.getElem?_eq_getElem hil]; rfl
    have hb := impl_Share.sum_bd (l.take i) 1000000000000000 (fun x h => hx x (List.mem_of_mem_take h))
    rw [List.length_take] at hb
    have := ih (i + 1) k (by omega) (by omega)
    rw [List.take_succ_eq_append_getElem hil, List.sum_append, List.sum_singleton, show ((i + 1 : Nat) : Int) = (i : Int) + 1 by omega] at this
    rw [laws_sum.l0, if_pos (by omega), if_pos (by omega), er, w64 (x := (i : Int) + 1) (by omega) (by omega), w64 (by omega) (by omega)]
    exact this

theorem sum_ok (l : List Int) (hx : ∀ x ∈ l, 0 ≤ x ∧ x ≤ 1000000000000000) (hl : l.length ≤ 1000) (k : Nat) (hk : 1001 ≤ k) : laws_sum.f k l = some l.sum := by
  have := sum_loop l hx hl l.length 0 k (by omega) (by omega)
  unfold laws_sum.f
  simpa using this

theorem o_bd (w o : List Int) (n all : Int) (S : Shared n all w o) (hw : WOK w 0) (hn : 0 ≤ n ∧ n ≤ 150000) (ha : 0 < all ∧ all ≤ 300) (i : Nat) (hi : i < w.length) : 0 ≤ o.getD i 0 ∧ o.getD i 0 ≤ 10000000 ∧ 0 ≤ o.getD i 0 * all ∧ o.getD i 0 * all ≤ 10000000 ∧ 0 ≤ n * w.getD i 0 ∧ n * w.getD i 0 ≤ 4350000 := by
  have hx := hw.el (w.getD i 0) (by rw [List.getD_eq_getElem?_getD, List.getElem?_eq_getElem hi]; exact List.getElem_mem hi)
  have h1 := S.near i hi
  have h2 := S.pos i
  have h3 : 0 ≤ n * w.getD i 0 := Int.mul_nonneg hn.1 hx.1
  have h4 : n * w.getD i 0 ≤ 150000 * 29 := Int.mul_le_mul hn.2 hx.2 hx.1 (by omega)
  have h5 : 0 ≤ o.getD i 0 * all := Int.mul_nonneg h2 (by omega)
  have h6 : o.getD i 0 * 1 ≤ o.getD i 0 * all := Int.mul_le_mul_of_nonneg_left (by omega) h2
  omega

theorem l1_ok (w o u : List Int) (n all : Int) (S : Shared n all w o) (hw : WOK w 0) (i : Nat) (hi : i < w.length) (K : Nat) (r : Option Bool) (hend : ∀ k, K ≤ k → laws_FnShare.l0 k w n o u all ((i : Int) + 1) = r) : ∀ d j k, j + d = w.length → K + d < k → laws_FnShare.l1 k w n o u all (i : Int) (j : Int) = r := by
  have hwl := hw.len1
  have hol := S.len
  intro d
  induction d with
  | zero =>
    intro j k hj hk
    obtain ⟨k, rfl⟩ : ∃ q, k = q + 1 := ⟨k - 1, by omega⟩
    rw [laws_FnShare.l1, if_neg (by omega), w64 (x := (i : Int) + 1) (by omega) (by omega)]
    exact hend k (by omega)
  | succ d ih =>
    intro j k hj hk
    obtain ⟨k, rfl⟩ : ∃ q, k = q + 1 := ⟨k - 1, by omega⟩
    have := ih (j + 1) k (by omega) (by omega)
    rw [show ((j + 1 : Nat) : Int) = (j : Int) + 1 by omega] at this
    rw [laws_FnShare.l1, if_pos (by omega), if_pos (by omega), if_pos (by omega), if_pos (by omega), w64 (x := (j : Int) + 1) (by omega) (by omega), rd_nat, rd_nat, rd_nat, rd_nat]
    by_cases c : w.getD i 0 > w.getD j 0
    · rw [if_pos c, if_pos (by omega), if_pos (by omega), if_neg (by have := S.mono i j hi (by omega) c; omega)]
      exact this
    · rw [if_neg c]; exact this

theorem l0_ok (w o u : List Int) (n all : Int) (S : Shared n all w o) (hw : WOK w 0) (hn : 0 ≤ n ∧ n ≤ 150000) (ha : 0 < all ∧ all ≤ 300) (hu : u = o.map fun x => -x) : ∀ d i k, i + d = w.length → 30 * d < k → laws_FnShare.l0 k w n o u all (i : Int) = some true := by
  have hwl := hw.len1
  have hol := S.len
  have hul : u.length = w.length := by rw [hu, List.length_map, hol]
  intro d
  induction d with
  | zero =>
    intro i k hi hk
    obtain ⟨k, rfl⟩ : ∃ q, k = q + 1 := ⟨k - 1, by omega⟩
    rw [laws_FnShare.l0, if_neg (by omega)]
  | succ d ih =>
    intro i k hi hk
    obtain ⟨k, rfl⟩ : ∃ q, k = q + 1 := ⟨k - 1, by omega⟩
    have hil : i < w.length := by omega
    have hb := o_bd w o n all S hw hn ha i hil
    have hne := S.near i hil
    have hui : u.getD i 0 = -(o.getD i 0) := by
      rw [hu, List.getD_eq_getElem?_getD, List.getElem?_map, List.getD_eq_getElem?_getD, List.getElem?_eq_getElem (by omega)]; rfl
    have hj : ∀ b k, 20 + 30 * d < k → b = false → laws_FnShare.j4 k w n o u all (i : Int) b = some true := fun b k hk hb => by
      obtain ⟨k, rfl⟩ : ∃ q, k = q + 1 := ⟨k - 1, by omega⟩
      rw [laws_FnShare.j4, hb, if_neg (by decide)]
      have := l1_ok w o u n all S hw i hil (30 * d + 1) (some true) (fun k hk => by
        have := ih (i + 1) k (by omega) (by omega)
        rwa [show ((i + 1 : Nat) : Int) = (i : Int) + 1 by omega] at this) w.length 0 k (by omega) (by omega)
      exact this
    rw [laws_FnShare.l0, if_pos (by omega), if_pos (by omega), if_pos (by omega), rd_nat, rd_nat, rd_nat, hui]
    generalize o.getD i 0 * all = p at *
    generalize n * w.getD i 0 = q at *
    rw [w64 (x := p) (by omega) (by omega), w64 (x := q) (by omega) (by omega), w64 (x := p - q) (by omega) (by omega), w64 (x := -(p - q)) (by omega) (by omega), w64 (x := -(o.getD i 0)) (by omega) (by omega), if_neg (by omega), if_neg (by omega), if_pos (by omega), if_pos rfl]
    exact hj _ k (by omega) (decide_eq_false (by omega))

theorem FnShare (l0 : List Int) (l1 : List Int) (_ : l0.length ≤ maxLen) (_ : l0.length * 1 ≤ 140737488351232) (hb0 : ∀ x ∈ l0, (Lit.int .u8 x).wf = true) (_ : l1.length ≤ maxLen) (_ : l1.length * 1 ≤ 140737488351232) (hb1 : ∀ x ∈ l1, (Lit.int .u8 x).wf = true) : ∃ k, laws_FnShare.f k l0 l1 = some true := by
  refine ⟨l0.length + 5000, ?_⟩
  unfold laws_FnShare.f
  rw [show l0.length + 5000 = (l0.length + 4999) + 1 from rfl]
  by_cases c0 : (l0.length : Int) > 1048576
  · rw [if_pos c0, laws_FnShare.j0, if_pos rfl]
  rw [if_neg c0]
  by_cases c1 : (l1.length : Int) > 1048576
  · rw [decide_eq_true c1, laws_FnShare.j0, if_pos rfl]
  rw [decide_eq_false c1, laws_FnShare.j0, if_neg (by decide)]
  obtain ⟨w, hw, ew⟩ := weights_ok (l := l0) (by omega) hb0
  obtain ⟨n0, a, b, e2, n00, n01, _⟩ := amount_ok (l := l1) (by omega) hb1
  rw [ew _ (by omega), Option.bind_some, e2, Option.bind_some]
  dsimp only
  have main : ∀ n : Int, 0 ≤ n → n ≤ 150000 → laws_FnShare.j1 (l0.length + 4999) w n = some true := fun n hn0 hn1 => by
    have hwl := hw.len1
    have hwl0 := hw.len0
    have hx : ∀ x ∈ w, 0 ≤ x ∧ x ≤ 1000000 := fun x h => by have := hw.el x h; omega
    have hall : w.all (fun x => decide (0 ≤ x ∧ x ≤ 1000000)) = true := List.all_eq_true.2 fun x h => decide_eq_true (hx x h)
    have S := shared n w (by omega) hx hw.sum
    have hsb := impl_Share.sum_bd w 29 hw.el
    have hsum := hw.sum
    have f1 : impl_Share.f n w = some (impl_Share.out n w.sum w, 0) := by
      unfold impl_Share.f
      rw [if_neg (by omega), if_pos (by omega), if_pos hall, if_neg (by omega), show impl_Share.size n = n by unfold impl_Share.size; rw [if_neg (by omega)]]
      have e : (fun x : Int => if n < 0 then -x else x) = id := by funext x; rw [if_neg (by omega)]; rfl
      rw [e, List.map_id]
    have f2 : impl_Share.f (-n) w = some ((impl_Share.out n w.sum w).map (fun x => -x), 0) := by
      unfold impl_Share.f
      rw [if_neg (by omega), if_pos (by omega), if_pos hall, if_neg (by omega), show impl_Share.size (-n) = n by unfold impl_Share.size; split <;> omega]
      by_cases c : -n < 0
      · have e : (fun x : Int => if -n < 0 then -x else x) = fun x => -x := by funext x; rw [if_pos c]
        rw [e]
      · have e : (fun x : Int => if -n < 0 then -x else x) = id := by funext x; rw [if_neg c]; rfl
        rw [e, List.map_id]
        have hn : n = 0 := by omega
        have hz : (impl_Share.out n w.sum w).map (fun x => -x) = impl_Share.out n w.sum w := by
          apply List.ext_getElem
          · rw [List.length_map]
          · intro i h1 h2
            rw [List.getElem_map]
            have hi : i < w.length := by rw [← S.len]; exact h2
            have hq := S.near i hi
            have hp := S.pos i
            rw [List.getD_eq_getElem?_getD, List.getElem?_eq_getElem h2, Option.getD_some] at hq hp
            have hz0 : n * w.getD i 0 = 0 := by rw [hn, Int.zero_mul]
            rw [hz0] at hq
            rcases Int.lt_or_le 0 (impl_Share.out n w.sum w)[i] with q | q
            · have := Int.mul_le_mul_of_nonneg_right (show 1 ≤ (impl_Share.out n w.sum w)[i] by omega) (show 0 ≤ w.sum by omega)
              omega
            · omega
        rw [hz]
    rw [show l0.length + 4999 = (l0.length + 4998) + 1 from rfl, laws_FnShare.j1, f1, Option.bind_some, w64 (x := -n) (by omega) (by omega), f2, Option.bind_some]
    dsimp only
    generalize hO : impl_Share.out n w.sum w = o at *
    have hob := fun i hi => o_bd w o n w.sum S hw (by omega) (by omega) i hi
    have hol := S.len
    have hox : ∀ x ∈ o, 0 ≤ x ∧ x ≤ 1000000000000000 := fun x h => by
      obtain ⟨j, hj, rfl⟩ := List.getElem_of_mem h
      have := hob j (by omega)
      rw [List.getD_eq_getElem?_getD, List.getElem?_eq_getElem hj, Option.getD_some] at this
      omega
    rw [if_pos rfl, if_pos rfl, if_pos (by rw [hol]), if_pos (by rw [List.length_map, hol]), sum_ok o hox (by omega) _ (by omega), Option.bind_some, S.sum, bne_self_eq_false, show l0.length + 4998 = (l0.length + 4997) + 1 from rfl, laws_FnShare.j2, if_neg (by decide), sum_ok w (fun x h => by have := hw.el x h; omega) (by omega) _ (by omega), Option.bind_some]
    exact l0_ok w o _ n w.sum S hw (by omega) (by omega) rfl w.length 0 _ (by omega) (by omega)
  by_cases c : n0 < 0
  · rw [if_pos c, w64 (x := -n0) (by omega) (by omega)]; exact main _ (by omega) (by omega)
  · rw [if_neg c]; exact main _ (by omega) (by omega)

end Go.Proofs.Ytfccbbbejjdakaa.Pure
