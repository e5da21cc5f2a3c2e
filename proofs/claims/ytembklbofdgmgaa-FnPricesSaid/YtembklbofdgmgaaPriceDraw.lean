/- Drawn price rows are right. -/
import Derived.Test.YtembklbofdgmgaaPAllx0
import Derived.Test.YtembklbofdgmgaaPAllx8
import Derived.Test.YtembklbofdgmgaaPAllx9
import Derived.Test.YtembklbofdgmgaaPriceRows
import Derived.Test.YtembklbofdgmgaaSrc
namespace Go.Proofs.Ytembklbofdgmgaa
open Go.RowKit Go.Proofs.Ytembklbofdgmgaa.PAll Go.Proofs.YtembklbofdgmgaaW.PrintWords Go.Proofs.YtembklbofdgmgaaW.PrintLast

theorem size2_ok {l : List Int} {i s : Int} (n : Int) (h : SrcOK l i s) (h0 : 1 ≤ n) (h1 : n ≤ 1000000) : ∃ r, spec_l00Src_size.f l i s n = some (r, i, s) ∧ 1 ≤ r ∧ r ≤ n := by
  have hl := h.len
  unfold spec_l00Src_size.f
  rw [w64 (x := (l.length : Int) / 12) (by omega) (by omega), w64 (x := 1 + (l.length : Int) / 12) (by omega) (by omega)]
  refine ⟨_, rfl, ?_⟩
  unfold mn
  split <;> omega

theorem pick3_ok {l : List Int} {i s : Int} (a b c : ByteArray) (h : SrcOK l i s) (hi : i ≤ 999999999990) : ∃ r i' s', spec_l00Src_pick.f l i s [a, b, c] = some (r, i', s') ∧ (r = a ∨ r = b ∨ r = c) ∧ i ≤ i' ∧ i' ≤ i + 3 ∧ SrcOK l i' s' := by
  obtain ⟨r, i1, s1, e, a0, a1, _, g, g', h1⟩ := next_ok 3 h hi (by omega)
  have a2 := a1 (by omega)
  unfold spec_l00Src_pick.f
  rw [if_neg (by simp only [List.length_cons, List.length_nil]; omega)]
  simp only [List.length_cons, List.length_nil, Nat.zero_add, Nat.reduceAdd, Int.cast_ofNat_Int]
  rw [e]
  simp only [Option.bind_some]
  rw [if_pos a0, if_pos a2]
  refine ⟨_, i1, s1, rfl, ?_, g, g', h1⟩
  have : r = 0 ∨ r = 1 ∨ r = 2 := by omega
  rcases this with q | q | q <;> subst q
  · exact .inl rfl
  · exact .inr (.inl rfl)
  · exact .inr (.inr rfl)

theorem article_ok {l : List Int} {i s : Int} (h : SrcOK l i s) (hi : i ≤ 999999999990) : ∃ r i' s', spec_l00Src_article.f l i s = some (r, i', s') ∧ nameB r = true ∧ i ≤ i' ∧ i' ≤ i + 3 ∧ SrcOK l i' s' := by
  obtain ⟨r, i', s', e, q, g, g', h'⟩ := pick3_ok (⟨#[109, 105, 108, 107]⟩ : ByteArray) (⟨#[98, 114, 111, 116]⟩ : ByteArray) (⟨#[107, 195, 164, 115, 101]⟩ : ByteArray) h hi
  unfold spec_l00Src_article.f
  rw [e]
  refine ⟨r, i', s', rfl, ?_, g, g', h'⟩
  rcases q with q | q | q <;> rw [q] <;> decide +kernel

theorem zone_ok {l : List Int} {i s : Int} (h : SrcOK l i s) (hi : i ≤ 999999999990) : ∃ r i' s', spec_l00Src_zone.f l i s = some (r, i', s') ∧ placeB r = true ∧ i ≤ i' ∧ i' ≤ i + 3 ∧ SrcOK l i' s' := by
  obtain ⟨r, i', s', e, q, g, g', h'⟩ := pick3_ok (⟨#[]⟩ : ByteArray) (⟨#[110, 111, 114, 116, 104]⟩ : ByteArray) (⟨#[115, 111, 117, 116, 104]⟩ : ByteArray) h hi
  unfold spec_l00Src_zone.f
  rw [e]
  refine ⟨r, i', s', rfl, ?_, g, g', h'⟩
  rcases q with q | q | q <;> rw [q] <;> decide +kernel

theorem prices_loop (l : List Int) : ∀ (d : Nat) (x : List S44) (c i s : Int), c ≤ d → x.length + d ≤ 60 → x.all priceB = true → SrcOK l i s → i + 20 * d ≤ 1000000 →
    ∃ y i' s', (∀ k, d < k → spec_l00Src_prices.l0 k x c l i s = some (y, i', s')) ∧ y.all priceB = true ∧ y.length ≤ x.length + d := by
  intro d
  induction d with
  | zero =>
    intro x c i s hc hx ht h hi
    refine ⟨x, i, s, fun k hk => ?_, ht, by omega⟩
    obtain ⟨k, rfl⟩ : ∃ m, k = m + 1 := ⟨k - 1, by omega⟩
    rw [spec_l00Src_prices.l0, if_neg (by omega)]
  | succ d ih =>
    intro x c i s hc hx ht h hi
    by_cases hz : c > 0
    · obtain ⟨r1, i1, s1, e1, a0, a1, _, g1, g1', h1⟩ := next_ok 50 h (by omega) (by omega)
      obtain ⟨p, i2, s2, e2, hp, g2, g2', h2⟩ := article_ok h1 (by omega)
      obtain ⟨z, i3, s3, e3, hz3, g3, g3', h3⟩ := zone_ok h2 (by omega)
      obtain ⟨r4, i4, s4, e4, c0, c1, _, g4, g4', h4⟩ := next_ok 3 h3 (by omega) (by omega)
      obtain ⟨r5, i5, s5, e5, d0, d1, _, g5, g5', h5⟩ := next_ok 60 h4 (by omega) (by omega)
      obtain ⟨r6, i6, s6, e6, f0, f1, _, g6, g6', h6⟩ := next_ok 9 h5 (by omega) (by omega)
      have a2 := a1 (by omega)
      have c2 := c1 (by omega)
      have d2 := d1 (by omega)
      have f2 := f1 (by omega)
      have hrow : priceB (⟨p, z, wrap64 (1 + r4), r1, wrap64 ((wrap64 (r1 + 1)) + r5), wrap64 (50 + (wrap64 (10 * r6)))⟩ : S44) = true := by
        unfold priceB
        simp only
        rw [w64 (x := 1 + r4) (by omega) (by omega), w64 (x := r1 + 1) (by omega) (by omega), w64 (x := r1 + 1 + r5) (by omega) (by omega), w64 (x := 10 * r6) (by omega) (by omega), w64 (x := 50 + 10 * r6) (by omega) (by omega), hp, hz3,
          decide_eq_true (show 1 ≤ 1 + r4 ∧ 1 + r4 ≤ 5 by omega), decide_eq_true a0, decide_eq_true (show r1 < r1 + 1 + r5 by omega), decide_eq_true (show r1 + 1 + r5 ≤ 10000000 by omega), decide_eq_true (show 0 ≤ 50 + 10 * r6 ∧ 50 + 10 * r6 ≤ 1000000000 by omega)]
        rfl
      obtain ⟨y, i', s', hy, k1, k2⟩ := ih (x ++ [(⟨p, z, wrap64 (1 + r4), r1, wrap64 ((wrap64 (r1 + 1)) + r5), wrap64 (50 + (wrap64 (10 * r6)))⟩ : S44)]) (wrap64 (c - 1)) i6 s6 (by rw [w64 (by omega) (by omega)]; omega) (by rw [List.length_append]; simp only [List.length_cons, List.length_nil]; omega) (by rw [List.all_append, ht, List.all_cons, hrow]; rfl) h6 (by omega)
      rw [List.length_append] at k2
      simp only [List.length_cons, List.length_nil] at k2
      refine ⟨y, i', s', fun k hk => ?_, k1, by omega⟩
      obtain ⟨k, rfl⟩ : ∃ m, k = m + 1 := ⟨k - 1, by omega⟩
      rw [spec_l00Src_prices.l0, if_pos hz, e1]
      simp only [Option.bind_some]
      rw [e2]
      simp only [Option.bind_some]
      rw [e3]
      simp only [Option.bind_some]
      rw [e4]
      simp only [Option.bind_some]
      rw [e5]
      simp only [Option.bind_some]
      rw [e6]
      simp only [Option.bind_some]
      rw [if_pos (by omega)]
      exact hy k (by omega)
    · obtain ⟨y, i', s', hy, k1, k2⟩ := ih x c i s (by omega) (by omega) ht h (by omega)
      exact ⟨y, i', s', fun k hk => hy k (by omega), k1, by omega⟩

theorem rowsOf_ok {l : List Int} (hl : (l.length : Int) ≤ 1048576) (hb : ∀ x ∈ l, (Lit.int .u8 x).wf = true) : ∃ y, (∀ k, 100 ≤ k → spec_RowsOf.f k l = some y) ∧ y.length ≤ 12 ∧ y.all priceB = true := by
  have h := source_ok hl hb
  obtain ⟨c, e, c0, c1⟩ := size2_ok 9 h (by omega) (by omega)
  obtain ⟨r, i1, s1, e1, a0, a1, _, g1, g1', h1⟩ := next_ok (c + 3) h (by omega) (by omega)
  have a2 := a1 (by omega)
  obtain ⟨y, i', s', hy, k1, k2⟩ := prices_loop l 12 [] r i1 s1 (by omega) (by simp) (by rfl) h1 (by omega)
  simp only [List.length_nil] at k2
  refine ⟨y, fun k hk => ?_, by omega, k1⟩
  have es : spec_l00Source.f l = some (l, 0, (l.length : Int) % 1000) := rfl
  unfold spec_RowsOf.f spec_l00Src_prices.f
  rw [es, Option.bind_some]
  have ey := hy k (by omega)
  generalize (l.length : Int) % 1000 = q at *
  simp only
  rw [e]
  simp only [Option.bind_some]
  rw [w64 (x := c + 3) (by omega) (by omega), e1]
  simp only [Option.bind_some]
  rw [ey]
  rfl

end Go.Proofs.Ytembklbofdgmgaa
