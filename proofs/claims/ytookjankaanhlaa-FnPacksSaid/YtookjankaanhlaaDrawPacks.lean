/- Drawn right packs: some list of packs that come to sizes without an error, and a number of units below 5000. -/
import Derived.Test.YtookjankaanhlaaPAllx0
import Derived.Test.YtookjankaanhlaaPAllx12
import Derived.Test.YtookjankaanhlaaPAllx37
import Derived.Test.YtookjankaanhlaaSrc
import Derived.Test.YtookjankaanhlaaPacks
namespace Go.Proofs.Ytookjankaanhlaa
open Go.RowKit Go.Proofs.Ytookjankaanhlaa.PAll Go.Proofs.YtookjankaanhlaaW.PrintWords Go.Proofs.YtookjankaanhlaaW.PrintLast

theorem chance_ok {l : List Int} {i s : Int} (n : Int) (h : SrcOK l i s) (hi : i ≤ 999999999990) (hn : n ≤ 16777216) :
    ∃ r i' s', spec_l00Src_chance.f l i s n = some (r, i', s') ∧ i ≤ i' ∧ i' ≤ i + 3 ∧ SrcOK l i' s' := by
  obtain ⟨r, i', s', e, _, _, _, g, g', hs⟩ := next_ok n h hi hn
  unfold spec_l00Src_chance.f
  rw [e]
  exact ⟨_, i', s', rfl, g, g', hs⟩

theorem size_ok {l : List Int} {i s : Int} (n : Int) (h : SrcOK l i s) (h0 : 1 ≤ n) (h1 : n ≤ 1000000) : ∃ r, spec_l00Src_size.f l i s n = some (r, i, s) ∧ 1 ≤ r ∧ r ≤ n := by
  have hl := h.len
  unfold spec_l00Src_size.f
  rw [w64 (x := (l.length : Int) / 12) (by omega) (by omega), w64 (x := 1 + (l.length : Int) / 12) (by omega) (by omega)]
  refine ⟨_, rfl, ?_⟩
  unfold mn
  split <;> omega

/-- Packs are drawn, whatever the state. -/
theorem packs_loop (l : List Int) (ns : List ByteArray) (hn : ns.length = 7) : ∀ (d : Nat) (x : List S149) (c i s : Int), c ≤ d → (x.length : Int) + d ≤ 1000 → SrcOK l i s → i + 9 * d ≤ 1000000 →
    ∃ y i' s', (∀ k, d < k → spec_l00Src_packs.l0 k x ns c l i s = some (y, i', s')) ∧ (y.length : Int) ≤ x.length + d + 1 ∧ i ≤ i' ∧ i' ≤ i + 9 * d + 6 ∧ SrcOK l i' s' := by
  intro d
  induction d with
  | zero =>
    intro x c i s hc hx h hi
    obtain ⟨r, i1, s1, e1, g1, g1', h1⟩ := chance_ok 8 h (by omega) (by omega)
    cases r
    · refine ⟨x, i1, s1, fun k hk => ?_, by omega, by omega, by omega, h1⟩
      obtain ⟨k, rfl⟩ : ∃ m, k = m + 1 := ⟨k - 1, by omega⟩
      rw [spec_l00Src_packs.l0, if_neg (by omega), e1]
      rfl
    · obtain ⟨r, i2, s2, e2, a0, a1, _, g2, g2', h2⟩ := next_ok 7 h1 (by omega) (by omega)
      have V : ∃ y, spec_l00Src_packs.l0 1 x ns c l i s = some (y, i2, s2) ∧ y.length = x.length + 1 := by
        rw [spec_l00Src_packs.l0, if_neg (by omega), e1]
        simp only [Option.bind_some, if_true]
        rw [e2]
        simp only [Option.bind_some]
        rw [if_pos a0, if_pos (by simp only [List.length_cons, List.length_nil]; have := a1 (by omega); omega), if_pos (by omega)]
        exact ⟨_, rfl, by simp only [List.length_append, List.length_cons, List.length_nil]⟩
      obtain ⟨y, hy, hyl⟩ := V
      refine ⟨y, i2, s2, fun k hk => ?_, by omega, by omega, by omega, h2⟩
      obtain ⟨k, rfl⟩ : ∃ m, k = m + 1 := ⟨k - 1, by omega⟩
      rw [← hy, spec_l00Src_packs.l0, spec_l00Src_packs.l0, if_neg (by omega), if_neg (by omega)]
  | succ d ih =>
    intro x c i s hc hx h hi
    by_cases hz : c > 0
    · obtain ⟨r, i1, s1, e1, a0, a1, _, g1, g1', h1⟩ := next_ok 12 h (by omega) (by omega)
      have hL : (x.length : Int) % 7 < (ns.length : Int) := by rw [hn]; omega
      by_cases hx0 : (x.length : Int) > 0
      · obtain ⟨q, i2, s2, e2, g2, g2', h2⟩ := chance_ok 4 h1 (by omega) (by omega)
        cases q
        · obtain ⟨r3, i3, s3, e3, b0, b1, _, g3, g3', h3⟩ := next_ok (x.length : Int) h2 (by omega) (by omega)
          obtain ⟨y, i', s', hy, k1, k2, k3, k4⟩ := ih (x ++ [(⟨rdOf ByteArray.empty ns ((x.length : Int) % 7), (rd_T149 x r3).f0, wrap64 (1 + r)⟩ : S149)]) (wrap64 (c - 1)) i3 s3 (by rw [w64 (by omega) (by omega)]; omega) (by rw [List.length_append]; simp only [List.length_cons, List.length_nil]; omega) h3 (by omega)
          rw [List.length_append] at k1
          simp only [List.length_cons, List.length_nil] at k1
          refine ⟨y, i', s', fun k hk => ?_, by omega, by omega, by omega, k4⟩
          obtain ⟨k, rfl⟩ : ∃ m, k = m + 1 := ⟨k - 1, by omega⟩
          rw [spec_l00Src_packs.l0, if_pos hz, if_pos (by omega), if_pos hL, e1]
          simp only [Option.bind_some]
          rw [if_pos hx0, e2]
          simp only [Option.bind_some, Bool.false_eq_true, if_false]
          rw [e3]
          simp only [Option.bind_some]
          rw [if_pos b0, if_pos (b1 (by omega)), if_pos (by omega)]
          exact hy k (by omega)
        · obtain ⟨y, i', s', hy, k1, k2, k3, k4⟩ := ih (x ++ [(⟨rdOf ByteArray.empty ns ((x.length : Int) % 7), (⟨#[]⟩ : ByteArray), wrap64 (1 + r)⟩ : S149)]) (wrap64 (c - 1)) i2 s2 (by rw [w64 (by omega) (by omega)]; omega) (by rw [List.length_append]; simp only [List.length_cons, List.length_nil]; omega) h2 (by omega)
          rw [List.length_append] at k1
          simp only [List.length_cons, List.length_nil] at k1
          refine ⟨y, i', s', fun k hk => ?_, by omega, by omega, by omega, k4⟩
          obtain ⟨k, rfl⟩ : ∃ m, k = m + 1 := ⟨k - 1, by omega⟩
          rw [spec_l00Src_packs.l0, if_pos hz, if_pos (by omega), if_pos hL, e1]
          simp only [Option.bind_some]
          rw [if_pos hx0, e2]
          simp only [Option.bind_some, if_true]
          rw [if_pos (by omega)]
          exact hy k (by omega)
      · obtain ⟨y, i', s', hy, k1, k2, k3, k4⟩ := ih (x ++ [(⟨rdOf ByteArray.empty ns ((x.length : Int) % 7), (⟨#[]⟩ : ByteArray), wrap64 (1 + r)⟩ : S149)]) (wrap64 (c - 1)) i1 s1 (by rw [w64 (by omega) (by omega)]; omega) (by rw [List.length_append]; simp only [List.length_cons, List.length_nil]; omega) h1 (by omega)
        rw [List.length_append] at k1
        simp only [List.length_cons, List.length_nil] at k1
        refine ⟨y, i', s', fun k hk => ?_, by omega, by omega, by omega, k4⟩
        obtain ⟨k, rfl⟩ : ∃ m, k = m + 1 := ⟨k - 1, by omega⟩
        rw [spec_l00Src_packs.l0, if_pos hz, if_pos (by omega), if_pos hL, e1]
        simp only [Option.bind_some]
        rw [if_neg hx0, if_pos (by omega)]
        exact hy k (by omega)
    · obtain ⟨y, i', s', hy, k1, k2, k3, k4⟩ := ih x c i s (by omega) (by omega) h (by omega)
      refine ⟨y, i', s', fun k hk => ?_, by omega, by omega, by omega, k4⟩
      have := hy k (by omega)
      exact this

theorem packs_ok {l : List Int} {i s : Int} (h : SrcOK l i s) (hi : i ≤ 1000) : ∃ y i' s', (∀ k, 8 ≤ k → spec_l00Src_packs.f k l i s = some (y, i', s')) ∧ y.length ≤ 8 ∧ i' ≤ 2000 ∧ SrcOK l i' s' := by
  obtain ⟨c, e, c0, c1⟩ := size_ok 6 h (by omega) (by omega)
  obtain ⟨r, i1, s1, e1, a0, a1, _, g1, g1', h1⟩ := next_ok (c + 1) h (by omega) (by omega)
  have a2 := a1 (by omega)
  obtain ⟨ns, hn, hf⟩ : ∃ ns : List ByteArray, ns.length = 7 ∧ ∀ k, spec_l00Src_packs.f k l i s = spec_l00Src_packs.l0 k [] ns r l i1 s1 := by
    apply Exists.intro
    apply And.intro
    rotate_left
    · intro k
      unfold spec_l00Src_packs.f
      rw [e]
      simp only [Option.bind_some]
      rw [w64 (x := c + 1) (by omega) (by omega), e1]
      simp only [Option.bind_some]
      rfl
    · rfl
  obtain ⟨y, i', s', hy, k1, k2, k3, k4⟩ := packs_loop l ns hn 6 [] r i1 s1 (by omega) (by simp) h1 (by omega)
  simp only [List.length_nil] at k1
  exact ⟨y, i', s', fun k hk => by rw [hf]; exact hy k (by omega), by omega, by omega, k4⟩

/-- What is left of drawn packs comes to sizes. -/
theorem cut_loop {l : List Int} {i s : Int} (h : SrcOK l i s) (hi : i ≤ 10000) : ∀ (d : Nat) (x : List S149), x.length = d → d ≤ 1000 →
    ∃ y n, (∀ k, d + 84 < k → spec_PacksOf.l0 k x l i s = some (y, n)) ∧ (packB y).2.1 = 0 ∧ 0 ≤ n ∧ n < 5000 := by
  obtain ⟨r, i1, s1, e1, a0, a1, _, g1, g1', h1⟩ := next_ok 5000 h (by omega) (by omega)
  have a2 := a1 (by omega)
  intro d
  induction d with
  | zero =>
    intro x hx _
    have hx' : x = [] := List.eq_nil_of_length_eq_zero hx
    subst hx'
    refine ⟨[], r, fun k hk => ?_, rfl, a0, a2⟩
    obtain ⟨k, rfl⟩ : ∃ m, k = m + 1 := ⟨k - 1, by omega⟩
    rw [spec_PacksOf.l0, (packs_both [] k (by omega)).2]
    simp only [Option.bind_some]
    rw [if_pos (by rfl), e1]
    rfl
  | succ d ih =>
    intro x hx hd
    by_cases hc : (packB x).2.1 = 0
    · refine ⟨x, r, fun k hk => ?_, hc, a0, a2⟩
      obtain ⟨k, rfl⟩ : ∃ m, k = m + 1 := ⟨k - 1, by omega⟩
      rw [spec_PacksOf.l0, (packs_both x k (by omega)).2]
      simp only [Option.bind_some]
      rw [if_pos hc, e1]
      rfl
    · obtain ⟨y, n, hy, h0, h1, h2⟩ := ih (x.take d) (by rw [List.length_take]; omega) (by omega)
      refine ⟨y, n, fun k hk => ?_, h0, h1, h2⟩
      obtain ⟨k, rfl⟩ : ∃ m, k = m + 1 := ⟨k - 1, by omega⟩
      rw [spec_PacksOf.l0, (packs_both x k (by omega)).2]
      simp only [Option.bind_some]
      rw [if_neg hc, w64 (x := (x.length : Int) - 1) (by omega) (by omega), if_pos (by omega), if_pos (by omega), show ((x.length : Int) - 1).toNat = d by omega]
      exact hy k (by omega)

theorem packsOf_ok {l : List Int} (hl : (l.length : Int) ≤ 1048576) (hb : ∀ x ∈ l, (Lit.int .u8 x).wf = true) : ∃ y n, (∀ k, 100 ≤ k → spec_PacksOf.f k l = some (y, n)) ∧ (packB y).2.1 = 0 ∧ 0 ≤ n ∧ n < 5000 := by
  have h := source_ok hl hb
  obtain ⟨x, i', s', hx, hx8, hi', h'⟩ := packs_ok h (by omega)
  obtain ⟨y, n, hy, h0, h1, h2⟩ := cut_loop h' (by omega) x.length x rfl (by omega)
  refine ⟨y, n, fun k hk => ?_, h0, h1, h2⟩
  have es : spec_l00Source.f l = some (l, 0, (l.length : Int) % 1000) := rfl
  unfold spec_PacksOf.f
  rw [es, Option.bind_some]
  have ex := hx k (by omega)
  have ey := hy k (by omega)
  generalize (l.length : Int) % 1000 = q at *
  show (spec_l00Src_packs.f k l 0 q).bind _ = _
  rw [ex, Option.bind_some]
  exact ey

/-- Without an error no name is told. -/
theorem packGo_who (rows : List S149) : ∀ (l : List S149) (i : Nat) (out : List Int), (packGo rows l i out).2.1 = 0 → (packGo rows l i out).2.2 = ⟨#[]⟩
  | [], _, _, _ => rfl
  | p :: rest, i, out, h => by
    have ih := fun x => packGo_who rows rest (i + 1) (out ++ [x])
    rw [packGo] at h ⊢
    split at h
    · rename_i h1
      rw [if_pos h1]
      split at h
      · exact absurd h (show ¬ ((7 : Int) = 0) by decide)
      · rename_i h2
        rw [if_neg h2]
        split at h
        · rename_i h3
          rw [if_pos h3]; exact ih _ h
        · rename_i h3
          rw [if_neg h3]
          split at h
          · exact absurd h (show ¬ ((6 : Int) = 0) by decide)
          · rename_i h4
            rw [if_neg h4]
            split at h
            · exact absurd h (show ¬ ((11 : Int) = 0) by decide)
            · rename_i h5
              rw [if_neg h5]; exact ih _ h
    · exact absurd h (show ¬ ((1 : Int) = 0) by decide)

theorem packB_who (l : List S149) (h : (packB l).2.1 = 0) : (packB l).2.2 = ⟨#[]⟩ := by
  unfold packB at h ⊢
  by_cases a : l.length > 4096
  · rw [if_pos a] at h; exact absurd h (by decide)
  · rw [if_neg a] at h ⊢
    by_cases b : l.length > 30
    · rw [if_pos b] at h; exact absurd h (by decide)
    · rw [if_neg b] at h ⊢
      exact packGo_who l l 0 [] h

theorem sameInts_refl (l : List Int) (h : l.length ≤ 2000000) (k : Nat) (hk : l.length < k) : laws_sameInts.f k l l = some true := by
  have hh : ∀ d i k, i + d = l.length → d < k → laws_sameInts.l0 k l l (i : Int) = some true := by
    intro d
    induction d with
    | zero =>
      intro i k hi hk
      obtain ⟨k, rfl⟩ : ∃ m, k = m + 1 := ⟨k - 1, by omega⟩
      rw [laws_sameInts.l0, if_neg (by omega)]
    | succ d ih =>
      intro i k hi hk
      obtain ⟨k, rfl⟩ : ∃ m, k = m + 1 := ⟨k - 1, by omega⟩
      rw [laws_sameInts.l0, if_pos (by omega), if_pos (by omega), if_pos (by omega), if_pos rfl, w64 (x := (i : Int) + 1) (by omega) (by omega)]
      have := ih (i + 1) k (by omega) (by omega)
      rwa [show ((i + 1 : Nat) : Int) = (i : Int) + 1 by omega] at this
  unfold laws_sameInts.f
  rw [if_pos rfl]
  have := hh l.length 0 k (by omega) hk
  simpa using this

end Go.Proofs.Ytookjankaanhlaa
