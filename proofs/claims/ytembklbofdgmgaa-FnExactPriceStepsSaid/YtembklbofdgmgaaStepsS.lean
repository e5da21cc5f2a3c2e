/- The steps of a price, the reference's side: the same plain value. -/
import Derived.Test.YtembklbofdgmgaaPAllx0
import Derived.Test.YtembklbofdgmgaaPAllx1
import Derived.Test.YtembklbofdgmgaaPAllx5
import Derived.Test.YtembklbofdgmgaaStepsI
namespace Go.Proofs.Ytembklbofdgmgaa
open Go.RowKit Go.Proofs.Ytembklbofdgmgaa.PAll Go.Proofs.YtembklbofdgmgaaW.PrintWords Go.Proofs.YtembklbofdgmgaaW.PrintLast

theorem specAmt_is (l : List S44) (a1 a2 : ByteArray) (m : Int) (hl : l.length ≤ 80) (hp : l.all priceB = true) (k : Nat) (hk : 170 ≤ k) : spec_l04Amount.f k l a1 a2 m = some (amtB l a1 a2 m) := by
  have hb := bestAt_lt l a1 a2 m hl hp
  unfold spec_l04Amount.f amtB
  rw [specAt_best l a1 a2 m hl hp k hk]
  simp only [Option.bind_some]
  by_cases h : bestAt l a1 a2 m < 0
  · rw [if_pos h, if_pos h]
  · rw [if_neg h, if_neg h, if_pos (by omega), if_pos hb]

theorem spec_one (l : List S44) (a1 a2 : ByteArray) (t : Int) (hl : l.length ≤ 80) (hp : l.all priceB = true) (pre : List S40) (s : S40) (hpre : pre.length ≤ 1000) (c at_ : Int) (i k : Nat) (hi : i < l.length) (hk : 170 ≤ k) :
    spec_PriceSteps.l1 (k + 4) l a1 a2 t (pre ++ [s]) c at_ (i : Int) = spec_PriceSteps.l1 k l a1 a2 t (pre ++ [s]) (updB (amtB l a1 a2) at_ s.f1 l[i].f4 (updB (amtB l a1 a2) at_ s.f1 l[i].f3 c)) at_ ((i : Int) + 1) := by
  have hlast := rdLast pre s hpre
  have hlen : (pre.length : Int) < ((pre ++ [s]).length : Int) := by rw [List.length_append]; simp only [List.length_cons, List.length_nil]; omega
  have w : wrap64 ((i : Int) + 1) = (i : Int) + 1 := w64 (by omega) (by omega)
  have p0 : (0 : Int) ≤ (i : Int) := by omega
  have p1 : (i : Int) < (l.length : Int) := by omega
  have p2 : (0 : Int) ≤ (pre.length : Int) := by omega
  have hj5 : ∀ (c : Int) (b : Bool), spec_PriceSteps.j5 (k + 1) l a1 a2 t (pre ++ [s]) c at_ (i : Int) b = spec_PriceSteps.l1 k l a1 a2 t (pre ++ [s]) (if b = true then l[i].f4 else c) at_ ((i : Int) + 1) := by
    intro c b
    cases b
    · rw [spec_PriceSteps.j5, if_neg Bool.false_ne_true, w, if_neg Bool.false_ne_true]
    · rw [spec_PriceSteps.j5, if_pos rfl, if_pos p0, if_pos p1, rdBPriceRow hi, w, if_pos rfl]
  have hu : ∀ b c : Int, updB (amtB l a1 a2) at_ s.f1 b c = if b > at_ then (if b < c then (if (amtB l a1 a2 b != s.f1) = true then b else c) else c) else c := by
    intro b c
    unfold updB
    by_cases h1 : b > at_
    · rw [if_pos h1]
      by_cases h2 : b < c
      · rw [if_pos h2]
        by_cases h3 : amtB l a1 a2 b = s.f1
        · rw [if_neg (show ¬ (at_ < b ∧ b < c ∧ amtB l a1 a2 b ≠ s.f1) from fun q => q.2.2 h3), h3]; simp
        · rw [if_pos (show at_ < b ∧ b < c ∧ amtB l a1 a2 b ≠ s.f1 from ⟨h1, h2, h3⟩), if_pos (by simpa using h3)]
      · rw [if_neg h2, if_neg (show ¬ (at_ < b ∧ b < c ∧ amtB l a1 a2 b ≠ s.f1) from fun q => h2 q.2.1)]
    · rw [if_neg h1, if_neg (show ¬ (at_ < b ∧ b < c ∧ amtB l a1 a2 b ≠ s.f1) from fun q => h1 q.1)]
  have hj4 : ∀ (c : Int), spec_PriceSteps.j4 (k + 2) l a1 a2 t (pre ++ [s]) c at_ (i : Int) = spec_PriceSteps.l1 k l a1 a2 t (pre ++ [s]) (updB (amtB l a1 a2) at_ s.f1 l[i].f4 c) at_ ((i : Int) + 1) := by
    intro c
    rw [show k + 2 = (k + 1) + 1 from rfl, spec_PriceSteps.j4, if_pos p0, if_pos p1, rdBPriceRow hi, hlast.1, hlast.2, hu]
    by_cases h1 : l[i].f4 > at_
    · rw [if_pos h1, if_pos h1]
      by_cases h2 : l[i].f4 < c
      · rw [if_pos h2, if_pos h2, specAmt_is l a1 a2 _ hl hp _ (by omega), Option.bind_some, if_pos p2, if_pos hlen, hj5]
      · rw [if_neg h2, if_neg h2, hj5, if_neg Bool.false_ne_true]
    · rw [if_neg h1, if_neg h1, hj5, if_neg Bool.false_ne_true]
  have hj3 : ∀ (c : Int) (b : Bool), spec_PriceSteps.j3 (k + 3) l a1 a2 t (pre ++ [s]) c at_ (i : Int) b = spec_PriceSteps.l1 k l a1 a2 t (pre ++ [s]) (updB (amtB l a1 a2) at_ s.f1 l[i].f4 (if b = true then l[i].f3 else c)) at_ ((i : Int) + 1) := by
    intro c b
    cases b
    · rw [show k + 3 = (k + 2) + 1 from rfl, spec_PriceSteps.j3, if_neg Bool.false_ne_true, hj4, if_neg Bool.false_ne_true]
    · rw [show k + 3 = (k + 2) + 1 from rfl, spec_PriceSteps.j3, if_pos rfl, if_pos p0, if_pos p1, rdBPriceRow hi, hj4, if_pos rfl]
  rw [show k + 4 = (k + 3) + 1 from rfl, spec_PriceSteps.l1, if_pos p1, if_pos p0, rdBPriceRow hi, hlast.1, hlast.2, hu l[i].f3 c]
  by_cases h1 : l[i].f3 > at_
  · rw [if_pos h1, if_pos h1]
    by_cases h2 : l[i].f3 < c
    · rw [if_pos h2, if_pos h2, specAmt_is l a1 a2 _ hl hp _ (by omega), Option.bind_some, if_pos p2, if_pos hlen, hj3]
    · rw [if_neg h2, if_neg h2, hj3, if_neg Bool.false_ne_true]
  · rw [if_neg h1, if_neg h1, hj3, if_neg Bool.false_ne_true]

theorem spec_rows (l : List S44) (a1 a2 : ByteArray) (t : Int) (hl : l.length ≤ 80) (hp : l.all priceB = true) (pre : List S40) (s : S40) (hpre : pre.length ≤ 1000) (at_ : Int) (R : List S40 × Int) (K : Nat) (hK : 170 ≤ K) : ∀ (d i : Nat) (c : Int) (k : Nat), i + d = l.length → K + 4 * d + 1 ≤ k →
    (∀ k, K ≤ k → (if nextGo (amtB l a1 a2) at_ s.f1 (l.drop i) c = t then some (pre ++ [s], (0 : Int)) else spec_PriceSteps.l0 k l a1 a2 t (pre ++ [s] ++ [(⟨nextGo (amtB l a1 a2) at_ s.f1 (l.drop i) c, amtB l a1 a2 (nextGo (amtB l a1 a2) at_ s.f1 (l.drop i) c)⟩ : S40)])) = some R) →
    spec_PriceSteps.l1 k l a1 a2 t (pre ++ [s]) c at_ (i : Int) = some R := by
  intro d
  induction d with
  | zero =>
    intro i c k hi hk H
    obtain ⟨k, rfl⟩ : ∃ m, k = m + 1 := ⟨k - 1, by omega⟩
    have H := H k (by omega)
    rw [List.drop_eq_nil_of_le (by omega), nextGo] at H
    rw [spec_PriceSteps.l1, if_neg (by omega), specAmt_is l a1 a2 _ hl hp _ (by omega)]
    simp only [Option.bind_some]
    rw [if_pos (show (pre ++ [s]).length < 8796093022208 by rw [List.length_append]; simp only [List.length_cons, List.length_nil]; omega)]
    exact H
  | succ d ih =>
    intro i c k hi hk H
    obtain ⟨k, rfl⟩ : ∃ m, k = m + 4 := ⟨k - 4, by omega⟩
    have hil : i < l.length := by omega
    rw [spec_one l a1 a2 t hl hp pre s hpre c at_ i k hil (by omega)]
    have := ih (i + 1) (updB (amtB l a1 a2) at_ s.f1 l[i].f4 (updB (amtB l a1 a2) at_ s.f1 l[i].f3 c)) k (by omega) (by omega) (fun k hk => by
      have := H k hk
      rw [List.drop_eq_getElem_cons hil, nextGo] at this
      exact this)
    rw [show ((i + 1 : Nat) : Int) = (i : Int) + 1 by omega] at this
    exact this

theorem spec_walk (l : List S44) (a1 a2 : ByteArray) (f t : Int) (_ : f < t) (hl : l.length ≤ 80) (hp : l.all priceB = true) : ∀ (n : Nat) (S1 S2 : List Int) (pre : List S40) (s : S40) (k : Nat), S2.length ≤ n → sortedB f t l = S1 ++ s.f0 :: S2 → s.f1 = amtB l a1 a2 s.f0 → pre.length + S2.length ≤ 500 → (n + 1) * 330 + 200 ≤ k →
    spec_PriceSteps.l0 k l a1 a2 t (pre ++ [s]) = some (pre ++ [s] ++ walkB (amtB l a1 a2) S2 (some s.f1), 0) := by
  intro n
  induction n with
  | zero =>
    intro S1 S2 pre s k hn hS hs hpl hk
    have e : S2 = [] := List.eq_nil_of_length_eq_zero (by omega)
    subst e
    obtain ⟨k, rfl⟩ : ∃ m, k = m + 1 := ⟨k - 1, by omega⟩
    have hlast := rdLast pre s (by omega)
    have hlen : (pre.length : Int) < ((pre ++ [s]).length : Int) := by rw [List.length_append]; simp only [List.length_cons, List.length_nil]; omega
    rw [spec_PriceSteps.l0, hlast.1, hlast.2, if_pos (by omega), if_pos hlen]
    refine spec_rows l a1 a2 t hl hp pre s (by omega) s.f0 _ 170 (by omega) l.length 0 t k (by omega) (by omega) (fun k hk => ?_)
    rw [List.drop_zero]
    have hasc := sorted_asc f t l
    rw [hS, List.pairwise_append] at hasc
    have hN := (next_is (amtB l a1 a2) s.f0 s.f1 t l t (by omega)).1
    rcases hN with e | ⟨⟨h1, h2, h3⟩, r, hr, e⟩
    · rw [if_pos e, walkB, List.append_nil]
    · exfalso
      have hf : f ≤ s.f0 := by
        have : s.f0 ∈ sortedB f t l := by rw [hS]; simp
        rcases (sorted_mem f t l _).1 this with q | q <;> omega
      have hm : nextGo (amtB l a1 a2) s.f0 s.f1 l t ∈ sortedB f t l := (sorted_mem f t l _).2 (.inr ⟨⟨by omega, h2⟩, r, hr, e⟩)
      rw [hS] at hm
      rcases List.mem_append.1 hm with q | q
      · have := hasc.2.2 _ q s.f0 (by simp); omega
      · rw [List.mem_singleton] at q; omega
  | succ n ih =>
    intro S1 S2 pre s k hn hS hs hpl hk
    obtain ⟨k, rfl⟩ : ∃ m, k = m + 1 := ⟨k - 1, by omega⟩
    have hlast := rdLast pre s (by omega)
    have hlen : (pre.length : Int) < ((pre ++ [s]).length : Int) := by rw [List.length_append]; simp only [List.length_cons, List.length_nil]; omega
    rw [spec_PriceSteps.l0, hlast.1, hlast.2, if_pos (by omega), if_pos hlen]
    have hasc := sorted_asc f t l
    have hasc0 := hasc
    rw [hS, List.pairwise_append, List.pairwise_cons] at hasc
    have hf : f ≤ s.f0 := by
      have : s.f0 ∈ sortedB f t l := by rw [hS]; simp
      rcases (sorted_mem f t l _).1 this with q | q <;> omega
    have hin : ∀ b, s.f0 < b → b ∈ sortedB f t l → b ∈ S2 := by
      intro b hb hm
      rw [hS] at hm
      rcases List.mem_append.1 hm with q | q
      · have := hasc.2.2 _ q s.f0 (by simp); omega
      · rcases List.mem_cons.1 q with q | q
        · omega
        · exact q
    have hN := next_is (amtB l a1 a2) s.f0 s.f1 t l t (by omega)
    obtain ⟨K, hK⟩ : ∃ K, K = (n + 1) * 330 + 200 := ⟨_, rfl⟩
    refine spec_rows l a1 a2 t hl hp pre s (by omega) s.f0 _ K (by omega) l.length 0 t k (by omega) (by omega) (fun k hk => ?_)
    rw [List.drop_zero]
    rcases walk_next (amtB l a1 a2) s.f1 S2 hasc.2.1.2 with ⟨h1, h2⟩ | ⟨m, s1, s2, h1, h2, h3, h4⟩
    · rcases hN.1 with e | ⟨⟨g1, g2, g3⟩, r, hr, e⟩
      · rw [if_pos e, h1, List.append_nil]
      · exfalso
        exact g3 (h2 _ (hin _ g1 ((sorted_mem f t l _).2 (.inr ⟨⟨by omega, g2⟩, r, hr, e⟩))))
    · have hm2 : m ∈ S2 := by rw [h1]; simp
      have hms : s.f0 < m := hasc.2.1.1 m hm2
      have hmm : m ∈ sortedB f t l := by rw [hS]; simp [hm2]
      have hmt : m < t ∧ ∃ r ∈ l, m = r.f3 ∨ m = r.f4 := by
        rcases (sorted_mem f t l m).1 hmm with q | q
        · omega
        · exact ⟨q.1.2, q.2⟩
      have hle := hN.2 m ⟨⟨hms, hmt.1, h3⟩, hmt.2⟩
      have eN : nextGo (amtB l a1 a2) s.f0 s.f1 l t = m := by
        rcases hN.1 with e | ⟨⟨g1, g2, g3⟩, r, hr, e⟩
        · omega
        · have hN2 := hin _ g1 ((sorted_mem f t l _).2 (.inr ⟨⟨by omega, g2⟩, r, hr, e⟩))
          have hp2 := hasc.2.1.2
          rw [h1] at hN2 hp2
          rcases List.mem_append.1 hN2 with q | q
          · exact absurd (h2 _ q) g3
          · rcases List.mem_cons.1 q with q | q
            · exact q
            · rw [List.pairwise_append, List.pairwise_cons] at hp2
              have := hp2.2.1.1 _ q
              omega
      rw [eN, if_neg (by omega), h4]
      have hl2 : S2.length = s1.length + (s2.length + 1) := by rw [h1, List.length_append, List.length_cons]
      have q1 : (pre ++ [s]).length + s2.length ≤ 500 := by rw [List.length_append]; simp only [List.length_cons, List.length_nil]; omega
      have q2 : (n + 1) * 330 + 200 ≤ k := by rw [← hK]; exact hk
      have := ih (S1 ++ s.f0 :: s1) s2 (pre ++ [s]) ⟨m, amtB l a1 a2 m⟩ k (by omega) (by rw [hS, h1]; simp) (Eq.refl (amtB l a1 a2 m)) q1 q2
      rw [this]
      simp

theorem specSteps_is (l : List S44) (a1 a2 : ByteArray) (f t : Int) (k : Nat) (hk : 60000 ≤ k) : spec_PriceSteps.f k l a1 a2 f t = some (priceStepsB l a1 a2 f t) := by
  obtain ⟨k, rfl⟩ : ∃ m, k = m + 1 := ⟨k - 1, by omega⟩
  unfold spec_PriceSteps.f priceStepsB spec_l04Long.f
  by_cases h0 : (l.length : Int) > 4096
  · rw [if_pos h0, if_neg (show ¬ (l.length ≤ 4096 ∧ a1.size ≤ 65536 ∧ a2.size ≤ 65536) by omega)]; rfl
  · rw [if_neg h0]
    by_cases h1 : (a1.size : Int) > 65536
    · rw [if_pos h1, if_neg (show ¬ (l.length ≤ 4096 ∧ a1.size ≤ 65536 ∧ a2.size ≤ 65536) by omega)]; rfl
    · rw [if_neg h1]
      simp only [Option.bind_some]
      by_cases h2 : (a2.size : Int) > 65536
      · rw [decide_eq_true h2, if_pos rfl, if_neg (show ¬ (l.length ≤ 4096 ∧ a1.size ≤ 65536 ∧ a2.size ≤ 65536) by omega)]
      · rw [decide_eq_false h2, if_neg Bool.false_ne_true, if_pos (show l.length ≤ 4096 ∧ a1.size ≤ 65536 ∧ a2.size ≤ 65536 by omega), specPrices_is _ _ (by omega)]
        simp only [Option.bind_some]
        by_cases hp : pricesB l = true
        · have hl : l.length ≤ 80 ∧ l.all priceB = true := by unfold pricesB at hp; simpa using hp
          rw [if_pos hp, if_pos hp]
          by_cases hr : 0 ≤ f ∧ f < t ∧ t ≤ 10000000
          · rw [if_neg (show ¬ f < 0 by omega), if_neg (show ¬ f ≥ t by omega), if_pos hr, decide_eq_false (show ¬ t > 10000000 by omega), spec_PriceSteps.j0, if_neg Bool.false_ne_true, specAmt_is l a1 a2 f hl.1 hl.2 k (by omega)]
            simp only [Option.bind_some]
            obtain ⟨rest, hs, _, _⟩ := sorted_cons f t l
            have hlen := sorted_len f t l
            rw [hs, List.length_cons] at hlen
            have := spec_walk l a1 a2 f t hr.2.1 hl.1 hl.2 rest.length [] rest [] ⟨f, amtB l a1 a2 f⟩ k (by omega) (by simpa using hs) rfl (by simp only [List.length_nil]; omega) (by omega)
            unfold stepsB
            rw [hs, walkB, if_neg (by simp)]
            exact this
          · rw [if_neg hr]
            have J : spec_PriceSteps.j0 (k + 1) l a1 a2 f t true = some ([], 5) := by rw [spec_PriceSteps.j0, if_pos rfl]
            by_cases r1 : f < 0
            · rw [if_pos r1, J]
            · rw [if_neg r1]
              by_cases r2 : f ≥ t
              · rw [if_pos r2, J]
              · rw [if_neg r2, decide_eq_true (show t > 10000000 by omega), J]
        · rw [if_neg hp, if_neg hp]

end Go.Proofs.Ytembklbofdgmgaa
