/- FnExactTaxBook is true for every book of taxes, place, day and lines: what is too long is let by by the law's own guards; otherwise both sides give the same sums and error, the rows and lines stay as they were, and the sums lie apart from whatever else was handed out. -/
import Derived.Test.YtgmohjegijndeaaPAllx0
import Derived.Test.YtgmohjegijndeaaPAllx1
import Derived.Test.YtgmohjegijndeaaPAllx3
import Derived.Test.YtgmohjegijndeaaPAllx7
import Derived.Test.YtgmohjegijndeaaPAllx8
import Derived.Test.YtgmohjegijndeaaTaxBookS
import Derived.Test.YtgmohjegijndeaaTaxMark
namespace Go.Proofs.Ytgmohjegijndeaa.Pure
open Go.RowKit Go.Proofs.Ytgmohjegijndeaa Go.Proofs.Ytgmohjegijndeaa.PAll Go.Proofs.YtgmohjegijndeaaW.PrintWords Go.Proofs.YtgmohjegijndeaaW.PrintLast

theorem bookB_len (l0 : List S66) (own : ByteArray) (day : Int) (l3 : List S45) : (bookB l0 own day l3).1.length ≤ 9 := by
  unfold bookB
  split
  · split
    · split
      · rw [bookGo_cases _ _ _ (fun c => taxAtB_code l0 (c : Int) own day)]
        split
        · simp
        · split
          · simp
          · rw [List.nil_append]; exact (bookRows_len (fun c => taxAtB l0 (c : Int) own day) (fun c => sumAt l3 (c : Int)) (fun c => hasAt l3 (c : Int)) 9 1 :)
      · simp
    · simp
  · simp

theorem szTaxLineS_ok (l : List S69) (hl : l.length ≤ 9223372036854775807) (left : Int) (h0 : 0 ≤ left) (h1 : left ≤ 1048576) : ∃ r, laws_szTaxLineS.f l left = some r ∧ (r < 0 ∨ (0 ≤ r ∧ l.length ≤ 1048576)) := by
  unfold laws_szTaxLineS.f
  rw [w64 (x := left - (l.length : Int)) (by omega) (by omega)]
  by_cases h : left - (l.length : Int) < 0
  · exact ⟨-1, by rw [if_pos h], by omega⟩
  · exact ⟨_, by rw [if_neg h], by omega⟩

theorem FnExactTaxBook (l0 : List S56) (a1 : ByteArray) (a2 : Int) (l3 : List S69) (h : l0.length ≤ 9223372036854775807 ∧ ∀ y ∈ l0, okS56 y) (_ : a1.size ≤ 9223372036854775807) (_ : (Lit.int .i64 a2).wf = true)
    (h3 : l3.length ≤ 9223372036854775807 ∧ ∀ y ∈ l3, okS69 y) : ∃ k, laws_FnExactTaxBook.f k l0 a1 a2 l3 = some true := by
  obtain ⟨r, h1, h2, hr0⟩ := szTaxRowS_ok' l0 h.1 h.2
  refine ⟨l0.length + l3.length + 20184, ?_⟩
  unfold laws_FnExactTaxBook.f
  by_cases hsz : (a1.size : Int) > 1048576
  · rw [if_pos hsz]
  rw [if_neg hsz, h1 _ (by omega)]
  simp only [Option.bind_some]
  by_cases hn : r < 0
  · rw [if_pos hn]
  rw [if_neg hn]
  obtain ⟨r', e', hr'⟩ := szTaxLineS_ok l3 h3.1 r (by omega) hr0
  rw [e']
  simp only [Option.bind_some]
  by_cases hn' : r' < 0
  · rw [if_pos hn']
  rw [if_neg hn']
  have hl : l0.length ≤ 1048576 := by omega
  have hl3 : l3.length ≤ 1048576 := by omega
  have hc : ∀ k, l0.length < k → laws_toTaxRowS.f k l0 = some (l0.map cvTaxRow) := fun k hk => toTaxRowS_is l0 hl k hk
  have hc3 : ∀ k, l3.length < k → laws_toTaxLineS.f k l3 = some (l3.map cvTaxLine) := fun k hk => toTaxLineS_is l3 hl3 k hk
  have hlen : (l0.map cvTaxRow).length = l0.length := List.length_map _
  have hlen3 : (l3.map cvTaxLine).length = l3.length := List.length_map _
  have hq : ∀ k, l0.length < k → laws_eqTaxRowS.f k (l0.map cvTaxRow) (l0.map cvTaxRow) = some true := fun k hk => eqTaxRowS_refl _ (by omega) k (by omega)
  have hq3 : ∀ k, l3.length < k → laws_eqTaxLineS.f k (l3.map cvTaxLine) (l3.map cvTaxLine) = some true := fun k hk => eqTaxLineS_refl _ (by omega) k (by omega)
  have hb := fun k hk => specBook_is (l0.map cvTaxRow) a1 a2 (l3.map cvTaxLine) k hk
  have hi := fun k hk => implBook_is (l0.map cvTaxRow) a1 a2 (l3.map cvTaxLine) k hk
  have hm : ∀ k, l0.length + 30 ≤ k → ∃ n l, laws_markTaxRowS.f k (l0.map cvTaxRow) 1 = some (n, l) ∧ 0 ≤ n ∧ n ≤ 1 + 6 * (l0.map cvTaxRow).length := fun k hk => markTaxRow_any _ (by omega) k (by omega)
  have hlo := bookB_len (l0.map cvTaxRow) a1 a2 (l3.map cvTaxLine)
  generalize bookB (l0.map cvTaxRow) a1 a2 (l3.map cvTaxLine) = b at *
  obtain ⟨out, code⟩ := b
  have hlo' : out.length ≤ 9 := hlo
  have hr : ∀ k, 31 ≤ k → laws_eqTaxSumS.f k out out = some true := fun k hk => eqSum_refl out (by omega) k (by omega)
  rw [hc _ (by omega)]
  simp only [Option.bind_some]
  rw [hc3 _ (by omega)]
  simp only [Option.bind_some]
  rw [hb _ (by omega), hi _ (by omega)]
  simp only [Option.bind_some]
  rw [hr _ (by omega)]
  simp only [Option.bind_some, if_true, eq_self, bne_self_eq_false]
  rw [show l0.length + l3.length + 20184 = (l0.length + l3.length + 20183) + 1 from rfl, laws_FnExactTaxBook.j0]
  simp only [Bool.false_eq_true, if_false]
  rw [hc _ (by omega)]
  simp only [Option.bind_some]
  rw [hq _ (by omega)]
  simp only [Option.bind_some, if_true]
  rw [hc3 _ (by omega)]
  simp only [Option.bind_some]
  rw [hq3 _ (by omega)]
  simp only [Option.bind_some, if_true]
  obtain ⟨n, l, e1, e2, e3⟩ := hm (l0.length + l3.length + 20183) (by omega)
  obtain ⟨n', l', g1, g2⟩ := markTaxLine_any (l3.map cvTaxLine) n (by omega) e2 (by omega) (l0.length + l3.length + 20183) (by omega)
  simp only [e1, g1, Option.bind_some, if_neg (show ¬ n' < 0 by omega)]
  rw [hr _ (by omega)]
  simp only [Option.bind_some, if_true, eq_self, bne_self_eq_false]
  rw [show l0.length + l3.length + 20183 = (l0.length + l3.length + 20182) + 1 from rfl, laws_FnExactTaxBook.j1]
  simp only [Bool.false_eq_true, if_false]
  rw [markSum_is out (by omega) _ (by omega)]
  simp only [Option.bind_some]
  rw [heldSum_is out.length (by omega) _ (by omega)]
  simp only [Option.bind_some]
  rw [if_neg (by omega)]
  simp only [if_true]
  rw [hc _ (by omega)]
  simp only [Option.bind_some]
  rw [hc3 _ (by omega)]
  simp only [Option.bind_some]
  rw [hi _ (by omega)]
  simp only [Option.bind_some]
  rw [hr _ (by omega)]
  simp only [Option.bind_some, if_true, eq_self, bne_self_eq_false]
  rw [show l0.length + l3.length + 20182 = (l0.length + l3.length + 20181) + 1 from rfl, laws_FnExactTaxBook.j2]
  simp only [Bool.false_eq_true, if_false]
  rw [heldSum_is out.length (by omega) _ (by omega)]
  simp only [Option.bind_some]
  rw [if_neg (by omega)]
  simp only [if_true]

end Go.Proofs.Ytgmohjegijndeaa.Pure
