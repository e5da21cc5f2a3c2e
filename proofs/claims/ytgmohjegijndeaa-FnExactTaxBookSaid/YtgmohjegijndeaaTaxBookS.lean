/- The reference's book of taxes is the same plain value as the program's. -/
import Derived.Test.YtgmohjegijndeaaPAllx0
import Derived.Test.YtgmohjegijndeaaPAllx2
import Derived.Test.YtgmohjegijndeaaPAllx7
import Derived.Test.YtgmohjegijndeaaTaxSums
namespace Go.Proofs.Ytgmohjegijndeaa
open Go.RowKit Go.Proofs.Ytgmohjegijndeaa.PAll Go.Proofs.YtgmohjegijndeaaW.PrintWords Go.Proofs.YtgmohjegijndeaaW.PrintLast

theorem rdTaxLine1 {l : List S45} {i : Nat} (h : i < l.length) : rd_T45 l (i : Int) = l[i] := by
  unfold rd_T45
  rw [Int.toNat_natCast, List.getD_eq_getElem?_getD, List.getElem?_eq_getElem h]; rfl

/-- Of some classes: one that is there has no rate; one that is there has no money. -/
def badR (rate : Nat → Int × Int × Int) (T : Nat → Bool) : Nat → Nat → Bool
  | 0, _ => false
  | d + 1, c => (T c && !decide ((rate c).2.2 = 0)) || badR rate T d (c + 1)
def badM (S : Nat → Int) (T : Nat → Bool) : Nat → Nat → Bool
  | 0, _ => false
  | d + 1, c => (T c && !moneyB (S c)) || badM S T d (c + 1)

theorem bookGo_cases (rate : Nat → Int × Int × Int) (S : Nat → Int) (T : Nat → Bool) (h8 : ∀ c, (rate c).2.2 = 0 ∨ (rate c).2.2 = 8) : ∀ (d c : Nat) (out : List S47) (over : Bool),
    bookGo rate S T d c out over = if badR rate T d c = true then ([], 8) else if (over || badM S T d c) = true then ([], 11) else (out ++ bookRows rate S T d c, 0)
  | 0, c, out, over => by rw [bookGo, badR, badM, bookRows]; cases over <;> simp
  | d + 1, c, out, over => by
    rw [bookGo, badR, badM, bookRows]
    cases ht : T c
    · rw [if_neg (show ¬ (false = true) by decide), if_neg (show ¬ (false = true) by decide), bookGo_cases rate S T h8 d (c + 1)]
      simp
    · rw [if_pos rfl, if_pos rfl]
      rcases h8 c with h | h
      · rw [if_pos h]
        cases hm : moneyB (S c)
        · rw [if_neg (by decide), bookGo_cases rate S T h8 d (c + 1)]
          cases over <;> simp [h]
        · rw [if_pos rfl, bookGo_cases rate S T h8 d (c + 1)]
          cases over <;> cases badM S T d (c + 1) <;> simp [h, sumRow]
      · rw [if_neg (by rw [h]; decide), h]
        simp

theorem taxAtB_code (l : List S66) (c : Int) (own : ByteArray) (day : Int) : (taxAtB l c own day).2.2 = 0 ∨ (taxAtB l c own day).2.2 = 8 := by
  unfold taxAtB
  simp only
  split
  · exact .inl rfl
  · split
    · exact .inl rfl
    · exact .inr rfl

theorem at_cases (l : List S66) (c : Int) (own : ByteArray) (day : Int) (hl : l.length ≤ 60) : ∃ i : Int, (∀ k, 61 ≤ k → spec_l03At.f k l c own day = some i) ∧
    ((i < 0 ∧ (taxAtB l c own day).2.2 = 8) ∨ (0 ≤ i ∧ i < l.length ∧ taxAtB l c own day = ((rd_T66 l i).f4.f0, (rd_T66 l i).f4.f1, 0))) := by
  refine ⟨_, fun k hk => specAt_is l c own day hl k hk, ?_⟩
  have ha := firstAt_bd (fitT c own day) l 0 (by omega)
  have hb := firstAt_bd (fitT c ⟨#[]⟩ day) l 0 (by omega)
  unfold taxAtB
  generalize firstAt (fitT c own day) l 0 = a at *
  generalize firstAt (fitT c ⟨#[]⟩ day) l 0 = b at *
  simp only
  by_cases h : a ≥ 0
  · rw [if_neg (show ¬ a < 0 by omega), if_pos h]
    exact .inr ⟨h, by omega, rfl⟩
  · rw [if_pos (show a < 0 by omega), if_neg h]
    by_cases g : b ≥ 0
    · rw [if_pos g]
      exact .inr ⟨g, by omega, rfl⟩
    · rw [if_neg g]
      exact .inl ⟨by omega, rfl⟩

theorem rdI {l : List Int} (c : Nat) : rd l (c : Int) = l.getD c 0 := by unfold rd; rw [Int.toNat_natCast]
theorem rdBo {l : List Bool} (c : Nat) : rdOf false l (c : Int) = l.getD c false := by unfold rdOf; rw [Int.toNat_natCast]

theorem specMoney_is (n : Int) : spec_l01Money.f n = some (moneyB n) := by
  unfold spec_l01Money.f moneyB
  rw [in1_is]
  rfl

theorem specL2 (l : List S66) (own : ByteArray) (day : Int) (hl : taxesB l = true) (s : List Int) (t : List Bool) (hs : s.length = 10) (ht : t.length = 10) : ∀ (d c k : Nat) (out : List S47), c + d = 10 → out.length + d ≤ 100 → d + 100 < k →
    (∀ c', c ≤ c' → c' < c + d → t.getD c' false = true → (taxAtB l (c' : Int) own day).2.2 = 0) →
    spec_TaxBook.l2 k l own day s t out (c : Int) = some (if badM (fun c => s.getD c 0) (fun c => t.getD c false) d c = true then ([], 11) else (out ++ bookRows (fun c => taxAtB l (c : Int) own day) (fun c => s.getD c 0) (fun c => t.getD c false) d c, 0)) := by
  have hl60 : l.length ≤ 60 ∧ taxGo l l 0 = true := by unfold taxesB at hl; simpa using hl
  intro d
  induction d with
  | zero =>
    intro c k out hc ho hk _
    obtain ⟨k, rfl⟩ : ∃ m, k = m + 1 := ⟨k - 1, by omega⟩
    rw [spec_TaxBook.l2, if_neg (by omega), badM, bookRows]
    simp
  | succ d ih =>
    intro c k out hc ho hk hr
    obtain ⟨k, rfl⟩ : ∃ m, k = m + 1 := ⟨k - 1, by omega⟩
    have w : wrap64 ((c : Int) + 1) = ((c + 1 : Nat) : Int) := by rw [w64 (by omega) (by omega)]; omega
    rw [spec_TaxBook.l2, if_pos (by omega), if_pos (by omega), if_pos (by omega), rdBo, badM, bookRows, w]
    cases hT : t.getD c false
    · rw [if_neg (show ¬ (false = true) by decide), if_neg (show ¬ (false = true) by decide), ih (c + 1) k out (by omega) (by omega) (by omega) (fun c' h1 h2 => hr c' (by omega) (by omega))]
      simp
    · rw [if_pos rfl, if_pos rfl, if_pos (by omega), rdI, specMoney_is]
      simp only [Option.bind_some]
      cases hm : moneyB (s.getD c 0)
      · simp
      · rw [if_pos rfl]
        obtain ⟨i, hi, hh⟩ := at_cases l (c : Int) own day hl60.1
        have h0 := hr c (by omega) (by omega) hT
        rcases hh with ⟨_, h8⟩ | ⟨i0, i1, hv⟩
        · rw [h0] at h8; cases h8
        · have hrb := taxAtB_rate l (c : Int) own day (taxGo_all l l 0 hl60.2) h0
          rw [hi k (by omega)]
          simp only [Option.bind_some]
          rw [if_pos i0, if_pos i1]
          rw [hv] at hrb
          simp only at hrb
          rw [specSplit_is _ _ _ hrb hm k (by omega)]
          simp only [Option.bind_some]
          rw [if_pos (by omega), ih (c + 1) k _ (by omega) (by rw [List.length_append]; simp only [List.length_cons, List.length_nil]; omega) (by omega) (fun c' h1 h2 => hr c' (by omega) (by omega))]
          simp only [sumRow, hv, Bool.not_true, Bool.and_false, Bool.false_or, List.append_assoc, List.singleton_append]

theorem specL1 (l : List S66) (own : ByteArray) (day : Int) (hl : taxesB l = true) (s : List Int) (t : List Bool) (hs : s.length = 10) (ht : t.length = 10) (h0 : badR (fun c => taxAtB l (c : Int) own day) (fun c => t.getD c false) 9 1 = false → ∀ c', 1 ≤ c' → c' < 10 → t.getD c' false = true → (taxAtB l (c' : Int) own day).2.2 = 0) : ∀ (d c k : Nat), c + d = 10 → 2 * d + 200 < k →
    (badR (fun c => taxAtB l (c : Int) own day) (fun c => t.getD c false) 9 1 = badR (fun c => taxAtB l (c : Int) own day) (fun c => t.getD c false) d c) →
    spec_TaxBook.l1 k l own day s t [] (c : Int) = some (bookGo (fun c => taxAtB l (c : Int) own day) (fun c => s.getD c 0) (fun c => t.getD c false) 9 1 [] false) := by
  have hl60 : l.length ≤ 60 ∧ taxGo l l 0 = true := by unfold taxesB at hl; simpa using hl
  intro d
  induction d with
  | zero =>
    intro c k hc hk hb
    obtain ⟨k, rfl⟩ : ∃ m, k = m + 1 := ⟨k - 1, by omega⟩
    rw [badR] at hb
    have := specL2 l own day hl s t hs ht 9 1 k [] (by omega) (by simp) (by omega) (fun c' h1 h2 => h0 hb c' h1 (by omega))
    rw [spec_TaxBook.l1, if_neg (by omega), bookGo_cases _ _ _ (fun c => taxAtB_code l (c : Int) own day), hb, if_neg (by decide), Bool.false_or]
    exact this
  | succ d ih =>
    intro c k hc hk hb
    obtain ⟨k, rfl⟩ : ∃ m, k = m + 2 := ⟨k - 2, by omega⟩
    have w : wrap64 ((c : Int) + 1) = ((c + 1 : Nat) : Int) := by rw [w64 (by omega) (by omega)]; omega
    rw [show k + 2 = (k + 1) + 1 from rfl, spec_TaxBook.l1, if_pos (by omega), if_pos (by omega), if_pos (by omega), rdBo]
    have hb : badR (fun c => taxAtB l (c : Int) own day) (fun c => t.getD c false) 9 1 = ((t.getD c false && !decide ((taxAtB l (c : Int) own day).2.2 = 0)) || badR (fun c => taxAtB l (c : Int) own day) (fun c => t.getD c false) d (c + 1)) := hb
    cases hT : t.getD c false
    · rw [if_neg (by decide), spec_TaxBook.j4, if_neg (by decide), w]
      rw [hT, Bool.false_and, Bool.false_or] at hb
      exact ih (c + 1) k (by omega) (by omega) hb
    · rw [if_pos rfl]
      obtain ⟨i, hi, hh⟩ := at_cases l (c : Int) own day hl60.1
      rw [hi (k + 1) (by omega)]
      simp only [Option.bind_some]
      rw [spec_TaxBook.j4]
      rcases hh with ⟨hn, h8⟩ | ⟨i0, i1, hv⟩
      · rw [decide_eq_true hn, if_pos rfl, bookGo_cases _ _ _ (fun c => taxAtB_code l (c : Int) own day), hb]
        rw [hT, h8, if_pos (by simp)]
      · rw [decide_eq_false (by omega), if_neg (by decide), w]
        rw [hT, hv] at hb
        exact ih (c + 1) k (by omega) (by omega) (by rw [hb]; simp)

theorem badR_none (rate : Nat → Int × Int × Int) (T : Nat → Bool) : ∀ (d c : Nat), badR rate T d c = false → ∀ c', c ≤ c' → c' < c + d → T c' = true → (rate c').2.2 = 0
  | 0, c, _, c', h1, h2, _ => by omega
  | d + 1, c, h, c', h1, h2, ht => by
    rw [badR, Bool.or_eq_false_iff] at h
    by_cases e : c' = c
    · subst e
      have := h.1
      rw [ht, Bool.true_and] at this
      simpa using this
    · exact badR_none rate T d (c + 1) h.2 c' (by omega) (by omega) ht

theorem specL0 (l : List S66) (own : ByteArray) (day : Int) (hl : taxesB l = true) (l3 : List S45) (h3 : l3.length ≤ 4096) : ∀ (d i k : Nat) (s : List Int) (t : List Bool), i + d = l3.length → s.length = 10 → t.length = 10 → 2 * d + 300 < k →
    spec_TaxBook.l0 k l own day l3 s t (i : Int) = some (if (l3.drop i).all lineB = true then
      bookGo (fun c => taxAtB l (c : Int) own day) (fun c => (impl_TaxBook.sum (l3.drop i) s t).1.getD c 0) (fun c => (impl_TaxBook.sum (l3.drop i) s t).2.getD c false) 9 1 [] false else ([], 5)) := by
  intro d
  induction d with
  | zero =>
    intro i k s t hi hs ht hk
    obtain ⟨k, rfl⟩ : ∃ m, k = m + 1 := ⟨k - 1, by omega⟩
    rw [spec_TaxBook.l0, if_neg (by omega), List.drop_eq_nil_of_le (by omega), impl_TaxBook.sum, if_pos (show ([] : List S45).all lineB = true by rfl)]
    have := specL1 l own day hl s t hs ht (fun h c' h1 h2 => badR_none _ _ 9 1 h c' h1 (by omega)) 9 1 k (by omega) (by omega) rfl
    exact this
  | succ d ih =>
    intro i k s t hi hs ht hk
    obtain ⟨k, rfl⟩ : ∃ m, k = m + 2 := ⟨k - 2, by omega⟩
    have hil : i < l3.length := by omega
    have w : wrap64 ((i : Int) + 1) = ((i + 1 : Nat) : Int) := by rw [w64 (by omega) (by omega)]; omega
    rw [show k + 2 = (k + 1) + 1 from rfl, spec_TaxBook.l0, if_pos (by omega), if_pos (by omega), rdTaxLine1 hil, List.drop_eq_getElem_cons hil, List.all_cons, in1_is]
    simp only [Option.bind_some]
    generalize l3[i] = x
    cases hc : decide (1 ≤ x.f0 ∧ x.f0 ≤ 9)
    · rw [if_neg (by decide), spec_TaxBook.j2, if_pos rfl, if_neg]
      unfold lineB; rw [hc]; simp
    · rw [if_pos rfl, specMoney_is]
      simp only [Option.bind_some]
      rw [spec_TaxBook.j2]
      have hx := of_decide_eq_true hc
      cases hm : moneyB x.f1
      · rw [if_pos (by decide), if_neg]
        unfold lineB; unfold moneyB at hm; rw [hm]; simp
      · have hlb : lineB x = true := by unfold lineB; unfold moneyB at hm; rw [hc, hm]; rfl
        rw [if_neg (by decide), if_pos (by omega), if_pos (by omega), if_pos (by omega), w, ih (i + 1) k _ _ (by omega) (by rw [List.length_set]; exact hs) (by rw [List.length_set]; exact ht) (by omega), hlb, Bool.true_and, impl_TaxBook.sum]
        rfl

theorem specBook_is (l0 : List S66) (own : ByteArray) (day : Int) (l3 : List S45) (k : Nat) (hk : 2 * 4096 + 5000 ≤ k) : spec_TaxBook.f k l0 own day l3 = some (bookB l0 own day l3) := by
  obtain ⟨k, rfl⟩ : ∃ m, k = m + 1 := ⟨k - 1, by omega⟩
  have J : ∀ b, spec_TaxBook.j0 (k + 1) l0 own day l3 b = some (if b = true then ([], 2) else if taxesB l0 = true then (if l3.length ≤ 4096 then (if l3.all lineB = true then
      bookGo (fun c => taxAtB l0 (c : Int) own day) (fun c => sumAt l3 (c : Int)) (fun c => hasAt l3 (c : Int)) 9 1 [] false else ([], 5)) else ([], 2)) else ([], 1)) ∨ (b = false ∧ ¬ l3.length ≤ 4096) := by
    intro b
    rw [spec_TaxBook.j0]
    cases b
    · by_cases h3 : l3.length ≤ 4096
      · left
        rw [if_neg (by decide), if_neg (by decide), specTaxes_is _ _ (by omega)]
        simp only [Option.bind_some]
        cases ht : taxesB l0
        · rw [if_neg (by decide), if_neg (by decide)]
        · rw [if_pos rfl, if_pos rfl, if_pos h3]
          have := specL0 l0 own day ht l3 h3 l3.length 0 k (List.replicate 10 0) (List.replicate 10 false) (by omega) (by simp) (by simp) (by omega)
          rw [List.drop_zero] at this
          refine Eq.trans this ?_
          by_cases ha : l3.all lineB = true
          · rw [if_pos ha, if_pos ha]
            have z : ∀ c : Nat, c < 10 → (List.replicate 10 (0 : Int)).getD c 0 = 0 := by decide
            have zt : ∀ c : Nat, c < 10 → (List.replicate 10 false).getD c false = false := by decide
            have hs := sum_is l3 (List.replicate 10 0) (List.replicate 10 false) 0 ha (by simp) (by simp) (by omega) (by omega) (fun c hc => by rw [z c hc]; omega)
            congr 1
            refine bookGo_congr _ _ _ _ _ (fun c hc => ?_) 9 1 [] false (by omega)
            have := hs c hc
            refine ⟨this.1.trans ?_, this.2.trans ?_⟩
            · rw [z c hc]; omega
            · rw [zt c hc]; rfl
          · rw [if_neg ha, if_neg ha]
      · exact .inr ⟨rfl, h3⟩
    · left; rw [if_pos rfl, if_pos rfl]
  unfold spec_TaxBook.f bookB
  by_cases h0 : (l0.length : Int) > 4096
  · rw [if_pos h0, if_neg (show ¬ (l0.length ≤ 4096 ∧ own.size ≤ 65536 ∧ l3.length ≤ 4096) by omega)]
    rcases J true with h | ⟨h, _⟩
    · rw [h, if_pos rfl]
    · cases h
  · rw [if_neg h0]
    by_cases h1 : (own.size : Int) > 65536
    · rw [if_pos h1, if_neg (show ¬ (l0.length ≤ 4096 ∧ own.size ≤ 65536 ∧ l3.length ≤ 4096) by omega)]
      rcases J true with h | ⟨h, _⟩
      · rw [h, if_pos rfl]
      · cases h
    · rw [if_neg h1]
      by_cases h2 : (l3.length : Int) > 4096
      · rw [decide_eq_true h2, if_neg (show ¬ (l0.length ≤ 4096 ∧ own.size ≤ 65536 ∧ l3.length ≤ 4096) by omega)]
        rcases J true with h | ⟨h, _⟩
        · rw [h, if_pos rfl]
        · cases h
      · rw [decide_eq_false h2, if_pos (show l0.length ≤ 4096 ∧ own.size ≤ 65536 ∧ l3.length ≤ 4096 by omega)]
        rcases J false with h | ⟨_, h⟩
        · rw [h, if_neg (by decide), if_pos (show l3.length ≤ 4096 by omega)]
        · omega

end Go.Proofs.Ytgmohjegijndeaa
