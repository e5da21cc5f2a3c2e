/- The program's side of a book of taxes: one plain value, class by class. -/
import Derived.Test.YtgmohjegijndeaaPAllx0
import Derived.Test.YtgmohjegijndeaaPAllx2
import Derived.Test.YtgmohjegijndeaaPAllx6
import Derived.Test.YtgmohjegijndeaaPAllx7
import Derived.Test.YtgmohjegijndeaaTaxBook
namespace Go.Proofs.Ytgmohjegijndeaa
open Go.RowKit Go.Proofs.Ytgmohjegijndeaa.PAll Go.Proofs.YtgmohjegijndeaaW.PrintWords Go.Proofs.YtgmohjegijndeaaW.PrintLast

def moneyB (n : Int) : Bool := decide (-1000000000 ≤ n ∧ n ≤ 1000000000)

/-- The parts of an amount that is money, at a good rate. -/
def splitB (s n d : Int) : Int × Int × Int := (s, s - rnd (s * n) (d + n) 3, rnd (s * n) (d + n) 3)

theorem rateB_bd {n d : Int} (h : rateB n d = true) : (0 ≤ n ∧ n ≤ 10000) ∧ (1 ≤ d ∧ d ≤ 10000) := by
  unfold rateB at h; simp only [Bool.and_eq_true, decide_eq_true_eq] at h; exact h

theorem rnd_bd {a b : Int} (hb : 1 ≤ b) (B : Int) (hB : 0 ≤ B) (h0 : -B ≤ a) (h1 : a ≤ B) : -(B + 1) ≤ rnd a b 3 ∧ rnd a b 3 ≤ B + 1 := by
  have := ediv_bd hb h0 h1 hB
  unfold rnd
  simp only
  rw [if_neg (by decide), if_pos (by decide)]
  repeat' split
  all_goals omega

theorem implSplit_is (s n d : Int) (hr' : rateB n d = true) : impl_Split.f s n d = some (if moneyB s = true then ((splitB s n d).1, (splitB s n d).2.1, (splitB s n d).2.2, 0) else (0, 0, 0, 1)) := by
  have hr := rateB_bd hr'
  unfold impl_Split.f moneyB splitB
  rw [isMoney_is]
  simp only [Option.bind_some]
  by_cases hm : -1000000000 ≤ s ∧ s ≤ 1000000000
  · have hp := mul_bd hm.1 hm.2 hr.1.1 hr.1.2 (by omega)
    have hq := rnd_bd (a := s * n) (b := d + n) (by omega) 10000000000000 (by omega) (by omega) (by omega)
    rw [decide_eq_true hm, if_pos rfl, if_pos rfl, implRate_is, hr', w64 (x := s * n) (by omega) (by omega), w64 (x := d + n) (by omega) (by omega), impl_round_is _ _ _ (by omega) (by omega) (by omega) (by omega)]
    simp only [Option.bind_some]
    rw [if_pos trivial, w64 (by omega) (by omega)]
  · rw [decide_eq_false hm]; simp

theorem specSplit_is (s n d : Int) (hr' : rateB n d = true) (hm' : moneyB s = true) (k : Nat) (hk : 2 ≤ k) : spec_l03Split.f k s n d = some (splitB s n d) := by
  have hr := rateB_bd hr'
  have hm : -1000000000 ≤ s ∧ s ≤ 1000000000 := of_decide_eq_true hm'
  have hp := mul_bd hm.1 hm.2 hr.1.1 hr.1.2 (by omega)
  have hq := rnd_bd (a := s * n) (b := d + n) (by omega) 10000000000000 (by omega) (by omega) (by omega)
  unfold spec_l03Split.f splitB
  rw [w64 (x := s * n) (by omega) (by omega), w64 (x := d + n) (by omega) (by omega), spec_round_is _ _ _ (by omega) (by omega) (by omega) (by omega) (by omega) (by omega) k hk]
  simp only [Option.bind_some]
  rw [w64 (by omega) (by omega)]

/-- A book's sums: S the amounts, T the classes that are there, rate each class's rate. -/
def bookGo (rate : Nat → Int × Int × Int) (S : Nat → Int) (T : Nat → Bool) : Nat → Nat → List S47 → Bool → List S47 × Int
  | 0, _, out, over => if over = true then ([], 11) else (out, 0)
  | d + 1, c, out, over => if T c = true then (if (rate c).2.2 = 0 then
      (if moneyB (S c) = true then bookGo rate S T d (c + 1) (out ++ [(⟨(c : Int), (splitB (S c) (rate c).1 (rate c).2.1).1, (splitB (S c) (rate c).1 (rate c).2.1).2.1, (splitB (S c) (rate c).1 (rate c).2.1).2.2⟩ : S47)]) over
        else bookGo rate S T d (c + 1) (out ++ [(⟨(c : Int), 0, 0, 0⟩ : S47)]) true) else ([], (rate c).2.2)) else bookGo rate S T d (c + 1) out over

theorem taxAtB_rate (l : List S66) (c : Int) (own : ByteArray) (day : Int) (hp : ∀ x ∈ l, taxB x = true) (h : (taxAtB l c own day).2.2 = 0) : rateB (taxAtB l c own day).1 (taxAtB l c own day).2.1 = true := by
  have row : ∀ i : Int, 0 ≤ i → i < l.length → rateB (rd_T66 l i).f4.f0 (rd_T66 l i).f4.f1 = true := by
    intro i h0 h1
    obtain ⟨j, rfl⟩ : ∃ j : Nat, i = j := ⟨i.toNat, by omega⟩
    rw [rdBTaxRow (by omega)]
    have := hp l[j] (List.getElem_mem (by omega))
    unfold taxB at this; simp only [Bool.and_eq_true] at this; exact this.2.2.2.2.2
  unfold taxAtB at *
  simp only at *
  have ha := firstAt_bd (fitT c own day) l 0 (by omega)
  have hb := firstAt_bd (fitT c ⟨#[]⟩ day) l 0 (by omega)
  generalize firstAt (fitT c own day) l 0 = a at *
  generalize firstAt (fitT c ⟨#[]⟩ day) l 0 = b at *
  by_cases ga : a ≥ 0
  · rw [if_pos ga]; exact row a ga (by omega)
  · rw [if_neg ga] at h ⊢
    by_cases gb : b ≥ 0
    · rw [if_pos gb]; exact row b gb (by omega)
    · rw [if_neg gb] at h; cases h

theorem implGo_is (l : List S66) (own : ByteArray) (day : Int) (hp : ∀ x ∈ l, taxB x = true) (s : List Int) (t : List Bool) : ∀ (d c : Nat) (out : List S47) (over : Bool),
    impl_TaxBook.go l own day s t d c out over = some (bookGo (fun c => taxAtB l (c : Int) own day) (fun c => s.getD c 0) (fun c => t.getD c false) d c out over)
  | 0, c, out, over => by
    rw [impl_TaxBook.go, bookGo]; split <;> rfl
  | d + 1, c, out, over => by
    rw [impl_TaxBook.go, bookGo]
    by_cases ht : t.getD c false = true
    · rw [if_pos ht, if_pos ht, implTaxAt_is l _ own day hp]
      simp only [Option.bind_some]
      by_cases hr : (taxAtB l (c : Int) own day).2.2 = 0
      · rw [if_pos hr, if_pos hr, implSplit_is _ _ _ (taxAtB_rate l _ own day hp hr)]
        simp only [Option.bind_some]
        by_cases hm : moneyB (s.getD c 0) = true
        · rw [if_pos hm, if_pos hm, implGo_is l own day hp s t d (c + 1)]
          simp
        · rw [if_neg hm, if_neg hm, implGo_is l own day hp s t d (c + 1)]
          simp
      · rw [if_neg hr, if_neg hr]
    · rw [if_neg ht, if_neg ht, implGo_is l own day hp s t d (c + 1)]

end Go.Proofs.Ytgmohjegijndeaa
