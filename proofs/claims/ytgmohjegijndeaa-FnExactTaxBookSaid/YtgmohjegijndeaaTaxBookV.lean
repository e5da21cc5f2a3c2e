/- The program's book of taxes, as one plain value of its rows and lines. -/
import Derived.Test.YtgmohjegijndeaaPAllx0
import Derived.Test.YtgmohjegijndeaaPAllx5
import Derived.Test.YtgmohjegijndeaaPAllx7
import Derived.Test.YtgmohjegijndeaaTaxBookI
import Derived.Test.YtgmohjegijndeaaAreTexts
namespace Go.Proofs.Ytgmohjegijndeaa
open Go.RowKit Go.Proofs.Ytgmohjegijndeaa.PAll Go.Proofs.YtgmohjegijndeaaW.PrintWords Go.Proofs.YtgmohjegijndeaaW.PrintLast

theorem bookGo_congr (rate : Nat → Int × Int × Int) (S S' : Nat → Int) (T T' : Nat → Bool) (h : ∀ c, c < 10 → S c = S' c ∧ T c = T' c) : ∀ (d c : Nat) (out : List S47) (over : Bool), c + d ≤ 10 → bookGo rate S T d c out over = bookGo rate S' T' d c out over
  | 0, _, _, _, _ => rfl
  | d + 1, c, out, over, hc => by
    have := h c (by omega)
    rw [bookGo, bookGo, this.1, this.2, bookGo_congr rate S S' T T' h d (c + 1) _ _ (by omega), bookGo_congr rate S S' T T' h d (c + 1) _ _ (by omega), bookGo_congr rate S S' T T' h d (c + 1) _ _ (by omega)]

def bookB (l0 : List S66) (own : ByteArray) (day : Int) (l3 : List S45) : List S47 × Int :=
  if l0.length ≤ 4096 ∧ own.size ≤ 65536 ∧ l3.length ≤ 4096 then (if taxesB l0 = true then (if l3.all lineB = true then
    bookGo (fun c => taxAtB l0 (c : Int) own day) (fun c => sumAt l3 (c : Int)) (fun c => hasAt l3 (c : Int)) 9 1 [] false else ([], 5)) else ([], 1)) else ([], 2)

theorem implBook_is (l0 : List S66) (own : ByteArray) (day : Int) (l3 : List S45) (k : Nat) (hk : 4400 ≤ k) : impl_TaxBook.f k l0 own day l3 = some (bookB l0 own day l3) := by
  unfold impl_TaxBook.f bookB impl_TaxRow_29.f impl_TaxLine_31.f
  rw [texts_is]
  simp only [Option.bind_some]
  by_cases h0 : l0.length ≤ 4096
  · by_cases h1 : own.size ≤ 65536
    · by_cases h2 : l3.length ≤ 4096
      · rw [decide_eq_true (show (l0.length : Int) ≤ 4096 by omega), decide_eq_true h1, decide_eq_true (show (l3.length : Int) ≤ 4096 by omega), if_pos rfl, if_pos rfl, if_pos rfl, if_pos (show l0.length ≤ 4096 ∧ own.size ≤ 65536 ∧ l3.length ≤ 4096 from ⟨h0, h1, h2⟩), implTaxes_is _ _ (by omega)]
        simp only [Option.bind_some]
        by_cases hp : taxesB l0 = true
        · rw [if_pos hp, if_pos hp, contLine_is]
          simp only [Option.bind_some]
          by_cases ha : l3.all lineB = true
          · have hl : l0.length ≤ 60 ∧ taxGo l0 l0 0 = true := by unfold taxesB at hp; simpa using hp
            have z : ∀ c : Nat, c < 10 → (List.replicate 10 (0 : Int)).getD c 0 = 0 := by decide
            have zt : ∀ c : Nat, c < 10 → (List.replicate 10 false).getD c false = false := by decide
            have hs := sum_is l3 (List.replicate 10 0) (List.replicate 10 false) 0 ha (by simp) (by simp) (by omega) (by omega) (fun c hc => by rw [z c hc]; omega)
            have hin : (l3.all fun x => decide (1 ≤ x.f0 ∧ x.f0 ≤ 9)) = true := by
              rw [List.all_eq_true] at ha ⊢
              intro x hx; have := ha x hx; unfold lineB at this; simp only [Bool.and_eq_true] at this; exact this.1
            rw [if_pos ha, if_neg (by rw [ha]; decide), if_pos hin, implGo_is l0 own day (taxGo_all l0 l0 0 hl.2)]
            congr 1
            refine bookGo_congr _ _ _ _ _ (fun c hc => ?_) 9 1 [] false (by omega)
            have := hs c hc
            refine ⟨this.1.trans ?_, this.2.trans ?_⟩
            · rw [z c hc]; omega
            · rw [zt c hc]; rfl
          · rw [if_neg ha, if_pos (by simpa using ha)]
        · rw [if_neg hp, if_neg hp]
      · rw [decide_eq_true (show (l0.length : Int) ≤ 4096 by omega), decide_eq_true h1, decide_eq_false (show ¬ (l3.length : Int) ≤ 4096 by omega), if_neg (show ¬ (l0.length ≤ 4096 ∧ own.size ≤ 65536 ∧ l3.length ≤ 4096) by omega)]
        simp
    · rw [decide_eq_true (show (l0.length : Int) ≤ 4096 by omega), decide_eq_false h1, if_neg (show ¬ (l0.length ≤ 4096 ∧ own.size ≤ 65536 ∧ l3.length ≤ 4096) by omega)]
      simp
  · rw [decide_eq_false (show ¬ (l0.length : Int) ≤ 4096 by omega), if_neg (show ¬ (l0.length ≤ 4096 ∧ own.size ≤ 65536 ∧ l3.length ≤ 4096) by omega)]
    simp

end Go.Proofs.Ytgmohjegijndeaa
