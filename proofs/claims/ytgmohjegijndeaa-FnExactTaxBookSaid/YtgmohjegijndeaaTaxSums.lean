/- The rows of a book of taxes one by one: their classes rise, their gross adds up to that of the lines. -/
import Derived.Test.YtgmohjegijndeaaPAllx0
import Derived.Test.YtgmohjegijndeaaTaxBookV
namespace Go.Proofs.Ytgmohjegijndeaa
open Go.RowKit Go.Proofs.Ytgmohjegijndeaa.PAll Go.Proofs.YtgmohjegijndeaaW.PrintWords Go.Proofs.YtgmohjegijndeaaW.PrintLast

def sumRow (rate : Nat → Int × Int × Int) (S : Nat → Int) (c : Nat) : S47 := ⟨(c : Int), (splitB (S c) (rate c).1 (rate c).2.1).1, (splitB (S c) (rate c).1 (rate c).2.1).2.1, (splitB (S c) (rate c).1 (rate c).2.1).2.2⟩

def bookRows (rate : Nat → Int × Int × Int) (S : Nat → Int) (T : Nat → Bool) : Nat → Nat → List S47
  | 0, _ => []
  | d + 1, c => if T c = true then sumRow rate S c :: bookRows rate S T d (c + 1) else bookRows rate S T d (c + 1)

theorem bookGo_rows (rate : Nat → Int × Int × Int) (S : Nat → Int) (T : Nat → Bool) : ∀ (d c : Nat) (out : List S47), (∀ c', c ≤ c' → c' < c + d → T c' = true → (rate c').2.2 = 0 ∧ moneyB (S c') = true) → bookGo rate S T d c out false = (out ++ bookRows rate S T d c, 0)
  | 0, c, out, _ => by rw [bookGo, bookRows]; simp
  | d + 1, c, out, h => by
    rw [bookGo, bookRows]
    by_cases ht : T c = true
    · have := h c (by omega) (by omega) ht
      rw [if_pos ht, if_pos ht, if_pos this.1, if_pos this.2, bookGo_rows rate S T d (c + 1) _ (fun c' h1 h2 => h c' (by omega) (by omega))]
      simp [sumRow]
    · rw [if_neg ht, if_neg ht, bookGo_rows rate S T d (c + 1) _ (fun c' h1 h2 => h c' (by omega) (by omega))]

theorem bookRows_mem (rate : Nat → Int × Int × Int) (S : Nat → Int) (T : Nat → Bool) : ∀ (d c : Nat) (x : S47), x ∈ bookRows rate S T d c → ∃ c', c ≤ c' ∧ c' < c + d ∧ T c' = true ∧ x = sumRow rate S c'
  | 0, c, x, h => by rw [bookRows] at h; cases h
  | d + 1, c, x, h => by
    rw [bookRows] at h
    by_cases ht : T c = true
    · rw [if_pos ht] at h
      rcases List.mem_cons.1 h with e | e
      · exact ⟨c, by omega, by omega, ht, e⟩
      · obtain ⟨c', h1, h2, h3, h4⟩ := bookRows_mem rate S T d (c + 1) x e
        exact ⟨c', by omega, by omega, h3, h4⟩
    · rw [if_neg ht] at h
      obtain ⟨c', h1, h2, h3, h4⟩ := bookRows_mem rate S T d (c + 1) x h
      exact ⟨c', by omega, by omega, h3, h4⟩

theorem bookRows_asc (rate : Nat → Int × Int × Int) (S : Nat → Int) (T : Nat → Bool) : ∀ (d c : Nat), (bookRows rate S T d c).Pairwise (fun a b => a.f0 < b.f0)
  | 0, c => by rw [bookRows]; exact List.Pairwise.nil
  | d + 1, c => by
    rw [bookRows]
    by_cases ht : T c = true
    · rw [if_pos ht]
      refine List.Pairwise.cons (fun x hx => ?_) (bookRows_asc rate S T d (c + 1))
      obtain ⟨c', h1, h2, h3, h4⟩ := bookRows_mem rate S T d (c + 1) x hx
      rw [h4]; show (c : Int) < (c' : Int); omega
    · rw [if_neg ht]; exact bookRows_asc rate S T d (c + 1)

theorem bookRows_len (rate : Nat → Int × Int × Int) (S : Nat → Int) (T : Nat → Bool) : ∀ (d c : Nat), (bookRows rate S T d c).length ≤ d
  | 0, c => by rw [bookRows]; simp
  | d + 1, c => by
    rw [bookRows]
    have := bookRows_len rate S T d (c + 1)
    split
    · simp only [List.length_cons]; omega
    · omega

def tot : List S47 → Int
  | [] => 0
  | x :: xs => x.f1 + tot xs
def totL : List S45 → Int
  | [] => 0
  | x :: xs => x.f1 + totL xs

/-- The sums of some classes. -/
def cls (l : List S45) : Nat → Nat → Int
  | 0, _ => 0
  | d + 1, c => sumAt l (c : Int) + cls l d (c + 1)

theorem sumAt_none : ∀ (l : List S45) (c : Int), hasAt l c = false → sumAt l c = 0
  | [], _, _ => rfl
  | x :: xs, c, h => by
    unfold hasAt at h
    rw [List.any_cons, Bool.or_eq_false_iff] at h
    rw [sumAt, if_neg (of_decide_eq_false h.1), sumAt_none xs c h.2]; rfl

theorem tot_rows (rate : Nat → Int × Int × Int) (l : List S45) : ∀ (d c : Nat), tot (bookRows rate (fun c => sumAt l (c : Int)) (fun c => hasAt l (c : Int)) d c) = cls l d c
  | 0, c => by rw [bookRows, cls]; rfl
  | d + 1, c => by
    rw [bookRows, cls]
    by_cases h : hasAt l (c : Int) = true
    · rw [if_pos h, tot, tot_rows rate l d (c + 1)]; rfl
    · rw [if_neg h, tot_rows rate l d (c + 1), sumAt_none l c (Bool.eq_false_iff.2 h)]; omega

theorem cls_nil : ∀ (d c : Nat), cls [] d c = 0
  | 0, _ => rfl
  | d + 1, c => by rw [cls, cls_nil d (c + 1)]; rfl

theorem cls_cons (x : S45) (xs : List S45) : ∀ (d c : Nat), cls (x :: xs) d c = (if (c : Int) ≤ x.f0 ∧ x.f0 < (c : Int) + (d : Int) then x.f1 else 0) + cls xs d c
  | 0, c => by rw [cls, cls, if_neg (by omega)]; omega
  | d + 1, c => by
    rw [cls, cls, cls_cons x xs d (c + 1), sumAt]
    by_cases h : x.f0 = (c : Int)
    · rw [if_pos h, if_neg (by omega), if_pos (by omega)]; omega
    · rw [if_neg h]
      by_cases h2 : ((c + 1 : Nat) : Int) ≤ x.f0 ∧ x.f0 < ((c + 1 : Nat) : Int) + (d : Int)
      · rw [if_pos h2, if_pos (by omega)]; omega
      · rw [if_neg h2, if_neg (by omega)]; omega

theorem cls_all : ∀ (l : List S45), l.all lineB = true → cls l 9 1 = totL l
  | [], _ => cls_nil 9 1
  | x :: xs, h => by
    simp only [List.all_cons, Bool.and_eq_true] at h
    have hx := h.1
    unfold lineB at hx
    simp only [Bool.and_eq_true, decide_eq_true_eq] at hx
    rw [cls_cons, totL, cls_all xs h.2, if_pos (by omega)]

theorem sumAt_small : ∀ (l : List S45) (c : Int), (∀ x ∈ l, -5000 ≤ x.f1 ∧ x.f1 ≤ 5000) → -(5000 * (l.length : Int)) ≤ sumAt l c ∧ sumAt l c ≤ 5000 * (l.length : Int)
  | [], _, _ => by simp [sumAt]
  | x :: xs, c, h => by
    have ih := sumAt_small xs c (fun y hy => h y (List.mem_cons_of_mem _ hy))
    have hx := h x List.mem_cons_self
    rw [sumAt]
    simp only [List.length_cons, Int.natCast_add, Int.natCast_one]
    split <;> omega

theorem totL_small : ∀ (l : List S45), (∀ x ∈ l, -5000 ≤ x.f1 ∧ x.f1 ≤ 5000) → -(5000 * (l.length : Int)) ≤ totL l ∧ totL l ≤ 5000 * (l.length : Int)
  | [], _ => by simp [totL]
  | x :: xs, h => by
    have ih := totL_small xs (fun y hy => h y (List.mem_cons_of_mem _ hy))
    have hx := h x List.mem_cons_self
    rw [totL]
    simp only [List.length_cons, Int.natCast_add, Int.natCast_one]
    omega

theorem tot_small (B : Int) : ∀ (l : List S47), (∀ x ∈ l, -B ≤ x.f1 ∧ x.f1 ≤ B) → -(B * (l.length : Int)) ≤ tot l ∧ tot l ≤ B * (l.length : Int)
  | [], _ => by simp [tot]
  | x :: xs, h => by
    have ih := tot_small B xs (fun y hy => h y (List.mem_cons_of_mem _ hy))
    have hx := h x List.mem_cons_self
    rw [tot]
    simp only [List.length_cons, Int.natCast_add, Int.natCast_one, Int.mul_add, Int.mul_one]
    omega

end Go.Proofs.Ytgmohjegijndeaa
