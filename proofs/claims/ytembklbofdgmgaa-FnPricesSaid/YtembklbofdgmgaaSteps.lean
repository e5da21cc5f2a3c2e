/- The steps of a price: the program's walk over the sorted minutes is the reference's search for the next change. -/
import Derived.Test.YtembklbofdgmgaaPAllx0
import Derived.Lib.RowBridge
import Derived.Test.YtembklbofdgmgaaPriceLoop
import Derived.Test.YtembklbofdgmgaaCompact
namespace Go.Proofs.Ytembklbofdgmgaa
open Go.RowKit Go.Proofs.Ytembklbofdgmgaa.PAll Go.Proofs.YtembklbofdgmgaaW.PrintWords Go.Proofs.YtembklbofdgmgaaW.PrintLast

/-- The amount at a minute, -1 without one. -/
def amtB (l : List S44) (a1 a2 : ByteArray) (m : Int) : Int := if bestAt l a1 a2 m < 0 then -1 else (rd_T44 l (bestAt l a1 a2 m)).f5

/-- The steps over some minutes, behind an amount. -/
def walkB (A : Int → Int) : List Int → Option Int → List S40
  | [], _ => []
  | m :: ms, a => if a = some (A m) then walkB A ms a else ⟨m, A m⟩ :: walkB A ms (some (A m))

/-- The minutes at which a price may change. -/
def minutesB (f t : Int) : List S44 → List Int
  | [] => []
  | r :: rs => (if f < r.f3 ∧ r.f3 < t then [r.f3] else []) ++ ((if f < r.f4 ∧ r.f4 < t then [r.f4] else []) ++ minutesB f t rs)

def sortedB (f t : Int) (l : List S44) : List Int := Lib.compact ((f :: minutesB f t l).mergeSort fun x y => decide (x ≤ y))

def stepsB (l : List S44) (a1 a2 : ByteArray) (f t : Int) : List S40 := walkB (amtB l a1 a2) (sortedB f t l) none

theorem minutes_mem (f t : Int) : ∀ (l : List S44) (x : Int), x ∈ minutesB f t l ↔ (f < x ∧ x < t) ∧ ∃ r ∈ l, x = r.f3 ∨ x = r.f4
  | [], x => by simp [minutesB]
  | r :: rs, x => by
    rw [minutesB, List.mem_append, List.mem_append, minutes_mem f t rs x]
    have e1 : x ∈ (if f < r.f3 ∧ r.f3 < t then [r.f3] else []) ↔ (f < x ∧ x < t) ∧ x = r.f3 := by
      by_cases h : f < r.f3 ∧ r.f3 < t
      · rw [if_pos h, List.mem_singleton]; constructor
        · intro e; rw [e]; exact ⟨h, rfl⟩
        · exact fun e => e.2
      · rw [if_neg h]; simp only [List.not_mem_nil, false_iff]; rintro ⟨h1, rfl⟩; exact h h1
    have e2 : x ∈ (if f < r.f4 ∧ r.f4 < t then [r.f4] else []) ↔ (f < x ∧ x < t) ∧ x = r.f4 := by
      by_cases h : f < r.f4 ∧ r.f4 < t
      · rw [if_pos h, List.mem_singleton]; constructor
        · intro e; rw [e]; exact ⟨h, rfl⟩
        · exact fun e => e.2
      · rw [if_neg h]; simp only [List.not_mem_nil, false_iff]; rintro ⟨h1, rfl⟩; exact h h1
    rw [e1, e2]
    constructor
    · rintro (⟨h, e⟩ | ⟨h, e⟩ | ⟨h, q, hq, e⟩)
      · exact ⟨h, r, List.mem_cons_self, .inl e⟩
      · exact ⟨h, r, List.mem_cons_self, .inr e⟩
      · exact ⟨h, q, List.mem_cons_of_mem _ hq, e⟩
    · rintro ⟨h, q, hq, e⟩
      rcases List.mem_cons.1 hq with g | g
      · subst g
        rcases e with e | e
        · exact .inl ⟨h, e⟩
        · exact .inr (.inl ⟨h, e⟩)
      · exact .inr (.inr ⟨h, q, g, e⟩)

theorem minutes_len (f t : Int) : ∀ (l : List S44), (minutesB f t l).length ≤ 2 * l.length
  | [] => by simp [minutesB]
  | r :: rs => by
    have := minutes_len f t rs
    rw [minutesB, List.length_append, List.length_append, List.length_cons]
    split <;> split <;> simp only [List.length_cons, List.length_nil] <;> omega

theorem sorted_len (f t : Int) (l : List S44) : (sortedB f t l).length ≤ 2 * l.length + 1 := by
  have h1 := Lib.compact_length_le ((f :: minutesB f t l).mergeSort fun x y => decide (x ≤ y))
  have h2 := minutes_len f t l
  rw [List.length_mergeSort, List.length_cons] at h1
  unfold sortedB; omega

theorem sorted_mem (f t : Int) (l : List S44) (x : Int) : x ∈ sortedB f t l ↔ x = f ∨ (f < x ∧ x < t) ∧ ∃ r ∈ l, x = r.f3 ∨ x = r.f4 := by
  unfold sortedB
  rw [(sorted_compact _).2, List.mem_cons, minutes_mem]

theorem sorted_asc (f t : Int) (l : List S44) : (sortedB f t l).Pairwise (· < ·) := (sorted_compact _).1

/-- The first of the minutes is the one from which on is asked. -/
theorem sorted_cons (f t : Int) (l : List S44) : ∃ rest, sortedB f t l = f :: rest ∧ (∀ x ∈ rest, f < x) ∧ rest.Pairwise (· < ·) := by
  have hm : f ∈ sortedB f t l := (sorted_mem f t l f).2 (.inl rfl)
  have ha := sorted_asc f t l
  have hge : ∀ x ∈ sortedB f t l, f ≤ x := fun x hx => by
    rcases (sorted_mem f t l x).1 hx with h | h
    · omega
    · omega
  generalize sortedB f t l = s at *
  cases s with
  | nil => cases hm
  | cons y ys =>
    have hy := hge y List.mem_cons_self
    rw [List.pairwise_cons] at ha
    have : y = f := by
      rcases List.mem_cons.1 hm with e | e
      · exact e.symm
      · have := ha.1 f e; omega
    subst this
    exact ⟨ys, rfl, fun x hx => ha.1 x hx, ha.2⟩

theorem walk_len (A : Int → Int) : ∀ (l : List Int) (a : Option Int), (walkB A l a).length ≤ l.length
  | [], _ => by simp [walkB]
  | m :: ms, a => by
    rw [walkB]
    have h1 := walk_len A ms a
    have h2 := walk_len A ms (some (A m))
    split <;> simp only [List.length_cons] <;> omega

theorem steps_len (l : List S44) (a1 a2 : ByteArray) (f t : Int) (hl : l.length ≤ 80) : (stepsB l a1 a2 f t).length ≤ 161 := by
  have h1 := walk_len (amtB l a1 a2) (sortedB f t l) none
  have h2 := sorted_len f t l
  unfold stepsB; omega

/-! ## The reference -/

/-- The next change: the least minute of the rows behind 'at', ahead of a bound, with another amount. -/
def updB (A : Int → Int) (at_ a b c : Int) : Int := if at_ < b ∧ b < c ∧ A b ≠ a then b else c
def nextGo (A : Int → Int) (at_ a : Int) : List S44 → Int → Int
  | [], c => c
  | r :: rs, c => nextGo A at_ a rs (updB A at_ a r.f4 (updB A at_ a r.f3 c))

def Cand (A : Int → Int) (at_ a t : Int) (l : List S44) (b : Int) : Prop := (at_ < b ∧ b < t ∧ A b ≠ a) ∧ ∃ r ∈ l, b = r.f3 ∨ b = r.f4

theorem upd_le (A : Int → Int) (at_ a b c : Int) : updB A at_ a b c ≤ c := by unfold updB; split <;> omega

theorem next_le (A : Int → Int) (at_ a : Int) : ∀ (l : List S44) (c : Int), nextGo A at_ a l c ≤ c
  | [], c => Int.le_refl _
  | r :: rs, c => by
    rw [nextGo]
    have h1 := next_le A at_ a rs (updB A at_ a r.f4 (updB A at_ a r.f3 c))
    have h2 := upd_le A at_ a r.f4 (updB A at_ a r.f3 c)
    have h3 := upd_le A at_ a r.f3 c
    omega

theorem next_is (A : Int → Int) (at_ a t : Int) : ∀ (l : List S44) (c : Int), c ≤ t → (nextGo A at_ a l c = c ∨ Cand A at_ a t l (nextGo A at_ a l c)) ∧ ∀ b, Cand A at_ a c l b → nextGo A at_ a l c ≤ b
  | [], c, _ => ⟨.inl rfl, fun b h => by obtain ⟨_, r, hr, _⟩ := h; cases hr⟩
  | r :: rs, c, hc => by
    rw [nextGo]
    have u3 := upd_le A at_ a r.f3 c
    have u4 := upd_le A at_ a r.f4 (updB A at_ a r.f3 c)
    have ih := next_is A at_ a t rs (updB A at_ a r.f4 (updB A at_ a r.f3 c)) (by omega)
    have nl := next_le A at_ a rs (updB A at_ a r.f4 (updB A at_ a r.f3 c))
    constructor
    · rcases ih.1 with e | e
      · rw [e]
        unfold updB
        by_cases h4 : at_ < r.f4 ∧ r.f4 < (if at_ < r.f3 ∧ r.f3 < c ∧ A r.f3 ≠ a then r.f3 else c) ∧ A r.f4 ≠ a
        · rw [if_pos h4]
          refine .inr ⟨⟨h4.1, ?_, h4.2.2⟩, r, List.mem_cons_self, .inr rfl⟩
          have := h4.2.1
          split at this <;> omega
        · rw [if_neg h4]
          by_cases h3 : at_ < r.f3 ∧ r.f3 < c ∧ A r.f3 ≠ a
          · rw [if_pos h3]
            exact .inr ⟨⟨h3.1, by omega, h3.2.2⟩, r, List.mem_cons_self, .inl rfl⟩
          · rw [if_neg h3]; exact .inl rfl
      · obtain ⟨h, q, hq, e'⟩ := e
        exact .inr ⟨h, q, List.mem_cons_of_mem _ hq, e'⟩
    · rintro b ⟨⟨h1, h2, h3⟩, q, hq, e⟩
      rcases List.mem_cons.1 hq with g | g
      · subst g
        rcases e with e | e
        · have : updB A at_ a q.f3 c ≤ b := by
            unfold updB
            rw [if_pos ⟨by omega, by omega, by rw [← e]; exact h3⟩]; omega
          omega
        · by_cases hb : b < updB A at_ a q.f3 c
          · have : updB A at_ a q.f4 (updB A at_ a q.f3 c) ≤ b := by
              unfold updB at hb ⊢
              rw [if_pos ⟨by omega, by rw [← e]; exact hb, by rw [← e]; exact h3⟩]; omega
            omega
          · omega
      · by_cases hb : b < updB A at_ a r.f4 (updB A at_ a r.f3 c)
        · exact ih.2 b ⟨⟨h1, hb, h3⟩, q, g, e⟩
        · omega

/-- Of ascending minutes the walk's next step is the least one with another amount. -/
theorem walk_next (A : Int → Int) (a : Int) : ∀ (s : List Int), s.Pairwise (· < ·) → (walkB A s (some a) = [] ∧ ∀ x ∈ s, A x = a) ∨ ∃ n s1 s2, s = s1 ++ n :: s2 ∧ (∀ x ∈ s1, A x = a) ∧ A n ≠ a ∧ walkB A s (some a) = ⟨n, A n⟩ :: walkB A s2 (some (A n))
  | [], _ => .inl ⟨rfl, fun x hx => by cases hx⟩
  | m :: ms, h => by
    rw [List.pairwise_cons] at h
    by_cases e : a = A m
    · rw [walkB, if_pos (by rw [e])]
      rcases walk_next A a ms h.2 with ⟨h1, h2⟩ | ⟨n, s1, s2, h1, h2, h3, h4⟩
      · refine .inl ⟨h1, fun x hx => ?_⟩
        rcases List.mem_cons.1 hx with g | g
        · rw [g]; exact e.symm
        · exact h2 x g
      · refine .inr ⟨n, m :: s1, s2, by rw [h1]; rfl, fun x hx => ?_, h3, h4⟩
        rcases List.mem_cons.1 hx with g | g
        · rw [g]; exact e.symm
        · exact h2 x g
    · rw [walkB, if_neg (fun q => e (by injection q))]
      exact .inr ⟨m, [], ms, rfl, fun x hx => by (cases hx), fun q => e q.symm, rfl⟩

end Go.Proofs.Ytembklbofdgmgaa
