/- The first place where a test holds. -/
namespace Go.Proofs.YthhhmcijbplcoaaGreatDoor

/-- The first place where a test holds, counted from a number on; -1 where there is none. -/
def firstOf {α : Type} (q : α → Bool) : List α → Int → Int
  | [], _ => -1
  | x :: xs, i => if q x = true then i else firstOf q xs (i + 1)

theorem firstOf_bd {α : Type} (q : α → Bool) : ∀ (l : List α) (i : Int), 0 ≤ i → firstOf q l i = -1 ∨ (i ≤ firstOf q l i ∧ firstOf q l i < i + l.length)
  | [], _, _ => .inl rfl
  | x :: xs, i, h => by
    rw [firstOf]
    by_cases g : q x = true
    · rw [if_pos g]; right; simp only [List.length_cons]; omega
    · rw [if_neg g]
      rcases firstOf_bd q xs (i + 1) (by omega) with e | e
      · exact .inl e
      · right; simp only [List.length_cons]; omega

end Go.Proofs.YthhhmcijbplcoaaGreatDoor
