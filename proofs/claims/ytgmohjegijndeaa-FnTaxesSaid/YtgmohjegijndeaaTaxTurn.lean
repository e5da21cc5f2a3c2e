/- A book's value does not change when its lines are turned round. -/
import Derived.Test.YtgmohjegijndeaaPAllx0
import Derived.Test.YtgmohjegijndeaaTaxBookV
namespace Go.Proofs.Ytgmohjegijndeaa
open Go.RowKit Go.Proofs.Ytgmohjegijndeaa.PAll Go.Proofs.YtgmohjegijndeaaW.PrintWords Go.Proofs.YtgmohjegijndeaaW.PrintLast

theorem sumAt_append : ∀ (a b : List S45) (c : Int), sumAt (a ++ b) c = sumAt a c + sumAt b c
  | [], b, c => by simp [sumAt]
  | x :: xs, b, c => by rw [List.cons_append, sumAt, sumAt, sumAt_append xs b c]; omega

theorem sumAt_reverse : ∀ (a : List S45) (c : Int), sumAt a.reverse c = sumAt a c
  | [], c => rfl
  | x :: xs, c => by
    rw [List.reverse_cons, sumAt_append, sumAt_reverse xs c, sumAt, sumAt, sumAt]; omega

theorem bookB_reverse (l0 : List S66) (own : ByteArray) (day : Int) (l3 : List S45) : bookB l0 own day l3.reverse = bookB l0 own day l3 := by
  have ha : l3.reverse.all lineB = l3.all lineB := List.all_reverse
  have hh : ∀ c, hasAt l3.reverse c = hasAt l3 c := fun c => List.any_reverse
  unfold bookB
  rw [List.length_reverse, ha]
  simp only [sumAt_reverse, hh]

end Go.Proofs.Ytgmohjegijndeaa
