/- Plain facts on counting loops that this seat's proofs share: a loop from 0 up to a length, given what one round does. -/
import Derived.Test.YthhhmcijbplcoaaGreatDoorWords0
import Derived.Test.YthhhmcijbplcoaaGreatDoorBase
namespace Go.Proofs.YthhhmcijbplcoaaGreatDoor
open Go.RowKit Go.Proofs.YthhhmcijbplcoaaGreatDoorW.PrintWords

/-- A loop with a state: each round goes on with the next state, the end answers. -/
theorem loop_fold {σ ρ : Type} (L : Nat → σ → Int → Option ρ) (n : Nat) (st : Nat → σ) (r : ρ)
    (step : ∀ k i, i < n → L (k + 1) (st i) (i : Int) = L k (st (i + 1)) ((i : Int) + 1)) (done : ∀ k, L (k + 1) (st n) (n : Int) = some r) :
    ∀ d i k, i + d = n → d < k → L k (st i) (i : Int) = some r := by
  intro d
  induction d with
  | zero =>
    intro i k h hk
    obtain ⟨k, rfl⟩ : ∃ m, k = m + 1 := ⟨k - 1, by omega⟩
    obtain rfl : i = n := by omega
    exact done k
  | succ d ih =>
    intro i k h hk
    obtain ⟨k, rfl⟩ : ∃ m, k = m + 1 := ⟨k - 1, by omega⟩
    rw [step k i (by omega)]
    have := ih (i + 1) k (by omega) (by omega)
    rw [show ((i + 1 : Nat) : Int) = (i : Int) + 1 by omega] at this
    exact this

/-- A loop that stops early at the first place where something holds. -/
theorem loop_find {ρ : Type} (L : Nat → Int → Option ρ) (n : Nat) (p : Nat → Bool) (a : Nat → ρ) (b : ρ)
    (hit : ∀ k i, i < n → p i = true → L (k + 1) (i : Int) = some (a i)) (miss : ∀ k i, i < n → p i = false → L (k + 1) (i : Int) = L k ((i : Int) + 1)) (done : ∀ k, L (k + 1) (n : Int) = some b) :
    ∀ d i k, i + d = n → d < k → L k (i : Int) = some (match (List.range' i d).find? p with | some j => a j | none => b) := by
  intro d
  induction d with
  | zero =>
    intro i k h hk
    obtain ⟨k, rfl⟩ : ∃ m, k = m + 1 := ⟨k - 1, by omega⟩
    obtain rfl : i = n := by omega
    simpa using done k
  | succ d ih =>
    intro i k h hk
    obtain ⟨k, rfl⟩ : ∃ m, k = m + 1 := ⟨k - 1, by omega⟩
    rw [List.range'_succ]
    cases hp : p i with
    | true => rw [hit k i (by omega) hp]; simp [hp]
    | false =>
      rw [miss k i (by omega) hp]
      have := ih (i + 1) k (by omega) (by omega)
      rw [show ((i + 1 : Nat) : Int) = (i : Int) + 1 by omega] at this
      rw [this]
      simp [hp]

/-- A row filled place by place out of another one. -/
theorem fill_set {α β : Type} (l : List α) (f : α → β) (z : β) (i : Nat) (hi : i < l.length) (x : α) (hx : l[i]? = some x) :
    (((l.take i).map f) ++ List.replicate (l.length - i) z).set i (f x) = ((l.take (i + 1)).map f) ++ List.replicate (l.length - (i + 1)) z := by
  have hl : ((l.take i).map f).length = i := by rw [List.length_map, List.length_take]; omega
  have hr : l.length - i = (l.length - (i + 1)) + 1 := by omega
  rw [List.set_append_right _ _ (by omega), hl, Nat.sub_self, hr, List.replicate_succ, List.set_cons_zero]
  rw [List.take_succ_eq_append_getElem hi, List.map_append, List.append_assoc]
  have hx' : l[i] = x := by rw [List.getElem?_eq_getElem hi] at hx; exact Option.some.inj hx
  rw [hx']; rfl

end Go.Proofs.YthhhmcijbplcoaaGreatDoor
