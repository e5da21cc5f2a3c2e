/- The rate of a book of taxes that holds for a class, a place and a day: the program and the reference give the same one, given rounds enough. -/
import Derived.Test.YtgmohjegijndeaaPAllx0
import Derived.Test.YtgmohjegijndeaaPAllx2
import Derived.Test.YtgmohjegijndeaaPAllx4
import Derived.Test.YtgmohjegijndeaaPAllx6
import Derived.Test.YtgmohjegijndeaaTaxRows
namespace Go.Proofs.Ytgmohjegijndeaa
open Go.RowKit Go.Proofs.Ytgmohjegijndeaa.PAll Go.Proofs.YtgmohjegijndeaaW.PrintWords Go.Proofs.YtgmohjegijndeaaW.PrintLast

/-- The first place where a test holds, counted from a number on; -1 where there is none. -/
def firstAt {α : Type} (q : α → Bool) : List α → Int → Int
  | [], _ => -1
  | x :: xs, i => if q x = true then i else firstAt q xs (i + 1)

theorem firstAt_bd {α : Type} (q : α → Bool) : ∀ (l : List α) (i : Int), 0 ≤ i → firstAt q l i = -1 ∨ (i ≤ firstAt q l i ∧ firstAt q l i < i + l.length)
  | [], _, _ => .inl rfl
  | x :: xs, i, h => by
    rw [firstAt]
    by_cases g : q x = true
    · rw [if_pos g]; right; simp only [List.length_cons]; omega
    · rw [if_neg g]
      rcases firstAt_bd q xs (i + 1) (by omega) with e | e
      · exact .inl e
      · right; simp only [List.length_cons]; omega

theorem idxTax_is (p : S66 → Option Bool) (q : S66 → Bool) : ∀ (l : List S66) (i : Int), (∀ x ∈ l, p x = some (q x)) → impl_TaxRow_57.f p l i = some (firstAt q l i)
  | [], _, _ => rfl
  | x :: xs, i, h => by
    unfold impl_TaxRow_57.f firstAt
    rw [h x List.mem_cons_self, idxTax_is p q xs (i + 1) (fun y hy => h y (List.mem_cons_of_mem _ hy))]
    simp only [Option.bind_some]
    cases q x <;> simp

def fitT (c : Int) (own : ByteArray) (day : Int) (x : S66) : Bool := decide (x.f0 = c) && (decide (x.f1.toList = own.toList) && decide (x.f2 ≤ day ∧ day < x.f3))

theorem fitT_is (c : Int) (own : ByteArray) (day : Int) (x : S66) (h : taxB x = true) : impl_taxAt_1.p c own day x = some (fitT c own day x) := by
  have hx : x.f2 < x.f3 ∧ x.f3 ≤ 100000 ∧ 0 ≤ x.f2 := by
    unfold taxB at h; simp only [Bool.and_eq_true, decide_eq_true_eq] at h; omega
  unfold impl_taxAt_1.p fitT
  rw [within_b, w64 (x := x.f3 - 1) (by omega) (by omega)]
  by_cases h0 : x.f0 = c
  · by_cases h1 : x.f1.toList = own.toList
    · by_cases h2 : x.f2 ≤ day ∧ day < x.f3
      · rw [decide_eq_true (show x.f2 ≤ day ∧ day ≤ x.f3 - 1 by omega), decide_eq_true h2]; simp [h0, h1]
      · rw [decide_eq_false (show ¬ (x.f2 ≤ day ∧ day ≤ x.f3 - 1) by omega), decide_eq_false h2]; simp [h0, h1]
    · simp [h0, h1]
  · simp [h0]

theorem taxGo_all (rows : List S66) : ∀ (l : List S66) (i : Nat), taxGo rows l i = true → ∀ x ∈ l, taxB x = true
  | [], _, _, _, h => by cases h
  | r :: rest, i, h, x, hx => by
    rw [taxGo] at h
    simp only [Bool.and_eq_true] at h
    rcases List.mem_cons.1 hx with e | e
    · rw [e]; exact h.1
    · exact taxGo_all rows rest (i + 1) h.2.2 x e

theorem specRow_loop (l : List S66) (c : Int) (own : ByteArray) (day : Int) (hl : l.length ≤ 60) : ∀ d i k, i + d = l.length → d < k → spec_l03Row.l0 k l c own day (i : Int) = some (firstAt (fitT c own day) (l.drop i) (i : Int)) := by
  intro d
  induction d with
  | zero =>
    intro i k h hk
    obtain ⟨k, rfl⟩ : ∃ m, k = m + 1 := ⟨k - 1, by omega⟩
    rw [spec_l03Row.l0, if_neg (by omega), List.drop_eq_nil_of_le (by omega)]; rfl
  | succ d ih =>
    intro i k h hk
    obtain ⟨k, rfl⟩ : ∃ m, k = m + 1 := ⟨k - 1, by omega⟩
    have := ih (i + 1) k (by omega) (by omega)
    have w : wrap64 ((i : Int) + 1) = ((i + 1 : Nat) : Int) := by rw [w64 (by omega) (by omega)]; omega
    rw [spec_l03Row.l0, if_pos (by omega), if_pos (by omega), rdBTaxRow (by omega), List.drop_eq_getElem_cons (by omega : i < l.length), firstAt, w, this]
    rw [show ((i + 1 : Nat) : Int) = (i : Int) + 1 by omega]
    generalize firstAt (fitT c own day) (l.drop (i + 1)) ((i : Int) + 1) = R
    unfold fitT
    generalize l[i] = x
    by_cases h0 : x.f0 = c
    · by_cases h1 : x.f1.toList = own.toList
      · by_cases h2 : x.f2 ≤ day
        · by_cases h3 : day < x.f3
          · simp [h0, h1, h2, h3]
          · simp [h0, h1, h2, h3]
        · simp [h0, h1, h2]
      · simp [h0, h1]
    · simp [h0]

theorem specRow_is (l : List S66) (c : Int) (own : ByteArray) (day : Int) (hl : l.length ≤ 60) (k : Nat) (hk : 61 ≤ k) : spec_l03Row.f k l c own day = some (firstAt (fitT c own day) l 0) := by
  unfold spec_l03Row.f
  have := specRow_loop l c own day hl l.length 0 k (by omega) (by omega)
  simpa using this

/-- The rate and the error of a book that is good. -/
def taxAtB (l : List S66) (c : Int) (own : ByteArray) (day : Int) : Int × Int × Int :=
  let a := firstAt (fitT c own day) l 0
  let b := firstAt (fitT c ⟨#[]⟩ day) l 0
  if a ≥ 0 then ((rd_T66 l a).f4.f0, (rd_T66 l a).f4.f1, 0) else if b ≥ 0 then ((rd_T66 l b).f4.f0, (rd_T66 l b).f4.f1, 0) else (0, 0, 8)

theorem implTaxAt_is (l : List S66) (c : Int) (own : ByteArray) (day : Int) (hp : ∀ x ∈ l, taxB x = true) : impl_taxAt.f l c own day = some (taxAtB l c own day) := by
  have hf : ∀ o, impl_TaxRow_57.f (impl_taxAt_1.p c o day) l 0 = some (firstAt (fitT c o day) l 0) := fun o => idxTax_is _ _ l 0 (fun x hx => fitT_is c o day x (hp x hx))
  unfold impl_taxAt.f taxAtB
  rw [impl_taxAt.go, hf, impl_taxAt.go, hf, impl_taxAt.go]
  simp only [Option.bind_some]
  have ha := firstAt_bd (fitT c own day) l 0 (by omega)
  have hb := firstAt_bd (fitT c ⟨#[]⟩ day) l 0 (by omega)
  generalize firstAt (fitT c own day) l 0 = a at *
  generalize firstAt (fitT c ⟨#[]⟩ day) l 0 = b at *
  by_cases h : a ≥ 0
  · rw [if_pos h, if_pos h, if_pos (by omega)]
  · rw [if_neg h, if_neg h]
    by_cases g : b ≥ 0
    · rw [if_pos g, if_pos g, if_pos (by omega)]
    · rw [if_neg g, if_neg g]

theorem specAt_is (l : List S66) (c : Int) (own : ByteArray) (day : Int) (hl : l.length ≤ 60) (k : Nat) (hk : 61 ≤ k) :
    spec_l03At.f k l c own day = some (if firstAt (fitT c own day) l 0 < 0 then firstAt (fitT c ⟨#[]⟩ day) l 0 else firstAt (fitT c own day) l 0) := by
  unfold spec_l03At.f
  rw [specRow_is l c own day hl k hk, specRow_is l c _ day hl k hk]
  simp only [Option.bind_some]
  split <;> rfl

end Go.Proofs.Ytgmohjegijndeaa
