/- Packs and their units: the program and the reference give the same sizes, the same error and the same name, given rounds enough. -/
import Derived.Test.YtookjankaanhlaaPAllx0
import Derived.Test.YtookjankaanhlaaPAllx13
import Derived.Test.YtookjankaanhlaaPAllx14
import Derived.Test.YtookjankaanhlaaPAllx25
import Derived.Test.YtookjankaanhlaaFirst
import Derived.Test.YtookjankaanhlaaStdPack
import Derived.Test.YtookjankaanhlaaPlace
import Derived.Test.YtookjankaanhlaaMark
namespace Go.Proofs.Ytookjankaanhlaa
open Go.RowKit Go.Proofs.Ytookjankaanhlaa.PAll Go.Proofs.YtookjankaanhlaaW.PrintWords Go.Proofs.YtookjankaanhlaaW.PrintLast

def named (s : ByteArray) (x : S149) : Bool := x.f0.toList == s.toList

theorem idxPack_is (p : S149 → Option Bool) (q : S149 → Bool) (h : ∀ x, p x = some (q x)) : ∀ (l : List S149) (i : Int), impl_Pack_135.f p l i = some (firstOf q l i)
  | [], _ => rfl
  | x :: xs, i => by
    unfold impl_Pack_135.f firstOf
    rw [h x, idxPack_is p q h xs (i + 1)]
    simp only [Option.bind_some]
    cases q x <;> simp

theorem contPack_is (p : S149 → Option Bool) (q : S149 → Bool) (h : ∀ x, p x = some (q x)) (l : List S149) : impl_Pack_137.f p l = some (decide (firstOf q l 0 ≥ 0)) := by
  unfold impl_Pack_137.f
  rw [idxPack_is p q h]
  rfl

theorem p1_is (p x : S149) : impl_packUnits.p1 p x = some (named p.f1 x) := by
  unfold impl_packUnits.p1 impl_packUnits_1.f named
  rfl
theorem p2_is (p x : S149) : impl_packUnits.p2 p x = some (named p.f0 x) := by
  unfold impl_packUnits.p2 impl_packUnits_2.f named
  rfl

theorem find_loop (l : List S149) (s : ByteArray) (hl : l.length ≤ 30) : ∀ d i k, i + d = l.length → d < k → spec_l02Find.l0 k l s (i : Int) = some (firstOf (named s) (l.drop i) (i : Int)) := by
  intro d
  induction d with
  | zero =>
    intro i k h hk
    obtain ⟨k, rfl⟩ : ∃ m, k = m + 1 := ⟨k - 1, by omega⟩
    rw [spec_l02Find.l0, if_neg (by omega), List.drop_eq_nil_of_le (by omega)]; rfl
  | succ d ih =>
    intro i k h hk
    obtain ⟨k, rfl⟩ : ∃ m, k = m + 1 := ⟨k - 1, by omega⟩
    have := ih (i + 1) k (by omega) (by omega)
    have w : wrap64 ((i : Int) + 1) = ((i + 1 : Nat) : Int) := by rw [w64 (by omega) (by omega)]; omega
    rw [spec_l02Find.l0, if_pos (by omega), if_pos (by omega), rdBPack (by omega), List.drop_eq_getElem_cons (by omega : i < l.length), firstOf, w, this]
    rw [show ((i + 1 : Nat) : Int) = (i : Int) + 1 by omega]
    unfold named
    by_cases h0 : (l[i]).f0.toList = s.toList
    · rw [if_pos h0, if_pos (by simpa using h0)]
    · rw [if_neg h0, if_neg (by simpa using h0)]

theorem find_is (l : List S149) (s : ByteArray) (hl : l.length ≤ 30) (k : Nat) (hk : 31 ≤ k) : spec_l02Find.f k l s = some (firstOf (named s) l 0) := by
  unfold spec_l02Find.f
  have := find_loop l s hl l.length 0 k (by omega) (by omega)
  simpa using this

/-- What the packs come to: sizes, error, name. -/
def packGo (rows : List S149) : List S149 → Nat → List Int → List Int × Int × ByteArray
  | [], _, out => (out, 0, ⟨#[]⟩)
  | p :: rest, i, out =>
    if nameB p.f0 = true ∧ 1 ≤ p.f2 ∧ p.f2 ≤ 1000 then
      if firstOf (named p.f0) (rows.take i) 0 ≥ 0 then ([], 7, p.f0)
      else if p.f1.toList = ([] : List UInt8) then packGo rows rest (i + 1) (out ++ [p.f2])
      else if firstOf (named p.f1) (rows.take i) 0 < 0 then ([], 6, p.f0)
      else if p.f2 * rd out (firstOf (named p.f1) (rows.take i) 0) > 1000000 then ([], 11, p.f0)
      else packGo rows rest (i + 1) (out ++ [p.f2 * rd out (firstOf (named p.f1) (rows.take i) 0)])
    else ([], 1, p.f0)

def Units (out : List Int) : Prop := ∀ x ∈ out, 1 ≤ x ∧ x ≤ 1000000

theorem rd_unit {out : List Int} (h : Units out) {i : Int} (h0 : 0 ≤ i) (h1 : i < out.length) : 1 ≤ rd out i ∧ rd out i ≤ 1000000 := by
  apply h
  unfold rd
  rw [List.getD_eq_getElem?_getD, List.getElem?_eq_getElem (by omega : i.toNat < out.length)]
  exact List.getElem_mem _

theorem mul_bd {a b : Int} (h0 : 1 ≤ a) (h1 : a ≤ 1000) (k0 : 1 ≤ b) (k1 : b ≤ 1000000) : 1 ≤ a * b ∧ a * b ≤ 1000000000 := by
  constructor
  · have := Int.mul_le_mul h0 k0 (by omega) (by omega); simpa using this
  · have := Int.mul_le_mul h1 k1 (by omega) (by omega); simpa using this

theorem units_app {out : List Int} (h : Units out) {x : Int} (h0 : 1 ≤ x) (h1 : x ≤ 1000000) : Units (out ++ [x]) := by
  intro y hy
  rcases List.mem_append.1 hy with e | e
  · exact h y e
  · rw [List.mem_singleton.1 e]; exact ⟨h0, h1⟩

theorem pack_both (rows : List S149) (hr : rows.length ≤ 30) (k : Nat) (hk : 84 ≤ k) : ∀ (l : List S149) (i : Nat) (out : List Int), i + l.length = rows.length → out.length = i → Units out →
    impl_packUnits.go k rows l i out = some (packGo rows l i out) ∧ spec_PackUnits.go k rows l i out = some (packGo rows l i out)
  | [], _, _, _, _, _ => ⟨rfl, rfl⟩
  | p :: rest, i, out, hi, ho, hu => by
    have ih := fun x (h0 : 1 ≤ x) (h1 : x ≤ 1000000) => pack_both rows hr k hk rest (i + 1) (out ++ [x]) (by rw [List.length_cons] at hi; omega) (by rw [List.length_append]; simp; omega) (units_app hu h0 h1)
    rw [impl_packUnits.go_cons, spec_PackUnits.go_cons, packGo]
    unfold impl_packUnits.one spec_PackUnits.one
    rw [List.length_cons] at hi
    have ht : (rows.take i).length = i := by rw [List.length_take]; omega
    rw [idxPack_is _ _ (p1_is p), contPack_is _ _ (p2_is p), (name_both p.f0 k hk).1, (name_both p.f0 k hk).2, within_b, in1_is, find_is _ _ (by omega) k (by omega), find_is _ _ (by omega) k (by omega)]
    simp only [Option.bind_some]
    have hb := firstOf_bd (named p.f1) (rows.take i) 0 (by omega)
    rw [ht] at hb
    generalize firstOf (named p.f0) (rows.take i) 0 = a
    generalize firstOf (named p.f1) (rows.take i) 0 = b at *
    cases hn : nameB p.f0
    · simp
    by_cases h2 : 1 ≤ p.f2 ∧ p.f2 ≤ 1000
    · rw [decide_eq_true h2, if_pos rfl, if_pos rfl, if_pos rfl, if_pos rfl, if_pos (show true = true ∧ 1 ≤ p.f2 ∧ p.f2 ≤ 1000 from ⟨rfl, h2⟩)]
      by_cases ha : a ≥ 0
      · rw [decide_eq_true ha, if_pos rfl, if_pos ha, if_pos ha]; exact ⟨rfl, rfl⟩
      · rw [decide_eq_false ha, if_neg (by decide), if_neg ha, if_neg ha]
        by_cases he : p.f1.toList = ([] : List UInt8)
        · rw [if_pos he, if_pos he, if_pos he]
          unfold impl_packUnits.fin spec_PackUnits.fin
          have hA : ¬ (p.f2 > 1000000) := by omega
          have hB : out.length < 17592186044416 := by omega
          rw [w64 (x := p.f2) (by omega) (by omega), if_neg hA, if_neg hA, if_pos hB, if_pos hB]
          exact ih p.f2 (by omega) (by omega)
        · rw [if_neg he, if_neg he, if_neg he]
          by_cases hb0 : b < 0
          · rw [if_pos hb0, if_pos hb0, if_pos hb0]; exact ⟨rfl, rfl⟩
          · have hC : b < (out.length : Int) := by omega
            have hB : out.length < 17592186044416 := by omega
            rw [if_neg hb0, if_neg hb0, if_neg hb0, if_pos hC, if_pos hC]
            have hx := rd_unit hu (i := b) (by omega) (by omega)
            have hm := mul_bd h2.1 h2.2 hx.1 hx.2
            unfold impl_packUnits.fin spec_PackUnits.fin
            rw [Int.mul_comm (rd out b) p.f2, w64 (x := p.f2 * rd out b) (by omega) (by omega)]
            by_cases hv : p.f2 * rd out b > 1000000
            · rw [if_pos hv, if_pos hv, if_pos hv]; exact ⟨rfl, rfl⟩
            · rw [if_neg hv, if_neg hv, if_neg hv, if_pos hB, if_pos hB]
              exact ih _ hm.1 (by omega)
    · rw [decide_eq_false h2]
      simp [h2]

def packB (l : List S149) : List Int × Int × ByteArray := if l.length > 4096 then ([], 2, ⟨#[]⟩) else if l.length > 30 then ([], 9, ⟨#[]⟩) else packGo l l 0 []

theorem packGo_units (rows : List S149) : ∀ (l : List S149) (i : Nat) (out : List Int), Units out → out.length = i → Units (packGo rows l i out).1 ∧ (packGo rows l i out).1.length ≤ i + l.length ∧ ((packGo rows l i out).2.1 = 0 → (packGo rows l i out).1.length = i + l.length)
  | [], _, _, hu, ho => ⟨hu, by simp [packGo, ho], fun _ => by simp [packGo, ho]⟩
  | p :: rest, i, out, hu, ho => by
    have ih := fun x (h0 : 1 ≤ x) (h1 : x ≤ 1000000) => packGo_units rows rest (i + 1) (out ++ [x]) (units_app hu h0 h1) (by rw [List.length_append]; simp; omega)
    have he : ∀ (c : Int) (s : ByteArray), c ≠ 0 → Units (([], c, s) : List Int × Int × ByteArray).1 ∧ (([], c, s) : List Int × Int × ByteArray).1.length ≤ i + (p :: rest).length ∧ ((([], c, s) : List Int × Int × ByteArray).2.1 = 0 → (([], c, s) : List Int × Int × ByteArray).1.length = i + (p :: rest).length) := fun c s hc => ⟨fun x hx => by simp at hx, by simp, fun h => absurd h hc⟩
    have hc : ∀ x, 1 ≤ x → x ≤ 1000000 → Units (packGo rows rest (i + 1) (out ++ [x])).1 ∧ (packGo rows rest (i + 1) (out ++ [x])).1.length ≤ i + (p :: rest).length ∧ ((packGo rows rest (i + 1) (out ++ [x])).2.1 = 0 → (packGo rows rest (i + 1) (out ++ [x])).1.length = i + (p :: rest).length) := by
      intro x h0 h1
      have := ih x h0 h1
      rw [List.length_cons, show i + (rest.length + 1) = i + 1 + rest.length by omega]
      exact this
    rw [packGo]
    by_cases h1 : nameB p.f0 = true ∧ 1 ≤ p.f2 ∧ p.f2 ≤ 1000
    · rw [if_pos h1]
      by_cases h2 : firstOf (named p.f0) (rows.take i) 0 ≥ 0
      · rw [if_pos h2]; exact he _ _ (by decide)
      · rw [if_neg h2]
        by_cases h3 : p.f1.toList = ([] : List UInt8)
        · rw [if_pos h3]; exact hc _ (by omega) (by omega)
        · rw [if_neg h3]
          by_cases h4 : firstOf (named p.f1) (rows.take i) 0 < 0
          · rw [if_pos h4]; exact he _ _ (by decide)
          · rw [if_neg h4]
            by_cases h5 : p.f2 * rd out (firstOf (named p.f1) (rows.take i) 0) > 1000000
            · rw [if_pos h5]; exact he _ _ (by decide)
            · rw [if_neg h5]
              have hb := firstOf_bd (named p.f1) (rows.take i) 0 (by omega)
              have hx := rd_unit hu (i := firstOf (named p.f1) (rows.take i) 0) (by omega) (by rw [List.length_take] at hb; omega)
              have hm := mul_bd h1.2.1 h1.2.2 hx.1 hx.2
              exact hc _ hm.1 (by omega)
    · rw [if_neg h1]; exact he _ _ (by decide)

theorem packs_both (l : List S149) (k : Nat) (hk : 84 ≤ k) : impl_PackUnits.f k l = some (packB l) ∧ spec_PackUnits.f k l = some (packB l) := by
  unfold impl_PackUnits.f impl_Pack_107.f impl_packUnits.f spec_PackUnits.f packB
  by_cases h : (l.length : Int) > 4096
  · have h' : l.length > 4096 := by omega
    rw [decide_eq_false (show ¬ ((l.length : Int) ≤ 4096) by omega), if_pos h, if_pos h']
    exact ⟨rfl, rfl⟩
  · have h' : ¬ l.length > 4096 := by omega
    rw [decide_eq_true (show ((l.length : Int) ≤ 4096) by omega), if_neg h, if_neg h']
    by_cases g : (l.length : Int) > 30
    · have g' : l.length > 30 := by omega
      rw [if_pos g, if_pos g, if_pos g']; exact ⟨rfl, rfl⟩
    · have g' : ¬ l.length > 30 := by omega
      rw [if_neg g, if_neg g, if_neg g']
      have := pack_both l (by omega) k hk l 0 [] (by omega) rfl (fun x hx => by simp at hx)
      rw [this.1, this.2]
      exact ⟨rfl, rfl⟩

theorem packB_ok (l : List S149) : Units (packB l).1 ∧ (packB l).1.length ≤ 30 ∧ ((packB l).2.1 = 0 → (packB l).1.length = l.length ∧ l.length ≤ 30) := by
  unfold packB
  by_cases h : l.length > 4096
  · rw [if_pos h]; exact ⟨fun x hx => by simp at hx, by simp, fun h => absurd h (by decide)⟩
  · rw [if_neg h]
    by_cases g : l.length > 30
    · rw [if_pos g]; exact ⟨fun x hx => by simp at hx, by simp, fun h => absurd h (by decide)⟩
    · rw [if_neg g]
      have := packGo_units l l 0 [] (fun x hx => by simp at hx) rfl
      exact ⟨this.1, by omega, fun h => ⟨by have := this.2.2 h; omega, by omega⟩⟩

theorem markPack_loop : ∀ (d i : Nat) (l : List S149) (a : Int), i + d = l.length → 0 ≤ a → a + 3 * d ≤ 1000000000 → l.length ≤ 1000000000 → ∀ k, d + 20 < k → ∃ n l', laws_markPackS.l0 k l a (i : Int) = some (n, l') ∧ 0 ≤ n := by
  intro d
  induction d with
  | zero =>
    intro i l a hi h0 h1 hl k hk
    obtain ⟨k, rfl⟩ : ∃ m, k = m + 1 := ⟨k - 1, by omega⟩
    rw [laws_markPackS.l0, if_neg (by omega)]
    exact ⟨_, _, rfl, h0⟩
  | succ d ih =>
    intro i l a hi h0 h1 hl k hk
    obtain ⟨k, rfl⟩ : ∃ m, k = m + 1 := ⟨k - 1, by omega⟩
    rw [laws_markPackS.l0, if_pos (by omega), w64 (x := a + 1) (by omega) (by omega), w64 (x := a + 1 + 1) (by omega) (by omega), w64 (x := a + 1 + 1 + 1) (by omega) (by omega), w64 (x := (i : Int) + 1) (by omega) (by omega)]
    obtain ⟨t1, e1⟩ := markText_any a (by omega) k (by omega)
    obtain ⟨t2, e2⟩ := markText_any (a + 1) (by omega) k (by omega)
    rw [e1, e2]
    simp only [Option.bind_some]
    rw [if_pos (by omega)]
    generalize hz : List.set _ _ _ = l2
    have hlen : l2.length = l.length := by rw [← hz]; simp only [List.length_set]
    have := ih (i + 1) l2 (a + 1 + 1 + 1) (by omega) (by omega) (by omega) (by omega) k (by omega)
    rwa [show ((i + 1 : Nat) : Int) = (i : Int) + 1 by omega] at this

theorem markPack_any (l : List S149) (h : l.length ≤ 2000000) (k : Nat) (hk : l.length + 20 < k) : ∃ n l', laws_markPackS.f k l 1 = some (n, l') ∧ 0 ≤ n := by
  unfold laws_markPackS.f
  have := markPack_loop l.length 0 l 1 (by omega) (by omega) (by omega) (by omega) k hk
  simpa using this

end Go.Proofs.Ytookjankaanhlaa
