/- A number's text: the program reads it with the library and asks for its own text back, the reference reads it digit by digit; both take the same texts. -/
import Derived.Test.YthhhmcijbplcoaaGreatDoorPFnRulesx3
import Derived.Test.YthhhmcijbplcoaaGreatDoorNumber
import Derived.Lib.AtoiAll
namespace Go.Proofs.YthhhmcijbplcoaaGreatDoor
open Go.RowKit Go.Proofs.YthhhmcijbplcoaaGreatDoor.PFnRules Go.Proofs.YthhhmcijbplcoaaGreatDoorW.PrintWords Go.Proofs.YthhhmcijbplcoaaGreatDoorW.PrintLast

theorem parse_dec : ∀ (W : List UInt8) (acc v : Nat), W.all dg1 = true → Lib.decFrom acc W = some v → v < 1000000000000000000 → Lib.parseUint10 acc W = .ok v
  | [], acc, v, _, h, _ => by rw [Lib.decFrom] at h; rw [Lib.parseUint10, Option.some.inj h]
  | c :: r, acc, v, hd, h, hv => by
    rw [List.all_cons, Bool.and_eq_true] at hd
    have hc := dg1_iff.1 hd.1
    rw [Lib.decFrom, digitVal_of hd.1] at h
    have h' : Lib.decFrom (acc * 10 + (c.toNat - 48)) r = some v := h
    have hge : ∀ (l : List UInt8) (a b : Nat), Lib.decFrom a l = some b → a ≤ b := fun l => by
      induction l with
      | nil => intro a b e; rw [Lib.decFrom] at e; exact Nat.le_of_eq (Option.some.inj e)
      | cons x xs ih =>
        intro a b e
        rw [Lib.decFrom] at e
        cases hx : Lib.digitVal x with
        | none => rw [hx] at e; cases e
        | some d => rw [hx] at e; have := ih _ _ e; omega
    have := hge _ _ _ h'
    rw [Lib.parseUint10, if_pos hc, if_neg (by omega), if_neg (by omega)]
    exact parse_dec r _ v hd.2 h' hv
theorem dec18 {W : List UInt8} (h : W.all dg1 = true) (h18 : W.length ≤ 18) : dec W < 1000000000000000000 := by
  have h1 := dec_lt h
  have h2 : 10 ^ W.length ≤ 10 ^ 18 := Nat.pow_le_pow_right (by omega) h18
  omega
theorem head_dg {W : List UInt8} {c : UInt8} (h : W.all dg1 = true) (hc : W.head? = some c) : 48 ≤ c.toNat ∧ c.toNat ≤ 57 := by
  cases W with
  | nil => cases hc
  | cons a b =>
    obtain rfl := Option.some.inj hc
    rw [List.all_cons, Bool.and_eq_true] at h
    exact dg1_iff.1 h.1
theorem parse_mag {W : List UInt8} (h : isNum W) (h18 : W.length ≤ 18) : Lib.parseMag W = .ok (dec W) := by
  unfold Lib.parseMag
  rw [if_neg h.2.1]
  exact parse_dec W 0 _ h.1 (dec_is h.1) (dec18 h.1 h18)
theorem dec_text' {W : List UInt8} (h : isNum W) : Lib.decDigits (dec W) = W := num_text h (dec_is h.1)
/-- A right number's text is read. -/
theorem readNum_good (l : List UInt8) (h : (numS l).2 = true) : impl_readNumber.f (bs l) = some ((numS l).1, true) := by
  unfold numS at h ⊢
  by_cases c : l.head? = some 45
  · rw [if_pos c] at h ⊢
    cases l with
    | nil => cases c
    | cons a W =>
      obtain rfl := Option.some.inj c
      rw [List.tail_cons] at h ⊢
      unfold numAt at h ⊢
      split at h
      · rename_i g
        rw [if_pos g]
        obtain ⟨hn, h18, hz⟩ := g
        have hd := dec18 hn.1 h18
        have h48 : W.head? ≠ some 48 := fun e => hz ⟨by omega, e⟩
        have h1 : 1 ≤ dec W := (dec_text W.length W (dec W) rfl hn.1 h48 hn.2.1 (dec_is hn.1)).1
        have ha : Lib.atoiAll (45 :: W) = .ok (-(dec W : Int)) := by
          unfold Lib.atoiAll
          simp only []
          rw [if_pos (by decide), parse_mag hn h18]
          simp only []
          rw [if_neg (fun h => h.1 rfl), if_neg (by omega), if_pos (show (45 : UInt8).toNat = 45 from rfl)]
        unfold impl_readNumber.f
        rw [bs_size, List.length_cons, if_neg (by omega), bs_list, ha]
        simp only []
        rw [if_pos (by omega)]
        have hi : Lib.itoa (-(dec W : Int)) = 45 :: W := by
          unfold Lib.itoa
          rw [if_pos (by omega), show (-(dec W : Int)).natAbs = dec W by omega, dec_text' hn]
        have ht : Lib.trimPrefix (45 :: W) [45] = W := by
          unfold Lib.trimPrefix Lib.hasPrefix
          rw [if_pos (by simp [List.isPrefixOf])]; rfl
        have hf : impl_readNumber.fine (bs (45 :: W)) (-(dec W : Int)) = true := by
          unfold impl_readNumber.fine
          rw [bs_toList, bs_list, hi, ht, decide_eq_true rfl, Bool.true_and]
          refine decide_eq_true ?_
          have : (⟨W.toArray⟩ : ByteArray).size = W.length := bs_size W
          rw [this]; omega
        rw [hf, w64 (x := -1 * (dec W : Int)) (by omega) (by omega), show -1 * (dec W : Int) = -(dec W : Int) by omega]
      · cases h
  · rw [if_neg c] at h ⊢
    unfold numAt at h ⊢
    split at h
    · rename_i g
      rw [if_pos g]
      obtain ⟨hn, h18, _⟩ := g
      have hd := dec18 hn.1 h18
      obtain ⟨a, b, rfl⟩ : ∃ a b, l = a :: b := by
        cases l with
        | nil => exact absurd rfl hn.2.1
        | cons a b => exact ⟨a, b, rfl⟩
      have ha48 := head_dg hn.1 (c := a) rfl
      have ha : Lib.atoiAll (a :: b) = .ok (dec (a :: b) : Int) := by
        unfold Lib.atoiAll
        simp only []
        rw [if_neg (by omega), parse_mag hn h18]
        simp only []
        rw [if_neg (by omega), if_neg (by omega), if_neg (by omega)]
      unfold impl_readNumber.f
      rw [bs_size, if_neg (by omega), bs_list, ha]
      simp only []
      rw [if_pos (by omega)]
      have hi : Lib.itoa (dec (a :: b) : Int) = a :: b := by
        unfold Lib.itoa
        rw [if_neg (by omega), Int.toNat_natCast, dec_text' hn]
      have ht : Lib.trimPrefix (a :: b) [45] = a :: b := by
        unfold Lib.trimPrefix Lib.hasPrefix
        rw [if_neg]
        simp only [List.isPrefixOf, Bool.and_true, beq_iff_eq]
        intro e
        rw [← e] at ha48
        have : (45 : UInt8).toNat = 45 := rfl
        omega
      have hf : impl_readNumber.fine (bs (a :: b)) (dec (a :: b) : Int) = true := by
        unfold impl_readNumber.fine
        rw [bs_toList, bs_list, hi, ht, decide_eq_true rfl, Bool.true_and]
        refine decide_eq_true ?_
        have : (⟨(a :: b).toArray⟩ : ByteArray).size = (a :: b).length := bs_size (a :: b)
        rw [this]; omega
      rw [hf, w64 (x := 1 * (dec (a :: b) : Int)) (by omega) (by omega), Int.one_mul]
    · cases h
/-- What the program takes for a number is one. -/
theorem readNum_only (l : List UInt8) (v : Int) (hi : Lib.itoa v = l) (ht : (Lib.trimPrefix l [45]).length ≤ 18) : (numS l).2 = true := by
  unfold Lib.itoa at hi
  by_cases c : v < 0
  · rw [if_pos c] at hi
    obtain ⟨u, hu⟩ : ∃ u, u = v.natAbs := ⟨_, rfl⟩
    have h1 : 1 ≤ u := by omega
    rw [← hu] at hi
    subst hi
    have hn := digits_num u u (Nat.le_refl _)
    unfold numS
    rw [if_pos (show (45 :: Lib.decDigits u).head? = some 45 from rfl), List.tail_cons]
    unfold numAt
    have e : Lib.trimPrefix (45 :: Lib.decDigits u) [45] = Lib.decDigits u := by
      unfold Lib.trimPrefix Lib.hasPrefix
      rw [if_pos (by simp [List.isPrefixOf])]; rfl
    rw [e] at ht
    rw [if_pos ⟨hn.1, ht, fun h => hn.2.2 h1 h.2⟩]
  · rw [if_neg c] at hi
    obtain ⟨u, hu⟩ : ∃ u, u = v.toNat := ⟨_, rfl⟩
    rw [← hu] at hi
    subst hi
    have hn := digits_isNum u
    have hne : (Lib.decDigits u).head? ≠ some 45 := fun e => by
      have := head_dg hn.1 e
      have : (45 : UInt8).toNat = 45 := rfl
      omega
    unfold numS
    rw [if_neg hne]
    unfold numAt
    have e : Lib.trimPrefix (Lib.decDigits u) [45] = Lib.decDigits u := by
      unfold Lib.trimPrefix Lib.hasPrefix
      rw [if_neg]
      intro h
      cases hl : Lib.decDigits u with
      | nil => rw [hl] at h; simp [List.isPrefixOf] at h
      | cons a b =>
        rw [hl] at h hne
        simp only [List.isPrefixOf, Bool.and_true, beq_iff_eq] at h
        exact hne (by rw [← h]; rfl)
    rw [e] at ht
    rw [if_pos ⟨hn, ht, fun h => by omega⟩]
theorem readNum_is (l : List UInt8) : ∃ n ok, impl_readNumber.f (bs l) = some (n, ok) ∧ ok = (numS l).2 ∧ (ok = true → n = (numS l).1) := by
  cases hS : (numS l).2 with
  | true => exact ⟨_, _, readNum_good l hS, rfl, fun _ => rfl⟩
  | false =>
    have hall : ∃ n ok, impl_readNumber.f (bs l) = some (n, ok) ∧ (ok = true → ∃ v, Lib.itoa v = l ∧ (Lib.trimPrefix l [45]).length ≤ 18) := by
      unfold impl_readNumber.f
      split
      · exact ⟨_, _, rfl, fun h => by cases h⟩
      · rw [bs_list]
        cases hE : Lib.atoiAll l
        · rename_i v
          simp only []
          have hb : -9223372036854775808 ≤ v ∧ v ≤ 9223372036854775807 := by
            unfold Lib.atoiAll at hE
            cases l with
            | nil => cases hE
            | cons c r =>
              simp only [] at hE
              split at hE
              · cases hE
              · cases hE
              · split at hE
                · cases hE
                · split at hE
                  · cases hE
                  · injection hE with hE
                    split at hE <;> omega
          rw [if_pos hb]
          refine ⟨_, _, rfl, fun h => ⟨v, ?_⟩⟩
          unfold impl_readNumber.fine at h
          rw [Bool.and_eq_true, bs_toList, bs_list] at h
          have h2 := of_decide_eq_true h.2
          have : (⟨(Lib.trimPrefix l [45]).toArray⟩ : ByteArray).size = (Lib.trimPrefix l [45]).length := bs_size _
          rw [this] at h2
          exact ⟨of_decide_eq_true h.1, by omega⟩
        · exact ⟨_, _, rfl, fun h => by cases h⟩
        · exact ⟨_, _, rfl, fun h => by cases h⟩
    obtain ⟨n, ok, e, h⟩ := hall
    refine ⟨n, ok, e, ?_, fun g => ?_⟩
    · cases ok with
      | false => rfl
      | true => obtain ⟨v, h1, h2⟩ := h rfl; rw [readNum_only l v h1 h2] at hS; cases hS
    · subst g; obtain ⟨v, h1, h2⟩ := h rfl; rw [readNum_only l v h1 h2] at hS; cases hS

end Go.Proofs.YthhhmcijbplcoaaGreatDoor
