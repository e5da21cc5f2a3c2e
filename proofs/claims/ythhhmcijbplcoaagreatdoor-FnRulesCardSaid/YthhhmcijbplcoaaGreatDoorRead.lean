/- A rule's words: the program and the reference read the same rule out of them, or both none. -/
import Derived.Test.YthhhmcijbplcoaaGreatDoorPFnRulesx0
import Derived.Test.YthhhmcijbplcoaaGreatDoorPFnRulesx2
import Derived.Test.YthhhmcijbplcoaaGreatDoorPFnRulesx3
import Derived.Test.YthhhmcijbplcoaaGreatDoorPFnRulesx9
import Derived.Test.YthhhmcijbplcoaaGreatDoorBase
import Derived.Test.YthhhmcijbplcoaaGreatDoorReadNum
namespace Go.Proofs.YthhhmcijbplcoaaGreatDoor
open Go.RowKit Go.Proofs.YthhhmcijbplcoaaGreatDoor.PFnRules Go.Proofs.YthhhmcijbplcoaaGreatDoorW.PrintWords Go.Proofs.YthhhmcijbplcoaaGreatDoorW.PrintLast

abbrev WTHEN : List UInt8 := [116, 104, 101, 110]
abbrev WDENY : List UInt8 := [100, 101, 110, 121]
abbrev WPCT : List UInt8 := [112, 101, 114, 99, 101, 110, 116]
abbrev WOFF : List UInt8 := [111, 102, 102]
abbrev RuleR := ByteArray × (List S66) × Int × Int × Bool
def nS (t : ByteArray) : Int × Bool := numS t.data.toList
theorem readNum_t (t : ByteArray) : ∃ n, impl_readNumber.f t = some (n, (nS t).2) ∧ ((nS t).2 = true → n = (nS t).1) := by
  obtain ⟨n, ok, e, h1, h2⟩ := readNum_is t.data.toList
  rw [bs_back] at e
  subst h1
  exact ⟨n, e, h2⟩
theorem rdO {l : List ByteArray} {i : Nat} (h : i < l.length) : rdOf ByteArray.empty l (i : Int) = l[i] := by
  unfold rdOf
  rw [Int.toNat_natCast, List.getD_eq_getElem?_getD, List.getElem?_eq_getElem h]; rfl

/-- The two searches of a word in a list. -/
def sIx : List ByteArray → ByteArray → Int → Int
  | [], _, _ => 0
  | a :: r, x, i => if a.toList = x.toList then i else sIx r x (i + 1)
def iIx : List ByteArray → ByteArray → Int → Int
  | [], _, _ => -1
  | a :: r, x, i => if x.toList = a.toList then i else iIx r x (i + 1)
theorem index_loop (L : List ByteArray) (x : ByteArray) (hl : L.length ≤ 100) : ∀ d i k, i + d = L.length → d < k → slices_Index_string_string.l0 k L x (L.length : Int) (i : Int) = some (iIx (L.drop i) x (i : Int)) := by
  intro d
  induction d with
  | zero =>
    intro i k hi hk
    obtain ⟨k, rfl⟩ : ∃ m, k = m + 1 := ⟨k - 1, by omega⟩
    rw [slices_Index_string_string.l0, if_neg (by omega), List.drop_eq_nil_of_le (by omega)]; rfl
  | succ d ih =>
    intro i k hi hk
    obtain ⟨k, rfl⟩ : ∃ m, k = m + 1 := ⟨k - 1, by omega⟩
    have hil : i < L.length := by omega
    have := ih (i + 1) k (by omega) (by omega)
    rw [show ((i + 1 : Nat) : Int) = (i : Int) + 1 by omega] at this
    rw [slices_Index_string_string.l0, if_pos (by omega), if_pos (by omega), if_pos (by omega), rdO hil, List.drop_eq_getElem_cons hil, iIx, w64 (x := (i : Int) + 1) (by omega) (by omega), this]
    split <;> rfl
theorem ix_rel (x : ByteArray) : ∀ (r : List ByteArray) (i : Int), 1 ≤ i → (sIx r x i = 0 ∧ iIx r x i = -1) ∨ (sIx r x i = iIx r x i ∧ i ≤ sIx r x i ∧ sIx r x i < i + r.length)
  | [], _, _ => .inl ⟨rfl, rfl⟩
  | a :: r, i, hi => by
    rw [sIx, iIx]
    by_cases e : a.toList = x.toList
    · rw [if_pos e, if_pos e.symm]
      exact .inr ⟨rfl, Int.le_refl _, by simp only [List.length_cons]; omega⟩
    · rw [if_neg e, if_neg (fun h => e h.symm)]
      rcases ix_rel x r (i + 1) (by omega) with h | ⟨h1, h2, h3⟩
      · exact .inl h
      · exact .inr ⟨h1, by omega, by simp only [List.length_cons]; omega⟩
theorem sIx_none (x : ByteArray) (hx : x.toList = []) : ∀ (r : List ByteArray) (i : Int), (∀ a ∈ r, a.toList ≠ []) → sIx r x i = 0
  | [], _, _ => rfl
  | a :: r, i, h => by
    rw [sIx, if_neg (by rw [hx]; exact h a List.mem_cons_self)]
    exact sIx_none x hx r (i + 1) (fun b hb => h b (List.mem_cons_of_mem _ hb))
theorem nil_toList : (⟨#[]⟩ : ByteArray).toList = [] := bs_toList []
theorem ix_both (x : ByteArray) (r : List ByteArray) (hr : ∀ a ∈ r, a.toList ≠ []) : (sIx r x 1 = 0 ∧ iIx (⟨#[]⟩ :: r) x 0 ≤ 0) ∨ (sIx r x 1 = iIx (⟨#[]⟩ :: r) x 0 ∧ 1 ≤ sIx r x 1 ∧ sIx r x 1 < 1 + r.length) := by
  rw [iIx, nil_toList]
  by_cases hx : x.toList = []
  · rw [if_pos hx]
    exact .inl ⟨sIx_none x hx r 1 hr, Int.le_refl _⟩
  · rw [if_neg hx]
    rcases ix_rel x r 1 (by omega) with ⟨h1, h2⟩ | h
    · exact .inl ⟨h1, by rw [show (0 : Int) + 1 = 1 by omega, h2]; omega⟩
    · exact .inr h

abbrev FT : List ByteArray := [(⟨#[113, 116, 121]⟩ : ByteArray), (⟨#[97, 109, 111, 117, 110, 116]⟩ : ByteArray), (⟨#[104, 111, 117, 114]⟩ : ByteArray), (⟨#[100, 97, 121]⟩ : ByteArray), (⟨#[97, 103, 101]⟩ : ByteArray)]
abbrev OT : List ByteArray := [(⟨#[62, 61]⟩ : ByteArray), (⟨#[60, 61]⟩ : ByteArray), (⟨#[61]⟩ : ByteArray)]
abbrev AT : List ByteArray := [(⟨#[112, 101, 114, 99, 101, 110, 116]⟩ : ByteArray), (⟨#[111, 102, 102]⟩ : ByteArray)]
theorem lit_toList (l : List UInt8) : (⟨l.toArray⟩ : ByteArray).toList = l := bs_toList l
theorem FT_ne : ∀ a ∈ FT, a.toList ≠ [] := by
  intro a ha
  simp only [FT, List.mem_cons, List.mem_nil_iff, or_false] at ha
  rcases ha with rfl | rfl | rfl | rfl | rfl
  · rw [lit_toList [113, 116, 121]]; simp
  · rw [lit_toList [97, 109, 111, 117, 110, 116]]; simp
  · rw [lit_toList [104, 111, 117, 114]]; simp
  · rw [lit_toList [100, 97, 121]]; simp
  · rw [lit_toList [97, 103, 101]]; simp
theorem OT_ne : ∀ a ∈ OT, a.toList ≠ [] := by
  intro a ha
  simp only [OT, List.mem_cons, List.mem_nil_iff, or_false] at ha
  rcases ha with rfl | rfl | rfl
  · rw [lit_toList [62, 61]]; simp
  · rw [lit_toList [60, 61]]; simp
  · rw [lit_toList [61]]; simp
theorem AT_ne : ∀ a ∈ AT, a.toList ≠ [] := by
  intro a ha
  simp only [AT, List.mem_cons, List.mem_nil_iff, or_false] at ha
  rcases ha with rfl | rfl
  · rw [lit_toList [112, 101, 114, 99, 101, 110, 116]]; simp
  · rw [lit_toList [111, 102, 102]]; simp
theorem index_is (r : List ByteArray) (x : ByteArray) (hl : r.length ≤ 50) (k : Nat) (hk : 60 ≤ k) : slices_Index_string_string.f k (⟨#[]⟩ :: r) x = some (iIx (⟨#[]⟩ :: r) x 0) := by
  unfold slices_Index_string_string.f
  exact index_loop (⟨#[]⟩ :: r) x (by simp only [List.length_cons]; omega) (r.length + 1) 0 k (by simp only [List.length_cons]; omega) (by omega)

def sF (a : ByteArray) : Int := sIx FT a 1
def sO (b : ByteArray) : Int := sIx OT b 1
def okT (a b n : ByteArray) : Bool := (nS n).2 && (decide (sF a ≠ 0) && decide (sO b ≠ 0))
theorem okT_bd {a b n : ByteArray} (h : okT a b n = true) : (1 ≤ sF a ∧ sF a ≤ 5) ∧ 1 ≤ sO b ∧ sO b ≤ 3 := by
  unfold okT at h
  rw [Bool.and_eq_true, Bool.and_eq_true] at h
  have h1 := of_decide_eq_true h.2.1
  have h2 := of_decide_eq_true h.2.2
  unfold sF at *
  unfold sO at *
  have e1 := ix_both a FT FT_ne
  have e2 := ix_both b OT OT_ne
  have l1 : FT.length = 5 := rfl
  have l2 : OT.length = 3 := rfl
  rw [l1] at e1
  rw [l2] at e2
  refine ⟨?_, ?_⟩
  · rcases e1 with e | e
    · exact absurd e.1 h1
    · omega
  · rcases e2 with e | e
    · exact absurd e.1 h2
    · omega
theorem term_impl (a b n : ByteArray) (k : Nat) (hk : 60 ≤ k) : ∃ t1 t2 v, impl_termOf.f k [a, b, n] = some (t1, t2, v, okT a b n) ∧ (okT a b n = true → t1 = sF a ∧ t2 = sO b ∧ v = (nS n).1) := by
  obtain ⟨v, e, hv⟩ := readNum_t n
  have r2 : rdOf ByteArray.empty [a, b, n] 2 = n := rfl
  have r1 : rdOf ByteArray.empty [a, b, n] 1 = b := rfl
  have r0 : rdOf ByteArray.empty [a, b, n] 0 = a := rfl
  have hi1 := index_is FT a (by decide) k hk
  have hi2 := index_is OT b (by decide) k hk
  have e1 := ix_both a FT FT_ne
  have e2 := ix_both b OT OT_ne
  unfold impl_termOf.f impl_fieldWords.f impl_opWords.f
  rw [if_pos (by simp only [List.length_cons, List.length_nil]; omega), r2, e, Option.bind_some, Option.bind_some, if_pos (by simp only [List.length_cons, List.length_nil]; omega), r0, hi1, Option.bind_some, Option.bind_some, if_pos (by simp only [List.length_cons, List.length_nil]; omega), r1, hi2, Option.bind_some]
  unfold okT
  generalize iIx (⟨#[]⟩ :: FT) a 0 = i1 at *
  generalize iIx (⟨#[]⟩ :: OT) b 0 = i2 at *
  cases hn : (nS n).2 with
  | false =>
    rw [if_neg (by decide)]
    exact ⟨_, _, _, rfl, fun h => by cases h⟩
  | true =>
    have hv' := hv hn
    rw [if_pos rfl]
    by_cases c1 : i1 > 0
    · rw [if_pos c1]
      have f1 : sF a = i1 := by
        rcases e1 with h | h
        · omega
        · exact h.1
      refine ⟨i1, i2, v, ?_, fun h => ?_⟩
      · congr 4
        rw [f1, decide_eq_true (show i1 ≠ 0 by omega), Bool.true_and, Bool.true_and]
        show decide (i2 > 0) = decide (sIx OT b 1 ≠ 0)
        rcases e2 with h | h
        · rw [decide_eq_false (show ¬ i2 > 0 by omega), decide_eq_false (by rw [h.1]; exact fun h => h rfl)]
        · rw [decide_eq_true (show i2 > 0 by omega), decide_eq_true (by omega)]
      · rw [Bool.true_and, Bool.and_eq_true] at h
        have h2 := of_decide_eq_true h.2
        refine ⟨f1.symm, ?_, hv'⟩
        rcases e2 with g | g
        · exact absurd g.1 h2
        · exact g.1.symm
    · rw [if_neg c1]
      have f1 : sF a = 0 := by
        rcases e1 with h | h
        · exact h.1
        · omega
      have hz : (true && (decide (sF a ≠ 0) && decide (sO b ≠ 0))) = false := by
        rw [decide_eq_false (by rw [f1]; exact fun h => h rfl)]; rfl
      rw [hz]
      exact ⟨_, _, _, rfl, fun h => by cases h⟩

/-- What stands behind the terms. -/
def endV : List ByteArray → Option (Int × Int)
  | [w0, x] => if w0.toList = WTHEN ∧ x.toList = WDENY then some (3, 0) else none
  | [w0, x, n] => if w0.toList = WTHEN then (if x.toList = WPCT then (if (nS n).2 = true then some (1, (nS n).1) else none) else if x.toList = WOFF then (if (nS n).2 = true then some (2, (nS n).1) else none) else none) else none
  | _ => none
theorem endV2 (w0 x : ByteArray) : endV [w0, x] = if w0.toList = WTHEN ∧ x.toList = WDENY then some (3, 0) else none := rfl
theorem endV3 (w0 x n : ByteArray) : endV [w0, x, n] = if w0.toList = WTHEN then (if x.toList = WPCT then (if (nS n).2 = true then some (1, (nS n).1) else none) else if x.toList = WOFF then (if (nS n).2 = true then some (2, (nS n).1) else none) else none) else none := rfl
def Ends (e : Option (Int × Int)) (name : ByteArray) (acc : List S66) (s : RuleR) : Prop :=
  match e with | some p => s = (name, acc, p.1, p.2, true) | none => s.2.2.2.2 = false
theorem impl_endR (ws : List ByteArray) (name : ByteArray) (acc : List S66) (k : Nat) (hk : 70 ≤ k) : ∃ g, impl_clauseOf.j2 k ws false name acc 0 0 = some g ∧ Ends (endV ws) name acc g := by
  obtain ⟨k, rfl⟩ : ∃ m, k = m + 1 := ⟨k - 1, by omega⟩
  rw [impl_clauseOf.j2, if_neg (by decide)]
  cases ws with
  | nil => rw [if_pos (by decide)]; exact ⟨_, rfl, rfl⟩
  | cons w0 t =>
    have r0 : rdOf ByteArray.empty (w0 :: t) 0 = w0 := rfl
    rw [if_neg (by simp only [List.length_cons]; omega), if_pos (by simp only [List.length_cons]; omega), r0]
    by_cases ct : w0.toList = WTHEN
    · rw [if_pos ct, if_pos (by simp only [List.length_cons]; omega), List.drop_one, List.tail_cons]
      unfold impl_actOf.f
      match t with
      | [] => exact ⟨_, rfl, rfl⟩
      | [x] =>
        have r1 : rdOf ByteArray.empty [x] 0 = x := rfl
        rw [if_pos (by simp), if_pos (by simp), r1, Option.bind_some]
        refine ⟨_, rfl, ?_⟩
        rw [endV2]
        by_cases cd : x.toList = WDENY
        · rw [if_pos ⟨ct, cd⟩, beq_iff_eq.2 cd]; rfl
        · rw [if_neg (fun h => cd h.2), beq_eq_false_iff_ne.2 cd]; rfl
      | [x, n] =>
        have r1 : rdOf ByteArray.empty [x, n] 1 = n := rfl
        have r2 : rdOf ByteArray.empty [x, n] 0 = x := rfl
        obtain ⟨v, e, hv⟩ := readNum_t n
        have hi := index_is AT x (by decide) k (by omega)
        have eb := ix_both x AT AT_ne
        rw [if_neg (by simp), if_pos (by simp), if_pos (by simp), r1, e, Option.bind_some, if_pos (by simp), r2, hi, Option.bind_some]
        have hp : x.toList = WPCT → iIx (⟨#[]⟩ :: AT) x 0 = 1 := fun h => by
          rw [iIx, nil_toList, if_neg (by rw [h]; decide), iIx, lit_toList WPCT, if_pos h]; rfl
        have ho : ¬ x.toList = WPCT → x.toList = WOFF → iIx (⟨#[]⟩ :: AT) x 0 = 2 := fun h h2 => by
          rw [iIx, nil_toList, if_neg (by rw [h2]; decide), iIx, lit_toList WPCT, if_neg h, iIx, lit_toList WOFF, if_pos h2]; rfl
        have hno : ¬ x.toList = WPCT → ¬ x.toList = WOFF → iIx (⟨#[]⟩ :: AT) x 0 ≤ 0 := fun h h2 => by
          rw [iIx, nil_toList]
          split
          · omega
          · rw [iIx, lit_toList WPCT, if_neg h, iIx, lit_toList WOFF, if_neg h2, iIx]; omega
        generalize iIx (⟨#[]⟩ :: AT) x 0 = ix at *
        rw [endV3, if_pos ct]
        cases hn : (nS n).2 with
        | false =>
          rw [if_neg (by decide)]
          refine ⟨_, rfl, ?_⟩
          have : (if x.toList = WPCT then (if (false = true) then some ((1 : Int), (nS n).1) else none) else if x.toList = WOFF then (if (false = true) then some ((2 : Int), (nS n).1) else none) else none) = none := by
            split
            · rfl
            · split <;> rfl
          rw [this]; rfl
        | true =>
          have hv' := hv hn
          rw [if_pos rfl]
          refine ⟨_, rfl, ?_⟩
          by_cases cp : x.toList = WPCT
          · rw [if_pos cp, if_pos rfl, hp cp, hv']; rfl
          · rw [if_neg cp]
            by_cases co : x.toList = WOFF
            · rw [if_pos co, if_pos rfl, ho cp co, hv']; rfl
            · rw [if_neg co]
              have := hno cp co
              show decide (ix > 0) = false
              exact decide_eq_false (by omega)
      | _ :: _ :: _ :: r =>
        rw [if_neg (by simp only [List.length_cons]; omega), if_neg (by simp only [List.length_cons]; omega)]
        exact ⟨_, rfl, rfl⟩
    · rw [if_neg ct]
      refine ⟨_, rfl, ?_⟩
      have : endV (w0 :: t) = none := by
        match t with
        | [] => rfl
        | [x] => rw [endV2, if_neg (fun h => ct h.1)]
        | [x, n] => rw [endV3, if_neg ct]
        | _ :: _ :: _ :: _ => rfl
      rw [this]; rfl

end Go.Proofs.YthhhmcijbplcoaaGreatDoor
