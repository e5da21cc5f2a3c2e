/- A rule's words: the program and the reference read the same rule out of them, or both none. -/
import Derived.Test.YthhhmcijbplcoaaGreatDoorPFnExactReadRulesx0
import Derived.Test.YthhhmcijbplcoaaGreatDoorPFnExactReadRulesx1
import Derived.Test.YthhhmcijbplcoaaGreatDoorPFnExactReadRulesx2
import Derived.Test.YthhhmcijbplcoaaGreatDoorPFnExactReadRulesx5
import Derived.Test.YthhhmcijbplcoaaGreatDoorPFnExactReadRulesx6
import Derived.Test.YthhhmcijbplcoaaGreatDoorBase
import Derived.Test.YthhhmcijbplcoaaGreatDoorReadNum
namespace Go.Proofs.YthhhmcijbplcoaaGreatDoor
open Go.RowKit Go.Proofs.YthhhmcijbplcoaaGreatDoor.PFnExactReadRules Go.Proofs.YthhhmcijbplcoaaGreatDoorW.PrintWords Go.Proofs.YthhhmcijbplcoaaGreatDoorW.PrintLast

abbrev WTHEN : List UInt8 := [116, 104, 101, 110]
abbrev WDENY : List UInt8 := [100, 101, 110, 121]
abbrev WPCT : List UInt8 := [112, 101, 114, 99, 101, 110, 116]
abbrev WOFF : List UInt8 := [111, 102, 102]
abbrev RuleR := ByteArray × (List S66) × Int × Int × Bool
def nS (t : ByteArray) : Int × Bool := numS t.data.toList
theorem num_t (t : ByteArray) (k : Nat) (hk : 30 ≤ k) : spec_l00Number.f k t = some (nS t) := by
  have := l00num_is t.data.toList k hk
  rwa [bs_back] at this
theorem readNum_t (t : ByteArray) : ∃ n, impl_readNumber.f t = some (n, (nS t).2) ∧ ((nS t).2 = true → n = (nS t).1) := by
  obtain ⟨n, ok, e, h1, h2⟩ := readNum_is t.data.toList
  rw [bs_back] at e
  subst h1
  exact ⟨n, e, h2⟩
theorem rdO {l : List ByteArray} {i : Nat} (h : i < l.length) : rdOf ByteArray.empty l (i : Int) = l[i] := by
  unfold rdOf
  rw [Int.toNat_natCast, List.getD_eq_getElem?_getD, List.getElem?_eq_getElem h]; rfl

/-- The two searches of a word in a list. -/
def sIx : List ByteArray → ByteArray → Int → Int
  | [], _, _ => 0
  | a :: r, x, i => if a.toList = x.toList then i else sIx r x (i + 1)
def iIx : List ByteArray → ByteArray → Int → Int
  | [], _, _ => -1
  | a :: r, x, i => if x.toList = a.toList then i else iIx r x (i + 1)
theorem which_loop (L : List ByteArray) (x : ByteArray) (hl : L.length ≤ 100) : ∀ d i k, i + d = L.length → d < k → spec_l06Which.l0 k L x (i : Int) = some (sIx (L.drop i) x (i : Int)) := by
  intro d
  induction d with
  | zero =>
    intro i k hi hk
    obtain ⟨k, rfl⟩ : ∃ m, k = m + 1 := ⟨k - 1, by omega⟩
    rw [spec_l06Which.l0, if_neg (by omega), List.drop_eq_nil_of_le (by omega)]; rfl
  | succ d ih =>
    intro i k hi hk
    obtain ⟨k, rfl⟩ : ∃ m, k = m + 1 := ⟨k - 1, by omega⟩
    have hil : i < L.length := by omega
    have := ih (i + 1) k (by omega) (by omega)
    rw [show ((i + 1 : Nat) : Int) = (i : Int) + 1 by omega] at this
    rw [spec_l06Which.l0, if_pos (by omega), if_pos (by omega), rdO hil, List.drop_eq_getElem_cons hil, sIx, w64 (x := (i : Int) + 1) (by omega) (by omega), this]
    split <;> rfl
theorem index_loop (L : List ByteArray) (x : ByteArray) (hl : L.length ≤ 100) : ∀ d i k, i + d = L.length → d < k → slices_Index_string_string.l0 k L x (L.length : Int) (i : Int) = some (iIx (L.drop i) x (i : Int)) := by
  intro d
  induction d with
  | zero =>
    intro i k hi hk
    obtain ⟨k, rfl⟩ : ∃ m, k = m + 1 := ⟨k - 1, by omega⟩
    rw [slices_Index_string_string.l0, if_neg (by omega), List.drop_eq_nil_of_le (by omega)]; rfl
  | succ d ih =>
    intro i k hi hk
    obtain ⟨k, rfl⟩ : ∃ m, k = m + 1 := ⟨k - 1, by omega⟩
    have hil : i < L.length := by omega
    have := ih (i + 1) k (by omega) (by omega)
    rw [show ((i + 1 : Nat) : Int) = (i : Int) + 1 by omega] at this
    rw [slices_Index_string_string.l0, if_pos (by omega), if_pos (by omega), if_pos (by omega), rdO hil, List.drop_eq_getElem_cons hil, iIx, w64 (x := (i : Int) + 1) (by omega) (by omega), this]
    split <;> rfl
theorem ix_rel (x : ByteArray) : ∀ (r : List ByteArray) (i : Int), 1 ≤ i → (sIx r x i = 0 ∧ iIx r x i = -1) ∨ (sIx r x i = iIx r x i ∧ i ≤ sIx r x i ∧ sIx r x i < i + r.length)
  | [], _, _ => .inl ⟨rfl, rfl⟩
  | a :: r, i, hi => by
    rw [sIx, iIx]
    by_cases e : a.toList = x.toList
    · rw [if_pos e, if_pos e.symm]
      exact .inr ⟨rfl, Int.le_refl _, by simp only [List.length_cons]; omega⟩
    · rw [if_neg e, if_neg (fun h => e h.symm)]
      rcases ix_rel x r (i + 1) (by omega) with h | ⟨h1, h2, h3⟩
      · exact .inl h
      · exact .inr ⟨h1, by omega, by simp only [List.length_cons]; omega⟩
theorem sIx_none (x : ByteArray) (hx : x.toList = []) : ∀ (r : List ByteArray) (i : Int), (∀ a ∈ r, a.toList ≠ []) → sIx r x i = 0
  | [], _, _ => rfl
  | a :: r, i, h => by
    rw [sIx, if_neg (by rw [hx]; exact h a List.mem_cons_self)]
    exact sIx_none x hx r (i + 1) (fun b hb => h b (List.mem_cons_of_mem _ hb))
theorem nil_toList : (⟨#[]⟩ : ByteArray).toList = [] := bs_toList []
theorem ix_both (x : ByteArray) (r : List ByteArray) (hr : ∀ a ∈ r, a.toList ≠ []) : (sIx r x 1 = 0 ∧ iIx (⟨#[]⟩ :: r) x 0 ≤ 0) ∨ (sIx r x 1 = iIx (⟨#[]⟩ :: r) x 0 ∧ 1 ≤ sIx r x 1 ∧ sIx r x 1 < 1 + r.length) := by
  rw [iIx, nil_toList]
  by_cases hx : x.toList = []
  · rw [if_pos hx]
    exact .inl ⟨sIx_none x hx r 1 hr, Int.le_refl _⟩
  · rw [if_neg hx]
    rcases ix_rel x r 1 (by omega) with ⟨h1, h2⟩ | h
    · exact .inl ⟨h1, by rw [show (0 : Int) + 1 = 1 by omega, h2]; omega⟩
    · exact .inr h

abbrev FT : List ByteArray := [(⟨#[113, 116, 121]⟩ : ByteArray), (⟨#[97, 109, 111, 117, 110, 116]⟩ : ByteArray), (⟨#[104, 111, 117, 114]⟩ : ByteArray), (⟨#[100, 97, 121]⟩ : ByteArray), (⟨#[97, 103, 101]⟩ : ByteArray)]
abbrev OT : List ByteArray := [(⟨#[62, 61]⟩ : ByteArray), (⟨#[60, 61]⟩ : ByteArray), (⟨#[61]⟩ : ByteArray)]
abbrev AT : List ByteArray := [(⟨#[112, 101, 114, 99, 101, 110, 116]⟩ : ByteArray), (⟨#[111, 102, 102]⟩ : ByteArray)]
theorem lit_toList (l : List UInt8) : (⟨l.toArray⟩ : ByteArray).toList = l := bs_toList l
theorem FT_ne : ∀ a ∈ FT, a.toList ≠ [] := by
  intro a ha
  simp only [FT, List.mem_cons, List.mem_nil_iff, or_false] at ha
  rcases ha with rfl | rfl | rfl | rfl | rfl
  · rw [lit_toList [113, 116, 121]]; simp
  · rw [lit_toList [97, 109, 111, 117, 110, 116]]; simp
  · rw [lit_toList [104, 111, 117, 114]]; simp
  · rw [lit_toList [100, 97, 121]]; simp
  · rw [lit_toList [97, 103, 101]]; simp
theorem OT_ne : ∀ a ∈ OT, a.toList ≠ [] := by
  intro a ha
  simp only [OT, List.mem_cons, List.mem_nil_iff, or_false] at ha
  rcases ha with rfl | rfl | rfl
  · rw [lit_toList [62, 61]]; simp
  · rw [lit_toList [60, 61]]; simp
  · rw [lit_toList [61]]; simp
theorem AT_ne : ∀ a ∈ AT, a.toList ≠ [] := by
  intro a ha
  simp only [AT, List.mem_cons, List.mem_nil_iff, or_false] at ha
  rcases ha with rfl | rfl
  · rw [lit_toList [112, 101, 114, 99, 101, 110, 116]]; simp
  · rw [lit_toList [111, 102, 102]]; simp
theorem which_is (r : List ByteArray) (x : ByteArray) (hl : r.length ≤ 50) (k : Nat) (hk : 60 ≤ k) : spec_l06Which.f k (⟨#[]⟩ :: r) x = some (sIx r x 1) := by
  unfold spec_l06Which.f
  exact which_loop (⟨#[]⟩ :: r) x (by simp only [List.length_cons]; omega) r.length 1 k (by simp only [List.length_cons]; omega) (by omega)
theorem index_is (r : List ByteArray) (x : ByteArray) (hl : r.length ≤ 50) (k : Nat) (hk : 60 ≤ k) : slices_Index_string_string.f k (⟨#[]⟩ :: r) x = some (iIx (⟨#[]⟩ :: r) x 0) := by
  unfold slices_Index_string_string.f
  exact index_loop (⟨#[]⟩ :: r) x (by simp only [List.length_cons]; omega) (r.length + 1) 0 k (by simp only [List.length_cons]; omega) (by omega)

def sF (a : ByteArray) : Int := sIx FT a 1
def sO (b : ByteArray) : Int := sIx OT b 1
def okT (a b n : ByteArray) : Bool := (nS n).2 && (decide (sF a ≠ 0) && decide (sO b ≠ 0))
theorem okT_bd {a b n : ByteArray} (h : okT a b n = true) : (1 ≤ sF a ∧ sF a ≤ 5) ∧ 1 ≤ sO b ∧ sO b ≤ 3 := by
  unfold okT at h
  rw [Bool.and_eq_true, Bool.and_eq_true] at h
  have h1 := of_decide_eq_true h.2.1
  have h2 := of_decide_eq_true h.2.2
  unfold sF at *
  unfold sO at *
  have e1 := ix_both a FT FT_ne
  have e2 := ix_both b OT OT_ne
  have l1 : FT.length = 5 := rfl
  have l2 : OT.length = 3 := rfl
  rw [l1] at e1
  rw [l2] at e2
  refine ⟨?_, ?_⟩
  · rcases e1 with e | e
    · exact absurd e.1 h1
    · omega
  · rcases e2 with e | e
    · exact absurd e.1 h2
    · omega
theorem term_impl (a b n : ByteArray) (k : Nat) (hk : 60 ≤ k) : ∃ t1 t2 v, impl_termOf.f k [a, b, n] = some (t1, t2, v, okT a b n) ∧ (okT a b n = true → t1 = sF a ∧ t2 = sO b ∧ v = (nS n).1) := by
  obtain ⟨v, e, hv⟩ := readNum_t n
  have r2 : rdOf ByteArray.empty [a, b, n] 2 = n := rfl
  have r1 : rdOf ByteArray.empty [a, b, n] 1 = b := rfl
  have r0 : rdOf ByteArray.empty [a, b, n] 0 = a := rfl
  have hi1 := index_is FT a (by decide) k hk
  have hi2 := index_is OT b (by decide) k hk
  have e1 := ix_both a FT FT_ne
  have e2 := ix_both b OT OT_ne
  unfold impl_termOf.f impl_fieldWords.f impl_opWords.f
  rw [if_pos (by simp only [List.length_cons, List.length_nil]; omega), r2, e, Option.bind_some, Option.bind_some, if_pos (by simp only [List.length_cons, List.length_nil]; omega), r0, hi1, Option.bind_some, Option.bind_some, if_pos (by simp only [List.length_cons, List.length_nil]; omega), r1, hi2, Option.bind_some]
  unfold okT
  generalize iIx (⟨#[]⟩ :: FT) a 0 = i1 at *
  generalize iIx (⟨#[]⟩ :: OT) b 0 = i2 at *
  cases hn : (nS n).2 with
  | false =>
    rw [if_neg (by decide)]
    exact ⟨_, _, _, rfl, fun h => by cases h⟩
  | true =>
    have hv' := hv hn
    rw [if_pos rfl]
    by_cases c1 : i1 > 0
    · rw [if_pos c1]
      have f1 : sF a = i1 := by
        rcases e1 with h | h
        · omega
        · exact h.1
      refine ⟨i1, i2, v, ?_, fun h => ?_⟩
      · congr 4
        rw [f1, decide_eq_true (show i1 ≠ 0 by omega), Bool.true_and, Bool.true_and]
        show decide (i2 > 0) = decide (sIx OT b 1 ≠ 0)
        rcases e2 with h | h
        · rw [decide_eq_false (show ¬ i2 > 0 by omega), decide_eq_false (by rw [h.1]; exact fun h => h rfl)]
        · rw [decide_eq_true (show i2 > 0 by omega), decide_eq_true (by omega)]
      · rw [Bool.true_and, Bool.and_eq_true] at h
        have h2 := of_decide_eq_true h.2
        refine ⟨f1.symm, ?_, hv'⟩
        rcases e2 with g | g
        · exact absurd g.1 h2
        · exact g.1.symm
    · rw [if_neg c1]
      have f1 : sF a = 0 := by
        rcases e1 with h | h
        · exact h.1
        · omega
      have hz : (true && (decide (sF a ≠ 0) && decide (sO b ≠ 0))) = false := by
        rw [decide_eq_false (by rw [f1]; exact fun h => h rfl)]; rfl
      rw [hz]
      exact ⟨_, _, _, rfl, fun h => by cases h⟩

/-- What stands behind the terms. -/
def endV : List ByteArray → Option (Int × Int)
  | [w0, x] => if w0.toList = WTHEN ∧ x.toList = WDENY then some (3, 0) else none
  | [w0, x, n] => if w0.toList = WTHEN then (if x.toList = WPCT then (if (nS n).2 = true then some (1, (nS n).1) else none) else if x.toList = WOFF then (if (nS n).2 = true then some (2, (nS n).1) else none) else none) else none
  | _ => none
theorem endV2 (w0 x : ByteArray) : endV [w0, x] = if w0.toList = WTHEN ∧ x.toList = WDENY then some (3, 0) else none := rfl
theorem endV3 (w0 x n : ByteArray) : endV [w0, x, n] = if w0.toList = WTHEN then (if x.toList = WPCT then (if (nS n).2 = true then some (1, (nS n).1) else none) else if x.toList = WOFF then (if (nS n).2 = true then some (2, (nS n).1) else none) else none) else none := rfl
def Ends (e : Option (Int × Int)) (name : ByteArray) (acc : List S66) (s : RuleR) : Prop :=
  match e with | some p => s = (name, acc, p.1, p.2, true) | none => s.2.2.2.2 = false
theorem spec_j5f (k : Nat) (hk : 1 ≤ k) (x : List ByteArray) (name : ByteArray) (acc : List S66) : spec_l06Read.j5 k x false name acc 0 0 = some (name, acc, 0, 0, false) := by
  obtain ⟨k, rfl⟩ : ∃ m, k = m + 1 := ⟨k - 1, by omega⟩
  rw [spec_l06Read.j5, if_neg (by decide)]
theorem spec_j4 (k : Nat) (hk : 40 ≤ k) (ws : List ByteArray) (name : ByteArray) (acc : List S66) (h2 : ws.length = 2 → endV ws = none) : ∃ s, spec_l06Read.j4 k ws false name acc 0 0 = some s ∧ Ends (endV ws) name acc s := by
  obtain ⟨k, rfl⟩ : ∃ m, k = m + 1 := ⟨k - 1, by omega⟩
  rw [spec_l06Read.j4, if_neg (by decide)]
  by_cases c3 : (ws.length : Int) = 3
  · rw [if_pos c3]
    obtain ⟨w0, x, n, rfl⟩ : ∃ w0 x n, ws = [w0, x, n] := by
      match ws, c3 with
      | [a, b, c], _ => exact ⟨a, b, c, rfl⟩
      | [], h => simp at h
      | [_], h => simp at h
      | [_, _], h => simp at h
      | _ :: _ :: _ :: _ :: _, h => simp only [List.length_cons] at h; omega
    have r0 : rdOf ByteArray.empty [w0, x, n] 0 = w0 := rfl
    have r1 : rdOf ByteArray.empty [w0, x, n] 1 = x := rfl
    have r2 : rdOf ByteArray.empty [w0, x, n] 2 = n := rfl
    rw [if_pos (by simp only [List.length_cons, List.length_nil]; omega), r0, endV3]
    by_cases ct : w0.toList = WTHEN
    · rw [if_pos ct, if_pos (by simp only [List.length_cons, List.length_nil]; omega), r1, if_pos ct]
      have j5t : spec_l06Read.j5 k [w0, x, n] true name acc 0 0 = if x.toList = WOFF then some (name, acc, 2, (nS n).1, (nS n).2) else some (name, acc, 1, (nS n).1, (nS n).2) := by
        obtain ⟨k, rfl⟩ : ∃ m, k = m + 1 := ⟨k - 1, by omega⟩
        rw [spec_l06Read.j5, if_pos rfl, if_pos (by simp only [List.length_cons, List.length_nil]; omega), r2, num_t n k (by omega), Option.bind_some, if_pos (by simp only [List.length_cons, List.length_nil]; omega), r1]
      by_cases cp : x.toList = WPCT
      · rw [if_pos cp, if_pos cp, j5t, if_neg (by rw [cp]; decide)]
        refine ⟨_, rfl, ?_⟩
        cases hn : (nS n).2
        · rw [if_neg (by decide)]; rfl
        · rw [if_pos rfl]; rfl
      · rw [if_neg cp, if_neg cp]
        by_cases co : x.toList = WOFF
        · rw [beq_iff_eq.2 co, if_pos co, j5t, if_pos co]
          refine ⟨_, rfl, ?_⟩
          cases hn : (nS n).2
          · rw [if_neg (by decide)]; rfl
          · rw [if_pos rfl]; rfl
        · rw [beq_eq_false_iff_ne.2 co, if_neg co, spec_j5f k (by omega)]
          exact ⟨_, rfl, rfl⟩
    · rw [if_neg ct, if_neg ct, spec_j5f k (by omega)]
      exact ⟨_, rfl, rfl⟩
  · rw [if_neg c3, spec_j5f k (by omega)]
    refine ⟨_, rfl, ?_⟩
    have : endV ws = none := by
      match ws, c3, h2 with
      | [], _, _ => rfl
      | [_], _, _ => rfl
      | [a, b], _, h2 => exact h2 rfl
      | [_, _, _], h, _ => simp at h
      | _ :: _ :: _ :: _ :: _, _, _ => rfl
    rw [this]; rfl
theorem spec_end (w ws : List ByteArray) (at_ : Nat) (hat : at_ ≤ w.length) (hw : w.drop at_ = ws) (name : ByteArray) (acc : List S66) (k : Nat) (hk : 50 ≤ k) : ∃ s, spec_l06Read.j2 k w (at_ : Int) false name acc 0 0 = some s ∧ Ends (endV ws) name acc s := by
  obtain ⟨k, rfl⟩ : ∃ m, k = m + 1 := ⟨k - 1, by omega⟩
  rw [spec_l06Read.j2, if_neg (by decide), if_pos (by omega), if_pos (by omega), Int.toNat_natCast, hw]
  by_cases c2 : (ws.length : Int) = 2
  · rw [if_pos c2]
    obtain ⟨w0, x, rfl⟩ : ∃ w0 x, ws = [w0, x] := by
      match ws, c2 with
      | [a, b], _ => exact ⟨a, b, rfl⟩
      | [], h => simp at h
      | [_], h => simp at h
      | _ :: _ :: _ :: _, h => simp only [List.length_cons] at h; omega
    have r0 : rdOf ByteArray.empty [w0, x] 0 = w0 := rfl
    have r1 : rdOf ByteArray.empty [w0, x] 1 = x := rfl
    rw [if_pos (by simp only [List.length_cons, List.length_nil]; omega), r0]
    by_cases ct : w0.toList = WTHEN
    · rw [if_pos ct, if_pos (by simp only [List.length_cons, List.length_nil]; omega), r1]
      by_cases cd : x.toList = WDENY
      · rw [beq_iff_eq.2 cd]
        obtain ⟨k, rfl⟩ : ∃ m, k = m + 1 := ⟨k - 1, by omega⟩
        rw [spec_l06Read.j4, if_pos rfl]
        refine ⟨_, rfl, ?_⟩
        rw [endV2, if_pos ⟨ct, cd⟩]; rfl
      · rw [beq_eq_false_iff_ne.2 cd]
        exact spec_j4 k (by omega) _ name acc (fun _ => by rw [endV2, if_neg (fun h => cd h.2)])
    · rw [if_neg ct]
      exact spec_j4 k (by omega) _ name acc (fun _ => by rw [endV2, if_neg (fun h => ct h.1)])
  · rw [if_neg c2]
    exact spec_j4 k (by omega) _ name acc (fun h => absurd (by omega) c2)
theorem impl_end (ws : List ByteArray) (name : ByteArray) (acc : List S66) (k : Nat) (hk : 70 ≤ k) : ∃ g, impl_clauseOf.j2 k ws false name acc 0 0 = some g ∧ Ends (endV ws) name acc g := by
  obtain ⟨k, rfl⟩ : ∃ m, k = m + 1 := ⟨k - 1, by omega⟩
  rw [impl_clauseOf.j2, if_neg (by decide)]
  cases ws with
  | nil => rw [if_pos (by decide)]; exact ⟨_, rfl, rfl⟩
  | cons w0 t =>
    have r0 : rdOf ByteArray.empty (w0 :: t) 0 = w0 := rfl
    rw [if_neg (by simp only [List.length_cons]; omega), if_pos (by simp only [List.length_cons]; omega), r0]
    by_cases ct : w0.toList = WTHEN
    · rw [if_pos ct, if_pos (by simp only [List.length_cons]; omega), List.drop_one, List.tail_cons]
      unfold impl_actOf.f
      match t with
      | [] => exact ⟨_, rfl, rfl⟩
      | [x] =>
        have r1 : rdOf ByteArray.empty [x] 0 = x := rfl
        rw [if_pos (by simp), if_pos (by simp), r1, Option.bind_some]
        refine ⟨_, rfl, ?_⟩
        rw [endV2]
        by_cases cd : x.toList = WDENY
        · rw [if_pos ⟨ct, cd⟩, beq_iff_eq.2 cd]; rfl
        · rw [if_neg (fun h => cd h.2), beq_eq_false_iff_ne.2 cd]; rfl
      | [x, n] =>
        have r1 : rdOf ByteArray.empty [x, n] 1 = n := rfl
        have r2 : rdOf ByteArray.empty [x, n] 0 = x := rfl
        obtain ⟨v, e, hv⟩ := readNum_t n
        have hi := index_is AT x (by decide) k (by omega)
        have eb := ix_both x AT AT_ne
        rw [if_neg (by simp), if_pos (by simp), if_pos (by simp), r1, e, Option.bind_some, if_pos (by simp), r2, hi, Option.bind_some]
        have hp : x.toList = WPCT → iIx (⟨#[]⟩ :: AT) x 0 = 1 := fun h => by
          rw [iIx, nil_toList, if_neg (by rw [h]; decide), iIx, lit_toList WPCT, if_pos h]; rfl
        have ho : ¬ x.toList = WPCT → x.toList = WOFF → iIx (⟨#[]⟩ :: AT) x 0 = 2 := fun h h2 => by
          rw [iIx, nil_toList, if_neg (by rw [h2]; decide), iIx, lit_toList WPCT, if_neg h, iIx, lit_toList WOFF, if_pos h2]; rfl
        have hno : ¬ x.toList = WPCT → ¬ x.toList = WOFF → iIx (⟨#[]⟩ :: AT) x 0 ≤ 0 := fun h h2 => by
          rw [iIx, nil_toList]
          split
          · omega
          · rw [iIx, lit_toList WPCT, if_neg h, iIx, lit_toList WOFF, if_neg h2, iIx]; omega
        generalize iIx (⟨#[]⟩ :: AT) x 0 = ix at *
        rw [endV3, if_pos ct]
        cases hn : (nS n).2 with
        | false =>
          rw [if_neg (by decide)]
          refine ⟨_, rfl, ?_⟩
          have : (if x.toList = WPCT then (if (false = true) then some ((1 : Int), (nS n).1) else none) else if x.toList = WOFF then (if (false = true) then some ((2 : Int), (nS n).1) else none) else none) = none := by
            split
            · rfl
            · split <;> rfl
          rw [this]; rfl
        | true =>
          have hv' := hv hn
          rw [if_pos rfl]
          refine ⟨_, rfl, ?_⟩
          by_cases cp : x.toList = WPCT
          · rw [if_pos cp, if_pos rfl, hp cp, hv']; rfl
          · rw [if_neg cp]
            by_cases co : x.toList = WOFF
            · rw [if_pos co, if_pos rfl, ho cp co, hv']; rfl
            · rw [if_neg co]
              have := hno cp co
              show decide (ix > 0) = false
              exact decide_eq_false (by omega)
      | _ :: _ :: _ :: r =>
        rw [if_neg (by simp only [List.length_cons]; omega), if_neg (by simp only [List.length_cons]; omega)]
        exact ⟨_, rfl, rfl⟩
    · rw [if_neg ct]
      refine ⟨_, rfl, ?_⟩
      have : endV (w0 :: t) = none := by
        match t with
        | [] => rfl
        | [x] => rw [endV2, if_neg (fun h => ct h.1)]
        | [x, n] => rw [endV3, if_neg ct]
        | _ :: _ :: _ :: _ => rfl
      rw [this]; rfl

/-- Both read the same rule, or both none. -/
structure Same (name : ByteArray) (s g : RuleR) : Prop where
  ok : s.2.2.2.2 = g.2.2.2.2
  eq : g.2.2.2.2 = true → s = g ∧ g.1 = name ∧ ∀ x ∈ g.2.1, (1 ≤ x.f0 ∧ x.f0 ≤ 5) ∧ 1 ≤ x.f1 ∧ x.f1 ≤ 3
theorem Same.no {name : ByteArray} {s g : RuleR} (h1 : s.2.2.2.2 = false) (h2 : g.2.2.2.2 = false) : Same name s g := ⟨by rw [h1, h2], fun h => by rw [h2] at h; cases h⟩
theorem Ends.same {name : ByteArray} {acc : List S66} {e : Option (Int × Int)} {s g : RuleR} (h1 : Ends e name acc s) (h2 : Ends e name acc g) (ha : ∀ x ∈ acc, (1 ≤ x.f0 ∧ x.f0 ≤ 5) ∧ 1 ≤ x.f1 ∧ x.f1 ≤ 3) : Same name s g := by
  unfold Ends at h1 h2
  cases e with
  | none => exact Same.no h1 h2
  | some p =>
    simp only [] at h1 h2
    subst h1 h2
    exact ⟨rfl, fun _ => ⟨rfl, rfl, ha⟩⟩
theorem read_run (w : List ByteArray) (hwl : w.length ≤ 100000) (name : ByteArray) : ∀ (d : Nat) (at_ : Nat) (ws : List ByteArray) (ahead : ByteArray) (acc : List S66), ws.length ≤ d → at_ ≤ w.length → w.drop at_ = ws → ahead.toList ≠ WTHEN → acc.length + ws.length ≤ 200000 → (∀ x ∈ acc, (1 ≤ x.f0 ∧ x.f0 ≤ 5) ∧ 1 ≤ x.f1 ∧ x.f1 ≤ 3) →
    ∀ k m, 3 * d + 100 ≤ k → 3 * d + 100 ≤ m → ∃ s g, Same name s g ∧ spec_l06Read.l0 k w (at_ : Int) ahead name acc 0 0 = some s ∧ impl_clauseOf.l0 m ws ahead name acc 0 0 = some g := by
  intro d
  induction d with
  | zero =>
    intro at_ ws ahead acc hd hat hw hah hac ha k m hk hm
    have : ws = [] := List.eq_nil_of_length_eq_zero (by omega)
    subst this
    have hlen : w.length ≤ at_ := List.drop_eq_nil_iff.1 hw
    refine ⟨(name, acc, 0, 0, false), (⟨#[]⟩, [], 0, 0, false), Same.no rfl rfl, ?_⟩
    obtain ⟨k, rfl⟩ : ∃ q, k = q + 1 + 1 + 1 := ⟨k - 3, by omega⟩
    obtain ⟨m, rfl⟩ : ∃ q, m = q + 1 + 1 + 1 := ⟨m - 3, by omega⟩
    constructor
    · rw [spec_l06Read.l0, if_neg (by omega), spec_l06Read.j2, if_neg (by decide), if_pos (by omega), if_pos (by omega), Int.toNat_natCast, hw, if_neg (by decide), spec_l06Read.j4, if_neg (by decide), if_neg (by decide), spec_j5f k (by omega)]
    · rw [impl_clauseOf.l0, if_neg (by decide), impl_clauseOf.j2, if_neg (by decide), if_pos (by decide)]
  | succ d ih =>
    intro at_ ws ahead acc hd hat hw hah hac ha k m hk hm
    cases ws with
    | nil => exact ih at_ [] ahead acc (by simp) hat hw hah hac ha k m (by omega) (by omega)
    | cons w0 t =>
      have hlen : at_ + (w0 :: t).length = w.length := by rw [← hw, List.length_drop]; omega
      have hlt : at_ < w.length := by rw [List.length_cons] at hlen; omega
      have hget : ∀ (i : Nat) (hi : i < (w0 :: t).length), rdOf ByteArray.empty w ((at_ : Int) + (i : Int)) = (w0 :: t)[i] := fun i hi => by
        rw [show (at_ : Int) + (i : Int) = ((at_ + i : Nat) : Int) by omega, rdO (by omega)]
        have : (w0 :: t)[i] = (w.drop at_)[i]'(by rw [hw]; exact hi) := by simp only [hw]
        rw [this, List.getElem_drop]
      have h0 : rdOf ByteArray.empty w (at_ : Int) = w0 := by
        have := hget 0 (by simp)
        rwa [show (at_ : Int) + ((0 : Nat) : Int) = (at_ : Int) by omega] at this
      have r0 : rdOf ByteArray.empty (w0 :: t) 0 = w0 := rfl
      by_cases c0 : w0.toList = ahead.toList
      · by_cases c4 : 4 ≤ (w0 :: t).length
        · obtain ⟨a, b, n, rest, rfl⟩ : ∃ a b n rest, t = a :: b :: n :: rest := by
            match t, c4 with
            | a :: b :: n :: rest, _ => exact ⟨a, b, n, rest, rfl⟩
            | [], h => simp at h
            | [_], h => simp at h
            | [_, _], h => simp at h
          have g1 : rdOf ByteArray.empty w ((at_ : Int) + 1) = a := hget 1 (by simp)
          have g2 : rdOf ByteArray.empty w ((at_ : Int) + 2) = b := hget 2 (by simp)
          have g3 : rdOf ByteArray.empty w ((at_ : Int) + 3) = n := hget 3 (by simp)
          simp only [List.length_cons] at hd hlen hac
          obtain ⟨t1, t2, v, -, hT⟩ := term_impl a b n 60 (Nat.le_refl _)
          have hterm : ∀ k, 60 ≤ k → ∃ t1 t2 v, impl_termOf.f k [a, b, n] = some (t1, t2, v, okT a b n) ∧ (okT a b n = true → t1 = sF a ∧ t2 = sO b ∧ v = (nS n).1) := fun k hk => term_impl a b n k hk
          have hspec : ∀ k, 70 ≤ k → spec_l06Read.l0 (k + 1 + 1) w (at_ : Int) ahead name acc 0 0 = spec_l06Read.j3 k w (at_ : Int) (!okT a b n) name acc 0 0 (sF a) (sO b) (nS n).1 := fun k hk => by
            rw [spec_l06Read.l0, if_pos (by omega), if_pos (by omega), h0, beq_iff_eq.2 c0, spec_l06Read.j2, if_pos rfl, w64 (x := (at_ : Int) + 3) (by omega) (by omega), w64 (x := (at_ : Int) + 1) (by omega) (by omega), w64 (x := (at_ : Int) + 2) (by omega) (by omega), if_neg (by omega), if_pos (by omega), if_pos (by omega), g3, num_t n k (by omega), Option.bind_some]
            unfold spec_l06Fields.f spec_l06Ops.f
            rw [Option.bind_some, if_pos (by omega), if_pos (by omega), g1, which_is FT a (by decide) k (by omega), Option.bind_some, Option.bind_some, if_pos (by omega), if_pos (by omega), g2, which_is OT b (by decide) k (by omega), Option.bind_some]
            unfold okT sF sO
            cases (nS n).2 with
            | false => rw [if_neg (by decide)]; rfl
            | true =>
              rw [if_pos rfl]
              by_cases e1 : sIx FT a 1 = 0
              · rw [if_pos e1, decide_eq_false (fun h => h e1)]; rfl
              · rw [if_neg e1, decide_eq_true e1]
                by_cases e2 : sIx OT b 1 = 0
                · rw [beq_iff_eq.2 e2, decide_eq_false (fun h => h e2)]; rfl
                · rw [beq_eq_false_iff_ne.2 e2, decide_eq_true e2]; rfl
          have himpl : ∀ k, 70 ≤ k → impl_clauseOf.l0 (k + 1 + 1) (w0 :: a :: b :: n :: rest) ahead name acc 0 0 = if okT a b n = true then impl_clauseOf.l0 k rest (⟨#[97, 110, 100]⟩ : ByteArray) name (acc ++ [⟨sF a, sO b, (nS n).1⟩]) 0 0 else some ((⟨#[]⟩ : ByteArray), ([] : List S66), 0, 0, false) := fun k hk => by
            obtain ⟨t1, t2, v, et, ht⟩ := hterm k (by omega)
            rw [impl_clauseOf.l0, if_pos (by simp only [List.length_cons]; omega), if_pos (by simp only [List.length_cons]; omega), r0, beq_iff_eq.2 c0, impl_clauseOf.j2, if_pos rfl, if_pos (by simp only [List.length_cons]; omega), show ((w0 :: a :: b :: n :: rest).take 4).drop 1 = [a, b, n] from rfl, et, Option.bind_some]
            cases ho : okT a b n with
            | false => rw [if_neg (fun h => by cases h), if_neg (by decide)]
            | true =>
              obtain ⟨rfl, rfl, rfl⟩ := ht ho
              rw [if_pos rfl, if_pos (by omega), if_pos rfl]; rfl
          cases ho : okT a b n with
          | false =>
            refine ⟨(name, acc, 0, 0, false), (⟨#[]⟩, [], 0, 0, false), Same.no rfl rfl, ?_⟩
            obtain ⟨k, rfl⟩ : ∃ q, k = q + 1 + 1 + 1 := ⟨k - 3, by omega⟩
            obtain ⟨m, rfl⟩ : ∃ q, m = q + 1 + 1 + 1 := ⟨m - 3, by omega⟩
            constructor
            · rw [hspec _ (by omega), ho, spec_l06Read.j3, if_pos (by decide)]
            · rw [himpl _ (by omega), ho, if_neg (by decide)]
          | true =>
            have hbd := okT_bd ho
            obtain ⟨k, rfl⟩ : ∃ q, k = q + 1 + 1 + 1 := ⟨k - 3, by omega⟩
            obtain ⟨m, rfl⟩ : ∃ q, m = q + 1 + 1 := ⟨m - 2, by omega⟩
            obtain ⟨s, g, hS, e1, e2⟩ := ih (at_ + 4) rest (⟨#[97, 110, 100]⟩ : ByteArray) (acc ++ [⟨sF a, sO b, (nS n).1⟩]) (by omega) (by omega) (by rw [← List.drop_drop, hw]; rfl) (by rw [lit_toList [97, 110, 100]]; decide) (by rw [List.length_append, List.length_singleton]; omega) (fun x hx => by
              rcases List.mem_append.1 hx with hx | hx
              · exact ha x hx
              · rw [List.mem_singleton.1 hx]; exact ⟨hbd.1, hbd.2⟩) k m (by omega) (by omega)
            refine ⟨s, g, hS, ?_, ?_⟩
            · rw [hspec _ (by omega), ho, spec_l06Read.j3, if_neg (by decide), if_pos (by omega), w64 (x := (at_ : Int) + 4) (by omega) (by omega), show (at_ : Int) + 4 = ((at_ + 4 : Nat) : Int) by omega]
              exact e1
            · rw [himpl _ (by omega), ho, if_pos rfl]
              exact e2
        · refine ⟨(name, acc, 0, 0, false), (⟨#[]⟩, [], 0, 0, false), Same.no rfl rfl, ?_⟩
          obtain ⟨k, rfl⟩ : ∃ q, k = q + 1 + 1 := ⟨k - 2, by omega⟩
          obtain ⟨m, rfl⟩ : ∃ q, m = q + 1 + 1 := ⟨m - 2, by omega⟩
          constructor
          · rw [spec_l06Read.l0, if_pos (by omega), if_pos (by omega), h0, beq_iff_eq.2 c0, spec_l06Read.j2, if_pos rfl, w64 (x := (at_ : Int) + 3) (by omega) (by omega), if_pos (by omega)]
          · rw [impl_clauseOf.l0, if_neg (by omega), impl_clauseOf.j2, if_neg (by decide), if_neg (by simp only [List.length_cons]; omega), if_pos (by simp only [List.length_cons]; omega), r0, if_neg (by rw [c0]; exact hah)]
      · obtain ⟨k, rfl⟩ : ∃ q, k = q + 1 := ⟨k - 1, by omega⟩
        obtain ⟨m, rfl⟩ : ∃ q, m = q + 1 := ⟨m - 1, by omega⟩
        obtain ⟨s, e1, h1⟩ := spec_end w (w0 :: t) at_ hat hw name acc k (by omega)
        obtain ⟨g, e2, h2⟩ := impl_end (w0 :: t) name acc m (by omega)
        refine ⟨s, g, h1.same h2 ha, ?_, ?_⟩
        · rw [spec_l06Read.l0, if_pos (by omega), if_pos (by omega), h0, beq_eq_false_iff_ne.2 c0]
          exact e1
        · rw [impl_clauseOf.l0]
          by_cases c4 : ((w0 :: t).length : Int) ≥ 4
          · rw [if_pos c4, if_pos (by simp only [List.length_cons]; omega), r0, beq_eq_false_iff_ne.2 c0]
            exact e2
          · rw [if_neg c4]; exact e2

end Go.Proofs.YthhhmcijbplcoaaGreatDoor
