/- Lists of texts: what a list has, and whether it has two alike. -/
import Derived.Test.YtoifgopjjkaodaaPAllx7
import Derived.Test.YtoifgopjjkaodaaPAllx8
import Derived.Test.YtoifgopjjkaodaaLoop
namespace Go.Proofs.Ytoifgopjjkaodaa
open Go.RowKit Go.Proofs.Ytoifgopjjkaodaa.PAll Go.Proofs.YtoifgopjjkaodaaW.PrintWords Go.Proofs.YtoifgopjjkaodaaW.PrintLast

theorem rdText {l : List ByteArray} {i : Nat} (h : i < l.length) : rdOf ByteArray.empty l (i : Int) = l[i] := by
  unfold rdOf
  rw [Int.toNat_natCast, List.getD_eq_getElem?_getD, List.getElem?_eq_getElem h]; rfl

def hasB (l : List ByteArray) (x : ByteArray) : Bool := l.any (fun y => decide (y.toList = x.toList))

def twiceB (pre : List ByteArray) : List ByteArray → Bool
  | [] => false
  | x :: xs => hasB pre x || twiceB (pre ++ [x]) xs

theorem index_loop (l : List ByteArray) (x : ByteArray) (hl : l.length ≤ 1048576) : ∀ d i k, i + d = l.length → d < k →
    ∃ r, slices_Index_string_string.l0 k l x (l.length : Int) (i : Int) = some r ∧ decide (r ≥ 0) = (l.drop i).any (fun y => decide (y.toList = x.toList)) := by
  intro d
  induction d with
  | zero =>
    intro i k hi hk
    obtain ⟨k, rfl⟩ : ∃ m, k = m + 1 := ⟨k - 1, by omega⟩
    rw [slices_Index_string_string.l0, if_neg (by omega), List.drop_eq_nil_of_le (by omega)]
    exact ⟨-1, rfl, rfl⟩
  | succ d ih =>
    intro i k hi hk
    obtain ⟨k, rfl⟩ : ∃ m, k = m + 1 := ⟨k - 1, by omega⟩
    rw [slices_Index_string_string.l0, if_pos (by omega), if_pos (by omega), if_pos (by omega), rdText (by omega), List.drop_eq_getElem_cons (by omega : i < l.length), List.any_cons]
    by_cases h : x.toList = l[i].toList
    · rw [if_pos h, decide_eq_true h.symm]
      exact ⟨_, rfl, by rw [decide_eq_true (by omega)]; rfl⟩
    · rw [if_neg h, decide_eq_false (fun e => h e.symm), w64 (by omega) (by omega)]
      obtain ⟨r, e, hr⟩ := ih (i + 1) k (by omega) (by omega)
      rw [show ((i + 1 : Nat) : Int) = (i : Int) + 1 by omega] at e
      exact ⟨r, e, by rw [hr]; rfl⟩

theorem contains_is (l : List ByteArray) (x : ByteArray) (hl : l.length ≤ 1048576) (k : Nat) (hk : l.length < k) : slices_Contains_string_string.f k l x = some (hasB l x) := by
  unfold slices_Contains_string_string.f slices_Index_string_string.f
  obtain ⟨r, e, hr⟩ := index_loop l x hl l.length 0 k (by omega) hk
  rw [show ((0 : Nat) : Int) = 0 from rfl] at e
  rw [e, Option.bind_some, hr]
  rfl

theorem has_is (l : List ByteArray) (x : ByteArray) (hl : l.length ≤ 1048576) (k : Nat) (hk : l.length < k) : spec_l00Has.f k l x = some (hasB l x) := by
  have key : ∀ d i k, i + d = l.length → d < k → spec_l00Has.l0 k l x (i : Int) = some ((l.drop i).any (fun y => decide (y.toList = x.toList))) := by
    intro d
    induction d with
    | zero =>
      intro i k hi hk
      obtain ⟨k, rfl⟩ : ∃ m, k = m + 1 := ⟨k - 1, by omega⟩
      rw [spec_l00Has.l0, if_neg (by omega), List.drop_eq_nil_of_le (by omega)]
      rfl
    | succ d ih =>
      intro i k hi hk
      obtain ⟨k, rfl⟩ : ∃ m, k = m + 1 := ⟨k - 1, by omega⟩
      rw [spec_l00Has.l0, if_pos (by omega), if_pos (by omega), rdText (by omega), List.drop_eq_getElem_cons (by omega : i < l.length), List.any_cons]
      by_cases h : l[i].toList = x.toList
      · rw [if_pos h, decide_eq_true h]; rfl
      · rw [if_neg h, decide_eq_false h, w64 (by omega) (by omega)]
        have e := ih (i + 1) k (by omega) (by omega)
        rw [show ((i + 1 : Nat) : Int) = (i : Int) + 1 by omega] at e
        rw [e]; rfl
  unfold spec_l00Has.f hasB
  have := key l.length 0 k (by omega) hk
  simpa using this

theorem twice_is (l : List ByteArray) (hl : l.length ≤ 1000) (k : Nat) (hk : l.length + l.length < k) : impl_hasTwice_string.f k l = some (twiceB [] l) := by
  have key : ∀ d i k, i + d = l.length → d + l.length < k → impl_hasTwice_string.l0 k l l (l.length : Int) (i : Int) = some (twiceB (l.take i) (l.drop i)) := by
    intro d
    induction d with
    | zero =>
      intro i k hi hk
      obtain ⟨k, rfl⟩ : ∃ m, k = m + 1 := ⟨k - 1, by omega⟩
      rw [impl_hasTwice_string.l0, if_neg (by omega), List.drop_eq_nil_of_le (by omega)]
      rfl
    | succ d ih =>
      intro i k hi hk
      obtain ⟨k, rfl⟩ : ∃ m, k = m + 1 := ⟨k - 1, by omega⟩
      rw [impl_hasTwice_string.l0, if_pos (by omega), if_pos (by omega), if_pos (by omega), if_pos (by omega), rdText (by omega), List.drop_eq_getElem_cons (by omega : i < l.length), twiceB, Int.toNat_natCast, contains_is _ _ (by rw [List.length_take]; omega) k (by rw [List.length_take]; omega), Option.bind_some]
      cases h : hasB (l.take i) l[i]
      · rw [if_neg (by decide), w64 (by omega) (by omega)]
        have e := ih (i + 1) k (by omega) (by omega)
        rw [show ((i + 1 : Nat) : Int) = (i : Int) + 1 by omega] at e
        rw [e, List.take_succ_eq_append_getElem (by omega)]
        rfl
      · rw [if_pos rfl]; rfl
  unfold impl_hasTwice_string.f
  have := key l.length 0 k (by omega) (by omega)
  simpa using this

end Go.Proofs.Ytoifgopjjkaodaa
