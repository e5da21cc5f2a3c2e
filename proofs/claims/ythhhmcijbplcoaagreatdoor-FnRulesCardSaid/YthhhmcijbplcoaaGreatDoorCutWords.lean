/- A text's lines and words: the reference's loops and the library's cuts give the same. -/
import Derived.Test.YthhhmcijbplcoaaGreatDoorPFnRulesx1
import Derived.Test.YthhhmcijbplcoaaGreatDoorPFnRulesx2
import Derived.Test.YthhhmcijbplcoaaGreatDoorBase
import Derived.Test.YthhhmcijbplcoaaGreatDoorBs
import Derived.Test.YthhhmcijbplcoaaGreatDoorCutText
import Derived.Lib.SplitLaws
namespace Go.Proofs.YthhhmcijbplcoaaGreatDoor
open Go.RowKit Go.Proofs.YthhhmcijbplcoaaGreatDoor.PFnRules Go.Proofs.YthhhmcijbplcoaaGreatDoorW.PrintWords Go.Proofs.YthhhmcijbplcoaaGreatDoorW.PrintLast

/-- What stands between the places of a byte. -/
def cutL (c : UInt8) : List UInt8 → List (List UInt8)
  | [] => [[]]
  | b :: t => if b = c then [] :: cutL c t else match cutL c t with | [] => [[b]] | h :: r => (b :: h) :: r
def preL (p : List UInt8) : List (List UInt8) → List (List UInt8)
  | [] => [p]
  | h :: r => (p ++ h) :: r
theorem cutL_ne (c : UInt8) : ∀ l, ∃ h r, cutL c l = h :: r
  | [] => ⟨[], [], rfl⟩
  | b :: t => by
    rw [cutL]
    split
    · exact ⟨_, _, rfl⟩
    · obtain ⟨h, r, e⟩ := cutL_ne c t
      rw [e]; exact ⟨_, _, rfl⟩
theorem preL_nil (c : UInt8) (l : List UInt8) : preL [] (cutL c l) = cutL c l := by
  obtain ⟨h, r, e⟩ := cutL_ne c l
  rw [e]; rfl
theorem preL_hit (c : UInt8) (p t : List UInt8) : preL p (cutL c (c :: t)) = p :: cutL c t := by
  rw [cutL, if_pos rfl, preL, List.append_nil]
theorem preL_miss (c b : UInt8) (p t : List UInt8) (h : b ≠ c) : preL p (cutL c (b :: t)) = preL (p ++ [b]) (cutL c t) := by
  rw [cutL, if_neg h]
  obtain ⟨x, r, e⟩ := cutL_ne c t
  rw [e]
  show (p ++ b :: x) :: r = (p ++ [b] ++ x) :: r
  simp
theorem cutL_no (c : UInt8) : ∀ l, c ∉ l → cutL c l = [l]
  | [], _ => rfl
  | b :: t, h => by
    rw [cutL, if_neg (fun e => h (by rw [e]; exact List.mem_cons_self)), cutL_no c t (fun m => h (List.mem_cons_of_mem _ m))]
theorem cutL_at (c : UInt8) (q : List UInt8) : ∀ p, c ∉ p → cutL c (p ++ c :: q) = p :: cutL c q
  | [], _ => by rw [List.nil_append, cutL, if_pos rfl]
  | b :: t, h => by
    rw [List.cons_append, cutL, if_neg (fun e => h (by rw [e]; exact List.mem_cons_self)), cutL_at c q t (fun m => h (List.mem_cons_of_mem _ m))]
theorem cutL_len (c : UInt8) : ∀ l, (cutL c l).length ≤ l.length + 1
  | [] => by simp [cutL]
  | b :: t => by
    have ih := cutL_len c t
    rw [cutL]
    split
    · simp only [List.length_cons]; omega
    · obtain ⟨h, r, e⟩ := cutL_ne c t
      rw [e] at ih ⊢
      simp only [List.length_cons] at ih ⊢; omega
theorem splitK_is (c : UInt8) : ∀ (n : Nat) (l : List UInt8), l.length ≤ n → Lib.splitK [c] 0 (l.count c) l = cutL c l
  | n, l, hn => by
    rcases byte_parts c l with h | ⟨p, q, h1, h2⟩
    · rw [List.count_eq_zero.2 h, cutL_no c l h]; rfl
    · subst h2
      rw [cutL_at c q p h1, List.count_append, List.count_eq_zero.2 h1, List.count_cons_self, Nat.zero_add, Lib.splitK, index_byte_at c q p h1]
      have hne : ¬ (((p.length : Nat) : Int) == -1) = true := fun e => by have := beq_iff_eq.1 e; omega
      rw [if_neg hne, Int.toNat_natCast, Nat.add_zero]
      have hq : q.length < n := by rw [List.length_append, List.length_cons] at hn; omega
      cases n with
      | zero => omega
      | succ n =>
        have ih := splitK_is c n q (by omega)
        have e1 : (p ++ c :: q).take p.length = p := by simp
        have e2 : (p ++ c :: q).drop (p.length + [c].length) = q := by simp
        rw [e1, e2, ih]
theorem splitB_is (c : UInt8) (l : List UInt8) : Lib.splitB ⟨#[c]⟩ 0 (Lib.countB (bs l) ⟨#[c]⟩) (bs l) = (cutL c l).map bs := by
  have h := Lib.splitB_data ⟨#[c]⟩ 0 (Lib.countB (bs l) ⟨#[c]⟩) (bs l)
  have e : Lib.countB (bs l) ⟨#[c]⟩ = l.count c := by
    show Lib.count (bs l).data.toList [c] = _
    rw [bs_list, Lib.count_one]
  rw [e, bs_list] at h
  have h2 : (Lib.splitB ⟨#[c]⟩ 0 (l.count c) (bs l)).map (·.data.toList) = cutL c l := by rw [h]; exact splitK_is c _ l (Nat.le_refl _)
  rw [e, ← h2, List.map_map]
  conv => lhs; rw [← List.map_id (Lib.splitB ⟨#[c]⟩ 0 (l.count c) (bs l))]
  exact List.map_congr_left fun x _ => (bs_back x).symm
theorem split_is (c : UInt8) (l : List UInt8) (hl : l.length ≤ 1048576) : strings_Split.f (bs l) ⟨#[c]⟩ = some ((cutL c l).map bs) := by
  unfold strings_Split.f
  rw [if_pos ⟨by rw [bs_size]; exact hl, show 1 ≤ 1 from Nat.le_refl _⟩, splitB_is]

theorem take_more {l : List UInt8} {s i : Nat} (hs : s ≤ i) (hi : i < l.length) : (l.drop s).take (i + 1 - s) = (l.drop s).take (i - s) ++ [l[i]] := by
  rw [show i + 1 - s = (i - s) + 1 by omega, List.take_succ_eq_append_getElem (by rw [List.length_drop]; omega), List.getElem_drop]
  congr 2
  have : s + (i - s) = i := by omega
  simp only [this]
/-- A text's lines. -/
def lines (l : List UInt8) : List ByteArray := if ((cutL 10 l).getLast?.getD []) = [] then ((cutL 10 l).map bs).take ((cutL 10 l).length - 1) else (cutL 10 l).map bs
theorem lines_len (l : List UInt8) : (lines l).length ≤ l.length + 1 := by
  have := cutL_len 10 l
  unfold lines
  split
  · rw [List.length_take, List.length_map]; omega
  · rw [List.length_map]; exact this
theorem lines_mem (l : List UInt8) : ∀ t ∈ lines l, t.size ≤ l.length := by
  have hm : ∀ (l : List UInt8), ∀ x ∈ cutL 10 l, x.length ≤ l.length := fun l => by
    induction l with
    | nil => intro x hx; rw [cutL, List.mem_singleton] at hx; subst hx; simp
    | cons b t ih =>
      intro x hx
      rw [cutL] at hx
      split at hx
      · rcases List.mem_cons.1 hx with rfl | hx
        · simp
        · have := ih x hx; simp only [List.length_cons]; omega
      · obtain ⟨h, r, e⟩ := cutL_ne 10 t
        rw [e] at hx ih
        rcases List.mem_cons.1 hx with rfl | hx
        · have := ih h List.mem_cons_self; simp only [List.length_cons]; omega
        · have := ih x (List.mem_cons_of_mem _ hx); simp only [List.length_cons]; omega
  intro t ht
  have : t ∈ (cutL 10 l).map bs := by
    unfold lines at ht
    split at ht
    · exact List.mem_of_mem_take ht
    · exact ht
  obtain ⟨x, hx, rfl⟩ := List.mem_map.1 this
  rw [bs_size]; exact hm l x hx
theorem tail_is (L : List (List UInt8)) (hne : ∃ h r, L = h :: r) (hl : L.length ≤ 10000000) :
    (if 0 ≤ (wrap64 (((L.map bs).length : Int) - 1)) then (if (wrap64 (((L.map bs).length : Int) - 1)) < ((L.map bs).length : Int) then (if (rdOf ByteArray.empty (L.map bs) (wrap64 (((L.map bs).length : Int) - 1))).toList = ([] : List UInt8) then (if (wrap64 (((L.map bs).length : Int) - 1)) ≤ ((L.map bs).length : Int) then (some ((L.map bs).take ((wrap64 (((L.map bs).length : Int) - 1)) : Int).toNat)) else (none)) else (some (L.map bs))) else (none)) else (none))
      = some (if (L.getLast?.getD []) = [] then (L.map bs).take (L.length - 1) else L.map bs) := by
  have hp : 1 ≤ L.length := by obtain ⟨h, r, rfl⟩ := hne; simp
  rw [List.length_map, w64 (x := (L.length : Int) - 1) (by omega) (by omega), if_pos (by omega), if_pos (by omega)]
  have e : (rdOf ByteArray.empty (L.map bs) ((L.length : Int) - 1)).toList = L.getLast?.getD [] := by
    unfold rdOf
    rw [show ((L.length : Int) - 1).toNat = L.length - 1 by omega, List.getD_eq_getElem?_getD, List.getElem?_map, List.getLast?_eq_getElem?, List.getElem?_eq_getElem (by omega)]
    exact bs_toList _
  rw [e]
  split
  · rw [if_pos (by omega), show ((L.length : Int) - 1).toNat = L.length - 1 by omega]
  · rfl
/-- A line's words. -/
def words (l : List UInt8) : List ByteArray := ((cutL 32 l).filter fun x => !x.isEmpty).map bs
theorem words_mem (l : List UInt8) : ∀ t ∈ words l, 1 ≤ t.size := by
  intro t ht
  obtain ⟨x, hx, rfl⟩ := List.mem_map.1 ht
  have := (List.mem_filter.1 hx).2
  rw [bs_size]
  cases x with
  | nil => cases this
  | cons a b => simp
theorem words_len (l : List UInt8) : (words l).length ≤ l.length + 1 := by
  unfold words
  rw [List.length_map]
  exact Nat.le_trans (List.length_filter_le _ _) (cutL_len 32 l)
theorem lines_impl (l : List UInt8) (hl : l.length ≤ 65536) : impl_linesOf.f (bs l) = some (lines l) := by
  have hc := cutL_len 10 l
  have ht := tail_is (cutL 10 l) (cutL_ne 10 l) (by omega)
  unfold impl_linesOf.f
  rw [split_is 10 l (by omega), Option.bind_some]
  exact ht
theorem words_impl (l : List UInt8) (hl : l.length ≤ 65536) : impl_wordsOf.f (bs l) = some (words l) := by
  unfold impl_wordsOf.f
  rw [split_is 32 l (by omega), Option.map_some, List.filter_map]
  unfold words
  congr 2
  refine List.filter_congr fun x _ => ?_
  show (!(bs x).toList.isEmpty) = !x.isEmpty
  rw [bs_toList]

end Go.Proofs.YthhhmcijbplcoaaGreatDoor
