/- Where a text is cut at a byte. -/
import Derived.Lib.IndexMore
namespace Go.Proofs.YthhhmcijbplcoaaGreatDoor

theorem index_byte_no (c : UInt8) : ∀ l : List UInt8, c ∉ l → Lib.index l [c] = -1
  | [], _ => by unfold Lib.index; rfl
  | b :: l, h => by
    have h1 : b ≠ c := fun e => h (by rw [e]; exact List.mem_cons_self)
    have ih := index_byte_no c l (fun m => h (List.mem_cons_of_mem _ m))
    unfold Lib.index
    have e : ([c] : List UInt8).isPrefixOf (b :: l) = false := by
      simp only [List.isPrefixOf, Bool.and_true, beq_eq_false_iff_ne]; exact fun x => h1 x.symm
    rw [e, ih]; rfl
theorem index_byte_at (c : UInt8) (q : List UInt8) : ∀ p : List UInt8, c ∉ p → Lib.index (p ++ c :: q) [c] = (p.length : Int)
  | [], _ => by
    rw [List.nil_append]; unfold Lib.index
    rw [if_pos (by simp [List.isPrefixOf])]; rfl
  | b :: p, h => by
    have h1 : b ≠ c := fun e => h (by rw [e]; exact List.mem_cons_self)
    have ih := index_byte_at c q p (fun m => h (List.mem_cons_of_mem _ m))
    rw [List.cons_append]; unfold Lib.index
    have e : ([c] : List UInt8).isPrefixOf (b :: (p ++ c :: q)) = false := by
      simp only [List.isPrefixOf, Bool.and_true, beq_eq_false_iff_ne]; exact fun x => h1 x.symm
    rw [e, ih, if_neg (by decide), if_neg (by simp only [beq_iff_eq]; omega)]
    simp
theorem cut_no (c : UInt8) (l : List UInt8) (h : c ∉ l) : Lib.cut l [c] = (l, [], false) := by
  unfold Lib.cut; rw [index_byte_no c l h]; rfl
theorem cut_at (c : UInt8) (p q : List UInt8) (h : c ∉ p) : Lib.cut (p ++ c :: q) [c] = (p, q, true) := by
  unfold Lib.cut
  rw [index_byte_at c q p h, if_pos (by omega), Int.toNat_natCast]
  simp
/-- A text either holds the byte nowhere, or parts at its first place. -/
theorem byte_parts (c : UInt8) : ∀ l : List UInt8, c ∉ l ∨ ∃ p q, c ∉ p ∧ l = p ++ c :: q
  | [] => .inl (by simp)
  | b :: l => by
    by_cases e : b = c
    · subst e; exact .inr ⟨[], l, by simp, rfl⟩
    · rcases byte_parts c l with h | ⟨p, q, h1, h2⟩
      · exact .inl (by simp only [List.mem_cons, not_or]; exact ⟨fun x => e x.symm, h⟩)
      · exact .inr ⟨b :: p, q, by simp only [List.mem_cons, not_or]; exact ⟨fun x => e x.symm, h1⟩, by rw [h2]; rfl⟩

end Go.Proofs.YthhhmcijbplcoaaGreatDoor
