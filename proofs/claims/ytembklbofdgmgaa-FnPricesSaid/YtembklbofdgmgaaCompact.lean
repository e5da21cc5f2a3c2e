/- The library's Compact of an ascending list: the same members, each once. -/
import Derived.Test.YtembklbofdgmgaaWords0
import Derived.Lib.SlicesCompact
namespace Go.Proofs.Ytembklbofdgmgaa
open Go.Lib

theorem cu_mem (d : Array Int) : ∀ (m : Nat), m ≤ d.size → ∀ x, (x ∈ compactUpTo d m ↔ ∃ j, j < m ∧ d[j]! = x)
  | 0, _, x => by simp [compactUpTo]
  | m + 1, h, x => by
    rw [compactUpTo_succ, List.mem_append, cu_mem d m (by omega) x]
    by_cases k : keeps d m = true
    · rw [if_pos k, List.mem_singleton]
      constructor
      · rintro (⟨j, hj, e⟩ | e)
        · exact ⟨j, by omega, e⟩
        · exact ⟨m, by omega, e.symm⟩
      · rintro ⟨j, hj, e⟩
        by_cases hjm : j = m
        · subst hjm; exact .inr e.symm
        · exact .inl ⟨j, by omega, e⟩
    · rw [if_neg k]
      have hk : m ≠ 0 ∧ d[m]! = d[m - 1]! := by
        unfold keeps at k
        simp only [decide_eq_true_eq] at k
        refine ⟨fun e => k (.inl e), Classical.byContradiction fun e => k (.inr e)⟩
      simp only [List.not_mem_nil, or_false]
      constructor
      · rintro ⟨j, hj, e⟩; exact ⟨j, by omega, e⟩
      · rintro ⟨j, hj, e⟩
        by_cases hjm : j = m
        · subst hjm; exact ⟨j - 1, by omega, by rw [← hk.2]; exact e⟩
        · exact ⟨j, by omega, e⟩

theorem cu_asc (d : Array Int) (hs : ∀ i j, i ≤ j → j < d.size → d[i]! ≤ d[j]!) : ∀ (m : Nat), m ≤ d.size → (compactUpTo d m).Pairwise (· < ·)
  | 0, _ => by simp [compactUpTo]
  | m + 1, h => by
    rw [compactUpTo_succ]
    by_cases k : keeps d m = true
    · rw [if_pos k, List.pairwise_append]
      refine ⟨cu_asc d hs m (by omega), List.pairwise_singleton _ _, fun x hx y hy => ?_⟩
      rw [List.mem_singleton] at hy
      subst hy
      obtain ⟨j, hj, rfl⟩ := (cu_mem d m (by omega) x).1 hx
      unfold keeps at k
      simp only [decide_eq_true_eq] at k
      rcases k with k | k
      · omega
      · have h1 := hs j (m - 1) (by omega) (by omega)
        have h2 := hs (m - 1) m (by omega) (by omega)
        omega
    · rw [if_neg k, List.append_nil]
      exact cu_asc d hs m (by omega)

theorem compact_mem (l : List Int) (x : Int) : x ∈ compact l ↔ x ∈ l := by
  unfold compact
  rw [cu_mem l.toArray l.length (by simp) x]
  constructor
  · rintro ⟨j, hj, rfl⟩
    rw [getElem!_pos l.toArray j (by simpa using hj)]
    simp
  · intro h
    obtain ⟨j, hj, e⟩ := List.mem_iff_getElem.1 h
    exact ⟨j, hj, by rw [getElem!_pos l.toArray j (by simpa using hj)]; simpa using e⟩

theorem compact_asc (l : List Int) (h : l.Pairwise (· ≤ ·)) : (compact l).Pairwise (· < ·) := by
  unfold compact
  refine cu_asc l.toArray (fun i j hij hj => ?_) l.length (by simp)
  have hj' : j < l.length := by simpa using hj
  rw [getElem!_pos l.toArray i (by simp; omega), getElem!_pos l.toArray j (by simpa using hj')]
  simp only [List.getElem_toArray]
  by_cases e : i = j
  · subst e; omega
  · exact List.pairwise_iff_getElem.1 h i j (by omega) hj' (by omega)

/-- What is sorted and freed of its like: ascending, the same members. -/
theorem sorted_compact (l : List Int) : (compact (l.mergeSort fun x y => decide (x ≤ y))).Pairwise (· < ·) ∧ ∀ x, x ∈ compact (l.mergeSort fun x y => decide (x ≤ y)) ↔ x ∈ l := by
  refine ⟨compact_asc _ ?_, fun x => ?_⟩
  · have := List.pairwise_mergeSort (le := fun x y : Int => decide (x ≤ y)) (fun a b c h1 h2 => by simp only [decide_eq_true_eq] at *; omega) (fun a b => by simp only [Bool.or_eq_true, decide_eq_true_eq]; omega) l
    exact this.imp (fun h => by simpa using h)
  · rw [compact_mem, List.mem_mergeSort]

end Go.Proofs.Ytembklbofdgmgaa
