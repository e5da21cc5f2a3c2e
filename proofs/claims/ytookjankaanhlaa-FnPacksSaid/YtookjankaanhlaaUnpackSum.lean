/- What unpacking gives: counts that are not below 0, what is left is less than any size, and all of it is as many as there were. -/
import Derived.Test.YtookjankaanhlaaPAllx0
import Derived.Test.YtookjankaanhlaaPAllx24
import Derived.Test.YtookjankaanhlaaUnpack
namespace Go.Proofs.Ytookjankaanhlaa
open Go.RowKit Go.Proofs.Ytookjankaanhlaa.PAll Go.Proofs.YtookjankaanhlaaW.PrintWords Go.Proofs.YtookjankaanhlaaW.PrintLast

def dot : List Int → List Int → Int
  | a :: r, b :: s => a * b + dot r s
  | _, _ => 0

theorem dot_set : ∀ (a b : List Int) (j : Nat) (q : Int), a.length = b.length → j < a.length → dot (a.set j (a.getD j 0 + q)) b = dot a b + q * b.getD j 0
  | [], _, _, _, _, h => by simp at h
  | x :: xs, [], _, _, h, _ => by simp at h
  | x :: xs, y :: ys, 0, q, _, _ => by
    simp only [List.set_cons_zero, List.getD_cons_zero, dot]
    rw [Int.add_mul]; omega
  | x :: xs, y :: ys, j + 1, q, h, hj => by
    simp only [List.set_cons_succ, List.getD_cons_succ, dot]
    simp only [List.length_cons] at h hj
    rw [dot_set xs ys j q (by omega) (by omega)]
    omega

theorem dot_zero : ∀ (n : Nat) (b : List Int), dot (List.replicate n 0) b = 0
  | 0, b => by cases b <;> rfl
  | n + 1, [] => rfl
  | n + 1, y :: ys => by rw [List.replicate_succ, dot, dot_zero n ys]; omega

theorem dot_nonneg : ∀ (a b : List Int), (∀ x ∈ a, 0 ≤ x) → (∀ x ∈ b, 0 ≤ x) → 0 ≤ dot a b
  | [], _, _, _ => by simp [dot]
  | x :: xs, [], _, _ => by simp [dot]
  | x :: xs, y :: ys, ha, hb => by
    have h1 := dot_nonneg xs ys (fun z hz => ha z (List.mem_cons_of_mem _ hz)) (fun z hz => hb z (List.mem_cons_of_mem _ hz))
    have h2 := Int.mul_nonneg (ha x (List.mem_cons_self ..)) (hb y (List.mem_cons_self ..))
    rw [dot]; omega

theorem dot_term : ∀ (a b : List Int) (j : Nat), a.length = b.length → j < a.length → (∀ x ∈ a, 0 ≤ x) → (∀ x ∈ b, 1 ≤ x) → a.getD j 0 ≤ dot a b
  | [], _, _, _, h, _, _ => by simp at h
  | x :: xs, [], _, h, _, _, _ => by simp at h
  | x :: xs, y :: ys, j, h, hj, ha, hb => by
    have h0 := ha x (List.mem_cons_self ..)
    have h1 := dot_nonneg xs ys (fun z hz => ha z (List.mem_cons_of_mem _ hz)) (fun z hz => by have := hb z (List.mem_cons_of_mem _ hz); omega)
    have h2 := Int.mul_le_mul_of_nonneg_left (hb y (List.mem_cons_self ..)) h0
    simp only [List.length_cons] at h hj
    cases j with
    | zero => simp only [List.getD_cons_zero, dot]; omega
    | succ j =>
      have h3 := dot_term xs ys j (by omega) (by omega) (fun z hz => ha z (List.mem_cons_of_mem _ hz)) (fun z hz => hb z (List.mem_cons_of_mem _ hz))
      have h4 := Int.mul_nonneg h0 (show (0 : Int) ≤ y by have := hb y (List.mem_cons_self ..); omega)
      simp only [List.getD_cons_succ, dot]; omega

theorem scan_stays (sizes : List Int) (u : Int) : ∀ (l : List Int) (i b r : Int), 0 ≤ i → 0 ≤ b → impl_Unpack.scan sizes u l i b = some r → 0 ≤ r
  | [], _, _, _, _, hb, h => by rw [impl_Unpack.scan, Option.some.injEq] at h; omega
  | s :: rest, i, b, r, hi, hb, h => by
    have ih := fun c hc => scan_stays sizes u rest (i + 1) c r (by omega) hc
    rw [impl_Unpack.scan] at h
    split at h
    · rw [if_neg (by omega)] at h
      split at h
      · split at h
        · exact ih _ hi h
        · exact ih _ hb h
      · exact absurd h (by simp)
    · exact ih _ hb h

/-- Where none is found, all sizes are more than what is left. -/
theorem scan_none (sizes : List Int) (u : Int) : ∀ (l : List Int) (i b r : Int), 0 ≤ i → b < 0 → impl_Unpack.scan sizes u l i b = some r → r < 0 → ∀ s ∈ l, u < s
  | [], _, _, _, _, _, _, _ => fun s hs => by simp at hs
  | s :: rest, i, b, r, hi, hb, h, hr => by
    rw [impl_Unpack.scan] at h
    split at h
    · have := scan_stays sizes u rest (i + 1) i r (by omega) hi (by first | exact h | (rw [if_pos hb] at h; exact h))
      omega
    · rename_i hs
      intro y hy
      rcases List.mem_cons.1 hy with e | e
      · rw [e]; omega
      · exact scan_none sizes u rest (i + 1) b r (by omega) hb h hr y e

structure Packed (sizes : List Int) (n : Int) (r : List Int × Int × Int) : Prop where
  len : r.1.length = sizes.length
  pos : ∀ x ∈ r.1, 0 ≤ x
  code : r.2.2 = 0
  left0 : 0 ≤ r.2.1
  left : ∀ s ∈ sizes, r.2.1 < s
  all : r.2.1 + dot r.1 sizes = n

theorem loop_sum (sizes : List Int) (hu : Units sizes) (t : Int) (ht : t ≤ 1000000) : ∀ (n : Nat) (u : Int) (out : List Int), 0 ≤ u → u ≤ n → out.length = sizes.length → (∀ x ∈ out, 0 ≤ x) → u + dot out sizes = t → ∃ r, Packed sizes t r ∧ ∀ k, n < k → impl_Unpack.loop sizes k out u = some r := by
  intro n
  induction n with
  | zero =>
    intro u out h0 h1 ho hp hd
    obtain ⟨b, e, hb⟩ := scan_ok sizes u sizes 0 (-1) (by simp) (by simp) (.inl (by omega))
    rw [show ((0 : Nat) : Int) = 0 from rfl] at e
    have hneg : b < 0 := by
      rcases hb with h | ⟨h, h', h''⟩
      · exact h
      · have := (rd_unit hu h h').1; omega
    refine ⟨(out, u, 0), ⟨ho, hp, rfl, h0, scan_none sizes u sizes 0 (-1) b (by omega) (by omega) e hneg, hd⟩, fun k hk => ?_⟩
    obtain ⟨k, rfl⟩ : ∃ m, k = m + 1 := ⟨k - 1, by omega⟩
    rw [impl_Unpack.loop]
    rw [e, Option.bind_some, if_pos hneg]
  | succ n ih =>
    intro u out h0 h1 ho hp hd
    obtain ⟨b, e, hb⟩ := scan_ok sizes u sizes 0 (-1) (by simp) (by simp) (.inl (by omega))
    rw [show ((0 : Nat) : Int) = 0 from rfl] at e
    by_cases hneg : b < 0
    · refine ⟨(out, u, 0), ⟨ho, hp, rfl, h0, scan_none sizes u sizes 0 (-1) b (by omega) (by omega) e hneg, hd⟩, fun k hk => ?_⟩
      obtain ⟨k, rfl⟩ : ∃ m, k = m + 1 := ⟨k - 1, by omega⟩
      rw [impl_Unpack.loop, e, Option.bind_some, if_pos hneg]
    · obtain ⟨b0, b1, b2⟩ : 0 ≤ b ∧ b < sizes.length ∧ rd sizes b ≤ u := by rcases hb with h | h; exact absurd h hneg; exact h
      have hs := rd_unit hu b0 b1
      have hm := tmod_lt (u := u) (s := rd sizes b) h0 hs.1
      have hdn := dot_nonneg out sizes hp (fun x hx => by have := (hu x hx).1; omega)
      have hterm := dot_term out sizes b.toNat ho (by omega) hp (fun x hx => (hu x hx).1)
      have hq0 : 0 ≤ Int.tdiv u (rd sizes b) := Int.tdiv_nonneg h0 (by omega)
      have hq1 : Int.tdiv u (rd sizes b) ≤ u := by rw [Int.tdiv_eq_ediv_of_nonneg h0]; exact Int.ediv_le_self _ h0
      have hqm : Int.tdiv u (rd sizes b) * rd sizes b + Int.tmod u (rd sizes b) = u := by rw [Int.mul_comm]; exact Int.mul_tdiv_add_tmod u (rd sizes b)
      have hx0 : 0 ≤ out.getD b.toNat 0 := hp _ (by rw [List.getD_eq_getElem?_getD, List.getElem?_eq_getElem (by omega : b.toNat < out.length)]; exact List.getElem_mem _)
      have hro : rd out b = out.getD b.toNat 0 := rfl
      have hw : wrap64 (rd out b + wrap64 (Int.tdiv u (rd sizes b))) = out.getD b.toNat 0 + Int.tdiv u (rd sizes b) := by
        rw [hro, w64 (x := Int.tdiv u (rd sizes b)) (by omega) (by omega), w64 (by omega) (by omega)]
      have hds := dot_set out sizes b.toNat (Int.tdiv u (rd sizes b)) ho (by omega)
      have hsz : sizes.getD b.toNat 0 = rd sizes b := rfl
      obtain ⟨r, hr, hk2⟩ := ih (Int.tmod u (rd sizes b)) (out.set b.toNat (wrap64 (rd out b + wrap64 (Int.tdiv u (rd sizes b))))) hm.1 (by omega) (by rw [List.length_set]; exact ho)
        (by
          rw [hw]
          intro x hx
          rcases List.mem_or_eq_of_mem_set hx with h | h
          · exact hp x h
          · omega)
        (by rw [hw, hds, hsz]; omega)
      refine ⟨r, hr, fun k hk => ?_⟩
      obtain ⟨k, rfl⟩ : ∃ m, k = m + 1 := ⟨k - 1, by omega⟩
      rw [impl_Unpack.loop, e, Option.bind_some, if_neg hneg, if_pos b1, if_pos (by omega), if_neg (by omega)]
      exact hk2 k (by omega)

theorem unpack_sum (l : List S149) (a : Int) (h0 : 0 ≤ a) (h1 : a < 5000) (hc : (packB l).2.1 = 0) : ∃ r, Packed (packB l).1 a r ∧ (packB l).1.length = l.length ∧ ∀ k, 10000 ≤ k → impl_Unpack.f k l a = some r := by
  have ok := packB_ok l
  have hb := packs_both l
  unfold impl_Unpack.f
  generalize packB l = b at *
  obtain ⟨sizes, code, who⟩ := b
  have hc' : code = 0 := hc
  subst hc'
  have hlen := ok.2.2 rfl
  have hlen1 : sizes.length = l.length := hlen.1
  obtain ⟨r, hr, h2⟩ := loop_sum sizes ok.1 a (by omega) 5000 a (List.replicate sizes.length 0) h0 (by omega) (by simp) (fun x hx => by rw [(List.mem_replicate.1 hx).2]; omega) (by rw [dot_zero]; omega)
  refine ⟨r, hr, hlen1, fun k hk => ?_⟩
  rw [(hb k (by omega)).1]
  simp only [Option.bind_some, if_true]
  rw [within_b, decide_eq_true (show 0 ≤ a ∧ a ≤ 1000000 by omega)]
  simp only [Option.bind_some, if_true]
  rw [if_pos (by omega)]
  exact h2 k (by omega)

end Go.Proofs.Ytookjankaanhlaa
