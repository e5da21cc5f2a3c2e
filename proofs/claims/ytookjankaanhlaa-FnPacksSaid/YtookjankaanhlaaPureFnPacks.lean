/- FnPacks is true for every code of bytes: longer ones are let by by the law's own guard; drawn packs come to sizes without an error, and unpacking drawn units gives counts and a rest that add up to them, the rest less than any size. -/
import Derived.Test.YtookjankaanhlaaPAllx37
import Derived.Test.YtookjankaanhlaaDrawPacks
import Derived.Test.YtookjankaanhlaaUnpackSum
namespace Go.Proofs.Ytookjankaanhlaa.Pure
open Go.RowKit Go.Proofs.Ytookjankaanhlaa Go.Proofs.Ytookjankaanhlaa.PAll Go.Proofs.YtookjankaanhlaaW.PrintWords Go.Proofs.YtookjankaanhlaaW.PrintLast

theorem law_loop (t left : Int) (sizes out : List Int) (hl : out.length = sizes.length) (hs : ∀ s ∈ sizes, 1 ≤ s ∧ left < s) (hp : ∀ x ∈ out, 0 ≤ x) (ht : t ≤ 1000000) (ho : out.length ≤ 30) : ∀ d i k acc, i + d = out.length → d < k → 0 ≤ acc → acc + dot (out.drop i) (sizes.drop i) = t → laws_FnPacks.l0 k t sizes out left acc (i : Int) = some true := by
  intro d
  induction d with
  | zero =>
    intro i k acc hi hk ha h
    obtain ⟨k, rfl⟩ : ∃ m, k = m + 1 := ⟨k - 1, by omega⟩
    rw [List.drop_eq_nil_of_le (by omega), dot] at h
    rw [laws_FnPacks.l0, if_neg (by omega), show acc = t by omega]
    simp
    · intro a b c d h; simp at h
  | succ d ih =>
    intro i k acc hi hk ha h
    obtain ⟨k, rfl⟩ : ∃ m, k = m + 1 := ⟨k - 1, by omega⟩
    rw [List.drop_eq_getElem_cons (by omega : i < out.length), List.drop_eq_getElem_cons (by omega : i < sizes.length), dot] at h
    have h1 : rd out (i : Int) = out[i] := by
      unfold rd
      rw [Int.toNat_natCast, List.getD_eq_getElem?_getD, List.getElem?_eq_getElem (by omega : i < out.length)]; rfl
    have h2 : rd sizes (i : Int) = sizes[i] := by
      unfold rd
      rw [Int.toNat_natCast, List.getD_eq_getElem?_getD, List.getElem?_eq_getElem (by omega : i < sizes.length)]; rfl
    have p1 := hp _ (List.getElem_mem (by omega : i < out.length))
    have p2 := hs _ (List.getElem_mem (by omega : i < sizes.length))
    have dn := dot_nonneg (out.drop (i + 1)) (sizes.drop (i + 1)) (fun x hx => hp x (List.mem_of_mem_drop hx)) (fun x hx => by have := (hs x (List.mem_of_mem_drop hx)).1; omega)
    have pm := Int.mul_nonneg p1 (show 0 ≤ sizes[i] by omega)
    rw [laws_FnPacks.l0, if_pos (by omega), if_pos (by omega), h1, h2, if_neg (by omega), if_pos (by omega), if_neg (by omega), w64 (x := out[i] * sizes[i]) (by omega) (by omega), w64 (x := acc + out[i] * sizes[i]) (by omega) (by omega), w64 (x := (i : Int) + 1) (by omega) (by omega)]
    have := ih (i + 1) k (acc + out[i] * sizes[i]) (by omega) (by omega) (by omega) (by omega)
    rwa [show ((i + 1 : Nat) : Int) = (i : Int) + 1 by omega] at this

theorem FnPacks : laws_FnPacks.Pure := by
  intro l0 _ _ hb
  refine ⟨20000, ?_⟩
  unfold laws_FnPacks.f
  by_cases hl : (l0.length : Int) > 1048576
  · rw [if_pos hl]
  rw [if_neg hl]
  obtain ⟨y, n, hy, hc, n0, n1⟩ := packsOf_ok (l := l0) (by omega) hb
  obtain ⟨r, hr, hlen, hk⟩ := unpack_sum y n n0 n1 hc
  have ok := packB_ok y
  rw [hy _ (by omega)]
  simp only [Option.bind_some]
  rw [(packs_both y _ (by omega)).1]
  simp only [Option.bind_some]
  rw [(packs_both y _ (by omega)).2]
  simp only [Option.bind_some]
  rw [if_pos hc, packB_who y hc, if_pos (show (⟨#[]⟩ : ByteArray).toList = [] by decide +kernel), sameInts_refl _ (by omega) _ (by omega)]
  simp only [Option.bind_some]
  rw [show (20000 : Nat) = 19999 + 1 from rfl, laws_FnPacks.j0]
  simp only [Bool.not_true, Bool.false_eq_true, if_false]
  rw [hk _ (by omega)]
  simp only [Option.bind_some]
  have hq := hr.len
  rw [if_pos hr.code, if_pos (by omega), decide_eq_false (by have := hr.left0; omega), show (19999 : Nat) = 19998 + 1 from rfl, laws_FnPacks.j1]
  simp only [Bool.false_eq_true, if_false]
  have := law_loop n r.2.1 (packB y).1 r.1 hr.len (fun s hs => ⟨(ok.1 s hs).1, hr.left s hs⟩) hr.pos (by omega) (by omega) r.1.length 0 19998 r.2.1 (by omega) (by omega) hr.left0 (by simpa using hr.all)
  simpa using this

end Go.Proofs.Ytookjankaanhlaa.Pure
