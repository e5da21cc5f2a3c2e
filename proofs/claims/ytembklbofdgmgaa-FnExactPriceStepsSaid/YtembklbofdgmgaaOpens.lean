/- Whatever value of a type reads as data is a value of the kind that the printed functions speak of, with its numbers in range and its texts and rows no longer than the model lets them be: the step from a row's reading to a printed contract. -/
import Derived.Test.YtembklbofdgmgaaWords0
import Derived.ProofKit
import Derived.OpenShut
import Derived.ShutString
import Derived.ChangeOld
import Derived.Below
import Derived.SizedLaws
import Derived.ChangeArms
import Derived.Deep.Slices
import Derived.Carry
namespace Go.Proofs.Ytembklbofdgmgaa
open Go.ChangeShapes Go.WideShapes Go.RowKit Go.Proofs.YtembklbofdgmgaaW.PrintWords Go.Proofs.YtembklbofdgmgaaW.PrintLast Go.Proofs.YtembklbofdgmgaaW.PrintMore

def Opens {α : Type} (P : Program) (t : TypeId) (d : Kd α) (ok : α → Prop) : Prop :=
  ∀ {H : Type} {enc : TypeId × Value → H} {W : World} {base : Nat} {spare : Nat → Bool} {held : Bool} {fuel : Nat} {cs : List Value} {y : DataW H × List MemPlace},
    DataW.trod enc P W base spare held fuel t cs = some y → ∃ x, d.K W x cs ∧ ok x

section
variable {P : Program} {t e : TypeId}

theorem opens_int {k : IntKind} (ht : P.underlying t = some (.int k)) : Opens P t (Kd.int k) (fun n => (Lit.int k n).wf = true) := fun h => by
  obtain ⟨n, rfl, _, hw⟩ := DataW.trod_int ht h
  exact ⟨n, rfl, hw⟩

theorem opens_bool (ht : P.underlying t = some .bool) : Opens P t Kd.bool (fun _ => True) := fun h => by
  obtain ⟨b, rfl, _⟩ := DataW.trod_bool ht h
  exact ⟨b, rfl, trivial⟩

theorem opens_string (ht : P.underlying t = some .string) : Opens P t Kd.string (fun s => s.size ≤ 9223372036854775807) := fun h => by
  obtain ⟨s, rfl, _, hs⟩ := DataW.trod_string ht h
  exact ⟨s, rfl, hs⟩

theorem exists_list {α : Type} {Q : Nat → α → Prop} : ∀ n, (∀ i, i < n → ∃ x, Q i x) → ∃ l : List α, l.length = n ∧ ∀ i x, l[i]? = some x → Q i x
  | 0, _ => ⟨[], rfl, fun i x h => by simp at h⟩
  | n + 1, h => by
    obtain ⟨l, hl, hq⟩ := exists_list n (fun i hi => h i (by omega))
    obtain ⟨x, hx⟩ := h n (by omega)
    refine ⟨l ++ [x], by simp [hl], fun i y hy => ?_⟩
    rcases Nat.lt_or_ge i n with hi | hi
    · rw [List.getElem?_append_left (by omega)] at hy
      exact hq i y hy
    · have hlt := (List.getElem?_eq_some_iff.1 hy).1
      rw [List.length_append, List.length_singleton, hl] at hlt
      have : i = n := by omega
      subst this
      rw [List.getElem?_append_right (by omega), hl, Nat.sub_self] at hy
      obtain rfl : x = y := by simpa using hy
      exact hx

theorem opens_slice {α : Type} {d : Kd α} {ok : α → Prop} (ht : P.underlying t = some (.slice e)) (hd : P.cellsOf e = d.sz) (he : Opens P e d ok) :
    Opens P t (Kd.slice e d) (fun l => l.length ≤ 9223372036854775807 ∧ ∀ x ∈ l, ok x) := fun {H enc W base spare held fuel cs y} h => by
  rcases Deep.open_slice ht h with ⟨rfl, _⟩ | ⟨a, len, cap, m, n, D, Pl, rfl, _, hl, hm, hme, _, hel⟩
  · exact ⟨[], ⟨none, 0, rfl, Nat.le_refl _, rfl, by simp, fun h => absurd h (by simp)⟩, by simp, by simp⟩
  · have hlm : len ≤ m := by rw [hme]; split <;> omega
    have hmx : cap ≤ 9223372036854775807 := hm
    obtain ⟨l, hlen, hq⟩ := exists_list (Q := fun i x => ok x ∧ ∃ cs', cs'.length = d.sz ∧ d.K W x cs' ∧ ∀ j u, cs'[j]? = some u → W.cell? (a.add (i * d.sz + j)) = some u) len (fun i hi => by
      obtain ⟨cs', hcs, htr⟩ := hel i (by omega)
      obtain ⟨x, hx, hok⟩ := he htr
      refine ⟨x, hok, cs', d.K_len hx, hx, fun j u hu => ?_⟩
      obtain ⟨h1, h2, h3⟩ := World.cells?_some hcs
      have hj := (List.getElem?_eq_some_iff.1 hu).1
      have h4 := h3 j (by have := d.K_len hx; omega)
      rw [Deep.add_add, hd] at h4
      rw [h4]; exact hu)
    refine ⟨l, ⟨some a, cap, by rw [hlen], by omega, rfl, by omega, fun _ => ⟨a, rfl, fun j p hj => ?_⟩⟩, by omega, fun x hx => ?_⟩
    · obtain ⟨_, cs', g1, g2, g3⟩ := hq j p hj
      exact ⟨cs', g1, g2, g3⟩
    · obtain ⟨i, hi⟩ := List.mem_iff_getElem?.1 hx
      exact (hq i x hi).1

/-- The fields from one on, as cells from one on. -/
def OpensAt {α : Type} (P : Program) (fs : List Field) (lo len : Nat) (d : Kd α) (ok : α → Prop) : Prop :=
  ∀ {H : Type} {enc : TypeId × Value → H} {W : World} {base : Nat} {spare : Nat → Bool} {held : Bool} {n : Nat} {cs : List Value},
    (∀ f ∈ fs, ∃ y : DataW H × List MemPlace, DataW.trod enc P W base spare held n f.type ((cs.drop f.offset).take (P.cellsOf f.type)) = some y) → ∃ x, d.K W x ((cs.drop lo).take len) ∧ ok x

theorem at_one {α : Type} {f : Field} {ft : TypeId} {lo len : Nat} {d : Kd α} {ok : α → Prop} (h : Opens P ft d ok) (h1 : f.type = ft) (h2 : f.offset = lo) (h3 : P.cellsOf ft = len) : OpensAt P [f] lo len d ok := fun hf => by
  obtain ⟨y, hy⟩ := hf f (by simp)
  rw [h1, h2, h3] at hy
  exact h hy

theorem at_cons {α β : Type} {f : Field} {ft : TypeId} {fs : List Field} {lo len0 len : Nat} {d0 : Kd α} {ok0 : α → Prop} {d : Kd β} {ok : β → Prop} (h : Opens P ft d0 ok0) (h1 : f.type = ft) (h2 : f.offset = lo) (h3 : P.cellsOf ft = len0)
    (hr : OpensAt P fs (lo + len0) len d ok) : OpensAt P (f :: fs) lo (len0 + len) (Kd.pair d0 d) (fun x => ok0 x.1 ∧ ok x.2) := fun {H enc W base spare held n cs} hf => by
  obtain ⟨y, hy⟩ := hf f (by simp)
  rw [h1, h2, h3] at hy
  obtain ⟨x0, k0, o0⟩ := h hy
  obtain ⟨x1, k1, o1⟩ := hr (fun g hg => hf g (by simp [hg]))
  refine ⟨(x0, x1), ⟨_, _, ?_, k0, k1⟩, o0, o1⟩
  rw [List.take_add, List.drop_drop]

theorem opens_struct {α β : Type} {fs : Array Field} {len : Nat} {d : Kd α} {ok : α → Prop} (ht : P.underlying t = some (.struct fs)) (hl : P.cellsOf t = len) (hr : OpensAt P fs.toList 0 len d ok) (f : β → α) (g : α → β) (hfg : ∀ a, f (g a) = a) :
    Opens P t (Kd.iso d f) (fun x => ok (f x)) := fun {H enc W base spare held fuel cs y} h => by
  obtain ⟨xs, n, _, _, hlen, hxs, hf⟩ := DataW.trod_struct ht h
  obtain ⟨x, hx, hok⟩ := hr (enc := enc) (W := W) (base := base) (spare := spare) (held := held) (n := n) (cs := cs) (fun fd hfd => by
    obtain ⟨i, hi⟩ := List.mem_iff_getElem?.1 hfd
    have hi' : fs[i]? = some fd := by rw [← Array.getElem?_toList]; exact hi
    have h1 := hf i fd hi'
    have hlt : i < xs.length := by rw [hxs]; exact (Array.getElem?_eq_some_iff.1 hi').1
    rw [List.getElem?_eq_getElem hlt] at h1
    exact ⟨_, h1⟩)
  refine ⟨g x, ?_, ?_⟩
  · show d.K W (f (g x)) cs
    rw [hfg]
    rw [List.drop_zero, List.take_of_length_le (by omega)] at hx
    exact hx
  · show ok (f (g x))
    rw [hfg]; exact hok
end

/-- A slice that came in: its list, told as a printed contract wants it. -/
theorem open_row {P : Program} {t e : TypeId} {α : Type} {d : Kd α} {ok : List α → Prop} {H : Type} {enc : TypeId × Value → H} {W : World} {base : Nat} {spare : Nat → Bool} {held : Bool} {a : Option Addr} {len cap : Nat} {y : DataW H} {ps : List MemPlace}
    (h : Opens P t (Kd.slice e d) ok) (hf : DataW.Trod enc P W base spare held t (.slice a len cap) y ps) : ∃ l, len = l.length ∧ l.length ≤ cap ∧ d.C W a l.length l ∧ ok l := by
  obtain ⟨fuel, hf⟩ := hf
  obtain ⟨l, ⟨A, c, he, h1, h2⟩, hok⟩ := h hf
  have he' : Value.slice a len cap = .slice A l.length c := by simpa [Value.cells] using he
  injection he' with e1 e2 e3
  subst e1; subst e3
  exact ⟨l, e2, h1, h2, hok⟩

/-- A struct that came in by value. -/
theorem open_rec {P : Program} {t : TypeId} {α : Type} {d : Kd α} {ok : α → Prop} {H : Type} {enc : TypeId × Value → H} {W : World} {base : Nat} {spare : Nat → Bool} {held : Bool} {cs : Array Value} {y : DataW H} {ps : List MemPlace}
    (h : Opens P t d ok) (hf : DataW.Trod enc P W base spare held t (.agg cs) y ps) : ∃ x, d.K W x cs.toList ∧ ok x := by
  obtain ⟨fuel, hf⟩ := hf
  exact h hf

end Go.Proofs.Ytembklbofdgmgaa
