/- The struct types of this seat's laws: whatever reads at one is one of the print's own values, with its numbers in range. -/
import Derived.Test.YtaablbglkfpbpaaPAllx0
import Derived.Test.YtaablbglkfpbpaaOpens
namespace Go.Proofs.Ytaablbglkfpbpaa
open Go.RowKit Go.Proofs.Ytaablbglkfpbpaa.PAll Go.Proofs.YtaablbglkfpbpaaW.PrintWords Go.Proofs.YtaablbglkfpbpaaW.PrintLast

def okS94 (x : S94) : Prop := ((Lit.int .i64 x.f0).wf = true) ∧ ((Lit.int .i64 x.f1).wf = true) ∧ ((Lit.int .i64 x.f2).wf = true)
theorem opens94 : Opens Try.prog 94 k94 okS94 := by
  refine opens_struct (d := (Kd.pair (Kd.int .i64) (Kd.pair (Kd.int .i64) (Kd.int .i64)))) (ok := (fun x => (fun n : Int => (Lit.int .i64 n).wf = true) x.1 ∧ (fun x => (fun n : Int => (Lit.int .i64 n).wf = true) x.1 ∧ (fun n : Int => (Lit.int .i64 n).wf = true) x.2) x.2)) (len := 3) Try.underlying94 (by kernel_rfl) ?_ (fun x : S94 => (x.f0, x.f1, x.f2)) (fun p => (⟨p.1, p.2.1, p.2.2⟩ : S94)) (fun _ => rfl)
  refine at_cons (lo := 0) (len0 := 1) (len := 2) (d0 := (Kd.int .i64)) (ok0 := (fun n : Int => (Lit.int .i64 n).wf = true)) (d := (Kd.pair (Kd.int .i64) (Kd.int .i64))) (ok := (fun x => (fun n : Int => (Lit.int .i64 n).wf = true) x.1 ∧ (fun n : Int => (Lit.int .i64 n).wf = true) x.2)) (opens_int Try.underlying3) rfl rfl (by kernel_rfl) ?_
  refine at_cons (lo := 1) (len0 := 1) (len := 1) (d0 := (Kd.int .i64)) (ok0 := (fun n : Int => (Lit.int .i64 n).wf = true)) (d := (Kd.int .i64)) (ok := (fun n : Int => (Lit.int .i64 n).wf = true)) (opens_int Try.underlying3) rfl rfl (by kernel_rfl) ?_
  exact at_one (lo := 2) (len := 1) (opens_int Try.underlying3) rfl rfl (by kernel_rfl)
def okS24 (x : S24) : Prop := (x.f0.size ≤ 9223372036854775807) ∧ ((x.f1.length ≤ 9223372036854775807 ∧ ∀ y ∈ x.f1, okS94 y)) ∧ ((Lit.int .i64 x.f2).wf = true) ∧ ((Lit.int .i64 x.f3).wf = true)
theorem opens24 : Opens Try.prog 24 k24 okS24 := by
  refine opens_struct (d := (Kd.pair Kd.string (Kd.pair (Kd.slice 94 k94) (Kd.pair (Kd.int .i64) (Kd.int .i64))))) (ok := (fun x => (fun s : ByteArray => s.size ≤ 9223372036854775807) x.1 ∧ (fun x => (fun l : List (S94) => l.length ≤ 9223372036854775807 ∧ ∀ y ∈ l, okS94 y) x.1 ∧ (fun x => (fun n : Int => (Lit.int .i64 n).wf = true) x.1 ∧ (fun n : Int => (Lit.int .i64 n).wf = true) x.2) x.2) x.2)) (len := 4) Try.underlying24 (by kernel_rfl) ?_ (fun x : S24 => (x.f0, x.f1, x.f2, x.f3)) (fun p => (⟨p.1, p.2.1, p.2.2.1, p.2.2.2⟩ : S24)) (fun _ => rfl)
  refine at_cons (lo := 0) (len0 := 1) (len := 3) (d0 := Kd.string) (ok0 := (fun s : ByteArray => s.size ≤ 9223372036854775807)) (d := (Kd.pair (Kd.slice 94 k94) (Kd.pair (Kd.int .i64) (Kd.int .i64)))) (ok := (fun x => (fun l : List (S94) => l.length ≤ 9223372036854775807 ∧ ∀ y ∈ l, okS94 y) x.1 ∧ (fun x => (fun n : Int => (Lit.int .i64 n).wf = true) x.1 ∧ (fun n : Int => (Lit.int .i64 n).wf = true) x.2) x.2)) (opens_string Try.underlying9) rfl rfl (by kernel_rfl) ?_
  refine at_cons (lo := 1) (len0 := 1) (len := 2) (d0 := (Kd.slice 94 k94)) (ok0 := (fun l : List (S94) => l.length ≤ 9223372036854775807 ∧ ∀ y ∈ l, okS94 y)) (d := (Kd.pair (Kd.int .i64) (Kd.int .i64))) (ok := (fun x => (fun n : Int => (Lit.int .i64 n).wf = true) x.1 ∧ (fun n : Int => (Lit.int .i64 n).wf = true) x.2)) (opens_slice Try.underlying22 (by kernel_rfl) opens94) rfl rfl (by kernel_rfl) ?_
  refine at_cons (lo := 2) (len0 := 1) (len := 1) (d0 := (Kd.int .i64)) (ok0 := (fun n : Int => (Lit.int .i64 n).wf = true)) (d := (Kd.int .i64)) (ok := (fun n : Int => (Lit.int .i64 n).wf = true)) (opens_int Try.underlying3) rfl rfl (by kernel_rfl) ?_
  exact at_one (lo := 3) (len := 1) (opens_int Try.underlying3) rfl rfl (by kernel_rfl)
end Go.Proofs.Ytaablbglkfpbpaa
