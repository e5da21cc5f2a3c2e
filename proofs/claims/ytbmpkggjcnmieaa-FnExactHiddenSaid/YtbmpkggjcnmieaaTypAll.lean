/- The struct types of this seat's laws: whatever reads at one is one of the print's own values, with its numbers in range. -/
import Derived.Test.YtbmpkggjcnmieaaPAllx0
import Derived.Test.YtbmpkggjcnmieaaOpens
namespace Go.Proofs.Ytbmpkggjcnmieaa
open Go.RowKit Go.Proofs.Ytbmpkggjcnmieaa.PAll Go.Proofs.YtbmpkggjcnmieaaW.PrintWords Go.Proofs.YtbmpkggjcnmieaaW.PrintLast

def okS101 (x : S101) : Prop := ((Lit.int .i64 x.f0).wf = true) ∧ ((Lit.int .i64 x.f1).wf = true) ∧ ((Lit.int .i64 x.f2).wf = true)
theorem opens101 : Opens Try.prog 101 k101 okS101 := by
  refine opens_struct (d := (Kd.pair (Kd.int .i64) (Kd.pair (Kd.int .i64) (Kd.int .i64)))) (ok := (fun x => (fun n : Int => (Lit.int .i64 n).wf = true) x.1 ∧ (fun x => (fun n : Int => (Lit.int .i64 n).wf = true) x.1 ∧ (fun n : Int => (Lit.int .i64 n).wf = true) x.2) x.2)) (len := 3) Try.underlying101 (by kernel_rfl) ?_ (fun x : S101 => (x.f0, x.f1, x.f2)) (fun p => (⟨p.1, p.2.1, p.2.2⟩ : S101)) (fun _ => rfl)
  refine at_cons (lo := 0) (len0 := 1) (len := 2) (d0 := (Kd.int .i64)) (ok0 := (fun n : Int => (Lit.int .i64 n).wf = true)) (d := (Kd.pair (Kd.int .i64) (Kd.int .i64))) (ok := (fun x => (fun n : Int => (Lit.int .i64 n).wf = true) x.1 ∧ (fun n : Int => (Lit.int .i64 n).wf = true) x.2)) (opens_int Try.underlying3) rfl rfl (by kernel_rfl) ?_
  refine at_cons (lo := 1) (len0 := 1) (len := 1) (d0 := (Kd.int .i64)) (ok0 := (fun n : Int => (Lit.int .i64 n).wf = true)) (d := (Kd.int .i64)) (ok := (fun n : Int => (Lit.int .i64 n).wf = true)) (opens_int Try.underlying3) rfl rfl (by kernel_rfl) ?_
  exact at_one (lo := 2) (len := 1) (opens_int Try.underlying3) rfl rfl (by kernel_rfl)
def okS54 (x : S54) : Prop := (x.f0.size ≤ 9223372036854775807) ∧ ((x.f1.length ≤ 9223372036854775807 ∧ ∀ y ∈ x.f1, okS101 y)) ∧ ((Lit.int .i64 x.f2).wf = true) ∧ ((Lit.int .i64 x.f3).wf = true)
theorem opens54 : Opens Try.prog 54 k54 okS54 := by
  refine opens_struct (d := (Kd.pair Kd.string (Kd.pair (Kd.slice 101 k101) (Kd.pair (Kd.int .i64) (Kd.int .i64))))) (ok := (fun x => (fun s : ByteArray => s.size ≤ 9223372036854775807) x.1 ∧ (fun x => (fun l : List (S101) => l.length ≤ 9223372036854775807 ∧ ∀ y ∈ l, okS101 y) x.1 ∧ (fun x => (fun n : Int => (Lit.int .i64 n).wf = true) x.1 ∧ (fun n : Int => (Lit.int .i64 n).wf = true) x.2) x.2) x.2)) (len := 4) Try.underlying54 (by kernel_rfl) ?_ (fun x : S54 => (x.f0, x.f1, x.f2, x.f3)) (fun p => (⟨p.1, p.2.1, p.2.2.1, p.2.2.2⟩ : S54)) (fun _ => rfl)
  refine at_cons (lo := 0) (len0 := 1) (len := 3) (d0 := Kd.string) (ok0 := (fun s : ByteArray => s.size ≤ 9223372036854775807)) (d := (Kd.pair (Kd.slice 101 k101) (Kd.pair (Kd.int .i64) (Kd.int .i64)))) (ok := (fun x => (fun l : List (S101) => l.length ≤ 9223372036854775807 ∧ ∀ y ∈ l, okS101 y) x.1 ∧ (fun x => (fun n : Int => (Lit.int .i64 n).wf = true) x.1 ∧ (fun n : Int => (Lit.int .i64 n).wf = true) x.2) x.2)) (opens_string Try.underlying9) rfl rfl (by kernel_rfl) ?_
  refine at_cons (lo := 1) (len0 := 1) (len := 2) (d0 := (Kd.slice 101 k101)) (ok0 := (fun l : List (S101) => l.length ≤ 9223372036854775807 ∧ ∀ y ∈ l, okS101 y)) (d := (Kd.pair (Kd.int .i64) (Kd.int .i64))) (ok := (fun x => (fun n : Int => (Lit.int .i64 n).wf = true) x.1 ∧ (fun n : Int => (Lit.int .i64 n).wf = true) x.2)) (opens_slice Try.underlying52 (by kernel_rfl) opens101) rfl rfl (by kernel_rfl) ?_
  refine at_cons (lo := 2) (len0 := 1) (len := 1) (d0 := (Kd.int .i64)) (ok0 := (fun n : Int => (Lit.int .i64 n).wf = true)) (d := (Kd.int .i64)) (ok := (fun n : Int => (Lit.int .i64 n).wf = true)) (opens_int Try.underlying3) rfl rfl (by kernel_rfl) ?_
  exact at_one (lo := 3) (len := 1) (opens_int Try.underlying3) rfl rfl (by kernel_rfl)
end Go.Proofs.Ytbmpkggjcnmieaa
