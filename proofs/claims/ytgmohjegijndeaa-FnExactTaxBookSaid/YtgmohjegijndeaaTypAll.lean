/- The struct types of this seat's laws: whatever reads at one is one of the print's own values, with its numbers in range. -/
import Derived.Test.YtgmohjegijndeaaPAllx0
import Derived.Test.YtgmohjegijndeaaOpens
namespace Go.Proofs.Ytgmohjegijndeaa
open Go.RowKit Go.Proofs.Ytgmohjegijndeaa.PAll Go.Proofs.YtgmohjegijndeaaW.PrintWords Go.Proofs.YtgmohjegijndeaaW.PrintLast

def okS54 (x : S54) : Prop := ((Lit.int .i64 x.f0).wf = true) ∧ ((Lit.int .i64 x.f1).wf = true)
theorem opens54 : Opens Try.prog 54 k54 okS54 := by
  refine opens_struct (d := (Kd.pair (Kd.int .i64) (Kd.int .i64))) (ok := (fun x => (fun n : Int => (Lit.int .i64 n).wf = true) x.1 ∧ (fun n : Int => (Lit.int .i64 n).wf = true) x.2)) (len := 2) Try.underlying54 (by kernel_rfl) ?_ (fun x : S54 => (x.f0, x.f1)) (fun p => (⟨p.1, p.2⟩ : S54)) (fun _ => rfl)
  refine at_cons (lo := 0) (len0 := 1) (len := 1) (d0 := (Kd.int .i64)) (ok0 := (fun n : Int => (Lit.int .i64 n).wf = true)) (d := (Kd.int .i64)) (ok := (fun n : Int => (Lit.int .i64 n).wf = true)) (opens_int Try.underlying3) rfl rfl (by kernel_rfl) ?_
  exact at_one (lo := 1) (len := 1) (opens_int Try.underlying3) rfl rfl (by kernel_rfl)
def okS56 (x : S56) : Prop := ((Lit.int .i64 x.f0).wf = true) ∧ (x.f1.size ≤ 9223372036854775807) ∧ ((Lit.int .i64 x.f2).wf = true) ∧ ((Lit.int .i64 x.f3).wf = true) ∧ (okS54 x.f4)
theorem opens56 : Opens Try.prog 56 k56 okS56 := by
  refine opens_struct (d := (Kd.pair (Kd.int .i64) (Kd.pair Kd.string (Kd.pair (Kd.int .i64) (Kd.pair (Kd.int .i64) k54))))) (ok := (fun x => (fun n : Int => (Lit.int .i64 n).wf = true) x.1 ∧ (fun x => (fun s : ByteArray => s.size ≤ 9223372036854775807) x.1 ∧ (fun x => (fun n : Int => (Lit.int .i64 n).wf = true) x.1 ∧ (fun x => (fun n : Int => (Lit.int .i64 n).wf = true) x.1 ∧ okS54 x.2) x.2) x.2) x.2)) (len := 6) Try.underlying56 (by kernel_rfl) ?_ (fun x : S56 => (x.f0, x.f1, x.f2, x.f3, x.f4)) (fun p => (⟨p.1, p.2.1, p.2.2.1, p.2.2.2.1, p.2.2.2.2⟩ : S56)) (fun _ => rfl)
  refine at_cons (lo := 0) (len0 := 1) (len := 5) (d0 := (Kd.int .i64)) (ok0 := (fun n : Int => (Lit.int .i64 n).wf = true)) (d := (Kd.pair Kd.string (Kd.pair (Kd.int .i64) (Kd.pair (Kd.int .i64) k54)))) (ok := (fun x => (fun s : ByteArray => s.size ≤ 9223372036854775807) x.1 ∧ (fun x => (fun n : Int => (Lit.int .i64 n).wf = true) x.1 ∧ (fun x => (fun n : Int => (Lit.int .i64 n).wf = true) x.1 ∧ okS54 x.2) x.2) x.2)) (opens_int Try.underlying3) rfl rfl (by kernel_rfl) ?_
  refine at_cons (lo := 1) (len0 := 1) (len := 4) (d0 := Kd.string) (ok0 := (fun s : ByteArray => s.size ≤ 9223372036854775807)) (d := (Kd.pair (Kd.int .i64) (Kd.pair (Kd.int .i64) k54))) (ok := (fun x => (fun n : Int => (Lit.int .i64 n).wf = true) x.1 ∧ (fun x => (fun n : Int => (Lit.int .i64 n).wf = true) x.1 ∧ okS54 x.2) x.2)) (opens_string Try.underlying9) rfl rfl (by kernel_rfl) ?_
  refine at_cons (lo := 2) (len0 := 1) (len := 3) (d0 := (Kd.int .i64)) (ok0 := (fun n : Int => (Lit.int .i64 n).wf = true)) (d := (Kd.pair (Kd.int .i64) k54)) (ok := (fun x => (fun n : Int => (Lit.int .i64 n).wf = true) x.1 ∧ okS54 x.2)) (opens_int Try.underlying3) rfl rfl (by kernel_rfl) ?_
  refine at_cons (lo := 3) (len0 := 1) (len := 2) (d0 := (Kd.int .i64)) (ok0 := (fun n : Int => (Lit.int .i64 n).wf = true)) (d := k54) (ok := okS54) (opens_int Try.underlying3) rfl rfl (by kernel_rfl) ?_
  exact at_one (lo := 4) (len := 2) opens54 rfl rfl (by kernel_rfl)
def okS69 (x : S69) : Prop := ((Lit.int .i64 x.f0).wf = true) ∧ ((Lit.int .i64 x.f1).wf = true)
theorem opens69 : Opens Try.prog 69 k69 okS69 := by
  refine opens_struct (d := (Kd.pair (Kd.int .i64) (Kd.int .i64))) (ok := (fun x => (fun n : Int => (Lit.int .i64 n).wf = true) x.1 ∧ (fun n : Int => (Lit.int .i64 n).wf = true) x.2)) (len := 2) Try.underlying69 (by kernel_rfl) ?_ (fun x : S69 => (x.f0, x.f1)) (fun p => (⟨p.1, p.2⟩ : S69)) (fun _ => rfl)
  refine at_cons (lo := 0) (len0 := 1) (len := 1) (d0 := (Kd.int .i64)) (ok0 := (fun n : Int => (Lit.int .i64 n).wf = true)) (d := (Kd.int .i64)) (ok := (fun n : Int => (Lit.int .i64 n).wf = true)) (opens_int Try.underlying3) rfl rfl (by kernel_rfl) ?_
  exact at_one (lo := 1) (len := 1) (opens_int Try.underlying3) rfl rfl (by kernel_rfl)
end Go.Proofs.Ytgmohjegijndeaa
