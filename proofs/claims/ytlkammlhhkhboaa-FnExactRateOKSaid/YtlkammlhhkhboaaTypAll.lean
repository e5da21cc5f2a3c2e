/- The struct types of this seat's laws: whatever reads at one is one of the print's own values, with its numbers in range. -/
import Derived.Test.YtlkammlhhkhboaaPAllx0
import Derived.Test.YtlkammlhhkhboaaOpens
namespace Go.Proofs.Ytlkammlhhkhboaa
open Go.RowKit Go.Proofs.Ytlkammlhhkhboaa.PAll Go.Proofs.YtlkammlhhkhboaaW.PrintWords Go.Proofs.YtlkammlhhkhboaaW.PrintLast

def okS24 (x : S24) : Prop := ((Lit.int .i64 x.f0).wf = true) ∧ ((Lit.int .i64 x.f1).wf = true)
theorem opens24 : Opens Try.prog 24 k24 okS24 := by
  refine opens_struct (d := (Kd.pair (Kd.int .i64) (Kd.int .i64))) (ok := (fun x => (fun n : Int => (Lit.int .i64 n).wf = true) x.1 ∧ (fun n : Int => (Lit.int .i64 n).wf = true) x.2)) (len := 2) Try.underlying24 (by kernel_rfl) ?_ (fun x : S24 => (x.f0, x.f1)) (fun p => (⟨p.1, p.2⟩ : S24)) (fun _ => rfl)
  refine at_cons (lo := 0) (len0 := 1) (len := 1) (d0 := (Kd.int .i64)) (ok0 := (fun n : Int => (Lit.int .i64 n).wf = true)) (d := (Kd.int .i64)) (ok := (fun n : Int => (Lit.int .i64 n).wf = true)) (opens_int Try.underlying3) rfl rfl (by kernel_rfl) ?_
  exact at_one (lo := 1) (len := 1) (opens_int Try.underlying3) rfl rfl (by kernel_rfl)
end Go.Proofs.Ytlkammlhhkhboaa
