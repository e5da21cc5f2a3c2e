/- The struct types of this seat's laws: whatever reads at one is one of the print's own values, with its numbers in range. -/
import Derived.Test.YtplboloibpkdeaaDoorPFnExactRulesTextx0
import Derived.Test.YtplboloibpkdeaaDoorOpens
namespace Go.Proofs.YtplboloibpkdeaaDoor
open Go.RowKit Go.Proofs.YtplboloibpkdeaaDoor.PFnExactRulesText Go.Proofs.YtplboloibpkdeaaDoorW.PrintWords Go.Proofs.YtplboloibpkdeaaDoorW.PrintLast

def okS58 (x : S58) : Prop := ((Lit.int .i64 x.f0).wf = true) ∧ ((Lit.int .i64 x.f1).wf = true) ∧ ((Lit.int .i64 x.f2).wf = true)
theorem opens58 : Opens Tryd.prog 58 k58 okS58 := by
  refine opens_struct (d := (Kd.pair (Kd.int .i64) (Kd.pair (Kd.int .i64) (Kd.int .i64)))) (ok := (fun x => (fun n : Int => (Lit.int .i64 n).wf = true) x.1 ∧ (fun x => (fun n : Int => (Lit.int .i64 n).wf = true) x.1 ∧ (fun n : Int => (Lit.int .i64 n).wf = true) x.2) x.2)) (len := 3) Tryd.underlying58 (by kernel_rfl) ?_ (fun x : S58 => (x.f0, x.f1, x.f2)) (fun p => (⟨p.1, p.2.1, p.2.2⟩ : S58)) (fun _ => rfl)
  refine at_cons (lo := 0) (len0 := 1) (len := 2) (d0 := (Kd.int .i64)) (ok0 := (fun n : Int => (Lit.int .i64 n).wf = true)) (d := (Kd.pair (Kd.int .i64) (Kd.int .i64))) (ok := (fun x => (fun n : Int => (Lit.int .i64 n).wf = true) x.1 ∧ (fun n : Int => (Lit.int .i64 n).wf = true) x.2)) (opens_int Tryd.underlying3) rfl rfl (by kernel_rfl) ?_
  refine at_cons (lo := 1) (len0 := 1) (len := 1) (d0 := (Kd.int .i64)) (ok0 := (fun n : Int => (Lit.int .i64 n).wf = true)) (d := (Kd.int .i64)) (ok := (fun n : Int => (Lit.int .i64 n).wf = true)) (opens_int Tryd.underlying3) rfl rfl (by kernel_rfl) ?_
  exact at_one (lo := 2) (len := 1) (opens_int Tryd.underlying3) rfl rfl (by kernel_rfl)
def okS33 (x : S33) : Prop := (x.f0.size ≤ 9223372036854775807) ∧ ((x.f1.length ≤ 9223372036854775807 ∧ ∀ y ∈ x.f1, okS58 y)) ∧ ((Lit.int .i64 x.f2).wf = true) ∧ ((Lit.int .i64 x.f3).wf = true)
theorem opens33 : Opens Tryd.prog 33 k33 okS33 := by
  refine opens_struct (d := (Kd.pair Kd.string (Kd.pair (Kd.slice 58 k58) (Kd.pair (Kd.int .i64) (Kd.int .i64))))) (ok := (fun x => (fun s : ByteArray => s.size ≤ 9223372036854775807) x.1 ∧ (fun x => (fun l : List (S58) => l.length ≤ 9223372036854775807 ∧ ∀ y ∈ l, okS58 y) x.1 ∧ (fun x => (fun n : Int => (Lit.int .i64 n).wf = true) x.1 ∧ (fun n : Int => (Lit.int .i64 n).wf = true) x.2) x.2) x.2)) (len := 4) Tryd.underlying33 (by kernel_rfl) ?_ (fun x : S33 => (x.f0, x.f1, x.f2, x.f3)) (fun p => (⟨p.1, p.2.1, p.2.2.1, p.2.2.2⟩ : S33)) (fun _ => rfl)
  refine at_cons (lo := 0) (len0 := 1) (len := 3) (d0 := Kd.string) (ok0 := (fun s : ByteArray => s.size ≤ 9223372036854775807)) (d := (Kd.pair (Kd.slice 58 k58) (Kd.pair (Kd.int .i64) (Kd.int .i64)))) (ok := (fun x => (fun l : List (S58) => l.length ≤ 9223372036854775807 ∧ ∀ y ∈ l, okS58 y) x.1 ∧ (fun x => (fun n : Int => (Lit.int .i64 n).wf = true) x.1 ∧ (fun n : Int => (Lit.int .i64 n).wf = true) x.2) x.2)) (opens_string Tryd.underlying9) rfl rfl (by kernel_rfl) ?_
  refine at_cons (lo := 1) (len0 := 1) (len := 2) (d0 := (Kd.slice 58 k58)) (ok0 := (fun l : List (S58) => l.length ≤ 9223372036854775807 ∧ ∀ y ∈ l, okS58 y)) (d := (Kd.pair (Kd.int .i64) (Kd.int .i64))) (ok := (fun x => (fun n : Int => (Lit.int .i64 n).wf = true) x.1 ∧ (fun n : Int => (Lit.int .i64 n).wf = true) x.2)) (opens_slice Tryd.underlying31 (by kernel_rfl) opens58) rfl rfl (by kernel_rfl) ?_
  refine at_cons (lo := 2) (len0 := 1) (len := 1) (d0 := (Kd.int .i64)) (ok0 := (fun n : Int => (Lit.int .i64 n).wf = true)) (d := (Kd.int .i64)) (ok := (fun n : Int => (Lit.int .i64 n).wf = true)) (opens_int Tryd.underlying3) rfl rfl (by kernel_rfl) ?_
  exact at_one (lo := 3) (len := 1) (opens_int Tryd.underlying3) rfl rfl (by kernel_rfl)
end Go.Proofs.YtplboloibpkdeaaDoor
