-- Written by wip/tools/hp.py: the row of the law laws_FnExactPart, out of its plain statement and the printed walk.
import Derived.Test.YtlkammlhhkhboaaRows
import Derived.Test.YtlkammlhhkhboaaPAllx11
import Derived.Test.YtlkammlhhkhboaaPureFnExactPart
import Derived.Test.YtlkammlhhkhboaaTypAll
import Derived.WalkKit
import Derived.ProofKit
import Derived.OpenShut
import Derived.ShutString
import Derived.ChangeOld
import Derived.Below
import Derived.SizedLaws
namespace Go.Proofs.Ytlkammlhhkhboaa.fnExactPart
open Go.ChangeShapes Go.WideShapes Go.ChangeAt Go.RowKit Go.Proofs.Ytlkammlhhkhboaa Go.Proofs.Ytlkammlhhkhboaa.PAll Go.Proofs.YtlkammlhhkhboaaW.PrintWords Go.Proofs.YtlkammlhhkhboaaW.PrintLast
open Go.ChangeMaps (open_string shut_string)
set_option linter.unusedVariables false
theorem own : ownKnob Try.prog.godebug = none := by kernel_rfl
theorem laidOut : laidOutB Try.prog = true := by kernel_rfl
set_option maxRecDepth 100000 in
set_option maxHeartbeats 1000000 in
theorem lifted (os : Os) (started : os.Started) (H : Type) (enc : TypeId × Value → H) :
    ReturnsInHanded {} Try.checked os 12 .any (Rows.fnExactPartSpec.pre6 enc Try.prog Try.f12 Rows.fnExactPartRow.domain false) (Rows.fnExactPartSpec.post enc Try.prog Try.f12 false true false false) := by
  refine returnsInHanded_of_change_sized (C := Try.checked) own started (by kernel_rfl) Try.func12
    (ChangeSpec.witness6 (enc := enc) (C := Try.checked) false ⟨#[], #[.int .i64 0, .agg #[.int .i64 0, .int .i64 0], .int .i64 0], []⟩ 8 (by kernel_rfl) (by kernel_rfl) (by kernel_rfl) (by kernel_rfl)) ?_
  intro W base args ds gs before hval0 hW hcnd hsz0 _
  have hval : ∀ (j : Nat) t v, Try.f12.params[j]? = some t → args[j]? = some v → Value.okWide Try.prog W .any base t v := hval0
  have hW' := hW
  obtain ⟨p, q, hA0, hV, rfl, hfz, hnd⟩ := hW
  have hA : DataW.TrodAll enc Try.prog W 0 (fun _ => true) true Try.f12.params.toList args.toList ds p := hA0
  rw [Try.params12] at hA hval
  obtain ⟨v0, vs0, d0, ds0, p0, q0, hargs, rfl, rfl, h0, r0⟩ := trodAll_cons hA
  obtain ⟨v1, vs1, d1, ds1, p1, q1, rfl, rfl, rfl, h1, r1⟩ := trodAll_cons r0
  obtain ⟨v2, vs2, d2, ds2, p2, q2, rfl, rfl, rfl, h2, r2⟩ := trodAll_cons r1
  obtain ⟨rfl, rfl, rfl⟩ := trodAll_nil r2
  obtain rfl : args = #[v0, v1, v2] := by cases args; simp_all
  obtain ⟨rfl, rfl⟩ := trodVars_none hV
  obtain ⟨a0, rfl, rfl, rfl, w0⟩ := open_int Try.underlying3 (hval 0 3 v0 rfl rfl) h0
  obtain ⟨cs1, rfl, _⟩ := okWide_struct Try.underlying24 (hval 1 24 v1 rfl rfl)
  have k1 := h1
  have lt1 : ∀ x ∈ p1, x.block < W.heap.size := by obtain ⟨m, hm⟩ := k1; exact DataW.trod_lt m _ _ _ hm
  obtain ⟨x1, hK1, ok1⟩ := open_rec opens24 h1
  obtain ⟨cl1⟩ := cs1
  obtain he1 := k24_open hK1
  replace he1 : cl1 = [.int .i64 x1.f0, .int .i64 x1.f1] := he1
  subst he1
  obtain ⟨a2, rfl, rfl, rfl, w2⟩ := open_int Try.underlying3 (hval 2 3 v2 rfl rfl) h2
  clear hA0 hval0 hsz0
  obtain ⟨k, hk⟩ := (Pure.FnExactPart a0 x1 a2 w0 ok1 w2 : ∃ k, laws_FnExactPart.f k a0 x1.f0 x1.f1 a2 = some true)
  refine (laws_FnExactPart.calls (k := k) (r := true) (w := W) (h := hk) (a0 := a0) (a1_0 := x1.f0) (a1_1 := x1.f1) (a2 := a2)).mono fun e W' hpost => ?_
  have he : e = .returned (.bool true) := hpost.1
  have bel : Below W.heap.size W W' := by first | exact hpost.2 | exact hpost.2.below
  clear hpost
  subst he
  exact ⟨_, rfl, _, _, _, [], _, [], hW', trodAll_mk1 (shut_bool Try.underlying4 _), (trodAll_cons_mk (shut_int Try.underlying3 w0) (trodAll_cons_mk (Below.trod laidOut (by kernel_rfl) (of_decide_eq_true (by kernel_rfl)) k1 bel lt1) (trodAll_cons_mk (shut_int Try.underlying3 w2) trodAll_mk0))), rfl, bel.frame _, fun h => by cases h⟩
theorem over : Rows.fnExactPartRow.holds Try.pinned (OpenSpec.ofChange Rows.fnExactPartSpec) :=
  OpenClaim.holds_of_wide 12 Try.f12 rfl rfl rfl rfl rfl rfl rfl ⟨rfl, rfl, rfl, rfl, rfl⟩ rfl rfl rfl rfl rfl (by kernel_rfl) Try.func12 (by kernel_rfl)
    (of_decide_eq_true (by kernel_rfl)) (by unfold Func.isWrapper; first | (rw [if_pos (by decide +kernel)]; kernel_rfl) | (rw [if_neg (by decide +kernel)]; exact ⟨rfl, rfl⟩))
    (fun os started H enc _ => lifted os started H enc)
theorem proved : Rows.FnExactPartSaid := over
#print axioms proved
end Go.Proofs.Ytlkammlhhkhboaa.fnExactPart
namespace Go.Proofs.Ytlkammlhhkhboaa
/-- The row, under a short name, for the claim. -/
theorem fnExactPart_holds : Rows.FnExactPartSaid := fnExactPart.proved
end Go.Proofs.Ytlkammlhhkhboaa
