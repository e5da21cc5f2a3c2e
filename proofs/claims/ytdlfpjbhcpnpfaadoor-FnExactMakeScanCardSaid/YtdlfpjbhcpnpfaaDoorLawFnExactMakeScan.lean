-- Written by wip/tools/hp.py: the row of the law laws_FnExactMakeScan, out of its plain statement and the printed walk.
import Derived.Test.YtdlfpjbhcpnpfaaDoorRows
import Derived.Test.YtdlfpjbhcpnpfaaDoorPAllx3
import Derived.Test.YtdlfpjbhcpnpfaaDoorPureFnExactMakeScan
import Derived.Test.YtdlfpjbhcpnpfaaDoorTypAll
import Derived.WalkKit
import Derived.ProofKit
import Derived.OpenShut
import Derived.ShutString
import Derived.ChangeOld
import Derived.Below
import Derived.SizedLaws
import Derived.Test.YtdlfpjbhcpnpfaaDoorCards
import Derived.Test.YtdlfpjbhcpnpfaaDoorTie
import Derived.SevenTiedAt
import Derived.Lay
import Derived.LaidOnce
import Derived.LaidLaws
import Derived.Lib.LaidTab
import Derived.Stop.LaidErr
import Derived.Stop.Joined
import Derived.MakeChecks
namespace Go.Proofs.YtdlfpjbhcpnpfaaDoor.fnExactMakeScan
open Go.ChangeShapes Go.WideShapes Go.ChangeAt Go.RowKit Go.Proofs.YtdlfpjbhcpnpfaaDoor Go.Proofs.YtdlfpjbhcpnpfaaDoor.PAll Go.Proofs.YtdlfpjbhcpnpfaaDoorW.PrintWords Go.Proofs.YtdlfpjbhcpnpfaaDoorW.PrintLast
open Go.ChangeMaps (open_string shut_string)
set_option linter.unusedVariables false
theorem own : ownKnob Tryd.prog.godebug = none := by kernel_rfl
theorem laidOut : laidOutB Tryd.prog = true := by kernel_rfl
theorem tab_of {W : World} (h : laidMetH Tryd.prog Rows.fnExactMakeScanRow.laid W) : PAll.Tabs W := by
  rw [MakeChecks.laidMetH_plain _ _ _ (by kernel_rfl)] at h
  have h2 : laidMet Tryd.prog (("internal/strconv.uint64pow10", Lib.tabData .u64 Lib.pow10Tab) :: (Rows.fnExactMakeScanRow.laid).drop 3) W := laidMet.tail (laidMet.tail (h))
  exact Lib.tabIs_of_head (g := 3) (t := 113) (e := 98) (n := 20) (by kernel_rfl) (by kernel_rfl) Tryd.underlying113 Tryd.underlying98 (by kernel_rfl) (by kernel_rfl) h2
set_option maxRecDepth 100000 in
set_option maxHeartbeats 1000000 in
theorem lifted (os : Os) (started : os.Started) (H : Type) (enc : TypeId × Value → H) :
    ReturnsInHanded {} Tryd.checked os 6 .any (fun w args => (Rows.fnExactMakeScanSpec.pre enc Tryd.prog Tryd.f6 [] false w args ∧ laidMetH Tryd.prog Rows.fnExactMakeScanRow.laid w) ∧ sizedMet enc Tryd.prog Tryd.f6 (OpenSpec.ofChange Rows.fnExactMakeScanSpec) false w args) (Rows.fnExactMakeScanSpec.post enc Tryd.prog Tryd.f6 false true false false) := by
  refine returnsInHanded_of_change_and (C := Tryd.checked) (X := fun w _ => laidMetH Tryd.prog Rows.fnExactMakeScanRow.laid w) (fun _ _ _ hh h => h.of_heap hh) own started (by kernel_rfl) Tryd.func6
    (ChangeSpec.witness_shaped (enc := enc) (C := Tryd.checked) (os := os) (X := fun w _ => laidMetH Tryd.prog Rows.fnExactMakeScanRow.laid w) false (World.laidAll Tryd.prog os Rows.fnExactMakeScanRow.laid) #[.agg #[.int .i64 0, .string ByteArray.empty, .int .i64 0]] 8 (World.laidAll_os _ _ _)
      (World.shaped_of_ZipB (by kernel_rfl) (by kernel_rfl)) (by kernel_rfl) (by kernel_rfl) (by kernel_rfl)
      (by rw [MakeChecks.laidMetH_plain _ _ _ (by kernel_rfl)]; exact laidMet_laidAll _ (by kernel_rfl) (by kernel_rfl))) ?_
  intro W base args ds gs before hval0 hW hcnd hsz0 hL _
  have hval : ∀ (j : Nat) t v, Tryd.f6.params[j]? = some t → args[j]? = some v → Value.okWide Tryd.prog W .any base t v := hval0
  have hW' := hW
  obtain ⟨p, q, hA0, hV, rfl, hfz, hnd⟩ := hW
  have hA : DataW.TrodAll enc Tryd.prog W 0 (fun _ => true) true Tryd.f6.params.toList args.toList ds p := hA0
  rw [Tryd.params6] at hA hval
  obtain ⟨v0, vs0, d0, ds0, p0, q0, hargs, rfl, rfl, h0, r0⟩ := trodAll_cons hA
  obtain ⟨rfl, rfl, rfl⟩ := trodAll_nil r0
  obtain rfl : args = #[v0] := by cases args; simp_all
  obtain ⟨rfl, rfl⟩ := trodVars_none hV
  obtain ⟨cs0, rfl, _⟩ := okWide_struct Tryd.underlying33 (hval 0 33 v0 rfl rfl)
  have k0 := h0
  have lt0 : ∀ x ∈ p0, x.block < W.heap.size := by obtain ⟨m, hm⟩ := k0; exact DataW.trod_lt m _ _ _ hm
  obtain ⟨x0, hK0, ok0⟩ := open_rec opens33 h0
  obtain ⟨cl0⟩ := cs0
  obtain he0 := k33_open hK0
  replace he0 : cl0 = [.int .i64 x0.f0, .string x0.f1, .int .i64 x0.f2] := he0
  subst he0
  clear hA0 hval0 hsz0
  obtain ⟨k, hk⟩ := (Pure.FnExactMakeScan x0 ok0 : ∃ k, laws_FnExactMakeScan.f k x0.f0 x0.f1 x0.f2 = some true)
  refine (laws_FnExactMakeScan.calls (k := k) (r := true) (w := W) (h := hk) (ht_ := tab_of hL) (a0_0 := x0.f0) (a0_1 := x0.f1) (a0_2 := x0.f2)).mono fun e W' hpost => ?_
  have he : e = .returned (.bool true) := hpost.1
  have bel : Below W.heap.size W W' := by first | exact hpost.2 | exact hpost.2.below
  clear hpost
  subst he
  exact ⟨_, rfl, _, _, _, [], _, [], hW', trodAll_mk1 (shut_bool Tryd.underlying4 _), (trodAll_cons_mk (Below.trod laidOut (by kernel_rfl) (of_decide_eq_true (by kernel_rfl)) k0 bel lt0) trodAll_mk0), rfl, bel.frame _, fun h => by cases h⟩
theorem over : Rows.fnExactMakeScanRow.holds Tryd.pinned (OpenSpec.ofChange Rows.fnExactMakeScanSpec) :=
  OpenClaim.holds_of_wide 6 Tryd.f6 rfl rfl rfl rfl rfl rfl rfl ⟨rfl, rfl, rfl, rfl, rfl⟩ rfl rfl rfl rfl rfl (by kernel_rfl) Tryd.func6 (by kernel_rfl)
    (of_decide_eq_true (by kernel_rfl)) (by unfold Func.isWrapper; first | (rw [if_pos (by decide +kernel)]; kernel_rfl) | (rw [if_neg (by decide +kernel)]; exact ⟨rfl, rfl⟩))
    (fun os started H enc _ => lifted os started H enc)
theorem proved : Rows.FnExactMakeScanSaid := over
#print axioms proved
theorem card_holds : Rows.FnExactMakeScanCardSaid :=
  Claim7.holds_tied_plain_at .later [] [.data, .data, .data, .data, .sentinel, .sentinel, .pinned] true (true, "8c4f5fef4ef5e99c35b307d157350f5652df8b29630e1d50505df64c09b81a03") true
    over (fun _ h => by cases h) (by kernel_rfl) (fun _ h => by cases h) fnExactMakeScan_row_tie rfl ⟨rfl, rfl⟩ (by kernel_rfl) rfl
    (fun f fn hf hfn => by
      obtain rfl : f = 6 := Option.some.inj ((show Tryd.prog.funcNamed "loop.example/g00067/laws.FnExactMakeScan" = some 6 by kernel_rfl).symm.trans hf) |>.symm
      obtain rfl : fn = Tryd.f6 := (Option.some.inj (Tryd.func6.symm.trans hfn)).symm
      exact ⟨by kernel_rfl, fun j t ht => by
        rw [Tryd.params6] at ht
        have h3 : t ∈ [33] := List.mem_of_getElem? (i := j) (by simpa using ht)
        simp only [List.mem_cons, List.mem_nil_iff, or_false] at h3
        rcases h3 with rfl
        all_goals first | exact (show Tryd.prog.wantsStandIn _ = false by kernel_rfl)⟩)
    (by kernel_rfl)
#print axioms card_holds
end Go.Proofs.YtdlfpjbhcpnpfaaDoor.fnExactMakeScan
namespace Go.Proofs.YtdlfpjbhcpnpfaaDoor
/-- The row, under a short name, for the claim. -/
theorem fnExactMakeScan_holds : Rows.FnExactMakeScanCardSaid := fnExactMakeScan.card_holds
end Go.Proofs.YtdlfpjbhcpnpfaaDoor
