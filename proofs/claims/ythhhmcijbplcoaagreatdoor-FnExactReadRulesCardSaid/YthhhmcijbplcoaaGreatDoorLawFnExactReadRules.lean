-- Written by wip/tools/hp.py: the row of the law laws_FnExactReadRules, out of its plain statement and the printed walk.
import Derived.Test.YthhhmcijbplcoaaGreatDoorRows
import Derived.Test.YthhhmcijbplcoaaGreatDoorPFnExactReadRulesx8
import Derived.Test.YthhhmcijbplcoaaGreatDoorPureFnExactReadRules
import Derived.WalkKit
import Derived.ProofKit
import Derived.OpenShut
import Derived.ShutString
import Derived.ChangeOld
import Derived.Below
import Derived.SizedLaws
import Derived.Test.YthhhmcijbplcoaaGreatDoorCards
import Derived.Test.YthhhmcijbplcoaaGreatDoorTie
import Derived.SevenTiedAt
import Derived.Lay
import Derived.LaidOnce
import Derived.LaidLaws
import Derived.Lib.LaidTab
import Derived.Stop.LaidErr
import Derived.Stop.Joined
import Derived.MakeChecks
import Derived.Test.YthhhmcijbplcoaaGreatDoorBoth
namespace Go.Proofs.YthhhmcijbplcoaaGreatDoor.fnExactReadRules
open Go.ChangeShapes Go.WideShapes Go.ChangeAt Go.RowKit Go.Proofs.YthhhmcijbplcoaaGreatDoor Go.Proofs.YthhhmcijbplcoaaGreatDoor.PFnExactReadRules Go.Proofs.YthhhmcijbplcoaaGreatDoorW.PrintWords Go.Proofs.YthhhmcijbplcoaaGreatDoorW.PrintLast
open Go.ChangeMaps (open_string shut_string)
set_option linter.unusedVariables false
theorem own : ownKnob Tryz.prog.godebug = none := by kernel_rfl
theorem laidOut : laidOutB Tryz.prog = true := by kernel_rfl
theorem star_ : "*" ++ "errors.errorString" = "*errors.errorString" := by decide
theorem row_err (u : TypeId) (h : Tryz.prog.typeName? 3 u = some "*errors.errorString") : u = 156 :=
  typeName_ptr_named (nm := "errors.errorString") (by rw [star_]; kernel_rfl) (by kernel_rfl) (by decide) u (by rw [star_]; exact h)
theorem err_of {W : World} {n : String} {g tp : Nat} {X : Addr → ByteArray → Prop} (hg : Tryz.prog.globalNamed n = some g) (h : ∃ (a : Addr) (s : ByteArray), W.var? Tryz.prog n = some #[.iface tp (.pointer (some a))] ∧ X a s) : ∃ (t_ : TypeId) (p_ : Value), W.cell? ⟨g, 0, none⟩ = some (.iface t_ p_) := by
  obtain ⟨a, s, hv, _⟩ := h
  exact ⟨_, _, by have h0 := World.var?_cell hg hv 0; simpa using h0⟩
theorem tab_of {W : World} (h : laidMetH Tryz.prog Rows.fnExactReadRulesRow.laid W) (_hsh : W.ShapedOpen Tryz.prog) : PFnExactReadRules.Tabs W := by
  rw [MakeChecks.laidMetH_plain _ _ _ (by kernel_rfl)] at h
  refine ⟨?_, Tryz.laysM146.s1_3 W _hsh, ⟨(err_of (n := "strconv.ErrSyntax") (g := 4) (by kernel_rfl) (laid_sentinel (n := "strconv.ErrSyntax") (r := (Rows.fnExactReadRulesRow.laid).drop 6) (laidMet.tail (laidMet.tail (laidMet.tail (laidMet.tail (laidMet.tail (h)))))) (g := 4) (ti := 104) (tp := 156) (te := 158) (ts := 9) (by kernel_rfl) (by kernel_rfl) Tryz.underlying104 (fun u hu => row_err u hu) Tryz.underlying156 Tryz.underlying158 rfl rfl Tryz.underlying9 (by kernel_rfl) (by kernel_rfl))), (err_of (n := "strconv.ErrRange") (g := 5) (by kernel_rfl) (laid_sentinel (n := "strconv.ErrRange") (r := (Rows.fnExactReadRulesRow.laid).drop 5) (laidMet.tail (laidMet.tail (laidMet.tail (laidMet.tail (h))))) (g := 5) (ti := 104) (tp := 156) (te := 158) (ts := 9) (by kernel_rfl) (by kernel_rfl) Tryz.underlying104 (fun u hu => row_err u hu) Tryz.underlying156 Tryz.underlying158 rfl rfl Tryz.underlying9 (by kernel_rfl) (by kernel_rfl)))⟩⟩
  have h2 : laidMet Tryz.prog (("internal/strconv.uint64pow10", Lib.tabData .u64 Lib.pow10Tab) :: (Rows.fnExactReadRulesRow.laid).drop 3) W := laidMet.tail (laidMet.tail (h))
  exact Lib.tabIs_of_head (g := 1) (t := 138) (e := 122) (n := 20) (by kernel_rfl) (by kernel_rfl) Tryz.underlying138 Tryz.underlying122 (by kernel_rfl) (by kernel_rfl) h2
set_option maxRecDepth 100000 in
set_option maxHeartbeats 1000000 in
theorem lifted (os : Os) (started : os.Started) (H : Type) (enc : TypeId × Value → H) :
    ReturnsInHanded {} Tryz.checked os 3 .any (fun w args => (Rows.fnExactReadRulesSpec.pre enc Tryz.prog Tryz.f3 [] false w args ∧ laidMetH Tryz.prog Rows.fnExactReadRulesRow.laid w) ∧ sizedMet enc Tryz.prog Tryz.f3 (OpenSpec.ofChange Rows.fnExactReadRulesSpec) false w args) (Rows.fnExactReadRulesSpec.post enc Tryz.prog Tryz.f3 false true false false) := by
  refine returnsInHanded_of_both (C := Tryz.checked) (X := fun w _ => laidMetH Tryz.prog Rows.fnExactReadRulesRow.laid w) (fun _ _ _ hh h => h.of_heap hh) own started (by kernel_rfl) Tryz.func3
    (ChangeSpec.witness_shaped (enc := enc) (C := Tryz.checked) (os := os) (X := fun w _ => laidMetH Tryz.prog Rows.fnExactReadRulesRow.laid w) false (World.laidAll Tryz.prog os Rows.fnExactReadRulesRow.laid) #[.string ByteArray.empty] 8 (World.laidAll_os _ _ _)
      (World.shaped_of_ZipB (by kernel_rfl) (by kernel_rfl)) (by kernel_rfl) (by kernel_rfl) (by kernel_rfl)
      (by rw [MakeChecks.laidMetH_plain _ _ _ (by kernel_rfl)]; exact laidMet_laidAll _ (by kernel_rfl) (by kernel_rfl))) ?_
  intro W base args ds gs before hval0 hW hcnd hsz0 hL hsh _
  have hval : ∀ (j : Nat) t v, Tryz.f3.params[j]? = some t → args[j]? = some v → Value.okWide Tryz.prog W .any base t v := hval0
  have hW' := hW
  obtain ⟨p, q, hA0, hV, rfl, hfz, hnd⟩ := hW
  have hA : DataW.TrodAll enc Tryz.prog W 0 (fun _ => true) true Tryz.f3.params.toList args.toList ds p := hA0
  rw [Tryz.params3] at hA hval
  obtain ⟨v0, vs0, d0, ds0, p0, q0, hargs, rfl, rfl, h0, r0⟩ := trodAll_cons hA
  obtain ⟨rfl, rfl, rfl⟩ := trodAll_nil r0
  obtain rfl : args = #[v0] := by cases args; simp_all
  obtain ⟨rfl, rfl⟩ := trodVars_none hV
  obtain ⟨a0, rfl, rfl, rfl, w0⟩ := open_string Tryz.underlying9 (hval 0 9 v0 rfl rfl) h0
  clear hA0 hval0 hsz0
  obtain ⟨k, hk⟩ := (Pure.FnExactReadRules a0 w0 : ∃ k, laws_FnExactReadRules.f k a0 = some true)
  refine (laws_FnExactReadRules.calls (k := k) (r := true) (w := W) (h := hk) (ht_ := tab_of hL hsh) (a0 := a0)).mono fun e W' hpost => ?_
  have he : e = .returned (.bool true) := hpost.1
  have bel : Below W.heap.size W W' := by first | exact hpost.2 | exact hpost.2.below
  clear hpost
  subst he
  exact ⟨_, rfl, _, _, _, [], _, [], hW', trodAll_mk1 (shut_bool Tryz.underlying4 _), (trodAll_cons_mk (shut_string Tryz.underlying9 w0) trodAll_mk0), rfl, bel.frame _, fun h => by cases h⟩
theorem over : Rows.fnExactReadRulesRow.holds Tryz.pinned (OpenSpec.ofChange Rows.fnExactReadRulesSpec) :=
  OpenClaim.holds_of_wide 3 Tryz.f3 rfl rfl rfl rfl rfl rfl rfl ⟨rfl, rfl, rfl, rfl, rfl⟩ rfl rfl rfl rfl rfl (by kernel_rfl) Tryz.func3 (by kernel_rfl)
    (of_decide_eq_true (by kernel_rfl)) (by unfold Func.isWrapper; first | (rw [if_pos (by decide +kernel)]; kernel_rfl) | (rw [if_neg (by decide +kernel)]; exact ⟨rfl, rfl⟩))
    (fun os started H enc _ => lifted os started H enc)
theorem proved : Rows.FnExactReadRulesSaid := over
#print axioms proved
theorem card_holds : Rows.FnExactReadRulesCardSaid :=
  Claim7.holds_tied_plain_at .later [] [.data, .data, .data, .data, .sentinel, .sentinel, .pinned] true (true, "cdc4f38366c4373fafdb63148b24500bd4b140305abed9485bb9a127195ee1e6") true
    over (fun _ h => by cases h) (by kernel_rfl) (fun _ h => by cases h) fnExactReadRules_row_tie rfl ⟨rfl, rfl⟩ (by kernel_rfl) rfl
    (fun f fn hf hfn => by
      obtain rfl : f = 3 := Option.some.inj ((show Tryz.prog.funcNamed "loop.example/g00067/laws.FnExactReadRules" = some 3 by kernel_rfl).symm.trans hf) |>.symm
      obtain rfl : fn = Tryz.f3 := (Option.some.inj (Tryz.func3.symm.trans hfn)).symm
      exact ⟨by kernel_rfl, fun j t ht => by
        rw [Tryz.params3] at ht
        have h3 : t ∈ [9] := List.mem_of_getElem? (i := j) (by simpa using ht)
        simp only [List.mem_cons, List.mem_nil_iff, or_false] at h3
        rcases h3 with rfl
        all_goals first | exact (show Tryz.prog.wantsStandIn _ = false by kernel_rfl)⟩)
    (by kernel_rfl)
#print axioms card_holds
end Go.Proofs.YthhhmcijbplcoaaGreatDoor.fnExactReadRules
namespace Go.Proofs.YthhhmcijbplcoaaGreatDoor
/-- The row, under a short name, for the claim. -/
theorem fnExactReadRules_holds : Rows.FnExactReadRulesCardSaid := fnExactReadRules.card_holds
end Go.Proofs.YthhhmcijbplcoaaGreatDoor
