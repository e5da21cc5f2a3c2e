/-
  No cell of these rows narrows 'for every input' (looked for: loops, veiled, ifaces, maps, wideKeys, modest, calm, conditions, laid).
  DERIVED. THE GIVEN ROWS OF THIS SEAT. 11 by the template 'for every input the law returns true; each argument reads behind the call as it read before'; 0 by the template 'total and deterministic' (their statements: YtookjankaanhlaaTotals.lean).
  GIVEN WITH THE SEED: the statements are not yours to turn. If you find one false, say at which input.
  Laid BY PROGRAM, IN A SANDBOX (cutbox-rows.mjs): the forced cells as the released guide's own fill.sh prints them over the translation be6d9f504aab6650… (all of the seat's roots in one cut). By AI agents, Wed Nov 11 2026. No macro, syntax, notation, axiom, sorry.
-/
import Derived.Test.YtookjankaanhlaaChecked
import GoSem.Claim
import GoSem.ClaimJoined
import GoSem.ClaimMapViews
import Derived.JoinedTies
import Derived.KernelRfl
namespace Go.Proofs.Ytookjankaanhlaa
/- THE CELL 'sum', in the pinned program and in every row, IS THE sha256 OF THE DUMP (.gsa) THAT YtookjankaanhlaaProg.lean LOADS. Nothing in Lean hashes anything: it is a label: what it is worth is what the hold of that sum in a sandbox is worth. -/
noncomputable def Try.pinned : Pinned := { name := "ytookjankaanhlaa", sum := "be6d9f504aab665040cb72c60f2be0a4f95397b3acdb8b0291d07692fa481370", checked := Try.checked }
namespace Rows
def none {H : Type} : Left H := { results := [], args := [] }

/-- 'laws.FnExactPricesOK': WHATEVER THE INPUT: true; the input reads as it did. -/
def fnExactPricesOKSpec : ChangeSpec := { name := "fnExactPricesOK", fn := fun _ => fun
  | [d] => { results := [.lit (.bool true)], args := [d] }
  | _ => none }
def fnExactPricesOKRow : OpenClaim := { program := "ytookjankaanhlaa", sum := "be6d9f504aab665040cb72c60f2be0a4f95397b3acdb8b0291d07692fa481370", func := "loop.example/g00067/laws.FnExactPricesOK", spec := "fnExactPricesOK", unfollowed := true, recurses := true, apart := false }
def FnExactPricesOKSaid : Prop := fnExactPricesOKRow.holds Try.pinned (OpenSpec.ofChange fnExactPricesOKSpec)

/-- ITS FALSE NEIGHBOUR: 'it returns false'. Refute it at one input. -/
def fnExactPricesOKWrong : ChangeSpec := { name := "fnExactPricesOK", fn := fun _ => fun
  | [d] => { results := [.lit (.bool false)], args := [d] }
  | _ => none }
def FnExactPricesOKWrongFalsely : Prop := fnExactPricesOKRow.holds Try.pinned (OpenSpec.ofChange fnExactPricesOKWrong)

/-- 'laws.FnExactTaxRowsOK': WHATEVER THE INPUT: true; the input reads as it did. -/
def fnExactTaxRowsOKSpec : ChangeSpec := { name := "fnExactTaxRowsOK", fn := fun _ => fun
  | [d] => { results := [.lit (.bool true)], args := [d] }
  | _ => none }
def fnExactTaxRowsOKRow : OpenClaim := { program := "ytookjankaanhlaa", sum := "be6d9f504aab665040cb72c60f2be0a4f95397b3acdb8b0291d07692fa481370", func := "loop.example/g00067/laws.FnExactTaxRowsOK", spec := "fnExactTaxRowsOK", unfollowed := true, recurses := true, apart := false }
def FnExactTaxRowsOKSaid : Prop := fnExactTaxRowsOKRow.holds Try.pinned (OpenSpec.ofChange fnExactTaxRowsOKSpec)

/-- ITS FALSE NEIGHBOUR: 'it returns false'. Refute it at one input. -/
def fnExactTaxRowsOKWrong : ChangeSpec := { name := "fnExactTaxRowsOK", fn := fun _ => fun
  | [d] => { results := [.lit (.bool false)], args := [d] }
  | _ => none }
def FnExactTaxRowsOKWrongFalsely : Prop := fnExactTaxRowsOKRow.holds Try.pinned (OpenSpec.ofChange fnExactTaxRowsOKWrong)

/-- 'laws.FnExactPriceAt': WHATEVER THE INPUT: true; the input reads as it did. -/
def fnExactPriceAtSpec : ChangeSpec := { name := "fnExactPriceAt", fn := fun _ => fun
  | [d1, d2, d3, d4] => { results := [.lit (.bool true)], args := [d1, d2, d3, d4] }
  | _ => none }
def fnExactPriceAtRow : OpenClaim := { program := "ytookjankaanhlaa", sum := "be6d9f504aab665040cb72c60f2be0a4f95397b3acdb8b0291d07692fa481370", func := "loop.example/g00067/laws.FnExactPriceAt", spec := "fnExactPriceAt", unfollowed := true, recurses := true, apart := false }
def FnExactPriceAtSaid : Prop := fnExactPriceAtRow.holds Try.pinned (OpenSpec.ofChange fnExactPriceAtSpec)

/-- ITS FALSE NEIGHBOUR: 'it returns false'. Refute it at one input. -/
def fnExactPriceAtWrong : ChangeSpec := { name := "fnExactPriceAt", fn := fun _ => fun
  | [d1, d2, d3, d4] => { results := [.lit (.bool false)], args := [d1, d2, d3, d4] }
  | _ => none }
def FnExactPriceAtWrongFalsely : Prop := fnExactPriceAtRow.holds Try.pinned (OpenSpec.ofChange fnExactPriceAtWrong)

/-- 'laws.FnExactTaxAt': WHATEVER THE INPUT: true; the input reads as it did. -/
def fnExactTaxAtSpec : ChangeSpec := { name := "fnExactTaxAt", fn := fun _ => fun
  | [d1, d2, d3, d4] => { results := [.lit (.bool true)], args := [d1, d2, d3, d4] }
  | _ => none }
def fnExactTaxAtRow : OpenClaim := { program := "ytookjankaanhlaa", sum := "be6d9f504aab665040cb72c60f2be0a4f95397b3acdb8b0291d07692fa481370", func := "loop.example/g00067/laws.FnExactTaxAt", spec := "fnExactTaxAt", unfollowed := true, recurses := true, apart := false }
def FnExactTaxAtSaid : Prop := fnExactTaxAtRow.holds Try.pinned (OpenSpec.ofChange fnExactTaxAtSpec)

/-- ITS FALSE NEIGHBOUR: 'it returns false'. Refute it at one input. -/
def fnExactTaxAtWrong : ChangeSpec := { name := "fnExactTaxAt", fn := fun _ => fun
  | [d1, d2, d3, d4] => { results := [.lit (.bool false)], args := [d1, d2, d3, d4] }
  | _ => none }
def FnExactTaxAtWrongFalsely : Prop := fnExactTaxAtRow.holds Try.pinned (OpenSpec.ofChange fnExactTaxAtWrong)

/-- 'laws.FnExactTaxBook': WHATEVER THE INPUT: true; the input reads as it did. -/
def fnExactTaxBookSpec : ChangeSpec := { name := "fnExactTaxBook", fn := fun _ => fun
  | [d1, d2, d3, d4] => { results := [.lit (.bool true)], args := [d1, d2, d3, d4] }
  | _ => none }
def fnExactTaxBookRow : OpenClaim := { program := "ytookjankaanhlaa", sum := "be6d9f504aab665040cb72c60f2be0a4f95397b3acdb8b0291d07692fa481370", func := "loop.example/g00067/laws.FnExactTaxBook", spec := "fnExactTaxBook", unfollowed := true, recurses := true, apart := false }
def FnExactTaxBookSaid : Prop := fnExactTaxBookRow.holds Try.pinned (OpenSpec.ofChange fnExactTaxBookSpec)

/-- ITS FALSE NEIGHBOUR: 'it returns false'. Refute it at one input. -/
def fnExactTaxBookWrong : ChangeSpec := { name := "fnExactTaxBook", fn := fun _ => fun
  | [d1, d2, d3, d4] => { results := [.lit (.bool false)], args := [d1, d2, d3, d4] }
  | _ => none }
def FnExactTaxBookWrongFalsely : Prop := fnExactTaxBookRow.holds Try.pinned (OpenSpec.ofChange fnExactTaxBookWrong)

/-- 'laws.FnTaxes': WHATEVER THE INPUT: true; the input reads as it did. -/
def fnTaxesSpec : ChangeSpec := { name := "fnTaxes", fn := fun _ => fun
  | [d] => { results := [.lit (.bool true)], args := [d] }
  | _ => none }
def fnTaxesRow : OpenClaim := { program := "ytookjankaanhlaa", sum := "be6d9f504aab665040cb72c60f2be0a4f95397b3acdb8b0291d07692fa481370", func := "loop.example/g00067/laws.FnTaxes", spec := "fnTaxes", unfollowed := true, recurses := true, apart := false }
def FnTaxesSaid : Prop := fnTaxesRow.holds Try.pinned (OpenSpec.ofChange fnTaxesSpec)

/-- ITS FALSE NEIGHBOUR: 'it returns false'. Refute it at one input. -/
def fnTaxesWrong : ChangeSpec := { name := "fnTaxes", fn := fun _ => fun
  | [d] => { results := [.lit (.bool false)], args := [d] }
  | _ => none }
def FnTaxesWrongFalsely : Prop := fnTaxesRow.holds Try.pinned (OpenSpec.ofChange fnTaxesWrong)

/-- 'laws.FnExactPriceSteps': WHATEVER THE INPUT: true; the input reads as it did. -/
def fnExactPriceStepsSpec : ChangeSpec := { name := "fnExactPriceSteps", fn := fun _ => fun
  | [d1, d2, d3, d4, d5] => { results := [.lit (.bool true)], args := [d1, d2, d3, d4, d5] }
  | _ => none }
def fnExactPriceStepsRow : OpenClaim := { program := "ytookjankaanhlaa", sum := "be6d9f504aab665040cb72c60f2be0a4f95397b3acdb8b0291d07692fa481370", func := "loop.example/g00067/laws.FnExactPriceSteps", spec := "fnExactPriceSteps", unfollowed := true, recurses := true, apart := false }
def FnExactPriceStepsSaid : Prop := fnExactPriceStepsRow.holds Try.pinned (OpenSpec.ofChange fnExactPriceStepsSpec)

/-- ITS FALSE NEIGHBOUR: 'it returns false'. Refute it at one input. -/
def fnExactPriceStepsWrong : ChangeSpec := { name := "fnExactPriceSteps", fn := fun _ => fun
  | [d1, d2, d3, d4, d5] => { results := [.lit (.bool false)], args := [d1, d2, d3, d4, d5] }
  | _ => none }
def FnExactPriceStepsWrongFalsely : Prop := fnExactPriceStepsRow.holds Try.pinned (OpenSpec.ofChange fnExactPriceStepsWrong)

/-- 'laws.FnPrices': WHATEVER THE INPUT: true; the input reads as it did. -/
def fnPricesSpec : ChangeSpec := { name := "fnPrices", fn := fun _ => fun
  | [d1, d2] => { results := [.lit (.bool true)], args := [d1, d2] }
  | _ => none }
def fnPricesRow : OpenClaim := { program := "ytookjankaanhlaa", sum := "be6d9f504aab665040cb72c60f2be0a4f95397b3acdb8b0291d07692fa481370", func := "loop.example/g00067/laws.FnPrices", spec := "fnPrices", unfollowed := true, recurses := true, apart := false }
def FnPricesSaid : Prop := fnPricesRow.holds Try.pinned (OpenSpec.ofChange fnPricesSpec)

/-- ITS FALSE NEIGHBOUR: 'it returns false'. Refute it at one input. -/
def fnPricesWrong : ChangeSpec := { name := "fnPrices", fn := fun _ => fun
  | [d1, d2] => { results := [.lit (.bool false)], args := [d1, d2] }
  | _ => none }
def FnPricesWrongFalsely : Prop := fnPricesRow.holds Try.pinned (OpenSpec.ofChange fnPricesWrong)

/-- 'laws.FnPacks': WHATEVER THE INPUT: true; the input reads as it did. -/
def fnPacksSpec : ChangeSpec := { name := "fnPacks", fn := fun _ => fun
  | [d] => { results := [.lit (.bool true)], args := [d] }
  | _ => none }
def fnPacksRow : OpenClaim := { program := "ytookjankaanhlaa", sum := "be6d9f504aab665040cb72c60f2be0a4f95397b3acdb8b0291d07692fa481370", func := "loop.example/g00067/laws.FnPacks", spec := "fnPacks", unfollowed := true, recurses := true, apart := false }
def FnPacksSaid : Prop := fnPacksRow.holds Try.pinned (OpenSpec.ofChange fnPacksSpec)

/-- ITS FALSE NEIGHBOUR: 'it returns false'. Refute it at one input. -/
def fnPacksWrong : ChangeSpec := { name := "fnPacks", fn := fun _ => fun
  | [d] => { results := [.lit (.bool false)], args := [d] }
  | _ => none }
def FnPacksWrongFalsely : Prop := fnPacksRow.holds Try.pinned (OpenSpec.ofChange fnPacksWrong)

/-- 'laws.FnExactPackUnits': WHATEVER THE INPUT: true; the input reads as it did. -/
def fnExactPackUnitsSpec : ChangeSpec := { name := "fnExactPackUnits", fn := fun _ => fun
  | [d] => { results := [.lit (.bool true)], args := [d] }
  | _ => none }
def fnExactPackUnitsRow : OpenClaim := { program := "ytookjankaanhlaa", sum := "be6d9f504aab665040cb72c60f2be0a4f95397b3acdb8b0291d07692fa481370", func := "loop.example/g00067/laws.FnExactPackUnits", spec := "fnExactPackUnits", unfollowed := true, recurses := true, apart := false }
def FnExactPackUnitsSaid : Prop := fnExactPackUnitsRow.holds Try.pinned (OpenSpec.ofChange fnExactPackUnitsSpec)

/-- ITS FALSE NEIGHBOUR: 'it returns false'. Refute it at one input. -/
def fnExactPackUnitsWrong : ChangeSpec := { name := "fnExactPackUnits", fn := fun _ => fun
  | [d] => { results := [.lit (.bool false)], args := [d] }
  | _ => none }
def FnExactPackUnitsWrongFalsely : Prop := fnExactPackUnitsRow.holds Try.pinned (OpenSpec.ofChange fnExactPackUnitsWrong)

/-- 'laws.FnExactUnpack': WHATEVER THE INPUT: true; the input reads as it did. -/
def fnExactUnpackSpec : ChangeSpec := { name := "fnExactUnpack", fn := fun _ => fun
  | [d1, d2] => { results := [.lit (.bool true)], args := [d1, d2] }
  | _ => none }
def fnExactUnpackRow : OpenClaim := { program := "ytookjankaanhlaa", sum := "be6d9f504aab665040cb72c60f2be0a4f95397b3acdb8b0291d07692fa481370", func := "loop.example/g00067/laws.FnExactUnpack", spec := "fnExactUnpack", unfollowed := true, recurses := true, apart := false }
def FnExactUnpackSaid : Prop := fnExactUnpackRow.holds Try.pinned (OpenSpec.ofChange fnExactUnpackSpec)

/-- ITS FALSE NEIGHBOUR: 'it returns false'. Refute it at one input. -/
def fnExactUnpackWrong : ChangeSpec := { name := "fnExactUnpack", fn := fun _ => fun
  | [d1, d2] => { results := [.lit (.bool false)], args := [d1, d2] }
  | _ => none }
def FnExactUnpackWrongFalsely : Prop := fnExactUnpackRow.holds Try.pinned (OpenSpec.ofChange fnExactUnpackWrong)

/- THE SECOND FORM. 'bulk': how many values and letters a reading holds, each counted each time it is reached (what is shared counts as often as it is met; a slice's spare places count too). A statement '..UptoSaid' is the law's where the arguments, and the package variables that the reading takes, are together of bulk at most 1048576: NARROWER than '..Said'. Prove '..Said' where nothing that the law and all that it calls make is longer than what came in: it says more and counts as full. Else prove '..UptoSaid'. A law counts once. -/
mutual
def uptoBulk {H : Type} : DataW H → Nat
  | .lit (.string bytes) => bytes.length + 1
  | .lit _ => 1
  | .nil => 1
  | .ptr d => uptoBulk d + 1
  | .slice elems spare => uptoBulkAll elems + uptoBulkAll spare + 1
  | .agg parts => uptoBulkAll parts + 1
  | .iface _ d => uptoBulk d + 1
  | .map entries => uptoBulkEntries entries + 1
  | .held _ => 1
def uptoBulkAll {H : Type} : List (DataW H) → Nat
  | [] => 0
  | d :: r => uptoBulk d + uptoBulkAll r
def uptoBulkEntries {H : Type} : List (Lit × DataW H) → Nat
  | [] => 0
  | x :: r => uptoBulkEntry x + uptoBulkEntries r
def uptoBulkEntry {H : Type} : Lit × DataW H → Nat
  | (.string bytes, d) => bytes.length + uptoBulk d + 1
  | (_, d) => uptoBulk d + 1
 end
def uptoSmall : (H : Type) → List (DataW H) → Bool := fun _ ds => decide (uptoBulkAll ds ≤ 1048576)
def OpenSpec.upto (s : _root_.Go.ChangeSpec) : _root_.Go.OpenSpec := { _root_.Go.OpenSpec.ofChange s with cond := some uptoSmall }

/-- 'laws.FnExactPricesOK', WHERE WHAT IT READS IS OF BULK AT MOST 1048576: true; the input reads as it did. -/
def fnExactPricesOKUptoRow : OpenClaim := { program := "ytookjankaanhlaa", sum := "be6d9f504aab665040cb72c60f2be0a4f95397b3acdb8b0291d07692fa481370", func := "loop.example/g00067/laws.FnExactPricesOK", spec := "fnExactPricesOK", unfollowed := true, recurses := true, apart := false, narrowed := true }
def FnExactPricesOKUptoSaid : Prop := fnExactPricesOKUptoRow.holds Try.pinned (OpenSpec.upto fnExactPricesOKSpec)

/-- 'laws.FnExactTaxRowsOK', WHERE WHAT IT READS IS OF BULK AT MOST 1048576: true; the input reads as it did. -/
def fnExactTaxRowsOKUptoRow : OpenClaim := { program := "ytookjankaanhlaa", sum := "be6d9f504aab665040cb72c60f2be0a4f95397b3acdb8b0291d07692fa481370", func := "loop.example/g00067/laws.FnExactTaxRowsOK", spec := "fnExactTaxRowsOK", unfollowed := true, recurses := true, apart := false, narrowed := true }
def FnExactTaxRowsOKUptoSaid : Prop := fnExactTaxRowsOKUptoRow.holds Try.pinned (OpenSpec.upto fnExactTaxRowsOKSpec)

/-- 'laws.FnExactPriceAt', WHERE WHAT IT READS IS OF BULK AT MOST 1048576: true; the input reads as it did. -/
def fnExactPriceAtUptoRow : OpenClaim := { program := "ytookjankaanhlaa", sum := "be6d9f504aab665040cb72c60f2be0a4f95397b3acdb8b0291d07692fa481370", func := "loop.example/g00067/laws.FnExactPriceAt", spec := "fnExactPriceAt", unfollowed := true, recurses := true, apart := false, narrowed := true }
def FnExactPriceAtUptoSaid : Prop := fnExactPriceAtUptoRow.holds Try.pinned (OpenSpec.upto fnExactPriceAtSpec)

/-- 'laws.FnExactTaxAt', WHERE WHAT IT READS IS OF BULK AT MOST 1048576: true; the input reads as it did. -/
def fnExactTaxAtUptoRow : OpenClaim := { program := "ytookjankaanhlaa", sum := "be6d9f504aab665040cb72c60f2be0a4f95397b3acdb8b0291d07692fa481370", func := "loop.example/g00067/laws.FnExactTaxAt", spec := "fnExactTaxAt", unfollowed := true, recurses := true, apart := false, narrowed := true }
def FnExactTaxAtUptoSaid : Prop := fnExactTaxAtUptoRow.holds Try.pinned (OpenSpec.upto fnExactTaxAtSpec)

/-- 'laws.FnExactTaxBook', WHERE WHAT IT READS IS OF BULK AT MOST 1048576: true; the input reads as it did. -/
def fnExactTaxBookUptoRow : OpenClaim := { program := "ytookjankaanhlaa", sum := "be6d9f504aab665040cb72c60f2be0a4f95397b3acdb8b0291d07692fa481370", func := "loop.example/g00067/laws.FnExactTaxBook", spec := "fnExactTaxBook", unfollowed := true, recurses := true, apart := false, narrowed := true }
def FnExactTaxBookUptoSaid : Prop := fnExactTaxBookUptoRow.holds Try.pinned (OpenSpec.upto fnExactTaxBookSpec)

/-- 'laws.FnTaxes', WHERE WHAT IT READS IS OF BULK AT MOST 1048576: true; the input reads as it did. -/
def fnTaxesUptoRow : OpenClaim := { program := "ytookjankaanhlaa", sum := "be6d9f504aab665040cb72c60f2be0a4f95397b3acdb8b0291d07692fa481370", func := "loop.example/g00067/laws.FnTaxes", spec := "fnTaxes", unfollowed := true, recurses := true, apart := false, narrowed := true }
def FnTaxesUptoSaid : Prop := fnTaxesUptoRow.holds Try.pinned (OpenSpec.upto fnTaxesSpec)

/-- 'laws.FnExactPriceSteps', WHERE WHAT IT READS IS OF BULK AT MOST 1048576: true; the input reads as it did. -/
def fnExactPriceStepsUptoRow : OpenClaim := { program := "ytookjankaanhlaa", sum := "be6d9f504aab665040cb72c60f2be0a4f95397b3acdb8b0291d07692fa481370", func := "loop.example/g00067/laws.FnExactPriceSteps", spec := "fnExactPriceSteps", unfollowed := true, recurses := true, apart := false, narrowed := true }
def FnExactPriceStepsUptoSaid : Prop := fnExactPriceStepsUptoRow.holds Try.pinned (OpenSpec.upto fnExactPriceStepsSpec)

/-- 'laws.FnPrices', WHERE WHAT IT READS IS OF BULK AT MOST 1048576: true; the input reads as it did. -/
def fnPricesUptoRow : OpenClaim := { program := "ytookjankaanhlaa", sum := "be6d9f504aab665040cb72c60f2be0a4f95397b3acdb8b0291d07692fa481370", func := "loop.example/g00067/laws.FnPrices", spec := "fnPrices", unfollowed := true, recurses := true, apart := false, narrowed := true }
def FnPricesUptoSaid : Prop := fnPricesUptoRow.holds Try.pinned (OpenSpec.upto fnPricesSpec)

/-- 'laws.FnPacks', WHERE WHAT IT READS IS OF BULK AT MOST 1048576: true; the input reads as it did. -/
def fnPacksUptoRow : OpenClaim := { program := "ytookjankaanhlaa", sum := "be6d9f504aab665040cb72c60f2be0a4f95397b3acdb8b0291d07692fa481370", func := "loop.example/g00067/laws.FnPacks", spec := "fnPacks", unfollowed := true, recurses := true, apart := false, narrowed := true }
def FnPacksUptoSaid : Prop := fnPacksUptoRow.holds Try.pinned (OpenSpec.upto fnPacksSpec)

/-- 'laws.FnExactPackUnits', WHERE WHAT IT READS IS OF BULK AT MOST 1048576: true; the input reads as it did. -/
def fnExactPackUnitsUptoRow : OpenClaim := { program := "ytookjankaanhlaa", sum := "be6d9f504aab665040cb72c60f2be0a4f95397b3acdb8b0291d07692fa481370", func := "loop.example/g00067/laws.FnExactPackUnits", spec := "fnExactPackUnits", unfollowed := true, recurses := true, apart := false, narrowed := true }
def FnExactPackUnitsUptoSaid : Prop := fnExactPackUnitsUptoRow.holds Try.pinned (OpenSpec.upto fnExactPackUnitsSpec)

/-- 'laws.FnExactUnpack', WHERE WHAT IT READS IS OF BULK AT MOST 1048576: true; the input reads as it did. -/
def fnExactUnpackUptoRow : OpenClaim := { program := "ytookjankaanhlaa", sum := "be6d9f504aab665040cb72c60f2be0a4f95397b3acdb8b0291d07692fa481370", func := "loop.example/g00067/laws.FnExactUnpack", spec := "fnExactUnpack", unfollowed := true, recurses := true, apart := false, narrowed := true }
def FnExactUnpackUptoSaid : Prop := fnExactUnpackUptoRow.holds Try.pinned (OpenSpec.upto fnExactUnpackSpec)

end Rows
end Go.Proofs.Ytookjankaanhlaa
