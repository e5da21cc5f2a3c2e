/-
  No cell of these rows narrows 'for every input' (looked for: loops, veiled, ifaces, maps, wideKeys, modest, calm, conditions, laid).
  DERIVED. THE GIVEN ROWS OF THIS SEAT. 2 by the template 'for every input the law returns true; each argument reads behind the call as it read before'; 0 by the template 'total and deterministic' (their statements: YtbmpkggjcnmieaaTotals.lean).
  GIVEN WITH THE SEED: the statements are not yours to turn. If you find one false, say at which input.
  Laid BY PROGRAM, IN A SANDBOX (cutbox-rows.mjs): the forced cells as the released guide's own fill.sh prints them over the translation 566a3abab5c891bb… (all of the seat's roots in one cut). By AI agents, Wed Nov 11 2026. No macro, syntax, notation, axiom, sorry.
-/
import Derived.Test.YtbmpkggjcnmieaaChecked
import GoSem.Claim
import GoSem.ClaimJoined
import GoSem.ClaimMapViews
import Derived.JoinedTies
import Derived.KernelRfl
namespace Go.Proofs.Ytbmpkggjcnmieaa
/- THE CELL 'sum', in the pinned program and in every row, IS THE sha256 OF THE DUMP (.gsa) THAT YtbmpkggjcnmieaaProg.lean LOADS. Nothing in Lean hashes anything: it is a label: what it is worth is what the hold of that sum in a sandbox is worth. -/
noncomputable def Try.pinned : Pinned := { name := "ytbmpkggjcnmieaa", sum := "566a3abab5c891bb4960f7c1a5392e95dd4d046738f37e99f5673499e429576d", checked := Try.checked }
namespace Rows
def none {H : Type} : Left H := { results := [], args := [] }

/-- 'laws.FnExactHidden': WHATEVER THE INPUT: true; the input reads as it did. -/
def fnExactHiddenSpec : ChangeSpec := { name := "fnExactHidden", fn := fun _ => fun
  | [d] => { results := [.lit (.bool true)], args := [d] }
  | _ => none }
def fnExactHiddenRow : OpenClaim := { program := "ytbmpkggjcnmieaa", sum := "566a3abab5c891bb4960f7c1a5392e95dd4d046738f37e99f5673499e429576d", func := "loop.example/g00067/laws.FnExactHidden", spec := "fnExactHidden", unfollowed := true, recurses := true, apart := false }
def FnExactHiddenSaid : Prop := fnExactHiddenRow.holds Try.pinned (OpenSpec.ofChange fnExactHiddenSpec)

/-- ITS FALSE NEIGHBOUR: 'it returns false'. Refute it at one input. -/
def fnExactHiddenWrong : ChangeSpec := { name := "fnExactHidden", fn := fun _ => fun
  | [d] => { results := [.lit (.bool false)], args := [d] }
  | _ => none }
def FnExactHiddenWrongFalsely : Prop := fnExactHiddenRow.holds Try.pinned (OpenSpec.ofChange fnExactHiddenWrong)

/-- 'laws.FnWitness': WHATEVER THE INPUT: true; the input reads as it did. -/
def fnWitnessSpec : ChangeSpec := { name := "fnWitness", fn := fun _ => fun
  | [d1, d2] => { results := [.lit (.bool true)], args := [d1, d2] }
  | _ => none }
def fnWitnessRow : OpenClaim := { program := "ytbmpkggjcnmieaa", sum := "566a3abab5c891bb4960f7c1a5392e95dd4d046738f37e99f5673499e429576d", func := "loop.example/g00067/laws.FnWitness", spec := "fnWitness", unfollowed := true, recurses := true, apart := false }
def FnWitnessSaid : Prop := fnWitnessRow.holds Try.pinned (OpenSpec.ofChange fnWitnessSpec)

/-- ITS FALSE NEIGHBOUR: 'it returns false'. Refute it at one input. -/
def fnWitnessWrong : ChangeSpec := { name := "fnWitness", fn := fun _ => fun
  | [d1, d2] => { results := [.lit (.bool false)], args := [d1, d2] }
  | _ => none }
def FnWitnessWrongFalsely : Prop := fnWitnessRow.holds Try.pinned (OpenSpec.ofChange fnWitnessWrong)

/- THE SECOND FORM. 'bulk': how many values and letters a reading holds, each counted each time it is reached (what is shared counts as often as it is met; a slice's spare places count too). A statement '..UptoSaid' is the law's where the arguments, and the package variables that the reading takes, are together of bulk at most 1048576: NARROWER than '..Said'. Prove '..Said' where nothing that the law and all that it calls make is longer than what came in: it says more and counts as full. Else prove '..UptoSaid'. A law counts once. -/
mutual
def uptoBulk {H : Type} : DataW H → Nat
  | .lit (.string bytes) => bytes.length + 1
  | .lit _ => 1
  | .nil => 1
  | .ptr d => uptoBulk d + 1
  | .slice elems spare => uptoBulkAll elems + uptoBulkAll spare + 1
  | .agg parts => uptoBulkAll parts + 1
  | .iface _ d => uptoBulk d + 1
  | .map entries => uptoBulkEntries entries + 1
  | .held _ => 1
def uptoBulkAll {H : Type} : List (DataW H) → Nat
  | [] => 0
  | d :: r => uptoBulk d + uptoBulkAll r
def uptoBulkEntries {H : Type} : List (Lit × DataW H) → Nat
  | [] => 0
  | x :: r => uptoBulkEntry x + uptoBulkEntries r
def uptoBulkEntry {H : Type} : Lit × DataW H → Nat
  | (.string bytes, d) => bytes.length + uptoBulk d + 1
  | (_, d) => uptoBulk d + 1
 end
def uptoSmall : (H : Type) → List (DataW H) → Bool := fun _ ds => decide (uptoBulkAll ds ≤ 1048576)
def OpenSpec.upto (s : _root_.Go.ChangeSpec) : _root_.Go.OpenSpec := { _root_.Go.OpenSpec.ofChange s with cond := some uptoSmall }

/-- 'laws.FnExactHidden', WHERE WHAT IT READS IS OF BULK AT MOST 1048576: true; the input reads as it did. -/
def fnExactHiddenUptoRow : OpenClaim := { program := "ytbmpkggjcnmieaa", sum := "566a3abab5c891bb4960f7c1a5392e95dd4d046738f37e99f5673499e429576d", func := "loop.example/g00067/laws.FnExactHidden", spec := "fnExactHidden", unfollowed := true, recurses := true, apart := false, narrowed := true }
def FnExactHiddenUptoSaid : Prop := fnExactHiddenUptoRow.holds Try.pinned (OpenSpec.upto fnExactHiddenSpec)

/-- 'laws.FnWitness', WHERE WHAT IT READS IS OF BULK AT MOST 1048576: true; the input reads as it did. -/
def fnWitnessUptoRow : OpenClaim := { program := "ytbmpkggjcnmieaa", sum := "566a3abab5c891bb4960f7c1a5392e95dd4d046738f37e99f5673499e429576d", func := "loop.example/g00067/laws.FnWitness", spec := "fnWitness", unfollowed := true, recurses := true, apart := false, narrowed := true }
def FnWitnessUptoSaid : Prop := fnWitnessUptoRow.holds Try.pinned (OpenSpec.upto fnWitnessSpec)

end Rows
end Go.Proofs.Ytbmpkggjcnmieaa
