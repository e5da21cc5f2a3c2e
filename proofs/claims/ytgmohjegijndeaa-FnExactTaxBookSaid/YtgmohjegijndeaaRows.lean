/-
  No cell of these rows narrows 'for every input' (looked for: loops, veiled, ifaces, maps, wideKeys, modest, calm, conditions, laid).
  DERIVED. THE GIVEN ROWS OF THIS SEAT. 2 by the template 'for every input the law returns true; each argument reads behind the call as it read before'; 0 by the template 'total and deterministic' (their statements: YtgmohjegijndeaaTotals.lean).
  GIVEN WITH THE SEED: the statements are not yours to turn. If you find one false, say at which input.
  Laid BY PROGRAM, IN A SANDBOX (cutbox-rows.mjs): the forced cells as the released guide's own fill.sh prints them over the translation 1c1d18ed2d574e40… (all of the seat's roots in one cut). By AI agents, Wed Nov 11 2026. No macro, syntax, notation, axiom, sorry.
-/
import Derived.Test.YtgmohjegijndeaaChecked
import GoSem.Claim
import GoSem.ClaimJoined
import GoSem.ClaimMapViews
import Derived.JoinedTies
import Derived.KernelRfl
namespace Go.Proofs.Ytgmohjegijndeaa
/- THE CELL 'sum', in the pinned program and in every row, IS THE sha256 OF THE DUMP (.gsa) THAT YtgmohjegijndeaaProg.lean LOADS. Nothing in Lean hashes anything: it is a label: what it is worth is what the hold of that sum in a sandbox is worth. -/
noncomputable def Try.pinned : Pinned := { name := "ytgmohjegijndeaa", sum := "1c1d18ed2d574e40183a96f14276a58703e130a4c6da49a19ed97ee83bb96d70", checked := Try.checked }
namespace Rows
def none {H : Type} : Left H := { results := [], args := [] }

/-- 'laws.FnExactTaxBook': WHATEVER THE INPUT: true; the input reads as it did. -/
def fnExactTaxBookSpec : ChangeSpec := { name := "fnExactTaxBook", fn := fun _ => fun
  | [d1, d2, d3, d4] => { results := [.lit (.bool true)], args := [d1, d2, d3, d4] }
  | _ => none }
def fnExactTaxBookRow : OpenClaim := { program := "ytgmohjegijndeaa", sum := "1c1d18ed2d574e40183a96f14276a58703e130a4c6da49a19ed97ee83bb96d70", func := "loop.example/g00067/laws.FnExactTaxBook", spec := "fnExactTaxBook", unfollowed := true, recurses := true, apart := false }
def FnExactTaxBookSaid : Prop := fnExactTaxBookRow.holds Try.pinned (OpenSpec.ofChange fnExactTaxBookSpec)

/-- ITS FALSE NEIGHBOUR: 'it returns false'. Refute it at one input. -/
def fnExactTaxBookWrong : ChangeSpec := { name := "fnExactTaxBook", fn := fun _ => fun
  | [d1, d2, d3, d4] => { results := [.lit (.bool false)], args := [d1, d2, d3, d4] }
  | _ => none }
def FnExactTaxBookWrongFalsely : Prop := fnExactTaxBookRow.holds Try.pinned (OpenSpec.ofChange fnExactTaxBookWrong)

/-- 'laws.FnTaxes': WHATEVER THE INPUT: true; the input reads as it did. -/
def fnTaxesSpec : ChangeSpec := { name := "fnTaxes", fn := fun _ => fun
  | [d] => { results := [.lit (.bool true)], args := [d] }
  | _ => none }
def fnTaxesRow : OpenClaim := { program := "ytgmohjegijndeaa", sum := "1c1d18ed2d574e40183a96f14276a58703e130a4c6da49a19ed97ee83bb96d70", func := "loop.example/g00067/laws.FnTaxes", spec := "fnTaxes", unfollowed := true, recurses := true, apart := false }
def FnTaxesSaid : Prop := fnTaxesRow.holds Try.pinned (OpenSpec.ofChange fnTaxesSpec)

/-- ITS FALSE NEIGHBOUR: 'it returns false'. Refute it at one input. -/
def fnTaxesWrong : ChangeSpec := { name := "fnTaxes", fn := fun _ => fun
  | [d] => { results := [.lit (.bool false)], args := [d] }
  | _ => none }
def FnTaxesWrongFalsely : Prop := fnTaxesRow.holds Try.pinned (OpenSpec.ofChange fnTaxesWrong)

/- THE SECOND FORM. 'bulk': how many values and letters a reading holds, each counted each time it is reached (what is shared counts as often as it is met; a slice's spare places count too). A statement '..UptoSaid' is the law's where the arguments, and the package variables that the reading takes, are together of bulk at most 1048576: NARROWER than '..Said'. Prove '..Said' where nothing that the law and all that it calls make is longer than what came in: it says more and counts as full. Else prove '..UptoSaid'. A law counts once. -/
mutual
def uptoBulk {H : Type} : DataW H → Nat
  | .lit (.string bytes) => bytes.length + 1
  | .lit _ => 1
  | .nil => 1
  | .ptr d => uptoBulk d + 1
  | .slice elems spare => uptoBulkAll elems + uptoBulkAll spare + 1
  | .agg parts => uptoBulkAll parts + 1
  | .iface _ d => uptoBulk d + 1
  | .map entries => uptoBulkEntries entries + 1
  | .held _ => 1
def uptoBulkAll {H : Type} : List (DataW H) → Nat
  | [] => 0
  | d :: r => uptoBulk d + uptoBulkAll r
def uptoBulkEntries {H : Type} : List (Lit × DataW H) → Nat
  | [] => 0
  | x :: r => uptoBulkEntry x + uptoBulkEntries r
def uptoBulkEntry {H : Type} : Lit × DataW H → Nat
  | (.string bytes, d) => bytes.length + uptoBulk d + 1
  | (_, d) => uptoBulk d + 1
 end
def uptoSmall : (H : Type) → List (DataW H) → Bool := fun _ ds => decide (uptoBulkAll ds ≤ 1048576)
def OpenSpec.upto (s : _root_.Go.ChangeSpec) : _root_.Go.OpenSpec := { _root_.Go.OpenSpec.ofChange s with cond := some uptoSmall }

/-- 'laws.FnExactTaxBook', WHERE WHAT IT READS IS OF BULK AT MOST 1048576: true; the input reads as it did. -/
def fnExactTaxBookUptoRow : OpenClaim := { program := "ytgmohjegijndeaa", sum := "1c1d18ed2d574e40183a96f14276a58703e130a4c6da49a19ed97ee83bb96d70", func := "loop.example/g00067/laws.FnExactTaxBook", spec := "fnExactTaxBook", unfollowed := true, recurses := true, apart := false, narrowed := true }
def FnExactTaxBookUptoSaid : Prop := fnExactTaxBookUptoRow.holds Try.pinned (OpenSpec.upto fnExactTaxBookSpec)

/-- 'laws.FnTaxes', WHERE WHAT IT READS IS OF BULK AT MOST 1048576: true; the input reads as it did. -/
def fnTaxesUptoRow : OpenClaim := { program := "ytgmohjegijndeaa", sum := "1c1d18ed2d574e40183a96f14276a58703e130a4c6da49a19ed97ee83bb96d70", func := "loop.example/g00067/laws.FnTaxes", spec := "fnTaxes", unfollowed := true, recurses := true, apart := false, narrowed := true }
def FnTaxesUptoSaid : Prop := fnTaxesUptoRow.holds Try.pinned (OpenSpec.upto fnTaxesSpec)

end Rows
end Go.Proofs.Ytgmohjegijndeaa
