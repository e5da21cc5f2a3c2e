/-
  No cell of these rows narrows 'for every input' (looked for: loops, veiled, ifaces, maps, wideKeys, modest, calm, conditions, laid).
  DERIVED. THE GIVEN ROWS OF THIS SEAT. 11 by the template 'for every input the law returns true; each argument reads behind the call as it read before'; 0 by the template 'total and deterministic' (their statements: YtlkammlhhkhboaaTotals.lean).
  GIVEN WITH THE SEED: the statements are not yours to turn. If you find one false, say at which input.
  Laid BY PROGRAM, IN A SANDBOX (cutbox-rows.mjs): the forced cells as the released guide's own fill.sh prints them over the translation b78131719df49911… (all of the seat's roots in one cut). By AI agents, Wed Nov 11 2026. No macro, syntax, notation, axiom, sorry.
-/
import Derived.Test.YtlkammlhhkhboaaChecked
import GoSem.Claim
import GoSem.ClaimJoined
import GoSem.ClaimMapViews
import Derived.JoinedTies
import Derived.KernelRfl
namespace Go.Proofs.Ytlkammlhhkhboaa
/- THE CELL 'sum', in the pinned program and in every row, IS THE sha256 OF THE DUMP (.gsa) THAT YtlkammlhhkhboaaProg.lean LOADS. Nothing in Lean hashes anything: it is a label: what it is worth is what the hold of that sum in a sandbox is worth. -/
noncomputable def Try.pinned : Pinned := { name := "ytlkammlhhkhboaa", sum := "b78131719df4991132a955ff7be91f6a3ab0416a2f6ef55ad05b2375956b399a", checked := Try.checked }
namespace Rows
def none {H : Type} : Left H := { results := [], args := [] }

/-- 'laws.FnExactConstants': WHATEVER THE INPUT: true; the input reads as it did. -/
def fnExactConstantsSpec : ChangeSpec := { name := "fnExactConstants", fn := fun _ => fun
  | [] => { results := [.lit (.bool true)], args := [] }
  | _ => none }
def fnExactConstantsRow : OpenClaim := { program := "ytlkammlhhkhboaa", sum := "b78131719df4991132a955ff7be91f6a3ab0416a2f6ef55ad05b2375956b399a", func := "loop.example/g00067/laws.FnExactConstants", spec := "fnExactConstants", apart := false }
def FnExactConstantsSaid : Prop := fnExactConstantsRow.holds Try.pinned (OpenSpec.ofChange fnExactConstantsSpec)

/-- ITS FALSE NEIGHBOUR: 'it returns false'. Refute it at one input. -/
def fnExactConstantsWrong : ChangeSpec := { name := "fnExactConstants", fn := fun _ => fun
  | [] => { results := [.lit (.bool false)], args := [] }
  | _ => none }
def FnExactConstantsWrongFalsely : Prop := fnExactConstantsRow.holds Try.pinned (OpenSpec.ofChange fnExactConstantsWrong)

/-- 'laws.FnExactRateOK': WHATEVER THE INPUT: true; the input reads as it did. -/
def fnExactRateOKSpec : ChangeSpec := { name := "fnExactRateOK", fn := fun _ => fun
  | [d] => { results := [.lit (.bool true)], args := [d] }
  | _ => none }
def fnExactRateOKRow : OpenClaim := { program := "ytlkammlhhkhboaa", sum := "b78131719df4991132a955ff7be91f6a3ab0416a2f6ef55ad05b2375956b399a", func := "loop.example/g00067/laws.FnExactRateOK", spec := "fnExactRateOK", apart := false }
def FnExactRateOKSaid : Prop := fnExactRateOKRow.holds Try.pinned (OpenSpec.ofChange fnExactRateOKSpec)

/-- ITS FALSE NEIGHBOUR: 'it returns false'. Refute it at one input. -/
def fnExactRateOKWrong : ChangeSpec := { name := "fnExactRateOK", fn := fun _ => fun
  | [d] => { results := [.lit (.bool false)], args := [d] }
  | _ => none }
def FnExactRateOKWrongFalsely : Prop := fnExactRateOKRow.holds Try.pinned (OpenSpec.ofChange fnExactRateOKWrong)

/-- 'laws.FnExactCodeWord': WHATEVER THE INPUT: true; the input reads as it did. -/
def fnExactCodeWordSpec : ChangeSpec := { name := "fnExactCodeWord", fn := fun _ => fun
  | [d] => { results := [.lit (.bool true)], args := [d] }
  | _ => none }
def fnExactCodeWordRow : OpenClaim := { program := "ytlkammlhhkhboaa", sum := "b78131719df4991132a955ff7be91f6a3ab0416a2f6ef55ad05b2375956b399a", func := "loop.example/g00067/laws.FnExactCodeWord", spec := "fnExactCodeWord", apart := false }
def FnExactCodeWordSaid : Prop := fnExactCodeWordRow.holds Try.pinned (OpenSpec.ofChange fnExactCodeWordSpec)

/-- ITS FALSE NEIGHBOUR: 'it returns false'. Refute it at one input. -/
def fnExactCodeWordWrong : ChangeSpec := { name := "fnExactCodeWord", fn := fun _ => fun
  | [d] => { results := [.lit (.bool false)], args := [d] }
  | _ => none }
def FnExactCodeWordWrongFalsely : Prop := fnExactCodeWordRow.holds Try.pinned (OpenSpec.ofChange fnExactCodeWordWrong)

/-- 'laws.FnExactCodeOf': WHATEVER THE INPUT: true; the input reads as it did. -/
def fnExactCodeOfSpec : ChangeSpec := { name := "fnExactCodeOf", fn := fun _ => fun
  | [d] => { results := [.lit (.bool true)], args := [d] }
  | _ => none }
def fnExactCodeOfRow : OpenClaim := { program := "ytlkammlhhkhboaa", sum := "b78131719df4991132a955ff7be91f6a3ab0416a2f6ef55ad05b2375956b399a", func := "loop.example/g00067/laws.FnExactCodeOf", spec := "fnExactCodeOf", apart := false }
def FnExactCodeOfSaid : Prop := fnExactCodeOfRow.holds Try.pinned (OpenSpec.ofChange fnExactCodeOfSpec)

/-- ITS FALSE NEIGHBOUR: 'it returns false'. Refute it at one input. -/
def fnExactCodeOfWrong : ChangeSpec := { name := "fnExactCodeOf", fn := fun _ => fun
  | [d] => { results := [.lit (.bool false)], args := [d] }
  | _ => none }
def FnExactCodeOfWrongFalsely : Prop := fnExactCodeOfRow.holds Try.pinned (OpenSpec.ofChange fnExactCodeOfWrong)

/-- 'laws.FnExactCash': WHATEVER THE INPUT: true; the input reads as it did. -/
def fnExactCashSpec : ChangeSpec := { name := "fnExactCash", fn := fun _ => fun
  | [d1, d2] => { results := [.lit (.bool true)], args := [d1, d2] }
  | _ => none }
def fnExactCashRow : OpenClaim := { program := "ytlkammlhhkhboaa", sum := "b78131719df4991132a955ff7be91f6a3ab0416a2f6ef55ad05b2375956b399a", func := "loop.example/g00067/laws.FnExactCash", spec := "fnExactCash", recurses := true, apart := false }
def FnExactCashSaid : Prop := fnExactCashRow.holds Try.pinned (OpenSpec.ofChange fnExactCashSpec)

/-- ITS FALSE NEIGHBOUR: 'it returns false'. Refute it at one input. -/
def fnExactCashWrong : ChangeSpec := { name := "fnExactCash", fn := fun _ => fun
  | [d1, d2] => { results := [.lit (.bool false)], args := [d1, d2] }
  | _ => none }
def FnExactCashWrongFalsely : Prop := fnExactCashRow.holds Try.pinned (OpenSpec.ofChange fnExactCashWrong)

/-- 'laws.FnExactNameOK': WHATEVER THE INPUT: true; the input reads as it did. -/
def fnExactNameOKSpec : ChangeSpec := { name := "fnExactNameOK", fn := fun _ => fun
  | [d] => { results := [.lit (.bool true)], args := [d] }
  | _ => none }
def fnExactNameOKRow : OpenClaim := { program := "ytlkammlhhkhboaa", sum := "b78131719df4991132a955ff7be91f6a3ab0416a2f6ef55ad05b2375956b399a", func := "loop.example/g00067/laws.FnExactNameOK", spec := "fnExactNameOK", apart := false }
def FnExactNameOKSaid : Prop := fnExactNameOKRow.holds Try.pinned (OpenSpec.ofChange fnExactNameOKSpec)

/-- ITS FALSE NEIGHBOUR: 'it returns false'. Refute it at one input. -/
def fnExactNameOKWrong : ChangeSpec := { name := "fnExactNameOK", fn := fun _ => fun
  | [d] => { results := [.lit (.bool false)], args := [d] }
  | _ => none }
def FnExactNameOKWrongFalsely : Prop := fnExactNameOKRow.holds Try.pinned (OpenSpec.ofChange fnExactNameOKWrong)

/-- 'laws.FnCash': WHATEVER THE INPUT: true; the input reads as it did. -/
def fnCashSpec : ChangeSpec := { name := "fnCash", fn := fun _ => fun
  | [d1, d2] => { results := [.lit (.bool true)], args := [d1, d2] }
  | _ => none }
def fnCashRow : OpenClaim := { program := "ytlkammlhhkhboaa", sum := "b78131719df4991132a955ff7be91f6a3ab0416a2f6ef55ad05b2375956b399a", func := "loop.example/g00067/laws.FnCash", spec := "fnCash", apart := false }
def FnCashSaid : Prop := fnCashRow.holds Try.pinned (OpenSpec.ofChange fnCashSpec)

/-- ITS FALSE NEIGHBOUR: 'it returns false'. Refute it at one input. -/
def fnCashWrong : ChangeSpec := { name := "fnCash", fn := fun _ => fun
  | [d1, d2] => { results := [.lit (.bool false)], args := [d1, d2] }
  | _ => none }
def FnCashWrongFalsely : Prop := fnCashRow.holds Try.pinned (OpenSpec.ofChange fnCashWrong)

/-- 'laws.FnExactByWeight': WHATEVER THE INPUT: true; the input reads as it did. -/
def fnExactByWeightSpec : ChangeSpec := { name := "fnExactByWeight", fn := fun _ => fun
  | [d1, d2] => { results := [.lit (.bool true)], args := [d1, d2] }
  | _ => none }
def fnExactByWeightRow : OpenClaim := { program := "ytlkammlhhkhboaa", sum := "b78131719df4991132a955ff7be91f6a3ab0416a2f6ef55ad05b2375956b399a", func := "loop.example/g00067/laws.FnExactByWeight", spec := "fnExactByWeight", apart := false }
def FnExactByWeightSaid : Prop := fnExactByWeightRow.holds Try.pinned (OpenSpec.ofChange fnExactByWeightSpec)

/-- ITS FALSE NEIGHBOUR: 'it returns false'. Refute it at one input. -/
def fnExactByWeightWrong : ChangeSpec := { name := "fnExactByWeight", fn := fun _ => fun
  | [d1, d2] => { results := [.lit (.bool false)], args := [d1, d2] }
  | _ => none }
def FnExactByWeightWrongFalsely : Prop := fnExactByWeightRow.holds Try.pinned (OpenSpec.ofChange fnExactByWeightWrong)

/-- 'laws.FnExactSplit': WHATEVER THE INPUT: true; the input reads as it did. -/
def fnExactSplitSpec : ChangeSpec := { name := "fnExactSplit", fn := fun _ => fun
  | [d1, d2] => { results := [.lit (.bool true)], args := [d1, d2] }
  | _ => none }
def fnExactSplitRow : OpenClaim := { program := "ytlkammlhhkhboaa", sum := "b78131719df4991132a955ff7be91f6a3ab0416a2f6ef55ad05b2375956b399a", func := "loop.example/g00067/laws.FnExactSplit", spec := "fnExactSplit", apart := false }
def FnExactSplitSaid : Prop := fnExactSplitRow.holds Try.pinned (OpenSpec.ofChange fnExactSplitSpec)

/-- ITS FALSE NEIGHBOUR: 'it returns false'. Refute it at one input. -/
def fnExactSplitWrong : ChangeSpec := { name := "fnExactSplit", fn := fun _ => fun
  | [d1, d2] => { results := [.lit (.bool false)], args := [d1, d2] }
  | _ => none }
def FnExactSplitWrongFalsely : Prop := fnExactSplitRow.holds Try.pinned (OpenSpec.ofChange fnExactSplitWrong)

/-- 'laws.FnExactPart': WHATEVER THE INPUT: true; the input reads as it did. -/
def fnExactPartSpec : ChangeSpec := { name := "fnExactPart", fn := fun _ => fun
  | [d1, d2, d3] => { results := [.lit (.bool true)], args := [d1, d2, d3] }
  | _ => none }
def fnExactPartRow : OpenClaim := { program := "ytlkammlhhkhboaa", sum := "b78131719df4991132a955ff7be91f6a3ab0416a2f6ef55ad05b2375956b399a", func := "loop.example/g00067/laws.FnExactPart", spec := "fnExactPart", apart := false }
def FnExactPartSaid : Prop := fnExactPartRow.holds Try.pinned (OpenSpec.ofChange fnExactPartSpec)

/-- ITS FALSE NEIGHBOUR: 'it returns false'. Refute it at one input. -/
def fnExactPartWrong : ChangeSpec := { name := "fnExactPart", fn := fun _ => fun
  | [d1, d2, d3] => { results := [.lit (.bool false)], args := [d1, d2, d3] }
  | _ => none }
def FnExactPartWrongFalsely : Prop := fnExactPartRow.holds Try.pinned (OpenSpec.ofChange fnExactPartWrong)

/-- 'laws.FnExactExchange': WHATEVER THE INPUT: true; the input reads as it did. -/
def fnExactExchangeSpec : ChangeSpec := { name := "fnExactExchange", fn := fun _ => fun
  | [d1, d2, d3, d4] => { results := [.lit (.bool true)], args := [d1, d2, d3, d4] }
  | _ => none }
def fnExactExchangeRow : OpenClaim := { program := "ytlkammlhhkhboaa", sum := "b78131719df4991132a955ff7be91f6a3ab0416a2f6ef55ad05b2375956b399a", func := "loop.example/g00067/laws.FnExactExchange", spec := "fnExactExchange", apart := false }
def FnExactExchangeSaid : Prop := fnExactExchangeRow.holds Try.pinned (OpenSpec.ofChange fnExactExchangeSpec)

/-- ITS FALSE NEIGHBOUR: 'it returns false'. Refute it at one input. -/
def fnExactExchangeWrong : ChangeSpec := { name := "fnExactExchange", fn := fun _ => fun
  | [d1, d2, d3, d4] => { results := [.lit (.bool false)], args := [d1, d2, d3, d4] }
  | _ => none }
def FnExactExchangeWrongFalsely : Prop := fnExactExchangeRow.holds Try.pinned (OpenSpec.ofChange fnExactExchangeWrong)

/- THE SECOND FORM. 'bulk': how many values and letters a reading holds, each counted each time it is reached (what is shared counts as often as it is met; a slice's spare places count too). A statement '..UptoSaid' is the law's where the arguments, and the package variables that the reading takes, are together of bulk at most 1048576: NARROWER than '..Said'. Prove '..Said' where nothing that the law and all that it calls make is longer than what came in: it says more and counts as full. Else prove '..UptoSaid'. A law counts once. -/
mutual
def uptoBulk {H : Type} : DataW H → Nat
  | .lit (.string bytes) => bytes.length + 1
  | .lit _ => 1
  | .nil => 1
  | .ptr d => uptoBulk d + 1
  | .slice elems spare => uptoBulkAll elems + uptoBulkAll spare + 1
  | .agg parts => uptoBulkAll parts + 1
  | .iface _ d => uptoBulk d + 1
  | .map entries => uptoBulkEntries entries + 1
  | .held _ => 1
def uptoBulkAll {H : Type} : List (DataW H) → Nat
  | [] => 0
  | d :: r => uptoBulk d + uptoBulkAll r
def uptoBulkEntries {H : Type} : List (Lit × DataW H) → Nat
  | [] => 0
  | x :: r => uptoBulkEntry x + uptoBulkEntries r
def uptoBulkEntry {H : Type} : Lit × DataW H → Nat
  | (.string bytes, d) => bytes.length + uptoBulk d + 1
  | (_, d) => uptoBulk d + 1
 end
def uptoSmall : (H : Type) → List (DataW H) → Bool := fun _ ds => decide (uptoBulkAll ds ≤ 1048576)
def OpenSpec.upto (s : _root_.Go.ChangeSpec) : _root_.Go.OpenSpec := { _root_.Go.OpenSpec.ofChange s with cond := some uptoSmall }

/-- 'laws.FnExactConstants', WHERE WHAT IT READS IS OF BULK AT MOST 1048576: true; the input reads as it did. -/
def fnExactConstantsUptoRow : OpenClaim := { program := "ytlkammlhhkhboaa", sum := "b78131719df4991132a955ff7be91f6a3ab0416a2f6ef55ad05b2375956b399a", func := "loop.example/g00067/laws.FnExactConstants", spec := "fnExactConstants", apart := false, narrowed := true }
def FnExactConstantsUptoSaid : Prop := fnExactConstantsUptoRow.holds Try.pinned (OpenSpec.upto fnExactConstantsSpec)

/-- 'laws.FnExactRateOK', WHERE WHAT IT READS IS OF BULK AT MOST 1048576: true; the input reads as it did. -/
def fnExactRateOKUptoRow : OpenClaim := { program := "ytlkammlhhkhboaa", sum := "b78131719df4991132a955ff7be91f6a3ab0416a2f6ef55ad05b2375956b399a", func := "loop.example/g00067/laws.FnExactRateOK", spec := "fnExactRateOK", apart := false, narrowed := true }
def FnExactRateOKUptoSaid : Prop := fnExactRateOKUptoRow.holds Try.pinned (OpenSpec.upto fnExactRateOKSpec)

/-- 'laws.FnExactCodeWord', WHERE WHAT IT READS IS OF BULK AT MOST 1048576: true; the input reads as it did. -/
def fnExactCodeWordUptoRow : OpenClaim := { program := "ytlkammlhhkhboaa", sum := "b78131719df4991132a955ff7be91f6a3ab0416a2f6ef55ad05b2375956b399a", func := "loop.example/g00067/laws.FnExactCodeWord", spec := "fnExactCodeWord", apart := false, narrowed := true }
def FnExactCodeWordUptoSaid : Prop := fnExactCodeWordUptoRow.holds Try.pinned (OpenSpec.upto fnExactCodeWordSpec)

/-- 'laws.FnExactCodeOf', WHERE WHAT IT READS IS OF BULK AT MOST 1048576: true; the input reads as it did. -/
def fnExactCodeOfUptoRow : OpenClaim := { program := "ytlkammlhhkhboaa", sum := "b78131719df4991132a955ff7be91f6a3ab0416a2f6ef55ad05b2375956b399a", func := "loop.example/g00067/laws.FnExactCodeOf", spec := "fnExactCodeOf", apart := false, narrowed := true }
def FnExactCodeOfUptoSaid : Prop := fnExactCodeOfUptoRow.holds Try.pinned (OpenSpec.upto fnExactCodeOfSpec)

/-- 'laws.FnExactCash', WHERE WHAT IT READS IS OF BULK AT MOST 1048576: true; the input reads as it did. -/
def fnExactCashUptoRow : OpenClaim := { program := "ytlkammlhhkhboaa", sum := "b78131719df4991132a955ff7be91f6a3ab0416a2f6ef55ad05b2375956b399a", func := "loop.example/g00067/laws.FnExactCash", spec := "fnExactCash", recurses := true, apart := false, narrowed := true }
def FnExactCashUptoSaid : Prop := fnExactCashUptoRow.holds Try.pinned (OpenSpec.upto fnExactCashSpec)

/-- 'laws.FnExactNameOK', WHERE WHAT IT READS IS OF BULK AT MOST 1048576: true; the input reads as it did. -/
def fnExactNameOKUptoRow : OpenClaim := { program := "ytlkammlhhkhboaa", sum := "b78131719df4991132a955ff7be91f6a3ab0416a2f6ef55ad05b2375956b399a", func := "loop.example/g00067/laws.FnExactNameOK", spec := "fnExactNameOK", apart := false, narrowed := true }
def FnExactNameOKUptoSaid : Prop := fnExactNameOKUptoRow.holds Try.pinned (OpenSpec.upto fnExactNameOKSpec)

/-- 'laws.FnCash', WHERE WHAT IT READS IS OF BULK AT MOST 1048576: true; the input reads as it did. -/
def fnCashUptoRow : OpenClaim := { program := "ytlkammlhhkhboaa", sum := "b78131719df4991132a955ff7be91f6a3ab0416a2f6ef55ad05b2375956b399a", func := "loop.example/g00067/laws.FnCash", spec := "fnCash", apart := false, narrowed := true }
def FnCashUptoSaid : Prop := fnCashUptoRow.holds Try.pinned (OpenSpec.upto fnCashSpec)

/-- 'laws.FnExactByWeight', WHERE WHAT IT READS IS OF BULK AT MOST 1048576: true; the input reads as it did. -/
def fnExactByWeightUptoRow : OpenClaim := { program := "ytlkammlhhkhboaa", sum := "b78131719df4991132a955ff7be91f6a3ab0416a2f6ef55ad05b2375956b399a", func := "loop.example/g00067/laws.FnExactByWeight", spec := "fnExactByWeight", apart := false, narrowed := true }
def FnExactByWeightUptoSaid : Prop := fnExactByWeightUptoRow.holds Try.pinned (OpenSpec.upto fnExactByWeightSpec)

/-- 'laws.FnExactSplit', WHERE WHAT IT READS IS OF BULK AT MOST 1048576: true; the input reads as it did. -/
def fnExactSplitUptoRow : OpenClaim := { program := "ytlkammlhhkhboaa", sum := "b78131719df4991132a955ff7be91f6a3ab0416a2f6ef55ad05b2375956b399a", func := "loop.example/g00067/laws.FnExactSplit", spec := "fnExactSplit", apart := false, narrowed := true }
def FnExactSplitUptoSaid : Prop := fnExactSplitUptoRow.holds Try.pinned (OpenSpec.upto fnExactSplitSpec)

/-- 'laws.FnExactPart', WHERE WHAT IT READS IS OF BULK AT MOST 1048576: true; the input reads as it did. -/
def fnExactPartUptoRow : OpenClaim := { program := "ytlkammlhhkhboaa", sum := "b78131719df4991132a955ff7be91f6a3ab0416a2f6ef55ad05b2375956b399a", func := "loop.example/g00067/laws.FnExactPart", spec := "fnExactPart", apart := false, narrowed := true }
def FnExactPartUptoSaid : Prop := fnExactPartUptoRow.holds Try.pinned (OpenSpec.upto fnExactPartSpec)

/-- 'laws.FnExactExchange', WHERE WHAT IT READS IS OF BULK AT MOST 1048576: true; the input reads as it did. -/
def fnExactExchangeUptoRow : OpenClaim := { program := "ytlkammlhhkhboaa", sum := "b78131719df4991132a955ff7be91f6a3ab0416a2f6ef55ad05b2375956b399a", func := "loop.example/g00067/laws.FnExactExchange", spec := "fnExactExchange", apart := false, narrowed := true }
def FnExactExchangeUptoSaid : Prop := fnExactExchangeUptoRow.holds Try.pinned (OpenSpec.upto fnExactExchangeSpec)

end Rows
end Go.Proofs.Ytlkammlhhkhboaa
