/-
  DERIVED. GIVEN WITH THE SEED: THE CARDS: each row of YthhhmcijbplcoaaGreatDoorRows.lean that lists a variable, with what it lists TIED to the program's text (the seventh form; the later family's looks); each row that meets fmt, with fmt's text TOLD by the authors' own Lean function (tested against real Go, not proved from fmt's source: count such statements apart). THE CARD IS WHAT COUNTS. Prove the row's statement (the work); the ties are given (YthhhmcijbplcoaaGreatDoorTie.lean); close each card by the builder's one call (the guide's Derived/Test/ToyasCard.lean, 'card_holds'). Laid BY PROGRAM, IN A SANDBOX (cutbox-door.mjs). By AI agents, Wed Nov 11 2026. No macro, syntax, notation, axiom, sorry.
-/
import Derived.Test.YthhhmcijbplcoaaGreatDoorRows
import GoSem.ClaimSeven
namespace Go.Proofs.YthhhmcijbplcoaaGreatDoor
namespace Rows

/-- THE TIED CARD OF 'laws.FnExactReadRules'. -/
def fnExactReadRulesCard : Claim7 := { stood := { row := fnExactReadRulesRow, standIns := [], harness := (true, "cdc4f38366c4373fafdb63148b24500bd4b140305abed9485bb9a127195ee1e6"), looks := true }, kinds := [], alts := [], laidByText := true, laidKinds := [.data, .data, .data, .data, .sentinel, .sentinel, .pinned], laidTests := true, laidLooks := .later }
def FnExactReadRulesCardSaid : Prop := Claim7.holds Tryz.pinned (.plain (OpenSpec.ofChange fnExactReadRulesSpec)) fnExactReadRulesCard

/-- THE TIED CARD OF 'laws.FnRules'. -/
def fnRulesCard : Claim7 := { stood := { row := fnRulesRow, standIns := [], harness := (true, "cdc4f38366c4373fafdb63148b24500bd4b140305abed9485bb9a127195ee1e6"), looks := true }, kinds := [], alts := [], laidByText := true, laidKinds := [.data, .data, .data, .data, .sentinel, .sentinel, .pinned], laidTests := true, laidLooks := .later }
def FnRulesCardSaid : Prop := Claim7.holds Tryz.pinned (.plain (OpenSpec.ofChange fnRulesSpec)) fnRulesCard

/-- THE SECOND FORM's CARD OF 'laws.FnExactReadRules'. -/
def fnExactReadRulesUptoCard : Claim7 := { stood := { row := fnExactReadRulesUptoRow, standIns := [], harness := (true, "cdc4f38366c4373fafdb63148b24500bd4b140305abed9485bb9a127195ee1e6"), looks := true }, kinds := [], alts := [], laidByText := true, laidKinds := [.data, .data, .data, .data, .sentinel, .sentinel, .pinned], laidTests := true, laidLooks := .later }
def FnExactReadRulesUptoCardSaid : Prop := Claim7.holds Tryz.pinned (.plain (OpenSpec.upto fnExactReadRulesSpec)) fnExactReadRulesUptoCard

/-- THE SECOND FORM's CARD OF 'laws.FnRules'. -/
def fnRulesUptoCard : Claim7 := { stood := { row := fnRulesUptoRow, standIns := [], harness := (true, "cdc4f38366c4373fafdb63148b24500bd4b140305abed9485bb9a127195ee1e6"), looks := true }, kinds := [], alts := [], laidByText := true, laidKinds := [.data, .data, .data, .data, .sentinel, .sentinel, .pinned], laidTests := true, laidLooks := .later }
def FnRulesUptoCardSaid : Prop := Claim7.holds Tryz.pinned (.plain (OpenSpec.upto fnRulesSpec)) fnRulesUptoCard
end Rows
end Go.Proofs.YthhhmcijbplcoaaGreatDoor
