/-
  DERIVED. GIVEN WITH THE SEED: THE CARDS: each row of YtdlfpjbhcpnpfaaDoorRows.lean that lists a variable, with what it lists TIED to the program's text (the seventh form; the later family's looks); each row that meets fmt, with fmt's text TOLD by the authors' own Lean function (tested against real Go, not proved from fmt's source: count such statements apart). THE CARD IS WHAT COUNTS. Prove the row's statement (the work); the ties are given (YtdlfpjbhcpnpfaaDoorTie.lean); close each card by the builder's one call (the guide's Derived/Test/ToyasCard.lean, 'card_holds'). Laid BY PROGRAM, IN A SANDBOX (cutbox-door.mjs). By AI agents, Wed Nov 11 2026. No macro, syntax, notation, axiom, sorry.
-/
import Derived.Test.YtdlfpjbhcpnpfaaDoorRows
import GoSem.ClaimSeven
namespace Go.Proofs.YtdlfpjbhcpnpfaaDoor
namespace Rows

/-- THE TIED CARD OF 'laws.FnExactMoneyText'. -/
def fnExactMoneyTextCard : Claim7 := { stood := { row := fnExactMoneyTextRow, standIns := [], harness := (true, "8c4f5fef4ef5e99c35b307d157350f5652df8b29630e1d50505df64c09b81a03"), looks := true }, kinds := [], alts := [], laidByText := true, laidKinds := [.data, .data, .data], laidTests := true, laidLooks := .later }
def FnExactMoneyTextCardSaid : Prop := Claim7.holds Tryd.pinned (.plain (OpenSpec.ofChange fnExactMoneyTextSpec)) fnExactMoneyTextCard

/-- THE TIED CARD OF 'laws.FnExactCheckDigit'. -/
def fnExactCheckDigitCard : Claim7 := { stood := { row := fnExactCheckDigitRow, standIns := [], harness := (true, "8c4f5fef4ef5e99c35b307d157350f5652df8b29630e1d50505df64c09b81a03"), looks := true }, kinds := [], alts := [], laidByText := true, laidKinds := [.data, .pinned], laidTests := true, laidLooks := .later }
def FnExactCheckDigitCardSaid : Prop := Claim7.holds Tryd.pinned (.plain (OpenSpec.ofChange fnExactCheckDigitSpec)) fnExactCheckDigitCard

/-- THE TIED CARD OF 'laws.FnExactReadScan'. -/
def fnExactReadScanCard : Claim7 := { stood := { row := fnExactReadScanRow, standIns := [], harness := (true, "8c4f5fef4ef5e99c35b307d157350f5652df8b29630e1d50505df64c09b81a03"), looks := true }, kinds := [], alts := [], laidByText := true, laidKinds := [.data, .data, .data, .data, .sentinel, .sentinel, .pinned], laidTests := true, laidLooks := .later }
def FnExactReadScanCardSaid : Prop := Claim7.holds Tryd.pinned (.plain (OpenSpec.ofChange fnExactReadScanSpec)) fnExactReadScanCard

/-- THE TIED CARD OF 'laws.FnExactMakeScan'. -/
def fnExactMakeScanCard : Claim7 := { stood := { row := fnExactMakeScanRow, standIns := [], harness := (true, "8c4f5fef4ef5e99c35b307d157350f5652df8b29630e1d50505df64c09b81a03"), looks := true }, kinds := [], alts := [], laidByText := true, laidKinds := [.data, .data, .data, .data, .sentinel, .sentinel, .pinned], laidTests := true, laidLooks := .later }
def FnExactMakeScanCardSaid : Prop := Claim7.holds Tryd.pinned (.plain (OpenSpec.ofChange fnExactMakeScanSpec)) fnExactMakeScanCard

/-- THE TIED CARD OF 'laws.FnExactReadMoney'. -/
def fnExactReadMoneyCard : Claim7 := { stood := { row := fnExactReadMoneyRow, standIns := [], harness := (true, "8c4f5fef4ef5e99c35b307d157350f5652df8b29630e1d50505df64c09b81a03"), looks := true }, kinds := [], alts := [], laidByText := true, laidKinds := [.data, .data, .data, .data, .sentinel, .sentinel, .pinned], laidTests := true, laidLooks := .later }
def FnExactReadMoneyCardSaid : Prop := Claim7.holds Tryd.pinned (.plain (OpenSpec.ofChange fnExactReadMoneySpec)) fnExactReadMoneyCard

/-- THE TIED CARD OF 'laws.FnParts'. -/
def fnPartsCard : Claim7 := { stood := { row := fnPartsRow, standIns := [], harness := (true, "8c4f5fef4ef5e99c35b307d157350f5652df8b29630e1d50505df64c09b81a03"), looks := true }, kinds := [], alts := [], laidByText := true, laidKinds := [.data, .data, .data, .data, .sentinel, .sentinel, .pinned], laidTests := true, laidLooks := .later }
def FnPartsCardSaid : Prop := Claim7.holds Tryd.pinned (.plain (OpenSpec.ofChange fnPartsSpec)) fnPartsCard

/-- THE SECOND FORM's CARD OF 'laws.FnExactMoneyText'. -/
def fnExactMoneyTextUptoCard : Claim7 := { stood := { row := fnExactMoneyTextUptoRow, standIns := [], harness := (true, "8c4f5fef4ef5e99c35b307d157350f5652df8b29630e1d50505df64c09b81a03"), looks := true }, kinds := [], alts := [], laidByText := true, laidKinds := [.data, .data, .data], laidTests := true, laidLooks := .later }
def FnExactMoneyTextUptoCardSaid : Prop := Claim7.holds Tryd.pinned (.plain (OpenSpec.upto fnExactMoneyTextSpec)) fnExactMoneyTextUptoCard

/-- THE SECOND FORM's CARD OF 'laws.FnExactCheckDigit'. -/
def fnExactCheckDigitUptoCard : Claim7 := { stood := { row := fnExactCheckDigitUptoRow, standIns := [], harness := (true, "8c4f5fef4ef5e99c35b307d157350f5652df8b29630e1d50505df64c09b81a03"), looks := true }, kinds := [], alts := [], laidByText := true, laidKinds := [.data, .pinned], laidTests := true, laidLooks := .later }
def FnExactCheckDigitUptoCardSaid : Prop := Claim7.holds Tryd.pinned (.plain (OpenSpec.upto fnExactCheckDigitSpec)) fnExactCheckDigitUptoCard

/-- THE SECOND FORM's CARD OF 'laws.FnExactReadScan'. -/
def fnExactReadScanUptoCard : Claim7 := { stood := { row := fnExactReadScanUptoRow, standIns := [], harness := (true, "8c4f5fef4ef5e99c35b307d157350f5652df8b29630e1d50505df64c09b81a03"), looks := true }, kinds := [], alts := [], laidByText := true, laidKinds := [.data, .data, .data, .data, .sentinel, .sentinel, .pinned], laidTests := true, laidLooks := .later }
def FnExactReadScanUptoCardSaid : Prop := Claim7.holds Tryd.pinned (.plain (OpenSpec.upto fnExactReadScanSpec)) fnExactReadScanUptoCard

/-- THE SECOND FORM's CARD OF 'laws.FnExactMakeScan'. -/
def fnExactMakeScanUptoCard : Claim7 := { stood := { row := fnExactMakeScanUptoRow, standIns := [], harness := (true, "8c4f5fef4ef5e99c35b307d157350f5652df8b29630e1d50505df64c09b81a03"), looks := true }, kinds := [], alts := [], laidByText := true, laidKinds := [.data, .data, .data, .data, .sentinel, .sentinel, .pinned], laidTests := true, laidLooks := .later }
def FnExactMakeScanUptoCardSaid : Prop := Claim7.holds Tryd.pinned (.plain (OpenSpec.upto fnExactMakeScanSpec)) fnExactMakeScanUptoCard

/-- THE SECOND FORM's CARD OF 'laws.FnExactReadMoney'. -/
def fnExactReadMoneyUptoCard : Claim7 := { stood := { row := fnExactReadMoneyUptoRow, standIns := [], harness := (true, "8c4f5fef4ef5e99c35b307d157350f5652df8b29630e1d50505df64c09b81a03"), looks := true }, kinds := [], alts := [], laidByText := true, laidKinds := [.data, .data, .data, .data, .sentinel, .sentinel, .pinned], laidTests := true, laidLooks := .later }
def FnExactReadMoneyUptoCardSaid : Prop := Claim7.holds Tryd.pinned (.plain (OpenSpec.upto fnExactReadMoneySpec)) fnExactReadMoneyUptoCard

/-- THE SECOND FORM's CARD OF 'laws.FnParts'. -/
def fnPartsUptoCard : Claim7 := { stood := { row := fnPartsUptoRow, standIns := [], harness := (true, "8c4f5fef4ef5e99c35b307d157350f5652df8b29630e1d50505df64c09b81a03"), looks := true }, kinds := [], alts := [], laidByText := true, laidKinds := [.data, .data, .data, .data, .sentinel, .sentinel, .pinned], laidTests := true, laidLooks := .later }
def FnPartsUptoCardSaid : Prop := Claim7.holds Tryd.pinned (.plain (OpenSpec.upto fnPartsSpec)) fnPartsUptoCard
end Rows
end Go.Proofs.YtdlfpjbhcpnpfaaDoor
