/-
  DERIVED. GIVEN WITH THE SEED: THE CARDS: each row of YtcdfefcpbaiolaaGreatDoorRows.lean that lists a variable, with what it lists TIED to the program's text (the seventh form; the later family's looks); each row that meets fmt, with fmt's text TOLD by the authors' own Lean function (tested against real Go, not proved from fmt's source: count such statements apart). THE CARD IS WHAT COUNTS. Prove the row's statement (the work); the ties are given (YtcdfefcpbaiolaaGreatDoorTie.lean); close each card by the builder's one call (the guide's Derived/Test/ToyasCard.lean, 'card_holds'). Laid BY PROGRAM, IN A SANDBOX (cutbox-door.mjs). By AI agents, Wed Nov 11 2026. No macro, syntax, notation, axiom, sorry.
-/
import Derived.Test.YtcdfefcpbaiolaaGreatDoorRows
import GoSem.ClaimSeven
namespace Go.Proofs.YtcdfefcpbaiolaaGreatDoor
namespace Rows

/-- THE TIED CARD OF 'scriptinglaw32.OpcodeTexts'. -/
def opcodeTextsCard : Claim7 := { stood := { row := opcodeTextsRow, standIns := [], harness := (true, "2c431fd9b36289688fc0592d374ed1d005a99d4684fd908d1c2b72bf7fe132be"), looks := true }, kinds := [], alts := [], laidByText := true, laidKinds := [.data, .data, .data, .data, .sentinel, .sentinel, .listed, .data, .pinned], laidTests := true, laidLooks := .later }
def OpcodeTextsCardSaid : Prop := Claim7.holds Tryz.pinned (.plain (OpenSpec.ofChange opcodeTextsSpec)) opcodeTextsCard

/-- THE TIED CARD OF 'scriptinglaw32.OpcodeFields'. -/
def opcodeFieldsCard : Claim7 := { stood := { row := opcodeFieldsRow, standIns := [], harness := (true, "2c431fd9b36289688fc0592d374ed1d005a99d4684fd908d1c2b72bf7fe132be"), looks := true }, kinds := [], alts := [], laidByText := true, laidKinds := [.data, .data, .data, .data, .sentinel, .sentinel, .listed, .data, .pinned], laidTests := true, laidLooks := .later }
def OpcodeFieldsCardSaid : Prop := Claim7.holds Tryz.pinned (.plain (OpenSpec.ofChange opcodeFieldsSpec)) opcodeFieldsCard

/-- THE SECOND FORM's CARD OF 'scriptinglaw32.OpcodeTexts'. -/
def opcodeTextsUptoCard : Claim7 := { stood := { row := opcodeTextsUptoRow, standIns := [], harness := (true, "2c431fd9b36289688fc0592d374ed1d005a99d4684fd908d1c2b72bf7fe132be"), looks := true }, kinds := [], alts := [], laidByText := true, laidKinds := [.data, .data, .data, .data, .sentinel, .sentinel, .listed, .data, .pinned], laidTests := true, laidLooks := .later }
def OpcodeTextsUptoCardSaid : Prop := Claim7.holds Tryz.pinned (.plain (OpenSpec.upto opcodeTextsSpec)) opcodeTextsUptoCard

/-- THE SECOND FORM's CARD OF 'scriptinglaw32.OpcodeFields'. -/
def opcodeFieldsUptoCard : Claim7 := { stood := { row := opcodeFieldsUptoRow, standIns := [], harness := (true, "2c431fd9b36289688fc0592d374ed1d005a99d4684fd908d1c2b72bf7fe132be"), looks := true }, kinds := [], alts := [], laidByText := true, laidKinds := [.data, .data, .data, .data, .sentinel, .sentinel, .listed, .data, .pinned], laidTests := true, laidLooks := .later }
def OpcodeFieldsUptoCardSaid : Prop := Claim7.holds Tryz.pinned (.plain (OpenSpec.upto opcodeFieldsSpec)) opcodeFieldsUptoCard
end Rows
end Go.Proofs.YtcdfefcpbaiolaaGreatDoor
