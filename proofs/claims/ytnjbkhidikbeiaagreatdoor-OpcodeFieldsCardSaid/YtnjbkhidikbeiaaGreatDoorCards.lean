/-
  DERIVED. GIVEN WITH THE SEED: THE CARDS: each row of YtnjbkhidikbeiaaGreatDoorRows.lean that lists a variable, with what it lists TIED to the program's text (the seventh form; the later family's looks); each row that meets fmt, with fmt's text TOLD by the authors' own Lean function (tested against real Go, not proved from fmt's source: count such statements apart). THE CARD IS WHAT COUNTS. Prove the row's statement (the work); the ties are given (YtnjbkhidikbeiaaGreatDoorTie.lean); close each card by the builder's one call (the guide's Derived/Test/ToyasCard.lean, 'card_holds'). Laid BY PROGRAM, IN A SANDBOX (cutbox-door.mjs). By AI agents, Wed Nov 11 2026. No macro, syntax, notation, axiom, sorry.
-/
import Derived.Test.YtnjbkhidikbeiaaGreatDoorRows
import GoSem.ClaimSeven
namespace Go.Proofs.YtnjbkhidikbeiaaGreatDoor
namespace Rows

/-- THE TIED CARD OF 'scriptinglaw32.OpcodeFields'. -/
def opcodeFieldsCard : Claim7 := { stood := { row := opcodeFieldsRow, standIns := [], harness := (true, "4c0242c6ece6c7373fc49a902eb1ae3846b7d12507feb8c492a1751fd5e167db"), looks := true }, kinds := [], alts := [], laidByText := true, laidKinds := [.data, .data, .data, .data, .sentinel, .sentinel, .listed, .data, .pinned], laidTests := true, laidLooks := .later }
def OpcodeFieldsCardSaid : Prop := Claim7.holds Tryz.pinned (.plain (OpenSpec.ofChange opcodeFieldsSpec)) opcodeFieldsCard

/-- THE SECOND FORM's CARD OF 'scriptinglaw32.OpcodeFields'. -/
def opcodeFieldsUptoCard : Claim7 := { stood := { row := opcodeFieldsUptoRow, standIns := [], harness := (true, "4c0242c6ece6c7373fc49a902eb1ae3846b7d12507feb8c492a1751fd5e167db"), looks := true }, kinds := [], alts := [], laidByText := true, laidKinds := [.data, .data, .data, .data, .sentinel, .sentinel, .listed, .data, .pinned], laidTests := true, laidLooks := .later }
def OpcodeFieldsUptoCardSaid : Prop := Claim7.holds Tryz.pinned (.plain (OpenSpec.upto opcodeFieldsSpec)) opcodeFieldsUptoCard
end Rows
end Go.Proofs.YtnjbkhidikbeiaaGreatDoor
