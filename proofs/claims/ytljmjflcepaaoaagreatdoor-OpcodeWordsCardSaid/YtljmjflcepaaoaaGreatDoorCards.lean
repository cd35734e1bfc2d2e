/-
  DERIVED. GIVEN WITH THE SEED: THE CARDS: each row of YtljmjflcepaaoaaGreatDoorRows.lean that lists a variable, with what it lists TIED to the program's text (the seventh form; the later family's looks); each row that meets fmt, with fmt's text TOLD by the authors' own Lean function (tested against real Go, not proved from fmt's source: count such statements apart). THE CARD IS WHAT COUNTS. Prove the row's statement (the work); the ties are given (YtljmjflcepaaoaaGreatDoorTie.lean); close each card by the builder's one call (the guide's Derived/Test/ToyasCard.lean, 'card_holds'). Laid BY PROGRAM, IN A SANDBOX (cutbox-door.mjs). By AI agents, Wed Nov 11 2026. No macro, syntax, notation, axiom, sorry.
-/
import Derived.Test.YtljmjflcepaaoaaGreatDoorRows
import GoSem.ClaimSeven
namespace Go.Proofs.YtljmjflcepaaoaaGreatDoor
namespace Rows

/-- THE TIED CARD OF 'scriptinglaw32.OpcodeRegisters'. -/
def opcodeRegistersCard : Claim7 := { stood := { row := opcodeRegistersRow, standIns := [], harness := (true, "b2c6c04f809afd622c599c2d6f35150b74c53fd9135b1cbf2981758d4b56693a"), looks := true }, kinds := [], alts := [], laidByText := true, laidKinds := [.data, .data, .data, .data, .sentinel, .sentinel, .listed, .data, .pinned], laidTests := true, laidLooks := .later }
def OpcodeRegistersCardSaid : Prop := Claim7.holds Tryz.pinned (.plain (OpenSpec.ofChange opcodeRegistersSpec)) opcodeRegistersCard

/-- THE TIED CARD OF 'scriptinglaw32.OpcodeWords'. -/
def opcodeWordsCard : Claim7 := { stood := { row := opcodeWordsRow, standIns := [], harness := (true, "b2c6c04f809afd622c599c2d6f35150b74c53fd9135b1cbf2981758d4b56693a"), looks := true }, kinds := [], alts := [], laidByText := true, laidKinds := [.data, .data, .data, .data, .sentinel, .sentinel, .listed, .data, .pinned], laidTests := true, laidLooks := .later }
def OpcodeWordsCardSaid : Prop := Claim7.holds Tryz.pinned (.plain (OpenSpec.ofChange opcodeWordsSpec)) opcodeWordsCard

/-- THE SECOND FORM's CARD OF 'scriptinglaw32.OpcodeRegisters'. -/
def opcodeRegistersUptoCard : Claim7 := { stood := { row := opcodeRegistersUptoRow, standIns := [], harness := (true, "b2c6c04f809afd622c599c2d6f35150b74c53fd9135b1cbf2981758d4b56693a"), looks := true }, kinds := [], alts := [], laidByText := true, laidKinds := [.data, .data, .data, .data, .sentinel, .sentinel, .listed, .data, .pinned], laidTests := true, laidLooks := .later }
def OpcodeRegistersUptoCardSaid : Prop := Claim7.holds Tryz.pinned (.plain (OpenSpec.upto opcodeRegistersSpec)) opcodeRegistersUptoCard

/-- THE SECOND FORM's CARD OF 'scriptinglaw32.OpcodeWords'. -/
def opcodeWordsUptoCard : Claim7 := { stood := { row := opcodeWordsUptoRow, standIns := [], harness := (true, "b2c6c04f809afd622c599c2d6f35150b74c53fd9135b1cbf2981758d4b56693a"), looks := true }, kinds := [], alts := [], laidByText := true, laidKinds := [.data, .data, .data, .data, .sentinel, .sentinel, .listed, .data, .pinned], laidTests := true, laidLooks := .later }
def OpcodeWordsUptoCardSaid : Prop := Claim7.holds Tryz.pinned (.plain (OpenSpec.upto opcodeWordsSpec)) opcodeWordsUptoCard
end Rows
end Go.Proofs.YtljmjflcepaaoaaGreatDoor
