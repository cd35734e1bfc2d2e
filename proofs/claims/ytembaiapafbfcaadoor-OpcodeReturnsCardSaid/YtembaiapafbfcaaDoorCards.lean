/-
  DERIVED. GIVEN WITH THE SEED: THE CARDS: each row of YtembaiapafbfcaaDoorRows.lean that lists a variable, with what it lists TIED to the program's text (the seventh form; the later family's looks); each row that meets fmt, with fmt's text TOLD by the authors' own Lean function (tested against real Go, not proved from fmt's source: count such statements apart). THE CARD IS WHAT COUNTS. Prove the row's statement (the work); the ties are given (YtembaiapafbfcaaDoorTie.lean); close each card by the builder's one call (the guide's Derived/Test/ToyasCard.lean, 'card_holds'). Laid BY PROGRAM, IN A SANDBOX (cutbox-door.mjs). By AI agents, Wed Nov 11 2026. No macro, syntax, notation, axiom, sorry.
-/
import Derived.Test.YtembaiapafbfcaaDoorRows
import GoSem.ClaimSeven
namespace Go.Proofs.YtembaiapafbfcaaDoor
namespace Rows

/-- THE TIED CARD OF 'scriptinglaw32.OpcodeReturns'. -/
def opcodeReturnsCard : Claim7 := { stood := { row := opcodeReturnsRow, standIns := [], harness := (true, "7546eccbe60915473fb37bfa2a2e1e92a6da4b60a1d2513de58a56c5e04712b8"), looks := true }, kinds := [], alts := [], laidByText := true, laidKinds := [.data, .data, .data, .data, .sentinel, .sentinel, .listed, .data, .pinned], laidTests := true, laidLooks := .later }
def OpcodeReturnsCardSaid : Prop := Claim7.holds Tryd.pinned (.plain (OpenSpec.ofChange opcodeReturnsSpec)) opcodeReturnsCard

/-- THE SECOND FORM's CARD OF 'scriptinglaw32.OpcodeReturns'. -/
def opcodeReturnsUptoCard : Claim7 := { stood := { row := opcodeReturnsUptoRow, standIns := [], harness := (true, "7546eccbe60915473fb37bfa2a2e1e92a6da4b60a1d2513de58a56c5e04712b8"), looks := true }, kinds := [], alts := [], laidByText := true, laidKinds := [.data, .data, .data, .data, .sentinel, .sentinel, .listed, .data, .pinned], laidTests := true, laidLooks := .later }
def OpcodeReturnsUptoCardSaid : Prop := Claim7.holds Tryd.pinned (.plain (OpenSpec.upto opcodeReturnsSpec)) opcodeReturnsUptoCard
end Rows
end Go.Proofs.YtembaiapafbfcaaDoor
