/-
  DERIVED. GIVEN WITH THE SEED: THE CARDS: each row of YtjaamflmnefnkaaGreatDoorRows.lean that lists a variable, with what it lists TIED to the program's text (the seventh form; the later family's looks); each row that meets fmt, with fmt's text TOLD by the authors' own Lean function (tested against real Go, not proved from fmt's source: count such statements apart). THE CARD IS WHAT COUNTS. Prove the row's statement (the work); the ties are given (YtjaamflmnefnkaaGreatDoorTie.lean); close each card by the builder's one call (the guide's Derived/Test/ToyasCard.lean, 'card_holds'). Laid BY PROGRAM, IN A SANDBOX (cutbox-door.mjs). By AI agents, Wed Nov 11 2026. No macro, syntax, notation, axiom, sorry.
-/
import Derived.Test.YtjaamflmnefnkaaGreatDoorRows
import GoSem.ClaimSeven
namespace Go.Proofs.YtjaamflmnefnkaaGreatDoor
namespace Rows

/-- THE TIED CARD OF 'scriptinglaw40.DumpChanged'. -/
def dumpChangedCard : Claim7 := { stood := { row := dumpChangedRow, standIns := [], harness := (true, "49511d30cbe45126ab00dd424c9bb8adefef690cdd2a47c30413c729f1740acc"), looks := true }, kinds := [], alts := [], laidByText := true, laidKinds := [.listed, .data], laidTests := true, laidLooks := .later }
def DumpChangedCardSaid : Prop := Claim7.holds Tryz.pinned (.plain (OpenSpec.ofChange dumpChangedSpec)) dumpChangedCard

/-- THE SECOND FORM's CARD OF 'scriptinglaw40.DumpChanged'. -/
def dumpChangedUptoCard : Claim7 := { stood := { row := dumpChangedUptoRow, standIns := [], harness := (true, "49511d30cbe45126ab00dd424c9bb8adefef690cdd2a47c30413c729f1740acc"), looks := true }, kinds := [], alts := [], laidByText := true, laidKinds := [.listed, .data], laidTests := true, laidLooks := .later }
def DumpChangedUptoCardSaid : Prop := Claim7.holds Tryz.pinned (.plain (OpenSpec.upto dumpChangedSpec)) dumpChangedUptoCard
end Rows
end Go.Proofs.YtjaamflmnefnkaaGreatDoor
