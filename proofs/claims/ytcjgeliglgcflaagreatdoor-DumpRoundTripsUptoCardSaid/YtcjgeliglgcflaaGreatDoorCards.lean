/-
  DERIVED. GIVEN WITH THE SEED: THE CARDS: each row of YtcjgeliglgcflaaGreatDoorRows.lean that lists a variable, with what it lists TIED to the program's text (the seventh form; the later family's looks); each row that meets fmt, with fmt's text TOLD by the authors' own Lean function (tested against real Go, not proved from fmt's source: count such statements apart). THE CARD IS WHAT COUNTS. Prove the row's statement (the work); the ties are given (YtcjgeliglgcflaaGreatDoorTie.lean); close each card by the builder's one call (the guide's Derived/Test/ToyasCard.lean, 'card_holds'). Laid BY PROGRAM, IN A SANDBOX (cutbox-door.mjs). By AI agents, Wed Nov 11 2026. No macro, syntax, notation, axiom, sorry.
-/
import Derived.Test.YtcjgeliglgcflaaGreatDoorRows
import GoSem.ClaimSeven
namespace Go.Proofs.YtcjgeliglgcflaaGreatDoor
namespace Rows

/-- THE TIED CARD OF 'scriptinglaw40.DumpRoundTrips'. -/
def dumpRoundTripsCard : Claim7 := { stood := { row := dumpRoundTripsRow, standIns := [], harness := (true, "49b533781a6ff35fe56d4f5a8f3624cdb41b5527b83590ca9e0ee7987df0cccb"), looks := true }, kinds := [], alts := [], laidByText := true, laidKinds := [.data, .data, .data, .listed, .data], laidTests := true, laidLooks := .later }
def DumpRoundTripsCardSaid : Prop := Claim7.holds Tryz.pinned (.plain (OpenSpec.ofChange dumpRoundTripsSpec)) dumpRoundTripsCard

/-- THE SECOND FORM's CARD OF 'scriptinglaw40.DumpRoundTrips'. -/
def dumpRoundTripsUptoCard : Claim7 := { stood := { row := dumpRoundTripsUptoRow, standIns := [], harness := (true, "49b533781a6ff35fe56d4f5a8f3624cdb41b5527b83590ca9e0ee7987df0cccb"), looks := true }, kinds := [], alts := [], laidByText := true, laidKinds := [.data, .data, .data, .listed, .data], laidTests := true, laidLooks := .later }
def DumpRoundTripsUptoCardSaid : Prop := Claim7.holds Tryz.pinned (.plain (OpenSpec.upto dumpRoundTripsSpec)) dumpRoundTripsUptoCard
end Rows
end Go.Proofs.YtcjgeliglgcflaaGreatDoor
