/-
  DERIVED. GIVEN WITH THE SEED: THE CARDS: each row of YtfkfphpnijkdlaaGreatDoorRows.lean that lists a variable, with what it lists TIED to the program's text (the seventh form; the later family's looks); each row that meets fmt, with fmt's text TOLD by the authors' own Lean function (tested against real Go, not proved from fmt's source: count such statements apart). THE CARD IS WHAT COUNTS. Prove the row's statement (the work); the ties are given (YtfkfphpnijkdlaaGreatDoorTie.lean); close each card by the builder's one call (the guide's Derived/Test/ToyasCard.lean, 'card_holds'). Laid BY PROGRAM, IN A SANDBOX (cutbox-door.mjs). By AI agents, Wed Nov 11 2026. No macro, syntax, notation, axiom, sorry.
-/
import Derived.Test.YtfkfphpnijkdlaaGreatDoorRows
import GoSem.ClaimSeven
namespace Go.Proofs.YtfkfphpnijkdlaaGreatDoor
namespace Rows

/-- THE TIED CARD OF 'scriptinglaw41.PeepholeWalks'. -/
def peepholeWalksCard : Claim7 := { stood := { row := peepholeWalksRow, standIns := [], harness := (true, "c69d272a4b4427aaf4099ce09169ee2bf5bff7d65816f273112fe9ca724b7e2d"), looks := false }, kinds := [], alts := [], laidByText := true, laidKinds := [.listed, .data], laidTests := true, laidLooks := .later }
def PeepholeWalksCardSaid : Prop := Claim7.holds Tryz.pinned (.plain (OpenSpec.ofChange peepholeWalksSpec)) peepholeWalksCard

/-- THE SECOND FORM's CARD OF 'scriptinglaw41.PeepholeWalks'. -/
def peepholeWalksUptoCard : Claim7 := { stood := { row := peepholeWalksUptoRow, standIns := [], harness := (true, "c69d272a4b4427aaf4099ce09169ee2bf5bff7d65816f273112fe9ca724b7e2d"), looks := false }, kinds := [], alts := [], laidByText := true, laidKinds := [.listed, .data], laidTests := true, laidLooks := .later }
def PeepholeWalksUptoCardSaid : Prop := Claim7.holds Tryz.pinned (.plain (OpenSpec.upto peepholeWalksSpec)) peepholeWalksUptoCard
end Rows
end Go.Proofs.YtfkfphpnijkdlaaGreatDoor
