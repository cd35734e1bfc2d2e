/-
  DERIVED. GIVEN WITH THE SEED: THE CARDS: each row of YtcaaenddpjepiaaGreatDoorRows.lean that lists a variable, with what it lists TIED to the program's text (the seventh form; the later family's looks); each row that meets fmt, with fmt's text TOLD by the authors' own Lean function (tested against real Go, not proved from fmt's source: count such statements apart). THE CARD IS WHAT COUNTS. Prove the row's statement (the work); the ties are given (YtcaaenddpjepiaaGreatDoorTie.lean); close each card by the builder's one call (the guide's Derived/Test/ToyasCard.lean, 'card_holds'). Laid BY PROGRAM, IN A SANDBOX (cutbox-door.mjs). By AI agents, Wed Nov 11 2026. No macro, syntax, notation, axiom, sorry.
-/
import Derived.Test.YtcaaenddpjepiaaGreatDoorRows
import GoSem.ClaimSeven
namespace Go.Proofs.YtcaaenddpjepiaaGreatDoor
namespace Rows

/-- THE TIED CARD OF 'scriptinglaw41.PeepholeWhole'. -/
def peepholeWholeCard : Claim7 := { stood := { row := peepholeWholeRow, standIns := [], harness := (true, "b6caaaadfc62d4ecffad34043673460e0b79f38066a255d800e2024975bda5eb"), looks := false }, kinds := [], alts := [], laidByText := true, laidKinds := [.listed, .data], laidTests := true, laidLooks := .later }
def PeepholeWholeCardSaid : Prop := Claim7.holds Tryz.pinned (.plain (OpenSpec.ofChange peepholeWholeSpec)) peepholeWholeCard

/-- THE SECOND FORM's CARD OF 'scriptinglaw41.PeepholeWhole'. -/
def peepholeWholeUptoCard : Claim7 := { stood := { row := peepholeWholeUptoRow, standIns := [], harness := (true, "b6caaaadfc62d4ecffad34043673460e0b79f38066a255d800e2024975bda5eb"), looks := false }, kinds := [], alts := [], laidByText := true, laidKinds := [.listed, .data], laidTests := true, laidLooks := .later }
def PeepholeWholeUptoCardSaid : Prop := Claim7.holds Tryz.pinned (.plain (OpenSpec.upto peepholeWholeSpec)) peepholeWholeUptoCard
end Rows
end Go.Proofs.YtcaaenddpjepiaaGreatDoor
