/-
  DERIVED. GIVEN WITH THE SEED: THE CARDS: each row of YtkibfcnieamdoaaGreatDoorRows.lean that lists a variable, with what it lists TIED to the program's text (the seventh form; the later family's looks); each row that meets fmt, with fmt's text TOLD by the authors' own Lean function (tested against real Go, not proved from fmt's source: count such statements apart). THE CARD IS WHAT COUNTS. Prove the row's statement (the work); the ties are given (YtkibfcnieamdoaaGreatDoorTie.lean); close each card by the builder's one call (the guide's Derived/Test/ToyasCard.lean, 'card_holds'). Laid BY PROGRAM, IN A SANDBOX (cutbox-door.mjs). By AI agents, Wed Nov 11 2026. No macro, syntax, notation, axiom, sorry.
-/
import Derived.Test.YtkibfcnieamdoaaGreatDoorRows
import GoSem.ClaimSeven
namespace Go.Proofs.YtkibfcnieamdoaaGreatDoor
namespace Rows

/-- THE TIED CARD OF 'scriptinglaw41.PeepholeRanges'. -/
def peepholeRangesCard : Claim7 := { stood := { row := peepholeRangesRow, standIns := [], harness := (true, "4b7ce67360c6c547fed5037b147c19be6ec628b3ce39ea8a6eb6cdc7a6dd33f2"), looks := false }, kinds := [], alts := [], laidByText := true, laidKinds := [.listed, .data], laidTests := true, laidLooks := .later }
def PeepholeRangesCardSaid : Prop := Claim7.holds Tryz.pinned (.plain (OpenSpec.ofChange peepholeRangesSpec)) peepholeRangesCard

/-- THE SECOND FORM's CARD OF 'scriptinglaw41.PeepholeRanges'. -/
def peepholeRangesUptoCard : Claim7 := { stood := { row := peepholeRangesUptoRow, standIns := [], harness := (true, "4b7ce67360c6c547fed5037b147c19be6ec628b3ce39ea8a6eb6cdc7a6dd33f2"), looks := false }, kinds := [], alts := [], laidByText := true, laidKinds := [.listed, .data], laidTests := true, laidLooks := .later }
def PeepholeRangesUptoCardSaid : Prop := Claim7.holds Tryz.pinned (.plain (OpenSpec.upto peepholeRangesSpec)) peepholeRangesUptoCard
end Rows
end Go.Proofs.YtkibfcnieamdoaaGreatDoor
