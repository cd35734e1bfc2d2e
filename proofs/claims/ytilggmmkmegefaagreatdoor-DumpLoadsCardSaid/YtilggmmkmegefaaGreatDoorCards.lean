/-
  DERIVED. GIVEN WITH THE SEED: THE CARDS: each row of YtilggmmkmegefaaGreatDoorRows.lean that lists a variable, with what it lists TIED to the program's text (the seventh form; the later family's looks); each row that meets fmt, with fmt's text TOLD by the authors' own Lean function (tested against real Go, not proved from fmt's source: count such statements apart). THE CARD IS WHAT COUNTS. Prove the row's statement (the work); the ties are given (YtilggmmkmegefaaGreatDoorTie.lean); close each card by the builder's one call (the guide's Derived/Test/ToyasCard.lean, 'card_holds'). Laid BY PROGRAM, IN A SANDBOX (cutbox-door.mjs). By AI agents, Wed Nov 11 2026. No macro, syntax, notation, axiom, sorry.
-/
import Derived.Test.YtilggmmkmegefaaGreatDoorRows
import GoSem.ClaimSeven
namespace Go.Proofs.YtilggmmkmegefaaGreatDoor
namespace Rows

/-- THE TIED CARD OF 'scriptinglaw40.DumpLoads'. -/
def dumpLoadsCard : Claim7 := { stood := { row := dumpLoadsRow, standIns := [], harness := (true, "820698d5bdf64ed008de312b03ed444bf3954e40add9064ed32cfa8609b007b3"), looks := true }, kinds := [], alts := [], laidByText := true, laidKinds := [.listed, .data], laidTests := true, laidLooks := .later }
def DumpLoadsCardSaid : Prop := Claim7.holds Tryz.pinned (.plain (OpenSpec.ofChange dumpLoadsSpec)) dumpLoadsCard

/-- THE SECOND FORM's CARD OF 'scriptinglaw40.DumpLoads'. -/
def dumpLoadsUptoCard : Claim7 := { stood := { row := dumpLoadsUptoRow, standIns := [], harness := (true, "820698d5bdf64ed008de312b03ed444bf3954e40add9064ed32cfa8609b007b3"), looks := true }, kinds := [], alts := [], laidByText := true, laidKinds := [.listed, .data], laidTests := true, laidLooks := .later }
def DumpLoadsUptoCardSaid : Prop := Claim7.holds Tryz.pinned (.plain (OpenSpec.upto dumpLoadsSpec)) dumpLoadsUptoCard
end Rows
end Go.Proofs.YtilggmmkmegefaaGreatDoor
