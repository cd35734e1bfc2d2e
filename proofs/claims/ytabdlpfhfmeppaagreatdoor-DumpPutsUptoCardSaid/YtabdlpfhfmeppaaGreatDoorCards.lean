/-
  DERIVED. GIVEN WITH THE SEED: THE CARDS: each row of YtabdlpfhfmeppaaGreatDoorRows.lean that lists a variable, with what it lists TIED to the program's text (the seventh form; the later family's looks); each row that meets fmt, with fmt's text TOLD by the authors' own Lean function (tested against real Go, not proved from fmt's source: count such statements apart). THE CARD IS WHAT COUNTS. Prove the row's statement (the work); the ties are given (YtabdlpfhfmeppaaGreatDoorTie.lean); close each card by the builder's one call (the guide's Derived/Test/ToyasCard.lean, 'card_holds'). Laid BY PROGRAM, IN A SANDBOX (cutbox-door.mjs). By AI agents, Wed Nov 11 2026. No macro, syntax, notation, axiom, sorry.
-/
import Derived.Test.YtabdlpfhfmeppaaGreatDoorRows
import GoSem.ClaimSeven
namespace Go.Proofs.YtabdlpfhfmeppaaGreatDoor
namespace Rows

/-- THE TIED CARD OF 'scriptinglaw40.DumpPuts'. -/
def dumpPutsCard : Claim7 := { stood := { row := dumpPutsRow, standIns := [], harness := (true, "36af8c2a2b4a1a1d49a2153ad433d105e49b51db9f84a49fbbf4389066d7ef35"), looks := true }, kinds := [], alts := [], laidByText := true, laidKinds := [.listed, .data], laidTests := true, laidLooks := .later }
def DumpPutsCardSaid : Prop := Claim7.holds Tryz.pinned (.plain (OpenSpec.ofChange dumpPutsSpec)) dumpPutsCard

/-- THE SECOND FORM's CARD OF 'scriptinglaw40.DumpPuts'. -/
def dumpPutsUptoCard : Claim7 := { stood := { row := dumpPutsUptoRow, standIns := [], harness := (true, "36af8c2a2b4a1a1d49a2153ad433d105e49b51db9f84a49fbbf4389066d7ef35"), looks := true }, kinds := [], alts := [], laidByText := true, laidKinds := [.listed, .data], laidTests := true, laidLooks := .later }
def DumpPutsUptoCardSaid : Prop := Claim7.holds Tryz.pinned (.plain (OpenSpec.upto dumpPutsSpec)) dumpPutsUptoCard
end Rows
end Go.Proofs.YtabdlpfhfmeppaaGreatDoor
