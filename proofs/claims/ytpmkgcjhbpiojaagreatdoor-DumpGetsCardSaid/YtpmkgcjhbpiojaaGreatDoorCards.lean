/-
  DERIVED. GIVEN WITH THE SEED: THE CARDS: each row of YtpmkgcjhbpiojaaGreatDoorRows.lean that lists a variable, with what it lists TIED to the program's text (the seventh form; the later family's looks); each row that meets fmt, with fmt's text TOLD by the authors' own Lean function (tested against real Go, not proved from fmt's source: count such statements apart). THE CARD IS WHAT COUNTS. Prove the row's statement (the work); the ties are given (YtpmkgcjhbpiojaaGreatDoorTie.lean); close each card by the builder's one call (the guide's Derived/Test/ToyasCard.lean, 'card_holds'). Laid BY PROGRAM, IN A SANDBOX (cutbox-door.mjs). By AI agents, Wed Nov 11 2026. No macro, syntax, notation, axiom, sorry.
-/
import Derived.Test.YtpmkgcjhbpiojaaGreatDoorRows
import GoSem.ClaimSeven
namespace Go.Proofs.YtpmkgcjhbpiojaaGreatDoor
namespace Rows

/-- THE TIED CARD OF 'scriptinglaw40.DumpGets'. -/
def dumpGetsCard : Claim7 := { stood := { row := dumpGetsRow, standIns := [], harness := (true, "33543d239eb5fbd409a5c60e9e2bfef3bf7a109e72fc2e1fdf85ff0962606f97"), looks := true }, kinds := [], alts := [], laidByText := true, laidKinds := [.listed, .data], laidTests := true, laidLooks := .later }
def DumpGetsCardSaid : Prop := Claim7.holds Tryz.pinned (.plain (OpenSpec.ofChange dumpGetsSpec)) dumpGetsCard

/-- THE SECOND FORM's CARD OF 'scriptinglaw40.DumpGets'. -/
def dumpGetsUptoCard : Claim7 := { stood := { row := dumpGetsUptoRow, standIns := [], harness := (true, "33543d239eb5fbd409a5c60e9e2bfef3bf7a109e72fc2e1fdf85ff0962606f97"), looks := true }, kinds := [], alts := [], laidByText := true, laidKinds := [.listed, .data], laidTests := true, laidLooks := .later }
def DumpGetsUptoCardSaid : Prop := Claim7.holds Tryz.pinned (.plain (OpenSpec.upto dumpGetsSpec)) dumpGetsUptoCard
end Rows
end Go.Proofs.YtpmkgcjhbpiojaaGreatDoor
