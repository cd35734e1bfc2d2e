/-
  DERIVED. GIVEN WITH THE SEED: THE CARDS: each row of YtkjcokmbjdafnaaDoorRows.lean that lists a variable, with what it lists TIED to the program's text (the seventh form; the later family's looks); each row that meets fmt, with fmt's text TOLD by the authors' own Lean function (tested against real Go, not proved from fmt's source: count such statements apart). THE CARD IS WHAT COUNTS. Prove the row's statement (the work); the ties are given (YtkjcokmbjdafnaaDoorTie.lean); close each card by the builder's one call (the guide's Derived/Test/ToyasCard.lean, 'card_holds'). Laid BY PROGRAM, IN A SANDBOX (cutbox-door.mjs). By AI agents, Wed Nov 11 2026. No macro, syntax, notation, axiom, sorry.
-/
import Derived.Test.YtkjcokmbjdafnaaDoorRows
import GoSem.ClaimSeven
namespace Go.Proofs.YtkjcokmbjdafnaaDoor
namespace Rows

/-- THE TIED CARD OF 'scriptinglaw40.DumpDistinct'. -/
def dumpDistinctCard : Claim7 := { stood := { row := dumpDistinctRow, standIns := [], harness := (true, "64f31173089cb28c4c300b6bacb33ff22b68c2b3544acec685516f8db606f279"), looks := true }, kinds := [], alts := [], laidByText := true, laidKinds := [.listed, .data], laidTests := true, laidLooks := .later }
def DumpDistinctCardSaid : Prop := Claim7.holds Tryd.pinned (.plain (OpenSpec.ofChange dumpDistinctSpec)) dumpDistinctCard

/-- THE SECOND FORM's CARD OF 'scriptinglaw40.DumpDistinct'. -/
def dumpDistinctUptoCard : Claim7 := { stood := { row := dumpDistinctUptoRow, standIns := [], harness := (true, "64f31173089cb28c4c300b6bacb33ff22b68c2b3544acec685516f8db606f279"), looks := true }, kinds := [], alts := [], laidByText := true, laidKinds := [.listed, .data], laidTests := true, laidLooks := .later }
def DumpDistinctUptoCardSaid : Prop := Claim7.holds Tryd.pinned (.plain (OpenSpec.upto dumpDistinctSpec)) dumpDistinctUptoCard
end Rows
end Go.Proofs.YtkjcokmbjdafnaaDoor
