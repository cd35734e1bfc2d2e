/-
  DERIVED. GIVEN WITH THE SEED: THE CARDS: each row of YtfmgpfmhbienhaaDoorRows.lean that lists a variable, with what it lists TIED to the program's text (the seventh form; the later family's looks); each row that meets fmt, with fmt's text TOLD by the authors' own Lean function (tested against real Go, not proved from fmt's source: count such statements apart). THE CARD IS WHAT COUNTS. Prove the row's statement (the work); the ties are given (YtfmgpfmhbienhaaDoorTie.lean); close each card by the builder's one call (the guide's Derived/Test/ToyasCard.lean, 'card_holds'). Laid BY PROGRAM, IN A SANDBOX (cutbox-door.mjs). By AI agents, Wed Nov 11 2026. No macro, syntax, notation, axiom, sorry.
-/
import Derived.Test.YtfmgpfmhbienhaaDoorRows
import GoSem.ClaimSeven
namespace Go.Proofs.YtfmgpfmhbienhaaDoor
namespace Rows

/-- THE TIED CARD OF 'scriptinglaw40.DumpSums'. -/
def dumpSumsCard : Claim7 := { stood := { row := dumpSumsRow, standIns := [], harness := (true, "828cd48e3934811adfed46d8c28d073e3f493b10a437958515827abb5ba3c43b"), looks := true }, kinds := [], alts := [], laidByText := true, laidKinds := [.listed, .data], laidTests := true, laidLooks := .later }
def DumpSumsCardSaid : Prop := Claim7.holds Tryd.pinned (.plain (OpenSpec.ofChange dumpSumsSpec)) dumpSumsCard

/-- THE SECOND FORM's CARD OF 'scriptinglaw40.DumpSums'. -/
def dumpSumsUptoCard : Claim7 := { stood := { row := dumpSumsUptoRow, standIns := [], harness := (true, "828cd48e3934811adfed46d8c28d073e3f493b10a437958515827abb5ba3c43b"), looks := true }, kinds := [], alts := [], laidByText := true, laidKinds := [.listed, .data], laidTests := true, laidLooks := .later }
def DumpSumsUptoCardSaid : Prop := Claim7.holds Tryd.pinned (.plain (OpenSpec.upto dumpSumsSpec)) dumpSumsUptoCard
end Rows
end Go.Proofs.YtfmgpfmhbienhaaDoor
