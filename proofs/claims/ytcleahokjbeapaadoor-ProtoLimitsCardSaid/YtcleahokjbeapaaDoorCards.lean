/-
  DERIVED. GIVEN WITH THE SEED: THE CARDS: each row of YtcleahokjbeapaaDoorRows.lean that lists a variable, with what it lists TIED to the program's text (the seventh form; the later family's looks); each row that meets fmt, with fmt's text TOLD by the authors' own Lean function (tested against real Go, not proved from fmt's source: count such statements apart). THE CARD IS WHAT COUNTS. Prove the row's statement (the work); the ties are given (YtcleahokjbeapaaDoorTie.lean); close each card by the builder's one call (the guide's Derived/Test/ToyasCard.lean, 'card_holds'). Laid BY PROGRAM, IN A SANDBOX (cutbox-door.mjs). By AI agents, Wed Nov 11 2026. No macro, syntax, notation, axiom, sorry.
-/
import Derived.Test.YtcleahokjbeapaaDoorRows
import GoSem.ClaimSeven
namespace Go.Proofs.YtcleahokjbeapaaDoor
namespace Rows

/-- THE TIED CARD OF 'scriptinglaw33.ProtoLimits'. -/
def protoLimitsCard : Claim7 := { stood := { row := protoLimitsRow, standIns := [], harness := (true, "93efd950c9960a019d95f43226df4c8bfc8d2d979780383f194479a6281f2742"), looks := false }, kinds := [], alts := [], laidByText := true, laidKinds := [.listed, .data], laidTests := true, laidLooks := .later }
def ProtoLimitsCardSaid : Prop := Claim7.holds Tryd.pinned (.plain (OpenSpec.ofChange protoLimitsSpec)) protoLimitsCard

/-- THE SECOND FORM's CARD OF 'scriptinglaw33.ProtoLimits'. -/
def protoLimitsUptoCard : Claim7 := { stood := { row := protoLimitsUptoRow, standIns := [], harness := (true, "93efd950c9960a019d95f43226df4c8bfc8d2d979780383f194479a6281f2742"), looks := false }, kinds := [], alts := [], laidByText := true, laidKinds := [.listed, .data], laidTests := true, laidLooks := .later }
def ProtoLimitsUptoCardSaid : Prop := Claim7.holds Tryd.pinned (.plain (OpenSpec.upto protoLimitsSpec)) protoLimitsUptoCard
end Rows
end Go.Proofs.YtcleahokjbeapaaDoor
