/-
  DERIVED. GIVEN WITH THE SEED: THE CARDS: each row of YtmbidaochjjcfaaGreatDoorRows.lean that lists a variable, with what it lists TIED to the program's text (the seventh form; the later family's looks); each row that meets fmt, with fmt's text TOLD by the authors' own Lean function (tested against real Go, not proved from fmt's source: count such statements apart). THE CARD IS WHAT COUNTS. Prove the row's statement (the work); the ties are given (YtmbidaochjjcfaaGreatDoorTie.lean); close each card by the builder's one call (the guide's Derived/Test/ToyasCard.lean, 'card_holds'). Laid BY PROGRAM, IN A SANDBOX (cutbox-door.mjs). By AI agents, Wed Nov 11 2026. No macro, syntax, notation, axiom, sorry.
-/
import Derived.Test.YtmbidaochjjcfaaGreatDoorRows
import GoSem.ClaimSeven
namespace Go.Proofs.YtmbidaochjjcfaaGreatDoor
namespace Rows

/-- THE TIED CARD OF 'scriptinglaw33.ProtoCheck'. -/
def protoCheckCard : Claim7 := { stood := { row := protoCheckRow, standIns := [], harness := (true, "45f7c68ea718c3f6a8ae0155cdc6bc24a32ee5d116224fa3146c9b128d30db93"), looks := false }, kinds := [], alts := [], laidByText := true, laidKinds := [.listed, .data], laidTests := true, laidLooks := .later }
def ProtoCheckCardSaid : Prop := Claim7.holds Tryz.pinned (.plain (OpenSpec.ofChange protoCheckSpec)) protoCheckCard

/-- THE SECOND FORM's CARD OF 'scriptinglaw33.ProtoCheck'. -/
def protoCheckUptoCard : Claim7 := { stood := { row := protoCheckUptoRow, standIns := [], harness := (true, "45f7c68ea718c3f6a8ae0155cdc6bc24a32ee5d116224fa3146c9b128d30db93"), looks := false }, kinds := [], alts := [], laidByText := true, laidKinds := [.listed, .data], laidTests := true, laidLooks := .later }
def ProtoCheckUptoCardSaid : Prop := Claim7.holds Tryz.pinned (.plain (OpenSpec.upto protoCheckSpec)) protoCheckUptoCard
end Rows
end Go.Proofs.YtmbidaochjjcfaaGreatDoor
