/-
  DERIVED. GIVEN WITH THE SEED: THE CARDS: each row of YtoanghfeednogaaGreatDoorRows.lean that lists a variable, with what it lists TIED to the program's text (the seventh form; the later family's looks); each row that meets fmt, with fmt's text TOLD by the authors' own Lean function (tested against real Go, not proved from fmt's source: count such statements apart). THE CARD IS WHAT COUNTS. Prove the row's statement (the work); the ties are given (YtoanghfeednogaaGreatDoorTie.lean); close each card by the builder's one call (the guide's Derived/Test/ToyasCard.lean, 'card_holds'). Laid BY PROGRAM, IN A SANDBOX (cutbox-door.mjs). By AI agents, Wed Nov 11 2026. No macro, syntax, notation, axiom, sorry.
-/
import Derived.Test.YtoanghfeednogaaGreatDoorRows
import GoSem.ClaimSeven
namespace Go.Proofs.YtoanghfeednogaaGreatDoor
namespace Rows

/-- THE TIED CARD OF 'scriptinglaw41.PeepholeShrinks'. -/
def peepholeShrinksCard : Claim7 := { stood := { row := peepholeShrinksRow, standIns := [], harness := (true, "880422cec67c4b5041fd4a84c3c47ce501daaf9efb3cfe1f1c45377b2d18b284"), looks := false }, kinds := [], alts := [], laidByText := true, laidKinds := [.listed, .data], laidTests := true, laidLooks := .later }
def PeepholeShrinksCardSaid : Prop := Claim7.holds Tryz.pinned (.plain (OpenSpec.ofChange peepholeShrinksSpec)) peepholeShrinksCard

/-- THE SECOND FORM's CARD OF 'scriptinglaw41.PeepholeShrinks'. -/
def peepholeShrinksUptoCard : Claim7 := { stood := { row := peepholeShrinksUptoRow, standIns := [], harness := (true, "880422cec67c4b5041fd4a84c3c47ce501daaf9efb3cfe1f1c45377b2d18b284"), looks := false }, kinds := [], alts := [], laidByText := true, laidKinds := [.listed, .data], laidTests := true, laidLooks := .later }
def PeepholeShrinksUptoCardSaid : Prop := Claim7.holds Tryz.pinned (.plain (OpenSpec.upto peepholeShrinksSpec)) peepholeShrinksUptoCard
end Rows
end Go.Proofs.YtoanghfeednogaaGreatDoor
