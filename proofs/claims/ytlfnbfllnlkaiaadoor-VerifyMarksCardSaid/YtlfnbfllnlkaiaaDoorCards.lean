/-
  DERIVED. GIVEN WITH THE SEED: THE CARDS: each row of YtlfnbfllnlkaiaaDoorRows.lean that lists a variable, with what it lists TIED to the program's text (the seventh form; the later family's looks); each row that meets fmt, with fmt's text TOLD by the authors' own Lean function (tested against real Go, not proved from fmt's source: count such statements apart). THE CARD IS WHAT COUNTS. Prove the row's statement (the work); the ties are given (YtlfnbfllnlkaiaaDoorTie.lean); close each card by the builder's one call (the guide's Derived/Test/ToyasCard.lean, 'card_holds'). Laid BY PROGRAM, IN A SANDBOX (cutbox-door.mjs). By AI agents, Wed Nov 11 2026. No macro, syntax, notation, axiom, sorry.
-/
import Derived.Test.YtlfnbfllnlkaiaaDoorRows
import GoSem.ClaimSeven
namespace Go.Proofs.YtlfnbfllnlkaiaaDoor
namespace Rows

/-- THE TIED CARD OF 'scriptinglaw36.VerifyWithin'. -/
def verifyWithinCard : Claim7 := { stood := { row := verifyWithinRow, standIns := [], harness := (true, "3ec5286278a703a1edd2888914adacdf114e4c90976e79711ab3fd0ddfce6e44"), looks := false }, kinds := [], alts := [], laidByText := true, laidKinds := [.listed, .data], laidTests := true, laidLooks := .later }
def VerifyWithinCardSaid : Prop := Claim7.holds Tryd.pinned (.plain (OpenSpec.ofChange verifyWithinSpec)) verifyWithinCard

/-- THE TIED CARD OF 'scriptinglaw36.VerifyMarks'. -/
def verifyMarksCard : Claim7 := { stood := { row := verifyMarksRow, standIns := [], harness := (true, "3ec5286278a703a1edd2888914adacdf114e4c90976e79711ab3fd0ddfce6e44"), looks := false }, kinds := [], alts := [], laidByText := true, laidKinds := [.listed, .data], laidTests := true, laidLooks := .later }
def VerifyMarksCardSaid : Prop := Claim7.holds Tryd.pinned (.plain (OpenSpec.ofChange verifyMarksSpec)) verifyMarksCard

/-- THE SECOND FORM's CARD OF 'scriptinglaw36.VerifyWithin'. -/
def verifyWithinUptoCard : Claim7 := { stood := { row := verifyWithinUptoRow, standIns := [], harness := (true, "3ec5286278a703a1edd2888914adacdf114e4c90976e79711ab3fd0ddfce6e44"), looks := false }, kinds := [], alts := [], laidByText := true, laidKinds := [.listed, .data], laidTests := true, laidLooks := .later }
def VerifyWithinUptoCardSaid : Prop := Claim7.holds Tryd.pinned (.plain (OpenSpec.upto verifyWithinSpec)) verifyWithinUptoCard

/-- THE SECOND FORM's CARD OF 'scriptinglaw36.VerifyMarks'. -/
def verifyMarksUptoCard : Claim7 := { stood := { row := verifyMarksUptoRow, standIns := [], harness := (true, "3ec5286278a703a1edd2888914adacdf114e4c90976e79711ab3fd0ddfce6e44"), looks := false }, kinds := [], alts := [], laidByText := true, laidKinds := [.listed, .data], laidTests := true, laidLooks := .later }
def VerifyMarksUptoCardSaid : Prop := Claim7.holds Tryd.pinned (.plain (OpenSpec.upto verifyMarksSpec)) verifyMarksUptoCard
end Rows
end Go.Proofs.YtlfnbfllnlkaiaaDoor
