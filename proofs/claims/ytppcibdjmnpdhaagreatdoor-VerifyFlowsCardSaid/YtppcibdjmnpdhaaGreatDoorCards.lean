/-
  DERIVED. GIVEN WITH THE SEED: THE CARDS: each row of YtppcibdjmnpdhaaGreatDoorRows.lean that lists a variable, with what it lists TIED to the program's text (the seventh form; the later family's looks); each row that meets fmt, with fmt's text TOLD by the authors' own Lean function (tested against real Go, not proved from fmt's source: count such statements apart). THE CARD IS WHAT COUNTS. Prove the row's statement (the work); the ties are given (YtppcibdjmnpdhaaGreatDoorTie.lean); close each card by the builder's one call (the guide's Derived/Test/ToyasCard.lean, 'card_holds'). Laid BY PROGRAM, IN A SANDBOX (cutbox-door.mjs). By AI agents, Wed Nov 11 2026. No macro, syntax, notation, axiom, sorry.
-/
import Derived.Test.YtppcibdjmnpdhaaGreatDoorRows
import GoSem.ClaimSeven
namespace Go.Proofs.YtppcibdjmnpdhaaGreatDoor
namespace Rows

/-- THE TIED CARD OF 'scriptinglaw36.VerifyParams'. -/
def verifyParamsCard : Claim7 := { stood := { row := verifyParamsRow, standIns := [], harness := (true, "ea7a3bd1e76f68060470c4ac82f5b68ae36905617084da40efa2ecc12a235aa9"), looks := false }, kinds := [], alts := [], laidByText := true, laidKinds := [.listed, .data], laidTests := true, laidLooks := .later }
def VerifyParamsCardSaid : Prop := Claim7.holds Tryz.pinned (.plain (OpenSpec.ofChange verifyParamsSpec)) verifyParamsCard

/-- THE TIED CARD OF 'scriptinglaw36.VerifyFlows'. -/
def verifyFlowsCard : Claim7 := { stood := { row := verifyFlowsRow, standIns := [], harness := (true, "ea7a3bd1e76f68060470c4ac82f5b68ae36905617084da40efa2ecc12a235aa9"), looks := false }, kinds := [], alts := [], laidByText := true, laidKinds := [.listed, .data], laidTests := true, laidLooks := .later }
def VerifyFlowsCardSaid : Prop := Claim7.holds Tryz.pinned (.plain (OpenSpec.ofChange verifyFlowsSpec)) verifyFlowsCard

/-- THE SECOND FORM's CARD OF 'scriptinglaw36.VerifyParams'. -/
def verifyParamsUptoCard : Claim7 := { stood := { row := verifyParamsUptoRow, standIns := [], harness := (true, "ea7a3bd1e76f68060470c4ac82f5b68ae36905617084da40efa2ecc12a235aa9"), looks := false }, kinds := [], alts := [], laidByText := true, laidKinds := [.listed, .data], laidTests := true, laidLooks := .later }
def VerifyParamsUptoCardSaid : Prop := Claim7.holds Tryz.pinned (.plain (OpenSpec.upto verifyParamsSpec)) verifyParamsUptoCard

/-- THE SECOND FORM's CARD OF 'scriptinglaw36.VerifyFlows'. -/
def verifyFlowsUptoCard : Claim7 := { stood := { row := verifyFlowsUptoRow, standIns := [], harness := (true, "ea7a3bd1e76f68060470c4ac82f5b68ae36905617084da40efa2ecc12a235aa9"), looks := false }, kinds := [], alts := [], laidByText := true, laidKinds := [.listed, .data], laidTests := true, laidLooks := .later }
def VerifyFlowsUptoCardSaid : Prop := Claim7.holds Tryz.pinned (.plain (OpenSpec.upto verifyFlowsSpec)) verifyFlowsUptoCard
end Rows
end Go.Proofs.YtppcibdjmnpdhaaGreatDoor
