/-
  DERIVED. GIVEN WITH THE SEED: THE CARDS: each row of YtkcehagdbecolaaGreatDoorRows.lean that lists a variable, with what it lists TIED to the program's text (the seventh form; the later family's looks); each row that meets fmt, with fmt's text TOLD by the authors' own Lean function (tested against real Go, not proved from fmt's source: count such statements apart). THE CARD IS WHAT COUNTS. Prove the row's statement (the work); the ties are given (YtkcehagdbecolaaGreatDoorTie.lean); close each card by the builder's one call (the guide's Derived/Test/ToyasCard.lean, 'card_holds'). Laid BY PROGRAM, IN A SANDBOX (cutbox-door.mjs). By AI agents, Wed Nov 11 2026. No macro, syntax, notation, axiom, sorry.
-/
import Derived.Test.YtkcehagdbecolaaGreatDoorRows
import GoSem.ClaimSeven
namespace Go.Proofs.YtkcehagdbecolaaGreatDoor
namespace Rows

/-- THE TIED CARD OF 'scriptinglaw36.VerifyJumps'. -/
def verifyJumpsCard : Claim7 := { stood := { row := verifyJumpsRow, standIns := [], harness := (true, "0cdc1679259c2c2f84d0127ba44f8d61c75810b92fbf2f4657aa0350afb732df"), looks := false }, kinds := [], alts := [], laidByText := true, laidKinds := [.listed, .data], laidTests := true, laidLooks := .later }
def VerifyJumpsCardSaid : Prop := Claim7.holds Tryz.pinned (.plain (OpenSpec.ofChange verifyJumpsSpec)) verifyJumpsCard

/-- THE TIED CARD OF 'scriptinglaw36.VerifyReads'. -/
def verifyReadsCard : Claim7 := { stood := { row := verifyReadsRow, standIns := [], harness := (true, "0cdc1679259c2c2f84d0127ba44f8d61c75810b92fbf2f4657aa0350afb732df"), looks := false }, kinds := [], alts := [], laidByText := true, laidKinds := [.listed, .data], laidTests := true, laidLooks := .later }
def VerifyReadsCardSaid : Prop := Claim7.holds Tryz.pinned (.plain (OpenSpec.ofChange verifyReadsSpec)) verifyReadsCard

/-- THE SECOND FORM's CARD OF 'scriptinglaw36.VerifyJumps'. -/
def verifyJumpsUptoCard : Claim7 := { stood := { row := verifyJumpsUptoRow, standIns := [], harness := (true, "0cdc1679259c2c2f84d0127ba44f8d61c75810b92fbf2f4657aa0350afb732df"), looks := false }, kinds := [], alts := [], laidByText := true, laidKinds := [.listed, .data], laidTests := true, laidLooks := .later }
def VerifyJumpsUptoCardSaid : Prop := Claim7.holds Tryz.pinned (.plain (OpenSpec.upto verifyJumpsSpec)) verifyJumpsUptoCard

/-- THE SECOND FORM's CARD OF 'scriptinglaw36.VerifyReads'. -/
def verifyReadsUptoCard : Claim7 := { stood := { row := verifyReadsUptoRow, standIns := [], harness := (true, "0cdc1679259c2c2f84d0127ba44f8d61c75810b92fbf2f4657aa0350afb732df"), looks := false }, kinds := [], alts := [], laidByText := true, laidKinds := [.listed, .data], laidTests := true, laidLooks := .later }
def VerifyReadsUptoCardSaid : Prop := Claim7.holds Tryz.pinned (.plain (OpenSpec.upto verifyReadsSpec)) verifyReadsUptoCard
end Rows
end Go.Proofs.YtkcehagdbecolaaGreatDoor
