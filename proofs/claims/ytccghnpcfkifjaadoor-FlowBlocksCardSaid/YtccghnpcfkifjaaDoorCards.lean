/-
  DERIVED. GIVEN WITH THE SEED: THE CARDS: each row of YtccghnpcfkifjaaDoorRows.lean that lists a variable, with what it lists TIED to the program's text (the seventh form; the later family's looks); each row that meets fmt, with fmt's text TOLD by the authors' own Lean function (tested against real Go, not proved from fmt's source: count such statements apart). THE CARD IS WHAT COUNTS. Prove the row's statement (the work); the ties are given (YtccghnpcfkifjaaDoorTie.lean); close each card by the builder's one call (the guide's Derived/Test/ToyasCard.lean, 'card_holds'). Laid BY PROGRAM, IN A SANDBOX (cutbox-door.mjs). By AI agents, Wed Nov 11 2026. No macro, syntax, notation, axiom, sorry.
-/
import Derived.Test.YtccghnpcfkifjaaDoorRows
import GoSem.ClaimSeven
namespace Go.Proofs.YtccghnpcfkifjaaDoor
namespace Rows

/-- THE TIED CARD OF 'scriptinglaw35.FlowSteps'. -/
def flowStepsCard : Claim7 := { stood := { row := flowStepsRow, standIns := [], harness := (true, "b2d12520d8fa61bc61fb9b3b92b292bac1dc11a9cc73b291486d975d41d8a545"), looks := false }, kinds := [], alts := [], laidByText := true, laidKinds := [.listed, .data], laidTests := true, laidLooks := .later }
def FlowStepsCardSaid : Prop := Claim7.holds Tryd.pinned (.plain (OpenSpec.ofChange flowStepsSpec)) flowStepsCard

/-- THE TIED CARD OF 'scriptinglaw35.FlowBlocks'. -/
def flowBlocksCard : Claim7 := { stood := { row := flowBlocksRow, standIns := [], harness := (true, "b2d12520d8fa61bc61fb9b3b92b292bac1dc11a9cc73b291486d975d41d8a545"), looks := false }, kinds := [], alts := [], laidByText := true, laidKinds := [.listed, .data], laidTests := true, laidLooks := .later }
def FlowBlocksCardSaid : Prop := Claim7.holds Tryd.pinned (.plain (OpenSpec.ofChange flowBlocksSpec)) flowBlocksCard

/-- THE TIED CARD OF 'scriptinglaw35.FlowLives'. -/
def flowLivesCard : Claim7 := { stood := { row := flowLivesRow, standIns := [], harness := (true, "b2d12520d8fa61bc61fb9b3b92b292bac1dc11a9cc73b291486d975d41d8a545"), looks := false }, kinds := [], alts := [], laidByText := true, laidKinds := [.listed, .data], laidTests := true, laidLooks := .later }
def FlowLivesCardSaid : Prop := Claim7.holds Tryd.pinned (.plain (OpenSpec.ofChange flowLivesSpec)) flowLivesCard

/-- THE TIED CARD OF 'scriptinglaw35.FlowCovers'. -/
def flowCoversCard : Claim7 := { stood := { row := flowCoversRow, standIns := [], harness := (true, "b2d12520d8fa61bc61fb9b3b92b292bac1dc11a9cc73b291486d975d41d8a545"), looks := false }, kinds := [], alts := [], laidByText := true, laidKinds := [.listed, .data], laidTests := true, laidLooks := .later }
def FlowCoversCardSaid : Prop := Claim7.holds Tryd.pinned (.plain (OpenSpec.ofChange flowCoversSpec)) flowCoversCard

/-- THE TIED CARD OF 'scriptinglaw35.FlowWalks'. -/
def flowWalksCard : Claim7 := { stood := { row := flowWalksRow, standIns := [], harness := (true, "b2d12520d8fa61bc61fb9b3b92b292bac1dc11a9cc73b291486d975d41d8a545"), looks := false }, kinds := [], alts := [], laidByText := true, laidKinds := [.listed, .data], laidTests := true, laidLooks := .later }
def FlowWalksCardSaid : Prop := Claim7.holds Tryd.pinned (.plain (OpenSpec.ofChange flowWalksSpec)) flowWalksCard

/-- THE TIED CARD OF 'scriptinglaw35.FlowSolves'. -/
def flowSolvesCard : Claim7 := { stood := { row := flowSolvesRow, standIns := [], harness := (true, "b2d12520d8fa61bc61fb9b3b92b292bac1dc11a9cc73b291486d975d41d8a545"), looks := false }, kinds := [], alts := [], laidByText := true, laidKinds := [.listed, .data], laidTests := true, laidLooks := .later }
def FlowSolvesCardSaid : Prop := Claim7.holds Tryd.pinned (.plain (OpenSpec.ofChange flowSolvesSpec)) flowSolvesCard

/-- THE TIED CARD OF 'scriptinglaw35.FlowForwards'. -/
def flowForwardsCard : Claim7 := { stood := { row := flowForwardsRow, standIns := [], harness := (true, "b2d12520d8fa61bc61fb9b3b92b292bac1dc11a9cc73b291486d975d41d8a545"), looks := false }, kinds := [], alts := [], laidByText := true, laidKinds := [.listed, .data], laidTests := true, laidLooks := .later }
def FlowForwardsCardSaid : Prop := Claim7.holds Tryd.pinned (.plain (OpenSpec.ofChange flowForwardsSpec)) flowForwardsCard

/-- THE SECOND FORM's CARD OF 'scriptinglaw35.FlowSteps'. -/
def flowStepsUptoCard : Claim7 := { stood := { row := flowStepsUptoRow, standIns := [], harness := (true, "b2d12520d8fa61bc61fb9b3b92b292bac1dc11a9cc73b291486d975d41d8a545"), looks := false }, kinds := [], alts := [], laidByText := true, laidKinds := [.listed, .data], laidTests := true, laidLooks := .later }
def FlowStepsUptoCardSaid : Prop := Claim7.holds Tryd.pinned (.plain (OpenSpec.upto flowStepsSpec)) flowStepsUptoCard

/-- THE SECOND FORM's CARD OF 'scriptinglaw35.FlowBlocks'. -/
def flowBlocksUptoCard : Claim7 := { stood := { row := flowBlocksUptoRow, standIns := [], harness := (true, "b2d12520d8fa61bc61fb9b3b92b292bac1dc11a9cc73b291486d975d41d8a545"), looks := false }, kinds := [], alts := [], laidByText := true, laidKinds := [.listed, .data], laidTests := true, laidLooks := .later }
def FlowBlocksUptoCardSaid : Prop := Claim7.holds Tryd.pinned (.plain (OpenSpec.upto flowBlocksSpec)) flowBlocksUptoCard

/-- THE SECOND FORM's CARD OF 'scriptinglaw35.FlowLives'. -/
def flowLivesUptoCard : Claim7 := { stood := { row := flowLivesUptoRow, standIns := [], harness := (true, "b2d12520d8fa61bc61fb9b3b92b292bac1dc11a9cc73b291486d975d41d8a545"), looks := false }, kinds := [], alts := [], laidByText := true, laidKinds := [.listed, .data], laidTests := true, laidLooks := .later }
def FlowLivesUptoCardSaid : Prop := Claim7.holds Tryd.pinned (.plain (OpenSpec.upto flowLivesSpec)) flowLivesUptoCard

/-- THE SECOND FORM's CARD OF 'scriptinglaw35.FlowCovers'. -/
def flowCoversUptoCard : Claim7 := { stood := { row := flowCoversUptoRow, standIns := [], harness := (true, "b2d12520d8fa61bc61fb9b3b92b292bac1dc11a9cc73b291486d975d41d8a545"), looks := false }, kinds := [], alts := [], laidByText := true, laidKinds := [.listed, .data], laidTests := true, laidLooks := .later }
def FlowCoversUptoCardSaid : Prop := Claim7.holds Tryd.pinned (.plain (OpenSpec.upto flowCoversSpec)) flowCoversUptoCard

/-- THE SECOND FORM's CARD OF 'scriptinglaw35.FlowWalks'. -/
def flowWalksUptoCard : Claim7 := { stood := { row := flowWalksUptoRow, standIns := [], harness := (true, "b2d12520d8fa61bc61fb9b3b92b292bac1dc11a9cc73b291486d975d41d8a545"), looks := false }, kinds := [], alts := [], laidByText := true, laidKinds := [.listed, .data], laidTests := true, laidLooks := .later }
def FlowWalksUptoCardSaid : Prop := Claim7.holds Tryd.pinned (.plain (OpenSpec.upto flowWalksSpec)) flowWalksUptoCard

/-- THE SECOND FORM's CARD OF 'scriptinglaw35.FlowSolves'. -/
def flowSolvesUptoCard : Claim7 := { stood := { row := flowSolvesUptoRow, standIns := [], harness := (true, "b2d12520d8fa61bc61fb9b3b92b292bac1dc11a9cc73b291486d975d41d8a545"), looks := false }, kinds := [], alts := [], laidByText := true, laidKinds := [.listed, .data], laidTests := true, laidLooks := .later }
def FlowSolvesUptoCardSaid : Prop := Claim7.holds Tryd.pinned (.plain (OpenSpec.upto flowSolvesSpec)) flowSolvesUptoCard

/-- THE SECOND FORM's CARD OF 'scriptinglaw35.FlowForwards'. -/
def flowForwardsUptoCard : Claim7 := { stood := { row := flowForwardsUptoRow, standIns := [], harness := (true, "b2d12520d8fa61bc61fb9b3b92b292bac1dc11a9cc73b291486d975d41d8a545"), looks := false }, kinds := [], alts := [], laidByText := true, laidKinds := [.listed, .data], laidTests := true, laidLooks := .later }
def FlowForwardsUptoCardSaid : Prop := Claim7.holds Tryd.pinned (.plain (OpenSpec.upto flowForwardsSpec)) flowForwardsUptoCard
end Rows
end Go.Proofs.YtccghnpcfkifjaaDoor
