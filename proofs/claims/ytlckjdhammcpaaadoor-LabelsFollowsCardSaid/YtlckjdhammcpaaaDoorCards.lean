/-
  DERIVED. GIVEN WITH THE SEED: THE CARDS: each row of YtlckjdhammcpaaaDoorRows.lean that lists a variable, with what it lists TIED to the program's text (the seventh form; the later family's looks); each row that meets fmt, with fmt's text TOLD by the authors' own Lean function (tested against real Go, not proved from fmt's source: count such statements apart). THE CARD IS WHAT COUNTS. Prove the row's statement (the work); the ties are given (YtlckjdhammcpaaaDoorTie.lean); close each card by the builder's one call (the guide's Derived/Test/ToyasCard.lean, 'card_holds'). Laid BY PROGRAM, IN A SANDBOX (cutbox-door.mjs). By AI agents, Wed Nov 11 2026. No macro, syntax, notation, axiom, sorry.
-/
import Derived.Test.YtlckjdhammcpaaaDoorRows
import GoSem.ClaimSeven
namespace Go.Proofs.YtlckjdhammcpaaaDoor
namespace Rows

/-- THE TIED CARD OF 'scriptinglaw38.LabelsCalls'. -/
def labelsCallsCard : Claim7 := { stood := { row := labelsCallsRow, standIns := [], harness := (true, "11d0af36cb39c95a880f3a9398513f07e3bb63a0f8c8a1bc215ac9504c4b1dd7"), looks := false }, kinds := [], alts := [], laidByText := true, laidKinds := [.listed, .data], laidTests := true, laidLooks := .later }
def LabelsCallsCardSaid : Prop := Claim7.holds Tryd.pinned (.plain (OpenSpec.ofChange labelsCallsSpec)) labelsCallsCard

/-- THE TIED CARD OF 'scriptinglaw38.LabelsNumbers'. -/
def labelsNumbersCard : Claim7 := { stood := { row := labelsNumbersRow, standIns := [], harness := (true, "11d0af36cb39c95a880f3a9398513f07e3bb63a0f8c8a1bc215ac9504c4b1dd7"), looks := false }, kinds := [], alts := [], laidByText := true, laidKinds := [.listed, .data], laidTests := true, laidLooks := .later }
def LabelsNumbersCardSaid : Prop := Claim7.holds Tryd.pinned (.plain (OpenSpec.ofChange labelsNumbersSpec)) labelsNumbersCard

/-- THE TIED CARD OF 'scriptinglaw38.LabelsTargets'. -/
def labelsTargetsCard : Claim7 := { stood := { row := labelsTargetsRow, standIns := [], harness := (true, "11d0af36cb39c95a880f3a9398513f07e3bb63a0f8c8a1bc215ac9504c4b1dd7"), looks := false }, kinds := [], alts := [], laidByText := true, laidKinds := [.listed, .data], laidTests := true, laidLooks := .later }
def LabelsTargetsCardSaid : Prop := Claim7.holds Tryd.pinned (.plain (OpenSpec.ofChange labelsTargetsSpec)) labelsTargetsCard

/-- THE TIED CARD OF 'scriptinglaw38.LabelsStraight'. -/
def labelsStraightCard : Claim7 := { stood := { row := labelsStraightRow, standIns := [], harness := (true, "11d0af36cb39c95a880f3a9398513f07e3bb63a0f8c8a1bc215ac9504c4b1dd7"), looks := false }, kinds := [], alts := [], laidByText := true, laidKinds := [.listed, .data], laidTests := true, laidLooks := .later }
def LabelsStraightCardSaid : Prop := Claim7.holds Tryd.pinned (.plain (OpenSpec.ofChange labelsStraightSpec)) labelsStraightCard

/-- THE TIED CARD OF 'scriptinglaw38.LabelsShares'. -/
def labelsSharesCard : Claim7 := { stood := { row := labelsSharesRow, standIns := [], harness := (true, "11d0af36cb39c95a880f3a9398513f07e3bb63a0f8c8a1bc215ac9504c4b1dd7"), looks := false }, kinds := [], alts := [], laidByText := true, laidKinds := [.listed, .data], laidTests := true, laidLooks := .later }
def LabelsSharesCardSaid : Prop := Claim7.holds Tryd.pinned (.plain (OpenSpec.ofChange labelsSharesSpec)) labelsSharesCard

/-- THE TIED CARD OF 'scriptinglaw38.LabelsNone'. -/
def labelsNoneCard : Claim7 := { stood := { row := labelsNoneRow, standIns := [], harness := (true, "11d0af36cb39c95a880f3a9398513f07e3bb63a0f8c8a1bc215ac9504c4b1dd7"), looks := false }, kinds := [], alts := [], laidByText := true, laidKinds := [.listed, .data], laidTests := true, laidLooks := .later }
def LabelsNoneCardSaid : Prop := Claim7.holds Tryd.pinned (.plain (OpenSpec.ofChange labelsNoneSpec)) labelsNoneCard

/-- THE TIED CARD OF 'scriptinglaw38.LabelsFollows'. -/
def labelsFollowsCard : Claim7 := { stood := { row := labelsFollowsRow, standIns := [], harness := (true, "11d0af36cb39c95a880f3a9398513f07e3bb63a0f8c8a1bc215ac9504c4b1dd7"), looks := false }, kinds := [], alts := [], laidByText := true, laidKinds := [.listed, .data], laidTests := true, laidLooks := .later }
def LabelsFollowsCardSaid : Prop := Claim7.holds Tryd.pinned (.plain (OpenSpec.ofChange labelsFollowsSpec)) labelsFollowsCard

/-- THE SECOND FORM's CARD OF 'scriptinglaw38.LabelsCalls'. -/
def labelsCallsUptoCard : Claim7 := { stood := { row := labelsCallsUptoRow, standIns := [], harness := (true, "11d0af36cb39c95a880f3a9398513f07e3bb63a0f8c8a1bc215ac9504c4b1dd7"), looks := false }, kinds := [], alts := [], laidByText := true, laidKinds := [.listed, .data], laidTests := true, laidLooks := .later }
def LabelsCallsUptoCardSaid : Prop := Claim7.holds Tryd.pinned (.plain (OpenSpec.upto labelsCallsSpec)) labelsCallsUptoCard

/-- THE SECOND FORM's CARD OF 'scriptinglaw38.LabelsNumbers'. -/
def labelsNumbersUptoCard : Claim7 := { stood := { row := labelsNumbersUptoRow, standIns := [], harness := (true, "11d0af36cb39c95a880f3a9398513f07e3bb63a0f8c8a1bc215ac9504c4b1dd7"), looks := false }, kinds := [], alts := [], laidByText := true, laidKinds := [.listed, .data], laidTests := true, laidLooks := .later }
def LabelsNumbersUptoCardSaid : Prop := Claim7.holds Tryd.pinned (.plain (OpenSpec.upto labelsNumbersSpec)) labelsNumbersUptoCard

/-- THE SECOND FORM's CARD OF 'scriptinglaw38.LabelsTargets'. -/
def labelsTargetsUptoCard : Claim7 := { stood := { row := labelsTargetsUptoRow, standIns := [], harness := (true, "11d0af36cb39c95a880f3a9398513f07e3bb63a0f8c8a1bc215ac9504c4b1dd7"), looks := false }, kinds := [], alts := [], laidByText := true, laidKinds := [.listed, .data], laidTests := true, laidLooks := .later }
def LabelsTargetsUptoCardSaid : Prop := Claim7.holds Tryd.pinned (.plain (OpenSpec.upto labelsTargetsSpec)) labelsTargetsUptoCard

/-- THE SECOND FORM's CARD OF 'scriptinglaw38.LabelsStraight'. -/
def labelsStraightUptoCard : Claim7 := { stood := { row := labelsStraightUptoRow, standIns := [], harness := (true, "11d0af36cb39c95a880f3a9398513f07e3bb63a0f8c8a1bc215ac9504c4b1dd7"), looks := false }, kinds := [], alts := [], laidByText := true, laidKinds := [.listed, .data], laidTests := true, laidLooks := .later }
def LabelsStraightUptoCardSaid : Prop := Claim7.holds Tryd.pinned (.plain (OpenSpec.upto labelsStraightSpec)) labelsStraightUptoCard

/-- THE SECOND FORM's CARD OF 'scriptinglaw38.LabelsShares'. -/
def labelsSharesUptoCard : Claim7 := { stood := { row := labelsSharesUptoRow, standIns := [], harness := (true, "11d0af36cb39c95a880f3a9398513f07e3bb63a0f8c8a1bc215ac9504c4b1dd7"), looks := false }, kinds := [], alts := [], laidByText := true, laidKinds := [.listed, .data], laidTests := true, laidLooks := .later }
def LabelsSharesUptoCardSaid : Prop := Claim7.holds Tryd.pinned (.plain (OpenSpec.upto labelsSharesSpec)) labelsSharesUptoCard

/-- THE SECOND FORM's CARD OF 'scriptinglaw38.LabelsNone'. -/
def labelsNoneUptoCard : Claim7 := { stood := { row := labelsNoneUptoRow, standIns := [], harness := (true, "11d0af36cb39c95a880f3a9398513f07e3bb63a0f8c8a1bc215ac9504c4b1dd7"), looks := false }, kinds := [], alts := [], laidByText := true, laidKinds := [.listed, .data], laidTests := true, laidLooks := .later }
def LabelsNoneUptoCardSaid : Prop := Claim7.holds Tryd.pinned (.plain (OpenSpec.upto labelsNoneSpec)) labelsNoneUptoCard

/-- THE SECOND FORM's CARD OF 'scriptinglaw38.LabelsFollows'. -/
def labelsFollowsUptoCard : Claim7 := { stood := { row := labelsFollowsUptoRow, standIns := [], harness := (true, "11d0af36cb39c95a880f3a9398513f07e3bb63a0f8c8a1bc215ac9504c4b1dd7"), looks := false }, kinds := [], alts := [], laidByText := true, laidKinds := [.listed, .data], laidTests := true, laidLooks := .later }
def LabelsFollowsUptoCardSaid : Prop := Claim7.holds Tryd.pinned (.plain (OpenSpec.upto labelsFollowsSpec)) labelsFollowsUptoCard
end Rows
end Go.Proofs.YtlckjdhammcpaaaDoor
