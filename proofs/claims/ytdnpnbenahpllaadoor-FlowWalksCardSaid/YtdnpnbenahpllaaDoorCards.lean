/-
  DERIVED. GIVEN WITH THE SEED: THE CARDS: each row of YtdnpnbenahpllaaDoorRows.lean that lists a variable, with what it lists TIED to the program's text (the seventh form; the later family's looks); each row that meets fmt, with fmt's text TOLD by the authors' own Lean function (tested against real Go, not proved from fmt's source: count such statements apart). THE CARD IS WHAT COUNTS. Prove the row's statement (the work); the ties are given (YtdnpnbenahpllaaDoorTie.lean); close each card by the builder's one call (the guide's Derived/Test/ToyasCard.lean, 'card_holds'). Laid BY PROGRAM, IN A SANDBOX (cutbox-door.mjs). By AI agents, Wed Nov 11 2026. No macro, syntax, notation, axiom, sorry.
-/
import Derived.Test.YtdnpnbenahpllaaDoorRows
import GoSem.ClaimSeven
namespace Go.Proofs.YtdnpnbenahpllaaDoor
namespace Rows

/-- THE TIED CARD OF 'scriptinglaw35.FlowLives'. -/
def flowLivesCard : Claim7 := { stood := { row := flowLivesRow, standIns := [], harness := (true, "4957829c3655118e106db2157393712f76c7e10912a7dfc1507cba93056799f3"), looks := false }, kinds := [], alts := [], laidByText := true, laidKinds := [.listed, .data], laidTests := true, laidLooks := .later }
def FlowLivesCardSaid : Prop := Claim7.holds Tryd.pinned (.plain (OpenSpec.ofChange flowLivesSpec)) flowLivesCard

/-- THE TIED CARD OF 'scriptinglaw35.FlowWalks'. -/
def flowWalksCard : Claim7 := { stood := { row := flowWalksRow, standIns := [], harness := (true, "4957829c3655118e106db2157393712f76c7e10912a7dfc1507cba93056799f3"), looks := false }, kinds := [], alts := [], laidByText := true, laidKinds := [.listed, .data], laidTests := true, laidLooks := .later }
def FlowWalksCardSaid : Prop := Claim7.holds Tryd.pinned (.plain (OpenSpec.ofChange flowWalksSpec)) flowWalksCard

/-- THE TIED CARD OF 'scriptinglaw35.FlowSolves'. -/
def flowSolvesCard : Claim7 := { stood := { row := flowSolvesRow, standIns := [], harness := (true, "4957829c3655118e106db2157393712f76c7e10912a7dfc1507cba93056799f3"), looks := false }, kinds := [], alts := [], laidByText := true, laidKinds := [.listed, .data], laidTests := true, laidLooks := .later }
def FlowSolvesCardSaid : Prop := Claim7.holds Tryd.pinned (.plain (OpenSpec.ofChange flowSolvesSpec)) flowSolvesCard

/-- THE SECOND FORM's CARD OF 'scriptinglaw35.FlowLives'. -/
def flowLivesUptoCard : Claim7 := { stood := { row := flowLivesUptoRow, standIns := [], harness := (true, "4957829c3655118e106db2157393712f76c7e10912a7dfc1507cba93056799f3"), looks := false }, kinds := [], alts := [], laidByText := true, laidKinds := [.listed, .data], laidTests := true, laidLooks := .later }
def FlowLivesUptoCardSaid : Prop := Claim7.holds Tryd.pinned (.plain (OpenSpec.upto flowLivesSpec)) flowLivesUptoCard

/-- THE SECOND FORM's CARD OF 'scriptinglaw35.FlowWalks'. -/
def flowWalksUptoCard : Claim7 := { stood := { row := flowWalksUptoRow, standIns := [], harness := (true, "4957829c3655118e106db2157393712f76c7e10912a7dfc1507cba93056799f3"), looks := false }, kinds := [], alts := [], laidByText := true, laidKinds := [.listed, .data], laidTests := true, laidLooks := .later }
def FlowWalksUptoCardSaid : Prop := Claim7.holds Tryd.pinned (.plain (OpenSpec.upto flowWalksSpec)) flowWalksUptoCard

/-- THE SECOND FORM's CARD OF 'scriptinglaw35.FlowSolves'. -/
def flowSolvesUptoCard : Claim7 := { stood := { row := flowSolvesUptoRow, standIns := [], harness := (true, "4957829c3655118e106db2157393712f76c7e10912a7dfc1507cba93056799f3"), looks := false }, kinds := [], alts := [], laidByText := true, laidKinds := [.listed, .data], laidTests := true, laidLooks := .later }
def FlowSolvesUptoCardSaid : Prop := Claim7.holds Tryd.pinned (.plain (OpenSpec.upto flowSolvesSpec)) flowSolvesUptoCard
end Rows
end Go.Proofs.YtdnpnbenahpllaaDoor
