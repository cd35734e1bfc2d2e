/-
  DERIVED. GIVEN WITH THE SEED: THE CARDS: each row of YtjpeodlfppaniaaDoorRows.lean that lists a variable, with what it lists TIED to the program's text (the seventh form; the later family's looks); each row that meets fmt, with fmt's text TOLD by the authors' own Lean function (tested against real Go, not proved from fmt's source: count such statements apart). THE CARD IS WHAT COUNTS. Prove the row's statement (the work); the ties are given (YtjpeodlfppaniaaDoorTie.lean); close each card by the builder's one call (the guide's Derived/Test/ToyasCard.lean, 'card_holds'). Laid BY PROGRAM, IN A SANDBOX (cutbox-door.mjs). By AI agents, Wed Nov 11 2026. No macro, syntax, notation, axiom, sorry.
-/
import Derived.Test.YtjpeodlfppaniaaDoorRows
import GoSem.ClaimSeven
namespace Go.Proofs.YtjpeodlfppaniaaDoor
namespace Rows

/-- THE TIED CARD OF 'scriptinglaw32.OpcodeChecks'. -/
def opcodeChecksCard : Claim7 := { stood := { row := opcodeChecksRow, standIns := [], harness := (true, "ab8578a07ec4297fdd73c94f00773fc64fc19a6a2ab0e4872aa6146bbefcb364"), looks := true }, kinds := [], alts := [], laidByText := true, laidKinds := [.data, .data, .data, .data, .sentinel, .sentinel, .listed, .data, .pinned], laidTests := true, laidLooks := .later }
def OpcodeChecksCardSaid : Prop := Claim7.holds Tryd.pinned (.plain (OpenSpec.ofChange opcodeChecksSpec)) opcodeChecksCard

/-- THE TIED CARD OF 'scriptinglaw32.OpcodeBounds'. -/
def opcodeBoundsCard : Claim7 := { stood := { row := opcodeBoundsRow, standIns := [], harness := (true, "ab8578a07ec4297fdd73c94f00773fc64fc19a6a2ab0e4872aa6146bbefcb364"), looks := true }, kinds := [], alts := [], laidByText := true, laidKinds := [.data, .data, .data, .data, .sentinel, .sentinel, .listed, .data, .pinned], laidTests := true, laidLooks := .later }
def OpcodeBoundsCardSaid : Prop := Claim7.holds Tryd.pinned (.plain (OpenSpec.ofChange opcodeBoundsSpec)) opcodeBoundsCard

/-- THE TIED CARD OF 'scriptinglaw32.OpcodeNames'. -/
def opcodeNamesCard : Claim7 := { stood := { row := opcodeNamesRow, standIns := [], harness := (true, "ab8578a07ec4297fdd73c94f00773fc64fc19a6a2ab0e4872aa6146bbefcb364"), looks := true }, kinds := [], alts := [], laidByText := true, laidKinds := [.data, .data, .data, .data, .sentinel, .sentinel, .listed, .data, .pinned], laidTests := true, laidLooks := .later }
def OpcodeNamesCardSaid : Prop := Claim7.holds Tryd.pinned (.plain (OpenSpec.ofChange opcodeNamesSpec)) opcodeNamesCard

/-- THE TIED CARD OF 'scriptinglaw32.OpcodeReturns'. -/
def opcodeReturnsCard : Claim7 := { stood := { row := opcodeReturnsRow, standIns := [], harness := (true, "ab8578a07ec4297fdd73c94f00773fc64fc19a6a2ab0e4872aa6146bbefcb364"), looks := true }, kinds := [], alts := [], laidByText := true, laidKinds := [.data, .data, .data, .data, .sentinel, .sentinel, .listed, .data, .pinned], laidTests := true, laidLooks := .later }
def OpcodeReturnsCardSaid : Prop := Claim7.holds Tryd.pinned (.plain (OpenSpec.ofChange opcodeReturnsSpec)) opcodeReturnsCard

/-- THE SECOND FORM's CARD OF 'scriptinglaw32.OpcodeChecks'. -/
def opcodeChecksUptoCard : Claim7 := { stood := { row := opcodeChecksUptoRow, standIns := [], harness := (true, "ab8578a07ec4297fdd73c94f00773fc64fc19a6a2ab0e4872aa6146bbefcb364"), looks := true }, kinds := [], alts := [], laidByText := true, laidKinds := [.data, .data, .data, .data, .sentinel, .sentinel, .listed, .data, .pinned], laidTests := true, laidLooks := .later }
def OpcodeChecksUptoCardSaid : Prop := Claim7.holds Tryd.pinned (.plain (OpenSpec.upto opcodeChecksSpec)) opcodeChecksUptoCard

/-- THE SECOND FORM's CARD OF 'scriptinglaw32.OpcodeBounds'. -/
def opcodeBoundsUptoCard : Claim7 := { stood := { row := opcodeBoundsUptoRow, standIns := [], harness := (true, "ab8578a07ec4297fdd73c94f00773fc64fc19a6a2ab0e4872aa6146bbefcb364"), looks := true }, kinds := [], alts := [], laidByText := true, laidKinds := [.data, .data, .data, .data, .sentinel, .sentinel, .listed, .data, .pinned], laidTests := true, laidLooks := .later }
def OpcodeBoundsUptoCardSaid : Prop := Claim7.holds Tryd.pinned (.plain (OpenSpec.upto opcodeBoundsSpec)) opcodeBoundsUptoCard

/-- THE SECOND FORM's CARD OF 'scriptinglaw32.OpcodeNames'. -/
def opcodeNamesUptoCard : Claim7 := { stood := { row := opcodeNamesUptoRow, standIns := [], harness := (true, "ab8578a07ec4297fdd73c94f00773fc64fc19a6a2ab0e4872aa6146bbefcb364"), looks := true }, kinds := [], alts := [], laidByText := true, laidKinds := [.data, .data, .data, .data, .sentinel, .sentinel, .listed, .data, .pinned], laidTests := true, laidLooks := .later }
def OpcodeNamesUptoCardSaid : Prop := Claim7.holds Tryd.pinned (.plain (OpenSpec.upto opcodeNamesSpec)) opcodeNamesUptoCard

/-- THE SECOND FORM's CARD OF 'scriptinglaw32.OpcodeReturns'. -/
def opcodeReturnsUptoCard : Claim7 := { stood := { row := opcodeReturnsUptoRow, standIns := [], harness := (true, "ab8578a07ec4297fdd73c94f00773fc64fc19a6a2ab0e4872aa6146bbefcb364"), looks := true }, kinds := [], alts := [], laidByText := true, laidKinds := [.data, .data, .data, .data, .sentinel, .sentinel, .listed, .data, .pinned], laidTests := true, laidLooks := .later }
def OpcodeReturnsUptoCardSaid : Prop := Claim7.holds Tryd.pinned (.plain (OpenSpec.upto opcodeReturnsSpec)) opcodeReturnsUptoCard
end Rows
end Go.Proofs.YtjpeodlfppaniaaDoor
