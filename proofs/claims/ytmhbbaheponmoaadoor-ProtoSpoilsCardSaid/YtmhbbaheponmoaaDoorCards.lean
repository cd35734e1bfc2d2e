/-
  DERIVED. GIVEN WITH THE SEED: THE CARDS: each row of YtmhbbaheponmoaaDoorRows.lean that lists a variable, with what it lists TIED to the program's text (the seventh form; the later family's looks); each row that meets fmt, with fmt's text TOLD by the authors' own Lean function (tested against real Go, not proved from fmt's source: count such statements apart). THE CARD IS WHAT COUNTS. Prove the row's statement (the work); the ties are given (YtmhbbaheponmoaaDoorTie.lean); close each card by the builder's one call (the guide's Derived/Test/ToyasCard.lean, 'card_holds'). Laid BY PROGRAM, IN A SANDBOX (cutbox-door.mjs). By AI agents, Wed Nov 11 2026. No macro, syntax, notation, axiom, sorry.
-/
import Derived.Test.YtmhbbaheponmoaaDoorRows
import GoSem.ClaimSeven
namespace Go.Proofs.YtmhbbaheponmoaaDoor
namespace Rows

/-- THE TIED CARD OF 'scriptinglaw33.ProtoEach'. -/
def protoEachCard : Claim7 := { stood := { row := protoEachRow, standIns := [], harness := (true, "6b7a6d771217409c7f63c7734dc8d05c5609b2e354394194e72a87bedfd3c3f8"), looks := false }, kinds := [], alts := [], laidByText := true, laidKinds := [.listed, .data], laidTests := true, laidLooks := .later }
def ProtoEachCardSaid : Prop := Claim7.holds Tryd.pinned (.plain (OpenSpec.ofChange protoEachSpec)) protoEachCard

/-- THE TIED CARD OF 'scriptinglaw33.ProtoSpoils'. -/
def protoSpoilsCard : Claim7 := { stood := { row := protoSpoilsRow, standIns := [], harness := (true, "6b7a6d771217409c7f63c7734dc8d05c5609b2e354394194e72a87bedfd3c3f8"), looks := false }, kinds := [], alts := [], laidByText := true, laidKinds := [.listed, .data], laidTests := true, laidLooks := .later }
def ProtoSpoilsCardSaid : Prop := Claim7.holds Tryd.pinned (.plain (OpenSpec.ofChange protoSpoilsSpec)) protoSpoilsCard

/-- THE TIED CARD OF 'scriptinglaw33.ProtoWithin'. -/
def protoWithinCard : Claim7 := { stood := { row := protoWithinRow, standIns := [], harness := (true, "6b7a6d771217409c7f63c7734dc8d05c5609b2e354394194e72a87bedfd3c3f8"), looks := false }, kinds := [], alts := [], laidByText := true, laidKinds := [.listed, .data], laidTests := true, laidLooks := .later }
def ProtoWithinCardSaid : Prop := Claim7.holds Tryd.pinned (.plain (OpenSpec.ofChange protoWithinSpec)) protoWithinCard

/-- THE TIED CARD OF 'scriptinglaw33.ProtoStrip'. -/
def protoStripCard : Claim7 := { stood := { row := protoStripRow, standIns := [], harness := (true, "6b7a6d771217409c7f63c7734dc8d05c5609b2e354394194e72a87bedfd3c3f8"), looks := false }, kinds := [], alts := [], laidByText := true, laidKinds := [.listed, .data], laidTests := true, laidLooks := .later }
def ProtoStripCardSaid : Prop := Claim7.holds Tryd.pinned (.plain (OpenSpec.ofChange protoStripSpec)) protoStripCard

/-- THE TIED CARD OF 'scriptinglaw33.ProtoActive'. -/
def protoActiveCard : Claim7 := { stood := { row := protoActiveRow, standIns := [], harness := (true, "6b7a6d771217409c7f63c7734dc8d05c5609b2e354394194e72a87bedfd3c3f8"), looks := false }, kinds := [], alts := [], laidByText := true, laidKinds := [.listed, .data], laidTests := true, laidLooks := .later }
def ProtoActiveCardSaid : Prop := Claim7.holds Tryd.pinned (.plain (OpenSpec.ofChange protoActiveSpec)) protoActiveCard

/-- THE TIED CARD OF 'scriptinglaw33.ProtoSame'. -/
def protoSameCard : Claim7 := { stood := { row := protoSameRow, standIns := [], harness := (true, "6b7a6d771217409c7f63c7734dc8d05c5609b2e354394194e72a87bedfd3c3f8"), looks := false }, kinds := [], alts := [], laidByText := true, laidKinds := [.listed, .data], laidTests := true, laidLooks := .later }
def ProtoSameCardSaid : Prop := Claim7.holds Tryd.pinned (.plain (OpenSpec.ofChange protoSameSpec)) protoSameCard

/-- THE TIED CARD OF 'scriptinglaw33.ProtoLimits'. -/
def protoLimitsCard : Claim7 := { stood := { row := protoLimitsRow, standIns := [], harness := (true, "6b7a6d771217409c7f63c7734dc8d05c5609b2e354394194e72a87bedfd3c3f8"), looks := false }, kinds := [], alts := [], laidByText := true, laidKinds := [.listed, .data], laidTests := true, laidLooks := .later }
def ProtoLimitsCardSaid : Prop := Claim7.holds Tryd.pinned (.plain (OpenSpec.ofChange protoLimitsSpec)) protoLimitsCard

/-- THE SECOND FORM's CARD OF 'scriptinglaw33.ProtoEach'. -/
def protoEachUptoCard : Claim7 := { stood := { row := protoEachUptoRow, standIns := [], harness := (true, "6b7a6d771217409c7f63c7734dc8d05c5609b2e354394194e72a87bedfd3c3f8"), looks := false }, kinds := [], alts := [], laidByText := true, laidKinds := [.listed, .data], laidTests := true, laidLooks := .later }
def ProtoEachUptoCardSaid : Prop := Claim7.holds Tryd.pinned (.plain (OpenSpec.upto protoEachSpec)) protoEachUptoCard

/-- THE SECOND FORM's CARD OF 'scriptinglaw33.ProtoSpoils'. -/
def protoSpoilsUptoCard : Claim7 := { stood := { row := protoSpoilsUptoRow, standIns := [], harness := (true, "6b7a6d771217409c7f63c7734dc8d05c5609b2e354394194e72a87bedfd3c3f8"), looks := false }, kinds := [], alts := [], laidByText := true, laidKinds := [.listed, .data], laidTests := true, laidLooks := .later }
def ProtoSpoilsUptoCardSaid : Prop := Claim7.holds Tryd.pinned (.plain (OpenSpec.upto protoSpoilsSpec)) protoSpoilsUptoCard

/-- THE SECOND FORM's CARD OF 'scriptinglaw33.ProtoWithin'. -/
def protoWithinUptoCard : Claim7 := { stood := { row := protoWithinUptoRow, standIns := [], harness := (true, "6b7a6d771217409c7f63c7734dc8d05c5609b2e354394194e72a87bedfd3c3f8"), looks := false }, kinds := [], alts := [], laidByText := true, laidKinds := [.listed, .data], laidTests := true, laidLooks := .later }
def ProtoWithinUptoCardSaid : Prop := Claim7.holds Tryd.pinned (.plain (OpenSpec.upto protoWithinSpec)) protoWithinUptoCard

/-- THE SECOND FORM's CARD OF 'scriptinglaw33.ProtoStrip'. -/
def protoStripUptoCard : Claim7 := { stood := { row := protoStripUptoRow, standIns := [], harness := (true, "6b7a6d771217409c7f63c7734dc8d05c5609b2e354394194e72a87bedfd3c3f8"), looks := false }, kinds := [], alts := [], laidByText := true, laidKinds := [.listed, .data], laidTests := true, laidLooks := .later }
def ProtoStripUptoCardSaid : Prop := Claim7.holds Tryd.pinned (.plain (OpenSpec.upto protoStripSpec)) protoStripUptoCard

/-- THE SECOND FORM's CARD OF 'scriptinglaw33.ProtoActive'. -/
def protoActiveUptoCard : Claim7 := { stood := { row := protoActiveUptoRow, standIns := [], harness := (true, "6b7a6d771217409c7f63c7734dc8d05c5609b2e354394194e72a87bedfd3c3f8"), looks := false }, kinds := [], alts := [], laidByText := true, laidKinds := [.listed, .data], laidTests := true, laidLooks := .later }
def ProtoActiveUptoCardSaid : Prop := Claim7.holds Tryd.pinned (.plain (OpenSpec.upto protoActiveSpec)) protoActiveUptoCard

/-- THE SECOND FORM's CARD OF 'scriptinglaw33.ProtoSame'. -/
def protoSameUptoCard : Claim7 := { stood := { row := protoSameUptoRow, standIns := [], harness := (true, "6b7a6d771217409c7f63c7734dc8d05c5609b2e354394194e72a87bedfd3c3f8"), looks := false }, kinds := [], alts := [], laidByText := true, laidKinds := [.listed, .data], laidTests := true, laidLooks := .later }
def ProtoSameUptoCardSaid : Prop := Claim7.holds Tryd.pinned (.plain (OpenSpec.upto protoSameSpec)) protoSameUptoCard

/-- THE SECOND FORM's CARD OF 'scriptinglaw33.ProtoLimits'. -/
def protoLimitsUptoCard : Claim7 := { stood := { row := protoLimitsUptoRow, standIns := [], harness := (true, "6b7a6d771217409c7f63c7734dc8d05c5609b2e354394194e72a87bedfd3c3f8"), looks := false }, kinds := [], alts := [], laidByText := true, laidKinds := [.listed, .data], laidTests := true, laidLooks := .later }
def ProtoLimitsUptoCardSaid : Prop := Claim7.holds Tryd.pinned (.plain (OpenSpec.upto protoLimitsSpec)) protoLimitsUptoCard
end Rows
end Go.Proofs.YtmhbbaheponmoaaDoor
