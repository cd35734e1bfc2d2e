/-
  DERIVED. GIVEN WITH THE SEED: THE CARDS: each row of YtflobbpcabopjaaGreatDoorRows.lean that lists a variable, with what it lists TIED to the program's text (the seventh form; the later family's looks); each row that meets fmt, with fmt's text TOLD by the authors' own Lean function (tested against real Go, not proved from fmt's source: count such statements apart). THE CARD IS WHAT COUNTS. Prove the row's statement (the work); the ties are given (YtflobbpcabopjaaGreatDoorTie.lean); close each card by the builder's one call (the guide's Derived/Test/ToyasCard.lean, 'card_holds'). Laid BY PROGRAM, IN A SANDBOX (cutbox-door.mjs). By AI agents, Wed Nov 11 2026. No macro, syntax, notation, axiom, sorry.
-/
import Derived.Test.YtflobbpcabopjaaGreatDoorRows
import GoSem.ClaimSeven
namespace Go.Proofs.YtflobbpcabopjaaGreatDoor
namespace Rows

/-- THE TIED CARD OF 'scriptinglaw34.ListingTexts'. -/
def listingTextsCard : Claim7 := { stood := { row := listingTextsRow, standIns := [], harness := (true, "dd9345d9462673cf43aaa5262cff85285d4971b9bd503c603716bf3e62043d4c"), looks := true }, kinds := [], alts := [], laidByText := true, laidKinds := [.data, .data, .data, .data, .sentinel, .sentinel, .listed, .data, .pinned], laidTests := true, laidLooks := .later }
def ListingTextsCardSaid : Prop := Claim7.holds Tryz.pinned (.plain (OpenSpec.ofChange listingTextsSpec)) listingTextsCard

/-- THE TIED CARD OF 'scriptinglaw34.ListingReads'. -/
def listingReadsCard : Claim7 := { stood := { row := listingReadsRow, standIns := [], harness := (true, "dd9345d9462673cf43aaa5262cff85285d4971b9bd503c603716bf3e62043d4c"), looks := true }, kinds := [], alts := [], laidByText := true, laidKinds := [.data, .data, .data, .data, .sentinel, .sentinel, .listed, .data, .pinned], laidTests := true, laidLooks := .later }
def ListingReadsCardSaid : Prop := Claim7.holds Tryz.pinned (.plain (OpenSpec.ofChange listingReadsSpec)) listingReadsCard

/-- THE TIED CARD OF 'scriptinglaw34.ListingLines'. -/
def listingLinesCard : Claim7 := { stood := { row := listingLinesRow, standIns := [], harness := (true, "dd9345d9462673cf43aaa5262cff85285d4971b9bd503c603716bf3e62043d4c"), looks := true }, kinds := [], alts := [], laidByText := true, laidKinds := [.data, .data, .data, .data, .sentinel, .sentinel, .listed, .data, .pinned], laidTests := true, laidLooks := .later }
def ListingLinesCardSaid : Prop := Claim7.holds Tryz.pinned (.plain (OpenSpec.ofChange listingLinesSpec)) listingLinesCard

/-- THE TIED CARD OF 'scriptinglaw34.ListingSpoils'. -/
def listingSpoilsCard : Claim7 := { stood := { row := listingSpoilsRow, standIns := [], harness := (true, "dd9345d9462673cf43aaa5262cff85285d4971b9bd503c603716bf3e62043d4c"), looks := true }, kinds := [], alts := [], laidByText := true, laidKinds := [.data, .data, .data, .data, .sentinel, .sentinel, .listed, .data, .pinned], laidTests := true, laidLooks := .later }
def ListingSpoilsCardSaid : Prop := Claim7.holds Tryz.pinned (.plain (OpenSpec.ofChange listingSpoilsSpec)) listingSpoilsCard

/-- THE TIED CARD OF 'scriptinglaw34.ListingRoundTrips'. -/
def listingRoundTripsCard : Claim7 := { stood := { row := listingRoundTripsRow, standIns := [], harness := (true, "dd9345d9462673cf43aaa5262cff85285d4971b9bd503c603716bf3e62043d4c"), looks := true }, kinds := [], alts := [], laidByText := true, laidKinds := [.data, .data, .data, .data, .sentinel, .sentinel, .listed, .data, .pinned], laidTests := true, laidLooks := .later }
def ListingRoundTripsCardSaid : Prop := Claim7.holds Tryz.pinned (.plain (OpenSpec.ofChange listingRoundTripsSpec)) listingRoundTripsCard

/-- THE TIED CARD OF 'scriptinglaw34.ListingDistinct'. -/
def listingDistinctCard : Claim7 := { stood := { row := listingDistinctRow, standIns := [], harness := (true, "dd9345d9462673cf43aaa5262cff85285d4971b9bd503c603716bf3e62043d4c"), looks := true }, kinds := [], alts := [], laidByText := true, laidKinds := [.data, .data, .data, .data, .sentinel, .sentinel, .listed, .data, .pinned], laidTests := true, laidLooks := .later }
def ListingDistinctCardSaid : Prop := Claim7.holds Tryz.pinned (.plain (OpenSpec.ofChange listingDistinctSpec)) listingDistinctCard

/-- THE SECOND FORM's CARD OF 'scriptinglaw34.ListingTexts'. -/
def listingTextsUptoCard : Claim7 := { stood := { row := listingTextsUptoRow, standIns := [], harness := (true, "dd9345d9462673cf43aaa5262cff85285d4971b9bd503c603716bf3e62043d4c"), looks := true }, kinds := [], alts := [], laidByText := true, laidKinds := [.data, .data, .data, .data, .sentinel, .sentinel, .listed, .data, .pinned], laidTests := true, laidLooks := .later }
def ListingTextsUptoCardSaid : Prop := Claim7.holds Tryz.pinned (.plain (OpenSpec.upto listingTextsSpec)) listingTextsUptoCard

/-- THE SECOND FORM's CARD OF 'scriptinglaw34.ListingReads'. -/
def listingReadsUptoCard : Claim7 := { stood := { row := listingReadsUptoRow, standIns := [], harness := (true, "dd9345d9462673cf43aaa5262cff85285d4971b9bd503c603716bf3e62043d4c"), looks := true }, kinds := [], alts := [], laidByText := true, laidKinds := [.data, .data, .data, .data, .sentinel, .sentinel, .listed, .data, .pinned], laidTests := true, laidLooks := .later }
def ListingReadsUptoCardSaid : Prop := Claim7.holds Tryz.pinned (.plain (OpenSpec.upto listingReadsSpec)) listingReadsUptoCard

/-- THE SECOND FORM's CARD OF 'scriptinglaw34.ListingLines'. -/
def listingLinesUptoCard : Claim7 := { stood := { row := listingLinesUptoRow, standIns := [], harness := (true, "dd9345d9462673cf43aaa5262cff85285d4971b9bd503c603716bf3e62043d4c"), looks := true }, kinds := [], alts := [], laidByText := true, laidKinds := [.data, .data, .data, .data, .sentinel, .sentinel, .listed, .data, .pinned], laidTests := true, laidLooks := .later }
def ListingLinesUptoCardSaid : Prop := Claim7.holds Tryz.pinned (.plain (OpenSpec.upto listingLinesSpec)) listingLinesUptoCard

/-- THE SECOND FORM's CARD OF 'scriptinglaw34.ListingSpoils'. -/
def listingSpoilsUptoCard : Claim7 := { stood := { row := listingSpoilsUptoRow, standIns := [], harness := (true, "dd9345d9462673cf43aaa5262cff85285d4971b9bd503c603716bf3e62043d4c"), looks := true }, kinds := [], alts := [], laidByText := true, laidKinds := [.data, .data, .data, .data, .sentinel, .sentinel, .listed, .data, .pinned], laidTests := true, laidLooks := .later }
def ListingSpoilsUptoCardSaid : Prop := Claim7.holds Tryz.pinned (.plain (OpenSpec.upto listingSpoilsSpec)) listingSpoilsUptoCard

/-- THE SECOND FORM's CARD OF 'scriptinglaw34.ListingRoundTrips'. -/
def listingRoundTripsUptoCard : Claim7 := { stood := { row := listingRoundTripsUptoRow, standIns := [], harness := (true, "dd9345d9462673cf43aaa5262cff85285d4971b9bd503c603716bf3e62043d4c"), looks := true }, kinds := [], alts := [], laidByText := true, laidKinds := [.data, .data, .data, .data, .sentinel, .sentinel, .listed, .data, .pinned], laidTests := true, laidLooks := .later }
def ListingRoundTripsUptoCardSaid : Prop := Claim7.holds Tryz.pinned (.plain (OpenSpec.upto listingRoundTripsSpec)) listingRoundTripsUptoCard

/-- THE SECOND FORM's CARD OF 'scriptinglaw34.ListingDistinct'. -/
def listingDistinctUptoCard : Claim7 := { stood := { row := listingDistinctUptoRow, standIns := [], harness := (true, "dd9345d9462673cf43aaa5262cff85285d4971b9bd503c603716bf3e62043d4c"), looks := true }, kinds := [], alts := [], laidByText := true, laidKinds := [.data, .data, .data, .data, .sentinel, .sentinel, .listed, .data, .pinned], laidTests := true, laidLooks := .later }
def ListingDistinctUptoCardSaid : Prop := Claim7.holds Tryz.pinned (.plain (OpenSpec.upto listingDistinctSpec)) listingDistinctUptoCard
end Rows
end Go.Proofs.YtflobbpcabopjaaGreatDoor
