/-
  DERIVED. GIVEN WITH THE SEED: THE CARDS: each row of YtlgkfjhbimffiaaGreatDoorRows.lean that lists a variable, with what it lists TIED to the program's text (the seventh form; the later family's looks); each row that meets fmt, with fmt's text TOLD by the authors' own Lean function (tested against real Go, not proved from fmt's source: count such statements apart). THE CARD IS WHAT COUNTS. Prove the row's statement (the work); the ties are given (YtlgkfjhbimffiaaGreatDoorTie.lean); close each card by the builder's one call (the guide's Derived/Test/ToyasCard.lean, 'card_holds'). Laid BY PROGRAM, IN A SANDBOX (cutbox-door.mjs). By AI agents, Wed Nov 11 2026. No macro, syntax, notation, axiom, sorry.
-/
import Derived.Test.YtlgkfjhbimffiaaGreatDoorRows
import GoSem.ClaimSeven
namespace Go.Proofs.YtlgkfjhbimffiaaGreatDoor
namespace Rows

/-- THE TIED CARD OF 'laws.FnExactCornerLine'. -/
def fnExactCornerLineCard : Claim7 := { stood := { row := fnExactCornerLineRow, standIns := [], harness := (true, "239ee26b06ce03f3eda765a8731b1ee90a895942af244ceb9b6fd4c4a89d82ed"), looks := true }, kinds := [], alts := [], laidByText := true, laidKinds := [.data, .data, .data], laidTests := true, laidLooks := .later }
def FnExactCornerLineCardSaid : Prop := Claim7.holds Tryz.pinned (.plain (OpenSpec.ofChange fnExactCornerLineSpec)) fnExactCornerLineCard

/-- THE TIED CARD OF 'laws.FnExactFormatRoom'. -/
def fnExactFormatRoomCard : Claim7 := { stood := { row := fnExactFormatRoomRow, standIns := [], harness := (true, "239ee26b06ce03f3eda765a8731b1ee90a895942af244ceb9b6fd4c4a89d82ed"), looks := true }, kinds := [], alts := [], laidByText := true, laidKinds := [.data, .data, .data], laidTests := true, laidLooks := .later }
def FnExactFormatRoomCardSaid : Prop := Claim7.holds Tryz.pinned (.plain (OpenSpec.ofChange fnExactFormatRoomSpec)) fnExactFormatRoomCard

/-- THE TIED CARD OF 'laws.FnExactParseRegion'. -/
def fnExactParseRegionCard : Claim7 := { stood := { row := fnExactParseRegionRow, standIns := [], harness := (true, "239ee26b06ce03f3eda765a8731b1ee90a895942af244ceb9b6fd4c4a89d82ed"), looks := true }, kinds := [], alts := [], laidByText := true, laidKinds := [.data, .data, .data, .sentinel, .sentinel], laidTests := true, laidLooks := .later }
def FnExactParseRegionCardSaid : Prop := Claim7.holds Tryz.pinned (.plain (OpenSpec.ofChange fnExactParseRegionSpec)) fnExactParseRegionCard

/-- THE TIED CARD OF 'laws.FnExactParseRoom'. -/
def fnExactParseRoomCard : Claim7 := { stood := { row := fnExactParseRoomRow, standIns := [], harness := (true, "239ee26b06ce03f3eda765a8731b1ee90a895942af244ceb9b6fd4c4a89d82ed"), looks := true }, kinds := [], alts := [], laidByText := true, laidKinds := [.data, .data, .data, .sentinel, .sentinel], laidTests := true, laidLooks := .later }
def FnExactParseRoomCardSaid : Prop := Claim7.holds Tryz.pinned (.plain (OpenSpec.ofChange fnExactParseRoomSpec)) fnExactParseRoomCard

/-- THE SECOND FORM's CARD OF 'laws.FnExactCornerLine'. -/
def fnExactCornerLineUptoCard : Claim7 := { stood := { row := fnExactCornerLineUptoRow, standIns := [], harness := (true, "239ee26b06ce03f3eda765a8731b1ee90a895942af244ceb9b6fd4c4a89d82ed"), looks := true }, kinds := [], alts := [], laidByText := true, laidKinds := [.data, .data, .data], laidTests := true, laidLooks := .later }
def FnExactCornerLineUptoCardSaid : Prop := Claim7.holds Tryz.pinned (.plain (OpenSpec.upto fnExactCornerLineSpec)) fnExactCornerLineUptoCard

/-- THE SECOND FORM's CARD OF 'laws.FnExactFormatRoom'. -/
def fnExactFormatRoomUptoCard : Claim7 := { stood := { row := fnExactFormatRoomUptoRow, standIns := [], harness := (true, "239ee26b06ce03f3eda765a8731b1ee90a895942af244ceb9b6fd4c4a89d82ed"), looks := true }, kinds := [], alts := [], laidByText := true, laidKinds := [.data, .data, .data], laidTests := true, laidLooks := .later }
def FnExactFormatRoomUptoCardSaid : Prop := Claim7.holds Tryz.pinned (.plain (OpenSpec.upto fnExactFormatRoomSpec)) fnExactFormatRoomUptoCard

/-- THE SECOND FORM's CARD OF 'laws.FnExactParseRegion'. -/
def fnExactParseRegionUptoCard : Claim7 := { stood := { row := fnExactParseRegionUptoRow, standIns := [], harness := (true, "239ee26b06ce03f3eda765a8731b1ee90a895942af244ceb9b6fd4c4a89d82ed"), looks := true }, kinds := [], alts := [], laidByText := true, laidKinds := [.data, .data, .data, .sentinel, .sentinel], laidTests := true, laidLooks := .later }
def FnExactParseRegionUptoCardSaid : Prop := Claim7.holds Tryz.pinned (.plain (OpenSpec.upto fnExactParseRegionSpec)) fnExactParseRegionUptoCard

/-- THE SECOND FORM's CARD OF 'laws.FnExactParseRoom'. -/
def fnExactParseRoomUptoCard : Claim7 := { stood := { row := fnExactParseRoomUptoRow, standIns := [], harness := (true, "239ee26b06ce03f3eda765a8731b1ee90a895942af244ceb9b6fd4c4a89d82ed"), looks := true }, kinds := [], alts := [], laidByText := true, laidKinds := [.data, .data, .data, .sentinel, .sentinel], laidTests := true, laidLooks := .later }
def FnExactParseRoomUptoCardSaid : Prop := Claim7.holds Tryz.pinned (.plain (OpenSpec.upto fnExactParseRoomSpec)) fnExactParseRoomUptoCard
end Rows
end Go.Proofs.YtlgkfjhbimffiaaGreatDoor
