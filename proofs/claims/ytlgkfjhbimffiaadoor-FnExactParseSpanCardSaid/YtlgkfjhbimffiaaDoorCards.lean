/-
  DERIVED. GIVEN WITH THE SEED: THE CARDS: each row of YtlgkfjhbimffiaaDoorRows.lean that lists a variable, with what it lists TIED to the program's text (the seventh form; the later family's looks); each row that meets fmt, with fmt's text TOLD by the authors' own Lean function (tested against real Go, not proved from fmt's source: count such statements apart). THE CARD IS WHAT COUNTS. Prove the row's statement (the work); the ties are given (YtlgkfjhbimffiaaDoorTie.lean); close each card by the builder's one call (the guide's Derived/Test/ToyasCard.lean, 'card_holds'). Laid BY PROGRAM, IN A SANDBOX (cutbox-door.mjs). By AI agents, Wed Nov 11 2026. No macro, syntax, notation, axiom, sorry.
-/
import Derived.Test.YtlgkfjhbimffiaaDoorRows
import GoSem.ClaimSeven
namespace Go.Proofs.YtlgkfjhbimffiaaDoor
namespace Rows

/-- THE TIED CARD OF 'laws.FnExactFormatTable'. -/
def fnExactFormatTableCard : Claim7 := { stood := { row := fnExactFormatTableRow, standIns := [], harness := (true, "ac1bd57bfcdc026183771a3c690db70b308771330c221c9f2bd2ba9e11be7e63"), looks := true }, kinds := [], alts := [], laidByText := true, laidKinds := [.data, .data, .data], laidTests := true, laidLooks := .later }
def FnExactFormatTableCardSaid : Prop := Claim7.holds Tryd.pinned (.plain (OpenSpec.ofChange fnExactFormatTableSpec)) fnExactFormatTableCard

/-- THE TIED CARD OF 'laws.FnExactTrackLines'. -/
def fnExactTrackLinesCard : Claim7 := { stood := { row := fnExactTrackLinesRow, standIns := [], harness := (true, "ac1bd57bfcdc026183771a3c690db70b308771330c221c9f2bd2ba9e11be7e63"), looks := true }, kinds := [], alts := [], laidByText := true, laidKinds := [.data, .data, .data], laidTests := true, laidLooks := .later }
def FnExactTrackLinesCardSaid : Prop := Claim7.holds Tryd.pinned (.plain (OpenSpec.ofChange fnExactTrackLinesSpec)) fnExactTrackLinesCard

/-- THE TIED CARD OF 'laws.FnExactAllotLine'. -/
def fnExactAllotLineCard : Claim7 := { stood := { row := fnExactAllotLineRow, standIns := [], harness := (true, "ac1bd57bfcdc026183771a3c690db70b308771330c221c9f2bd2ba9e11be7e63"), looks := true }, kinds := [], alts := [], laidByText := true, laidKinds := [.data, .data, .data], laidTests := true, laidLooks := .later }
def FnExactAllotLineCardSaid : Prop := Claim7.holds Tryd.pinned (.plain (OpenSpec.ofChange fnExactAllotLineSpec)) fnExactAllotLineCard

/-- THE TIED CARD OF 'laws.FnExactParseHalf'. -/
def fnExactParseHalfCard : Claim7 := { stood := { row := fnExactParseHalfRow, standIns := [], harness := (true, "ac1bd57bfcdc026183771a3c690db70b308771330c221c9f2bd2ba9e11be7e63"), looks := true }, kinds := [], alts := [], laidByText := true, laidKinds := [.data, .data, .data, .sentinel, .sentinel], laidTests := true, laidLooks := .later }
def FnExactParseHalfCardSaid : Prop := Claim7.holds Tryd.pinned (.plain (OpenSpec.ofChange fnExactParseHalfSpec)) fnExactParseHalfCard

/-- THE TIED CARD OF 'laws.FnExactParseSpan'. -/
def fnExactParseSpanCard : Claim7 := { stood := { row := fnExactParseSpanRow, standIns := [], harness := (true, "ac1bd57bfcdc026183771a3c690db70b308771330c221c9f2bd2ba9e11be7e63"), looks := true }, kinds := [], alts := [], laidByText := true, laidKinds := [.data, .data, .data, .sentinel, .sentinel], laidTests := true, laidLooks := .later }
def FnExactParseSpanCardSaid : Prop := Claim7.holds Tryd.pinned (.plain (OpenSpec.ofChange fnExactParseSpanSpec)) fnExactParseSpanCard

/-- THE TIED CARD OF 'laws.FnExactFormatRegion'. -/
def fnExactFormatRegionCard : Claim7 := { stood := { row := fnExactFormatRegionRow, standIns := [], harness := (true, "ac1bd57bfcdc026183771a3c690db70b308771330c221c9f2bd2ba9e11be7e63"), looks := true }, kinds := [], alts := [], laidByText := true, laidKinds := [.data, .data, .data], laidTests := true, laidLooks := .later }
def FnExactFormatRegionCardSaid : Prop := Claim7.holds Tryd.pinned (.plain (OpenSpec.ofChange fnExactFormatRegionSpec)) fnExactFormatRegionCard

/-- THE SECOND FORM's CARD OF 'laws.FnExactFormatTable'. -/
def fnExactFormatTableUptoCard : Claim7 := { stood := { row := fnExactFormatTableUptoRow, standIns := [], harness := (true, "ac1bd57bfcdc026183771a3c690db70b308771330c221c9f2bd2ba9e11be7e63"), looks := true }, kinds := [], alts := [], laidByText := true, laidKinds := [.data, .data, .data], laidTests := true, laidLooks := .later }
def FnExactFormatTableUptoCardSaid : Prop := Claim7.holds Tryd.pinned (.plain (OpenSpec.upto fnExactFormatTableSpec)) fnExactFormatTableUptoCard

/-- THE SECOND FORM's CARD OF 'laws.FnExactTrackLines'. -/
def fnExactTrackLinesUptoCard : Claim7 := { stood := { row := fnExactTrackLinesUptoRow, standIns := [], harness := (true, "ac1bd57bfcdc026183771a3c690db70b308771330c221c9f2bd2ba9e11be7e63"), looks := true }, kinds := [], alts := [], laidByText := true, laidKinds := [.data, .data, .data], laidTests := true, laidLooks := .later }
def FnExactTrackLinesUptoCardSaid : Prop := Claim7.holds Tryd.pinned (.plain (OpenSpec.upto fnExactTrackLinesSpec)) fnExactTrackLinesUptoCard

/-- THE SECOND FORM's CARD OF 'laws.FnExactAllotLine'. -/
def fnExactAllotLineUptoCard : Claim7 := { stood := { row := fnExactAllotLineUptoRow, standIns := [], harness := (true, "ac1bd57bfcdc026183771a3c690db70b308771330c221c9f2bd2ba9e11be7e63"), looks := true }, kinds := [], alts := [], laidByText := true, laidKinds := [.data, .data, .data], laidTests := true, laidLooks := .later }
def FnExactAllotLineUptoCardSaid : Prop := Claim7.holds Tryd.pinned (.plain (OpenSpec.upto fnExactAllotLineSpec)) fnExactAllotLineUptoCard

/-- THE SECOND FORM's CARD OF 'laws.FnExactParseHalf'. -/
def fnExactParseHalfUptoCard : Claim7 := { stood := { row := fnExactParseHalfUptoRow, standIns := [], harness := (true, "ac1bd57bfcdc026183771a3c690db70b308771330c221c9f2bd2ba9e11be7e63"), looks := true }, kinds := [], alts := [], laidByText := true, laidKinds := [.data, .data, .data, .sentinel, .sentinel], laidTests := true, laidLooks := .later }
def FnExactParseHalfUptoCardSaid : Prop := Claim7.holds Tryd.pinned (.plain (OpenSpec.upto fnExactParseHalfSpec)) fnExactParseHalfUptoCard

/-- THE SECOND FORM's CARD OF 'laws.FnExactParseSpan'. -/
def fnExactParseSpanUptoCard : Claim7 := { stood := { row := fnExactParseSpanUptoRow, standIns := [], harness := (true, "ac1bd57bfcdc026183771a3c690db70b308771330c221c9f2bd2ba9e11be7e63"), looks := true }, kinds := [], alts := [], laidByText := true, laidKinds := [.data, .data, .data, .sentinel, .sentinel], laidTests := true, laidLooks := .later }
def FnExactParseSpanUptoCardSaid : Prop := Claim7.holds Tryd.pinned (.plain (OpenSpec.upto fnExactParseSpanSpec)) fnExactParseSpanUptoCard

/-- THE SECOND FORM's CARD OF 'laws.FnExactFormatRegion'. -/
def fnExactFormatRegionUptoCard : Claim7 := { stood := { row := fnExactFormatRegionUptoRow, standIns := [], harness := (true, "ac1bd57bfcdc026183771a3c690db70b308771330c221c9f2bd2ba9e11be7e63"), looks := true }, kinds := [], alts := [], laidByText := true, laidKinds := [.data, .data, .data], laidTests := true, laidLooks := .later }
def FnExactFormatRegionUptoCardSaid : Prop := Claim7.holds Tryd.pinned (.plain (OpenSpec.upto fnExactFormatRegionSpec)) fnExactFormatRegionUptoCard
end Rows
end Go.Proofs.YtlgkfjhbimffiaaDoor
