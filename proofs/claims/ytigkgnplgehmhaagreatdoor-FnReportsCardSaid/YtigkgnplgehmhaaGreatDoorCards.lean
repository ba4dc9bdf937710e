/-
  DERIVED. GIVEN WITH THE SEED: THE CARDS: each row of YtigkgnplgehmhaaGreatDoorRows.lean that lists a variable, with what it lists TIED to the program's text (the seventh form; the later family's looks); each row that meets fmt, with fmt's text TOLD by the authors' own Lean function (tested against real Go, not proved from fmt's source: count such statements apart). THE CARD IS WHAT COUNTS. Prove the row's statement (the work); the ties are given (YtigkgnplgehmhaaGreatDoorTie.lean); close each card by the builder's one call (the guide's Derived/Test/ToyasCard.lean, 'card_holds'). Laid BY PROGRAM, IN A SANDBOX (cutbox-door.mjs). By AI agents, Wed Nov 11 2026. No macro, syntax, notation, axiom, sorry.
-/
import Derived.Test.YtigkgnplgehmhaaGreatDoorRows
import GoSem.ClaimSeven
namespace Go.Proofs.YtigkgnplgehmhaaGreatDoor
namespace Rows

/-- THE TIED CARD OF 'laws.FnExactSpanLine'. -/
def fnExactSpanLineCard : Claim7 := { stood := { row := fnExactSpanLineRow, standIns := [], harness := (true, "55c07400889abd4e24164ccd414c0af260665816a3f2d9b91068459f8afc50dd"), looks := false }, kinds := [], alts := [], laidByText := true, laidKinds := [.data, .data, .data], laidTests := true, laidLooks := .later }
def FnExactSpanLineCardSaid : Prop := Claim7.holds Tryz.pinned (.plain (OpenSpec.ofChange fnExactSpanLineSpec)) fnExactSpanLineCard

/-- THE TIED CARD OF 'laws.FnExactKeptLines'. -/
def fnExactKeptLinesCard : Claim7 := { stood := { row := fnExactKeptLinesRow, standIns := [], harness := (true, "55c07400889abd4e24164ccd414c0af260665816a3f2d9b91068459f8afc50dd"), looks := false }, kinds := [], alts := [], laidByText := true, laidKinds := [.data, .data, .data], laidTests := true, laidLooks := .later }
def FnExactKeptLinesCardSaid : Prop := Claim7.holds Tryz.pinned (.plain (OpenSpec.ofChange fnExactKeptLinesSpec)) fnExactKeptLinesCard

/-- THE TIED CARD OF 'laws.FnReports'. -/
def fnReportsCard : Claim7 := { stood := { row := fnReportsRow, standIns := [], harness := (true, "55c07400889abd4e24164ccd414c0af260665816a3f2d9b91068459f8afc50dd"), looks := false }, kinds := [], alts := [], laidByText := true, laidKinds := [.data, .data, .data], laidTests := true, laidLooks := .later }
def FnReportsCardSaid : Prop := Claim7.holds Tryz.pinned (.plain (OpenSpec.ofChange fnReportsSpec)) fnReportsCard

/-- THE SECOND FORM's CARD OF 'laws.FnExactSpanLine'. -/
def fnExactSpanLineUptoCard : Claim7 := { stood := { row := fnExactSpanLineUptoRow, standIns := [], harness := (true, "55c07400889abd4e24164ccd414c0af260665816a3f2d9b91068459f8afc50dd"), looks := false }, kinds := [], alts := [], laidByText := true, laidKinds := [.data, .data, .data], laidTests := true, laidLooks := .later }
def FnExactSpanLineUptoCardSaid : Prop := Claim7.holds Tryz.pinned (.plain (OpenSpec.upto fnExactSpanLineSpec)) fnExactSpanLineUptoCard

/-- THE SECOND FORM's CARD OF 'laws.FnExactKeptLines'. -/
def fnExactKeptLinesUptoCard : Claim7 := { stood := { row := fnExactKeptLinesUptoRow, standIns := [], harness := (true, "55c07400889abd4e24164ccd414c0af260665816a3f2d9b91068459f8afc50dd"), looks := false }, kinds := [], alts := [], laidByText := true, laidKinds := [.data, .data, .data], laidTests := true, laidLooks := .later }
def FnExactKeptLinesUptoCardSaid : Prop := Claim7.holds Tryz.pinned (.plain (OpenSpec.upto fnExactKeptLinesSpec)) fnExactKeptLinesUptoCard

/-- THE SECOND FORM's CARD OF 'laws.FnReports'. -/
def fnReportsUptoCard : Claim7 := { stood := { row := fnReportsUptoRow, standIns := [], harness := (true, "55c07400889abd4e24164ccd414c0af260665816a3f2d9b91068459f8afc50dd"), looks := false }, kinds := [], alts := [], laidByText := true, laidKinds := [.data, .data, .data], laidTests := true, laidLooks := .later }
def FnReportsUptoCardSaid : Prop := Claim7.holds Tryz.pinned (.plain (OpenSpec.upto fnReportsSpec)) fnReportsUptoCard
end Rows
end Go.Proofs.YtigkgnplgehmhaaGreatDoor
