/-
  DERIVED. GIVEN WITH THE SEED: THE CARDS: each row of YtbbkahnfnjlajaaDoorRows.lean that lists a variable, with what it lists TIED to the program's text (the seventh form; the later family's looks); each row that meets fmt, with fmt's text TOLD by the authors' own Lean function (tested against real Go, not proved from fmt's source: count such statements apart). THE CARD IS WHAT COUNTS. Prove the row's statement (the work); the ties are given (YtbbkahnfnjlajaaDoorTie.lean); close each card by the builder's one call (the guide's Derived/Test/ToyasCard.lean, 'card_holds'). Laid BY PROGRAM, IN A SANDBOX (cutbox-door.mjs). By AI agents, Wed Nov 11 2026. No macro, syntax, notation, axiom, sorry.
-/
import Derived.Test.YtbbkahnfnjlajaaDoorRows
import GoSem.ClaimSeven
namespace Go.Proofs.YtbbkahnfnjlajaaDoor
namespace Rows

/-- THE TIED CARD OF 'laws.FnRules'. -/
def fnRulesCard : Claim7 := { stood := { row := fnRulesRow, standIns := [], harness := (true, "c73517694c7644b9face3f15ac57e1b7927c0a800e2d250096c1d2ee7ce3aeab"), looks := false }, kinds := [], alts := [], laidByText := true, laidKinds := [.data, .data, .data], laidTests := true, laidLooks := .later }
def FnRulesCardSaid : Prop := Claim7.holds Tryd.pinned (.plain (OpenSpec.ofChange fnRulesSpec)) fnRulesCard

/-- THE TIED CARD OF 'laws.FnAllots'. -/
def fnAllotsCard : Claim7 := { stood := { row := fnAllotsRow, standIns := [], harness := (true, "c73517694c7644b9face3f15ac57e1b7927c0a800e2d250096c1d2ee7ce3aeab"), looks := false }, kinds := [], alts := [], laidByText := true, laidKinds := [.data, .data, .data], laidTests := true, laidLooks := .later }
def FnAllotsCardSaid : Prop := Claim7.holds Tryd.pinned (.plain (OpenSpec.ofChange fnAllotsSpec)) fnAllotsCard

/-- THE TIED CARD OF 'laws.FnExactFormatHalf'. -/
def fnExactFormatHalfCard : Claim7 := { stood := { row := fnExactFormatHalfRow, standIns := [], harness := (true, "c73517694c7644b9face3f15ac57e1b7927c0a800e2d250096c1d2ee7ce3aeab"), looks := false }, kinds := [], alts := [], laidByText := true, laidKinds := [.data, .data, .data], laidTests := true, laidLooks := .later }
def FnExactFormatHalfCardSaid : Prop := Claim7.holds Tryd.pinned (.plain (OpenSpec.ofChange fnExactFormatHalfSpec)) fnExactFormatHalfCard

/-- THE TIED CARD OF 'laws.FnExactBreachLine'. -/
def fnExactBreachLineCard : Claim7 := { stood := { row := fnExactBreachLineRow, standIns := [], harness := (true, "c73517694c7644b9face3f15ac57e1b7927c0a800e2d250096c1d2ee7ce3aeab"), looks := false }, kinds := [], alts := [], laidByText := true, laidKinds := [.data, .data, .data], laidTests := true, laidLooks := .later }
def FnExactBreachLineCardSaid : Prop := Claim7.holds Tryd.pinned (.plain (OpenSpec.ofChange fnExactBreachLineSpec)) fnExactBreachLineCard

/-- THE TIED CARD OF 'laws.FnExactFormatSpan'. -/
def fnExactFormatSpanCard : Claim7 := { stood := { row := fnExactFormatSpanRow, standIns := [], harness := (true, "c73517694c7644b9face3f15ac57e1b7927c0a800e2d250096c1d2ee7ce3aeab"), looks := false }, kinds := [], alts := [], laidByText := true, laidKinds := [.data, .data, .data], laidTests := true, laidLooks := .later }
def FnExactFormatSpanCardSaid : Prop := Claim7.holds Tryd.pinned (.plain (OpenSpec.ofChange fnExactFormatSpanSpec)) fnExactFormatSpanCard

/-- THE TIED CARD OF 'laws.FnExactWatchLine'. -/
def fnExactWatchLineCard : Claim7 := { stood := { row := fnExactWatchLineRow, standIns := [], harness := (true, "c73517694c7644b9face3f15ac57e1b7927c0a800e2d250096c1d2ee7ce3aeab"), looks := false }, kinds := [], alts := [], laidByText := true, laidKinds := [.data, .data, .data], laidTests := true, laidLooks := .later }
def FnExactWatchLineCardSaid : Prop := Claim7.holds Tryd.pinned (.plain (OpenSpec.ofChange fnExactWatchLineSpec)) fnExactWatchLineCard

/-- THE SECOND FORM's CARD OF 'laws.FnRules'. -/
def fnRulesUptoCard : Claim7 := { stood := { row := fnRulesUptoRow, standIns := [], harness := (true, "c73517694c7644b9face3f15ac57e1b7927c0a800e2d250096c1d2ee7ce3aeab"), looks := false }, kinds := [], alts := [], laidByText := true, laidKinds := [.data, .data, .data], laidTests := true, laidLooks := .later }
def FnRulesUptoCardSaid : Prop := Claim7.holds Tryd.pinned (.plain (OpenSpec.upto fnRulesSpec)) fnRulesUptoCard

/-- THE SECOND FORM's CARD OF 'laws.FnAllots'. -/
def fnAllotsUptoCard : Claim7 := { stood := { row := fnAllotsUptoRow, standIns := [], harness := (true, "c73517694c7644b9face3f15ac57e1b7927c0a800e2d250096c1d2ee7ce3aeab"), looks := false }, kinds := [], alts := [], laidByText := true, laidKinds := [.data, .data, .data], laidTests := true, laidLooks := .later }
def FnAllotsUptoCardSaid : Prop := Claim7.holds Tryd.pinned (.plain (OpenSpec.upto fnAllotsSpec)) fnAllotsUptoCard

/-- THE SECOND FORM's CARD OF 'laws.FnExactFormatHalf'. -/
def fnExactFormatHalfUptoCard : Claim7 := { stood := { row := fnExactFormatHalfUptoRow, standIns := [], harness := (true, "c73517694c7644b9face3f15ac57e1b7927c0a800e2d250096c1d2ee7ce3aeab"), looks := false }, kinds := [], alts := [], laidByText := true, laidKinds := [.data, .data, .data], laidTests := true, laidLooks := .later }
def FnExactFormatHalfUptoCardSaid : Prop := Claim7.holds Tryd.pinned (.plain (OpenSpec.upto fnExactFormatHalfSpec)) fnExactFormatHalfUptoCard

/-- THE SECOND FORM's CARD OF 'laws.FnExactBreachLine'. -/
def fnExactBreachLineUptoCard : Claim7 := { stood := { row := fnExactBreachLineUptoRow, standIns := [], harness := (true, "c73517694c7644b9face3f15ac57e1b7927c0a800e2d250096c1d2ee7ce3aeab"), looks := false }, kinds := [], alts := [], laidByText := true, laidKinds := [.data, .data, .data], laidTests := true, laidLooks := .later }
def FnExactBreachLineUptoCardSaid : Prop := Claim7.holds Tryd.pinned (.plain (OpenSpec.upto fnExactBreachLineSpec)) fnExactBreachLineUptoCard

/-- THE SECOND FORM's CARD OF 'laws.FnExactFormatSpan'. -/
def fnExactFormatSpanUptoCard : Claim7 := { stood := { row := fnExactFormatSpanUptoRow, standIns := [], harness := (true, "c73517694c7644b9face3f15ac57e1b7927c0a800e2d250096c1d2ee7ce3aeab"), looks := false }, kinds := [], alts := [], laidByText := true, laidKinds := [.data, .data, .data], laidTests := true, laidLooks := .later }
def FnExactFormatSpanUptoCardSaid : Prop := Claim7.holds Tryd.pinned (.plain (OpenSpec.upto fnExactFormatSpanSpec)) fnExactFormatSpanUptoCard

/-- THE SECOND FORM's CARD OF 'laws.FnExactWatchLine'. -/
def fnExactWatchLineUptoCard : Claim7 := { stood := { row := fnExactWatchLineUptoRow, standIns := [], harness := (true, "c73517694c7644b9face3f15ac57e1b7927c0a800e2d250096c1d2ee7ce3aeab"), looks := false }, kinds := [], alts := [], laidByText := true, laidKinds := [.data, .data, .data], laidTests := true, laidLooks := .later }
def FnExactWatchLineUptoCardSaid : Prop := Claim7.holds Tryd.pinned (.plain (OpenSpec.upto fnExactWatchLineSpec)) fnExactWatchLineUptoCard
end Rows
end Go.Proofs.YtbbkahnfnjlajaaDoor
