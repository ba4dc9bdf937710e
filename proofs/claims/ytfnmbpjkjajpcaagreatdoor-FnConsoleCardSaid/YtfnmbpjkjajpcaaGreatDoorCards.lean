/-
  DERIVED. GIVEN WITH THE SEED: THE CARDS: each row of YtfnmbpjkjajpcaaGreatDoorRows.lean that lists a variable, with what it lists TIED to the program's text (the seventh form; the later family's looks); each row that meets fmt, with fmt's text TOLD by the authors' own Lean function (tested against real Go, not proved from fmt's source: count such statements apart). THE CARD IS WHAT COUNTS. Prove the row's statement (the work); the ties are given (YtfnmbpjkjajpcaaGreatDoorTie.lean); close each card by the builder's one call (the guide's Derived/Test/ToyasCard.lean, 'card_holds'). Laid BY PROGRAM, IN A SANDBOX (cutbox-door.mjs). By AI agents, Wed Nov 11 2026. No macro, syntax, notation, axiom, sorry.
-/
import Derived.Test.YtfnmbpjkjajpcaaGreatDoorRows
import GoSem.ClaimSeven
namespace Go.Proofs.YtfnmbpjkjajpcaaGreatDoor
namespace Rows

/-- THE TIED CARD OF 'laws.FnConfirms'. -/
def fnConfirmsCard : Claim7 := { stood := { row := fnConfirmsRow, standIns := [], harness := (true, "0d718c842cc37cf54b9676788dc37f9895e5ba98a15c517b689ecb55b9b58a8d"), looks := true }, kinds := [], alts := [], laidByText := true, laidKinds := [.data, .data, .data, .data, .sentinel, .sentinel, .pinned], laidTests := true, laidLooks := .later }
def FnConfirmsCardSaid : Prop := Claim7.holds Tryz.pinned (.plain (OpenSpec.ofChange fnConfirmsSpec)) fnConfirmsCard

/-- THE TIED CARD OF 'laws.FnConsole'. -/
def fnConsoleCard : Claim7 := { stood := { row := fnConsoleRow, standIns := [], harness := (true, "0d718c842cc37cf54b9676788dc37f9895e5ba98a15c517b689ecb55b9b58a8d"), looks := true }, kinds := [], alts := [], laidByText := true, laidKinds := [.data, .data, .data, .data, .sentinel, .sentinel, .pinned], laidTests := true, laidLooks := .later }
def FnConsoleCardSaid : Prop := Claim7.holds Tryz.pinned (.plain (OpenSpec.ofChange fnConsoleSpec)) fnConsoleCard

/-- THE TIED CARD OF 'laws.FnExactRunSession'. -/
def fnExactRunSessionCard : Claim7 := { stood := { row := fnExactRunSessionRow, standIns := [], harness := (true, "0d718c842cc37cf54b9676788dc37f9895e5ba98a15c517b689ecb55b9b58a8d"), looks := true }, kinds := [], alts := [], laidByText := true, laidKinds := [.data, .data, .data, .data, .sentinel, .sentinel, .pinned], laidTests := true, laidLooks := .later }
def FnExactRunSessionCardSaid : Prop := Claim7.holds Tryz.pinned (.plain (OpenSpec.ofChange fnExactRunSessionSpec)) fnExactRunSessionCard

/-- THE TIED CARD OF 'laws.FnExactRunLine'. -/
def fnExactRunLineCard : Claim7 := { stood := { row := fnExactRunLineRow, standIns := [], harness := (true, "0d718c842cc37cf54b9676788dc37f9895e5ba98a15c517b689ecb55b9b58a8d"), looks := true }, kinds := [], alts := [], laidByText := true, laidKinds := [.data, .data, .data, .sentinel, .sentinel], laidTests := true, laidLooks := .later }
def FnExactRunLineCardSaid : Prop := Claim7.holds Tryz.pinned (.plain (OpenSpec.ofChange fnExactRunLineSpec)) fnExactRunLineCard

/-- THE SECOND FORM's CARD OF 'laws.FnConfirms'. -/
def fnConfirmsUptoCard : Claim7 := { stood := { row := fnConfirmsUptoRow, standIns := [], harness := (true, "0d718c842cc37cf54b9676788dc37f9895e5ba98a15c517b689ecb55b9b58a8d"), looks := true }, kinds := [], alts := [], laidByText := true, laidKinds := [.data, .data, .data, .data, .sentinel, .sentinel, .pinned], laidTests := true, laidLooks := .later }
def FnConfirmsUptoCardSaid : Prop := Claim7.holds Tryz.pinned (.plain (OpenSpec.upto fnConfirmsSpec)) fnConfirmsUptoCard

/-- THE SECOND FORM's CARD OF 'laws.FnConsole'. -/
def fnConsoleUptoCard : Claim7 := { stood := { row := fnConsoleUptoRow, standIns := [], harness := (true, "0d718c842cc37cf54b9676788dc37f9895e5ba98a15c517b689ecb55b9b58a8d"), looks := true }, kinds := [], alts := [], laidByText := true, laidKinds := [.data, .data, .data, .data, .sentinel, .sentinel, .pinned], laidTests := true, laidLooks := .later }
def FnConsoleUptoCardSaid : Prop := Claim7.holds Tryz.pinned (.plain (OpenSpec.upto fnConsoleSpec)) fnConsoleUptoCard

/-- THE SECOND FORM's CARD OF 'laws.FnExactRunSession'. -/
def fnExactRunSessionUptoCard : Claim7 := { stood := { row := fnExactRunSessionUptoRow, standIns := [], harness := (true, "0d718c842cc37cf54b9676788dc37f9895e5ba98a15c517b689ecb55b9b58a8d"), looks := true }, kinds := [], alts := [], laidByText := true, laidKinds := [.data, .data, .data, .data, .sentinel, .sentinel, .pinned], laidTests := true, laidLooks := .later }
def FnExactRunSessionUptoCardSaid : Prop := Claim7.holds Tryz.pinned (.plain (OpenSpec.upto fnExactRunSessionSpec)) fnExactRunSessionUptoCard

/-- THE SECOND FORM's CARD OF 'laws.FnExactRunLine'. -/
def fnExactRunLineUptoCard : Claim7 := { stood := { row := fnExactRunLineUptoRow, standIns := [], harness := (true, "0d718c842cc37cf54b9676788dc37f9895e5ba98a15c517b689ecb55b9b58a8d"), looks := true }, kinds := [], alts := [], laidByText := true, laidKinds := [.data, .data, .data, .sentinel, .sentinel], laidTests := true, laidLooks := .later }
def FnExactRunLineUptoCardSaid : Prop := Claim7.holds Tryz.pinned (.plain (OpenSpec.upto fnExactRunLineSpec)) fnExactRunLineUptoCard
end Rows
end Go.Proofs.YtfnmbpjkjajpcaaGreatDoor
