/-
  DERIVED. GIVEN WITH THE SEED: THE CARDS: each row of YtjghabbcjpfjeaaGreatDoorRows.lean that lists a variable, with what it lists TIED to the program's text (the seventh form; the later family's looks); each row that meets fmt, with fmt's text TOLD by the authors' own Lean function (tested against real Go, not proved from fmt's source: count such statements apart). THE CARD IS WHAT COUNTS. Prove the row's statement (the work); the ties are given (YtjghabbcjpfjeaaGreatDoorTie.lean); close each card by the builder's one call (the guide's Derived/Test/ToyasCard.lean, 'card_holds'). Laid BY PROGRAM, IN A SANDBOX (cutbox-door.mjs). By AI agents, Wed Nov 11 2026. No macro, syntax, notation, axiom, sorry.
-/
import Derived.Test.YtjghabbcjpfjeaaGreatDoorRows
import GoSem.ClaimSeven
namespace Go.Proofs.YtjghabbcjpfjeaaGreatDoor
namespace Rows

/-- THE TIED CARD OF 'laws.FnTables'. -/
def fnTablesCard : Claim7 := { stood := { row := fnTablesRow, standIns := [], harness := (true, "09a918f215014f4b38d0113d8b6ddd04e180fe98440361a72b0c2ccb92cb68ef"), looks := false }, kinds := [], alts := [], laidByText := true, laidKinds := [.data, .data, .data], laidTests := true, laidLooks := .later }
def FnTablesCardSaid : Prop := Claim7.holds Tryz.pinned (.plain (OpenSpec.ofChange fnTablesSpec)) fnTablesCard

/-- THE TIED CARD OF 'laws.FnLoops'. -/
def fnLoopsCard : Claim7 := { stood := { row := fnLoopsRow, standIns := [], harness := (true, "09a918f215014f4b38d0113d8b6ddd04e180fe98440361a72b0c2ccb92cb68ef"), looks := false }, kinds := [], alts := [], laidByText := true, laidKinds := [.data, .data, .data], laidTests := true, laidLooks := .later }
def FnLoopsCardSaid : Prop := Claim7.holds Tryz.pinned (.plain (OpenSpec.ofChange fnLoopsSpec)) fnLoopsCard

/-- THE SECOND FORM's CARD OF 'laws.FnTables'. -/
def fnTablesUptoCard : Claim7 := { stood := { row := fnTablesUptoRow, standIns := [], harness := (true, "09a918f215014f4b38d0113d8b6ddd04e180fe98440361a72b0c2ccb92cb68ef"), looks := false }, kinds := [], alts := [], laidByText := true, laidKinds := [.data, .data, .data], laidTests := true, laidLooks := .later }
def FnTablesUptoCardSaid : Prop := Claim7.holds Tryz.pinned (.plain (OpenSpec.upto fnTablesSpec)) fnTablesUptoCard

/-- THE SECOND FORM's CARD OF 'laws.FnLoops'. -/
def fnLoopsUptoCard : Claim7 := { stood := { row := fnLoopsUptoRow, standIns := [], harness := (true, "09a918f215014f4b38d0113d8b6ddd04e180fe98440361a72b0c2ccb92cb68ef"), looks := false }, kinds := [], alts := [], laidByText := true, laidKinds := [.data, .data, .data], laidTests := true, laidLooks := .later }
def FnLoopsUptoCardSaid : Prop := Claim7.holds Tryz.pinned (.plain (OpenSpec.upto fnLoopsSpec)) fnLoopsUptoCard
end Rows
end Go.Proofs.YtjghabbcjpfjeaaGreatDoor
