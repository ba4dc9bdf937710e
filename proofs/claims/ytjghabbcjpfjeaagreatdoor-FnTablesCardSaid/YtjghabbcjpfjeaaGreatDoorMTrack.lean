/- Contracts of the helpers on Track: copies, comparisons, sizes, marks. (written by tools/structs.py) -/
import Derived.Test.YtjghabbcjpfjeaaGreatDoorMs
namespace Go.Proofs.YtjghabbcjpfjeaaGreatDoor
open Go.ChangeShapes Go.WideShapes Go.ChangeAt Go.RowKit
set_option linter.unusedVariables false
set_option maxRecDepth 100000

structure Track where
  Spots : List Spot
  Inputs : List Ratio
def trackF (r : Track) : List Fd := [spotF r.Spots, ratioF r.Inputs]
theorem trackF_len (r : Track) : lenF (trackF r) = [r.Spots.length, r.Inputs.length] := rfl
def trackFI (r : Track) : Prop := (∀ x ∈ r.Spots, ∀ z ∈ Spot.ints x, I64 z) ∧ (∀ x ∈ r.Inputs, ∀ z ∈ Ratio.ints x, I64 z)
end Go.Proofs.YtjghabbcjpfjeaaGreatDoor
