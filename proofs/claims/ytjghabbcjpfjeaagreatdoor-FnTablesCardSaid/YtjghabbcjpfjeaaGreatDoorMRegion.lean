/- Contracts of the helpers on Region: copies, comparisons, sizes, marks. (written by tools/structs.py) -/
import Derived.Test.YtjghabbcjpfjeaaGreatDoorMs
namespace Go.Proofs.YtjghabbcjpfjeaaGreatDoor
open Go.ChangeShapes Go.WideShapes Go.ChangeAt Go.RowKit
set_option linter.unusedVariables false
set_option maxRecDepth 100000

def regionF (r : List Half) : List Fd := [halfF r]
theorem regionF_len (r : List Half) : lenF (regionF r) = [r.length] := rfl
def regionFI (r : List Half) : Prop := (∀ x ∈ r, ∀ z ∈ Half.ints x, I64 z)
end Go.Proofs.YtjghabbcjpfjeaaGreatDoor
