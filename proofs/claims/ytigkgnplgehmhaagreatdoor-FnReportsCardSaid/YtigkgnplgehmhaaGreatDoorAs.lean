/- Contracts of inputs and spans of the program: RatioOf, isDriven, WholeInputs, InSpan, PickInput. -/
import Derived.Test.YtigkgnplgehmhaaGreatDoorRat
import Derived.Test.YtigkgnplgehmhaaGreatDoorPz
import Derived.Deep.RegionHeld3
import Derived.IntWalk
namespace Go.Proofs.YtigkgnplgehmhaaGreatDoor
open Go.ChangeShapes Go.WideShapes Go.ChangeAt Go.RowKit
set_option linter.unusedVariables false



end Go.Proofs.YtigkgnplgehmhaaGreatDoor
