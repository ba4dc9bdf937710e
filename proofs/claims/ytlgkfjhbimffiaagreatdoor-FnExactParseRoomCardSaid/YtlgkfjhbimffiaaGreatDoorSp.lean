/- Contracts of spans, and of AskOf. -/
import Derived.Test.YtlgkfjhbimffiaaGreatDoorQC
import Derived.Test.YtlgkfjhbimffiaaGreatDoorPz
import Derived.Test.YtlgkfjhbimffiaaGreatDoorK
import Derived.Test.YtlgkfjhbimffiaaGreatDoorHz
import Derived.Deep.RegionHeld3
namespace Go.Proofs.YtlgkfjhbimffiaaGreatDoor
open Go.ChangeShapes Go.WideShapes Go.ChangeAt Go.RowKit
set_option linter.unusedVariables false






end Go.Proofs.YtlgkfjhbimffiaaGreatDoor
