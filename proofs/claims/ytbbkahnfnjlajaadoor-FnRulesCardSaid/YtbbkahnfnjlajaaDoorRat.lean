/- Contracts of fractions: RatioOf, RatioMin, RatioMax, whole; CheapestInput. -/
import Derived.Test.YtbbkahnfnjlajaaDoorSp
import Derived.Test.YtbbkahnfnjlajaaDoorPz
import Derived.Deep.RegionHeld3
namespace Go.Proofs.YtbbkahnfnjlajaaDoor
open Go.ChangeShapes Go.WideShapes Go.ChangeAt Go.RowKit
set_option linter.unusedVariables false







end Go.Proofs.YtbbkahnfnjlajaaDoor
