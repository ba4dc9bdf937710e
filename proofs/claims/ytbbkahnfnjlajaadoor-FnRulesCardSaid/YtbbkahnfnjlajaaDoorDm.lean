/- What the drawing functions of fractions and spans return. -/
import Derived.Test.YtbbkahnfnjlajaaDoorDraw
import Derived.Test.YtbbkahnfnjlajaaDoorRat
import Derived.Test.YtbbkahnfnjlajaaDoorPz
namespace Go.Proofs.YtbbkahnfnjlajaaDoor
open Go.ChangeShapes Go.WideShapes Go.ChangeAt Go.RowKit
set_option linter.unusedVariables false



end Go.Proofs.YtbbkahnfnjlajaaDoor
