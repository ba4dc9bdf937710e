/- Contracts of spans, and of AskOf. -/
import Derived.Test.YtnkkfjlnjhmahaaQC
import Derived.Test.YtnkkfjlnjhmahaaPz
import Derived.Test.YtnkkfjlnjhmahaaK
import Derived.Test.YtnkkfjlnjhmahaaHz
import Derived.Deep.RegionHeld3
namespace Go.Proofs.Ytnkkfjlnjhmahaa
open Go.ChangeShapes Go.WideShapes Go.ChangeAt Go.RowKit
set_option linter.unusedVariables false






end Go.Proofs.Ytnkkfjlnjhmahaa
