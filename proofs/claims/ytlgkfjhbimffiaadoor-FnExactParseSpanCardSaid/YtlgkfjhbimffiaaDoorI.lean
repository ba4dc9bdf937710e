/- Contracts of IsAllotment and UnusedOf of the program and of the reference. -/
import Derived.Test.YtlgkfjhbimffiaaDoorC
namespace Go.Proofs.YtlgkfjhbimffiaaDoor
open Go.ChangeShapes Go.WideShapes Go.ChangeAt Go.RowKit


end Go.Proofs.YtlgkfjhbimffiaaDoor
