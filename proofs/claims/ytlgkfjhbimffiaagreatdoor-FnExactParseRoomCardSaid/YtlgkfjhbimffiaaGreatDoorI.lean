/- Contracts of IsAllotment and UnusedOf of the program and of the reference. -/
import Derived.Test.YtlgkfjhbimffiaaGreatDoorC
namespace Go.Proofs.YtlgkfjhbimffiaaGreatDoor
open Go.ChangeShapes Go.WideShapes Go.ChangeAt Go.RowKit


end Go.Proofs.YtlgkfjhbimffiaaGreatDoor
