/- Contracts of IsAllotment and UnusedOf of the program and of the reference. -/
import Derived.Test.YtfnmbpjkjajpcaaGreatDoorFbC
namespace Go.Proofs.YtfnmbpjkjajpcaaGreatDoor
open Go.ChangeShapes Go.WideShapes Go.ChangeAt Go.RowKit
end Go.Proofs.YtfnmbpjkjajpcaaGreatDoor
