/- Contracts of IsAllotment and UnusedOf of the program and of the reference. -/
import Derived.Test.YtlfepobnmmkcmaaGreatDoorC
namespace Go.Proofs.YtlfepobnmmkcmaaGreatDoor
open Go.ChangeShapes Go.WideShapes Go.ChangeAt Go.RowKit


end Go.Proofs.YtlfepobnmmkcmaaGreatDoor
