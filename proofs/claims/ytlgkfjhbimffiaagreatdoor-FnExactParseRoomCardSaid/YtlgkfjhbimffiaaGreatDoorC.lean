/- Contracts of the sums of a shared chiller, and of IsAllotment, UnusedOf. -/
import Derived.Test.YtlgkfjhbimffiaaGreatDoorK
namespace Go.Proofs.YtlgkfjhbimffiaaGreatDoor
open Go.ChangeShapes Go.WideShapes Go.ChangeAt Go.RowKit





end Go.Proofs.YtlgkfjhbimffiaaGreatDoor
