/- Contracts of the sums of a shared chiller, and of IsAllotment, UnusedOf. -/
import Derived.Test.YtlfepobnmmkcmaaGreatDoorK
namespace Go.Proofs.YtlfepobnmmkcmaaGreatDoor
open Go.ChangeShapes Go.WideShapes Go.ChangeAt Go.RowKit





end Go.Proofs.YtlfepobnmmkcmaaGreatDoor
