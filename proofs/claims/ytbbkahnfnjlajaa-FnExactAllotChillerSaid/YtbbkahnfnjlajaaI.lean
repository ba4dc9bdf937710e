/- Contracts of IsAllotment and UnusedOf of the program and of the reference. -/
import Derived.Test.YtbbkahnfnjlajaaC
namespace Go.Proofs.Ytbbkahnfnjlajaa
open Go.ChangeShapes Go.WideShapes Go.ChangeAt Go.RowKit


end Go.Proofs.Ytbbkahnfnjlajaa
