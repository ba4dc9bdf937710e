/- Contracts of functions on numbers and bounds. -/
import Derived.Test.YtbbkahnfnjlajaaMem
import Derived.Test.YtbbkahnfnjlajaaPlain
namespace Go.Proofs.Ytbbkahnfnjlajaa
open Go.ChangeShapes Go.WideShapes Go.ChangeAt Go.RowKit

theorem l01In_any (n lo hi : Int) (w : World) :
    Calls Try.prog 49 #[.int .i64 n, .int .i64 lo, .int .i64 hi] w fun e w' => e = .returned (.bool (inR n lo hi)) ∧ w = w' := by
  go_enter Try.func49, Try.ntmps49
  go_wp2
  all_goals go_ret
  all_goals exact ⟨ret_bool (by simp [inR, *]; try omega), rfl⟩

theorem inRange_any (n lo hi : Int) (w : World) :
    Calls Try.prog 74 #[.int .i64 n, .int .i64 lo, .int .i64 hi] w fun e w' => e = .returned (.bool (inR n lo hi)) ∧ w = w' := by
  go_enter Try.func74, Try.ntmps74
  go_wp2
  all_goals go_ret
  all_goals exact ⟨ret_bool (by simp [inR, *]; try omega), rfl⟩


end Go.Proofs.Ytbbkahnfnjlajaa
