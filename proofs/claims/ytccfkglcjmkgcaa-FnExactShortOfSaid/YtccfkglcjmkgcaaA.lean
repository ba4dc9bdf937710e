/- Contracts of functions on numbers and bounds. -/
import Derived.Test.YtccfkglcjmkgcaaMem
import Derived.Test.YtccfkglcjmkgcaaPlain
namespace Go.Proofs.Ytccfkglcjmkgcaa
open Go.ChangeShapes Go.WideShapes Go.ChangeAt Go.RowKit

theorem l01In_any (n lo hi : Int) (w : World) :
    Calls Try.prog 62 #[.int .i64 n, .int .i64 lo, .int .i64 hi] w fun e w' => e = .returned (.bool (inR n lo hi)) ∧ w = w' := by
  go_enter Try.func62, Try.ntmps62
  go_wp2
  all_goals go_ret
  all_goals exact ⟨ret_bool (by simp [inR, *]; try omega), rfl⟩

theorem inRange_any (n lo hi : Int) (w : World) :
    Calls Try.prog 66 #[.int .i64 n, .int .i64 lo, .int .i64 hi] w fun e w' => e = .returned (.bool (inR n lo hi)) ∧ w = w' := by
  go_enter Try.func66, Try.ntmps66
  go_wp2
  all_goals go_ret
  all_goals exact ⟨ret_bool (by simp [inR, *]; try omega), rfl⟩

theorem isMeasure_any (n : Int) (w : World) :
    Calls Try.prog 63 #[.int .i64 n] w fun e w' => e = .returned (.bool (inR n (-1000) 1000)) ∧ w = w' := by
  go_enter Try.func63, Try.ntmps63
  go_wp2_with (go_at_call 66; refine (inRange_any _ _ _ _).mono ?_; rintro e w' ⟨rfl, rfl⟩)
  go_ret
  exact ⟨rfl, rfl⟩

end Go.Proofs.Ytccfkglcjmkgcaa
