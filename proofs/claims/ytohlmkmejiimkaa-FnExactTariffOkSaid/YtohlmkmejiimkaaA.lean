/- Contracts of functions on numbers and bounds. -/
import Derived.Test.YtohlmkmejiimkaaMem
import Derived.Test.YtohlmkmejiimkaaPlain
namespace Go.Proofs.Ytohlmkmejiimkaa
open Go.ChangeShapes Go.WideShapes Go.ChangeAt Go.RowKit

theorem l01In_any (n lo hi : Int) (w : World) :
    Calls Try.prog 30 #[.int .i64 n, .int .i64 lo, .int .i64 hi] w fun e w' => e = .returned (.bool (inR n lo hi)) ∧ w = w' := by
  go_enter Try.func30, Try.ntmps30
  go_wp2
  all_goals go_ret
  all_goals exact ⟨ret_bool (by simp [inR, *]; try omega), rfl⟩

theorem inRange_any (n lo hi : Int) (w : World) :
    Calls Try.prog 31 #[.int .i64 n, .int .i64 lo, .int .i64 hi] w fun e w' => e = .returned (.bool (inR n lo hi)) ∧ w = w' := by
  go_enter Try.func31, Try.ntmps31
  go_wp2
  all_goals go_ret
  all_goals exact ⟨ret_bool (by simp [inR, *]; try omega), rfl⟩

theorem isMeasure_any (n : Int) (w : World) :
    Calls Try.prog 32 #[.int .i64 n] w fun e w' => e = .returned (.bool (inR n (-1000) 1000)) ∧ w = w' := by
  go_enter Try.func32, Try.ntmps32
  go_wp2_with (go_at_call 31; refine (inRange_any _ _ _ _).mono ?_; rintro e w' ⟨rfl, rfl⟩)
  go_ret
  exact ⟨rfl, rfl⟩

end Go.Proofs.Ytohlmkmejiimkaa
