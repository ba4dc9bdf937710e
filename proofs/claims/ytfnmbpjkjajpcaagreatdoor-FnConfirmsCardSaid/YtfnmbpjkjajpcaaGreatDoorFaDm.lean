/- What the drawing functions of fractions and spans return. -/
import Derived.Test.YtfnmbpjkjajpcaaGreatDoorFaDz
import Derived.Test.YtfnmbpjkjajpcaaGreatDoorFaRat
import Derived.Test.YtfnmbpjkjajpcaaGreatDoorFaPz
namespace Go.Proofs.YtfnmbpjkjajpcaaGreatDoor
open Go.ChangeShapes Go.WideShapes Go.ChangeAt Go.RowKit
set_option linter.unusedVariables false
set_option maxHeartbeats 1000000 in
theorem makeNum_any (A : Option Addr) (n c : Nat) (bs : List Int) (m : Int) (w : World) (hn : bs.length = n) (hr : Row w A (u8s bs)) (hle : n ≤ 1048576) (hm : I64 m) :
    Calls Tryz.prog 7 #[.slice A n c, .int .i64 m] w fun e w' => ∃ x : Int, e = .returned (.int .i64 x) ∧ 0 ≤ x ∧ x < 65536 ∧ Ext w w' := by
  go_enter Tryz.func7, Tryz.ntmps7
  go_wp2_with fail
  refine (l26New_any _ _ _ bs _ _ hn hr hle hm).mono ?_
  rintro e w1 ⟨g, rfl, hc1⟩
  go_wp2_with fail
  refine (l01Byte_any _ _ _ _ _ bs _ hn hr hle hc1).mono ?_
  rintro e w2 ⟨⟨x, rfl, hx0, hx1⟩, hc2, ho2⟩
  go_wp2_with fail
  refine (l01Byte_any _ _ _ _ _ bs _ hn hr hle hc2).mono ?_
  rintro e w3 ⟨⟨y, rfl, hy0, hy1⟩, hc3, ho3⟩
  go_wp2
  go_ret
  exact ⟨_, rfl, by omega, by omega, hc3.ext⟩
end Go.Proofs.YtfnmbpjkjajpcaaGreatDoor
