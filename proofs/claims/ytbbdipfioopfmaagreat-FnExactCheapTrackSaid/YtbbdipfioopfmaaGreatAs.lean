/- Contracts of inputs and spans of the program: RatioOf, isDriven, WholeInputs, InSpan, PickInput. -/
import Derived.Test.YtbbdipfioopfmaaGreatRat
import Derived.Test.YtbbdipfioopfmaaGreatPz
import Derived.Deep.RegionHeld3
import Derived.IntWalk
namespace Go.Proofs.YtbbdipfioopfmaaGreat
open Go.ChangeShapes Go.WideShapes Go.ChangeAt Go.RowKit
set_option linter.unusedVariables false

set_option maxHeartbeats 1000000 in
theorem isDriven_any (a b : Int) (w : World) (ha : I64 a) (hb : I64 b) :
    Calls Tryz.prog 100 #[.agg #[.int .i64 a, .int .i64 b]] w fun e w' => e = .returned (.bool (isDriven ⟨a, b⟩)) ∧ Ext w w' := by
  have hy : Ext w (w.alloc (.cells #[.int .i64 a, .int .i64 b] 74)) := (Ext.refl w).alloc _
  have hB := Ext.refl (w.alloc (.cells #[.int .i64 a, .int .i64 b] 74))
  go_enter Tryz.func100, Tryz.ntmps100
  go_wp2_with fail
  refine (implRatioOk_any _ _ _ ha hb).mono ?_
  rintro e w1 ⟨rfl, hx1⟩
  replace hy := hy.trans hx1
  replace hB := hB.trans hx1
  have chB_1 := fun o => hB.use.1 (w.heap.size) o (by simp <;> omega)
  by_cases h1 : ratioOk ⟨a, b⟩ = true
  · have hbd := ratioOk_bd h1
    simp only at hbd
    obtain ⟨d1, d2, _, _⟩ := hbd
    have H : Hid (isDriven ⟨a, b⟩ = inR a (-1000 * b) (1000 * b)) := by unfold Hid isDriven; rw [h1]; rfl
    rw [h1]
    clear h1
    have q1 : IntKind.i64.wrap (-1000 * b) = -1000 * b := IntWalk.i64_in _ (by omega)
    have q2 : IntKind.i64.wrap (1000 * b) = 1000 * b := IntWalk.i64_in _ (by omega)
    go_wp2_with fail
    refine (inRange_any _ _ _ _).mono ?_
    rintro e w' ⟨rfl, rfl⟩
    go_wp2
    go_ret
    exact ⟨ret_bool H.out.symm, hy⟩
  · have H : Hid (isDriven ⟨a, b⟩ = false) := by unfold Hid isDriven; simp [h1]
    rw [show ratioOk ⟨a, b⟩ = false from by simpa using h1]
    clear h1
    go_wp2
    go_ret
    exact ⟨ret_bool H.out.symm, hy⟩


end Go.Proofs.YtbbdipfioopfmaaGreat
