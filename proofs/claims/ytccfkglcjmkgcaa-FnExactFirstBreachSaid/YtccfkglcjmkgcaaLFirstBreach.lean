/- The law FnExactFirstBreach returns true for all arguments: FirstBreach of the program and of the reference compute one function. No condition. -/
import Derived.Test.YtccfkglcjmkgcaaOpen
import Derived.Test.YtccfkglcjmkgcaaB
namespace Go.Proofs.Ytccfkglcjmkgcaa
open Go.ChangeShapes Go.WideShapes Go.ChangeAt Go.RowKit
set_option linter.unusedVariables false

set_option maxHeartbeats 1000000 in
theorem lawFirstBreach (z00 z01 z02 z03 z04 : Int) (A1 : Option Addr) (n1 c1 : Nat) (xs1 : List Int) (w : World) (hn1 : xs1.length = n1) (hr1 : Row w A1 (ints xs1)) (hle1 : n1 ≤ maxLen) :
    Calls Try.prog 9 #[.agg #[.int .i64 z00, .int .i64 z01, .int .i64 z02, .int .i64 z03, .int .i64 z04], .slice A1 n1 c1] w fun e w' => e = .returned (.bool true) ∧ Ext w w' := by
  have hy : Ext w (w.alloc (.cells #[.int .i64 z00, .int .i64 z01, .int .i64 z02, .int .i64 z03, .int .i64 z04] 55)) := by repeat (first | exact Ext.refl _ | refine Ext.alloc ?_ _)
  have hB := Ext.refl (w.alloc (.cells #[.int .i64 z00, .int .i64 z01, .int .i64 z02, .int .i64 z03, .int .i64 z04] 55))
  replace hr1 := hr1.ext hy
  have Hle1 := Lib.hid hle1
  unfold maxLen at hle1
  by_cases hbig1 : n1 ≤ 1048576
  rotate_left
  · go_enter Try.func9, Try.ntmps9
    go_wp2
    go_ret
    exact ⟨rfl, hy⟩
  have hbj1 : ¬ (1048576 : Int) < (n1 : Int) := by omega
  go_enter Try.func9, Try.ntmps9
  go_wp2_with fail
  refine (toRule_any _ _ _ _ _ _).mono ?_
  rintro e w1 ⟨rfl, hx1⟩
  replace hy := hy.trans hx1
  replace hr1 := hr1.ext hx1
  replace hB := hB.trans hx1
  have hc0_1 := fun o => hB.use.1 (w.heap.size) o (by simp <;> omega)
  go_wp2_with fail
  refine (toIntS_any _ _ _ xs1 _ hn1 hr1 hbig1).mono ?_
  rintro e w2 ⟨g2, rfl, ho2, hx2⟩
  replace hy := hy.trans hx2
  replace hr1 := hr1.ext hx2
  replace hB := hB.trans hx2
  have hc0_2 := fun o => hB.use.1 (w.heap.size) o (by simp <;> omega)
  go_wp2_with fail
  refine (specFirstBreach_any _ _ _ _ _ _ _ _ xs1 _ hn1 (Row.of_own ho2) (Nat.le_refl _) (by unfold maxLen; omega)).mono ?_
  rintro e w3 ⟨rfl, hx3⟩
  replace hy := hy.trans hx3
  replace hr1 := hr1.ext hx3
  replace ho2 := own_ext ho2 hx3
  replace hB := hB.trans hx3
  have hc0_3 := fun o => hB.use.1 (w.heap.size) o (by simp <;> omega)
  go_wp2_with fail
  refine (toIntS_any _ _ _ xs1 _ hn1 hr1 hbig1).mono ?_
  rintro e w4 ⟨g4, rfl, ho4, hx4⟩
  replace hy := hy.trans hx4
  replace hr1 := hr1.ext hx4
  replace ho2 := own_ext ho2 hx4
  replace hB := hB.trans hx4
  have hc0_4 := fun o => hB.use.1 (w.heap.size) o (by simp <;> omega)
  go_wp2_with fail
  refine (toRule_any _ _ _ _ _ _).mono ?_
  rintro e w5 ⟨rfl, hx5⟩
  replace hy := hy.trans hx5
  replace hr1 := hr1.ext hx5
  replace ho2 := own_ext ho2 hx5
  replace ho4 := own_ext ho4 hx5
  replace hB := hB.trans hx5
  have hc0_5 := fun o => hB.use.1 (w.heap.size) o (by simp <;> omega)
  go_wp2_with fail
  refine (implFirstBreach_any _ _ _ _ _ _ _ _ xs1 _ hn1 (Row.of_own ho4) (Nat.le_refl _) (by unfold maxLen; omega)).mono ?_
  rintro e w6 ⟨rfl, hx6⟩
  replace hy := hy.trans hx6
  replace hr1 := hr1.ext hx6
  replace ho2 := own_ext ho2 hx6
  replace ho4 := own_ext ho4 hx6
  replace hB := hB.trans hx6
  have hc0_6 := fun o => hB.use.1 (w.heap.size) o (by simp <;> omega)
  go_wp2_with fail
  refine (toIntS_any _ _ _ xs1 _ hn1 hr1 hbig1).mono ?_
  rintro e w7 ⟨g7, rfl, ho7, hx7⟩
  replace hy := hy.trans hx7
  replace hr1 := hr1.ext hx7
  replace ho2 := own_ext ho2 hx7
  replace ho4 := own_ext ho4 hx7
  replace hB := hB.trans hx7
  have hc0_7 := fun o => hB.use.1 (w.heap.size) o (by simp <;> omega)
  go_wp2_with fail
  refine (eqIntS_any _ _ _ _ _ _ xs1 xs1 _ hn1 hn1 (Row.of_own ho4) (Row.of_own ho7) (by unfold maxLen; omega) (by unfold maxLen; omega)).mono ?_
  rintro e w8 ⟨rfl, hx8⟩
  replace hy := hy.trans hx8
  replace hr1 := hr1.ext hx8
  replace ho2 := own_ext ho2 hx8
  replace ho4 := own_ext ho4 hx8
  replace ho7 := own_ext ho7 hx8
  replace hB := hB.trans hx8
  have hc0_8 := fun o => hB.use.1 (w.heap.size) o (by simp <;> omega)
  simp only [decide_true]
  go_wp2
  go_ret
  exact ⟨rfl, hy⟩

namespace lFnExactFirstBreach
set_option maxRecDepth 100000 in
theorem lifted (os : Os) (started : os.Started) (H : Type) (enc : TypeId × Value → H) :
    ReturnsInHanded {} Try.checked os 9 .any (Rows.fnExactFirstBreachSpec.pre6 enc Try.prog Try.f9 Rows.fnExactFirstBreachRow.domain false) (Rows.fnExactFirstBreachSpec.post enc Try.prog Try.f9 false true false false) := by
  refine returnsInHanded_of_change (C := Try.checked) own started (by kernel_rfl) Try.func9
    (ChangeSpec.witness6 (enc := enc) (C := Try.checked) false ⟨#[], #[.agg #[.int .i64 0, .int .i64 0, .int .i64 0, .int .i64 0, .int .i64 0], .slice none 0 0], []⟩ 8 (by kernel_rfl) (by kernel_rfl) (by kernel_rfl) (by kernel_rfl)) ?_
  intro W base args ds gs before hval0 hW _ _
  have hval : ∀ (j : Nat) t v, Try.f9.params[j]? = some t → args[j]? = some v → Value.okWide Try.prog W .any base t v := hval0
  have hW' := hW
  obtain ⟨p, q, hA0, hV, rfl, _, _⟩ := hW
  have hA : DataW.TrodAll enc Try.prog W 0 (fun _ => true) true Try.f9.params.toList args.toList ds p := hA0
  rw [Try.params9] at hA hval
  obtain ⟨v0, vs0, d0, ds0, p0, q0, hargs, rfl, rfl, h0, r0⟩ := trodAll_cons hA
  obtain ⟨v1, vs1, d1, ds1, p1, q1, rfl, rfl, rfl, h1, r1⟩ := trodAll_cons r0
  obtain ⟨rfl, rfl, rfl⟩ := trodAll_nil r1
  obtain rfl : args = #[v0, v1] := by cases args; simp_all
  obtain ⟨rfl, rfl⟩ := trodVars_none hV
  have hv0 := hval 0 55 v0 rfl rfl
  have hv1 := hval 1 22 v1 rfl rfl
  clear hA0 hval hval0
  obtain ⟨zs0, rfl, hl0, _⟩ := openArg_flat (n := 5) Try.underlying55 (by kernel_rfl) hv0 h0
  obtain ⟨z00, z01, z02, z03, z04, rfl⟩ := list5 (hl0.trans (by kernel_rfl : Try.prog.cellsOf 55 = 5))
  obtain ⟨A1, n1, c1, xs1, rfl, hl1, hr1, hnc1, hm1, _⟩ := openArg_slice (n := 2) Try.underlying22 (by kernel_rfl) hv1 h1
  rw [(by kernel_rfl : Try.prog.cellsOf 3 = 1), Nat.mul_one] at hl1
  refine (lawFirstBreach z00 z01 z02 z03 z04 A1 n1 c1 xs1 W hl1 hr1 (by omega)).mono fun e W' ⟨he, hx⟩ => ?_
  subst he
  exact ⟨_, rfl, law_post (tb := 4) laidOut (by kernel_rfl) rfl Try.underlying4 rfl hW' rfl rfl rfl hx⟩
theorem over : Rows.fnExactFirstBreachRow.holds Try.pinned (OpenSpec.ofChange Rows.fnExactFirstBreachSpec) :=
  OpenClaim.holds_of_wide 9 Try.f9 rfl rfl rfl rfl rfl rfl rfl ⟨rfl, rfl, rfl, rfl, rfl⟩ rfl rfl rfl rfl rfl (by kernel_rfl) Try.func9 (by kernel_rfl)
    (of_decide_eq_true (by kernel_rfl)) (by unfold Func.isWrapper; first | (rw [if_pos (by decide +kernel)]; kernel_rfl) | (rw [if_neg (by decide +kernel)]; exact ⟨rfl, rfl⟩))
    (fun os started H enc _ => lifted os started H enc)
theorem proved : Rows.FnExactFirstBreachSaid := over
end lFnExactFirstBreach
end Go.Proofs.Ytccfkglcjmkgcaa
