/- The law FnExactCostOfInputs returns true for all arguments: CostOfInputs of the program and of the reference compute one function. No condition. -/
import Derived.Test.YtccfkglcjmkgcaaOpen
import Derived.Test.YtccfkglcjmkgcaaV
import Derived.Deep.RegionHeld3
namespace Go.Proofs.Ytccfkglcjmkgcaa
open Go.ChangeShapes Go.WideShapes Go.ChangeAt Go.RowKit
set_option linter.unusedVariables false

set_option maxHeartbeats 1000000 in
theorem lawCostOfInputs (A0 : Option Addr) (n0 c0 : Nat) (xs0 : List Int) (A1 : Option Addr) (n1 c1 : Nat) (xs1 : List Int) (w : World) (hn0 : xs0.length = n0) (hr0 : Row w A0 (ints xs0)) (hle0 : n0 ≤ maxLen) (hn1 : xs1.length = n1) (hr1 : Row w A1 (ints xs1)) (hle1 : n1 ≤ maxLen) :
    Calls Try.prog 6 #[.agg #[.slice A0 n0 c0], .slice A1 n1 c1] w fun e w' => e = .returned (.bool true) ∧ Ext w w' := by
  have hy : Ext w (w.alloc (.cells #[.slice A0 n0 c0] 24)) := by repeat (first | exact Ext.refl _ | refine Ext.alloc ?_ _)
  have hB := Ext.refl (w.alloc (.cells #[.slice A0 n0 c0] 24))
  replace hr0 := hr0.ext hy
  replace hr1 := hr1.ext hy
  have Hle0 := Lib.hid hle0
  unfold maxLen at hle0
  have Hle1 := Lib.hid hle1
  unfold maxLen at hle1
  by_cases hbig1 : n1 ≤ 1048576
  rotate_left
  · go_enter Try.func6, Try.ntmps6
    go_wp2
    go_ret
    exact ⟨rfl, hy⟩
  have hbj1 : ¬ (1048576 : Int) < (n1 : Int) := by omega
  go_enter Try.func6, Try.ntmps6
  go_wp2_with fail
  refine (szTariff_any _ _ _ _ _ (by omega) (by omega) Hle0.out).mono ?_
  rintro e w1 ⟨rfl, hx1⟩
  replace hy := hy.trans hx1
  replace hr0 := hr0.ext hx1
  replace hr1 := hr1.ext hx1
  replace hB := hB.trans hx1
  have hc0_1 := fun o => hB.use.1 (w.heap.size) o (by simp <;> omega)
  by_cases hbig0 : n0 ≤ 1048576
  rotate_left
  · rw [szI_neg (by omega)]
    go_wp2
    go_ret
    exact ⟨rfl, hy⟩
  rw [szI_pos (by omega)]
  have hbj0 : ¬ 1048576 - (n0 : Int) < 0 := by omega
  go_wp2_with fail
  refine (toTariff_any _ _ _ xs0 _ hn0 hr0 hbig0).mono ?_
  rintro e w2 ⟨g2, rfl, ho2, hx2⟩
  replace hy := hy.trans hx2
  replace hr0 := hr0.ext hx2
  replace hr1 := hr1.ext hx2
  replace hB := hB.trans hx2
  have hc0_2 := fun o => hB.use.1 (w.heap.size) o (by simp <;> omega)
  go_wp2_with fail
  refine (toIntS_any _ _ _ xs1 _ hn1 hr1 hbig1).mono ?_
  rintro e w3 ⟨g3, rfl, ho3, hx3⟩
  replace hy := hy.trans hx3
  replace hr0 := hr0.ext hx3
  replace hr1 := hr1.ext hx3
  replace ho2 := own_ext ho2 hx3
  replace hB := hB.trans hx3
  have hc0_3 := fun o => hB.use.1 (w.heap.size) o (by simp <;> omega)
  go_wp2_with fail
  refine (specCost_any _ _ _ _ _ _ xs0 xs1 _ hn0 hn1 (Row.of_own ho2) (Row.of_own ho3) (by unfold maxLen; omega) (by unfold maxLen; omega)).mono ?_
  rintro e w4 ⟨rfl, hx4⟩
  replace hy := hy.trans hx4
  replace hr0 := hr0.ext hx4
  replace hr1 := hr1.ext hx4
  replace ho2 := own_ext ho2 hx4
  replace ho3 := own_ext ho3 hx4
  replace hB := hB.trans hx4
  have hc0_4 := fun o => hB.use.1 (w.heap.size) o (by simp <;> omega)
  go_wp2_with fail
  refine (toTariff_any _ _ _ xs0 _ hn0 hr0 hbig0).mono ?_
  rintro e w5 ⟨g5, rfl, ho5, hx5⟩
  replace hy := hy.trans hx5
  replace hr0 := hr0.ext hx5
  replace hr1 := hr1.ext hx5
  replace ho2 := own_ext ho2 hx5
  replace ho3 := own_ext ho3 hx5
  replace hB := hB.trans hx5
  have hc0_5 := fun o => hB.use.1 (w.heap.size) o (by simp <;> omega)
  have ha5 := (Ext.refl w5).alloc (.cells #[.slice (some ⟨g5, 0, none⟩) n0 n0] 27)
  replace hy := hy.trans ha5
  replace hr0 := hr0.ext ha5
  replace hr1 := hr1.ext ha5
  replace ho2 := own_ext ho2 ha5
  replace ho3 := own_ext ho3 ha5
  replace ho5 := own_ext ho5 ha5
  replace hB := hB.trans ha5
  have hc0_6 := fun o => hB.use.1 (w.heap.size) o (by simp <;> omega)
  have hL5 := Ext.refl (w5.alloc (.cells #[.slice (some ⟨g5, 0, none⟩) n0 n0] 27))
  go_wp2_with fail
  refine (toIntS_any _ _ _ xs1 _ hn1 hr1 hbig1).mono ?_
  rintro e w6 ⟨g6, rfl, ho6, hx6⟩
  replace hy := hy.trans hx6
  replace hr0 := hr0.ext hx6
  replace hr1 := hr1.ext hx6
  replace ho2 := own_ext ho2 hx6
  replace ho3 := own_ext ho3 hx6
  replace ho5 := own_ext ho5 hx6
  replace hB := hB.trans hx6
  replace hL5 := hL5.trans hx6
  have hc0_7 := fun o => hB.use.1 (w.heap.size) o (by simp <;> omega)
  have hd5_7 := fun o => hL5.use.1 w5.heap.size o (by simp <;> omega)
  go_wp2_with fail
  refine (implCost_any _ _ _ _ _ _ xs0 xs1 _ hn0 hn1 (Row.of_own ho5) (Row.of_own ho6) (by unfold maxLen; omega) (by unfold maxLen; omega)).mono ?_
  rintro e w7 ⟨rfl, hx7⟩
  replace hy := hy.trans hx7
  replace hr0 := hr0.ext hx7
  replace hr1 := hr1.ext hx7
  replace ho2 := own_ext ho2 hx7
  replace ho3 := own_ext ho3 hx7
  replace ho5 := own_ext ho5 hx7
  replace ho6 := own_ext ho6 hx7
  replace hB := hB.trans hx7
  replace hL5 := hL5.trans hx7
  have hc0_8 := fun o => hB.use.1 (w.heap.size) o (by simp <;> omega)
  have hd5_8 := fun o => hL5.use.1 w5.heap.size o (by simp <;> omega)
  go_wp2_with fail
  go_region_held3 (fun w' => w'.cell? ⟨w5.heap.size, 0, none⟩ = some (.slice (some ⟨g5, 0, none⟩) n0 n0) ∧ w'.cell? ⟨w.heap.size, 0, none⟩ = some (.slice A0 n0 c0))
    (go_keep)
    (first
      | (go_at_call 17; refine (toTariff_any _ _ _ xs0 _ hn0 (by exact hr0) hbig0).mono ?_; rintro e w8 ⟨g8, rfl, ho8, hx8⟩; have hx8 : Ext w7 w8 := (by first | exact hx8 | exact (Ext.refl w7).drew.trans hx8); have hy := hy.trans hx8; have hr0 := hr0.ext hx8; have hr1 := hr1.ext hx8; have ho2 := own_ext ho2 hx8; have ho3 := own_ext ho3 hx8; have ho5 := own_ext ho5 hx8; have ho6 := own_ext ho6 hx8; have hB := hB.trans hx8; have hL5 := hL5.trans hx8; have hc0_9 := fun o => hB.use.1 (w.heap.size) o (by simp <;> omega); have hd5_9 := fun o => hL5.use.1 w5.heap.size o (by simp <;> omega))
      | (go_at_call 19; refine (eqTariff_any _ _ _ _ _ _ xs0 xs0 _ hn0 hn0 (by exact Row.of_own ho5) (by exact Row.of_own ho8) (by unfold maxLen; omega) (by unfold maxLen; omega)).mono ?_; rintro e w9 ⟨rfl, hx9⟩; have hx9 : Ext w8 w9 := (by first | exact hx9 | exact (Ext.refl w8).drew.trans hx9); have hy := hy.trans hx9; have hr0 := hr0.ext hx9; have hr1 := hr1.ext hx9; have ho2 := own_ext ho2 hx9; have ho3 := own_ext ho3 hx9; have ho5 := own_ext ho5 hx9; have ho6 := own_ext ho6 hx9; have ho8 := own_ext ho8 hx9; have hB := hB.trans hx9; have hL5 := hL5.trans hx9; have hc0_10 := fun o => hB.use.1 (w.heap.size) o (by simp <;> omega); have hd5_10 := fun o => hL5.use.1 w5.heap.size o (by simp <;> omega); simp only [decide_true]))
  go_wp2_with fail
  refine (toIntS_any _ _ _ xs1 _ hn1 hr1 hbig1).mono ?_
  rintro e w10 ⟨g10, rfl, ho10, hx10⟩
  replace hy := hy.trans hx10
  replace hr0 := hr0.ext hx10
  replace hr1 := hr1.ext hx10
  replace ho2 := own_ext ho2 hx10
  replace ho3 := own_ext ho3 hx10
  replace ho5 := own_ext ho5 hx10
  replace ho6 := own_ext ho6 hx10
  replace ho8 := own_ext ho8 hx10
  replace hB := hB.trans hx10
  replace hL5 := hL5.trans hx10
  have hc0_11 := fun o => hB.use.1 (w.heap.size) o (by simp <;> omega)
  have hd5_11 := fun o => hL5.use.1 w5.heap.size o (by simp <;> omega)
  go_wp2_with fail
  refine (eqIntS_any _ _ _ _ _ _ xs1 xs1 _ hn1 hn1 (Row.of_own ho6) (Row.of_own ho10) (by unfold maxLen; omega) (by unfold maxLen; omega)).mono ?_
  rintro e w11 ⟨rfl, hx11⟩
  replace hy := hy.trans hx11
  replace hr0 := hr0.ext hx11
  replace hr1 := hr1.ext hx11
  replace ho2 := own_ext ho2 hx11
  replace ho3 := own_ext ho3 hx11
  replace ho5 := own_ext ho5 hx11
  replace ho6 := own_ext ho6 hx11
  replace ho8 := own_ext ho8 hx11
  replace ho10 := own_ext ho10 hx11
  replace hB := hB.trans hx11
  replace hL5 := hL5.trans hx11
  have hc0_12 := fun o => hB.use.1 (w.heap.size) o (by simp <;> omega)
  have hd5_12 := fun o => hL5.use.1 w5.heap.size o (by simp <;> omega)
  simp only [decide_true]
  all_goals go_wp2
  all_goals go_ret
  all_goals exact ⟨rfl, hy⟩

namespace lFnExactCostOfInputs
set_option maxRecDepth 100000 in
theorem lifted (os : Os) (started : os.Started) (H : Type) (enc : TypeId × Value → H) :
    ReturnsInHanded {} Try.checked os 6 .any (Rows.fnExactCostOfInputsSpec.pre6 enc Try.prog Try.f6 Rows.fnExactCostOfInputsRow.domain false) (Rows.fnExactCostOfInputsSpec.post enc Try.prog Try.f6 false true false false) := by
  refine returnsInHanded_of_change (C := Try.checked) own started (by kernel_rfl) Try.func6
    (ChangeSpec.witness6 (enc := enc) (C := Try.checked) false ⟨#[], #[.agg #[.slice none 0 0], .slice none 0 0], []⟩ 8 (by kernel_rfl) (by kernel_rfl) (by kernel_rfl) (by kernel_rfl)) ?_
  intro W base args ds gs before hval0 hW _ _
  have hval : ∀ (j : Nat) t v, Try.f6.params[j]? = some t → args[j]? = some v → Value.okWide Try.prog W .any base t v := hval0
  have hW' := hW
  obtain ⟨p, q, hA0, hV, rfl, _, _⟩ := hW
  have hA : DataW.TrodAll enc Try.prog W 0 (fun _ => true) true Try.f6.params.toList args.toList ds p := hA0
  rw [Try.params6] at hA hval
  obtain ⟨v0, vs0, d0, ds0, p0, q0, hargs, rfl, rfl, h0, r0⟩ := trodAll_cons hA
  obtain ⟨v1, vs1, d1, ds1, p1, q1, rfl, rfl, rfl, h1, r1⟩ := trodAll_cons r0
  obtain ⟨rfl, rfl, rfl⟩ := trodAll_nil r1
  obtain rfl : args = #[v0, v1] := by cases args; simp_all
  obtain ⟨rfl, rfl⟩ := trodVars_none hV
  have hv0 := hval 0 24 v0 rfl rfl
  have hv1 := hval 1 22 v1 rfl rfl
  clear hA0 hval hval0
  obtain ⟨cs0, rfl, _⟩ := okWide_struct Try.underlying24 hv0
  obtain ⟨fuel0, hf0⟩ := h0
  obtain ⟨A0, n0, c0, xs0, hcs0, hl0, hr0, hnc0, hm0, _⟩ := open_struct1_slice (n := 2) Try.underlying24 rfl (by kernel_rfl) rfl (by kernel_rfl) Try.underlying22 (by kernel_rfl) hf0
  obtain rfl : cs0 = #[.slice A0 n0 c0] := by cases cs0; simpa [Value.cells] using hcs0
  rw [(by kernel_rfl : Try.prog.cellsOf 3 = 1), Nat.mul_one] at hl0
  obtain ⟨A1, n1, c1, xs1, rfl, hl1, hr1, hnc1, hm1, _⟩ := openArg_slice (n := 2) Try.underlying22 (by kernel_rfl) hv1 h1
  rw [(by kernel_rfl : Try.prog.cellsOf 3 = 1), Nat.mul_one] at hl1
  refine (lawCostOfInputs A0 n0 c0 xs0 A1 n1 c1 xs1 W hl0 hr0 (by omega) hl1 hr1 (by omega)).mono fun e W' ⟨he, hx⟩ => ?_
  subst he
  exact ⟨_, rfl, law_post (tb := 4) laidOut (by kernel_rfl) rfl Try.underlying4 rfl hW' rfl rfl rfl hx⟩
theorem over : Rows.fnExactCostOfInputsRow.holds Try.pinned (OpenSpec.ofChange Rows.fnExactCostOfInputsSpec) :=
  OpenClaim.holds_of_wide 6 Try.f6 rfl rfl rfl rfl rfl rfl rfl ⟨rfl, rfl, rfl, rfl, rfl⟩ rfl rfl rfl rfl rfl (by kernel_rfl) Try.func6 (by kernel_rfl)
    (of_decide_eq_true (by kernel_rfl)) (by unfold Func.isWrapper; first | (rw [if_pos (by decide +kernel)]; kernel_rfl) | (rw [if_neg (by decide +kernel)]; exact ⟨rfl, rfl⟩))
    (fun os started H enc _ => lifted os started H enc)
theorem proved : Rows.FnExactCostOfInputsSaid := over
end lFnExactCostOfInputs
end Go.Proofs.Ytccfkglcjmkgcaa
