/- The law FnExactCheapestInput returns true for all arguments: CheapestInput of the program and of the reference compute one function. No condition. -/
import Derived.Test.YtbbkahnfnjlajaaOpen
import Derived.Test.YtbbkahnfnjlajaaCh
import Derived.Test.YtbbkahnfnjlajaaHRatio
namespace Go.Proofs.Ytbbkahnfnjlajaa
open Go.ChangeShapes Go.WideShapes Go.ChangeAt Go.RowKit
set_option linter.unusedVariables false

set_option maxHeartbeats 1000000 in
theorem lawCheapestInput (z00 z01 z02 z03 : Int) (w : World) (hz00 : I64 z00) (hz01 : I64 z01) (hz02 : I64 z02) (hz03 : I64 z03) :
    Calls Try.prog 3 #[.agg #[.int .i64 z00, .int .i64 z01, .int .i64 z02, .int .i64 z03]] w fun e w' => e = .returned (.bool true) ∧ Ext w w' := by
  have hy : Ext w (w.alloc (.cells #[.int .i64 z00, .int .i64 z01, .int .i64 z02, .int .i64 z03] 25)) := by repeat (first | exact Ext.refl _ | refine Ext.alloc ?_ _)
  have hB := Ext.refl (w.alloc (.cells #[.int .i64 z00, .int .i64 z01, .int .i64 z02, .int .i64 z03] 25))
  go_enter Try.func3, Try.ntmps3
  go_wp2_with fail
  refine (toSpan_any _ _ _ _ _).mono ?_
  rintro e w1 ⟨rfl, hx1⟩
  replace hy := hy.trans hx1
  replace hB := hB.trans hx1
  have hc0_1 := fun o => hB.use.1 (w.heap.size) o (by simp <;> omega)
  go_wp2_with fail
  refine (specCheapest_any _ _ _ _ _ hz00 hz01 hz02 hz03).mono ?_
  rintro e w2 ⟨rfl, hx2⟩
  replace hy := hy.trans hx2
  replace hB := hB.trans hx2
  have hc0_2 := fun o => hB.use.1 (w.heap.size) o (by simp <;> omega)
  have ha2 := (Ext.refl w2).alloc (.cells #[.int .i64 (cheapest ⟨⟨z00, z01⟩, ⟨z02, z03⟩⟩).N, .int .i64 (cheapest ⟨⟨z00, z01⟩, ⟨z02, z03⟩⟩).D] 26)
  replace hy := hy.trans ha2
  replace hB := hB.trans ha2
  have hc0_3 := fun o => hB.use.1 (w.heap.size) o (by simp <;> omega)
  have hL2 := Ext.refl (w2.alloc (.cells #[.int .i64 (cheapest ⟨⟨z00, z01⟩, ⟨z02, z03⟩⟩).N, .int .i64 (cheapest ⟨⟨z00, z01⟩, ⟨z02, z03⟩⟩).D] 26))
  go_wp2_with fail
  refine (toSpan_any _ _ _ _ _).mono ?_
  rintro e w3 ⟨rfl, hx3⟩
  replace hy := hy.trans hx3
  replace hB := hB.trans hx3
  replace hL2 := hL2.trans hx3
  have hc0_4 := fun o => hB.use.1 (w.heap.size) o (by simp <;> omega)
  have hd2_4 := fun o => hL2.use.1 w2.heap.size o (by simp <;> omega)
  go_wp2_with fail
  refine (implCheapest_any _ _ _ _ _ hz00 hz01 hz02 hz03).mono ?_
  rintro e w4 ⟨rfl, hx4⟩
  replace hy := hy.trans hx4
  replace hB := hB.trans hx4
  replace hL2 := hL2.trans hx4
  have hc0_5 := fun o => hB.use.1 (w.heap.size) o (by simp <;> omega)
  have hd2_5 := fun o => hL2.use.1 w2.heap.size o (by simp <;> omega)
  have ha4 := (Ext.refl w4).alloc (.cells #[.int .i64 (cheapest ⟨⟨z00, z01⟩, ⟨z02, z03⟩⟩).N, .int .i64 (cheapest ⟨⟨z00, z01⟩, ⟨z02, z03⟩⟩).D] 26)
  replace hy := hy.trans ha4
  replace hB := hB.trans ha4
  replace hL2 := hL2.trans ha4
  have hc0_6 := fun o => hB.use.1 (w.heap.size) o (by simp <;> omega)
  have hd2_6 := fun o => hL2.use.1 w2.heap.size o (by simp <;> omega)
  have hL4 := Ext.refl (w4.alloc (.cells #[.int .i64 (cheapest ⟨⟨z00, z01⟩, ⟨z02, z03⟩⟩).N, .int .i64 (cheapest ⟨⟨z00, z01⟩, ⟨z02, z03⟩⟩).D] 26))
  go_wp2_with fail
  refine (eqRatio_any _ _ _ _ _).mono ?_
  rintro e w5 ⟨rfl, hx5⟩
  replace hy := hy.trans hx5
  replace hB := hB.trans hx5
  replace hL2 := hL2.trans hx5
  replace hL4 := hL4.trans hx5
  have hc0_7 := fun o => hB.use.1 (w.heap.size) o (by simp <;> omega)
  have hd2_7 := fun o => hL2.use.1 w2.heap.size o (by simp <;> omega)
  have hd4_7 := fun o => hL4.use.1 w4.heap.size o (by simp <;> omega)
  simp only [decide_true]
  go_wp2
  go_ret
  exact ⟨rfl, hy⟩

namespace lFnExactCheapestInput
set_option maxRecDepth 100000 in
theorem lifted (os : Os) (started : os.Started) (H : Type) (enc : TypeId × Value → H) :
    ReturnsInHanded {} Try.checked os 3 .any (Rows.fnExactCheapestInputSpec.pre6 enc Try.prog Try.f3 Rows.fnExactCheapestInputRow.domain false) (Rows.fnExactCheapestInputSpec.post enc Try.prog Try.f3 false true false false) := by
  refine returnsInHanded_of_change (C := Try.checked) own started (by kernel_rfl) Try.func3
    (ChangeSpec.witness6 (enc := enc) (C := Try.checked) false ⟨#[], #[.agg #[.int .i64 0, .int .i64 0, .int .i64 0, .int .i64 0]], []⟩ 8 (by kernel_rfl) (by kernel_rfl) (by kernel_rfl) (by kernel_rfl)) ?_
  intro W base args ds gs before hval0 hW _ _
  have hval : ∀ (j : Nat) t v, Try.f3.params[j]? = some t → args[j]? = some v → Value.okWide Try.prog W .any base t v := hval0
  have hW' := hW
  obtain ⟨p, q, hA0, hV, rfl, _, _⟩ := hW
  have hA : DataW.TrodAll enc Try.prog W 0 (fun _ => true) true Try.f3.params.toList args.toList ds p := hA0
  rw [Try.params3] at hA hval
  obtain ⟨v0, vs0, d0, ds0, p0, q0, hargs, rfl, rfl, h0, r0⟩ := trodAll_cons hA
  obtain ⟨rfl, rfl, rfl⟩ := trodAll_nil r0
  obtain rfl : args = #[v0] := by cases args; simp_all
  obtain ⟨rfl, rfl⟩ := trodVars_none hV
  have hv0 := hval 0 25 v0 rfl rfl
  clear hA0 hval hval0
  obtain ⟨zs0, rfl, hl0, hI0⟩ := openArg_flat (n := 5) Try.underlying25 (by kernel_rfl) hv0 h0
  obtain ⟨z00, z01, z02, z03, rfl⟩ := list4 (hl0.trans (by kernel_rfl : Try.prog.cellsOf 25 = 4))
  refine (lawCheapestInput z00 z01 z02 z03 W (hI0 _ (by simp)) (hI0 _ (by simp)) (hI0 _ (by simp)) (hI0 _ (by simp))).mono fun e W' ⟨he, hx⟩ => ?_
  subst he
  exact ⟨_, rfl, law_post (tb := 4) laidOut (by kernel_rfl) rfl Try.underlying4 rfl hW' rfl rfl rfl hx⟩
theorem over : Rows.fnExactCheapestInputRow.holds Try.pinned (OpenSpec.ofChange Rows.fnExactCheapestInputSpec) :=
  OpenClaim.holds_of_wide 3 Try.f3 rfl rfl rfl rfl rfl rfl rfl ⟨rfl, rfl, rfl, rfl, rfl⟩ rfl rfl rfl rfl rfl (by kernel_rfl) Try.func3 (by kernel_rfl)
    (of_decide_eq_true (by kernel_rfl)) (by unfold Func.isWrapper; first | (rw [if_pos (by decide +kernel)]; kernel_rfl) | (rw [if_neg (by decide +kernel)]; exact ⟨rfl, rfl⟩))
    (fun os started H enc _ => lifted os started H enc)
theorem proved : Rows.FnExactCheapestInputSaid := over
end lFnExactCheapestInput
end Go.Proofs.Ytbbkahnfnjlajaa
