/- The law FnExactJoinRules returns true for all arguments: JoinRules of the program and of the reference compute one function. No condition. -/
import Derived.Test.YtccfkglcjmkgcaaOpen
import Derived.Test.YtccfkglcjmkgcaaW
namespace Go.Proofs.Ytccfkglcjmkgcaa
open Go.ChangeShapes Go.WideShapes Go.ChangeAt Go.RowKit
set_option linter.unusedVariables false

set_option maxHeartbeats 1000000 in
theorem lawJoinRules (A0 : Option Addr) (n0 c0 : Nat) (xs0 : List Rule) (w : World) (hn0 : xs0.length = n0) (hr0 : Row w A0 (ints (flat Rule.ints xs0))) (hle0 : n0 ≤ maxLen) :
    Calls Try.prog 7 #[.slice A0 n0 c0] w fun e w' => e = .returned (.bool true) ∧ Ext w w' := by
  have hy := Ext.refl w
  have Hle0 := Lib.hid hle0
  unfold maxLen at hle0
  go_enter Try.func7, Try.ntmps7
  go_wp2_with fail
  refine (szRuleS_any _ _ _ _ _ (by omega) (by omega) Hle0.out).mono ?_
  rintro e w' ⟨rfl, rfl⟩
  by_cases hbig0 : n0 ≤ 1048576
  rotate_left
  · rw [szI_neg (by omega)]
    go_wp2
    go_ret
    exact ⟨rfl, hy⟩
  rw [szI_pos (by omega)]
  have hbj0 : ¬ 1048576 - (n0 : Int) < 0 := by omega
  go_wp2_with fail
  refine (toRuleS_any _ _ _ xs0 _ hn0 hr0 hbig0).mono ?_
  rintro e w1 ⟨g1, rfl, ho1, hx1⟩
  replace hy := hy.trans hx1
  replace hr0 := hr0.ext hx1
  go_wp2_with fail
  refine (specJoin_any _ _ _ xs0 _ hn0 (Row.of_own ho1) (by unfold maxLen; omega)).mono ?_
  rintro e w2 ⟨rfl, hx2⟩
  replace hy := hy.trans hx2
  replace hr0 := hr0.ext hx2
  replace ho1 := own_ext ho1 hx2
  have ha2 := (Ext.refl w2).alloc (.cells #[.int .i64 (joinRules xs0).1.Low, .int .i64 (joinRules xs0).1.High, .int .i64 (joinRules xs0).1.Step, .int .i64 (joinRules xs0).1.Window, .int .i64 (joinRules xs0).1.Drift] 45)
  replace hy := hy.trans ha2
  replace hr0 := hr0.ext ha2
  replace ho1 := own_ext ho1 ha2
  have hL2 := Ext.refl (w2.alloc (.cells #[.int .i64 (joinRules xs0).1.Low, .int .i64 (joinRules xs0).1.High, .int .i64 (joinRules xs0).1.Step, .int .i64 (joinRules xs0).1.Window, .int .i64 (joinRules xs0).1.Drift] 45))
  go_wp2_with fail
  refine (toRuleS_any _ _ _ xs0 _ hn0 hr0 hbig0).mono ?_
  rintro e w3 ⟨g3, rfl, ho3, hx3⟩
  replace hy := hy.trans hx3
  replace hr0 := hr0.ext hx3
  replace ho1 := own_ext ho1 hx3
  replace hL2 := hL2.trans hx3
  have hd2_4 := fun o => hL2.use.1 w2.heap.size o (by simp <;> omega)
  go_wp2_with fail
  refine (implJoin_any _ _ _ xs0 _ hn0 (Row.of_own ho3) (by unfold maxLen; omega)).mono ?_
  rintro e w4 ⟨rfl, hx4⟩
  replace hy := hy.trans hx4
  replace hr0 := hr0.ext hx4
  replace ho1 := own_ext ho1 hx4
  replace ho3 := own_ext ho3 hx4
  replace hL2 := hL2.trans hx4
  have hd2_5 := fun o => hL2.use.1 w2.heap.size o (by simp <;> omega)
  have ha4 := (Ext.refl w4).alloc (.cells #[.int .i64 (joinRules xs0).1.Low, .int .i64 (joinRules xs0).1.High, .int .i64 (joinRules xs0).1.Step, .int .i64 (joinRules xs0).1.Window, .int .i64 (joinRules xs0).1.Drift] 45)
  replace hy := hy.trans ha4
  replace hr0 := hr0.ext ha4
  replace ho1 := own_ext ho1 ha4
  replace ho3 := own_ext ho3 ha4
  replace hL2 := hL2.trans ha4
  have hd2_6 := fun o => hL2.use.1 w2.heap.size o (by simp <;> omega)
  have hL4 := Ext.refl (w4.alloc (.cells #[.int .i64 (joinRules xs0).1.Low, .int .i64 (joinRules xs0).1.High, .int .i64 (joinRules xs0).1.Step, .int .i64 (joinRules xs0).1.Window, .int .i64 (joinRules xs0).1.Drift] 45))
  go_wp2_with fail
  refine (eqRule_any _ _ _ _ _ _ _ _ _ _ _).mono ?_
  rintro e w5 ⟨rfl, hx5⟩
  replace hy := hy.trans hx5
  replace hr0 := hr0.ext hx5
  replace ho1 := own_ext ho1 hx5
  replace ho3 := own_ext ho3 hx5
  replace hL2 := hL2.trans hx5
  replace hL4 := hL4.trans hx5
  have hd2_7 := fun o => hL2.use.1 w2.heap.size o (by simp <;> omega)
  have hd4_7 := fun o => hL4.use.1 w4.heap.size o (by simp <;> omega)
  simp only [decide_true]
  go_wp2_with fail
  refine (toRuleS_any _ _ _ xs0 _ hn0 hr0 hbig0).mono ?_
  rintro e w6 ⟨g6, rfl, ho6, hx6⟩
  replace hy := hy.trans hx6
  replace hr0 := hr0.ext hx6
  replace ho1 := own_ext ho1 hx6
  replace ho3 := own_ext ho3 hx6
  replace hL2 := hL2.trans hx6
  replace hL4 := hL4.trans hx6
  have hd2_8 := fun o => hL2.use.1 w2.heap.size o (by simp <;> omega)
  have hd4_8 := fun o => hL4.use.1 w4.heap.size o (by simp <;> omega)
  go_wp2_with fail
  refine (eqRuleS_any _ _ _ _ _ _ xs0 xs0 _ hn0 hn0 (Row.of_own ho3) (Row.of_own ho6) (by unfold maxLen; omega) (by unfold maxLen; omega)).mono ?_
  rintro e w7 ⟨rfl, hx7⟩
  replace hy := hy.trans hx7
  replace hr0 := hr0.ext hx7
  replace ho1 := own_ext ho1 hx7
  replace ho3 := own_ext ho3 hx7
  replace ho6 := own_ext ho6 hx7
  replace hL2 := hL2.trans hx7
  replace hL4 := hL4.trans hx7
  have hd2_9 := fun o => hL2.use.1 w2.heap.size o (by simp <;> omega)
  have hd4_9 := fun o => hL4.use.1 w4.heap.size o (by simp <;> omega)
  simp only [decide_true]
  go_wp2
  go_ret
  exact ⟨rfl, hy⟩

namespace lFnExactJoinRules
set_option maxRecDepth 100000 in
theorem lifted (os : Os) (started : os.Started) (H : Type) (enc : TypeId × Value → H) :
    ReturnsInHanded {} Try.checked os 7 .any (Rows.fnExactJoinRulesSpec.pre6 enc Try.prog Try.f7 Rows.fnExactJoinRulesRow.domain false) (Rows.fnExactJoinRulesSpec.post enc Try.prog Try.f7 false true false false) := by
  refine returnsInHanded_of_change (C := Try.checked) own started (by kernel_rfl) Try.func7
    (ChangeSpec.witness6 (enc := enc) (C := Try.checked) false ⟨#[], #[.slice none 0 0], []⟩ 8 (by kernel_rfl) (by kernel_rfl) (by kernel_rfl) (by kernel_rfl)) ?_
  intro W base args ds gs before hval0 hW _ _
  have hval : ∀ (j : Nat) t v, Try.f7.params[j]? = some t → args[j]? = some v → Value.okWide Try.prog W .any base t v := hval0
  have hW' := hW
  obtain ⟨p, q, hA0, hV, rfl, _, _⟩ := hW
  have hA : DataW.TrodAll enc Try.prog W 0 (fun _ => true) true Try.f7.params.toList args.toList ds p := hA0
  rw [Try.params7] at hA hval
  obtain ⟨v0, vs0, d0, ds0, p0, q0, hargs, rfl, rfl, h0, r0⟩ := trodAll_cons hA
  obtain ⟨rfl, rfl, rfl⟩ := trodAll_nil r0
  obtain rfl : args = #[v0] := by cases args; simp_all
  obtain ⟨rfl, rfl⟩ := trodVars_none hV
  have hv0 := hval 0 42 v0 rfl rfl
  clear hA0 hval hval0
  obtain ⟨A0, n0, c0, zs0, rfl, hl0, hr0, hnc0, hm0, _⟩ := openArg_slice (n := 5) Try.underlying42 (by kernel_rfl) hv0 h0
  rw [(by kernel_rfl : Try.prog.cellsOf 55 = 5)] at hl0
  obtain ⟨xs0, hll0, rfl⟩ := unflat Rule.unints n0 zs0 hl0
  refine (lawJoinRules A0 n0 c0 xs0 W hll0 hr0 (by omega)).mono fun e W' ⟨he, hx⟩ => ?_
  subst he
  exact ⟨_, rfl, law_post (tb := 4) laidOut (by kernel_rfl) rfl Try.underlying4 rfl hW' rfl rfl rfl hx⟩
theorem over : Rows.fnExactJoinRulesRow.holds Try.pinned (OpenSpec.ofChange Rows.fnExactJoinRulesSpec) :=
  OpenClaim.holds_of_wide 7 Try.f7 rfl rfl rfl rfl rfl rfl rfl ⟨rfl, rfl, rfl, rfl, rfl⟩ rfl rfl rfl rfl rfl (by kernel_rfl) Try.func7 (by kernel_rfl)
    (of_decide_eq_true (by kernel_rfl)) (by unfold Func.isWrapper; first | (rw [if_pos (by decide +kernel)]; kernel_rfl) | (rw [if_neg (by decide +kernel)]; exact ⟨rfl, rfl⟩))
    (fun os started H enc _ => lifted os started H enc)
theorem proved : Rows.FnExactJoinRulesSaid := over
end lFnExactJoinRules
end Go.Proofs.Ytccfkglcjmkgcaa
