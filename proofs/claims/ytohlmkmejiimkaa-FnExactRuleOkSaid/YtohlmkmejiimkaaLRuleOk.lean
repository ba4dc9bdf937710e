/- The law FnExactRuleOk returns true for every rule: RuleOk of the program and of the reference compute one function. No condition. -/
import Derived.Test.YtohlmkmejiimkaaOpen
import Derived.Test.YtohlmkmejiimkaaR
namespace Go.Proofs.Ytohlmkmejiimkaa
open Go.ChangeShapes Go.WideShapes Go.ChangeAt Go.RowKit

theorem lawRuleOk (a b c d f : Int) (w : World) :
    Calls Try.prog 4 #[.agg #[.int .i64 a, .int .i64 b, .int .i64 c, .int .i64 d, .int .i64 f]] w fun e w' => e = .returned (.bool true) ∧ Ext w w' := by
  have hB := Ext.refl (w.alloc (.cells #[.int .i64 a, .int .i64 b, .int .i64 c, .int .i64 d, .int .i64 f] 25))
  go_enter Try.func4, Try.ntmps4
  go_wp2_with (first
    | (go_at_call 12; refine (toRule_any _ _ _ _ _ _).mono ?_; rintro e w' ⟨rfl, hb⟩; have hB := hB.trans hb; have hc := fun o => hB.use.1 w.heap.size o (by simp <;> omega); clear hb)
    | (go_at_call 11; refine (specRuleOk_any _ _ _ _ _ _).mono ?_; rintro e w' ⟨rfl, hb⟩; have hB := hB.trans hb; have hc := fun o => hB.use.1 w.heap.size o (by simp <;> omega); clear hb)
    | (go_at_call 13; refine (implRuleOk_any _ _ _ _ _ _).mono ?_; rintro e w' ⟨rfl, hb⟩; have hB := hB.trans hb; have hc := fun o => hB.use.1 w.heap.size o (by simp <;> omega); clear hb))
  go_ret
  exact ⟨rfl, ((Ext.refl w).alloc _).trans hB⟩

namespace lFnExactRuleOk
set_option maxRecDepth 100000 in
theorem lifted (os : Os) (started : os.Started) (H : Type) (enc : TypeId × Value → H) :
    ReturnsInHanded {} Try.checked os 4 .any (Rows.fnExactRuleOkSpec.pre6 enc Try.prog Try.f4 Rows.fnExactRuleOkRow.domain false) (Rows.fnExactRuleOkSpec.post enc Try.prog Try.f4 false true false false) := by
  refine returnsInHanded_of_change (C := Try.checked) own started (by kernel_rfl) Try.func4
    (ChangeSpec.witness6 (enc := enc) (C := Try.checked) false ⟨#[], #[.agg #[.int .i64 0, .int .i64 0, .int .i64 0, .int .i64 0, .int .i64 0]], []⟩ 8 (by kernel_rfl) (by kernel_rfl) (by kernel_rfl) (by kernel_rfl)) ?_
  intro W base args ds gs before hval0 hW _ _
  have hval : ∀ (j : Nat) t v, Try.f4.params[j]? = some t → args[j]? = some v → Value.okWide Try.prog W .any base t v := hval0
  have hW' := hW
  obtain ⟨p, q, hA0, hV, rfl, _, _⟩ := hW
  have hA : DataW.TrodAll enc Try.prog W 0 (fun _ => true) true Try.f4.params.toList args.toList ds p := hA0
  rw [Try.params4] at hA hval
  obtain ⟨v0, vs0, d0, ds0, p0, q0, hargs, rfl, rfl, h0, r0⟩ := trodAll_cons hA
  obtain ⟨rfl, rfl, rfl⟩ := trodAll_nil r0
  obtain rfl : args = #[v0] := by cases args; simp_all
  obtain ⟨rfl, rfl⟩ := trodVars_none hV
  have hv0 := hval 0 25 v0 rfl rfl
  clear hA0 hval hval0
  obtain ⟨zs, rfl, hl, _⟩ := openArg_flat (n := 5) Try.underlying25 (by kernel_rfl) hv0 h0
  obtain ⟨a, b, c, d, f, rfl⟩ := list5 (hl.trans (by kernel_rfl : Try.prog.cellsOf 25 = 5))
  refine (lawRuleOk a b c d f W).mono fun e W' ⟨he, hx⟩ => ?_
  subst he
  exact ⟨_, rfl, law_post (tb := 4) laidOut (by kernel_rfl) rfl Try.underlying4 rfl hW' rfl rfl rfl hx⟩
theorem over : Rows.fnExactRuleOkRow.holds Try.pinned (OpenSpec.ofChange Rows.fnExactRuleOkSpec) :=
  OpenClaim.holds_of_wide 4 Try.f4 rfl rfl rfl rfl rfl rfl rfl ⟨rfl, rfl, rfl, rfl, rfl⟩ rfl rfl rfl rfl rfl (by kernel_rfl) Try.func4 (by kernel_rfl)
    (of_decide_eq_true (by kernel_rfl)) (by unfold Func.isWrapper; first | (rw [if_pos (by decide +kernel)]; kernel_rfl) | (rw [if_neg (by decide +kernel)]; exact ⟨rfl, rfl⟩))
    (fun os started H enc _ => lifted os started H enc)
theorem proved : Rows.FnExactRuleOkSaid := over
end lFnExactRuleOk
end Go.Proofs.Ytohlmkmejiimkaa
