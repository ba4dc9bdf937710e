/- The law FnExactStricterRule returns true for every two rules: StricterRule of the program and of the reference compute one function. No condition. -/
import Derived.Test.YtohlmkmejiimkaaOpen
import Derived.Test.YtohlmkmejiimkaaR
import Derived.Deep.RegionHeld3
namespace Go.Proofs.Ytohlmkmejiimkaa
open Go.ChangeShapes Go.WideShapes Go.ChangeAt Go.RowKit

set_option maxHeartbeats 400000 in
theorem lawStricter (a b c d f a' b' c' d' f' : Int) (w : World) :
    Calls Try.prog 5 #[.agg #[.int .i64 a, .int .i64 b, .int .i64 c, .int .i64 d, .int .i64 f], .agg #[.int .i64 a', .int .i64 b', .int .i64 c', .int .i64 d', .int .i64 f']] w fun e w' => e = .returned (.bool true) ∧ Ext w w' := by
  have hB := Ext.refl ((w.alloc (.cells #[.int .i64 a, .int .i64 b, .int .i64 c, .int .i64 d, .int .i64 f] 25)).alloc (.cells #[.int .i64 a', .int .i64 b', .int .i64 c', .int .i64 d', .int .i64 f'] 25))
  go_enter Try.func5, Try.ntmps5
  go_wp2_with fail
  go_region_held3 (fun w' => w'.cell? ⟨w.heap.size, 0, none⟩ = some (.int .i64 a) ∧ w'.cell? ⟨w.heap.size, 1, none⟩ = some (.int .i64 b) ∧ w'.cell? ⟨w.heap.size, 2, none⟩ = some (.int .i64 c) ∧ w'.cell? ⟨w.heap.size, 3, none⟩ = some (.int .i64 d) ∧ w'.cell? ⟨w.heap.size, 4, none⟩ = some (.int .i64 f) ∧ w'.cell? ⟨w.heap.size + 1, 0, none⟩ = some (.int .i64 a') ∧ w'.cell? ⟨w.heap.size + 1, 1, none⟩ = some (.int .i64 b') ∧ w'.cell? ⟨w.heap.size + 1, 2, none⟩ = some (.int .i64 c') ∧ w'.cell? ⟨w.heap.size + 1, 3, none⟩ = some (.int .i64 d') ∧ w'.cell? ⟨w.heap.size + 1, 4, none⟩ = some (.int .i64 f'))
    (go_keep)
    (first
    | (go_at_call 12; refine (toRule_any _ _ _ _ _ _).mono ?_; rintro e w' ⟨rfl, hb⟩; have hB := (by first | exact hB.trans hb | exact hB.drew.trans hb : Ext ((w.alloc (.cells #[.int .i64 a, .int .i64 b, .int .i64 c, .int .i64 d, .int .i64 f] 25)).alloc (.cells #[.int .i64 a', .int .i64 b', .int .i64 c', .int .i64 d', .int .i64 f'] 25)) w'); have hc := fun o => hB.use.1 w.heap.size o (by simp <;> omega); have hc2 := fun o => hB.use.1 (w.heap.size + 1) o (by simp <;> omega); clear hb)
    | (go_at_call 14; refine (specStricter_any _ _ _ _ _ _ _ _ _ _ _).mono ?_; rintro e w' ⟨rfl, hb⟩; have hB := (by first | exact hB.trans hb | exact hB.drew.trans hb : Ext ((w.alloc (.cells #[.int .i64 a, .int .i64 b, .int .i64 c, .int .i64 d, .int .i64 f] 25)).alloc (.cells #[.int .i64 a', .int .i64 b', .int .i64 c', .int .i64 d', .int .i64 f'] 25)) w'); have hc := fun o => hB.use.1 w.heap.size o (by simp <;> omega); have hc2 := fun o => hB.use.1 (w.heap.size + 1) o (by simp <;> omega); clear hb)
    | (go_at_call 15; refine (implStricter_any _ _ _ _ _ _ _ _ _ _ _).mono ?_; rintro e w' ⟨rfl, hb⟩; have hB := (by first | exact hB.trans hb | exact hB.drew.trans hb : Ext ((w.alloc (.cells #[.int .i64 a, .int .i64 b, .int .i64 c, .int .i64 d, .int .i64 f] 25)).alloc (.cells #[.int .i64 a', .int .i64 b', .int .i64 c', .int .i64 d', .int .i64 f'] 25)) w'); have hc := fun o => hB.use.1 w.heap.size o (by simp <;> omega); have hc2 := fun o => hB.use.1 (w.heap.size + 1) o (by simp <;> omega); clear hb))
  all_goals go_wp2_with fail
  all_goals go_region_held3 (fun w' => w'.cell? ⟨w.heap.size, 0, none⟩ = some (.int .i64 a) ∧ w'.cell? ⟨w.heap.size, 1, none⟩ = some (.int .i64 b) ∧ w'.cell? ⟨w.heap.size, 2, none⟩ = some (.int .i64 c) ∧ w'.cell? ⟨w.heap.size, 3, none⟩ = some (.int .i64 d) ∧ w'.cell? ⟨w.heap.size, 4, none⟩ = some (.int .i64 f) ∧ w'.cell? ⟨w.heap.size + 1, 0, none⟩ = some (.int .i64 a') ∧ w'.cell? ⟨w.heap.size + 1, 1, none⟩ = some (.int .i64 b') ∧ w'.cell? ⟨w.heap.size + 1, 2, none⟩ = some (.int .i64 c') ∧ w'.cell? ⟨w.heap.size + 1, 3, none⟩ = some (.int .i64 d') ∧ w'.cell? ⟨w.heap.size + 1, 4, none⟩ = some (.int .i64 f'))
    (go_keep)
    (first
    | (go_at_call 12; refine (toRule_any _ _ _ _ _ _).mono ?_; rintro e w' ⟨rfl, hb⟩; have hB := (by first | exact hB.trans hb | exact hB.drew.trans hb : Ext ((w.alloc (.cells #[.int .i64 a, .int .i64 b, .int .i64 c, .int .i64 d, .int .i64 f] 25)).alloc (.cells #[.int .i64 a', .int .i64 b', .int .i64 c', .int .i64 d', .int .i64 f'] 25)) w'); have hc := fun o => hB.use.1 w.heap.size o (by simp <;> omega); have hc2 := fun o => hB.use.1 (w.heap.size + 1) o (by simp <;> omega); clear hb)
    | (go_at_call 14; refine (specStricter_any _ _ _ _ _ _ _ _ _ _ _).mono ?_; rintro e w' ⟨rfl, hb⟩; have hB := (by first | exact hB.trans hb | exact hB.drew.trans hb : Ext ((w.alloc (.cells #[.int .i64 a, .int .i64 b, .int .i64 c, .int .i64 d, .int .i64 f] 25)).alloc (.cells #[.int .i64 a', .int .i64 b', .int .i64 c', .int .i64 d', .int .i64 f'] 25)) w'); have hc := fun o => hB.use.1 w.heap.size o (by simp <;> omega); have hc2 := fun o => hB.use.1 (w.heap.size + 1) o (by simp <;> omega); clear hb)
    | (go_at_call 15; refine (implStricter_any _ _ _ _ _ _ _ _ _ _ _).mono ?_; rintro e w' ⟨rfl, hb⟩; have hB := (by first | exact hB.trans hb | exact hB.drew.trans hb : Ext ((w.alloc (.cells #[.int .i64 a, .int .i64 b, .int .i64 c, .int .i64 d, .int .i64 f] 25)).alloc (.cells #[.int .i64 a', .int .i64 b', .int .i64 c', .int .i64 d', .int .i64 f'] 25)) w'); have hc := fun o => hB.use.1 w.heap.size o (by simp <;> omega); have hc2 := fun o => hB.use.1 (w.heap.size + 1) o (by simp <;> omega); clear hb))
  all_goals go_wp2
  all_goals go_ret
  all_goals exact ⟨rfl, (((Ext.refl w).alloc _).alloc _).trans hB⟩

namespace lFnExactStricterRule
set_option maxRecDepth 100000 in
theorem lifted (os : Os) (started : os.Started) (H : Type) (enc : TypeId × Value → H) :
    ReturnsInHanded {} Try.checked os 5 .any (Rows.fnExactStricterRuleSpec.pre6 enc Try.prog Try.f5 Rows.fnExactStricterRuleRow.domain false) (Rows.fnExactStricterRuleSpec.post enc Try.prog Try.f5 false true false false) := by
  refine returnsInHanded_of_change (C := Try.checked) own started (by kernel_rfl) Try.func5
    (ChangeSpec.witness6 (enc := enc) (C := Try.checked) false ⟨#[], #[.agg #[.int .i64 0, .int .i64 0, .int .i64 0, .int .i64 0, .int .i64 0], .agg #[.int .i64 0, .int .i64 0, .int .i64 0, .int .i64 0, .int .i64 0]], []⟩ 8 (by kernel_rfl) (by kernel_rfl) (by kernel_rfl) (by kernel_rfl)) ?_
  intro W base args ds gs before hval0 hW _ _
  have hval : ∀ (j : Nat) t v, Try.f5.params[j]? = some t → args[j]? = some v → Value.okWide Try.prog W .any base t v := hval0
  have hW' := hW
  obtain ⟨p, q, hA0, hV, rfl, _, _⟩ := hW
  have hA : DataW.TrodAll enc Try.prog W 0 (fun _ => true) true Try.f5.params.toList args.toList ds p := hA0
  rw [Try.params5] at hA hval
  obtain ⟨v0, vs0, d0, ds0, p0, q0, hargs, rfl, rfl, h0, r0⟩ := trodAll_cons hA
  obtain ⟨v1, vs1, d1, ds1, p1, q1, rfl, rfl, rfl, h1, r1⟩ := trodAll_cons r0
  obtain ⟨rfl, rfl, rfl⟩ := trodAll_nil r1
  obtain rfl : args = #[v0, v1] := by cases args; simp_all
  obtain ⟨rfl, rfl⟩ := trodVars_none hV
  have hv0 := hval 0 25 v0 rfl rfl
  have hv1 := hval 1 25 v1 rfl rfl
  clear hA0 hval hval0
  obtain ⟨zs, rfl, hl, _⟩ := openArg_flat (n := 5) Try.underlying25 (by kernel_rfl) hv0 h0
  obtain ⟨a, b, c, d, f, rfl⟩ := list5 (hl.trans (by kernel_rfl : Try.prog.cellsOf 25 = 5))
  obtain ⟨zs, rfl, hl, _⟩ := openArg_flat (n := 5) Try.underlying25 (by kernel_rfl) hv1 h1
  obtain ⟨a', b', c', d', f', rfl⟩ := list5 (hl.trans (by kernel_rfl : Try.prog.cellsOf 25 = 5))
  refine (lawStricter a b c d f a' b' c' d' f' W).mono fun e W' ⟨he, hx⟩ => ?_
  subst he
  exact ⟨_, rfl, law_post (tb := 4) laidOut (by kernel_rfl) rfl Try.underlying4 rfl hW' rfl rfl rfl hx⟩
theorem over : Rows.fnExactStricterRuleRow.holds Try.pinned (OpenSpec.ofChange Rows.fnExactStricterRuleSpec) :=
  OpenClaim.holds_of_wide 5 Try.f5 rfl rfl rfl rfl rfl rfl rfl ⟨rfl, rfl, rfl, rfl, rfl⟩ rfl rfl rfl rfl rfl (by kernel_rfl) Try.func5 (by kernel_rfl)
    (of_decide_eq_true (by kernel_rfl)) (by unfold Func.isWrapper; first | (rw [if_pos (by decide +kernel)]; kernel_rfl) | (rw [if_neg (by decide +kernel)]; exact ⟨rfl, rfl⟩))
    (fun os started H enc _ => lifted os started H enc)
theorem proved : Rows.FnExactStricterRuleSaid := over
end lFnExactStricterRule
end Go.Proofs.Ytohlmkmejiimkaa
