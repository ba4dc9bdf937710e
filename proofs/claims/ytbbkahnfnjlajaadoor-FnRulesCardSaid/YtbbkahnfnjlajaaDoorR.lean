/- Contracts of functions on rules and of BreachName. -/
import Derived.Test.YtbbkahnfnjlajaaDoorHz
namespace Go.Proofs.YtbbkahnfnjlajaaDoor
open Go.ChangeShapes Go.WideShapes Go.ChangeAt Go.RowKit

theorem specRuleOk_any (a b c d f : Int) (w : World) :
    Calls Tryd.prog 66 #[.agg #[.int .i64 a, .int .i64 b, .int .i64 c, .int .i64 d, .int .i64 f]] w fun e w' => e = .returned (.bool (ruleOk ⟨a, b, c, d, f⟩)) ∧ Ext w w' := by
  go_enter Tryd.func66, Tryd.ntmps66
  go_wp2_with (go_at_call 90; refine (l01In_any _ _ _ _).mono ?_; rintro e w' ⟨rfl, rfl⟩)
  all_goals go_ret
  all_goals exact ⟨ret_bool (by simp [ruleOk, *]), (Ext.refl _).alloc _⟩

set_option maxHeartbeats 400000 in
theorem implRuleOk_any (a b c d f : Int) (w : World) :
    Calls Tryd.prog 13 #[.agg #[.int .i64 a, .int .i64 b, .int .i64 c, .int .i64 d, .int .i64 f]] w fun e w' => e = .returned (.bool (ruleOk ⟨a, b, c, d, f⟩)) ∧ Ext w w' := by
  go_enter Tryd.func13, Tryd.ntmps13
  go_wp2_with (go_at_call 49; refine (inRange_any _ _ _ _).mono ?_; rintro e w' ⟨rfl, rfl⟩)
  all_goals go_ret
  all_goals refine ⟨ret_bool ?_, (Ext.refl _).alloc _⟩
  all_goals simp [ruleOk, *]
  all_goals simp [inR]; omega

theorem toRule_any (a b c d f : Int) (w : World) :
    Calls Tryd.prog 35 #[.agg #[.int .i64 a, .int .i64 b, .int .i64 c, .int .i64 d, .int .i64 f]] w fun e w' => e = .returned (.agg #[.int .i64 a, .int .i64 b, .int .i64 c, .int .i64 d, .int .i64 f]) ∧ Ext w w' := by
  go_enter Tryd.func35, Tryd.ntmps35
  go_wp2
  refine bodyPost_ret (v := .agg #[.int .i64 a, .int .i64 b, .int .i64 c, .int .i64 d, .int .i64 f]) (by simp [results, Tryd.results35, go_sem]) rfl ⟨rfl, ?_⟩
  repeat (first | exact Ext.refl _ | refine Ext.alloc ?_ _ | refine Ext.setCell ?_ (by simp) _)

theorem implBreachName_any (n : Int) (w : World) :
    Calls Tryd.prog 16 #[.int .i64 n] w fun e w' => e = .returned (.string (breachName n)) ∧ w = w' := by
  by_cases h0 : n = 0
  · subst h0
    go_enter Tryd.func16, Tryd.ntmps16
    go_wp2
    go_ret
    exact ⟨rfl, rfl⟩
  by_cases h1 : n = 1
  · subst h1
    go_enter Tryd.func16, Tryd.ntmps16
    go_wp2
    go_ret
    exact ⟨rfl, rfl⟩
  by_cases h2 : n = 2
  · subst h2
    go_enter Tryd.func16, Tryd.ntmps16
    go_wp2
    go_ret
    exact ⟨rfl, rfl⟩
  by_cases h3 : n = 3
  · subst h3
    go_enter Tryd.func16, Tryd.ntmps16
    go_wp2
    go_ret
    exact ⟨rfl, rfl⟩
  have H : Hid (breachName n = ⟨#[]⟩) := by simp [Hid, breachName, h0, h1, h2, h3]
  go_enter Tryd.func16, Tryd.ntmps16
  go_wp2
  go_ret
  exact ⟨by rw [H.out]; rfl, rfl⟩

theorem specBreachName_any (n : Int) (w : World) :
    Calls Tryd.prog 69 #[.int .i64 n] w fun e w' => e = .returned (.string (breachName n)) ∧ Ext w w' := by
  by_cases h0 : n = 0
  · subst h0
    go_enter Tryd.func69, Tryd.ntmps69
    go_wp2
    go_ret
    exact ⟨rfl, (Ext.refl _).alloc _⟩
  by_cases h1 : n = 1
  · subst h1
    go_enter Tryd.func69, Tryd.ntmps69
    go_wp2
    go_ret
    exact ⟨rfl, (Ext.refl _).alloc _⟩
  by_cases h2 : n = 2
  · subst h2
    go_enter Tryd.func69, Tryd.ntmps69
    go_wp2
    go_ret
    exact ⟨rfl, (Ext.refl _).alloc _⟩
  by_cases h3 : n = 3
  · subst h3
    go_enter Tryd.func69, Tryd.ntmps69
    go_wp2
    go_ret
    exact ⟨rfl, (Ext.refl _).alloc _⟩
  have H : Hid (breachName n = ⟨#[]⟩) := by simp [Hid, breachName, h0, h1, h2, h3]
  have hin : inR n 0 3 = false := by simp [inR]; omega
  go_enter Tryd.func69, Tryd.ntmps69
  go_wp2_with (go_at_call 90; refine (l01In_any _ _ _ _).mono ?_; rintro e w' ⟨rfl, rfl⟩)
  go_ret
  exact ⟨by rw [H.out]; rfl, Ext.refl _⟩

theorem implStricter_any (a b c d f a' b' c' d' f' : Int) (w : World) :
    Calls Tryd.prog 19 #[.agg #[.int .i64 a, .int .i64 b, .int .i64 c, .int .i64 d, .int .i64 f], .agg #[.int .i64 a', .int .i64 b', .int .i64 c', .int .i64 d', .int .i64 f']] w fun e w' => e = .returned (.bool (stricter ⟨a, b, c, d, f⟩ ⟨a', b', c', d', f'⟩)) ∧ Ext w w' := by
  have hB := Ext.refl ((w.alloc (.cells #[.int .i64 a, .int .i64 b, .int .i64 c, .int .i64 d, .int .i64 f] 24)).alloc (.cells #[.int .i64 a', .int .i64 b', .int .i64 c', .int .i64 d', .int .i64 f'] 24))
  go_enter Tryd.func19, Tryd.ntmps19
  go_wp2_with (go_at_call 13; refine (implRuleOk_any _ _ _ _ _ _).mono ?_; rintro e w' ⟨rfl, hb⟩; have hB := hB.trans hb; have hc := fun o => hB.use.1 w.heap.size o (by simp <;> omega); have hc2 := fun o => hB.use.1 (w.heap.size + 1) o (by simp <;> omega); clear hb)
  all_goals go_ret
  all_goals refine ⟨ret_bool ?_, ((Ext.refl w).alloc _).alloc _ |>.trans hB⟩
  all_goals simp [stricter, *]
  all_goals simp_all <;> omega
end Go.Proofs.YtbbkahnfnjlajaaDoor
