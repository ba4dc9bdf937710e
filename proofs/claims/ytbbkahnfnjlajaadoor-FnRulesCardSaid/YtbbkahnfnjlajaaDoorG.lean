/- Contracts of IsConserved, LongestGood, KeepsAll of the program and of the reference. -/
import Derived.Test.YtbbkahnfnjlajaaDoorB
import Derived.Test.YtbbkahnfnjlajaaDoorHRule
namespace Go.Proofs.YtbbkahnfnjlajaaDoor
open Go.ChangeShapes Go.WideShapes Go.ChangeAt Go.RowKit
set_option linter.unusedVariables false

set_option maxHeartbeats 1000000 in
theorem implIsCons_any (a b c d f : Int) (A : Option Addr) (n cc : Nat) (xs : List Int) (w : World) (hn : xs.length = n) (hr : Row w A (ints xs)) (hnc : n ≤ cc) (hcc : cc ≤ maxLen) :
    Calls Tryd.prog 15 #[.agg #[.int .i64 a, .int .i64 b, .int .i64 c, .int .i64 d, .int .i64 f], .slice A n cc] w fun e w' => e = .returned (.bool (isCons ⟨a, b, c, d, f⟩ xs)) ∧ Ext w w' := by
  have Hcc := Lib.hid hcc
  have Hn : Hid (n ≤ maxLen) := by unfold Hid; omega
  unfold maxLen at hcc
  have hx : Ext w (w.alloc (.cells #[.int .i64 a, .int .i64 b, .int .i64 c, .int .i64 d, .int .i64 f] 24)) := (Ext.refl w).alloc _
  have hB := Ext.refl (w.alloc (.cells #[.int .i64 a, .int .i64 b, .int .i64 c, .int .i64 d, .int .i64 f] 24))
  have hr2 := hr.ext hx
  go_enter Tryd.func15, Tryd.ntmps15
  go_wp2_with (first
    | (go_at_call 11; refine (implFirstBreach_any _ _ _ _ _ _ _ _ xs _ hn (hr2.ext hB) hnc Hcc.out).mono ?_; rintro e w' ⟨rfl, hb⟩; have hB := hB.trans hb; have hc := fun o => hB.use.1 w.heap.size o (by simp <;> omega); clear hb)
    | (go_at_call 13; refine (implRuleOk_any _ _ _ _ _ _).mono ?_; rintro e w' ⟨rfl, hb⟩; have hB := hB.trans hb; have hc := fun o => hB.use.1 w.heap.size o (by simp <;> omega); clear hb)
    | (go_at_call 14; refine (implSeriesOk_any _ _ _ xs _ hn (hr2.ext hB) Hn.out).mono ?_; rintro e w' ⟨rfl, rfl⟩))
  all_goals go_ret
  all_goals refine ⟨ret_bool ?_, hx.trans hB⟩
  all_goals simp [isCons, *]
  all_goals try omega

set_option maxHeartbeats 1000000 in
theorem implLongest_any (a b c d f : Int) (A : Option Addr) (n cc : Nat) (xs : List Int) (w : World) (hn : xs.length = n) (hr : Row w A (ints xs)) (hnc : n ≤ cc) (hcc : cc ≤ maxLen) :
    Calls Tryd.prog 12 #[.agg #[.int .i64 a, .int .i64 b, .int .i64 c, .int .i64 d, .int .i64 f], .slice A n cc] w fun e w' => e = .returned (.int .i64 (longest ⟨a, b, c, d, f⟩ xs)) ∧ Ext w w' := by
  have Hcc := Lib.hid hcc
  have Hn : Hid (n ≤ maxLen) := by unfold Hid; omega
  unfold maxLen at hcc
  have hx : Ext w (w.alloc (.cells #[.int .i64 a, .int .i64 b, .int .i64 c, .int .i64 d, .int .i64 f] 24)) := (Ext.refl w).alloc _
  have hB := Ext.refl (w.alloc (.cells #[.int .i64 a, .int .i64 b, .int .i64 c, .int .i64 d, .int .i64 f] 24))
  have hr2 := hr.ext hx
  go_enter Tryd.func12, Tryd.ntmps12
  go_wp2_with (first
    | (go_at_call 11; refine (implFirstBreach_any _ _ _ _ _ _ _ _ xs _ hn (hr2.ext hB) hnc Hcc.out).mono ?_; rintro e w' ⟨rfl, hb⟩; have hB := hB.trans hb; have hc := fun o => hB.use.1 w.heap.size o (by simp <;> omega); clear hb)
    | (go_at_call 13; refine (implRuleOk_any _ _ _ _ _ _).mono ?_; rintro e w' ⟨rfl, hb⟩; have hB := hB.trans hb; have hc := fun o => hB.use.1 w.heap.size o (by simp <;> omega); clear hb)
    | (go_at_call 14; refine (implSeriesOk_any _ _ _ xs _ hn (hr2.ext hB) Hn.out).mono ?_; rintro e w' ⟨rfl, rfl⟩))
  all_goals go_ret
  all_goals refine ⟨ret_int ?_, hx.trans hB⟩
  all_goals simp_all [longest]
  all_goals try (intro h; omega)

set_option maxHeartbeats 1000000 in
theorem implKeepsAll_any (A B : Option Addr) (n c m d : Nat) (us : List Rule) (xs : List Int) (w : World) (hn : us.length = n) (hm : xs.length = m) (hr : Row w A (ints (flat Rule.ints us))) (hs : Row w B (ints xs)) (hle : n ≤ maxLen) (hmd : m ≤ d) (hdd : d ≤ maxLen) :
    Calls Tryd.prog 20 #[.slice A n c, .slice B m d] w fun e w' => e = .returned (.bool (keepsAll us xs)) ∧ Ext w w' := by
  have Hdd := Lib.hid hdd
  have Hm : Hid (m ≤ maxLen) := by unfold Hid; omega
  unfold maxLen at hle hdd
  go_enter Tryd.func20, Tryd.ntmps20
  go_wp2
  go_loopw [9] (fun i wr => ∃ k : Nat, k ≤ n ∧ i = .int .i64 k ∧ Ext w wr ∧ (us.take k).all (fun u => isCons u xs) = true) (fun i _ => n - (intOf i).toNat)
  case atStart => exact ⟨0, Nat.zero_le _, rfl, Ext.refl _, rfl⟩
  case round =>
    obtain ⟨k, hk, rfl, hx, hall⟩ := hrel
    have Hall := Lib.hid hall
    clear hall
    by_cases hlt : k < n
    · obtain ⟨b, off, rfl, hb, hc0, hc1, hc2, hc3, hc4⟩ := (hr.ext hx).Rule (k := k) (by omega)
      go_wp2_with fail
      refine (implIsCons_any _ _ _ _ _ _ _ _ xs _ hm ((hs.ext hx).ext ((Ext.refl _).alloc _)) hmd Hdd.out).mono ?_
      rintro e w2 ⟨rfl, hx2⟩
      have hx3 : Ext w w2 := (hx.alloc _).trans hx2
      by_cases hco : isCons (us[k]'(by omega)) xs = true
      · rw [show isCons _ xs = true from hco]
        have Hco := Lib.hid hco
        clear hco
        go_wp2
        go_roundw
        case rel => exact ⟨k + 1, by omega, by go_num, hx3, by rw [all_take_succ _ _ _ (by omega), Hco.out, Hall.out]; rfl⟩
        case measure => simp [intOf]; omega
      · rw [show isCons _ xs = false from by simpa using hco]
        have Hco : Hid (isCons (us[k]'(by omega)) xs = false) := by unfold Hid; simpa using hco
        clear hco
        go_wp2
        go_ret
        exact ⟨ret_bool (by unfold keepsAll; rw [all_false_at _ _ k (by omega) Hco.out]; rfl), hx3⟩
    · go_wp2_with fail
      refine (implSeriesOk_any _ _ _ xs _ hm (hs.ext hx) Hm.out).mono ?_
      rintro e w' ⟨rfl, rfl⟩
      go_wp2
      go_ret
      refine ⟨ret_bool ?_, hx⟩
      have h := Hall.out
      rw [List.take_of_length_le (by omega)] at h
      unfold keepsAll
      rw [h]
      simp



end Go.Proofs.YtbbkahnfnjlajaaDoor
