/- Contracts of JoinRules of the program and of the reference. -/
import Derived.Test.YtbbkahnfnjlajaaDoorHRule
import Derived.Test.YtbbkahnfnjlajaaDoorR
import Derived.Test.YtbbkahnfnjlajaaDoorHz
import Derived.Test.YtbbkahnfnjlajaaDoorPlainR
namespace Go.Proofs.YtbbkahnfnjlajaaDoor
open Go.ChangeShapes Go.WideShapes Go.ChangeAt Go.RowKit
set_option linter.unusedVariables false

/-- the cells of a rule -/
def ruleCells (u : Rule) : Array Value := #[.int .i64 u.Low, .int .i64 u.High, .int .i64 u.Step, .int .i64 u.Window, .int .i64 u.Drift]

set_option maxHeartbeats 2000000 in
theorem implJoin_any (A : Option Addr) (n c : Nat) (us : List Rule) (w : World) (hn : us.length = n) (hr : Row w A (ints (flat Rule.ints us))) (hle : n ≤ maxLen) :
    Calls Tryd.prog 18 #[.slice A n c] w fun e w' => e = .returned (.tuple #[.agg #[.int .i64 (joinRules us).1.Low, .int .i64 (joinRules us).1.High, .int .i64 (joinRules us).1.Step, .int .i64 (joinRules us).1.Window, .int .i64 (joinRules us).1.Drift], .bool (joinRules us).2]) ∧ Ext w w' := by
  unfold maxLen at hle
  by_cases h0 : n = 0
  · have H := Lib.hid (joinRules_bad (xs := us) (fun h => h.1 (by omega)))
    subst h0
    go_enter Tryd.func18, Tryd.ntmps18
    go_wp2
    refine bodyPost_ret (v := .tuple #[.agg #[.int .i64 0, .int .i64 0, .int .i64 0, .int .i64 0, .int .i64 0], .bool false]) (by simp [results, Tryd.results18, go_sem]) rfl ⟨by rw [H.out], ?_⟩
    repeat (first | exact Ext.refl _ | refine Ext.alloc ?_ _ | refine Ext.setCell ?_ (by simp) _)
  · have h0b : ((n : Int) == 0) = false := by simp; omega
    have H0 := Lib.hid h0
    clear h0
    have hR := Ext.refl (w.alloc (.cells #[.int .i64 0, .int .i64 0, .int .i64 0, .int .i64 0, .int .i64 0] 24))
    have hx0 : Ext w (w.alloc (.cells #[.int .i64 0, .int .i64 0, .int .i64 0, .int .i64 0, .int .i64 0] 24)) := (Ext.refl w).alloc _
    obtain ⟨b, off, rfl, hb, hc0, hc1, hc2, hc3, hc4⟩ := (hr.ext hx0).Rule (k := 0) (by have := H0.out; omega)
    simp only [Nat.zero_mul, Nat.add_zero] at hc0 hc1 hc2 hc3 hc4
    have hlt0 : (0 : Int) < (n : Int) := by have := H0.out; omega
    have H1 : Hid (ruleAt us 0 = us[0]'(by have := H0.out; omega)) := ruleAt_at (by have := H0.out; omega)
    go_enter Tryd.func18, Tryd.ntmps18
    go_wp2
    clear hc0 hc1 hc2 hc3 hc4
    go_loopw [16] (fun i wr => ∃ k : Nat, k ≤ n ∧ i = .int .i64 k ∧ Ext w wr ∧ Blk wr w.heap.size 24 #[.int .i64 0, .int .i64 0, .int .i64 0, .int .i64 0, .int .i64 0] ∧ Blk wr (w.heap.size + 1) 24 (ruleCells (joinN us k)) ∧ (us.take k).all ruleOk = true) (fun i _ => n - (intOf i).toNat)
    case atStart => exact ⟨0, Nat.zero_le _, rfl, by repeat (first | exact Ext.refl _ | refine Ext.alloc ?_ _), (Blk.new _ _ _).alloc _, by
      rw [joinN, H1.out]
      have := Blk.new (w.alloc (.cells #[.int .i64 0, .int .i64 0, .int .i64 0, .int .i64 0, .int .i64 0] 24)) 24 (ruleCells (us[0]'(by have := H0.out; omega)))
      simpa [ruleCells] using this, rfl⟩
    case round =>
      obtain ⟨k, hk, rfl, hx, hb0, hb1, hall⟩ := hrel
      have Hall := Lib.hid hall
      clear hall
      generalize hJ : joinN us k = J at hb1
      have HJ := Lib.hid hJ
      clear hJ
      obtain ⟨j0, j1, j2, j3, j4⟩ := J
      have hl0 := hb0.lt
      have hl1 := hb1.lt
      by_cases hlt : k < n
      · obtain ⟨b', off', hA, hb', hc0, hc1, hc2, hc3, hc4⟩ := (hr.ext hx).Rule (k := k) (by omega)
        injection hA with hA
        injection hA with e1 e2
        subst e1
        subst e2
        have Hat : Hid (ruleAt us k = us[k]'(by omega)) := ruleAt_at (by omega)
        go_wp2_with fail
        refine (implRuleOk_any _ _ _ _ _ _).mono ?_
        rintro e w2 ⟨rfl, hx2⟩
        have hb0' := (hb0.alloc (.cells #[.int .i64 (us[k]'(by omega)).Low, .int .i64 (us[k]'(by omega)).High, .int .i64 (us[k]'(by omega)).Step, .int .i64 (us[k]'(by omega)).Window, .int .i64 (us[k]'(by omega)).Drift] 24)).ext hx2
        have hb1' := (hb1.alloc (.cells #[.int .i64 (us[k]'(by omega)).Low, .int .i64 (us[k]'(by omega)).High, .int .i64 (us[k]'(by omega)).Step, .int .i64 (us[k]'(by omega)).Window, .int .i64 (us[k]'(by omega)).Drift] 24)).ext hx2
        have hbu := (Blk.new wr 24 #[.int .i64 (us[k]'(by omega)).Low, .int .i64 (us[k]'(by omega)).High, .int .i64 (us[k]'(by omega)).Step, .int .i64 (us[k]'(by omega)).Window, .int .i64 (us[k]'(by omega)).Drift]).ext hx2
        have hx3 : Ext w w2 := (hx.alloc _).trans hx2
        have hk0 := fun o => hb0'.cell o
        have hk1 := fun o => hb1'.cell o
        have hku := fun o => hbu.cell o
        have hf0 := fun o => hb0'.frozen o
        have hf1 := fun o => hb1'.frozen o
        simp only [ruleCells] at hk1
        have hne : wr.heap.size ≠ w.heap.size + 1 := by omega
        have hne2 : w.heap.size + 1 ≠ wr.heap.size := by omega
        by_cases hru : ruleOk (us[k]'(by omega)) = true
        · rw [show ruleOk _ = true from hru]
          have Hru := Lib.hid hru
          clear hru
          by_cases hwin : (us[k]'(by omega)).Window = j3
          · have hwb : ((us[k]'(by omega)).Window == j3) = true := by simpa using hwin
            have Hwin := Lib.hid hwin
            clear hwin
            go_wp2
            go_roundw
            case rel => exact ⟨k + 1, by omega, by go_num, by repeat (first | exact hx3 | refine Ext.setCell ?_ (by simp) _), ((((hb0'.far (by simp) _).far (by simp) _).far (by simp) _).far (by simp) _), by
              rw [joinN, HJ.out, Hat.out]
              have := (((hb1'.set_ 0 (.int .i64 (maxG j0 (us[k]'(by omega)).Low))).set_ 1 (.int .i64 (minG j1 (us[k]'(by omega)).High))).set_ 2 (.int .i64 (minG j2 (us[k]'(by omega)).Step))).set_ 4 (.int .i64 (minG j4 (us[k]'(by omega)).Drift))
              simpa [ruleCells, joinStep, maxG, minG, Hwin.out] using this, by rw [all_take_succ _ _ _ (by omega), Hru.out, Hall.out]; rfl⟩
            case measure => simp [intOf]; omega
          · have hwb : ((us[k]'(by omega)).Window == j3) = false := by simpa using hwin
            have Hwin := Lib.hid hwin
            clear hwin
            go_wp2
            go_roundw
            case rel => exact ⟨k + 1, by omega, by go_num, by repeat (first | exact hx3 | refine Ext.setCell ?_ (by simp) _), (((hb0'.far (by simp) _).far (by simp) _).far (by simp) _), by
              rw [joinN, HJ.out, Hat.out]
              have := ((hb1'.set_ 0 (.int .i64 (maxG j0 (us[k]'(by omega)).Low))).set_ 1 (.int .i64 (minG j1 (us[k]'(by omega)).High))).set_ 2 (.int .i64 (minG j2 (us[k]'(by omega)).Step))
              simpa [ruleCells, joinStep, maxG, minG, Hwin.out] using this, by rw [all_take_succ _ _ _ (by omega), Hru.out, Hall.out]; rfl⟩
            case measure => simp [intOf]; omega
        · have H := Lib.hid (joinRules_bad (xs := us) (fun h => by
            have := h.2.1
            rw [all_false_at _ _ k (by omega) (by simpa using hru)] at this
            exact absurd this (by simp)))
          rw [show ruleOk _ = false from by simpa using hru]
          clear hru
          go_wp2
          refine bodyPost_ret (v := .tuple #[.agg #[.int .i64 0, .int .i64 0, .int .i64 0, .int .i64 0, .int .i64 0], .bool false]) (by simp [results, Tryd.results18, go_sem, hk0]) rfl ⟨by rw [H.out], ?_⟩
          repeat (first | exact hx3 | refine Ext.setCell ?_ (by simp) _)
      · have hk0 := fun o => hb0.cell o
        have hk1 := fun o => hb1.cell o
        have hf0 := fun o => hb0.frozen o
        simp only [ruleCells] at hk1
        go_wp2_with fail
        refine (implRuleOk_any _ _ _ _ _ _).mono ?_
        rintro e w2 ⟨rfl, hx2⟩
        have hb0' := hb0.ext hx2
        have hb1' := hb1.ext hx2
        have hm0 := fun o => hb0'.cell o
        have hm1 := fun o => hb1'.cell o
        have hg0 := fun o => hb0'.frozen o
        simp only [ruleCells] at hm1
        have hall : us.all ruleOk = true := by
          have h := Hall.out
          rwa [List.take_of_length_le (by omega)] at h
        have HJ2 : Hid (joinN us us.length = ⟨j0, j1, j2, j3, j4⟩) := by unfold Hid; rw [hn, ← HJ.out, show k = n from by omega]
        by_cases hru : ruleOk ⟨j0, j1, j2, j3, j4⟩ = true
        · have H := Lib.hid (joinRules_good (xs := us) (by have := H0.out; omega) hall (by rw [HJ2.out]; exact hru))
          rw [hru]
          clear hru hall
          go_wp2
          refine bodyPost_ret (v := .tuple #[.agg #[.int .i64 j0, .int .i64 j1, .int .i64 j2, .int .i64 j3, .int .i64 j4], .bool true]) (by simp [results, Tryd.results18, go_sem, hm0]) rfl ⟨by rw [H.out, HJ2.out], ?_⟩
          repeat (first | exact hx.trans hx2 | refine Ext.setCell ?_ (by simp) _)
        · have H := Lib.hid (joinRules_bad (xs := us) (fun h => hru (by rw [← HJ2.out]; exact h.2.2)))
          rw [show ruleOk _ = false from by simpa using hru]
          clear hru hall
          go_wp2
          refine bodyPost_ret (v := .tuple #[.agg #[.int .i64 0, .int .i64 0, .int .i64 0, .int .i64 0, .int .i64 0], .bool false]) (by simp [results, Tryd.results18, go_sem, hm0]) rfl ⟨by rw [H.out], ?_⟩
          repeat (first | exact hx.trans hx2 | refine Ext.setCell ?_ (by simp) _)

end Go.Proofs.YtbbkahnfnjlajaaDoor
