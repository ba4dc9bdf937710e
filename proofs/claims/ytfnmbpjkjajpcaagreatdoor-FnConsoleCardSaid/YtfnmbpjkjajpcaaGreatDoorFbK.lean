/- Contracts of AsksOk of the program and of the reference. -/
import Derived.Test.YtfnmbpjkjajpcaaGreatDoorFbHz
namespace Go.Proofs.YtfnmbpjkjajpcaaGreatDoor
open Go.ChangeShapes Go.WideShapes Go.ChangeAt Go.RowKit
set_option maxHeartbeats 400000 in
theorem implAskOk_any (a b c d : Int) (w : World) :
    Calls Tryz.prog 257 #[.agg #[.int .i64 a, .int .i64 b, .int .i64 c, .int .i64 d]] w fun e w' => e = .returned (.bool (askOk ⟨a, b, c, d⟩)) ∧ Ext w w' := by
  go_enter Tryz.func257, Tryz.ntmps257
  go_wp2_with (go_at_call 241; refine (inRange_any _ _ _ _).mono ?_; rintro e w' ⟨rfl, rfl⟩)
  all_goals go_ret
  all_goals refine ⟨ret_bool ?_, (Ext.refl _).alloc _⟩
  all_goals simp [askOk, inR, *]
  all_goals try omega
set_option maxHeartbeats 400000 in
theorem implAsksOk_any (A : Option Addr) (n c : Nat) (xs : List Ask) (w : World) (hn : xs.length = n) (hr : Row w A (ints (flat Ask.ints xs))) (hle : n ≤ maxLen) :
    Calls Tryz.prog 194 #[.slice A n c] w fun e w' => e = .returned (.bool (asksOk xs)) ∧ Ext w w' := by
  unfold maxLen at hle
  go_enter Tryz.func194, Tryz.ntmps194
  go_wp2
  go_loopw [7] (fun i wr => ∃ k : Nat, k ≤ n ∧ i = .int .i64 k ∧ Ext w wr ∧ (xs.take k).all askOk = true) (fun i _ => n - (intOf i).toNat)
  case atStart => exact ⟨0, Nat.zero_le _, rfl, Ext.refl _, rfl⟩
  case round =>
    obtain ⟨k, hk, rfl, hx, hall⟩ := hrel
    have Hall := Lib.hid hall
    clear hall
    by_cases hlt : k < n
    · obtain ⟨b, off, rfl, hb, hc0, hc1, hc2, hc3⟩ := (hr.ext hx).Ask (k := k) (by omega)
      go_wp2_with fail
      refine (implAskOk_any _ _ _ _ _).mono ?_
      rintro e w2 ⟨rfl, hx2⟩
      have hx3 : Ext w w2 := (hx.alloc _).trans hx2
      by_cases hm : askOk (xs[k]'(by omega)) = true
      · rw [hm]
        have Hm := Lib.hid hm
        clear hm
        go_wp2
        go_roundw
        case rel => exact ⟨k + 1, by omega, by go_num, hx3, by rw [all_take_succ _ _ _ (by omega), Hm.out, Hall.out]; rfl⟩
        case measure => simp [intOf]; omega
      · rw [show askOk _ = false from by simpa using hm]
        have Hm := Lib.hid hm
        clear hm
        go_wp2
        go_ret
        exact ⟨ret_bool (by unfold asksOk; rw [all_false_at _ _ k (by omega) (by simpa using Hm.out)]; rfl), hx3⟩
    · go_wp2
      go_ret
      refine ⟨ret_bool ?_, hx⟩
      have h := Hall.out
      rw [List.take_of_length_le (by omega)] at h
      unfold asksOk
      rw [h, hn]
      simp
      omega
end Go.Proofs.YtfnmbpjkjajpcaaGreatDoor
