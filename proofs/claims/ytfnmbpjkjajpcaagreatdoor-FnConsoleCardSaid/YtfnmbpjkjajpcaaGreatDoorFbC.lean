/- Contracts of the sums of a shared chiller, and of IsAllotment, UnusedOf. -/
import Derived.Test.YtfnmbpjkjajpcaaGreatDoorFbK
namespace Go.Proofs.YtfnmbpjkjajpcaaGreatDoor
open Go.ChangeShapes Go.WideShapes Go.ChangeAt Go.RowKit
set_option maxHeartbeats 1000000 in
theorem implLeastCap_any (A : Option Addr) (n c : Nat) (xs : List Ask) (w : World) (hn : xs.length = n) (hr : Row w A (ints (flat Ask.ints xs))) (hle : n ≤ maxLen) :
    Calls Tryz.prog 258 #[.slice A n c] w fun e w' => e = .returned (.int .i64 (leastCap xs)) ∧ Ext w w' := by
  have Hle := Lib.hid hle
  unfold maxLen at hle
  go_enter Tryz.func258, Tryz.ntmps258
  go_wp2_with fail
  refine (implAsksOk_any _ _ _ xs _ hn hr Hle.out).mono ?_
  rintro e w1 ⟨rfl, hx1⟩
  by_cases hok : asksOk xs = true
  · rw [hok]
    have h6 := asksOk_len hok
    have Hok := Lib.hid hok
    clear hok
    go_wp2
    go_loopw [3, 11] (fun s i wr => ∃ k : Nat, k ≤ n ∧ i = .int .i64 k ∧ s = .int .i64 (sumN (askLow xs) k) ∧ Ext w wr) (fun _ i _ => n - (intOf i).toNat)
    case atStart => exact ⟨0, Nat.zero_le _, rfl, rfl, hx1⟩
    case round =>
      obtain ⟨k, hk, rfl, rfl, hx⟩ := hrel
      have hbd := sumLow_bd Hok.out (k := k) (by omega)
      obtain ⟨hb1, hb2⟩ := hbd
      by_cases hlt : k < n
      · obtain ⟨b, off, rfl, hb, hc0, hc1, hc2, hc3⟩ := (hr.ext hx).Ask (k := k) (by omega)
        obtain ⟨a1, a2, a3, a4, a5, a6⟩ := asksOk_at Hok.out (i := k) (by omega)
        go_wp2
        go_roundw
        case rel => exact ⟨k + 1, by omega, by go_num, by rw [sumN, askLow_at (by omega)], hx.alloc _⟩
        case measure => simp [intOf]; omega
      · go_wp2
        go_ret
        exact ⟨ret_int (by unfold leastCap; rw [if_pos Hok.out, hn, show k = n from by omega]), hx⟩
  · rw [show asksOk xs = false from by simpa using hok]
    have H := Lib.hid hok
    clear hok
    go_wp2
    go_ret
    exact ⟨ret_int (by unfold leastCap; rw [if_neg H.out]), hx1⟩
end Go.Proofs.YtfnmbpjkjajpcaaGreatDoor
