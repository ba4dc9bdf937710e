/- Contracts of the sums of a shared chiller, and of IsAllotment, UnusedOf. -/
import Derived.Test.YtbbkahnfnjlajaaDoorK
namespace Go.Proofs.YtbbkahnfnjlajaaDoor
open Go.ChangeShapes Go.WideShapes Go.ChangeAt Go.RowKit

set_option maxHeartbeats 1000000 in
theorem implLeastCap_any (A : Option Addr) (n c : Nat) (xs : List Ask) (w : World) (hn : xs.length = n) (hr : Row w A (ints (flat Ask.ints xs))) (hle : n ≤ maxLen) :
    Calls Tryd.prog 25 #[.slice A n c] w fun e w' => e = .returned (.int .i64 (leastCap xs)) ∧ Ext w w' := by
  have Hle := Lib.hid hle
  unfold maxLen at hle
  go_enter Tryd.func25, Tryd.ntmps25
  go_wp2_with fail
  refine (implAsksOk_any _ _ _ xs _ hn hr Hle.out).mono ?_
  rintro e w1 ⟨rfl, hx1⟩
  by_cases hok : asksOk xs = true
  · rw [hok]
    have h6 := asksOk_len hok
    have Hok := Lib.hid hok
    clear hok
    go_wp2
    go_loopw [3, 11] (fun s i wr => ∃ k : Nat, k ≤ n ∧ i = .int .i64 k ∧ s = .int .i64 (sumN (askLow xs) k) ∧ Ext w wr) (fun _ i _ => n - (intOf i).toNat)
    case atStart => exact ⟨0, Nat.zero_le _, rfl, rfl, hx1⟩
    case round =>
      obtain ⟨k, hk, rfl, rfl, hx⟩ := hrel
      have hbd := sumLow_bd Hok.out (k := k) (by omega)
      obtain ⟨hb1, hb2⟩ := hbd
      by_cases hlt : k < n
      · obtain ⟨b, off, rfl, hb, hc0, hc1, hc2, hc3⟩ := (hr.ext hx).Ask (k := k) (by omega)
        obtain ⟨a1, a2, a3, a4, a5, a6⟩ := asksOk_at Hok.out (i := k) (by omega)
        go_wp2
        go_roundw
        case rel => exact ⟨k + 1, by omega, by go_num, by rw [sumN, askLow_at (by omega)], hx.alloc _⟩
        case measure => simp [intOf]; omega
      · go_wp2
        go_ret
        exact ⟨ret_int (by unfold leastCap; rw [if_pos Hok.out, hn, show k = n from by omega]), hx⟩
  · rw [show asksOk xs = false from by simpa using hok]
    have H := Lib.hid hok
    clear hok
    go_wp2
    go_ret
    exact ⟨ret_int (by unfold leastCap; rw [if_neg H.out]), hx1⟩

set_option maxHeartbeats 1000000 in
theorem implFullCap_any (A : Option Addr) (n c : Nat) (xs : List Ask) (w : World) (hn : xs.length = n) (hr : Row w A (ints (flat Ask.ints xs))) (hle : n ≤ maxLen) :
    Calls Tryd.prog 30 #[.slice A n c] w fun e w' => e = .returned (.int .i64 (fullCap xs)) ∧ Ext w w' := by
  have Hle := Lib.hid hle
  unfold maxLen at hle
  go_enter Tryd.func30, Tryd.ntmps30
  go_wp2_with fail
  refine (implAsksOk_any _ _ _ xs _ hn hr Hle.out).mono ?_
  rintro e w1 ⟨rfl, hx1⟩
  by_cases hok : asksOk xs = true
  · rw [hok]
    have h6 := asksOk_len hok
    have Hok := Lib.hid hok
    clear hok
    go_wp2
    go_loopw [3, 11] (fun s i wr => ∃ k : Nat, k ≤ n ∧ i = .int .i64 k ∧ s = .int .i64 (sumN (askWish xs) k) ∧ Ext w wr) (fun _ i _ => n - (intOf i).toNat)
    case atStart => exact ⟨0, Nat.zero_le _, rfl, rfl, hx1⟩
    case round =>
      obtain ⟨k, hk, rfl, rfl, hx⟩ := hrel
      have hbd := sumWish_bd Hok.out (k := k) (by omega)
      obtain ⟨hb1, hb2⟩ := hbd
      by_cases hlt : k < n
      · obtain ⟨b, off, rfl, hb, hc0, hc1, hc2, hc3⟩ := (hr.ext hx).Ask (k := k) (by omega)
        obtain ⟨a1, a2, a3, a4, a5, a6⟩ := asksOk_at Hok.out (i := k) (by omega)
        go_wp2
        go_roundw
        case rel => exact ⟨k + 1, by omega, by go_num, by rw [sumN, askWish_at (by omega)], hx.alloc _⟩
        case measure => simp [intOf]; omega
      · go_wp2
        go_ret
        exact ⟨ret_int (by unfold fullCap; rw [if_pos Hok.out, hn, show k = n from by omega]), hx⟩
  · rw [show asksOk xs = false from by simpa using hok]
    have H := Lib.hid hok
    clear hok
    go_wp2
    go_ret
    exact ⟨ret_int (by unfold fullCap; rw [if_neg H.out]), hx1⟩

set_option maxHeartbeats 1000000 in
theorem specLeastCap_any (A : Option Addr) (n c : Nat) (xs : List Ask) (w : World) (hn : xs.length = n) (hr : Row w A (ints (flat Ask.ints xs))) (hle : n ≤ maxLen) :
    Calls Tryd.prog 56 #[.slice A n c] w fun e w' => e = .returned (.int .i64 (leastCap xs)) ∧ Ext w w' := by
  have Hle := Lib.hid hle
  unfold maxLen at hle
  go_enter Tryd.func56, Tryd.ntmps56
  go_wp2_with fail
  refine (specAsksOk_any _ _ _ xs _ hn hr Hle.out).mono ?_
  rintro e w1 ⟨rfl, hx1⟩
  by_cases hok : asksOk xs = true
  · rw [hok]
    have h6 := asksOk_len hok
    have Hok := Lib.hid hok
    clear hok
    go_wp2
    go_loopw [3, 11] (fun s i wr => ∃ k : Nat, k ≤ n ∧ i = .int .i64 k ∧ s = .int .i64 (sumN (askLow xs) k) ∧ Ext w wr) (fun _ i _ => n - (intOf i).toNat)
    case atStart => exact ⟨0, Nat.zero_le _, rfl, rfl, hx1⟩
    case round =>
      obtain ⟨k, hk, rfl, rfl, hx⟩ := hrel
      have hbd := sumLow_bd Hok.out (k := k) (by omega)
      obtain ⟨hb1, hb2⟩ := hbd
      by_cases hlt : k < n
      · obtain ⟨b, off, rfl, hb, hc0, hc1, hc2, hc3⟩ := (hr.ext hx).Ask (k := k) (by omega)
        obtain ⟨a1, a2, a3, a4, a5, a6⟩ := asksOk_at Hok.out (i := k) (by omega)
        go_wp2
        go_roundw
        case rel => exact ⟨k + 1, by omega, by go_num, by rw [sumN, askLow_at (by omega)], hx.alloc _⟩
        case measure => simp [intOf]; omega
      · go_wp2
        go_ret
        exact ⟨ret_int (by unfold leastCap; rw [if_pos Hok.out, hn, show k = n from by omega]), hx⟩
  · rw [show asksOk xs = false from by simpa using hok]
    have H := Lib.hid hok
    clear hok
    go_wp2
    go_ret
    exact ⟨ret_int (by unfold leastCap; rw [if_neg H.out]), hx1⟩


set_option maxHeartbeats 400000 in
theorem sumOf_any (A : Option Addr) (n c : Nat) (xs : List Int) (w : World) (hn : xs.length = n) (hr : Row w A (ints xs)) (hle : n ≤ maxLen) (B : Int) (hB : B ≤ 1000000000000) (hbd : ∀ k, k ≤ n → -B ≤ sumN (num xs) k ∧ sumN (num xs) k ≤ B) :
    Calls Tryd.prog 62 #[.slice A n c] w fun e w' => e = .returned (.int .i64 (sumN (num xs) n)) ∧ w = w' := by
  unfold maxLen at hle
  have Hbd := Lib.hid hbd
  clear hbd
  go_enter Tryd.func62, Tryd.ntmps62
  go_wp2
  go_loop [3, 8] (fun s i => ∃ k : Nat, k ≤ n ∧ i = .int .i64 k ∧ s = .int .i64 (sumN (num xs) k)) (fun _ i => n - (intOf i).toNat)
  case atStart => exact ⟨0, Nat.zero_le _, rfl, rfl⟩
  case round =>
    obtain ⟨k, hk, rfl, rfl⟩ := hrel
    by_cases hlt : k < n
    · obtain ⟨b, off, rfl, hb, hc⟩ := hr.int (k := k) (by omega)
      have hb0 := Hbd.out (k + 1) (by omega)
      rw [sumN, num_at (by omega)] at hb0
      obtain ⟨hb1, hb2⟩ := hb0
      go_wp2
      go_round
      case rel => exact ⟨k + 1, by omega, by go_num, by rw [sumN, num_at (by omega)]⟩
      case measure => simp [intOf]; omega
    · go_wp2
      go_ret
      exact ⟨ret_int (by rw [show k = n from by omega]), rfl⟩
end Go.Proofs.YtbbkahnfnjlajaaDoor
