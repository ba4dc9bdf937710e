/- Contracts of the windows' sums and of the drift of a series. -/
import Derived.Test.YtbbkahnfnjlajaaDoorHz
import Derived.Test.YtbbkahnfnjlajaaDoorR
import Derived.Test.YtbbkahnfnjlajaaDoorPlainR
namespace Go.Proofs.YtbbkahnfnjlajaaDoor
open Go.ChangeShapes Go.WideShapes Go.ChangeAt Go.RowKit
set_option linter.unusedVariables false

theorem ret2_int {a b a' b' : Int} (h1 : a = a') (h2 : b = b') : Ending.returned (.tuple #[.int .i64 a, .int .i64 b]) = .returned (.tuple #[.int .i64 a', .int .i64 b']) := by rw [h1, h2]

theorem apartBy_any (a b : Int) (w : World) (ha : -1000000 ≤ a ∧ a ≤ 1000000) (hb : -1000000 ≤ b ∧ b ≤ 1000000) :
    Calls Tryd.prog 50 #[.int .i64 a, .int .i64 b] w fun e w' => e = .returned (.int .i64 (apart a b)) ∧ w = w' := by
  obtain ⟨h1, h2⟩ := ha
  obtain ⟨h3, h4⟩ := hb
  go_enter Tryd.func50, Tryd.ntmps50
  by_cases h : a - b < b - a
  · have H : Hid (apart a b = b - a) := by unfold Hid apart; rw [if_pos h]
    go_wp2
    go_ret
    exact ⟨ret_int H.out.symm, rfl⟩
  · have H : Hid (apart a b = a - b) := by unfold Hid apart; rw [if_neg h]
    go_wp2
    go_ret
    exact ⟨ret_int H.out.symm, rfl⟩

set_option maxHeartbeats 400000 in
theorem sumTo_any (A : Option Addr) (n c W e : Nat) (xs : List Int) (w : World) (hn : xs.length = n) (hr : Row w A (ints xs)) (hnc : n ≤ c) (hc : c ≤ maxLen) (hok : seriesOk xs = true) (hW : 1 ≤ W) (hWe : W ≤ e + 1) (he : e < n) :
    Calls Tryd.prog 85 #[.slice A n c, .int .i64 (W : Int), .int .i64 (e : Int)] w fun e' w' => e' = .returned (.int .i64 (winAt xs W e)) ∧ w = w' := by
  unfold maxLen at hc
  have h60 := seriesOk_len hok
  have Hok := Lib.hid hok
  clear hok
  obtain ⟨b, off, rfl, hb, hcl⟩ := hr.int (k := 0) (by omega)
  clear hcl
  have e1 : ((e : Int) - (W : Int) + 1) = ((e + 1 - W : Nat) : Int) := by omega
  have HL : Hid (e + 1 - (e + 1 - W) = W) := by unfold Hid; omega
  go_enter Tryd.func85, Tryd.ntmps85
  go_wp2_with fail
  clear e1
  go_loop [7, 19] (fun s i => ∃ k : Nat, k ≤ e + 1 - (e + 1 - W) ∧ i = .int .i64 k ∧ s = .int .i64 (sumWin xs (e + 1 - W) k)) (fun _ i => (e + 1 - (e + 1 - W)) - (intOf i).toNat)
  case atStart => exact ⟨0, Nat.zero_le _, rfl, rfl⟩
  case round =>
    obtain ⟨k, hk, rfl, rfl⟩ := hrel
    by_cases hlt : k < e + 1 - (e + 1 - W)
    · obtain ⟨b', off', hA, hb', hcell⟩ := hr.int (k := e + 1 - W + k) (by omega)
      injection hA with hA
      injection hA with h1 h2
      subst h1
      subst h2
      rw [← Nat.add_assoc] at hcell
      have hb1 := sumWin_bd Hok.out (a := e + 1 - W) (m := k) (by omega)
      have hb2 := seriesOk_at Hok.out (i := e + 1 - W + k) (by omega)
      obtain ⟨hb3, hb4⟩ := hb1
      obtain ⟨hb5, hb6⟩ := hb2
      go_wp2
      go_round
      case rel => exact ⟨k + 1, by omega, by go_num, by rw [sumWin_succ, num_at (by omega)]⟩
      case measure => simp [intOf]; omega
    · go_wp2
      go_ret
      exact ⟨ret_int (by unfold winAt; rw [show k = W from by have := HL.out; omega]), rfl⟩

set_option maxHeartbeats 400000 in
theorem l19Sum_any (A : Option Addr) (n c W e : Nat) (xs : List Int) (w : World) (hn : xs.length = n) (hr : Row w A (ints xs)) (hnc : n ≤ c) (hc : c ≤ maxLen) (hok : seriesOk xs = true) (hW : 1 ≤ W) (hWe : W ≤ e + 1) (he : e < n) :
    Calls Tryd.prog 108 #[.slice A n c, .int .i64 (W : Int), .int .i64 (e : Int)] w fun e' w' => e' = .returned (.int .i64 (winAt xs W e)) ∧ w = w' := by
  unfold maxLen at hc
  have h60 := seriesOk_len hok
  have Hok := Lib.hid hok
  clear hok
  obtain ⟨b, off, rfl, hb, hcl⟩ := hr.int (k := 0) (by omega)
  clear hcl
  have e1 : ((e : Int) - (W : Int) + 1) = ((e + 1 - W : Nat) : Int) := by omega
  have HL : Hid (e + 1 - (e + 1 - W) = W) := by unfold Hid; omega
  go_enter Tryd.func108, Tryd.ntmps108
  go_wp2_with fail
  clear e1
  go_loop [7, 19] (fun s i => ∃ k : Nat, k ≤ e + 1 - (e + 1 - W) ∧ i = .int .i64 k ∧ s = .int .i64 (sumWin xs (e + 1 - W) k)) (fun _ i => (e + 1 - (e + 1 - W)) - (intOf i).toNat)
  case atStart => exact ⟨0, Nat.zero_le _, rfl, rfl⟩
  case round =>
    obtain ⟨k, hk, rfl, rfl⟩ := hrel
    by_cases hlt : k < e + 1 - (e + 1 - W)
    · obtain ⟨b', off', hA, hb', hcell⟩ := hr.int (k := e + 1 - W + k) (by omega)
      injection hA with hA
      injection hA with h1 h2
      subst h1
      subst h2
      rw [← Nat.add_assoc] at hcell
      have hb1 := sumWin_bd Hok.out (a := e + 1 - W) (m := k) (by omega)
      have hb2 := seriesOk_at Hok.out (i := e + 1 - W + k) (by omega)
      obtain ⟨hb3, hb4⟩ := hb1
      obtain ⟨hb5, hb6⟩ := hb2
      go_wp2
      go_round
      case rel => exact ⟨k + 1, by omega, by go_num, by rw [sumWin_succ, num_at (by omega)]⟩
      case measure => simp [intOf]; omega
    · go_wp2
      go_ret
      exact ⟨ret_int (by unfold winAt; rw [show k = W from by have := HL.out; omega]), rfl⟩

set_option maxHeartbeats 1000000 in
theorem drifts_any (a b c f : Int) (D i : Nat) (A : Option Addr) (n cc : Nat) (xs : List Int) (w : World) (hn : xs.length = n) (hr : Row w A (ints xs)) (hnc : n ≤ cc) (hcc : cc ≤ maxLen) (hok : seriesOk xs = true) (hD1 : 1 ≤ D) (hi : i < n) :
    Calls Tryd.prog 51 #[.agg #[.int .i64 a, .int .i64 b, .int .i64 c, .int .i64 (D : Int), .int .i64 f], .slice A n cc, .int .i64 (i : Int)] w fun e w' => e = .returned (.bool (drifts xs D f i)) ∧ Ext w w' := by
  have Hcc := Lib.hid hcc
  unfold maxLen at hcc
  have h60 := seriesOk_len hok
  have Hok := Lib.hid hok
  clear hok
  have hx : Ext w (w.alloc (.cells #[.int .i64 a, .int .i64 b, .int .i64 c, .int .i64 (D : Int), .int .i64 f] 24)) := (Ext.refl w).alloc _
  have hB := Ext.refl (w.alloc (.cells #[.int .i64 a, .int .i64 b, .int .i64 c, .int .i64 (D : Int), .int .i64 f] 24))
  have hr2 := hr.ext hx
  by_cases hlt0 : i < D
  · have H := Lib.hid (drifts_early (xs := xs) (D := f) hlt0)
    go_enter Tryd.func51, Tryd.ntmps51
    go_wp2
    go_ret
    exact ⟨ret_bool H.out.symm, hx⟩
  · go_enter Tryd.func51, Tryd.ntmps51
    go_wp2_with fail
    refine (sumTo_any _ _ _ _ _ xs _ hn hr2 hnc Hcc.out Hok.out hD1 (by omega) hi).mono ?_
    rintro e w' ⟨rfl, rfl⟩
    go_wp2
    go_loopw [8] (fun e wr => ∃ m : Nat, m ≤ i - (D - 1) ∧ e = .int .i64 ((D - 1 + m : Nat) : Int) ∧ Ext (w.alloc (.cells #[.int .i64 a, .int .i64 b, .int .i64 c, .int .i64 (D : Int), .int .i64 f] 24)) wr ∧ allN (nearAt xs D f i) m = true) (fun e _ => i - (intOf e).toNat)
    case atStart => exact ⟨0, Nat.zero_le _, by go_num, hB, rfl⟩
    case round =>
      obtain ⟨m, hm, rfl, hBr, hall⟩ := hrel
      have Hall := Lib.hid hall
      clear hall
      have hc := fun o => hBr.use.1 w.heap.size o (by simp <;> omega)
      have hr3 := hr2.ext hBr
      by_cases hlt : m < i - (D - 1)
      · have hlt2 : ((D - 1 + m : Nat) : Int) < (i : Int) := by omega
        have hw1 := winAt_bd Hok.out (W := D) (i := i) (by omega) (by omega)
        have hw2 := winAt_bd Hok.out (W := D) (i := D - 1 + m) (by omega) (by omega)
        have Hw1 := Lib.hid hw1
        have Hw2 := Lib.hid hw2
        clear hw1 hw2
        by_cases hfar : f < apart (winAt xs D i) (winAt xs D (D - 1 + m))
        · have Hf := Lib.hid (drifts_yes hlt (farAt_iff.2 hfar))
          go_wp2_with fail
          go_quiet ((first
            | (go_at_call 85; exact Calls.quiet_of_same ((sumTo_any _ _ _ _ _ xs _ hn (by exact hr3) hnc Hcc.out Hok.out hD1 (by omega) (by omega)).mono fun _ _ ⟨h1, h2⟩ => ⟨h1, h2.symm⟩))
            | (go_at_call 50; exact Calls.quiet_of_same ((apartBy_any _ _ _ (by have := Hw1.out; omega) (by have := Hw2.out; omega)).mono fun _ _ ⟨h1, h2⟩ => ⟨h1, h2.symm⟩))))
          go_wp2
          go_ret
          exact ⟨ret_bool Hf.out.symm, (hx.trans hBr).drewN _⟩
        · have Hf : Hid (nearAt xs D f i m = true) := by unfold Hid nearAt; simpa [farAt] using hfar
          go_wp2_with fail
          go_quiet ((first
            | (go_at_call 85; exact Calls.quiet_of_same ((sumTo_any _ _ _ _ _ xs _ hn (by exact hr3) hnc Hcc.out Hok.out hD1 (by omega) (by omega)).mono fun _ _ ⟨h1, h2⟩ => ⟨h1, h2.symm⟩))
            | (go_at_call 50; exact Calls.quiet_of_same ((apartBy_any _ _ _ (by have := Hw1.out; omega) (by have := Hw2.out; omega)).mono fun _ _ ⟨h1, h2⟩ => ⟨h1, h2.symm⟩))))
          go_wp2
          go_roundw
          case rel => exact ⟨m + 1, by omega, by go_num, hBr.drewN _, by rw [allN, Hall.out, Hf.out]; rfl⟩
          case measure => simp [intOf]; omega
      · have hge : ¬ ((D - 1 + m : Nat) : Int) < (i : Int) := by omega
        go_wp2
        go_ret
        exact ⟨ret_bool (by rw [drifts_no]; rw [show i - (D - 1) = m from by omega]; exact Hall.out), hx.trans hBr⟩

set_option maxHeartbeats 1000000 in
theorem l19Mean_any (a b c f : Int) (D i : Nat) (A : Option Addr) (n cc : Nat) (xs : List Int) (w : World) (hn : xs.length = n) (hr : Row w A (ints xs)) (hnc : n ≤ cc) (hcc : cc ≤ maxLen) (hok : seriesOk xs = true) (hD1 : 1 ≤ D) (hD2 : D ≤ 60) (hi : i < n) :
    Calls Tryd.prog 94 #[.agg #[.int .i64 a, .int .i64 b, .int .i64 c, .int .i64 (D : Int), .int .i64 f], .slice A n cc, .int .i64 (i : Int)] w fun e w' => e = .returned (.bool (drifts xs D f i)) ∧ Ext w w' := by
  have Hcc := Lib.hid hcc
  unfold maxLen at hcc
  have h60 := seriesOk_len hok
  have Hok := Lib.hid hok
  clear hok
  have hx : Ext w (w.alloc (.cells #[.int .i64 a, .int .i64 b, .int .i64 c, .int .i64 (D : Int), .int .i64 f] 24)) := (Ext.refl w).alloc _
  have hB := Ext.refl (w.alloc (.cells #[.int .i64 a, .int .i64 b, .int .i64 c, .int .i64 (D : Int), .int .i64 f] 24))
  have hr2 := hr.ext hx
  go_enter Tryd.func94, Tryd.ntmps94
  go_wp2
  go_loopw [7] (fun e wr => ∃ m : Nat, m ≤ i - (D - 1) ∧ e = .int .i64 ((D - 1 + m : Nat) : Int) ∧ Ext (w.alloc (.cells #[.int .i64 a, .int .i64 b, .int .i64 c, .int .i64 (D : Int), .int .i64 f] 24)) wr ∧ allN (nearAt xs D f i) m = true) (fun e _ => i - (intOf e).toNat)
  case atStart => exact ⟨0, Nat.zero_le _, by go_num, hB, rfl⟩
  case round =>
    obtain ⟨m, hm, rfl, hBr, hall⟩ := hrel
    have Hall := Lib.hid hall
    clear hall
    have hc := fun o => hBr.use.1 w.heap.size o (by simp <;> omega)
    have hr3 := hr2.ext hBr
    by_cases hlt : m < i - (D - 1)
    · have hlt2 : ((D - 1 + m : Nat) : Int) < (i : Int) := by omega
      have hw1 := winAt_bd Hok.out (W := D) (i := i) (by omega) (by omega)
      have hw2 := winAt_bd Hok.out (W := D) (i := D - 1 + m) (by omega) (by omega)
      obtain ⟨hw3, hw4⟩ := hw1
      obtain ⟨hw5, hw6⟩ := hw2
      by_cases hd1 : f < winAt xs D i - winAt xs D (D - 1 + m)
      · have hfar : f < apart (winAt xs D i) (winAt xs D (D - 1 + m)) := by unfold apart; split <;> omega
        have Hf := Lib.hid (drifts_yes hlt (farAt_iff.2 hfar))
        clear hfar
        go_wp2_with fail
        go_quiet ((go_at_call 108; exact Calls.quiet_of_same ((l19Sum_any _ _ _ _ _ xs _ hn (by exact hr3) hnc Hcc.out Hok.out hD1 (by omega) (by omega)).mono fun _ _ ⟨h1, h2⟩ => ⟨h1, h2.symm⟩)))
        go_wp2
        go_ret
        exact ⟨ret_bool Hf.out.symm, (hx.trans hBr).drewN _⟩
      · by_cases hd2 : f < -(winAt xs D i - winAt xs D (D - 1 + m))
        · have hfar : f < apart (winAt xs D i) (winAt xs D (D - 1 + m)) := by unfold apart; split <;> omega
          have Hf := Lib.hid (drifts_yes hlt (farAt_iff.2 hfar))
          clear hfar
          go_wp2_with fail
          go_quiet ((go_at_call 108; exact Calls.quiet_of_same ((l19Sum_any _ _ _ _ _ xs _ hn (by exact hr3) hnc Hcc.out Hok.out hD1 (by omega) (by omega)).mono fun _ _ ⟨h1, h2⟩ => ⟨h1, h2.symm⟩)))
          go_wp2
          go_ret
          exact ⟨ret_bool Hf.out.symm, (hx.trans hBr).drewN _⟩
        · have hfar : ¬ f < apart (winAt xs D i) (winAt xs D (D - 1 + m)) := by unfold apart; split <;> omega
          have Hf : Hid (nearAt xs D f i m = true) := by unfold Hid nearAt; simpa [farAt] using hfar
          clear hfar
          go_wp2_with fail
          go_quiet ((go_at_call 108; exact Calls.quiet_of_same ((l19Sum_any _ _ _ _ _ xs _ hn (by exact hr3) hnc Hcc.out Hok.out hD1 (by omega) (by omega)).mono fun _ _ ⟨h1, h2⟩ => ⟨h1, h2.symm⟩)))
          go_wp2
          go_roundw
          case rel => exact ⟨m + 1, by omega, by go_num, hBr.drewN _, by rw [allN, Hall.out, Hf.out]; rfl⟩
          case measure => simp [intOf]; omega
    · have hge : ¬ ((D - 1 + m : Nat) : Int) < (i : Int) := by omega
      go_wp2
      go_ret
      exact ⟨ret_bool (by rw [drifts_no]; rw [show i - (D - 1) = m from by omega]; exact Hall.out), hx.trans hBr⟩
end Go.Proofs.YtbbkahnfnjlajaaDoor
