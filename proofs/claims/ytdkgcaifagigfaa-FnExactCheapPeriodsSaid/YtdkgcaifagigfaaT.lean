/- Contracts of functions on tariffs: the helpers, and TariffOk. -/
import Derived.Test.YtdkgcaifagigfaaHz
namespace Go.Proofs.Ytdkgcaifagigfaa
open Go.ChangeShapes Go.WideShapes Go.ChangeAt Go.RowKit

set_option maxHeartbeats 400000 in
theorem toTariff_any (A : Option Addr) (n c : Nat) (xs : List Int) (w : World) (hn : xs.length = n) (hr : Row w A (ints xs)) (hle : n ≤ 1048576) :
    Calls Try.prog 6 #[.agg #[.slice A n c]] w fun e w' => ∃ g, e = .returned (.agg #[.slice (some ⟨g, 0, none⟩) n n]) ∧ w'.ownsRow w.heap.size 3 1 (.slice (some ⟨g, 0, none⟩) n n) n (ints xs) ∧ Ext w w' := by
  go_enter Try.func6, Try.ntmps6
  go_wp2_with fail
  refine (toIntS_any _ _ _ xs _ hn (hr.ext (by repeat (first | exact Ext.refl _ | refine Ext.alloc ?_ _))) hle).mono ?_
  rintro e w1 ⟨g, rfl, ho, hx⟩
  have hc1 := fun o => hx.use.1 (w.heap.size + 1) o (by simp <;> omega)
  have hf1 := fun o => hx.use.2.1 (w.heap.size + 1) o (by simp <;> omega)
  have hc2 := fun o => hx.use.1 (w.heap.size + 2) o (by simp <;> omega)
  have hf2 := fun o => hx.use.2.1 (w.heap.size + 2) o (by simp <;> omega)
  have hx2 : Ext w w1 := Ext.trans (by repeat (first | exact Ext.refl _ | refine Ext.alloc ?_ _)) hx
  go_wp2
  refine bodyPost_ret (v := .agg #[.slice (some ⟨g, 0, none⟩) n n]) (by simp [results, Try.results6, go_sem, hc1]) rfl ⟨g, rfl, ?_, ?_⟩
  · exact own_base (ownsRow_setCell_below (ownsRow_setCell_below ho (by simp <;> omega) _) (by simp <;> omega) _) (by simp <;> omega)
  · exact (hx2.setCell (by simp <;> omega) _).setCell (by simp <;> omega) _

set_option maxHeartbeats 400000 in
theorem eqTariff_any (A B : Option Addr) (n m c d : Nat) (xs ys : List Int) (w : World) (hn : xs.length = n) (hm : ys.length = m) (hr : Row w A (ints xs)) (hs : Row w B (ints ys)) (hle : n ≤ maxLen) (hle' : m ≤ maxLen) :
    Calls Try.prog 9 #[.agg #[.slice A n c], .agg #[.slice B m d]] w fun e w' => e = .returned (.bool (decide (xs = ys))) ∧ Ext w w' := by
  go_enter Try.func9, Try.ntmps9
  go_wp2_with fail
  have hx : Ext w ((w.alloc (.cells #[.slice A n c] 27)).alloc (.cells #[.slice B m d] 27)) := ((Ext.refl w).alloc _).alloc _
  refine (eqIntS_any _ _ _ _ _ _ xs ys _ hn hm (hr.ext hx) (hs.ext hx) hle hle').mono ?_
  rintro e w1 ⟨rfl, hx1⟩
  by_cases he : xs = ys
  · rw [decide_eq_true he]
    have H := Lib.hid he
    clear he
    go_wp2
    go_ret
    exact ⟨ret_bool (decide_eq_true H.out).symm, hx.trans hx1⟩
  · rw [decide_eq_false he]
    have H := Lib.hid he
    clear he
    go_wp2
    go_ret
    exact ⟨ret_bool (decide_eq_false H.out).symm, hx.trans hx1⟩

theorem szTariff_any (A : Option Addr) (n c : Nat) (left : Int) (w : World) (h0 : 0 ≤ left) (hl : left ≤ 1048576) (hn : n ≤ maxLen) :
    Calls Try.prog 4 #[.agg #[.slice A n c], .int .i64 left] w fun e w' => e = .returned (.int .i64 (szI n left)) ∧ Ext w w' := by
  go_enter Try.func4, Try.ntmps4
  go_wp2_with fail
  refine (szIntS_any _ _ _ _ _ h0 hl hn).mono ?_
  rintro e w1 ⟨rfl, rfl⟩
  by_cases hc : (n : Int) ≤ left
  · have H := Lib.hid (szI_pos hc)
    rw [szI_pos hc]
    have hc2 : ¬ left - (n : Int) < 0 := by omega
    go_wp2
    go_ret
    exact ⟨ret_int H.out.symm, (Ext.refl _).alloc _⟩
  · have H := Lib.hid (szI_neg hc)
    rw [szI_neg hc]
    go_wp2
    go_ret
    exact ⟨ret_int H.out.symm, (Ext.refl _).alloc _⟩

set_option maxHeartbeats 400000 in
theorem specTariffOk_any (A : Option Addr) (n c : Nat) (xs : List Int) (w : World) (hn : xs.length = n) (hr : Row w A (ints xs)) (hle : n ≤ maxLen) :
    Calls Try.prog 14 #[.agg #[.slice A n c]] w fun e w' => e = .returned (.bool (tariffOk xs)) ∧ Ext w w' := by
  unfold maxLen at hle
  have hx : Ext w (w.alloc (.cells #[.slice A n c] 27)) := (Ext.refl w).alloc _
  have hr2 := hr.ext hx
  go_enter Try.func14, Try.ntmps14
  go_wp2
  go_loop [8] (fun i => ∃ k : Nat, k ≤ n ∧ i = .int .i64 k ∧ allPrice (xs.take k) = true) (fun i => n - (intOf i).toNat)
  case atStart => exact ⟨0, Nat.zero_le _, rfl, rfl⟩
  case round =>
    obtain ⟨k, hk, rfl, hall⟩ := hrel
    have Hall := Lib.hid hall
    clear hall
    by_cases hlt : k < n
    · obtain ⟨b, off, rfl, hb, hc⟩ := hr2.int (k := k) (by omega)
      by_cases hm : inR (xs[k]'(by omega)) 0 1000 = true
      · have Hm := Lib.hid hm
        go_wp2_with (go_at_call 15; refine (l01In_any _ _ _ _).mono ?_; rintro e w' ⟨rfl, rfl⟩)
        go_round
        case rel => exact ⟨k + 1, by omega, by go_num, by unfold allPrice; rw [all_take_succ _ _ _ (by omega), Hm.out]; simpa [allPrice] using Hall.out⟩
        case measure => simp [intOf]; omega
      · have Hm := Lib.hid hm
        go_wp2_with (go_at_call 15; refine (l01In_any _ _ _ _).mono ?_; rintro e w' ⟨rfl, rfl⟩)
        go_ret
        exact ⟨ret_bool (by unfold tariffOk allPrice; rw [all_false_at _ _ k (by omega) (by simpa using Hm.out)]; rfl), hx⟩
    · go_wp2_with (go_at_call 15; refine (l01In_any _ _ _ _).mono ?_; rintro e w' ⟨rfl, rfl⟩)
      go_ret
      refine ⟨ret_bool ?_, hx⟩
      have h := Hall.out
      rw [List.take_of_length_le (by omega)] at h
      unfold tariffOk
      rw [h, hn]
      rfl

set_option maxHeartbeats 400000 in
theorem implTariffOk_any (A : Option Addr) (n c : Nat) (xs : List Int) (w : World) (hn : xs.length = n) (hr : Row w A (ints xs)) (hle : n ≤ maxLen) :
    Calls Try.prog 17 #[.agg #[.slice A n c]] w fun e w' => e = .returned (.bool (tariffOk xs)) ∧ Ext w w' := by
  unfold maxLen at hle
  have hx : Ext w (w.alloc (.cells #[.slice A n c] 27)) := (Ext.refl w).alloc _
  have hr2 := hr.ext hx
  go_enter Try.func17, Try.ntmps17
  go_wp2
  go_loop [8] (fun i => ∃ k : Nat, k ≤ n ∧ i = .int .i64 k ∧ allPrice (xs.take k) = true) (fun i => n - (intOf i).toNat)
  case atStart => exact ⟨0, Nat.zero_le _, rfl, rfl⟩
  case round =>
    obtain ⟨k, hk, rfl, hall⟩ := hrel
    have Hall := Lib.hid hall
    clear hall
    by_cases hlt : k < n
    · obtain ⟨b, off, rfl, hb, hc⟩ := hr2.int (k := k) (by omega)
      by_cases hm : inR (xs[k]'(by omega)) 0 1000 = true
      · have Hm := Lib.hid hm
        go_wp2_with (go_at_call 18; refine (inRange_any _ _ _ _).mono ?_; rintro e w' ⟨rfl, rfl⟩)
        go_round
        case rel => exact ⟨k + 1, by omega, by go_num, by unfold allPrice; rw [all_take_succ _ _ _ (by omega), Hm.out]; simpa [allPrice] using Hall.out⟩
        case measure => simp [intOf]; omega
      · have Hm := Lib.hid hm
        go_wp2_with (go_at_call 18; refine (inRange_any _ _ _ _).mono ?_; rintro e w' ⟨rfl, rfl⟩)
        go_ret
        exact ⟨ret_bool (by unfold tariffOk allPrice; rw [all_false_at _ _ k (by omega) (by simpa using Hm.out)]; rfl), hx⟩
    · go_wp2_with (go_at_call 18; refine (inRange_any _ _ _ _).mono ?_; rintro e w' ⟨rfl, rfl⟩)
      go_ret
      refine ⟨ret_bool ?_, hx⟩
      have h := Hall.out
      rw [List.take_of_length_le (by omega)] at h
      unfold tariffOk
      rw [h, hn]
      rfl
end Go.Proofs.Ytdkgcaifagigfaa
