/- Contracts of the helpers on slices of ints: a copy, a comparison; and of the checks of a series. -/
import Derived.Test.YtbbkahnfnjlajaaDoorA
namespace Go.Proofs.YtbbkahnfnjlajaaDoor
open Go.ChangeShapes Go.WideShapes Go.ChangeAt Go.RowKit

set_option maxHeartbeats 400000 in
theorem toIntS_any (A : Option Addr) (n c : Nat) (xs : List Int) (w : World) (hn : xs.length = n) (hr : Row w A (ints xs)) (hle : n ≤ 1048576) :
    Calls Tryd.prog 36 #[.slice A n c] w fun e w' => ∃ g, e = .returned (.slice (some ⟨g, 0, none⟩) n n) ∧ w'.ownsRow w.heap.size 3 1 (.slice (some ⟨g, 0, none⟩) n n) n (ints xs) ∧ Ext w w' := by
  have hmk := run_make_n 26 3 1 8 (.int .i64 0) Tryd.underlying26 (by kernel_rfl) n hle (by omega)
  have hmd := own_made w 3 (.int .i64 0) 1 n hle
  have Hml := Lib.hid (length_made (Value.int .i64 0) 1 n)
  go_enter Tryd.func36, Tryd.ntmps36
  go_wp2
  go_loopw [4] (fun i wr => ∃ (k : Nat) (cur : List Value), k ≤ n ∧ i = .int .i64 k ∧ Ext w wr ∧ wr.ownsRow w.heap.size 3 1 (.slice (some ⟨w.heap.size, 0, none⟩) n n) n cur ∧ Pref cur (ints xs) k) (fun i _ => n - (intOf i).toNat)
  case atStart => exact ⟨0, _, Nat.zero_le _, rfl, (Ext.refl _).alloc _, hmd, Pref.start (by rw [Hml.out, ints_length, hn]; omega)⟩
  case round =>
    obtain ⟨k, cur, hk, rfl, hx, hown, hp⟩ := hrel
    have Hp := Lib.hid hp
    clear hp hmd hmk
    by_cases hlt : k < n
    · obtain ⟨b, off, rfl, hb, hc⟩ := (hr.ext hx).int (k := k) (by omega)
      obtain ⟨vg, hcg⟩ := own_cell hown (j := k) (by omega)
      have hfg := hown.frozenAt k
      have hst := hown.stored k (.int .i64 (xs[k]'(by omega)))
      have Hst := Lib.hid hst
      clear hst hown
      go_wp2
      go_roundw
      case rel => exact ⟨k + 1, _, by omega, by go_num, hx.setCell (Nat.le_refl _) _, Hst.out.1, Hp.out.set (ints_get (by omega))⟩
      case measure => simp [intOf]; omega
    · go_wp2
      go_ret
      refine ⟨_, rfl, ?_, hx⟩
      have e := Hp.out.done (by rw [ints_length]; omega)
      rw [e] at hown
      exact hown

set_option maxHeartbeats 400000 in
theorem eqIntS_any (A B : Option Addr) (n m c d : Nat) (xs ys : List Int) (w : World) (hn : xs.length = n) (hm : ys.length = m) (hr : Row w A (ints xs)) (hs : Row w B (ints ys)) (hle : n ≤ maxLen) (hle' : m ≤ maxLen) :
    Calls Tryd.prog 37 #[.slice A n c, .slice B m d] w fun e w' => e = .returned (.bool (decide (xs = ys))) ∧ Ext w w' := by
  unfold maxLen at hle hle'
  by_cases hnm : n = m
  · subst hnm
    go_enter Tryd.func37, Tryd.ntmps37
    go_wp2
    go_loopw [5] (fun i wr => ∃ (k : Nat), k ≤ n ∧ i = .int .i64 k ∧ Ext w wr ∧ xs.take k = ys.take k) (fun i _ => n - (intOf i).toNat)
    case atStart => exact ⟨0, Nat.zero_le _, rfl, Ext.refl _, rfl⟩
    case round =>
      obtain ⟨k, hk, rfl, hx, hp⟩ := hrel
      have Hp := Lib.hid hp
      clear hp
      by_cases hlt : k < n
      · obtain ⟨b, off, rfl, hb, hc⟩ := (hr.ext hx).int (k := k) (by omega)
        obtain ⟨b', off', rfl, hb', hc'⟩ := (hs.ext hx).int (k := k) (by omega)
        by_cases he : xs[k]'(by omega) = ys[k]'(by omega)
        · have he' : (xs[k]'(by omega) != ys[k]'(by omega)) = false := by simp [he]
          have He := Lib.hid he
          clear he
          go_wp2
          go_quiet (fail)
          go_wp2
          go_roundw
          case rel => exact ⟨k + 1, by omega, by go_num, hx.drewN _, take_eq_succ (by omega) (by omega) Hp.out He.out⟩
          case measure => simp [intOf]; omega
        · have he' : (xs[k]'(by omega) != ys[k]'(by omega)) = true := by simp [he]
          have He := Lib.hid he
          clear he
          go_wp2
          go_quiet (fail)
          go_wp2
          go_ret
          exact ⟨ret_bool (by rw [decide_eq_false (ne_of_get (by omega) (by omega) He.out)]), hx.drewN _⟩
      · go_wp2
        go_ret
        refine ⟨ret_bool ?_, hx⟩
        have h := Hp.out
        rw [List.take_of_length_le (by omega), List.take_of_length_le (by omega)] at h
        rw [decide_eq_true h]
  · have h' : ((n : Int) != (m : Int)) = true := by simp; omega
    go_enter Tryd.func37, Tryd.ntmps37
    go_wp2
    go_ret
    exact ⟨ret_bool (by rw [decide_eq_false]; rintro rfl; omega), Ext.refl _⟩

set_option maxHeartbeats 400000 in
theorem implSeriesOk_any (A : Option Addr) (n c : Nat) (xs : List Int) (w : World) (hn : xs.length = n) (hr : Row w A (ints xs)) (hle : n ≤ maxLen) :
    Calls Tryd.prog 14 #[.slice A n c] w fun e w' => e = .returned (.bool (seriesOk xs)) ∧ w = w' := by
  unfold maxLen at hle
  go_enter Tryd.func14, Tryd.ntmps14
  go_wp2
  go_loop [7] (fun i => ∃ k : Nat, k ≤ n ∧ i = .int .i64 k ∧ allMeasure (xs.take k) = true) (fun i => n - (intOf i).toNat)
  case atStart => exact ⟨0, Nat.zero_le _, rfl, rfl⟩
  case round =>
    obtain ⟨k, hk, rfl, hall⟩ := hrel
    have Hall := Lib.hid hall
    clear hall
    by_cases hlt : k < n
    · obtain ⟨b, off, rfl, hb, hc⟩ := hr.int (k := k) (by omega)
      by_cases hm : inR (xs[k]'(by omega)) (-1000) 1000 = true
      · have Hm := Lib.hid hm
        go_wp2_with (go_at_call 52; refine (isMeasure_any _ _).mono ?_; rintro e w' ⟨rfl, rfl⟩)
        go_round
        case rel => exact ⟨k + 1, by omega, by go_num, by unfold allMeasure; rw [all_take_succ _ _ _ (by omega), Hm.out]; simpa [allMeasure] using Hall.out⟩
        case measure => simp [intOf]; omega
      · have Hm := Lib.hid hm
        go_wp2_with (go_at_call 52; refine (isMeasure_any _ _).mono ?_; rintro e w' ⟨rfl, rfl⟩)
        go_ret
        exact ⟨ret_bool (by unfold seriesOk allMeasure; rw [all_false_at _ _ k (by omega) (by simpa using Hm.out)]; rfl), rfl⟩
    · go_wp2
      go_ret
      refine ⟨ret_bool ?_, rfl⟩
      have h := Hall.out
      rw [List.take_of_length_le (by omega)] at h
      unfold seriesOk
      rw [h, hn]
      simp
      omega

set_option maxHeartbeats 400000 in
theorem specSeriesOk_any (A : Option Addr) (n c : Nat) (xs : List Int) (w : World) (hn : xs.length = n) (hr : Row w A (ints xs)) (hle : n ≤ maxLen) :
    Calls Tryd.prog 67 #[.slice A n c] w fun e w' => e = .returned (.bool (seriesOk xs)) ∧ w = w' := by
  unfold maxLen at hle
  go_enter Tryd.func67, Tryd.ntmps67
  go_wp2
  go_loop [7] (fun i => ∃ k : Nat, k ≤ n ∧ i = .int .i64 k ∧ allMeasure (xs.take k) = true) (fun i => n - (intOf i).toNat)
  case atStart => exact ⟨0, Nat.zero_le _, rfl, rfl⟩
  case round =>
    obtain ⟨k, hk, rfl, hall⟩ := hrel
    have Hall := Lib.hid hall
    clear hall
    by_cases hlt : k < n
    · obtain ⟨b, off, rfl, hb, hc⟩ := hr.int (k := k) (by omega)
      by_cases hm : inR (xs[k]'(by omega)) (-1000) 1000 = true
      · have Hm := Lib.hid hm
        go_wp2_with (go_at_call 90; refine (l01In_any _ _ _ _).mono ?_; rintro e w' ⟨rfl, rfl⟩)
        go_round
        case rel => exact ⟨k + 1, by omega, by go_num, by unfold allMeasure; rw [all_take_succ _ _ _ (by omega), Hm.out]; simpa [allMeasure] using Hall.out⟩
        case measure => simp [intOf]; omega
      · have Hm := Lib.hid hm
        go_wp2_with (go_at_call 90; refine (l01In_any _ _ _ _).mono ?_; rintro e w' ⟨rfl, rfl⟩)
        go_ret
        exact ⟨ret_bool (by unfold seriesOk allMeasure; rw [all_false_at _ _ k (by omega) (by simpa using Hm.out)]; rfl), rfl⟩
    · go_wp2
      go_ret
      refine ⟨ret_bool ?_, rfl⟩
      have h := Hall.out
      rw [List.take_of_length_le (by omega)] at h
      unfold seriesOk
      rw [h, hn]
      simp
      omega
theorem szIntS_any (A : Option Addr) (n c : Nat) (left : Int) (w : World) (h0 : 0 ≤ left) (hl : left ≤ 1048576) (hn : n ≤ maxLen) :
    Calls Tryd.prog 77 #[.slice A n c, .int .i64 left] w fun e w' => e = .returned (.int .i64 (szI n left)) ∧ w = w' := by
  unfold maxLen at hn
  by_cases hc : (n : Int) ≤ left
  · have H : Hid (szI n left = left - n) := szI_pos hc
    have hc2 : ¬ left - (n : Int) < 0 := by omega
    go_enter Tryd.func77, Tryd.ntmps77
    go_wp2
    go_ret
    exact ⟨by rw [H.out]; rfl, rfl⟩
  · have H : Hid (szI n left = -1) := szI_neg hc
    have hc2 : left - (n : Int) < 0 := by omega
    go_enter Tryd.func77, Tryd.ntmps77
    go_wp2
    go_ret
    exact ⟨by rw [H.out]; rfl, rfl⟩



end Go.Proofs.YtbbkahnfnjlajaaDoor
