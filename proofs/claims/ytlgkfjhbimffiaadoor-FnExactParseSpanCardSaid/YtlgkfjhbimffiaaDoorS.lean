/- Contracts of the helpers on slices of ints: a copy, a comparison; and of the checks of a series. -/
import Derived.Test.YtlgkfjhbimffiaaDoorA
namespace Go.Proofs.YtlgkfjhbimffiaaDoor
open Go.ChangeShapes Go.WideShapes Go.ChangeAt Go.RowKit

set_option maxHeartbeats 400000 in
theorem toIntS_any (A : Option Addr) (n c : Nat) (xs : List Int) (w : World) (hn : xs.length = n) (hr : Row w A (ints xs)) (hle : n ≤ 1048576) :
    Calls Tryd.prog 44 #[.slice A n c] w fun e w' => ∃ g, e = .returned (.slice (some ⟨g, 0, none⟩) n n) ∧ w'.ownsRow w.heap.size 3 1 (.slice (some ⟨g, 0, none⟩) n n) n (ints xs) ∧ Ext w w' := by
  have hmk := run_make_n 22 3 1 8 (.int .i64 0) Tryd.underlying22 (by kernel_rfl) n hle (by omega)
  have hmd := own_made w 3 (.int .i64 0) 1 n hle
  have Hml := Lib.hid (length_made (Value.int .i64 0) 1 n)
  go_enter Tryd.func44, Tryd.ntmps44
  go_wp2
  go_loopw [4] (fun i wr => ∃ (k : Nat) (cur : List Value), k ≤ n ∧ i = .int .i64 k ∧ Ext w wr ∧ wr.ownsRow w.heap.size 3 1 (.slice (some ⟨w.heap.size, 0, none⟩) n n) n cur ∧ Pref cur (ints xs) k) (fun i _ => n - (intOf i).toNat)
  case atStart => exact ⟨0, _, Nat.zero_le _, rfl, (Ext.refl _).alloc _, hmd, Pref.start (by rw [Hml.out, ints_length, hn]; omega)⟩
  case round =>
    obtain ⟨k, cur, hk, rfl, hx, hown, hp⟩ := hrel
    have Hp := Lib.hid hp
    clear hp hmd hmk
    by_cases hlt : k < n
    · obtain ⟨b, off, rfl, hb, hc⟩ := (hr.ext hx).int (k := k) (by omega)
      obtain ⟨vg, hcg⟩ := own_cell hown (j := k) (by omega)
      have hfg := hown.frozenAt k
      have hst := hown.stored k (.int .i64 (xs[k]'(by omega)))
      have Hst := Lib.hid hst
      clear hst hown
      go_wp2
      go_roundw
      case rel => exact ⟨k + 1, _, by omega, by go_num, hx.setCell (Nat.le_refl _) _, Hst.out.1, Hp.out.set (ints_get (by omega))⟩
      case measure => simp [intOf]; omega
    · go_wp2
      go_ret
      refine ⟨_, rfl, ?_, hx⟩
      have e := Hp.out.done (by rw [ints_length]; omega)
      rw [e] at hown
      exact hown

set_option maxHeartbeats 400000 in
theorem eqIntS_any (A B : Option Addr) (n m c d : Nat) (xs ys : List Int) (w : World) (hn : xs.length = n) (hm : ys.length = m) (hr : Row w A (ints xs)) (hs : Row w B (ints ys)) (hle : n ≤ maxLen) (hle' : m ≤ maxLen) :
    Calls Tryd.prog 48 #[.slice A n c, .slice B m d] w fun e w' => e = .returned (.bool (decide (xs = ys))) ∧ Ext w w' := by
  unfold maxLen at hle hle'
  by_cases hnm : n = m
  · subst hnm
    go_enter Tryd.func48, Tryd.ntmps48
    go_wp2
    go_loopw [5] (fun i wr => ∃ (k : Nat), k ≤ n ∧ i = .int .i64 k ∧ Ext w wr ∧ xs.take k = ys.take k) (fun i _ => n - (intOf i).toNat)
    case atStart => exact ⟨0, Nat.zero_le _, rfl, Ext.refl _, rfl⟩
    case round =>
      obtain ⟨k, hk, rfl, hx, hp⟩ := hrel
      have Hp := Lib.hid hp
      clear hp
      by_cases hlt : k < n
      · obtain ⟨b, off, rfl, hb, hc⟩ := (hr.ext hx).int (k := k) (by omega)
        obtain ⟨b', off', rfl, hb', hc'⟩ := (hs.ext hx).int (k := k) (by omega)
        by_cases he : xs[k]'(by omega) = ys[k]'(by omega)
        · have he' : (xs[k]'(by omega) != ys[k]'(by omega)) = false := by simp [he]
          have He := Lib.hid he
          clear he
          go_wp2
          go_quiet (fail)
          go_wp2
          go_roundw
          case rel => exact ⟨k + 1, by omega, by go_num, hx.drewN _, take_eq_succ (by omega) (by omega) Hp.out He.out⟩
          case measure => simp [intOf]; omega
        · have he' : (xs[k]'(by omega) != ys[k]'(by omega)) = true := by simp [he]
          have He := Lib.hid he
          clear he
          go_wp2
          go_quiet (fail)
          go_wp2
          go_ret
          exact ⟨ret_bool (by rw [decide_eq_false (ne_of_get (by omega) (by omega) He.out)]), hx.drewN _⟩
      · go_wp2
        go_ret
        refine ⟨ret_bool ?_, hx⟩
        have h := Hp.out
        rw [List.take_of_length_le (by omega), List.take_of_length_le (by omega)] at h
        rw [decide_eq_true h]
  · have h' : ((n : Int) != (m : Int)) = true := by simp; omega
    go_enter Tryd.func48, Tryd.ntmps48
    go_wp2
    go_ret
    exact ⟨ret_bool (by rw [decide_eq_false]; rintro rfl; omega), Ext.refl _⟩


theorem szIntS_any (A : Option Addr) (n c : Nat) (left : Int) (w : World) (h0 : 0 ≤ left) (hl : left ≤ 1048576) (hn : n ≤ maxLen) :
    Calls Tryd.prog 40 #[.slice A n c, .int .i64 left] w fun e w' => e = .returned (.int .i64 (szI n left)) ∧ w = w' := by
  unfold maxLen at hn
  by_cases hc : (n : Int) ≤ left
  · have H : Hid (szI n left = left - n) := szI_pos hc
    have hc2 : ¬ left - (n : Int) < 0 := by omega
    go_enter Tryd.func40, Tryd.ntmps40
    go_wp2
    go_ret
    exact ⟨by rw [H.out]; rfl, rfl⟩
  · have H : Hid (szI n left = -1) := szI_neg hc
    have hc2 : left - (n : Int) < 0 := by omega
    go_enter Tryd.func40, Tryd.ntmps40
    go_wp2
    go_ret
    exact ⟨by rw [H.out]; rfl, rfl⟩


set_option maxHeartbeats 400000 in
theorem markIntS_any (A : Option Addr) (n c : Nat) (k0 : Int) (cur0 : List Value) (base : Nat) (w : World) (ho : w.ownsRow base 3 1 (.slice A n c) n cur0) (h0 : 0 ≤ k0) (h1 : k0 ≤ 1000000000000) (hn : n ≤ 1000000000000) :
    Calls Tryd.prog 49 #[.slice A n c, .int .i64 k0] w fun e w' => e = .returned (.int .i64 (k0 + n)) ∧ w'.ownsRow base 3 1 (.slice A n c) n (ints (upTo k0 n)) ∧ Only (Value.ownBlock (.slice A n c)) w w' := by
  have Hl := Lib.hid ho.1
  go_enter Tryd.func49, Tryd.ntmps49
  go_wp2
  go_loopw [1, 5] (fun m i wr => ∃ (k : Nat) (cur : List Value), k ≤ n ∧ i = .int .i64 k ∧ m = .int .i64 (k0 + k) ∧ wr.ownsRow base 3 1 (.slice A n c) n cur ∧ Pref cur (ints (upTo k0 n)) k ∧ Only (Value.ownBlock (.slice A n c)) w wr) (fun _ i _ => n - (intOf i).toNat)
  case atStart => exact ⟨0, _, Nat.zero_le _, rfl, by simp, ho, Pref.start (by rw [Hl.out, ints_length, upTo_length]; omega), Only.refl _ _⟩
  case round =>
    obtain ⟨k, cur, hk, rfl, rfl, hown, hp, hx⟩ := hrel
    have Hp := Lib.hid hp
    clear hp ho
    by_cases hlt : k < n
    · obtain ⟨g, rfl⟩ : ∃ g, A = some ⟨g, 0, none⟩ := by
        rcases hown.2 with ⟨_, h⟩ | ⟨g, cap, cu, hv, _⟩
        · omega
        · injection hv with hA _ _; exact ⟨g, hA⟩
      obtain ⟨vg, hcg⟩ := own_cell hown (j := k) (by omega)
      have hfg := hown.frozenAt k
      have hst := hown.stored k (.int .i64 (k0 + k))
      have Hst := Lib.hid hst
      clear hst hown
      go_wp2
      go_roundw
      case rel => exact ⟨k + 1, _, by omega, by go_num, by go_num, Hst.out.1, Hp.out.set (by unfold ints; rw [List.getElem?_map, upTo_get hlt]; rfl), Only.set hx k _⟩
      case measure => simp [intOf]; omega
    · go_wp2
      go_ret
      refine ⟨ret_int (by rw [show k = n from by omega]), ?_, hx⟩
      have e := Hp.out.done (by rw [ints_length, upTo_length]; omega)
      rw [e] at hown
      exact hown

end Go.Proofs.YtlgkfjhbimffiaaDoor
