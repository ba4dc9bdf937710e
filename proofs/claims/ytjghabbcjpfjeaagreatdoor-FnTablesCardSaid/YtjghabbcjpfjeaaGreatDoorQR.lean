/- Contracts of fractions: RatioOk, floors, comparisons. -/
import Derived.Test.YtjghabbcjpfjeaaGreatDoorQ
import Derived.Shelf.Bits.Mul64
namespace Go.Proofs.YtjghabbcjpfjeaaGreatDoor
open Go.ChangeShapes Go.WideShapes Go.ChangeAt Go.RowKit
set_option linter.unusedVariables false

set_option maxHeartbeats 400000 in
theorem implRatioOk_any (a b : Int) (w : World) (ha : I64 a) (hb : I64 b) :
    Calls Tryz.prog 50 #[.agg #[.int .i64 a, .int .i64 b]] w fun e w' => e = .returned (.bool (ratioOk ⟨a, b⟩)) ∧ Ext w w' := by
  have Ha := Lib.hid ha
  have Hb := Lib.hid hb
  clear ha hb
  have hx : Ext w (w.alloc (.cells #[.int .i64 a, .int .i64 b] 44)) := (Ext.refl w).alloc _
  by_cases h1 : inR b 1 1000000000000000 = true
  · by_cases h2 : inR a (-1000000000000000000) 1000000000000000000 = true
    · go_enter Tryz.func50, Tryz.ntmps50
      go_wp2_with (go_at_call 36; refine (inRange_any _ _ _ _).mono ?_; rintro e w' ⟨rfl, rfl⟩)
      refine (implGcd_any _ _ _ Ha.out Hb.out).mono ?_
      rintro e w1 ⟨rfl, hx1⟩
      by_cases hg : gcdI a b = 1
      · have hgb : (gcdI a b == 1) = true := by simpa using hg
        have H : Hid (ratioOk ⟨a, b⟩ = true) := by unfold Hid ratioOk; simp [h1, h2, hg]
        clear hg
        go_wp2
        go_ret
        exact ⟨ret_bool H.out.symm, hx.trans hx1⟩
      · have hgb : (gcdI a b == 1) = false := by simpa using hg
        have H : Hid (ratioOk ⟨a, b⟩ = false) := by unfold Hid ratioOk; simp [h1, h2, hg]
        clear hg
        go_wp2
        go_ret
        exact ⟨ret_bool H.out.symm, hx.trans hx1⟩
    · have h2' : inR a (-1000000000000000000) 1000000000000000000 = false := by simpa using h2
      have H : Hid (ratioOk ⟨a, b⟩ = false) := by unfold Hid ratioOk; simp [h2']
      clear h2
      go_enter Tryz.func50, Tryz.ntmps50
      go_wp2_with (go_at_call 36; refine (inRange_any _ _ _ _).mono ?_; rintro e w' ⟨rfl, rfl⟩)
      go_ret
      exact ⟨ret_bool H.out.symm, hx⟩
  · have h1' : inR b 1 1000000000000000 = false := by simpa using h1
    have H : Hid (ratioOk ⟨a, b⟩ = false) := by unfold Hid ratioOk; simp [h1']
    clear h1
    go_enter Tryz.func50, Tryz.ntmps50
    go_wp2_with (go_at_call 36; refine (inRange_any _ _ _ _).mono ?_; rintro e w' ⟨rfl, rfl⟩)
    go_ret
    exact ⟨ret_bool H.out.symm, hx⟩


theorem floorDiv_any (a b : Int) (w : World) (ha : -1000000000000000000 ≤ a ∧ a ≤ 1000000000000000000) (hb : 0 < b) :
    Calls Tryz.prog 84 #[.int .i64 a, .int .i64 b] w fun e w' => e = .returned (.int .i64 (floorI a b)) ∧ w = w' := by
  obtain ⟨h1, h2⟩ := ha
  have H := Lib.hid (floor_of_tdiv (a := a) hb)
  obtain ⟨h3, h4⟩ := tdiv_range hb h1 h2
  have hbz : (b == 0) = false := by simp; omega
  by_cases h0 : 0 ≤ a
  · have e1 : a.tdiv b = a / b := Int.tdiv_eq_ediv_of_nonneg h0
    have e2 : a.tmod b = a % b := Int.tmod_eq_emod_of_nonneg h0
    have h5 := Int.emod_nonneg a (show b ≠ 0 by omega)
    have H1 : Hid (floorI a b = a / b) := rfl
    rw [e1] at h3 h4
    clear e1 e2
    go_enter Tryz.func84, Tryz.ntmps84
    go_wp2
    go_ret
    exact ⟨ret_int H1.out.symm, rfl⟩
  · by_cases hm : a.tmod b < 0
    · have H1 : Hid (floorI a b = a.tdiv b - 1) := by unfold Hid; rw [← H.out, if_pos hm]
      go_enter Tryz.func84, Tryz.ntmps84
      go_wp2
      go_ret
      exact ⟨ret_int H1.out.symm, rfl⟩
    · have H1 : Hid (floorI a b = a.tdiv b) := by unfold Hid; rw [← H.out, if_neg hm]
      go_enter Tryz.func84, Tryz.ntmps84
      go_wp2
      go_ret
      exact ⟨ret_int H1.out.symm, rfl⟩


theorem ceilDiv_any (a b : Int) (w : World) (ha : -1000000000000000000 ≤ a ∧ a ≤ 1000000000000000000) (hb : 0 < b) :
    Calls Tryz.prog 85 #[.int .i64 a, .int .i64 b] w fun e w' => e = .returned (.int .i64 (-floorI (-a) b)) ∧ w = w' := by
  obtain ⟨h1, h2⟩ := ha
  obtain ⟨h3, h4⟩ := floorI_range (a := -a) (M := 1000000000000000000) hb (by omega) (by omega) (by omega)
  go_enter Tryz.func85, Tryz.ntmps85
  go_wp2_with fail
  refine (floorDiv_any _ _ _ (by omega) hb).mono ?_
  rintro e w' ⟨rfl, rfl⟩
  go_wp2
  go_ret
  exact ⟨rfl, rfl⟩

set_option maxHeartbeats 400000 in
theorem implRatioFloor_any (a b : Int) (w : World) (ha : I64 a) (hb : I64 b) :
    Calls Tryz.prog 48 #[.agg #[.int .i64 a, .int .i64 b]] w fun e w' => e = .returned (.int .i64 (ratioFloor ⟨a, b⟩)) ∧ Ext w w' := by
  have hx : Ext w (w.alloc (.cells #[.int .i64 a, .int .i64 b] 44)) := (Ext.refl w).alloc _
  by_cases hok : ratioOk ⟨a, b⟩ = true
  · have Hok := Lib.hid hok
    obtain ⟨h1, h2, h3, h4⟩ := ratioOk_bd hok
    simp only at h1 h2 h3 h4
    have H : Hid (ratioFloor ⟨a, b⟩ = floorI a b) := by unfold Hid ratioFloor; rw [if_pos hok]
    clear hok
    go_enter Tryz.func48, Tryz.ntmps48
    go_wp2_with fail
    refine (implRatioOk_any _ _ _ ha hb).mono ?_
    rintro e w1 ⟨rfl, hx1⟩
    rw [Hok.out]
    have hc := fun o => hx1.use.1 w.heap.size o (by simp <;> omega)
    go_wp2_with fail
    refine (floorDiv_any _ _ _ (by omega) (by omega)).mono ?_
    rintro e w' ⟨rfl, rfl⟩
    skip
    go_wp2
    go_ret
    exact ⟨ret_int H.out.symm, hx.trans hx1⟩
  · have H : Hid (ratioFloor ⟨a, b⟩ = 0) := by unfold Hid ratioFloor; rw [if_neg hok]
    have Hok : Hid (ratioOk ⟨a, b⟩ = false) := by unfold Hid; simpa using hok
    clear hok
    go_enter Tryz.func48, Tryz.ntmps48
    go_wp2_with fail
    refine (implRatioOk_any _ _ _ ha hb).mono ?_
    rintro e w1 ⟨rfl, hx1⟩
    rw [Hok.out]
    go_wp2
    go_ret
    exact ⟨ret_int H.out.symm, hx.trans hx1⟩


set_option maxHeartbeats 400000 in
theorem implRatioCeil_any (a b : Int) (w : World) (ha : I64 a) (hb : I64 b) :
    Calls Tryz.prog 49 #[.agg #[.int .i64 a, .int .i64 b]] w fun e w' => e = .returned (.int .i64 (ratioCeil ⟨a, b⟩)) ∧ Ext w w' := by
  have hx : Ext w (w.alloc (.cells #[.int .i64 a, .int .i64 b] 44)) := (Ext.refl w).alloc _
  by_cases hok : ratioOk ⟨a, b⟩ = true
  · have Hok := Lib.hid hok
    obtain ⟨h1, h2, h3, h4⟩ := ratioOk_bd hok
    simp only at h1 h2 h3 h4
    have H : Hid (ratioCeil ⟨a, b⟩ = -floorI (-a) b) := by unfold Hid ratioCeil; rw [if_pos hok]
    clear hok
    go_enter Tryz.func49, Tryz.ntmps49
    go_wp2_with fail
    refine (implRatioOk_any _ _ _ ha hb).mono ?_
    rintro e w1 ⟨rfl, hx1⟩
    rw [Hok.out]
    have hc := fun o => hx1.use.1 w.heap.size o (by simp <;> omega)
    go_wp2_with fail
    refine (ceilDiv_any _ _ _ (by omega) (by omega)).mono ?_
    rintro e w' ⟨rfl, rfl⟩
    skip
    go_wp2
    go_ret
    exact ⟨ret_int H.out.symm, hx.trans hx1⟩
  · have H : Hid (ratioCeil ⟨a, b⟩ = 0) := by unfold Hid ratioCeil; rw [if_neg hok]
    have Hok : Hid (ratioOk ⟨a, b⟩ = false) := by unfold Hid; simpa using hok
    clear hok
    go_enter Tryz.func49, Tryz.ntmps49
    go_wp2_with fail
    refine (implRatioOk_any _ _ _ ha hb).mono ?_
    rintro e w1 ⟨rfl, hx1⟩
    rw [Hok.out]
    go_wp2
    go_ret
    exact ⟨ret_int H.out.symm, hx.trans hx1⟩


set_option maxHeartbeats 1000000 in
theorem mul64_any (x y : Nat) (hx : x < 18446744073709551616) (hy : y < 18446744073709551616) (w : World) :
    Calls Tryz.prog 96 #[.int .u64 (x : Int), .int .u64 (y : Int)] w fun e w' => e = .returned (.tuple #[.int .u64 ((x * y / 18446744073709551616 : Nat) : Int), .int .u64 ((x * y % 18446744073709551616 : Nat) : Int)]) ∧ w = w' := by
  obtain ⟨bd, bt, bw, hhi⟩ := Lib.mul64_hi x y hx hy
  have ba := Lib.half_mul_le (a := x / 4294967296) (b := y / 4294967296) (by omega) (by omega)
  have bb := Lib.half_mul_le (a := x / 4294967296) (b := y % 4294967296) (by omega) (by omega)
  have bc := Lib.half_mul_le (a := x % 4294967296) (b := y / 4294967296) (by omega) (by omega)
  have ba' : x / 4294967296 * (y / 4294967296) < 18446744073709551616 := by omega
  have bb' : x / 4294967296 * (y % 4294967296) < 18446744073709551616 := by omega
  have bc' : x % 4294967296 * (y / 4294967296) < 18446744073709551616 := by omega
  have bh1 : x / 4294967296 * (y / 4294967296) + (x / 4294967296 * (y % 4294967296) + x % 4294967296 * (y % 4294967296) / 4294967296) / 4294967296 < 18446744073709551616 := by omega
  have bh : x / 4294967296 * (y / 4294967296) + (x / 4294967296 * (y % 4294967296) + x % 4294967296 * (y % 4294967296) / 4294967296) / 4294967296 + ((x / 4294967296 * (y % 4294967296) + x % 4294967296 * (y % 4294967296) / 4294967296) % 4294967296 + x % 4294967296 * (y / 4294967296)) / 4294967296 < 18446744073709551616 := by omega
  go_enter Tryz.func96, Tryz.ntmps96
  go_wp2
  simp only [Mul64.maskN x hx, Mul64.maskN y hy, Mul64.divN, Mul64.mulN, Mul64.addN, Mul64.wrapN _ bd, Mul64.wrapN _ bb', Mul64.wrapN _ bt, Mul64.maskN _ bt, Mul64.wrapN _ bc', Mul64.wrapN _ bw, Mul64.wrapN _ ba', Mul64.wrapN _ bh1, Mul64.wrapN _ bh, Mul64.wrapM (x * y)]
  rw [hhi]
  go_ret2
  exact ⟨rfl, rfl⟩
end Go.Proofs.YtjghabbcjpfjeaaGreatDoor
