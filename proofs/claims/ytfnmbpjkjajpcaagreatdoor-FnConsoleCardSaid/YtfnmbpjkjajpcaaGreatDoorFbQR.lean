/- Contracts of fractions: RatioOk, floors, comparisons. -/
import Derived.Test.YtfnmbpjkjajpcaaGreatDoorFbQ
import Derived.Shelf.Bits.Mul64
namespace Go.Proofs.YtfnmbpjkjajpcaaGreatDoor
open Go.ChangeShapes Go.WideShapes Go.ChangeAt Go.RowKit
set_option linter.unusedVariables false
set_option maxHeartbeats 400000 in
theorem implRatioOk_any (a b : Int) (w : World) (ha : I64 a) (hb : I64 b) :
    Calls Tryz.prog 192 #[.agg #[.int .i64 a, .int .i64 b]] w fun e w' => e = .returned (.bool (ratioOk ⟨a, b⟩)) ∧ Ext w w' := by
  have Ha := Lib.hid ha
  have Hb := Lib.hid hb
  clear ha hb
  have hx : Ext w (w.alloc (.cells #[.int .i64 a, .int .i64 b] 139)) := (Ext.refl w).alloc _
  by_cases h1 : inR b 1 1000000000000000 = true
  · by_cases h2 : inR a (-1000000000000000000) 1000000000000000000 = true
    · go_enter Tryz.func192, Tryz.ntmps192
      go_wp2_with (go_at_call 241; refine (inRange_any _ _ _ _).mono ?_; rintro e w' ⟨rfl, rfl⟩)
      refine (implGcd_any _ _ _ Ha.out Hb.out).mono ?_
      rintro e w1 ⟨rfl, hx1⟩
      by_cases hg : gcdI a b = 1
      · have hgb : (gcdI a b == 1) = true := by simpa using hg
        have H : Hid (ratioOk ⟨a, b⟩ = true) := by unfold Hid ratioOk; simp [h1, h2, hg]
        clear hg
        go_wp2
        go_ret
        exact ⟨ret_bool H.out.symm, hx.trans hx1⟩
      · have hgb : (gcdI a b == 1) = false := by simpa using hg
        have H : Hid (ratioOk ⟨a, b⟩ = false) := by unfold Hid ratioOk; simp [h1, h2, hg]
        clear hg
        go_wp2
        go_ret
        exact ⟨ret_bool H.out.symm, hx.trans hx1⟩
    · have h2' : inR a (-1000000000000000000) 1000000000000000000 = false := by simpa using h2
      have H : Hid (ratioOk ⟨a, b⟩ = false) := by unfold Hid ratioOk; simp [h2']
      clear h2
      go_enter Tryz.func192, Tryz.ntmps192
      go_wp2_with (go_at_call 241; refine (inRange_any _ _ _ _).mono ?_; rintro e w' ⟨rfl, rfl⟩)
      go_ret
      exact ⟨ret_bool H.out.symm, hx⟩
  · have h1' : inR b 1 1000000000000000 = false := by simpa using h1
    have H : Hid (ratioOk ⟨a, b⟩ = false) := by unfold Hid ratioOk; simp [h1']
    clear h1
    go_enter Tryz.func192, Tryz.ntmps192
    go_wp2_with (go_at_call 241; refine (inRange_any _ _ _ _).mono ?_; rintro e w' ⟨rfl, rfl⟩)
    go_ret
    exact ⟨ret_bool H.out.symm, hx⟩
set_option maxHeartbeats 1000000 in
theorem mul64_any (x y : Nat) (hx : x < 18446744073709551616) (hy : y < 18446744073709551616) (w : World) :
    Calls Tryz.prog 314 #[.int .u64 (x : Int), .int .u64 (y : Int)] w fun e w' => e = .returned (.tuple #[.int .u64 ((x * y / 18446744073709551616 : Nat) : Int), .int .u64 ((x * y % 18446744073709551616 : Nat) : Int)]) ∧ w = w' := by
  obtain ⟨bd, bt, bw, hhi⟩ := Lib.mul64_hi x y hx hy
  have ba := Lib.half_mul_le (a := x / 4294967296) (b := y / 4294967296) (by omega) (by omega)
  have bb := Lib.half_mul_le (a := x / 4294967296) (b := y % 4294967296) (by omega) (by omega)
  have bc := Lib.half_mul_le (a := x % 4294967296) (b := y / 4294967296) (by omega) (by omega)
  have ba' : x / 4294967296 * (y / 4294967296) < 18446744073709551616 := by omega
  have bb' : x / 4294967296 * (y % 4294967296) < 18446744073709551616 := by omega
  have bc' : x % 4294967296 * (y / 4294967296) < 18446744073709551616 := by omega
  have bh1 : x / 4294967296 * (y / 4294967296) + (x / 4294967296 * (y % 4294967296) + x % 4294967296 * (y % 4294967296) / 4294967296) / 4294967296 < 18446744073709551616 := by omega
  have bh : x / 4294967296 * (y / 4294967296) + (x / 4294967296 * (y % 4294967296) + x % 4294967296 * (y % 4294967296) / 4294967296) / 4294967296 + ((x / 4294967296 * (y % 4294967296) + x % 4294967296 * (y % 4294967296) / 4294967296) % 4294967296 + x % 4294967296 * (y / 4294967296)) / 4294967296 < 18446744073709551616 := by omega
  go_enter Tryz.func314, Tryz.ntmps314
  go_wp2
  simp only [Mul64.maskN x hx, Mul64.maskN y hy, Mul64.divN, Mul64.mulN, Mul64.addN, Mul64.wrapN _ bd, Mul64.wrapN _ bb', Mul64.wrapN _ bt, Mul64.maskN _ bt, Mul64.wrapN _ bc', Mul64.wrapN _ bw, Mul64.wrapN _ ba', Mul64.wrapN _ bh1, Mul64.wrapN _ bh, Mul64.wrapM (x * y)]
  rw [hhi]
  go_ret2
  exact ⟨rfl, rfl⟩
end Go.Proofs.YtfnmbpjkjajpcaaGreatDoor
