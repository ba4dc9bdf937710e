/- Contracts of half planes: HalfOk of the program and of the reference. -/
import Derived.Test.YtjghabbcjpfjeaaGreatDoorQ
import Derived.Test.YtjghabbcjpfjeaaGreatDoorPz
import Derived.Deep.RegionHeld3
import Derived.IntWalk
namespace Go.Proofs.YtjghabbcjpfjeaaGreatDoor
open Go.ChangeShapes Go.WideShapes Go.ChangeAt Go.RowKit
set_option linter.unusedVariables false

theorem isCoef_any (n : Int) (w : World) : Calls Tryz.prog 137 #[.int .i64 n] w fun e w' => e = .returned (.bool (inR n (-50000) 50000)) ∧ w = w' := by
  go_enter Tryz.func137, Tryz.ntmps137
  go_wp2_with fail
  refine (inRange_any _ _ _ _).mono ?_
  rintro e w' ⟨rfl, rfl⟩
  go_wp2
  go_ret
  exact ⟨rfl, rfl⟩
theorem halfOk_A {a b c : Int} (h : inR a (-50000) 50000 = false) : halfOk ⟨a, b, c⟩ = false := by unfold halfOk; simp only [h]; rfl
theorem halfOk_B {a b c : Int} (h : inR b (-50000) 50000 = false) : halfOk ⟨a, b, c⟩ = false := by unfold halfOk; simp only [h]; simp
theorem halfOk_C {a b c : Int} (h : inR c (-100000000) 100000000 = false) : halfOk ⟨a, b, c⟩ = false := by unfold halfOk; simp only [h]; simp
theorem halfOk_0 {c : Int} : halfOk ⟨0, 0, c⟩ = false := by unfold halfOk; simp
theorem halfOk_g {a b c : Int} (hA : inR a (-50000) 50000 = true) (hB : inR b (-50000) 50000 = true) (hC : inR c (-100000000) 100000000 = true) (hn : a ≠ 0 ∨ b ≠ 0) : halfOk ⟨a, b, c⟩ = decide (Nat.gcd (Int.gcd a b) c.natAbs = 1) := by
  unfold halfOk
  rw [hA, hB, hC, show (decide (a ≠ 0) || decide (b ≠ 0)) = true from by simpa using hn]
  rfl

set_option maxRecDepth 100000 in
set_option maxHeartbeats 1000000 in
theorem implHalfOk_any (a b c : Int) (w : World) (ha : I64 a) (hb : I64 b) (hc : I64 c) :
    Calls Tryz.prog 112 #[.agg #[.int .i64 a, .int .i64 b, .int .i64 c]] w fun e w' => e = .returned (.bool (halfOk ⟨a, b, c⟩)) ∧ Ext w w' := by
  have hx : Ext w (w.alloc (.cells #[.int .i64 a, .int .i64 b, .int .i64 c] 120)) := (Ext.refl w).alloc _
  rcases Bool.eq_false_or_eq_true (inR a (-50000) 50000) with hA | hA
  rotate_left
  · have H := Lib.hid (halfOk_A (b := b) (c := c) hA)
    go_enter Tryz.func112, Tryz.ntmps112
    go_wp2_with fail
    refine (isCoef_any _ _).mono ?_
    rintro e w' ⟨rfl, rfl⟩
    rw [hA]
    go_wp2
    go_ret
    exact ⟨ret_bool H.out.symm, hx⟩
  rcases Bool.eq_false_or_eq_true (inR b (-50000) 50000) with hB | hB
  rotate_left
  · have H := Lib.hid (halfOk_B (a := a) (c := c) hB)
    go_enter Tryz.func112, Tryz.ntmps112
    go_wp2_with fail
    refine (isCoef_any _ _).mono ?_
    rintro e w' ⟨rfl, rfl⟩
    rw [hA]
    go_wp2_with fail
    refine (isCoef_any _ _).mono ?_
    rintro e w' ⟨rfl, rfl⟩
    rw [hB]
    go_wp2
    go_ret
    exact ⟨ret_bool H.out.symm, hx⟩
  rcases Bool.eq_false_or_eq_true (inR c (-100000000) 100000000) with hC | hC
  rotate_left
  · have H := Lib.hid (halfOk_C (a := a) (b := b) hC)
    go_enter Tryz.func112, Tryz.ntmps112
    go_wp2_with fail
    refine (isCoef_any _ _).mono ?_
    rintro e w' ⟨rfl, rfl⟩
    rw [hA]
    go_wp2_with fail
    refine (isCoef_any _ _).mono ?_
    rintro e w' ⟨rfl, rfl⟩
    rw [hB]
    go_wp2_with fail
    refine (inRange_any _ _ _ _).mono ?_
    rintro e w' ⟨rfl, rfl⟩
    rw [hC]
    go_wp2
    go_ret
    exact ⟨ret_bool H.out.symm, hx⟩
  by_cases hz : a = 0 ∧ b = 0
  · obtain ⟨rfl, rfl⟩ := hz
    have H := Lib.hid (halfOk_0 (c := c))
    go_enter Tryz.func112, Tryz.ntmps112
    go_wp2_with fail
    refine (isCoef_any _ _).mono ?_
    rintro e w' ⟨rfl, rfl⟩
    rw [hA]
    go_wp2_with fail
    refine (isCoef_any _ _).mono ?_
    rintro e w' ⟨rfl, rfl⟩
    rw [hB]
    go_wp2_with fail
    refine (inRange_any _ _ _ _).mono ?_
    rintro e w' ⟨rfl, rfl⟩
    rw [hC]
    go_wp2
    go_ret
    exact ⟨ret_bool H.out.symm, hx⟩
  have HG := Lib.hid (halfOk_g hA hB hC (by omega))
  have hrow : Row ((w.alloc (.cells #[.int .i64 a, .int .i64 b, .int .i64 c] 120)).alloc (.cells #[.int .i64 a, .int .i64 b, .int .i64 c] 3)) (some ⟨w.heap.size + 1, 0, none⟩) (ints [a, b, c]) := by
    refine .inr ⟨w.heap.size + 1, 0, rfl, fun j v hj => ?_⟩
    have hb := Blk.new (w.alloc (.cells #[.int .i64 a, .int .i64 b, .int .i64 c] 120)) 3 #[.int .i64 a, .int .i64 b, .int .i64 c]
    simp only [World.size_alloc] at hb
    rw [hb.cell, Nat.zero_add]
    simpa [ints] using hj
  have HII : Hid (∀ i, (hi : i < [a, b, c].length) → I64 [a, b, c][i]) := by
    intro i hi
    match i, hi with
    | 0, _ => exact ha
    | 1, _ => exact hb
    | 2, _ => exact hc
  have HT := Lib.hid (gcdTo_three a b c)
  have hzz : (a == 0 && b == 0) = false := by simp; omega
  by_cases hz0 : a = 0
  · subst hz0
    have hz2 : (b == 0) = false := by simp; omega
    have hz3 : ¬ b = 0 := by omega
    go_enter Tryz.func112, Tryz.ntmps112
    go_wp2_with fail
    refine (isCoef_any _ _).mono ?_
    rintro e w' ⟨rfl, rfl⟩
    rw [hA]
    go_wp2_with fail
    refine (isCoef_any _ _).mono ?_
    rintro e w' ⟨rfl, rfl⟩
    rw [hB]
    go_wp2_with fail
    refine (inRange_any _ _ _ _).mono ?_
    rintro e w' ⟨rfl, rfl⟩
    rw [hC]
    go_wp2_with fail
    refine (gcdOfAll_any _ 3 _ [0, b, c] _ rfl hrow (by unfold maxLen; omega) HII.out).mono ?_
    rintro e w1 ⟨rfl, hx1⟩
    rw [HT.out]
    go_wp2
    go_ret
    refine ⟨ret_bool ?_, (hx.alloc _).trans hx1⟩
    rw [HG.out]
    rw [Bool.eq_iff_iff]
    simp
    try omega
  · have hz1 : (a == 0) = false := by simpa using hz0
    go_enter Tryz.func112, Tryz.ntmps112
    go_wp2_with fail
    refine (isCoef_any _ _).mono ?_
    rintro e w' ⟨rfl, rfl⟩
    rw [hA]
    go_wp2_with fail
    refine (isCoef_any _ _).mono ?_
    rintro e w' ⟨rfl, rfl⟩
    rw [hB]
    go_wp2_with fail
    refine (inRange_any _ _ _ _).mono ?_
    rintro e w' ⟨rfl, rfl⟩
    rw [hC]
    go_wp2_with fail
    refine (gcdOfAll_any _ 3 _ [a, b, c] _ rfl hrow (by unfold maxLen; omega) HII.out).mono ?_
    rintro e w1 ⟨rfl, hx1⟩
    rw [HT.out]
    go_wp2
    go_ret
    refine ⟨ret_bool ?_, (hx.alloc _).trans hx1⟩
    rw [HG.out]
    rw [Bool.eq_iff_iff]
    simp
    try omega

theorem l01In_is {n lo hi : Int} {v : Bool} (h : inR n lo hi = v) (w : World) : Calls Tryz.prog 97 #[.int .i64 n, .int .i64 lo, .int .i64 hi] w fun e w' => e = .returned (.bool v) ∧ w' = w :=
  (l01In_any n lo hi w).mono fun _ _ ⟨h1, h2⟩ => ⟨by rw [h1, h], h2.symm⟩
theorem gcdI_two {a b : Int} (ha : -50000 ≤ a ∧ a ≤ 50000) (hb : -50000 ≤ b ∧ b ≤ 50000) : gcdI a b = (Int.gcd a b : Int) ∧ 0 ≤ gcdI a b ∧ gcdI a b ≤ 100000 := by
  unfold gcdI isLeastI
  rw [if_neg (by simp; omega)]
  refine ⟨rfl, ?_⟩
  by_cases h : a = 0
  · subst h; rw [Int.gcd_zero_left]; omega
  · have := Nat.gcd_le_left b.natAbs (show 0 < a.natAbs by omega)
    unfold Int.gcd; omega
set_option maxRecDepth 100000 in
set_option maxHeartbeats 1000000 in
theorem specHalfOk_any (a b c : Int) (w : World) (ha : I64 a) (hb : I64 b) (hc : I64 c) :
    Calls Tryz.prog 100 #[.agg #[.int .i64 a, .int .i64 b, .int .i64 c]] w fun e w' => e = .returned (.bool (halfOk ⟨a, b, c⟩)) ∧ Ext w w' := by
  have hx : Ext w (w.alloc (.cells #[.int .i64 a, .int .i64 b, .int .i64 c] 120)) := (Ext.refl w).alloc _
  have bR := Blk.new w 120 #[.int .i64 a, .int .i64 b, .int .i64 c]
  have cR := fun o => bR.cell o
  have l50 : IntKind.i64.wrap (-50000) = -50000 := IntWalk.i64_in _ (by omega)
  rcases Bool.eq_false_or_eq_true (inR a (-50000) 50000) with hA | hA
  rotate_left
  · have H := Lib.hid (halfOk_A (b := b) (c := c) hA)
    go_enter Tryz.func100, Tryz.ntmps100
    go_wp2_with fail
    go_quiet ((first | (go_at_call 97; first | (with_reducible exact Calls.quiet_of_same (l01In_is hA _)) | (with_reducible exact Calls.quiet_of_same (l01In_is hB _)) | (with_reducible exact Calls.quiet_of_same (l01In_is hC _))) | (go_at_call 99; exact Calls.quiet_of (specGcd_q _ _ _ (by assumption) (by assumption)))))
    go_wp2
    go_ret
    exact ⟨ret_bool H.out.symm, hx.drewN _⟩
  rcases Bool.eq_false_or_eq_true (inR b (-50000) 50000) with hB | hB
  rotate_left
  · have H := Lib.hid (halfOk_B (a := a) (c := c) hB)
    go_enter Tryz.func100, Tryz.ntmps100
    go_wp2_with fail
    go_quiet ((first | (go_at_call 97; first | (with_reducible exact Calls.quiet_of_same (l01In_is hA _)) | (with_reducible exact Calls.quiet_of_same (l01In_is hB _)) | (with_reducible exact Calls.quiet_of_same (l01In_is hC _))) | (go_at_call 99; exact Calls.quiet_of (specGcd_q _ _ _ (by assumption) (by assumption)))))
    go_wp2
    go_ret
    exact ⟨ret_bool H.out.symm, hx.drewN _⟩
  have hA' : -50000 ≤ a ∧ a ≤ 50000 := by simpa [inR] using hA
  have hB' : -50000 ≤ b ∧ b ≤ 50000 := by simpa [inR] using hB
  by_cases hz : a = 0 ∧ b = 0
  · obtain ⟨rfl, rfl⟩ := hz
    have H := Lib.hid (halfOk_0 (c := c))
    go_enter Tryz.func100, Tryz.ntmps100
    go_wp2_with fail
    go_quiet ((first | (go_at_call 97; first | (with_reducible exact Calls.quiet_of_same (l01In_is hA _)) | (with_reducible exact Calls.quiet_of_same (l01In_is hB _)) | (with_reducible exact Calls.quiet_of_same (l01In_is hC _))) | (go_at_call 99; exact Calls.quiet_of (specGcd_q _ _ _ (by assumption) (by assumption)))))
    go_wp2
    go_ret
    exact ⟨ret_bool H.out.symm, hx.drewN _⟩
  obtain ⟨g1, g2⟩ := gcdI_two hA' hB'
  have HT : Hid (gcdI (gcdI a b) c = ((Nat.gcd (Int.gcd a b) c.natAbs : Nat) : Int) ∨ inR c (-100000000) 100000000 = false) := by
    by_cases h : c = -9223372036854775808
    · right; subst h; rfl
    · left
      rw [g1]
      unfold gcdI isLeastI
      rw [if_neg (by simp; omega)]
      simp [Int.gcd]
  have hIg : I64 (gcdI a b) := by unfold I64; omega
  clear g1 g2
  rcases Bool.eq_false_or_eq_true (inR c (-100000000) 100000000) with hC | hC
  rotate_left
  · have H := Lib.hid (halfOk_C (a := a) (b := b) hC)
    by_cases hz0 : a = 0
    · subst hz0
      have hz2 : (b == 0) = false := by simp; omega
      have hz3 : (b != 0) = true := by simp; omega
      go_enter Tryz.func100, Tryz.ntmps100
      go_wp2_with fail
      go_quiet ((first | (go_at_call 97; first | (with_reducible exact Calls.quiet_of_same (l01In_is hA _)) | (with_reducible exact Calls.quiet_of_same (l01In_is hB _)) | (with_reducible exact Calls.quiet_of_same (l01In_is hC _))) | (go_at_call 99; exact Calls.quiet_of (specGcd_q _ _ _ (by assumption) (by assumption)))))
      go_wp2
      go_ret
      exact ⟨ret_bool H.out.symm, hx.drewN _⟩
    · have hz1 : (a != 0) = true := by simpa using hz0
      go_enter Tryz.func100, Tryz.ntmps100
      go_wp2_with fail
      go_quiet ((first | (go_at_call 97; first | (with_reducible exact Calls.quiet_of_same (l01In_is hA _)) | (with_reducible exact Calls.quiet_of_same (l01In_is hB _)) | (with_reducible exact Calls.quiet_of_same (l01In_is hC _))) | (go_at_call 99; exact Calls.quiet_of (specGcd_q _ _ _ (by assumption) (by assumption)))))
      go_wp2
      go_ret
      exact ⟨ret_bool H.out.symm, hx.drewN _⟩
  have HG := Lib.hid (halfOk_g hA hB hC (by omega))
  have g3 := HT.out.resolve_right (by rw [hC]; simp)
  have G3 : Hid (decide (gcdI (gcdI a b) c = 1) = decide (Nat.gcd (Int.gcd a b) c.natAbs = 1)) := by rw [Hid, g3, Bool.eq_iff_iff]; simp; omega
  clear g3
  by_cases hz0 : a = 0
  · subst hz0
    have hz2 : (b == 0) = false := by simp; omega
    have hz3 : (b != 0) = true := by simp; omega
    go_enter Tryz.func100, Tryz.ntmps100
    go_wp2_with fail
    go_quiet ((first | (go_at_call 97; first | (with_reducible exact Calls.quiet_of_same (l01In_is hA _)) | (with_reducible exact Calls.quiet_of_same (l01In_is hB _)) | (with_reducible exact Calls.quiet_of_same (l01In_is hC _))) | (go_at_call 99; exact Calls.quiet_of (specGcd_q _ _ _ (by assumption) (by assumption)))))
    go_wp2
    go_ret
    refine ⟨ret_bool ?_, hx.drewN _⟩
    rw [HG.out, ← G3.out]
    rfl
  · have hz1 : (a != 0) = true := by simpa using hz0
    go_enter Tryz.func100, Tryz.ntmps100
    go_wp2_with fail
    go_quiet ((first | (go_at_call 97; first | (with_reducible exact Calls.quiet_of_same (l01In_is hA _)) | (with_reducible exact Calls.quiet_of_same (l01In_is hB _)) | (with_reducible exact Calls.quiet_of_same (l01In_is hC _))) | (go_at_call 99; exact Calls.quiet_of (specGcd_q _ _ _ (by assumption) (by assumption)))))
    go_wp2
    go_ret
    refine ⟨ret_bool ?_, hx.drewN _⟩
    rw [HG.out, ← G3.out]
    rfl
end Go.Proofs.YtjghabbcjpfjeaaGreatDoor
