/- Contracts of spots: SpotOk of the program and of the reference. -/
import Derived.Test.YtjghabbcjpfjeaaGreatDoorQ
import Derived.Test.YtjghabbcjpfjeaaGreatDoorHz
import Derived.IntWalk
import Derived.Deep.QuietTactic
namespace Go.Proofs.YtjghabbcjpfjeaaGreatDoor
open Go.ChangeShapes Go.WideShapes Go.ChangeAt Go.RowKit
set_option linter.unusedVariables false

def spotOk (s : Spot) : Bool := inR s.D 1 5000000000 && inR s.X (-(1000 * s.D)) (1000 * s.D) && inR s.Y (-(1000 * s.D)) (1000 * s.D) && decide (Nat.gcd (Int.gcd s.X s.Y) s.D.natAbs = 1)
theorem spotOk_bd {s : Spot} (h : spotOk s = true) : 1 ≤ s.D ∧ s.D ≤ 5000000000 ∧ -(1000 * s.D) ≤ s.X ∧ s.X ≤ 1000 * s.D ∧ -(1000 * s.D) ≤ s.Y ∧ s.Y ≤ 1000 * s.D := by
  simp only [spotOk, inR, Bool.and_eq_true, decide_eq_true_eq] at h
  omega
theorem spotOk_D {a b c : Int} (h : inR c 1 5000000000 = false) : spotOk ⟨a, b, c⟩ = false := by unfold spotOk; simp only [h]; rfl
theorem spotOk_X {a b c M : Int} (hM : 1000 * c = M) (h : inR a (-M) M = false) : spotOk ⟨a, b, c⟩ = false := by subst hM; unfold spotOk; simp only [h]; simp
theorem spotOk_Y {a b c M : Int} (hM : 1000 * c = M) (h : inR b (-M) M = false) : spotOk ⟨a, b, c⟩ = false := by subst hM; unfold spotOk; simp only [h]; simp
theorem spotOk_g {a b c M : Int} (hM : 1000 * c = M) (hD : inR c 1 5000000000 = true) (hX : inR a (-M) M = true) (hY : inR b (-M) M = true) : spotOk ⟨a, b, c⟩ = decide (Nat.gcd (Int.gcd a b) c.natAbs = 1) := by
  subst hM
  unfold spotOk
  rw [hD, hX, hY]
  rfl
theorem gcdI_in {a b : Int} (ha : -9223372036854775807 ≤ a ∧ a ≤ 9223372036854775807) (hb : -9223372036854775807 ≤ b ∧ b ≤ 9223372036854775807) : gcdI a b = (Int.gcd a b : Int) ∧ 0 ≤ gcdI a b ∧ gcdI a b ≤ 9223372036854775807 := by
  unfold gcdI isLeastI
  rw [if_neg (by simp; omega)]
  refine ⟨rfl, by omega, ?_⟩
  by_cases h : a = 0
  · subst h; rw [Int.gcd_zero_left]; omega
  · have := Nat.gcd_le_left b.natAbs (show 0 < a.natAbs by omega)
    unfold Int.gcd; omega

set_option maxRecDepth 100000 in
set_option maxHeartbeats 1000000 in
theorem implSpotOk_any (a b c : Int) (w : World) (ha : I64 a) (hb : I64 b) (hc : I64 c) :
    Calls Tryz.prog 56 #[.agg #[.int .i64 a, .int .i64 b, .int .i64 c]] w fun e w' => e = .returned (.bool (spotOk ⟨a, b, c⟩)) ∧ Ext w w' := by
  have hx : Ext w (w.alloc (.cells #[.int .i64 a, .int .i64 b, .int .i64 c] 30)) := (Ext.refl w).alloc _
  rcases Bool.eq_false_or_eq_true (inR c 1 5000000000) with hD | hD
  rotate_left
  · have H := Lib.hid (spotOk_D (a := a) (b := b) hD)
    go_enter Tryz.func56, Tryz.ntmps56
    go_wp2_with fail
    refine (inRange_any _ _ _ _).mono ?_
    rintro e w' ⟨rfl, rfl⟩
    rw [hD]
    go_wp2
    go_ret
    exact ⟨ret_bool H.out.symm, hx⟩
  have hD' : 1 ≤ c ∧ c ≤ 5000000000 := by simpa [inR] using hD
  obtain ⟨hc1, hc2⟩ := hD'
  rcases Bool.eq_false_or_eq_true (inR a (-(1000 * c)) (1000 * c)) with hX | hX
  rotate_left
  · have H := Lib.hid (spotOk_X (b := b) rfl hX)
    go_enter Tryz.func56, Tryz.ntmps56
    go_wp2_with fail
    refine (inRange_any _ _ _ _).mono ?_
    rintro e w' ⟨rfl, rfl⟩
    rw [hD]
    go_wp2_with fail
    refine (inRange_any _ _ _ _).mono ?_
    rintro e w' ⟨rfl, rfl⟩
    rw [show inR a (-1000 * c) (1000 * c) = false from by rw [show -1000 * c = -(1000 * c) from by omega]; exact hX]
    go_wp2
    go_ret
    exact ⟨ret_bool H.out.symm, hx⟩
  rcases Bool.eq_false_or_eq_true (inR b (-(1000 * c)) (1000 * c)) with hY | hY
  rotate_left
  · have H := Lib.hid (spotOk_Y (a := a) rfl hY)
    go_enter Tryz.func56, Tryz.ntmps56
    go_wp2_with fail
    refine (inRange_any _ _ _ _).mono ?_
    rintro e w' ⟨rfl, rfl⟩
    rw [hD]
    go_wp2_with fail
    refine (inRange_any _ _ _ _).mono ?_
    rintro e w' ⟨rfl, rfl⟩
    rw [show inR a (-1000 * c) (1000 * c) = true from by rw [show -1000 * c = -(1000 * c) from by omega]; exact hX]
    go_wp2_with fail
    refine (inRange_any _ _ _ _).mono ?_
    rintro e w' ⟨rfl, rfl⟩
    rw [show inR b (-1000 * c) (1000 * c) = false from by rw [show -1000 * c = -(1000 * c) from by omega]; exact hY]
    go_wp2
    go_ret
    exact ⟨ret_bool H.out.symm, hx⟩
  have HG := Lib.hid (spotOk_g rfl hD hX hY)
  have hrow : Row ((w.alloc (.cells #[.int .i64 a, .int .i64 b, .int .i64 c] 30)).alloc (.cells #[.int .i64 a, .int .i64 b, .int .i64 c] 3)) (some ⟨w.heap.size + 1, 0, none⟩) (ints [a, b, c]) := by
    refine .inr ⟨w.heap.size + 1, 0, rfl, fun j v hj => ?_⟩
    have hb := Blk.new (w.alloc (.cells #[.int .i64 a, .int .i64 b, .int .i64 c] 30)) 3 #[.int .i64 a, .int .i64 b, .int .i64 c]
    simp only [World.size_alloc] at hb
    rw [hb.cell, Nat.zero_add]
    simpa [ints] using hj
  have HII : Hid (∀ i, (hi : i < [a, b, c].length) → I64 [a, b, c][i]) := by
    intro i hi
    match i, hi with
    | 0, _ => exact ha
    | 1, _ => exact hb
    | 2, _ => exact hc
  have HT := Lib.hid (gcdTo_three a b c)
  have HX := Lib.hid hX
  have HY := Lib.hid hY
  clear hX hY
  go_enter Tryz.func56, Tryz.ntmps56
  go_wp2_with fail
  refine (inRange_any _ _ _ _).mono ?_
  rintro e w' ⟨rfl, rfl⟩
  rw [hD]
  go_wp2_with fail
  refine (inRange_any _ _ _ _).mono ?_
  rintro e w' ⟨rfl, rfl⟩
  rw [show inR a (-1000 * c) (1000 * c) = true from by rw [show -1000 * c = -(1000 * c) from by omega]; exact HX.out]
  go_wp2_with fail
  refine (inRange_any _ _ _ _).mono ?_
  rintro e w' ⟨rfl, rfl⟩
  rw [show inR b (-1000 * c) (1000 * c) = true from by rw [show -1000 * c = -(1000 * c) from by omega]; exact HY.out]
  go_wp2_with fail
  refine (gcdOfAll_any _ 3 _ [a, b, c] _ rfl hrow (by unfold maxLen; omega) HII.out).mono ?_
  rintro e w1 ⟨rfl, hx1⟩
  rw [HT.out]
  go_wp2
  go_ret
  refine ⟨ret_bool ?_, (hx.alloc _).trans hx1⟩
  rw [HG.out]
  rw [Bool.eq_iff_iff]
  simp
  try omega

set_option maxRecDepth 100000 in
set_option maxHeartbeats 1000000 in
theorem specSpotOk_any (a b c : Int) (w : World) (ha : I64 a) (hb : I64 b) (hc : I64 c) :
    Calls Tryz.prog 177 #[.agg #[.int .i64 a, .int .i64 b, .int .i64 c]] w fun e w' => e = .returned (.bool (spotOk ⟨a, b, c⟩)) ∧ Ext w w' := by
  have hx : Ext w (w.alloc (.cells #[.int .i64 a, .int .i64 b, .int .i64 c] 30)) := (Ext.refl w).alloc _
  have bR := Blk.new w 30 #[.int .i64 a, .int .i64 b, .int .i64 c]
  have cR := fun o => bR.cell o
  rcases Bool.eq_false_or_eq_true (inR c 1 5000000000) with hD | hD
  rotate_left
  · have H := Lib.hid (spotOk_D (a := a) (b := b) hD)
    go_enter Tryz.func177, Tryz.ntmps177
    go_wp2_with fail
    refine (l01In_any _ _ _ _).mono ?_
    rintro e w' ⟨rfl, rfl⟩
    rw [hD]
    go_wp2
    go_ret
    exact ⟨ret_bool H.out.symm, hx⟩
  have hD' : 1 ≤ c ∧ c ≤ 5000000000 := by simpa [inR] using hD
  obtain ⟨hc1, hc2⟩ := hD'
  obtain ⟨M, hM⟩ : ∃ M, 1000 * c = M := ⟨_, rfl⟩
  have hMb : 1000 ≤ M ∧ M ≤ 5000000000000 := by omega
  obtain ⟨hM1, hM2⟩ := hMb
  have hneg : IntKind.i64.wrap (-M) = -M := IntWalk.i64_in _ (by omega)
  have HM := Lib.hid hM
  rcases Bool.eq_false_or_eq_true (inR a (-M) M) with hX | hX
  rotate_left
  · have H := Lib.hid (spotOk_X (b := b) hM hX)
    go_enter Tryz.func177, Tryz.ntmps177
    go_wp2_with fail
    refine (l01In_any _ _ _ _).mono ?_
    rintro e w' ⟨rfl, rfl⟩
    rw [hD]
    go_wp2_with fail
    go_quiet ((go_at_call 97; (with_reducible exact Calls.quiet_of_same (l01In_eq hX _))))
    go_wp2
    go_ret
    exact ⟨ret_bool H.out.symm, hx.drewN _⟩
  rcases Bool.eq_false_or_eq_true (inR b (-M) M) with hY | hY
  rotate_left
  · have H := Lib.hid (spotOk_Y (a := a) hM hY)
    go_enter Tryz.func177, Tryz.ntmps177
    go_wp2_with fail
    refine (l01In_any _ _ _ _).mono ?_
    rintro e w' ⟨rfl, rfl⟩
    rw [hD]
    go_wp2_with fail
    go_quiet ((go_at_call 97; first | (with_reducible exact Calls.quiet_of_same (l01In_eq hX _)) | (with_reducible exact Calls.quiet_of_same (l01In_eq hY _))))
    go_wp2
    go_ret
    exact ⟨ret_bool H.out.symm, hx.drewN _⟩
  have HG := Lib.hid (spotOk_g hM hD hX hY)
  have hX' : -M ≤ a ∧ a ≤ M := by simpa [inR] using hX
  have hY' : -M ≤ b ∧ b ≤ M := by simpa [inR] using hY
  obtain ⟨g1, g2, g3⟩ := gcdI_in (a := a) (b := b) (by omega) (by omega)
  obtain ⟨k1, k2, k3⟩ := gcdI_in (a := gcdI a b) (b := c) (by omega) (by omega)
  have G3 : Hid (decide (gcdI (gcdI a b) c = 1) = decide (Nat.gcd (Int.gcd a b) c.natAbs = 1)) := by
    have e : Int.gcd (Int.gcd a b : Int) c = Nat.gcd (Int.gcd a b) c.natAbs := by simp [Int.gcd]
    rw [Hid, k1, g1, e, decide_eq_decide]
    omega
  have hIg : I64 (gcdI a b) := by unfold I64; omega
  clear g1 g2 g3 k1 k2 k3 hX' hY'
  go_enter Tryz.func177, Tryz.ntmps177
  go_wp2_with fail
  refine (l01In_any _ _ _ _).mono ?_
  rintro e w' ⟨rfl, rfl⟩
  rw [hD]
  go_wp2_with fail
  go_quiet ((first | (go_at_call 97; first | (with_reducible exact Calls.quiet_of_same (l01In_eq hX _)) | (with_reducible exact Calls.quiet_of_same (l01In_eq hY _))) | (go_at_call 99; exact Calls.quiet_of (specGcd_q _ _ _ (by assumption) (by assumption)))))
  go_wp2
  go_ret
  refine ⟨ret_bool ?_, hx.drewN _⟩
  rw [HG.out, ← G3.out]
  rfl
end Go.Proofs.YtjghabbcjpfjeaaGreatDoor
