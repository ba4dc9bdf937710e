/- Contracts of the comparison of fractions, and of spans. -/
import Derived.Test.YtlgkfjhbimffiaaGreatDoorQR
namespace Go.Proofs.YtlgkfjhbimffiaaGreatDoor
open Go.ChangeShapes Go.WideShapes Go.ChangeAt Go.RowKit
set_option linter.unusedVariables false

set_option maxHeartbeats 2000000 in
theorem compareFractions_any (a b c d : Int) (w : World) (ha : I64 a) (hb : I64 b) (hc : I64 c) (hd : I64 d) (hb0 : 0 < b) (hd0 : 0 < d) :
    Calls Tryz.prog 148 #[.int .i64 a, .int .i64 b, .int .i64 c, .int .i64 d] w fun e w' => e = .returned (.int .i64 (cmpI (a * d) (c * b))) ∧ w = w' := by
  have Ha := Lib.hid ha
  have Hb := Lib.hid hb
  have Hc := Lib.hid hc
  have Hd := Lib.hid hd
  have na : a.natAbs < 18446744073709551616 := by unfold I64 at ha; omega
  have nb : b.natAbs < 18446744073709551616 := by unfold I64 at hb; omega
  have nc : c.natAbs < 18446744073709551616 := by unfold I64 at hc; omega
  have nd : d.natAbs < 18446744073709551616 := by unfold I64 at hd; omega
  clear ha hb hc hd
  by_cases h1 : a < 0 ∧ 0 ≤ c
  · have H := Lib.hid (cmp_sign_lt h1.1 hb0 h1.2 hd0)
    obtain ⟨h2, h3⟩ := h1
    go_enter Tryz.func148, Tryz.ntmps148
    go_wp2
    go_ret
    exact ⟨ret_int H.out.symm, rfl⟩
  by_cases h1' : 0 ≤ a ∧ c < 0
  · have H := Lib.hid (cmp_sign_gt h1'.1 hb0 h1'.2 hd0)
    obtain ⟨h2, h3⟩ := h1'
    clear h1
    go_enter Tryz.func148, Tryz.ntmps148
    go_wp2
    go_ret
    exact ⟨ret_int H.out.symm, rfl⟩
  have HH := Lib.hid (cmp_halves (a.natAbs * d.natAbs) (c.natAbs * b.natAbs))
  by_cases ha0 : a < 0
  · have hc0 : c < 0 := by omega
    have H := Lib.hid (cmp_abs_neg ha0 hb0 hc0 hd0)
    clear h1 h1'
    go_enter Tryz.func148, Tryz.ntmps148
    go_wp2_with fail
    refine (magnitude_any _ _ Ha.out).mono ?_
    rintro e w' ⟨rfl, rfl⟩
    go_wp2_with fail
    refine (magnitude_any _ _ Hd.out).mono ?_
    rintro e w' ⟨rfl, rfl⟩
    go_wp2_with fail
    refine (mul64_any _ _ na nd _).mono ?_
    rintro e w' ⟨rfl, rfl⟩
    generalize a.natAbs * d.natAbs / 18446744073709551616 = X1 at HH ⊢
    generalize a.natAbs * d.natAbs % 18446744073709551616 = X0 at HH ⊢
    go_wp2_with fail
    refine (magnitude_any _ _ Hc.out).mono ?_
    rintro e w' ⟨rfl, rfl⟩
    go_wp2_with fail
    refine (magnitude_any _ _ Hb.out).mono ?_
    rintro e w' ⟨rfl, rfl⟩
    go_wp2_with fail
    refine (mul64_any _ _ nc nb _).mono ?_
    rintro e w' ⟨rfl, rfl⟩
    generalize c.natAbs * b.natAbs / 18446744073709551616 = Y1 at HH ⊢
    generalize c.natAbs * b.natAbs % 18446744073709551616 = Y0 at HH ⊢
    have HF : Hid (cmpI (a * d) (c * b) = -cmpHalves X1 X0 Y1 Y0) := by unfold Hid; rw [H.out, HH.out]
    clear H HH
    go_wp2
    all_goals go_ret
    all_goals refine ⟨ret_int ?_, rfl⟩
    all_goals rw [HF.out]
    all_goals simp [cmpHalves, *]
    all_goals omega
  · have hc0 : 0 ≤ c := by omega
    have ha1 : 0 ≤ a := by omega
    have H := Lib.hid (cmp_abs_pos ha1 hb0 hc0 hd0)
    clear h1 h1'
    go_enter Tryz.func148, Tryz.ntmps148
    go_wp2_with fail
    refine (magnitude_any _ _ Ha.out).mono ?_
    rintro e w' ⟨rfl, rfl⟩
    go_wp2_with fail
    refine (magnitude_any _ _ Hd.out).mono ?_
    rintro e w' ⟨rfl, rfl⟩
    go_wp2_with fail
    refine (mul64_any _ _ na nd _).mono ?_
    rintro e w' ⟨rfl, rfl⟩
    generalize a.natAbs * d.natAbs / 18446744073709551616 = X1 at HH ⊢
    generalize a.natAbs * d.natAbs % 18446744073709551616 = X0 at HH ⊢
    go_wp2_with fail
    refine (magnitude_any _ _ Hc.out).mono ?_
    rintro e w' ⟨rfl, rfl⟩
    go_wp2_with fail
    refine (magnitude_any _ _ Hb.out).mono ?_
    rintro e w' ⟨rfl, rfl⟩
    go_wp2_with fail
    refine (mul64_any _ _ nc nb _).mono ?_
    rintro e w' ⟨rfl, rfl⟩
    generalize c.natAbs * b.natAbs / 18446744073709551616 = Y1 at HH ⊢
    generalize c.natAbs * b.natAbs % 18446744073709551616 = Y0 at HH ⊢
    have HF : Hid (cmpI (a * d) (c * b) = cmpHalves X1 X0 Y1 Y0) := by unfold Hid; rw [H.out, HH.out]
    clear H HH
    go_wp2
    all_goals go_ret
    all_goals refine ⟨ret_int ?_, rfl⟩
    all_goals rw [HF.out]
    all_goals simp [cmpHalves, *]
    all_goals omega


end Go.Proofs.YtlgkfjhbimffiaaGreatDoor
