/- Contracts of the comparison of fractions, and of spans. -/
import Derived.Test.YtfnmbpjkjajpcaaGreatDoorFbQR
namespace Go.Proofs.YtfnmbpjkjajpcaaGreatDoor
open Go.ChangeShapes Go.WideShapes Go.ChangeAt Go.RowKit
set_option linter.unusedVariables false
set_option maxHeartbeats 2000000 in
theorem compareFractions_any (a b c d : Int) (w : World) (ha : I64 a) (hb : I64 b) (hc : I64 c) (hd : I64 d) (hb0 : 0 < b) (hd0 : 0 < d) :
    Calls Tryz.prog 273 #[.int .i64 a, .int .i64 b, .int .i64 c, .int .i64 d] w fun e w' => e = .returned (.int .i64 (cmpI (a * d) (c * b))) ∧ w = w' := by
  have Ha := Lib.hid ha
  have Hb := Lib.hid hb
  have Hc := Lib.hid hc
  have Hd := Lib.hid hd
  have na : a.natAbs < 18446744073709551616 := by unfold I64 at ha; omega
  have nb : b.natAbs < 18446744073709551616 := by unfold I64 at hb; omega
  have nc : c.natAbs < 18446744073709551616 := by unfold I64 at hc; omega
  have nd : d.natAbs < 18446744073709551616 := by unfold I64 at hd; omega
  clear ha hb hc hd
  by_cases h1 : a < 0 ∧ 0 ≤ c
  · have H := Lib.hid (cmp_sign_lt h1.1 hb0 h1.2 hd0)
    obtain ⟨h2, h3⟩ := h1
    go_enter Tryz.func273, Tryz.ntmps273
    go_wp2
    go_ret
    exact ⟨ret_int H.out.symm, rfl⟩
  by_cases h1' : 0 ≤ a ∧ c < 0
  · have H := Lib.hid (cmp_sign_gt h1'.1 hb0 h1'.2 hd0)
    obtain ⟨h2, h3⟩ := h1'
    clear h1
    go_enter Tryz.func273, Tryz.ntmps273
    go_wp2
    go_ret
    exact ⟨ret_int H.out.symm, rfl⟩
  have HH := Lib.hid (cmp_halves (a.natAbs * d.natAbs) (c.natAbs * b.natAbs))
  by_cases ha0 : a < 0
  · have hc0 : c < 0 := by omega
    have H := Lib.hid (cmp_abs_neg ha0 hb0 hc0 hd0)
    clear h1 h1'
    go_enter Tryz.func273, Tryz.ntmps273
    go_wp2_with fail
    refine (magnitude_any _ _ Ha.out).mono ?_
    rintro e w' ⟨rfl, rfl⟩
    go_wp2_with fail
    refine (magnitude_any _ _ Hd.out).mono ?_
    rintro e w' ⟨rfl, rfl⟩
    go_wp2_with fail
    refine (mul64_any _ _ na nd _).mono ?_
    rintro e w' ⟨rfl, rfl⟩
    generalize a.natAbs * d.natAbs / 18446744073709551616 = X1 at HH ⊢
    generalize a.natAbs * d.natAbs % 18446744073709551616 = X0 at HH ⊢
    go_wp2_with fail
    refine (magnitude_any _ _ Hc.out).mono ?_
    rintro e w' ⟨rfl, rfl⟩
    go_wp2_with fail
    refine (magnitude_any _ _ Hb.out).mono ?_
    rintro e w' ⟨rfl, rfl⟩
    go_wp2_with fail
    refine (mul64_any _ _ nc nb _).mono ?_
    rintro e w' ⟨rfl, rfl⟩
    generalize c.natAbs * b.natAbs / 18446744073709551616 = Y1 at HH ⊢
    generalize c.natAbs * b.natAbs % 18446744073709551616 = Y0 at HH ⊢
    have HF : Hid (cmpI (a * d) (c * b) = -cmpHalves X1 X0 Y1 Y0) := by unfold Hid; rw [H.out, HH.out]
    clear H HH
    go_wp2
    all_goals go_ret
    all_goals refine ⟨ret_int ?_, rfl⟩
    all_goals rw [HF.out]
    all_goals simp [cmpHalves, *]
    all_goals omega
  · have hc0 : 0 ≤ c := by omega
    have ha1 : 0 ≤ a := by omega
    have H := Lib.hid (cmp_abs_pos ha1 hb0 hc0 hd0)
    clear h1 h1'
    go_enter Tryz.func273, Tryz.ntmps273
    go_wp2_with fail
    refine (magnitude_any _ _ Ha.out).mono ?_
    rintro e w' ⟨rfl, rfl⟩
    go_wp2_with fail
    refine (magnitude_any _ _ Hd.out).mono ?_
    rintro e w' ⟨rfl, rfl⟩
    go_wp2_with fail
    refine (mul64_any _ _ na nd _).mono ?_
    rintro e w' ⟨rfl, rfl⟩
    generalize a.natAbs * d.natAbs / 18446744073709551616 = X1 at HH ⊢
    generalize a.natAbs * d.natAbs % 18446744073709551616 = X0 at HH ⊢
    go_wp2_with fail
    refine (magnitude_any _ _ Hc.out).mono ?_
    rintro e w' ⟨rfl, rfl⟩
    go_wp2_with fail
    refine (magnitude_any _ _ Hb.out).mono ?_
    rintro e w' ⟨rfl, rfl⟩
    go_wp2_with fail
    refine (mul64_any _ _ nc nb _).mono ?_
    rintro e w' ⟨rfl, rfl⟩
    generalize c.natAbs * b.natAbs / 18446744073709551616 = Y1 at HH ⊢
    generalize c.natAbs * b.natAbs % 18446744073709551616 = Y0 at HH ⊢
    have HF : Hid (cmpI (a * d) (c * b) = cmpHalves X1 X0 Y1 Y0) := by unfold Hid; rw [H.out, HH.out]
    clear H HH
    go_wp2
    all_goals go_ret
    all_goals refine ⟨ret_int ?_, rfl⟩
    all_goals rw [HF.out]
    all_goals simp [cmpHalves, *]
    all_goals omega
set_option maxHeartbeats 2000000 in
theorem implRatioCmp_any (a b c d : Int) (w : World) (ha : I64 a) (hb : I64 b) (hc : I64 c) (hd : I64 d) :
    Calls Tryz.prog 253 #[.agg #[.int .i64 a, .int .i64 b], .agg #[.int .i64 c, .int .i64 d]] w fun e w' => e = .returned (.int .i64 (ratioCmp ⟨a, b⟩ ⟨c, d⟩)) ∧ Ext w w' := by
  have Ha := Lib.hid ha
  have Hb := Lib.hid hb
  have Hc := Lib.hid hc
  have Hd := Lib.hid hd
  clear ha hb hc hd
  have hx : Ext w ((w.alloc (.cells #[.int .i64 a, .int .i64 b] 139)).alloc (.cells #[.int .i64 c, .int .i64 d] 139)) := ((Ext.refl w).alloc _).alloc _
  have hB := Ext.refl ((w.alloc (.cells #[.int .i64 a, .int .i64 b] 139)).alloc (.cells #[.int .i64 c, .int .i64 d] 139))
  by_cases hok1 : ratioOk ⟨a, b⟩ = true
  · by_cases hok2 : ratioOk ⟨c, d⟩ = true
    · have H : Hid (ratioCmp ⟨a, b⟩ ⟨c, d⟩ = cmpI (a * d) (c * b)) := by unfold Hid ratioCmp; rw [if_pos ⟨hok1, hok2⟩]
      obtain ⟨h1, h2, h3, h4⟩ := ratioOk_bd hok1
      obtain ⟨h5, h6, h7, h8⟩ := ratioOk_bd hok2
      simp only at h1 h2 h3 h4 h5 h6 h7 h8
      have Hok1 := Lib.hid hok1
      have Hok2 := Lib.hid hok2
      clear hok1 hok2
      go_enter Tryz.func253, Tryz.ntmps253
      go_wp2_with fail
      refine (implRatioOk_any _ _ _ Ha.out Hb.out).mono ?_
      rintro e w1 ⟨rfl, hx1⟩
      replace hB := hB.trans hx1
      have hc1 := fun o => hB.use.1 w.heap.size o (by simp <;> omega)
      have hd1 := fun o => hB.use.1 (w.heap.size + 1) o (by simp <;> omega)
      rw [Hok1.out]
      go_wp2_with fail
      refine (implRatioOk_any _ _ _ Hc.out Hd.out).mono ?_
      rintro e w2 ⟨rfl, hx2⟩
      replace hB := hB.trans hx2
      clear hc1 hd1
      have hc1 := fun o => hB.use.1 w.heap.size o (by simp <;> omega)
      have hd1 := fun o => hB.use.1 (w.heap.size + 1) o (by simp <;> omega)
      rw [Hok2.out]
      go_wp2_with fail
      refine (compareFractions_any _ _ _ _ _ Ha.out Hb.out Hc.out Hd.out (by omega) (by omega)).mono ?_
      rintro e w' ⟨rfl, rfl⟩
      go_wp2
      go_ret
      exact ⟨ret_int H.out.symm, hx.trans hB⟩
    · have H : Hid (ratioCmp ⟨a, b⟩ ⟨c, d⟩ = 0) := by unfold Hid ratioCmp; rw [if_neg (fun h => hok2 h.2)]
      have Hok1 := Lib.hid hok1
      have Hok2 : Hid (ratioOk ⟨c, d⟩ = false) := by unfold Hid; simpa using hok2
      clear hok1 hok2
      go_enter Tryz.func253, Tryz.ntmps253
      go_wp2_with fail
      refine (implRatioOk_any _ _ _ Ha.out Hb.out).mono ?_
      rintro e w1 ⟨rfl, hx1⟩
      replace hB := hB.trans hx1
      have hc1 := fun o => hB.use.1 w.heap.size o (by simp <;> omega)
      have hd1 := fun o => hB.use.1 (w.heap.size + 1) o (by simp <;> omega)
      rw [Hok1.out]
      go_wp2_with fail
      refine (implRatioOk_any _ _ _ Hc.out Hd.out).mono ?_
      rintro e w2 ⟨rfl, hx2⟩
      rw [Hok2.out]
      go_wp2
      go_ret
      exact ⟨ret_int H.out.symm, (hx.trans hB).trans hx2⟩
  · have H : Hid (ratioCmp ⟨a, b⟩ ⟨c, d⟩ = 0) := by unfold Hid ratioCmp; rw [if_neg (fun h => hok1 h.1)]
    have Hok1 : Hid (ratioOk ⟨a, b⟩ = false) := by unfold Hid; simpa using hok1
    clear hok1
    go_enter Tryz.func253, Tryz.ntmps253
    go_wp2_with fail
    refine (implRatioOk_any _ _ _ Ha.out Hb.out).mono ?_
    rintro e w1 ⟨rfl, hx1⟩
    rw [Hok1.out]
    go_wp2
    go_ret
    exact ⟨ret_int H.out.symm, hx.trans hx1⟩
end Go.Proofs.YtfnmbpjkjajpcaaGreatDoor
