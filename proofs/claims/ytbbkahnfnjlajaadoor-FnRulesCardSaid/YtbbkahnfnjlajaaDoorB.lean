/- Contracts of FirstBreach of the program and of the reference. -/
import Derived.Test.YtbbkahnfnjlajaaDoorF
namespace Go.Proofs.YtbbkahnfnjlajaaDoor
open Go.ChangeShapes Go.WideShapes Go.ChangeAt Go.RowKit
set_option linter.unusedVariables false

set_option maxHeartbeats 4000000 in
theorem implFirstBreach_any (a b c d f : Int) (A : Option Addr) (n cc : Nat) (xs : List Int) (w : World) (hn : xs.length = n) (hr : Row w A (ints xs)) (hnc : n ≤ cc) (hcc : cc ≤ maxLen) :
    Calls Tryd.prog 11 #[.agg #[.int .i64 a, .int .i64 b, .int .i64 c, .int .i64 d, .int .i64 f], .slice A n cc] w fun e w' =>
      e = .returned (.tuple #[.int .i64 (firstBreach ⟨a, b, c, d, f⟩ xs).1, .int .i64 (firstBreach ⟨a, b, c, d, f⟩ xs).2]) ∧ Ext w w' := by
  have Hcc := Lib.hid hcc
  unfold maxLen at hcc
  have hx : Ext w (w.alloc (.cells #[.int .i64 a, .int .i64 b, .int .i64 c, .int .i64 d, .int .i64 f] 24)) := (Ext.refl w).alloc _
  have hB := Ext.refl (w.alloc (.cells #[.int .i64 a, .int .i64 b, .int .i64 c, .int .i64 d, .int .i64 f] 24))
  have hr2 := hr.ext hx
  by_cases hok1 : ruleOk ⟨a, b, c, d, f⟩ = true
  · by_cases hok2 : seriesOk xs = true
    · obtain ⟨hc1, hc2, hd1, hd2, hf1, hf2⟩ := ruleOk_bd hok1
      simp only at hc1 hc2 hd1 hd2 hf1 hf2
      obtain ⟨D, rfl⟩ := Int.eq_ofNat_of_zero_le (show 0 ≤ d by omega)
      have hD1 : 1 ≤ D := by omega
      have hD2 : D ≤ 60 := by omega
      have h60 := seriesOk_len hok2
      have Hok1 := Lib.hid hok1
      have Hok2 := Lib.hid hok2
      clear hok1 hok2
      go_enter Tryd.func11, Tryd.ntmps11
      go_wp2_with fail
      refine (implRuleOk_any _ _ _ _ _ _).mono ?_
      rintro e w1 ⟨rfl, hx1⟩
      rw [Hok1.out]
      replace hB := hB.trans hx1
      have hc := fun o => hB.use.1 w.heap.size o (by simp <;> omega)
      go_wp2_with fail
      refine (implSeriesOk_any _ _ _ xs _ hn (hr2.ext hx1) (by have := Hcc.out; unfold maxLen at *; omega)).mono ?_
      rintro e w' ⟨rfl, rfl⟩
      rw [Hok2.out]
      go_wp2
      go_loopw [18] (fun i wr => ∃ k : Nat, k ≤ n ∧ i = .int .i64 k ∧ Ext (w.alloc (.cells #[.int .i64 a, .int .i64 b, .int .i64 c, .int .i64 (D : Int), .int .i64 f] 24)) wr ∧ allN (fineAt ⟨a, b, c, (D : Int), f⟩ xs) k = true) (fun i _ => n - (intOf i).toNat)
      case atStart => exact ⟨0, Nat.zero_le _, rfl, hB, rfl⟩
      case round =>
        obtain ⟨k, hk, rfl, hBr, hall⟩ := hrel
        have Hall := Lib.hid hall
        clear hall hc hB
        have hc := fun o => hBr.use.1 w.heap.size o (by simp <;> omega)
        have hr3 := hr2.ext hBr
        by_cases hlt : k < n
        · obtain ⟨bb, off, rfl, hb, hcell⟩ := hr3.int (k := k) (by omega)
          obtain ⟨hv1, hv2⟩ := seriesOk_at Hok2.out (i := k) (by omega)
          by_cases hin : inR (xs[k]'(by omega)) a b = true
          · have Hin : Hid (inR (num xs k) (Rule.Low ⟨a, b, c, (D : Int), f⟩) (Rule.High ⟨a, b, c, (D : Int), f⟩) = true) := by unfold Hid; rw [num_at (by omega)]; exact hin
            by_cases hk0 : 0 < k
            · obtain ⟨b2, off2, hA, hb2, hcell2⟩ := hr3.int (k := k - 1) (by omega)
              injection hA with hA
              injection hA with e1 e2
              subst e1
              subst e2
              obtain ⟨hv3, hv4⟩ := seriesOk_at Hok2.out (i := k - 1) (by omega)
              have hk0i : (0 : Int) < (k : Int) := by omega
              have hk1i : (k : Int) - 1 < (n : Int) := by omega
              by_cases hst : c < apart (xs[k]'(by omega)) (xs[k - 1]'(by omega))
              · have Hst := Lib.hid ((stepAt_iff hk0 (by omega)).2 hst)
                have Hc := Lib.hid (codeAt_2 (u := ⟨a, b, c, (D : Int), f⟩) Hin.out Hst.out)
                go_wp2_with (go_at_call 49; refine (inRange_any _ _ _ _).mono ?_; rintro e w' ⟨rfl, rfl⟩)
                go_quiet ((go_at_call 50; exact Calls.quiet_of_same ((apartBy_any _ _ _ (by omega) (by omega)).mono fun _ _ ⟨h1, h2⟩ => ⟨h1, h2.symm⟩)))
                go_wp2
                go_ret2
                have HF := Lib.hid (firstBreach_at Hok1.out Hok2.out (k := k) (by omega) Hall.out (by rw [Hc.out]; decide))
                exact ⟨ret2_int (by rw [HF.out]) (by rw [HF.out, Hc.out]), hx.trans (hBr.drewN _)⟩
              · have Hst : Hid (stepAt xs c k = false) := by
                  unfold Hid
                  rw [Bool.eq_false_iff, ne_eq, stepAt_iff hk0 (by omega)]
                  exact hst
                go_wp2_with (go_at_call 49; refine (inRange_any _ _ _ _).mono ?_; rintro e w' ⟨rfl, rfl⟩)
                go_quiet ((go_at_call 50; exact Calls.quiet_of_same ((apartBy_any _ _ _ (by omega) (by omega)).mono fun _ _ ⟨h1, h2⟩ => ⟨h1, h2.symm⟩)))
                have hc2 := fun o => (hBr.drewN 1).use.1 w.heap.size o (by simp <;> omega)
                go_wp2_with fail
                refine (drifts_any _ _ _ _ D k _ _ _ xs _ hn (by exact hr3) hnc Hcc.out Hok2.out hD1 (by omega)).mono ?_
                rintro e w2 ⟨rfl, hx2⟩
                cases hdr : drifts xs D f k with
                | true =>
                  have Hc := Lib.hid (codeAt_3 (u := ⟨a, b, c, (D : Int), f⟩) Hin.out Hst.out (by rw [Int.toNat_natCast]; exact hdr))
                  clear hdr
                  go_wp2
                  go_ret2
                  have HF := Lib.hid (firstBreach_at Hok1.out Hok2.out (k := k) (by omega) Hall.out (by rw [Hc.out]; decide))
                  exact ⟨ret2_int (by rw [HF.out]) (by rw [HF.out, Hc.out]), hx.trans (Ext.trans (by first | exact hBr | exact hBr.drewN _) hx2)⟩
                | false =>
                  have Hc : Hid (fineAt ⟨a, b, c, (D : Int), f⟩ xs k = true) := by
                    unfold Hid fineAt; rw [codeAt_0 (u := ⟨a, b, c, (D : Int), f⟩) Hin.out Hst.out (by rw [Int.toNat_natCast]; exact hdr)]; rfl
                  clear hdr
                  go_wp2
                  go_roundw
                  case rel => exact ⟨k + 1, by omega, by go_num, Ext.trans (by first | exact hBr | exact hBr.drewN _) hx2, by rw [allN, Hall.out, Hc.out]; rfl⟩
                  case measure => simp [intOf]; omega
            · have hk0b : decide ((0 : Int) < (k : Int)) = false := by simp; omega
              have Hst := Lib.hid (stepAt_zero (xs := xs) (S := c) (show k = 0 by omega))
              go_wp2_with (go_at_call 49; refine (inRange_any _ _ _ _).mono ?_; rintro e w' ⟨rfl, rfl⟩)
              go_quiet (fail)
              have hc2 := fun o => (hBr.drewN 1).use.1 w.heap.size o (by simp <;> omega)
              go_wp2_with fail
              refine (drifts_any _ _ _ _ D k _ _ _ xs _ hn (by exact hr3) hnc Hcc.out Hok2.out hD1 (by omega)).mono ?_
              rintro e w2 ⟨rfl, hx2⟩
              cases hdr : drifts xs D f k with
              | true =>
                have Hc := Lib.hid (codeAt_3 (u := ⟨a, b, c, (D : Int), f⟩) Hin.out Hst.out (by rw [Int.toNat_natCast]; exact hdr))
                clear hdr
                go_wp2
                go_ret2
                have HF := Lib.hid (firstBreach_at Hok1.out Hok2.out (k := k) (by omega) Hall.out (by rw [Hc.out]; decide))
                exact ⟨ret2_int (by rw [HF.out]) (by rw [HF.out, Hc.out]), hx.trans (Ext.trans (by first | exact hBr | exact hBr.drewN _) hx2)⟩
              | false =>
                have Hc : Hid (fineAt ⟨a, b, c, (D : Int), f⟩ xs k = true) := by
                  unfold Hid fineAt; rw [codeAt_0 (u := ⟨a, b, c, (D : Int), f⟩) Hin.out Hst.out (by rw [Int.toNat_natCast]; exact hdr)]; rfl
                clear hdr
                go_wp2
                go_roundw
                case rel => exact ⟨k + 1, by omega, by go_num, Ext.trans (by first | exact hBr | exact hBr.drewN _) hx2, by rw [allN, Hall.out, Hc.out]; rfl⟩
                case measure => simp [intOf]; omega
          · have hin' : inR (xs[k]'(by omega)) a b = false := by simpa using hin
            have Hc := Lib.hid (codeAt_1 (u := ⟨a, b, c, (D : Int), f⟩) (xs := xs) (i := k) (by rw [num_at (show k < xs.length by omega)]; exact hin'))
            clear hin
            go_wp2_with (go_at_call 49; refine (inRange_any _ _ _ _).mono ?_; rintro e w' ⟨rfl, rfl⟩)
            go_ret2
            have HF := Lib.hid (firstBreach_at Hok1.out Hok2.out (k := k) (by omega) Hall.out (by rw [Hc.out]; decide))
            exact ⟨ret2_int (by rw [HF.out]) (by rw [HF.out, Hc.out]), hx.trans hBr⟩
        · have H := Lib.hid (firstBreach_none Hok1.out Hok2.out (by rw [hn, ← show k = n from by omega]; exact Hall.out))
          go_wp2
          go_ret2
          exact ⟨ret2_int (by rw [H.out]) (by rw [H.out]), hx.trans hBr⟩
    · have H := Lib.hid (firstBreach_bad (u := ⟨a, b, c, d, f⟩) (xs := xs) (fun h => hok2 h.2))
      have Hok1 := Lib.hid hok1
      have hok2' : seriesOk xs = false := by simpa using hok2
      have Hok2 := Lib.hid hok2'
      clear hok1 hok2 hok2'
      go_enter Tryd.func11, Tryd.ntmps11
      go_wp2_with fail
      refine (implRuleOk_any _ _ _ _ _ _).mono ?_
      rintro e w1 ⟨rfl, hx1⟩
      rw [Hok1.out]
      go_wp2_with fail
      refine (implSeriesOk_any _ _ _ xs _ hn (hr2.ext hx1) (by have := Hcc.out; unfold maxLen at *; omega)).mono ?_
      rintro e w' ⟨rfl, rfl⟩
      rw [Hok2.out]
      go_wp2
      go_ret2
      exact ⟨ret2_int (by rw [H.out]) (by rw [H.out]), hx.trans hx1⟩
  · have H := Lib.hid (firstBreach_bad (u := ⟨a, b, c, d, f⟩) (xs := xs) (fun h => hok1 h.1))
    have hok1' : ruleOk ⟨a, b, c, d, f⟩ = false := by simpa using hok1
    have Hok1 := Lib.hid hok1'
    clear hok1 hok1'
    go_enter Tryd.func11, Tryd.ntmps11
    go_wp2_with fail
    refine (implRuleOk_any _ _ _ _ _ _).mono ?_
    rintro e w1 ⟨rfl, hx1⟩
    rw [Hok1.out]
    go_wp2
    go_ret2
    exact ⟨ret2_int (by rw [H.out]) (by rw [H.out]), hx.trans hx1⟩

set_option maxHeartbeats 4000000 in
theorem specFirstBreach_any (a b c d f : Int) (A : Option Addr) (n cc : Nat) (xs : List Int) (w : World) (hn : xs.length = n) (hr : Row w A (ints xs)) (hnc : n ≤ cc) (hcc : cc ≤ maxLen) :
    Calls Tryd.prog 68 #[.agg #[.int .i64 a, .int .i64 b, .int .i64 c, .int .i64 d, .int .i64 f], .slice A n cc] w fun e w' =>
      e = .returned (.tuple #[.int .i64 (firstBreach ⟨a, b, c, d, f⟩ xs).1, .int .i64 (firstBreach ⟨a, b, c, d, f⟩ xs).2]) ∧ Ext w w' := by
  have Hcc := Lib.hid hcc
  unfold maxLen at hcc
  have hx : Ext w (w.alloc (.cells #[.int .i64 a, .int .i64 b, .int .i64 c, .int .i64 d, .int .i64 f] 24)) := (Ext.refl w).alloc _
  have hB := Ext.refl (w.alloc (.cells #[.int .i64 a, .int .i64 b, .int .i64 c, .int .i64 d, .int .i64 f] 24))
  have hr2 := hr.ext hx
  by_cases hok1 : ruleOk ⟨a, b, c, d, f⟩ = true
  · by_cases hok2 : seriesOk xs = true
    · obtain ⟨hc1, hc2, hd1, hd2, hf1, hf2⟩ := ruleOk_bd hok1
      simp only at hc1 hc2 hd1 hd2 hf1 hf2
      obtain ⟨D, rfl⟩ := Int.eq_ofNat_of_zero_le (show 0 ≤ d by omega)
      have hD1 : 1 ≤ D := by omega
      have hD2 : D ≤ 60 := by omega
      have h60 := seriesOk_len hok2
      have Hok1 := Lib.hid hok1
      have Hok2 := Lib.hid hok2
      clear hok1 hok2
      go_enter Tryd.func68, Tryd.ntmps68
      go_wp2_with fail
      refine (specRuleOk_any _ _ _ _ _ _).mono ?_
      rintro e w1 ⟨rfl, hx1⟩
      rw [Hok1.out]
      replace hB := hB.trans hx1
      have hc := fun o => hB.use.1 w.heap.size o (by simp <;> omega)
      go_wp2_with fail
      refine (specSeriesOk_any _ _ _ xs _ hn (hr2.ext hx1) (by have := Hcc.out; unfold maxLen at *; omega)).mono ?_
      rintro e w' ⟨rfl, rfl⟩
      rw [Hok2.out]
      go_wp2
      go_loopw [18] (fun i wr => ∃ k : Nat, k ≤ n ∧ i = .int .i64 k ∧ Ext (w.alloc (.cells #[.int .i64 a, .int .i64 b, .int .i64 c, .int .i64 (D : Int), .int .i64 f] 24)) wr ∧ allN (fineAt ⟨a, b, c, (D : Int), f⟩ xs) k = true) (fun i _ => n - (intOf i).toNat)
      case atStart => exact ⟨0, Nat.zero_le _, rfl, hB, rfl⟩
      case round =>
        obtain ⟨k, hk, rfl, hBr, hall⟩ := hrel
        have Hall := Lib.hid hall
        clear hall hc hB
        have hc := fun o => hBr.use.1 w.heap.size o (by simp <;> omega)
        have hr3 := hr2.ext hBr
        by_cases hlt : k < n
        · obtain ⟨bb, off, rfl, hb, hcell⟩ := hr3.int (k := k) (by omega)
          obtain ⟨hv1, hv2⟩ := seriesOk_at Hok2.out (i := k) (by omega)
          by_cases hin : inR (xs[k]'(by omega)) a b = true
          · have Hin : Hid (inR (num xs k) (Rule.Low ⟨a, b, c, (D : Int), f⟩) (Rule.High ⟨a, b, c, (D : Int), f⟩) = true) := by unfold Hid; rw [num_at (by omega)]; exact hin
            by_cases hk0 : 0 < k
            · obtain ⟨b2, off2, hA, hb2, hcell2⟩ := hr3.int (k := k - 1) (by omega)
              injection hA with hA
              injection hA with e1 e2
              subst e1
              subst e2
              obtain ⟨hv3, hv4⟩ := seriesOk_at Hok2.out (i := k - 1) (by omega)
              have hk0i : (0 : Int) < (k : Int) := by omega
              have hk1i : (k : Int) - 1 < (n : Int) := by omega
              by_cases hst1 : c < xs[k]'(by omega) - xs[k - 1]'(by omega)
              · have Hst : Hid (stepAt xs c k = true) := (stepAt_iff hk0 (by omega)).2 (by unfold apart; split <;> omega)
                have Hc := Lib.hid (codeAt_2 (u := ⟨a, b, c, (D : Int), f⟩) Hin.out Hst.out)
                go_wp2_with (go_at_call 90; refine (l01In_any _ _ _ _).mono ?_; rintro e w' ⟨rfl, rfl⟩)
                go_quiet (fail)
                go_wp2
                go_ret2
                have HF := Lib.hid (firstBreach_at Hok1.out Hok2.out (k := k) (by omega) Hall.out (by rw [Hc.out]; decide))
                exact ⟨ret2_int (by rw [HF.out]) (by rw [HF.out, Hc.out]), hx.trans (hBr.drewN _)⟩
              · have hst1b : decide (c < xs[k]'(by omega) - xs[k - 1]'(by omega)) = false := by simpa using hst1
                by_cases hst2 : c < xs[k - 1]'(by omega) - xs[k]'(by omega)
                · have Hst : Hid (stepAt xs c k = true) := (stepAt_iff hk0 (by omega)).2 (by unfold apart; split <;> omega)
                  have Hc := Lib.hid (codeAt_2 (u := ⟨a, b, c, (D : Int), f⟩) Hin.out Hst.out)
                  go_wp2_with (go_at_call 90; refine (l01In_any _ _ _ _).mono ?_; rintro e w' ⟨rfl, rfl⟩)
                  go_quiet (fail)
                  go_wp2
                  go_ret2
                  have HF := Lib.hid (firstBreach_at Hok1.out Hok2.out (k := k) (by omega) Hall.out (by rw [Hc.out]; decide))
                  exact ⟨ret2_int (by rw [HF.out]) (by rw [HF.out, Hc.out]), hx.trans (hBr.drewN _)⟩
                · have Hst : Hid (stepAt xs c k = false) := by
                    unfold Hid
                    rw [Bool.eq_false_iff, ne_eq, stepAt_iff hk0 (by omega)]
                    unfold apart; split <;> omega
                  go_wp2_with (go_at_call 90; refine (l01In_any _ _ _ _).mono ?_; rintro e w' ⟨rfl, rfl⟩)
                  go_quiet (fail)
                  have hc2 := fun o => (hBr.drewN 1).use.1 w.heap.size o (by simp <;> omega)
                  go_wp2_with fail
                  refine (l19Mean_any _ _ _ _ D k _ _ _ xs _ hn (by exact hr3) hnc Hcc.out Hok2.out hD1 hD2 (by omega)).mono ?_
                  rintro e w2 ⟨rfl, hx2⟩
                  cases hdr : drifts xs D f k with
                  | true =>
                    have Hc := Lib.hid (codeAt_3 (u := ⟨a, b, c, (D : Int), f⟩) Hin.out Hst.out (by rw [Int.toNat_natCast]; exact hdr))
                    clear hdr
                    go_wp2
                    go_ret2
                    have HF := Lib.hid (firstBreach_at Hok1.out Hok2.out (k := k) (by omega) Hall.out (by rw [Hc.out]; decide))
                    exact ⟨ret2_int (by rw [HF.out]) (by rw [HF.out, Hc.out]), hx.trans (Ext.trans (by first | exact hBr | exact hBr.drewN _) hx2)⟩
                  | false =>
                    have Hc : Hid (fineAt ⟨a, b, c, (D : Int), f⟩ xs k = true) := by
                      unfold Hid fineAt; rw [codeAt_0 (u := ⟨a, b, c, (D : Int), f⟩) Hin.out Hst.out (by rw [Int.toNat_natCast]; exact hdr)]; rfl
                    clear hdr
                    go_wp2
                    go_roundw
                    case rel => exact ⟨k + 1, by omega, by go_num, Ext.trans (by first | exact hBr | exact hBr.drewN _) hx2, by rw [allN, Hall.out, Hc.out]; rfl⟩
                    case measure => simp [intOf]; omega
            · have hk0b : decide ((0 : Int) < (k : Int)) = false := by simp; omega
              have Hst := Lib.hid (stepAt_zero (xs := xs) (S := c) (show k = 0 by omega))
              go_wp2_with (go_at_call 90; refine (l01In_any _ _ _ _).mono ?_; rintro e w' ⟨rfl, rfl⟩)
              go_quiet (fail)
              have hc2 := fun o => (hBr.drewN 1).use.1 w.heap.size o (by simp <;> omega)
              go_wp2_with fail
              refine (l19Mean_any _ _ _ _ D k _ _ _ xs _ hn (by exact hr3) hnc Hcc.out Hok2.out hD1 hD2 (by omega)).mono ?_
              rintro e w2 ⟨rfl, hx2⟩
              cases hdr : drifts xs D f k with
              | true =>
                have Hc := Lib.hid (codeAt_3 (u := ⟨a, b, c, (D : Int), f⟩) Hin.out Hst.out (by rw [Int.toNat_natCast]; exact hdr))
                clear hdr
                go_wp2
                go_ret2
                have HF := Lib.hid (firstBreach_at Hok1.out Hok2.out (k := k) (by omega) Hall.out (by rw [Hc.out]; decide))
                exact ⟨ret2_int (by rw [HF.out]) (by rw [HF.out, Hc.out]), hx.trans (Ext.trans (by first | exact hBr | exact hBr.drewN _) hx2)⟩
              | false =>
                have Hc : Hid (fineAt ⟨a, b, c, (D : Int), f⟩ xs k = true) := by
                  unfold Hid fineAt; rw [codeAt_0 (u := ⟨a, b, c, (D : Int), f⟩) Hin.out Hst.out (by rw [Int.toNat_natCast]; exact hdr)]; rfl
                clear hdr
                go_wp2
                go_roundw
                case rel => exact ⟨k + 1, by omega, by go_num, Ext.trans (by first | exact hBr | exact hBr.drewN _) hx2, by rw [allN, Hall.out, Hc.out]; rfl⟩
                case measure => simp [intOf]; omega
          · have hin' : inR (xs[k]'(by omega)) a b = false := by simpa using hin
            have Hc := Lib.hid (codeAt_1 (u := ⟨a, b, c, (D : Int), f⟩) (xs := xs) (i := k) (by rw [num_at (show k < xs.length by omega)]; exact hin'))
            clear hin
            go_wp2_with (go_at_call 90; refine (l01In_any _ _ _ _).mono ?_; rintro e w' ⟨rfl, rfl⟩)
            go_ret2
            have HF := Lib.hid (firstBreach_at Hok1.out Hok2.out (k := k) (by omega) Hall.out (by rw [Hc.out]; decide))
            exact ⟨ret2_int (by rw [HF.out]) (by rw [HF.out, Hc.out]), hx.trans hBr⟩
        · have H := Lib.hid (firstBreach_none Hok1.out Hok2.out (by rw [hn, ← show k = n from by omega]; exact Hall.out))
          go_wp2
          go_ret2
          exact ⟨ret2_int (by rw [H.out]) (by rw [H.out]), hx.trans hBr⟩
    · have H := Lib.hid (firstBreach_bad (u := ⟨a, b, c, d, f⟩) (xs := xs) (fun h => hok2 h.2))
      have Hok1 := Lib.hid hok1
      have hok2' : seriesOk xs = false := by simpa using hok2
      have Hok2 := Lib.hid hok2'
      clear hok1 hok2 hok2'
      go_enter Tryd.func68, Tryd.ntmps68
      go_wp2_with fail
      refine (specRuleOk_any _ _ _ _ _ _).mono ?_
      rintro e w1 ⟨rfl, hx1⟩
      rw [Hok1.out]
      go_wp2_with fail
      refine (specSeriesOk_any _ _ _ xs _ hn (hr2.ext hx1) (by have := Hcc.out; unfold maxLen at *; omega)).mono ?_
      rintro e w' ⟨rfl, rfl⟩
      rw [Hok2.out]
      go_wp2
      go_ret2
      exact ⟨ret2_int (by rw [H.out]) (by rw [H.out]), hx.trans hx1⟩
  · have H := Lib.hid (firstBreach_bad (u := ⟨a, b, c, d, f⟩) (xs := xs) (fun h => hok1 h.1))
    have hok1' : ruleOk ⟨a, b, c, d, f⟩ = false := by simpa using hok1
    have Hok1 := Lib.hid hok1'
    clear hok1 hok1'
    go_enter Tryd.func68, Tryd.ntmps68
    go_wp2_with fail
    refine (specRuleOk_any _ _ _ _ _ _).mono ?_
    rintro e w1 ⟨rfl, hx1⟩
    rw [Hok1.out]
    go_wp2
    go_ret2
    exact ⟨ret2_int (by rw [H.out]) (by rw [H.out]), hx.trans hx1⟩
end Go.Proofs.YtbbkahnfnjlajaaDoor
