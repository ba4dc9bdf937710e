/- Contracts of AdmitAt of both. (written by tools/mkAa.py) -/
import Derived.Test.YtbbdipfioopfmaaGreatAn
import Derived.Test.YtbbdipfioopfmaaGreatRf
namespace Go.Proofs.YtbbdipfioopfmaaGreat
open Go.ChangeShapes Go.WideShapes Go.ChangeAt Go.RowKit
set_option linter.unusedVariables false
set_option maxRecDepth 100000

/-- the inputs admitted at a valid state of a valid room -/
def admAtR (r : Room) (ps : List Half) (s : Spot) : Span × Bool := if (erodeR ps r.Noise).2 = true ∧ (erodeR ps r.Noise).1 ≠ [] ∧ s.D ≤ 100000 then admitR (dynOf r) (erodeR ps r.Noise).1 s else (zeroSpan, false)
theorem admAt_no {r : Room} {ps : List Half} {s : Spot} (h : ¬ ((erodeR ps r.Noise).2 = true ∧ (erodeR ps r.Noise).1 ≠ [] ∧ s.D ≤ 100000)) : admAtR r ps s = (zeroSpan, false) := if_neg h
theorem admAt_yes {r : Room} {ps : List Half} {s : Spot} (h : (erodeR ps r.Noise).2 = true ∧ (erodeR ps r.Noise).1 ≠ [] ∧ s.D ≤ 100000) : admAtR r ps s = admitR (dynOf r) (erodeR ps r.Noise).1 s := if_pos h
theorem spot_I64 {s : Spot} (h : spotOk s = true) : I64 s.X ∧ I64 s.Y ∧ I64 s.D ∧ 1 ≤ s.D := by
  have h' := h
  unfold spotOk inR at h'
  simp only [Bool.and_eq_true, decide_eq_true_eq] at h'
  unfold I64
  omega
theorem admit_span {r : Dyn} {hs : List Half} {s : Spot} (h : (admitR r hs s).2 = true) : spanOk (admitR r hs s).1 = true := by
  unfold admitR at h ⊢
  split at h
  · split at h
    · rename_i w hw hk
      rw [if_pos hk]
      exact hk
    · cases h
  · cases h
theorem admAt_span {r : Room} {ps : List Half} {s : Spot} (h : (admAtR r ps s).2 = true) : spanOk (admAtR r ps s).1 = true := by
  unfold admAtR at h ⊢
  split at h
  · rename_i hc
    rw [if_pos hc]
    exact admit_span h
  · cases h
set_option maxHeartbeats 4000000 in
theorem implAdmit_big (r : Room) (A0 A6 A7 : Option Addr) (c0 c6 c7 : Nat) (A : Option Addr) (n c : Nat) (s : Spot) (w : World) (h : 100000 < s.D) :
    Calls Tryz.prog 65 #[.agg #[.slice A0 r.Map.length c0, .int .i64 r.Div, .int .i64 r.Bx, .int .i64 r.By, .int .i64 r.Low, .int .i64 r.High, .slice A6 r.Noise.length c6, .slice A7 r.Limits.length c7], .agg #[.slice A n c], .agg #[.int .i64 s.X, .int .i64 s.Y, .int .i64 s.D]] w (SpanMade (zeroSpan, false) w) := by
  have hx : Ext w ((((w.alloc (.cells #[.slice A0 r.Map.length c0, .int .i64 r.Div, .int .i64 r.Bx, .int .i64 r.By, .int .i64 r.Low, .int .i64 r.High, .slice A6 r.Noise.length c6, .slice A7 r.Limits.length c7] 44)).alloc (.cells #[.slice A n c] 42)).alloc (.cells #[.int .i64 s.X, .int .i64 s.Y, .int .i64 s.D] 47)).alloc (.cells #[.int .i64 0, .int .i64 0, .int .i64 0, .int .i64 0] 89)) := ((((Ext.refl w).alloc _).alloc _).alloc _).alloc _
  have bM := (((Blk.new w 44 #[.slice A0 r.Map.length c0, .int .i64 r.Div, .int .i64 r.Bx, .int .i64 r.By, .int .i64 r.Low, .int .i64 r.High, .slice A6 r.Noise.length c6, .slice A7 r.Limits.length c7]).alloc (.cells #[.slice A n c] 42)).alloc (.cells #[.int .i64 s.X, .int .i64 s.Y, .int .i64 s.D] 47)).alloc (.cells #[.int .i64 0, .int .i64 0, .int .i64 0, .int .i64 0] 89)
  have bP := ((Blk.new (w.alloc (.cells #[.slice A0 r.Map.length c0, .int .i64 r.Div, .int .i64 r.Bx, .int .i64 r.By, .int .i64 r.Low, .int .i64 r.High, .slice A6 r.Noise.length c6, .slice A7 r.Limits.length c7] 44)) 42 #[.slice A n c]).alloc (.cells #[.int .i64 s.X, .int .i64 s.Y, .int .i64 s.D] 47)).alloc (.cells #[.int .i64 0, .int .i64 0, .int .i64 0, .int .i64 0] 89)
  have bS := (Blk.new ((w.alloc (.cells #[.slice A0 r.Map.length c0, .int .i64 r.Div, .int .i64 r.Bx, .int .i64 r.By, .int .i64 r.Low, .int .i64 r.High, .slice A6 r.Noise.length c6, .slice A7 r.Limits.length c7] 44)).alloc (.cells #[.slice A n c] 42)) 47 #[.int .i64 s.X, .int .i64 s.Y, .int .i64 s.D]).alloc (.cells #[.int .i64 0, .int .i64 0, .int .i64 0, .int .i64 0] 89)
  have bR := Blk.new (((w.alloc (.cells #[.slice A0 r.Map.length c0, .int .i64 r.Div, .int .i64 r.Bx, .int .i64 r.By, .int .i64 r.Low, .int .i64 r.High, .slice A6 r.Noise.length c6, .slice A7 r.Limits.length c7] 44)).alloc (.cells #[.slice A n c] 42)).alloc (.cells #[.int .i64 s.X, .int .i64 s.Y, .int .i64 s.D] 47)) 89 #[.int .i64 0, .int .i64 0, .int .i64 0, .int .i64 0]
  simp only [World.size_alloc] at bP bS bR
  have hb : decide (100000 < s.D) = true := decide_eq_true h
  have cS := fun o => bS.cell o
  have cR := fun o => bR.cell o
  have fR := fun o => bR.frozen o
  go_enter Tryz.func65, Tryz.ntmps65
  go_wp2
  refine bodyPost_ret (v := .tuple #[.agg #[.int .i64 0, .int .i64 0, .int .i64 0, .int .i64 0], .bool false]) (by simp [results, Tryz.results65, go_sem]) rfl ?_
  exact ⟨rfl, hx⟩
set_option maxHeartbeats 8000000 in
theorem specAdmitAt_ok (r : Room) (A0 A6 A7 : Option Addr) (c0 c6 c7 : Nat) (A : Option Addr) (n c : Nat) (ps : List Half) (s : Spot) (w : World) (hv : RoomV r) (ha : RoomHere w r A0 A6 A7 c0 c6 c7) (hn : ps.length = n) (hr : Row w A (ints (flat Half.ints ps))) (hA : A = none → n = 0 ∧ c = 0) (hpk : regOk ps = true) (hsk : spotOk s = true) :
    Calls Tryz.prog 54 #[.agg #[.slice A0 r.Map.length c0, .int .i64 r.Div, .int .i64 r.Bx, .int .i64 r.By, .int .i64 r.Low, .int .i64 r.High, .slice A6 r.Noise.length c6, .slice A7 r.Limits.length c7], .agg #[.slice A n c], .agg #[.int .i64 s.X, .int .i64 s.Y, .int .i64 s.D]] w (SpanMade (admAtR r ps s) w) := by
  obtain ⟨s1, s2, s3, s4⟩ := spot_I64 hsk
  have HRo := Lib.hid (fun w ha hr => specRobustPart_ok r A0 A6 A7 c0 c6 c7 A n c ps w hv ha hn hr hA hpk)
  have HO := Lib.hid (fun w hr => specRegionOk_any A n c ps w hn hr hA (halves_I (regOk_all hpk)) (by have := regOk_len hpk; unfold maxLen; omega))
  rw [hpk] at HO
  have HSk := Lib.hid (fun w => specSpotOk_any s.X s.Y s.D w s1 s2 s3)
  have hsk' : spotOk ⟨s.X, s.Y, s.D⟩ = true := hsk
  rw [hsk'] at HSk
  have HV := Lib.hid (fun A n c w h => specIsVoid_any A n c w h)
  have HAd := Lib.hid (fun A n c E w ha hn hr hE hle hs => specAdmit_ok r A0 A6 A7 c0 c6 c7 A n c E s w hv ha hn hr hE hle hs)
  have HSs : Hid (s.D ≤ 100000 → SpotS s) := fun h => spotS_of hsk h
  have HEk : Hid (regOk (erodeR ps r.Noise).1 = true) := erodeR_ok _ _
  have HNo := Lib.hid (fun h => admAt_no (r := r) (ps := ps) (s := s) h)
  have HYes := Lib.hid (fun h => admAt_yes (r := r) (ps := ps) (s := s) h)
  have hx : Ext w ((((w.alloc (.cells #[.slice A0 r.Map.length c0, .int .i64 r.Div, .int .i64 r.Bx, .int .i64 r.By, .int .i64 r.Low, .int .i64 r.High, .slice A6 r.Noise.length c6, .slice A7 r.Limits.length c7] 44)).alloc (.cells #[.slice A n c] 42)).alloc (.cells #[.int .i64 s.X, .int .i64 s.Y, .int .i64 s.D] 47)).alloc (.cells #[.int .i64 0, .int .i64 0, .int .i64 0, .int .i64 0] 89)) := ((((Ext.refl w).alloc _).alloc _).alloc _).alloc _
  have bM := (((Blk.new w 44 #[.slice A0 r.Map.length c0, .int .i64 r.Div, .int .i64 r.Bx, .int .i64 r.By, .int .i64 r.Low, .int .i64 r.High, .slice A6 r.Noise.length c6, .slice A7 r.Limits.length c7]).alloc (.cells #[.slice A n c] 42)).alloc (.cells #[.int .i64 s.X, .int .i64 s.Y, .int .i64 s.D] 47)).alloc (.cells #[.int .i64 0, .int .i64 0, .int .i64 0, .int .i64 0] 89)
  have bP := ((Blk.new (w.alloc (.cells #[.slice A0 r.Map.length c0, .int .i64 r.Div, .int .i64 r.Bx, .int .i64 r.By, .int .i64 r.Low, .int .i64 r.High, .slice A6 r.Noise.length c6, .slice A7 r.Limits.length c7] 44)) 42 #[.slice A n c]).alloc (.cells #[.int .i64 s.X, .int .i64 s.Y, .int .i64 s.D] 47)).alloc (.cells #[.int .i64 0, .int .i64 0, .int .i64 0, .int .i64 0] 89)
  have bS := (Blk.new ((w.alloc (.cells #[.slice A0 r.Map.length c0, .int .i64 r.Div, .int .i64 r.Bx, .int .i64 r.By, .int .i64 r.Low, .int .i64 r.High, .slice A6 r.Noise.length c6, .slice A7 r.Limits.length c7] 44)).alloc (.cells #[.slice A n c] 42)) 47 #[.int .i64 s.X, .int .i64 s.Y, .int .i64 s.D]).alloc (.cells #[.int .i64 0, .int .i64 0, .int .i64 0, .int .i64 0] 89)
  have bR := Blk.new (((w.alloc (.cells #[.slice A0 r.Map.length c0, .int .i64 r.Div, .int .i64 r.Bx, .int .i64 r.By, .int .i64 r.Low, .int .i64 r.High, .slice A6 r.Noise.length c6, .slice A7 r.Limits.length c7] 44)).alloc (.cells #[.slice A n c] 42)).alloc (.cells #[.int .i64 s.X, .int .i64 s.Y, .int .i64 s.D] 47)) 89 #[.int .i64 0, .int .i64 0, .int .i64 0, .int .i64 0]
  simp only [World.size_alloc] at bP bS bR
  have HR := Lib.hid hr
  have HA := Lib.hid ha
  clear hv ha hn hr hpk hA s1 s2 s3 s4 hsk hsk'
  generalize admAtR r ps s = AR at *
  generalize erodeR ps r.Noise = ER at *
  have cbM_28 := fun o => bM.cell o
  have cbP_29 := fun o => bP.cell o
  have cbS_30 := fun o => bS.cell o
  have cbR_31 := fun o => bR.cell o
  have fbR_31 := fun o => bR.frozen o
  go_enter Tryz.func54, Tryz.ntmps54
  go_wp2_with fail
  refine (HO.out _ (HR.out.ext hx)).mono ?_
  rintro e w1 ⟨rfl, hx1⟩
  replace hx := hx.trans hx1
  replace bM := bM.ext hx1
  replace bP := bP.ext hx1
  replace bS := bS.ext hx1
  replace bR := bR.ext hx1
  have cbM_32 := fun o => bM.cell o
  have cbP_33 := fun o => bP.cell o
  have cbS_34 := fun o => bS.cell o
  have cbR_35 := fun o => bR.cell o
  have fbR_35 := fun o => bR.frozen o
  go_wp2_with fail
  refine (HSk.out _).mono ?_
  rintro e w2 ⟨rfl, hx2⟩
  replace hx := hx.trans hx2
  replace bM := bM.ext hx2
  replace bP := bP.ext hx2
  replace bS := bS.ext hx2
  replace bR := bR.ext hx2
  have cbM_36 := fun o => bM.cell o
  have cbP_37 := fun o => bP.cell o
  have cbS_38 := fun o => bS.cell o
  have cbR_39 := fun o => bR.cell o
  have fbR_39 := fun o => bR.frozen o
  by_cases hD : 100000 < s.D
  · have hb : decide (100000 < s.D) = true := decide_eq_true hD
    have H := Lib.hid (HNo.out (fun h => by have := h.2.2; omega))
    go_wp2
    have bF := ((((bR.set_ 0 (.int .i64 0)).set_ 1 (.int .i64 0)).set_ 2 (.int .i64 0)).set_ 3 (.int .i64 0))
    have cF := fun o => bF.cell o
    refine bodyPost_ret (v := .tuple #[.agg #[.int .i64 0, .int .i64 0, .int .i64 0, .int .i64 0], .bool false]) (by simp [results, Tryz.results54, go_sem, cF]) rfl ?_
    exact ⟨by rw [H.out]; rfl, ext_set4 hx (by omega) _ _ _ _⟩
  have hb : decide (100000 < s.D) = false := decide_eq_false hD
  have hSS := Lib.hid (HSs.out (by omega))
  have hD' : s.D ≤ 100000 := by omega
  go_wp2_with fail
  refine (HRo.out _ (HA.out.ext hx) (HR.out.ext hx)).mono ?_
  rintro e w3 ⟨A1, c1, n1, rfl, hn1, hx3, hown1⟩
  replace hx := hx.trans hx3
  replace bM := bM.ext hx3
  replace bP := bP.ext hx3
  replace bS := bS.ext hx3
  replace bR := bR.ext hx3
  have cbM_40 := fun o => bM.cell o
  have cbP_41 := fun o => bP.cell o
  have cbS_42 := fun o => bS.cell o
  have cbR_43 := fun o => bR.cell o
  have fbR_43 := fun o => bR.frozen o
  have hs1 := bR.lt
  obtain ⟨E, ok⟩ := ER
  dsimp only at *
  subst hn1
  have bE := Blk.new w3 42 #[.slice A1 E.length c1]
  have bR0 := bR
  have hx0 := hx
  have ha3 := (Ext.refl w3).alloc (.cells #[.slice A1 E.length c1] 42)
  replace hx := hx.trans ha3
  replace bM := bM.ext ha3
  replace bP := bP.ext ha3
  replace bS := bS.ext ha3
  replace bR := bR.ext ha3
  have cbM_44 := fun o => bM.cell o
  have cbP_45 := fun o => bP.cell o
  have cbS_46 := fun o => bS.cell o
  have cbR_47 := fun o => bR.cell o
  have fbR_47 := fun o => bR.frozen o
  replace hown1 := own_ext hown1 ha3
  have cE := fun o => bE.cell o
  cases ok
  · have H := Lib.hid (HNo.out (fun h => by cases h.1))
    go_wp2
    have bF := ((((bR0.set_ 0 (.int .i64 0)).set_ 1 (.int .i64 0)).set_ 2 (.int .i64 0)).set_ 3 (.int .i64 0)).alloc (.cells #[.slice A1 E.length c1] 42)
    have cF := fun o => bF.cell o
    refine bodyPost_ret (v := .tuple #[.agg #[.int .i64 0, .int .i64 0, .int .i64 0, .int .i64 0], .bool false]) (by simp [results, Tryz.results54, go_sem, cF]) rfl ?_
    exact ⟨by rw [H.out]; rfl, (ext_set4 hx0 (by omega) _ _ _ _).alloc _⟩
  have hEl := regOk_len HEk.out
  go_wp2_with fail
  refine (HV.out A1 E.length c1 _ (by unfold maxLen; omega)).mono ?_
  rintro e w4 ⟨rfl, hx4⟩
  replace hx := hx.trans hx4
  replace bM := bM.ext hx4
  replace bP := bP.ext hx4
  replace bS := bS.ext hx4
  replace bR := bR.ext hx4
  replace bE := bE.ext hx4
  have cbM_48 := fun o => bM.cell o
  have cbP_49 := fun o => bP.cell o
  have cbS_50 := fun o => bS.cell o
  have cbR_51 := fun o => bR.cell o
  have fbR_51 := fun o => bR.frozen o
  have cbE_52 := fun o => bE.cell o
  by_cases h0 : E.length = 0
  · have hb0 : decide (E.length = 0) = true := decide_eq_true h0
    have H := Lib.hid (HNo.out (fun h => h.2.1 (List.length_eq_zero_iff.1 h0)))
    rw [hb0]
    clear h0 hb0
    go_wp2
    have bF := ((((bR.set_ 0 (.int .i64 0)).set_ 1 (.int .i64 0)).set_ 2 (.int .i64 0)).set_ 3 (.int .i64 0))
    have cF := fun o => bF.cell o
    refine bodyPost_ret (v := .tuple #[.agg #[.int .i64 0, .int .i64 0, .int .i64 0, .int .i64 0], .bool false]) (by simp [results, Tryz.results54, go_sem, cF]) rfl ?_
    exact ⟨by rw [H.out]; rfl, ext_set4 hx (by omega) _ _ _ _⟩
  have hb0 : decide (E.length = 0) = false := decide_eq_false h0
  have H := Lib.hid (HYes.out ⟨by first | rfl | trivial, fun e => h0 (by rw [e]; rfl), hD'⟩)
  rw [hb0]
  clear h0 hb0
  go_wp2_with fail
  refine (HAd.out A1 E.length c1 E _ (HA.out.ext hx) rfl ((Row.of_own hown1).ext hx4) (regOk_all HEk.out) hEl hSS.out).mono ?_
  rintro e w5 ⟨rfl, hx5⟩
  have hs3 := bR.lt
  replace hx := hx.trans hx5
  replace bM := bM.ext hx5
  replace bP := bP.ext hx5
  replace bS := bS.ext hx5
  replace bR := bR.ext hx5
  replace bE := bE.ext hx5
  have cbM_53 := fun o => bM.cell o
  have cbP_54 := fun o => bP.cell o
  have cbS_55 := fun o => bS.cell o
  have cbR_56 := fun o => bR.cell o
  have fbR_56 := fun o => bR.frozen o
  have cbE_57 := fun o => bE.cell o
  rw [← H.out]
  obtain ⟨⟨⟨ln, ld⟩, ⟨hn_, hd_⟩⟩, ok⟩ := AR
  dsimp only
  go_wp2
  have bF := (((bR.set_ 0 (.int .i64 ln)).set_ 1 (.int .i64 ld)).set_ 2 (.int .i64 hn_)).set_ 3 (.int .i64 hd_)
  have cF := fun o => bF.cell o
  refine bodyPost_ret (v := .tuple #[.agg #[.int .i64 ln, .int .i64 ld, .int .i64 hn_, .int .i64 hd_], .bool ok]) (by simp [results, Tryz.results54, go_sem, cF]) rfl ?_
  exact ⟨rfl, ext_set4 hx (by omega) _ _ _ _⟩
end Go.Proofs.YtbbdipfioopfmaaGreat
