/- Contracts of the helpers on Track: copies, comparisons, sizes, marks. (written by tools/structs.py) -/
import Derived.Test.YtlgkfjhbimffiaaDoorMs
namespace Go.Proofs.YtlgkfjhbimffiaaDoor
open Go.ChangeShapes Go.WideShapes Go.ChangeAt Go.RowKit
set_option linter.unusedVariables false
set_option maxRecDepth 100000

structure Track where
  Spots : List Spot
  Inputs : List Ratio
def trackF (r : Track) : List Fd := [spotF r.Spots, ratioF r.Inputs]
theorem trackF_len (r : Track) : lenF (trackF r) = [r.Spots.length, r.Inputs.length] := rfl
def trackFI (r : Track) : Prop := (∀ x ∈ r.Spots, ∀ z ∈ Spot.ints x, I64 z) ∧ (∀ x ∈ r.Inputs, ∀ z ∈ Ratio.ints x, I64 z)
theorem trackF_open {w : World} {vs : List Value} (h : KdAll Tryd.prog w [.s 128, .s 130] vs) : ∃ r : Track, AggRow w (trackF r) vs ∧ trackFI r := by
  obtain ⟨_, _, rfl, ⟨A0, n0, c0, zs0, rfl, hl0, hr0, hn0, hm0, hz0⟩, _, _, rfl, ⟨A1, n1, c1, zs1, rfl, hl1, hr1, hn1, hm1, hz1⟩, rfl⟩ := h
  rw [(by kernel_rfl : Tryd.prog.cellsOf 128 = 3)] at hl0
  obtain ⟨xs0, hll0, rfl⟩ := unflat Spot.unints n0 zs0 hl0
  subst hll0
  rw [(by kernel_rfl : Tryd.prog.cellsOf 130 = 2)] at hl1
  obtain ⟨xs1, hll1, rfl⟩ := unflat Ratio.unints n1 zs1 hl1
  subst hll1
  exact ⟨⟨xs0, xs1⟩, ⟨_, _, _, rfl, hr0, hn0, hm0, _, _, _, rfl, hr1, hn1, hm1, rfl⟩, ⟨(fun x hx z hz => hz0 z (by unfold flat; exact List.mem_flatMap.2 ⟨x, hx, hz⟩)), (fun x hx z hz => hz1 z (by unfold flat; exact List.mem_flatMap.2 ⟨x, hx, hz⟩))⟩⟩
set_option maxHeartbeats 4000000 in
theorem toTrack_m (r : Track) (vs : List Value) (w : World) (h : AggRow w (trackF r) vs) (hb : ∀ n ∈ lenF (trackF r), n ≤ 1048576) :
    Calls Tryd.prog 20 #[.agg vs.toArray] w fun e w' => ∃ us, e = .returned (.agg us.toArray) ∧ AggAt w' (trackF r) us w.heap.size w'.heap.size ∧ Ext w w' := by
  rw [trackF_len] at hb
  obtain ⟨A0, c0, _, rfl, r0, n0, m0, A1, c1, _, rfl, r1, n1, m1, rfl⟩ := h
  have b0 : r.Spots.length ≤ 1048576 := hb _ (by simp)
  have b1 : r.Inputs.length ≤ 1048576 := hb _ (by simp)
  have hy : Ext w (((w.alloc (.cells #[.slice A0 r.Spots.length c0, .slice A1 r.Inputs.length c1] 38)).alloc (.cells #[.slice none 0 0, .slice none 0 0] 44)).alloc (.cells #[.slice none 0 0, .slice none 0 0] 44)) := (((Ext.refl w).alloc _).alloc _).alloc _
  have bP : Blk (((w.alloc (.cells #[.slice A0 r.Spots.length c0, .slice A1 r.Inputs.length c1] 38)).alloc (.cells #[.slice none 0 0, .slice none 0 0] 44)).alloc (.cells #[.slice none 0 0, .slice none 0 0] 44)) w.heap.size 38 #[.slice A0 r.Spots.length c0, .slice A1 r.Inputs.length c1] := ((Blk.new w _ _).alloc _).alloc _
  have bR : Blk (((w.alloc (.cells #[.slice A0 r.Spots.length c0, .slice A1 r.Inputs.length c1] 38)).alloc (.cells #[.slice none 0 0, .slice none 0 0] 44)).alloc (.cells #[.slice none 0 0, .slice none 0 0] 44)) (w.heap.size + 1) 44 #[.slice none 0 0, .slice none 0 0] := by
    have := (Blk.new (w.alloc (.cells #[.slice A0 r.Spots.length c0, .slice A1 r.Inputs.length c1] 38)) 44 #[.slice none 0 0, .slice none 0 0]).alloc (.cells #[.slice none 0 0, .slice none 0 0] 44)
    simpa only [World.size_alloc] using this
  have bO : Blk (((w.alloc (.cells #[.slice A0 r.Spots.length c0, .slice A1 r.Inputs.length c1] 38)).alloc (.cells #[.slice none 0 0, .slice none 0 0] 44)).alloc (.cells #[.slice none 0 0, .slice none 0 0] 44)) (w.heap.size + 2) 44 #[.slice none 0 0, .slice none 0 0] := by
    have := Blk.new ((w.alloc (.cells #[.slice A0 r.Spots.length c0, .slice A1 r.Inputs.length c1] 38)).alloc (.cells #[.slice none 0 0, .slice none 0 0] 44)) 44 #[.slice none 0 0, .slice none 0 0]
    simpa only [World.size_alloc] using this
  have cP := fun o => bP.cell o
  have fP := fun o => bP.frozen o
  have cR := fun o => bR.cell o
  have fR := fun o => bR.frozen o
  have cO := fun o => bO.cell o
  have fO := fun o => bO.frozen o
  go_enter Tryd.func20, Tryd.ntmps20
  go_wp2_with fail
  refine (toSpotS_m _ _ _ r.Spots _ rfl (r0.ext (hy)) b0).mono ?_
  rintro e w1 ⟨g0, rfl, o0, hx1⟩
  have hz1 : w.heap.size + 3 ≤ w1.heap.size := by have := Ext.size hx1; simp at this; omega
  replace hy := Ext.trans (hy) hx1
  replace bP := Blk.ext (bP) hx1
  replace bR := Blk.ext (bR) hx1
  replace bO : Blk w1 (w.heap.size + 2) 44 #[.slice none 0 0, .slice none 0 0] := Blk.ext (bO) hx1
  have cP1 := fun o => bP.cell o
  have fP1 := fun o => bP.frozen o
  have cR1 := fun o => bR.cell o
  have fR1 := fun o => bR.frozen o
  have cO1 := fun o => bO.cell o
  have fO1 := fun o => bO.frozen o
  go_wp2_with fail
  refine (toRatioS_m _ _ _ r.Inputs _ rfl (r1.ext (hy |>.setCell (by simp <;> omega) _)) b1).mono ?_
  rintro e w2 ⟨g1, rfl, o1, hx2⟩
  have hz2 : w1.heap.size ≤ w2.heap.size := by have := Ext.size hx2; simp at this; omega
  replace hy := Ext.trans (hy |>.setCell (by simp <;> omega) _) hx2
  replace bP := Blk.ext (bP |>.far (by simp <;> omega) _) hx2
  replace bR := Blk.ext (bR |>.far (by simp <;> omega) _) hx2
  replace bO : Blk w2 (w.heap.size + 2) 44 #[.slice (some ⟨g0, 0, none⟩) r.Spots.length r.Spots.length, .slice none 0 0] := Blk.ext (bO |>.set_ 0 (.slice (some ⟨g0, 0, none⟩) r.Spots.length r.Spots.length)) hx2
  replace o0 := Mine.ext (o0 |>.setB (.inl (by simp <;> omega)) _) hx2
  have cP2 := fun o => bP.cell o
  have fP2 := fun o => bP.frozen o
  have cR2 := fun o => bR.cell o
  have fR2 := fun o => bR.frozen o
  have cO2 := fun o => bO.cell o
  have fO2 := fun o => bO.frozen o
  go_wp2
  refine bodyPost_ret (v := .agg #[.slice (some ⟨g0, 0, none⟩) r.Spots.length r.Spots.length, .slice (some ⟨g1, 0, none⟩) r.Inputs.length r.Inputs.length]) (by simp [results, Tryd.results20, go_sem, cR2]) rfl ⟨[.slice (some ⟨g0, 0, none⟩) r.Spots.length r.Spots.length, .slice (some ⟨g1, 0, none⟩) r.Inputs.length r.Inputs.length], rfl, ?_, ?_⟩
  · exact ⟨_, _, _, w1.heap.size, rfl, Mine.wide (o0 |>.setB (.inl (by simp <;> omega)) _ |>.setB (.inl (by simp <;> omega)) _ |>.setB (.inl (by simp <;> omega)) _) (by simp <;> omega) (Nat.le_refl _), by omega, _, _, _, w2.heap.size, rfl, Mine.wide (o1 |>.setB (.inl (by simp <;> omega)) _ |>.setB (.inl (by simp <;> omega)) _ |>.setB (.inl (by simp <;> omega)) _) (by simp <;> omega) (Nat.le_refl _), by omega, rfl, by simp⟩
  · exact (hy |>.setCell (by simp <;> omega) _ |>.setCell (by simp <;> omega) _ |>.setCell (by simp <;> omega) _)
set_option maxHeartbeats 1000000 in
theorem szTrack_m (r : Track) (vs : List Value) (left : Int) (w : World) (h : AggRow w (trackF r) vs) (h0 : 0 ≤ left) (hl : left ≤ 1048576) :
    Calls Tryd.prog 18 #[.agg vs.toArray, .int .i64 left] w fun e w' => e = .returned (.int .i64 (szL (lenF (trackF r)) left)) ∧ Ext w w' := by
  rw [trackF_len]
  obtain ⟨A0, c0, _, rfl, r0, n0, m0, A1, c1, _, rfl, r1, n1, m1, rfl⟩ := h
  have hy : Ext w (w.alloc (.cells #[.slice A0 r.Spots.length c0, .slice A1 r.Inputs.length c1] 38)) := (Ext.refl w).alloc _
  have bP := Blk.new w 38 #[.slice A0 r.Spots.length c0, .slice A1 r.Inputs.length c1]
  go_enter Tryd.func18, Tryd.ntmps18
  have E0 : Hid (szL [r.Spots.length, r.Inputs.length] left = szL ([r.Spots.length] ++ ([r.Inputs.length] ++ [])) left) := rfl
  obtain ⟨l0, hl0⟩ : ∃ l, szL ([r.Spots.length]) left = l := ⟨_, rfl⟩
  replace E0 := Lib.hid (E0.out.trans (szL_app' (a := [r.Spots.length]) (b := [r.Inputs.length] ++ ([])) (by omega) hl0))
  have hbd0 := szL_bd ([r.Spots.length]) left (by omega)
  rw [hl0] at hbd0
  have HL0 := Lib.hid hl0
  clear hl0
  go_wp2_with fail
  refine (szSpotS_any _ _ _ left _ (by omega) (by omega) (Nat.le_trans n0 m0)).mono ?_
  rintro e w' ⟨rfl, rfl⟩
  rw [← szL_one, HL0.out]
  obtain ⟨hp0, hq0⟩ := hbd0
  by_cases hc0 : l0 < 0
  · have E1 := Lib.hid (E0.out.trans (if_pos hc0))
    clear E0
    go_wp2
    go_ret
    exact ⟨ret_int E1.out.symm, hy⟩
  replace E0 := Lib.hid (E0.out.trans (if_neg hc0))
  obtain ⟨l1, hl1⟩ : ∃ l, szL ([r.Inputs.length]) l0 = l := ⟨_, rfl⟩
  replace E0 := Lib.hid (E0.out.trans (szL_app' (a := [r.Inputs.length]) (b := []) (by omega) hl1))
  have hbd1 := szL_bd ([r.Inputs.length]) l0 (by omega)
  rw [hl1] at hbd1
  have HL1 := Lib.hid hl1
  clear hl1
  go_wp2_with fail
  refine (szRatioS_any _ _ _ l0 _ (by omega) (by omega) (Nat.le_trans n1 m1)).mono ?_
  rintro e w' ⟨rfl, rfl⟩
  rw [← szL_one, HL1.out]
  obtain ⟨hp1, hq1⟩ := hbd1
  by_cases hc1 : l1 < 0
  · have E1 := Lib.hid (E0.out.trans (if_pos hc1))
    clear E0
    go_wp2
    go_ret
    exact ⟨ret_int E1.out.symm, hy⟩
  replace E0 := Lib.hid (E0.out.trans (if_neg hc1))
  go_wp2
  go_ret
  exact ⟨ret_int (show szL [r.Spots.length, r.Inputs.length] left = l1 from E0.out).symm, hy⟩
set_option maxHeartbeats 2000000 in
theorem eqTrack_same (r : Track) (us vs : List Value) (w : World) (hu : AggRow w (trackF r) us) (hv : AggRow w (trackF r) vs) :
    Calls Tryd.prog 22 #[.agg us.toArray, .agg vs.toArray] w fun e w' => e = .returned (.bool true) ∧ Ext w w' := by
  obtain ⟨Ax0, cx0, _, rfl, rx0, nx0, mx0, Ax1, cx1, _, rfl, rx1, nx1, mx1, rfl⟩ := hu
  obtain ⟨Ay0, cy0, _, rfl, ry0, ny0, my0, Ay1, cy1, _, rfl, ry1, ny1, my1, rfl⟩ := hv
  have hy : Ext w ((w.alloc (.cells #[.slice Ax0 r.Spots.length cx0, .slice Ax1 r.Inputs.length cx1] 44)).alloc (.cells #[.slice Ay0 r.Spots.length cy0, .slice Ay1 r.Inputs.length cy1] 44)) := ((Ext.refl w).alloc _).alloc _
  have bP := (Blk.new w 44 #[.slice Ax0 r.Spots.length cx0, .slice Ax1 r.Inputs.length cx1]).alloc (.cells #[.slice Ay0 r.Spots.length cy0, .slice Ay1 r.Inputs.length cy1] 44)
  have bQ : Blk ((w.alloc (.cells #[.slice Ax0 r.Spots.length cx0, .slice Ax1 r.Inputs.length cx1] 44)).alloc (.cells #[.slice Ay0 r.Spots.length cy0, .slice Ay1 r.Inputs.length cy1] 44)) (w.heap.size + 1) 44 #[.slice Ay0 r.Spots.length cy0, .slice Ay1 r.Inputs.length cy1] := by
    have := Blk.new (w.alloc (.cells #[.slice Ax0 r.Spots.length cx0, .slice Ax1 r.Inputs.length cx1] 44)) 44 #[.slice Ay0 r.Spots.length cy0, .slice Ay1 r.Inputs.length cy1]
    simpa only [World.size_alloc] using this
  go_enter Tryd.func22, Tryd.ntmps22
  go_wp2_with fail
  refine (eqSpotS_same _ _ _ _ _ r.Spots _ rfl (rx0.ext hy) (ry0.ext hy) (Nat.le_trans nx0 mx0)).mono ?_
  rintro e w1 ⟨rfl, hx1⟩
  replace hy := hy.trans hx1
  replace bP := bP.ext hx1
  replace bQ := bQ.ext hx1
  have cbP_1 := fun o => bP.cell o
  have cbQ_2 := fun o => bQ.cell o
  go_wp2_with fail
  refine (eqRatioS_same _ _ _ _ _ r.Inputs _ rfl (rx1.ext hy) (ry1.ext hy) (Nat.le_trans nx1 mx1)).mono ?_
  rintro e w2 ⟨rfl, hx2⟩
  replace hy := hy.trans hx2
  replace bP := bP.ext hx2
  replace bQ := bQ.ext hx2
  have cbP_3 := fun o => bP.cell o
  have cbQ_4 := fun o => bQ.cell o
  go_wp2
  go_ret
  exact ⟨rfl, hy⟩
set_option maxHeartbeats 2000000 in
theorem markTrack_m (r : Track) (us : List Value) (k0 : Int) (lo hi : Nat) (w : World) (h : AggAt w (trackF r) us lo hi) (h0 : 0 ≤ k0) (h1 : k0 + (cntF (trackF r) : Int) ≤ 1000000000000) (hhi : hi ≤ w.heap.size) :
    Calls Tryd.prog 23 #[.agg us.toArray, .int .i64 k0] w fun e w' => e = .returned (.int .i64 (k0 + (cntF (trackF r) : Int))) ∧ AggAt w' (markF (trackF r) k0) us lo hi ∧ Touch lo hi w w' := by
  have hcnt : cntF (trackF r) = r.Spots.length * 3 + r.Inputs.length * 2 := by simp only [trackF, cntF, ratioF, spotF]; omega
  rw [hcnt] at h1 ⊢
  clear hcnt
  obtain ⟨A0, c0, _, q0, rfl, o0, l0, A1, c1, _, q1, rfl, o1, l1, rfl, le⟩ := h
  have len0 : r.Spots.length * 3 ≤ 1000000000000 := by omega
  have len1 : r.Inputs.length * 2 ≤ 1000000000000 := by omega
  have hx : Touch lo hi w (w.alloc (.cells #[.slice A0 r.Spots.length c0, .slice A1 r.Inputs.length c1] 44)) := (Touch.refl lo hi w).alloc _
  have bP := Blk.new w 44 #[.slice A0 r.Spots.length c0, .slice A1 r.Inputs.length c1]
  have cP := fun o => bP.cell o
  replace o0 := o0.alloc (.cells #[.slice A0 r.Spots.length c0, .slice A1 r.Inputs.length c1] 44)
  replace o1 := o1.alloc (.cells #[.slice A0 r.Spots.length c0, .slice A1 r.Inputs.length c1] 44)
  go_enter Tryd.func23, Tryd.ntmps23
  go_wp2_with fail
  refine (markSpotS_m _ _ _ _ _ _ _ _ o0 (by omega) (by omega) (by omega)).mono ?_
  rintro e w1 ⟨rfl, o0', t1⟩
  replace o1 := o1.touch t1 (by omega)
  replace hx := hx.trans (t1.mono (by omega) (by omega))
  have hzz1 := t1.size
  simp only [World.size_alloc] at hzz1
  replace bP := bP.touch t1 (.inr (by omega))
  have cP1 := fun o => bP.cell o
  go_wp2_with fail
  refine (markRatioS_m _ _ _ _ _ _ _ _ o1 (by omega) (by omega) (by omega)).mono ?_
  rintro e w2 ⟨rfl, o1', t2⟩
  replace o0' := o0'.touch t2 (by omega)
  replace hx := hx.trans (t2.mono (by omega) (by omega))
  have hzz2 := t2.size
  skip
  replace bP := bP.touch t2 (.inr (by omega))
  have cP2 := fun o => bP.cell o
  go_wp2
  go_ret
  refine ⟨ret_int (by omega), ?_, hx⟩
  exact ⟨_, _, _, q0, rfl, (by first | exact o0' | simpa [Int.add_assoc] using o0'), l0, _, _, _, q1, rfl, (by first | exact o1' | simpa [Int.add_assoc] using o1'), l1, rfl, by omega⟩
end Go.Proofs.YtlgkfjhbimffiaaDoor
