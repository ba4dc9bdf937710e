/- Contracts of the helpers on Track: copies, comparisons, sizes, marks. (written by tools/structs.py) -/
import Derived.Test.YtbbdipfioopfmaaGreatMs
namespace Go.Proofs.YtbbdipfioopfmaaGreat
open Go.ChangeShapes Go.WideShapes Go.ChangeAt Go.RowKit
set_option linter.unusedVariables false
set_option maxRecDepth 100000

structure Track where
  Spots : List Spot
  Inputs : List Ratio
def trackF (r : Track) : List Fd := [spotF r.Spots, ratioF r.Inputs]
theorem trackF_len (r : Track) : lenF (trackF r) = [r.Spots.length, r.Inputs.length] := rfl
def trackFI (r : Track) : Prop := (∀ x ∈ r.Spots, ∀ z ∈ Spot.ints x, I64 z) ∧ (∀ x ∈ r.Inputs, ∀ z ∈ Ratio.ints x, I64 z)
set_option maxHeartbeats 2000000 in
theorem eqTrack_same (r : Track) (us vs : List Value) (w : World) (hu : AggRow w (trackF r) us) (hv : AggRow w (trackF r) vs) :
    Calls Tryz.prog 13 #[.agg us.toArray, .agg vs.toArray] w fun e w' => e = .returned (.bool true) ∧ Ext w w' := by
  obtain ⟨Ax0, cx0, _, rfl, rx0, nx0, mx0, Ax1, cx1, _, rfl, rx1, nx1, mx1, rfl⟩ := hu
  obtain ⟨Ay0, cy0, _, rfl, ry0, ny0, my0, Ay1, cy1, _, rfl, ry1, ny1, my1, rfl⟩ := hv
  have hy : Ext w ((w.alloc (.cells #[.slice Ax0 r.Spots.length cx0, .slice Ax1 r.Inputs.length cx1] 37)).alloc (.cells #[.slice Ay0 r.Spots.length cy0, .slice Ay1 r.Inputs.length cy1] 37)) := ((Ext.refl w).alloc _).alloc _
  have bP := (Blk.new w 37 #[.slice Ax0 r.Spots.length cx0, .slice Ax1 r.Inputs.length cx1]).alloc (.cells #[.slice Ay0 r.Spots.length cy0, .slice Ay1 r.Inputs.length cy1] 37)
  have bQ : Blk ((w.alloc (.cells #[.slice Ax0 r.Spots.length cx0, .slice Ax1 r.Inputs.length cx1] 37)).alloc (.cells #[.slice Ay0 r.Spots.length cy0, .slice Ay1 r.Inputs.length cy1] 37)) (w.heap.size + 1) 37 #[.slice Ay0 r.Spots.length cy0, .slice Ay1 r.Inputs.length cy1] := by
    have := Blk.new (w.alloc (.cells #[.slice Ax0 r.Spots.length cx0, .slice Ax1 r.Inputs.length cx1] 37)) 37 #[.slice Ay0 r.Spots.length cy0, .slice Ay1 r.Inputs.length cy1]
    simpa only [World.size_alloc] using this
  go_enter Tryz.func13, Tryz.ntmps13
  go_wp2_with fail
  refine (eqSpotS_same _ _ _ _ _ r.Spots _ rfl (rx0.ext hy) (ry0.ext hy) (Nat.le_trans nx0 mx0)).mono ?_
  rintro e w1 ⟨rfl, hx1⟩
  replace hy := hy.trans hx1
  replace bP := bP.ext hx1
  replace bQ := bQ.ext hx1
  have cbP_1 := fun o => bP.cell o
  have cbQ_2 := fun o => bQ.cell o
  go_wp2_with fail
  refine (eqRatioS_same _ _ _ _ _ r.Inputs _ rfl (rx1.ext hy) (ry1.ext hy) (Nat.le_trans nx1 mx1)).mono ?_
  rintro e w2 ⟨rfl, hx2⟩
  replace hy := hy.trans hx2
  replace bP := bP.ext hx2
  replace bQ := bQ.ext hx2
  have cbP_3 := fun o => bP.cell o
  have cbQ_4 := fun o => bQ.cell o
  go_wp2
  go_ret
  exact ⟨rfl, hy⟩
set_option maxHeartbeats 2000000 in
theorem markTrack_m (r : Track) (us : List Value) (k0 : Int) (lo hi : Nat) (w : World) (h : AggAt w (trackF r) us lo hi) (h0 : 0 ≤ k0) (h1 : k0 + (cntF (trackF r) : Int) ≤ 1000000000000) (hhi : hi ≤ w.heap.size) :
    Calls Tryz.prog 20 #[.agg us.toArray, .int .i64 k0] w fun e w' => e = .returned (.int .i64 (k0 + (cntF (trackF r) : Int))) ∧ AggAt w' (markF (trackF r) k0) us lo hi ∧ Touch lo hi w w' := by
  have hcnt : cntF (trackF r) = r.Spots.length * 3 + r.Inputs.length * 2 := by simp only [trackF, cntF, ratioF, spotF]; omega
  rw [hcnt] at h1 ⊢
  clear hcnt
  obtain ⟨A0, c0, _, q0, rfl, o0, l0, A1, c1, _, q1, rfl, o1, l1, rfl, le⟩ := h
  have len0 : r.Spots.length * 3 ≤ 1000000000000 := by omega
  have len1 : r.Inputs.length * 2 ≤ 1000000000000 := by omega
  have hx : Touch lo hi w (w.alloc (.cells #[.slice A0 r.Spots.length c0, .slice A1 r.Inputs.length c1] 37)) := (Touch.refl lo hi w).alloc _
  have bP := Blk.new w 37 #[.slice A0 r.Spots.length c0, .slice A1 r.Inputs.length c1]
  have cP := fun o => bP.cell o
  replace o0 := o0.alloc (.cells #[.slice A0 r.Spots.length c0, .slice A1 r.Inputs.length c1] 37)
  replace o1 := o1.alloc (.cells #[.slice A0 r.Spots.length c0, .slice A1 r.Inputs.length c1] 37)
  go_enter Tryz.func20, Tryz.ntmps20
  go_wp2_with fail
  refine (markSpotS_m _ _ _ _ _ _ _ _ o0 (by omega) (by omega) (by omega)).mono ?_
  rintro e w1 ⟨rfl, o0', t1⟩
  replace o1 := o1.touch t1 (by omega)
  replace hx := hx.trans (t1.mono (by omega) (by omega))
  have hzz1 := t1.size
  simp only [World.size_alloc] at hzz1
  replace bP := bP.touch t1 (.inr (by omega))
  have cP1 := fun o => bP.cell o
  go_wp2_with fail
  refine (markRatioS_m _ _ _ _ _ _ _ _ o1 (by omega) (by omega) (by omega)).mono ?_
  rintro e w2 ⟨rfl, o1', t2⟩
  replace o0' := o0'.touch t2 (by omega)
  replace hx := hx.trans (t2.mono (by omega) (by omega))
  have hzz2 := t2.size
  skip
  replace bP := bP.touch t2 (.inr (by omega))
  have cP2 := fun o => bP.cell o
  go_wp2
  go_ret
  refine ⟨ret_int (by omega), ?_, hx⟩
  exact ⟨_, _, _, q0, rfl, (by first | exact o0' | exact Mine.wide (lo' := lo) o0' (by omega) (Nat.le_refl _) | simpa [Int.add_assoc] using o0' | (have q := Mine.wide (lo' := lo) o0' (by omega) (Nat.le_refl _); simpa [Int.add_assoc] using q)), (by omega), _, _, _, q1, rfl, (by first | exact o1' | exact Mine.wide (lo' := q0) o1' (by omega) (Nat.le_refl _) | simpa [Int.add_assoc] using o1' | (have q := Mine.wide (lo' := q0) o1' (by omega) (Nat.le_refl _); simpa [Int.add_assoc] using q)), (by omega), rfl, by omega⟩
set_option maxHeartbeats 2000000 in
theorem heldTrack_m (r : Track) (us : List Value) (k0 : Int) (w : World) (h : AggRow w (markF (trackF r) k0) us) (h0 : 0 ≤ k0) (h1 : k0 + (cntF (trackF r) : Int) ≤ 1000000000000) :
    Calls Tryz.prog 21 #[.agg us.toArray, .int .i64 k0] w fun e w' => e = .returned (.int .i64 (k0 + (cntF (trackF r) : Int))) ∧ Ext w w' := by
  have hcnt : cntF (trackF r) = r.Spots.length * 3 + r.Inputs.length * 2 := by simp only [trackF, cntF, ratioF, spotF]; omega
  rw [hcnt] at h1 ⊢
  clear hcnt
  obtain ⟨A0, c0, _, rfl, r0, n0, m0, A1, c1, _, rfl, r1, n1, m1, rfl⟩ := h
  have len0 : r.Spots.length * 3 ≤ 1000000000000 := by omega
  have len1 : r.Inputs.length * 2 ≤ 1000000000000 := by omega
  have hy : Ext w (w.alloc (.cells #[.slice A0 r.Spots.length c0, .slice A1 r.Inputs.length c1] 37)) := (Ext.refl w).alloc _
  have bP := Blk.new w 37 #[.slice A0 r.Spots.length c0, .slice A1 r.Inputs.length c1]
  go_enter Tryz.func21, Tryz.ntmps21
  go_wp2_with fail
  refine (heldSpotS_m _ _ _ _ _ (by first | exact r0.ext hy | (have := r0.ext hy; simpa [Int.add_assoc] using this)) (by omega) (by omega) (by omega)).mono ?_
  rintro e w' ⟨rfl, rfl⟩
  go_wp2_with fail
  refine (heldRatioS_m _ _ _ _ _ (by first | exact r1.ext hy | (have := r1.ext hy; simpa [Int.add_assoc] using this)) (by omega) (by omega) (by omega)).mono ?_
  rintro e w' ⟨rfl, rfl⟩
  go_wp2
  go_ret
  exact ⟨ret_int (by omega), hy⟩
end Go.Proofs.YtbbdipfioopfmaaGreat
