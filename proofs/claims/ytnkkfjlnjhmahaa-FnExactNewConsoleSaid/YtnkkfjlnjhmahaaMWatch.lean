/- Contracts of the helpers on Watch: copies, comparisons, sizes, marks. (written by tools/structs.py) -/
import Derived.Test.YtnkkfjlnjhmahaaMRegion
import Derived.Test.YtnkkfjlnjhmahaaMRoom
namespace Go.Proofs.Ytnkkfjlnjhmahaa
open Go.ChangeShapes Go.WideShapes Go.ChangeAt Go.RowKit
set_option linter.unusedVariables false
set_option maxRecDepth 100000

structure Watch where
  Room : Room
  Region : List Half
  Log : List Int
def watchF (r : Watch) : List Fd := [intF r.Room.Map, .i r.Room.Div, .i r.Room.Bx, .i r.Room.By, .i r.Room.Low, .i r.Room.High, halfF r.Room.Noise, halfF r.Room.Limits, halfF r.Region, intF r.Log]
theorem watchF_len (r : Watch) : lenF (watchF r) = [r.Room.Map.length, r.Room.Noise.length, r.Room.Limits.length, r.Region.length, r.Log.length] := rfl
def watchFI (r : Watch) : Prop := (∀ z ∈ r.Room.Map, I64 z) ∧ I64 r.Room.Div ∧ I64 r.Room.Bx ∧ I64 r.Room.By ∧ I64 r.Room.Low ∧ I64 r.Room.High ∧ (∀ x ∈ r.Room.Noise, ∀ z ∈ Half.ints x, I64 z) ∧ (∀ x ∈ r.Room.Limits, ∀ z ∈ Half.ints x, I64 z) ∧ (∀ x ∈ r.Region, ∀ z ∈ Half.ints x, I64 z) ∧ (∀ z ∈ r.Log, I64 z)
set_option maxHeartbeats 2000000 in
theorem eqWatch_same (r : Watch) (us vs : List Value) (w : World) (hu : AggRow w (watchF r) us) (hv : AggRow w (watchF r) vs) :
    Calls Try.prog 20 #[.agg us.toArray, .agg vs.toArray] w fun e w' => e = .returned (.bool true) ∧ Ext w w' := by
  obtain ⟨Ax0, cx0, _, rfl, rx0, nx0, mx0, _, rfl, _, rfl, _, rfl, _, rfl, _, rfl, Ax6, cx6, _, rfl, rx6, nx6, mx6, Ax7, cx7, _, rfl, rx7, nx7, mx7, Ax8, cx8, _, rfl, rx8, nx8, mx8, Ax9, cx9, _, rfl, rx9, nx9, mx9, rfl⟩ := hu
  obtain ⟨Ay0, cy0, _, rfl, ry0, ny0, my0, _, rfl, _, rfl, _, rfl, _, rfl, _, rfl, Ay6, cy6, _, rfl, ry6, ny6, my6, Ay7, cy7, _, rfl, ry7, ny7, my7, Ay8, cy8, _, rfl, ry8, ny8, my8, Ay9, cy9, _, rfl, ry9, ny9, my9, rfl⟩ := hv
  have hy : Ext w ((w.alloc (.cells #[.slice Ax0 r.Room.Map.length cx0, .int .i64 r.Room.Div, .int .i64 r.Room.Bx, .int .i64 r.Room.By, .int .i64 r.Room.Low, .int .i64 r.Room.High, .slice Ax6 r.Room.Noise.length cx6, .slice Ax7 r.Room.Limits.length cx7, .slice Ax8 r.Region.length cx8, .slice Ax9 r.Log.length cx9] 31)).alloc (.cells #[.slice Ay0 r.Room.Map.length cy0, .int .i64 r.Room.Div, .int .i64 r.Room.Bx, .int .i64 r.Room.By, .int .i64 r.Room.Low, .int .i64 r.Room.High, .slice Ay6 r.Room.Noise.length cy6, .slice Ay7 r.Room.Limits.length cy7, .slice Ay8 r.Region.length cy8, .slice Ay9 r.Log.length cy9] 31)) := ((Ext.refl w).alloc _).alloc _
  have bP := (Blk.new w 31 #[.slice Ax0 r.Room.Map.length cx0, .int .i64 r.Room.Div, .int .i64 r.Room.Bx, .int .i64 r.Room.By, .int .i64 r.Room.Low, .int .i64 r.Room.High, .slice Ax6 r.Room.Noise.length cx6, .slice Ax7 r.Room.Limits.length cx7, .slice Ax8 r.Region.length cx8, .slice Ax9 r.Log.length cx9]).alloc (.cells #[.slice Ay0 r.Room.Map.length cy0, .int .i64 r.Room.Div, .int .i64 r.Room.Bx, .int .i64 r.Room.By, .int .i64 r.Room.Low, .int .i64 r.Room.High, .slice Ay6 r.Room.Noise.length cy6, .slice Ay7 r.Room.Limits.length cy7, .slice Ay8 r.Region.length cy8, .slice Ay9 r.Log.length cy9] 31)
  have bQ : Blk ((w.alloc (.cells #[.slice Ax0 r.Room.Map.length cx0, .int .i64 r.Room.Div, .int .i64 r.Room.Bx, .int .i64 r.Room.By, .int .i64 r.Room.Low, .int .i64 r.Room.High, .slice Ax6 r.Room.Noise.length cx6, .slice Ax7 r.Room.Limits.length cx7, .slice Ax8 r.Region.length cx8, .slice Ax9 r.Log.length cx9] 31)).alloc (.cells #[.slice Ay0 r.Room.Map.length cy0, .int .i64 r.Room.Div, .int .i64 r.Room.Bx, .int .i64 r.Room.By, .int .i64 r.Room.Low, .int .i64 r.Room.High, .slice Ay6 r.Room.Noise.length cy6, .slice Ay7 r.Room.Limits.length cy7, .slice Ay8 r.Region.length cy8, .slice Ay9 r.Log.length cy9] 31)) (w.heap.size + 1) 31 #[.slice Ay0 r.Room.Map.length cy0, .int .i64 r.Room.Div, .int .i64 r.Room.Bx, .int .i64 r.Room.By, .int .i64 r.Room.Low, .int .i64 r.Room.High, .slice Ay6 r.Room.Noise.length cy6, .slice Ay7 r.Room.Limits.length cy7, .slice Ay8 r.Region.length cy8, .slice Ay9 r.Log.length cy9] := by
    have := Blk.new (w.alloc (.cells #[.slice Ax0 r.Room.Map.length cx0, .int .i64 r.Room.Div, .int .i64 r.Room.Bx, .int .i64 r.Room.By, .int .i64 r.Room.Low, .int .i64 r.Room.High, .slice Ax6 r.Room.Noise.length cx6, .slice Ax7 r.Room.Limits.length cx7, .slice Ax8 r.Region.length cx8, .slice Ax9 r.Log.length cx9] 31)) 31 #[.slice Ay0 r.Room.Map.length cy0, .int .i64 r.Room.Div, .int .i64 r.Room.Bx, .int .i64 r.Room.By, .int .i64 r.Room.Low, .int .i64 r.Room.High, .slice Ay6 r.Room.Noise.length cy6, .slice Ay7 r.Room.Limits.length cy7, .slice Ay8 r.Region.length cy8, .slice Ay9 r.Log.length cy9]
    simpa only [World.size_alloc] using this
  go_enter Try.func20, Try.ntmps20
  go_wp2_with fail
  refine (eqRoom_same r.Room [.slice Ax0 r.Room.Map.length cx0, .int .i64 r.Room.Div, .int .i64 r.Room.Bx, .int .i64 r.Room.By, .int .i64 r.Room.Low, .int .i64 r.Room.High, .slice Ax6 r.Room.Noise.length cx6, .slice Ax7 r.Room.Limits.length cx7] [.slice Ay0 r.Room.Map.length cy0, .int .i64 r.Room.Div, .int .i64 r.Room.Bx, .int .i64 r.Room.By, .int .i64 r.Room.Low, .int .i64 r.Room.High, .slice Ay6 r.Room.Noise.length cy6, .slice Ay7 r.Room.Limits.length cy7] _ ⟨_, _, _, rfl, rx0.ext hy, nx0, mx0, _, rfl, _, rfl, _, rfl, _, rfl, _, rfl, _, _, _, rfl, rx6.ext hy, nx6, mx6, _, _, _, rfl, rx7.ext hy, nx7, mx7, rfl⟩ ⟨_, _, _, rfl, ry0.ext hy, ny0, my0, _, rfl, _, rfl, _, rfl, _, rfl, _, rfl, _, _, _, rfl, ry6.ext hy, ny6, my6, _, _, _, rfl, ry7.ext hy, ny7, my7, rfl⟩).mono ?_
  rintro e w1 ⟨rfl, hx1⟩
  replace hy := hy.trans hx1
  replace bP := bP.ext hx1
  replace bQ := bQ.ext hx1
  have cbP_3 := fun o => bP.cell o
  have cbQ_4 := fun o => bQ.cell o
  go_wp2_with fail
  refine (eqRegion_same r.Region [.slice Ax8 r.Region.length cx8] [.slice Ay8 r.Region.length cy8] _ ⟨_, _, _, rfl, rx8.ext hy, nx8, mx8, rfl⟩ ⟨_, _, _, rfl, ry8.ext hy, ny8, my8, rfl⟩).mono ?_
  rintro e w2 ⟨rfl, hx2⟩
  replace hy := hy.trans hx2
  replace bP := bP.ext hx2
  replace bQ := bQ.ext hx2
  have cbP_5 := fun o => bP.cell o
  have cbQ_6 := fun o => bQ.cell o
  go_wp2_with fail
  refine (eqIntS_same _ _ _ _ _ r.Log _ rfl (rx9.ext hy) (ry9.ext hy) (Nat.le_trans nx9 mx9)).mono ?_
  rintro e w3 ⟨rfl, hx3⟩
  replace hy := hy.trans hx3
  replace bP := bP.ext hx3
  replace bQ := bQ.ext hx3
  have cbP_7 := fun o => bP.cell o
  have cbQ_8 := fun o => bQ.cell o
  go_wp2
  go_ret
  exact ⟨rfl, hy⟩
set_option maxHeartbeats 2000000 in
theorem markWatch_m (r : Watch) (us : List Value) (k0 : Int) (lo hi : Nat) (w : World) (h : AggAt w (watchF r) us lo hi) (h0 : 0 ≤ k0) (h1 : k0 + (cntF (watchF r) : Int) ≤ 1000000000000) (hhi : hi ≤ w.heap.size) :
    Calls Try.prog 23 #[.agg us.toArray, .int .i64 k0] w fun e w' => e = .returned (.int .i64 (k0 + (cntF (watchF r) : Int))) ∧ AggAt w' (markF (watchF r) k0) us lo hi ∧ Touch lo hi w w' := by
  have hcnt : cntF (watchF r) = r.Room.Map.length * 1 + r.Room.Noise.length * 3 + r.Room.Limits.length * 3 + r.Region.length * 3 + r.Log.length * 1 := by simp only [watchF, cntF, halfF, intF]; omega
  rw [hcnt] at h1 ⊢
  clear hcnt
  obtain ⟨A0, c0, _, q0, rfl, o0, l0, _, rfl, _, rfl, _, rfl, _, rfl, _, rfl, A6, c6, _, q6, rfl, o6, l6, A7, c7, _, q7, rfl, o7, l7, A8, c8, _, q8, rfl, o8, l8, A9, c9, _, q9, rfl, o9, l9, rfl, le⟩ := h
  have len0 : r.Room.Map.length * 1 ≤ 1000000000000 := by omega
  have len6 : r.Room.Noise.length * 3 ≤ 1000000000000 := by omega
  have len7 : r.Room.Limits.length * 3 ≤ 1000000000000 := by omega
  have len8 : r.Region.length * 3 ≤ 1000000000000 := by omega
  have len9 : r.Log.length * 1 ≤ 1000000000000 := by omega
  have hx : Touch lo hi w (w.alloc (.cells #[.slice A0 r.Room.Map.length c0, .int .i64 r.Room.Div, .int .i64 r.Room.Bx, .int .i64 r.Room.By, .int .i64 r.Room.Low, .int .i64 r.Room.High, .slice A6 r.Room.Noise.length c6, .slice A7 r.Room.Limits.length c7, .slice A8 r.Region.length c8, .slice A9 r.Log.length c9] 31)) := (Touch.refl lo hi w).alloc _
  have bP := Blk.new w 31 #[.slice A0 r.Room.Map.length c0, .int .i64 r.Room.Div, .int .i64 r.Room.Bx, .int .i64 r.Room.By, .int .i64 r.Room.Low, .int .i64 r.Room.High, .slice A6 r.Room.Noise.length c6, .slice A7 r.Room.Limits.length c7, .slice A8 r.Region.length c8, .slice A9 r.Log.length c9]
  have cP := fun o => bP.cell o
  replace o0 := o0.alloc (.cells #[.slice A0 r.Room.Map.length c0, .int .i64 r.Room.Div, .int .i64 r.Room.Bx, .int .i64 r.Room.By, .int .i64 r.Room.Low, .int .i64 r.Room.High, .slice A6 r.Room.Noise.length c6, .slice A7 r.Room.Limits.length c7, .slice A8 r.Region.length c8, .slice A9 r.Log.length c9] 31)
  replace o6 := o6.alloc (.cells #[.slice A0 r.Room.Map.length c0, .int .i64 r.Room.Div, .int .i64 r.Room.Bx, .int .i64 r.Room.By, .int .i64 r.Room.Low, .int .i64 r.Room.High, .slice A6 r.Room.Noise.length c6, .slice A7 r.Room.Limits.length c7, .slice A8 r.Region.length c8, .slice A9 r.Log.length c9] 31)
  replace o7 := o7.alloc (.cells #[.slice A0 r.Room.Map.length c0, .int .i64 r.Room.Div, .int .i64 r.Room.Bx, .int .i64 r.Room.By, .int .i64 r.Room.Low, .int .i64 r.Room.High, .slice A6 r.Room.Noise.length c6, .slice A7 r.Room.Limits.length c7, .slice A8 r.Region.length c8, .slice A9 r.Log.length c9] 31)
  replace o8 := o8.alloc (.cells #[.slice A0 r.Room.Map.length c0, .int .i64 r.Room.Div, .int .i64 r.Room.Bx, .int .i64 r.Room.By, .int .i64 r.Room.Low, .int .i64 r.Room.High, .slice A6 r.Room.Noise.length c6, .slice A7 r.Room.Limits.length c7, .slice A8 r.Region.length c8, .slice A9 r.Log.length c9] 31)
  replace o9 := o9.alloc (.cells #[.slice A0 r.Room.Map.length c0, .int .i64 r.Room.Div, .int .i64 r.Room.Bx, .int .i64 r.Room.By, .int .i64 r.Room.Low, .int .i64 r.Room.High, .slice A6 r.Room.Noise.length c6, .slice A7 r.Room.Limits.length c7, .slice A8 r.Region.length c8, .slice A9 r.Log.length c9] 31)
  go_enter Try.func23, Try.ntmps23
  go_wp2_with fail
  have hcs1 : cntF (roomF r.Room) = r.Room.Map.length * 1 + r.Room.Noise.length * 3 + r.Room.Limits.length * 3 := by simp only [roomF, cntF, halfF, intF]; omega
  refine (markRoom_m r.Room [.slice A0 r.Room.Map.length c0, .int .i64 r.Room.Div, .int .i64 r.Room.Bx, .int .i64 r.Room.By, .int .i64 r.Room.Low, .int .i64 r.Room.High, .slice A6 r.Room.Noise.length c6, .slice A7 r.Room.Limits.length c7] _ lo q7 _ ⟨_, _, _, q0, rfl, o0, l0, _, rfl, _, rfl, _, rfl, _, rfl, _, rfl, _, _, _, q6, rfl, o6, l6, _, _, _, q7, rfl, o7, l7, rfl, Nat.le_refl _⟩ (by omega) (by omega) (by first | omega | (simp <;> omega))).mono ?_
  rintro e w1 ⟨rfl, at1, t1⟩
  rw [hcs1]
  replace o8 := o8.touch t1 (by omega)
  replace o9 := o9.touch t1 (by omega)
  replace hx := hx.trans (t1.mono (by omega) (by omega))
  have hzz1 := t1.size
  simp only [World.size_alloc] at hzz1
  replace bP := bP.touch t1 (.inr (by omega))
  have cP1 := fun o => bP.cell o
  go_wp2_with fail
  have hcs2 : cntF (regionF r.Region) = r.Region.length * 3 := by simp only [regionF, cntF, halfF]; omega
  refine (markRegion_m r.Region [.slice A8 r.Region.length c8] _ q7 q8 _ ⟨_, _, _, q8, rfl, o8, l8, rfl, Nat.le_refl _⟩ (by omega) (by omega) (by first | omega | (simp <;> omega))).mono ?_
  rintro e w2 ⟨rfl, at2, t2⟩
  rw [hcs2]
  replace o9 := o9.touch t2 (by omega)
  replace at1 := at1.touch t2 (by omega)
  replace hx := hx.trans (t2.mono (by omega) (by omega))
  have hzz2 := t2.size
  skip
  replace bP := bP.touch t2 (.inr (by omega))
  have cP2 := fun o => bP.cell o
  go_wp2_with fail
  refine (markIntS_m _ _ _ _ _ _ _ _ o9 (by omega) (by omega) (by omega)).mono ?_
  rintro e w3 ⟨rfl, o9', t3⟩
  replace at1 := at1.touch t3 (by omega)
  replace at2 := at2.touch t3 (by omega)
  replace hx := hx.trans (t3.mono (by omega) (by omega))
  have hzz3 := t3.size
  skip
  replace bP := bP.touch t3 (.inr (by omega))
  have cP3 := fun o => bP.cell o
  go_wp2
  go_ret
  refine ⟨ret_int (by omega), ?_, hx⟩
  obtain ⟨B0, d0, _, p0, e0, o0', l0', _, e1, _, e2, _, e3, _, e4, _, e5, B6, d6, _, p6, e6, o6', l6', B7, d7, _, p7, e7, o7', l7', ee1, lle1⟩ := at1
  obtain ⟨hv0, rfl⟩ := List.cons.inj e0
  injection hv0 with ha0 _ hb0
  subst ha0 hb0
  obtain ⟨_, rfl⟩ := List.cons.inj e1
  obtain ⟨_, rfl⟩ := List.cons.inj e2
  obtain ⟨_, rfl⟩ := List.cons.inj e3
  obtain ⟨_, rfl⟩ := List.cons.inj e4
  obtain ⟨_, rfl⟩ := List.cons.inj e5
  obtain ⟨hv6, rfl⟩ := List.cons.inj e6
  injection hv6 with ha6 _ hb6
  subst ha6 hb6
  obtain ⟨hv7, rfl⟩ := List.cons.inj e7
  injection hv7 with ha7 _ hb7
  subst ha7 hb7
  obtain ⟨B8, d8, _, p8, e8, o8', l8', ee2, lle2⟩ := at2
  obtain ⟨hv8, rfl⟩ := List.cons.inj e8
  injection hv8 with ha8 _ hb8
  subst ha8 hb8
  exact ⟨_, _, _, p0, rfl, (by first | exact o0' | exact Mine.wide (lo' := lo) o0' (by omega) (Nat.le_refl _) | simpa [Int.add_assoc] using o0' | (have q := Mine.wide (lo' := lo) o0' (by omega) (Nat.le_refl _); simpa [Int.add_assoc] using q)), (by omega), _, rfl, _, rfl, _, rfl, _, rfl, _, rfl, _, _, _, p6, rfl, (by first | exact o6' | exact Mine.wide (lo' := p0) o6' (by omega) (Nat.le_refl _) | simpa [Int.add_assoc] using o6' | (have q := Mine.wide (lo' := p0) o6' (by omega) (Nat.le_refl _); simpa [Int.add_assoc] using q)), (by omega), _, _, _, p7, rfl, (by first | exact o7' | exact Mine.wide (lo' := p6) o7' (by omega) (Nat.le_refl _) | simpa [Int.add_assoc] using o7' | (have q := Mine.wide (lo' := p6) o7' (by omega) (Nat.le_refl _); simpa [Int.add_assoc] using q)), (by omega), _, _, _, p8, rfl, (by first | exact o8' | exact Mine.wide (lo' := p7) o8' (by omega) (Nat.le_refl _) | simpa [Int.add_assoc] using o8' | (have q := Mine.wide (lo' := p7) o8' (by omega) (Nat.le_refl _); simpa [Int.add_assoc] using q)), (by omega), _, _, _, q9, rfl, (by first | exact o9' | exact Mine.wide (lo' := p8) o9' (by omega) (Nat.le_refl _) | simpa [Int.add_assoc] using o9' | (have q := Mine.wide (lo' := p8) o9' (by omega) (Nat.le_refl _); simpa [Int.add_assoc] using q)), (by omega), rfl, by omega⟩
set_option maxHeartbeats 2000000 in
theorem heldWatch_m (r : Watch) (us : List Value) (k0 : Int) (w : World) (h : AggRow w (markF (watchF r) k0) us) (h0 : 0 ≤ k0) (h1 : k0 + (cntF (watchF r) : Int) ≤ 1000000000000) :
    Calls Try.prog 26 #[.agg us.toArray, .int .i64 k0] w fun e w' => e = .returned (.int .i64 (k0 + (cntF (watchF r) : Int))) ∧ Ext w w' := by
  have hcnt : cntF (watchF r) = r.Room.Map.length * 1 + r.Room.Noise.length * 3 + r.Room.Limits.length * 3 + r.Region.length * 3 + r.Log.length * 1 := by simp only [watchF, cntF, halfF, intF]; omega
  rw [hcnt] at h1 ⊢
  clear hcnt
  obtain ⟨A0, c0, _, rfl, r0, n0, m0, _, rfl, _, rfl, _, rfl, _, rfl, _, rfl, A6, c6, _, rfl, r6, n6, m6, A7, c7, _, rfl, r7, n7, m7, A8, c8, _, rfl, r8, n8, m8, A9, c9, _, rfl, r9, n9, m9, rfl⟩ := h
  have len0 : r.Room.Map.length * 1 ≤ 1000000000000 := by omega
  have len6 : r.Room.Noise.length * 3 ≤ 1000000000000 := by omega
  have len7 : r.Room.Limits.length * 3 ≤ 1000000000000 := by omega
  have len8 : r.Region.length * 3 ≤ 1000000000000 := by omega
  have len9 : r.Log.length * 1 ≤ 1000000000000 := by omega
  have hy : Ext w (w.alloc (.cells #[.slice A0 r.Room.Map.length c0, .int .i64 r.Room.Div, .int .i64 r.Room.Bx, .int .i64 r.Room.By, .int .i64 r.Room.Low, .int .i64 r.Room.High, .slice A6 r.Room.Noise.length c6, .slice A7 r.Room.Limits.length c7, .slice A8 r.Region.length c8, .slice A9 r.Log.length c9] 31)) := (Ext.refl w).alloc _
  have bP := Blk.new w 31 #[.slice A0 r.Room.Map.length c0, .int .i64 r.Room.Div, .int .i64 r.Room.Bx, .int .i64 r.Room.By, .int .i64 r.Room.Low, .int .i64 r.Room.High, .slice A6 r.Room.Noise.length c6, .slice A7 r.Room.Limits.length c7, .slice A8 r.Region.length c8, .slice A9 r.Log.length c9]
  go_enter Try.func26, Try.ntmps26
  have hcs1 : cntF (roomF r.Room) = r.Room.Map.length * 1 + r.Room.Noise.length * 3 + r.Room.Limits.length * 3 := by simp only [roomF, cntF, halfF, intF]; omega
  go_wp2_with fail
  refine (heldRoom_m r.Room [.slice A0 r.Room.Map.length c0, .int .i64 r.Room.Div, .int .i64 r.Room.Bx, .int .i64 r.Room.By, .int .i64 r.Room.Low, .int .i64 r.Room.High, .slice A6 r.Room.Noise.length c6, .slice A7 r.Room.Limits.length c7] _ _ ⟨_, _, _, rfl, (by first | exact r0.ext hy | (have := r0.ext hy; simpa [Int.add_assoc] using this)), n0, m0, _, rfl, _, rfl, _, rfl, _, rfl, _, rfl, _, _, _, rfl, (by first | exact r6.ext hy | (have := r6.ext hy; simpa [Int.add_assoc] using this)), n6, m6, _, _, _, rfl, (by first | exact r7.ext hy | (have := r7.ext hy; simpa [Int.add_assoc] using this)), n7, m7, rfl⟩ (by omega) (by omega)).mono ?_
  rintro e w1 ⟨rfl, hx1⟩
  replace hy := hy.trans hx1
  replace bP := bP.ext hx1
  have cbP_9 := fun o => bP.cell o
  rw [hcs1]
  have hcs2 : cntF (regionF r.Region) = r.Region.length * 3 := by simp only [regionF, cntF, halfF]; omega
  go_wp2_with fail
  refine (heldRegion_m r.Region [.slice A8 r.Region.length c8] _ _ ⟨_, _, _, rfl, (by first | exact r8.ext hy | (have := r8.ext hy; simpa [Int.add_assoc] using this)), n8, m8, rfl⟩ (by omega) (by omega)).mono ?_
  rintro e w2 ⟨rfl, hx2⟩
  replace hy := hy.trans hx2
  replace bP := bP.ext hx2
  have cbP_10 := fun o => bP.cell o
  rw [hcs2]
  go_wp2_with fail
  refine (heldIntS_m _ _ _ _ _ (by first | exact r9.ext hy | (have := r9.ext hy; simpa [Int.add_assoc] using this)) (by omega) (by omega) (by omega)).mono ?_
  rintro e w' ⟨rfl, rfl⟩
  go_wp2
  go_ret
  exact ⟨ret_int (by omega), hy⟩
end Go.Proofs.Ytnkkfjlnjhmahaa
