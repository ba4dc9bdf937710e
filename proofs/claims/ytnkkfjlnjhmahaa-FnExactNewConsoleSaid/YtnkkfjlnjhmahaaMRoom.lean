/- Contracts of the helpers on Room: copies, comparisons, sizes, marks. (written by tools/structs.py) -/
import Derived.Test.YtnkkfjlnjhmahaaMRegion
namespace Go.Proofs.Ytnkkfjlnjhmahaa
open Go.ChangeShapes Go.WideShapes Go.ChangeAt Go.RowKit
set_option linter.unusedVariables false
set_option maxRecDepth 100000

structure Room where
  Map : List Int
  Div : Int
  Bx : Int
  By : Int
  Low : Int
  High : Int
  Noise : List Half
  Limits : List Half
def roomF (r : Room) : List Fd := [intF r.Map, .i r.Div, .i r.Bx, .i r.By, .i r.Low, .i r.High, halfF r.Noise, halfF r.Limits]
theorem roomF_len (r : Room) : lenF (roomF r) = [r.Map.length, r.Noise.length, r.Limits.length] := rfl
def roomFI (r : Room) : Prop := (∀ z ∈ r.Map, I64 z) ∧ I64 r.Div ∧ I64 r.Bx ∧ I64 r.By ∧ I64 r.Low ∧ I64 r.High ∧ (∀ x ∈ r.Noise, ∀ z ∈ Half.ints x, I64 z) ∧ (∀ x ∈ r.Limits, ∀ z ∈ Half.ints x, I64 z)
set_option maxHeartbeats 2000000 in
theorem eqRoom_same (r : Room) (us vs : List Value) (w : World) (hu : AggRow w (roomF r) us) (hv : AggRow w (roomF r) vs) :
    Calls Try.prog 18 #[.agg us.toArray, .agg vs.toArray] w fun e w' => e = .returned (.bool true) ∧ Ext w w' := by
  obtain ⟨Ax0, cx0, _, rfl, rx0, nx0, mx0, _, rfl, _, rfl, _, rfl, _, rfl, _, rfl, Ax6, cx6, _, rfl, rx6, nx6, mx6, Ax7, cx7, _, rfl, rx7, nx7, mx7, rfl⟩ := hu
  obtain ⟨Ay0, cy0, _, rfl, ry0, ny0, my0, _, rfl, _, rfl, _, rfl, _, rfl, _, rfl, Ay6, cy6, _, rfl, ry6, ny6, my6, Ay7, cy7, _, rfl, ry7, ny7, my7, rfl⟩ := hv
  have hy : Ext w ((w.alloc (.cells #[.slice Ax0 r.Map.length cx0, .int .i64 r.Div, .int .i64 r.Bx, .int .i64 r.By, .int .i64 r.Low, .int .i64 r.High, .slice Ax6 r.Noise.length cx6, .slice Ax7 r.Limits.length cx7] 27)).alloc (.cells #[.slice Ay0 r.Map.length cy0, .int .i64 r.Div, .int .i64 r.Bx, .int .i64 r.By, .int .i64 r.Low, .int .i64 r.High, .slice Ay6 r.Noise.length cy6, .slice Ay7 r.Limits.length cy7] 27)) := ((Ext.refl w).alloc _).alloc _
  have bP := (Blk.new w 27 #[.slice Ax0 r.Map.length cx0, .int .i64 r.Div, .int .i64 r.Bx, .int .i64 r.By, .int .i64 r.Low, .int .i64 r.High, .slice Ax6 r.Noise.length cx6, .slice Ax7 r.Limits.length cx7]).alloc (.cells #[.slice Ay0 r.Map.length cy0, .int .i64 r.Div, .int .i64 r.Bx, .int .i64 r.By, .int .i64 r.Low, .int .i64 r.High, .slice Ay6 r.Noise.length cy6, .slice Ay7 r.Limits.length cy7] 27)
  have bQ : Blk ((w.alloc (.cells #[.slice Ax0 r.Map.length cx0, .int .i64 r.Div, .int .i64 r.Bx, .int .i64 r.By, .int .i64 r.Low, .int .i64 r.High, .slice Ax6 r.Noise.length cx6, .slice Ax7 r.Limits.length cx7] 27)).alloc (.cells #[.slice Ay0 r.Map.length cy0, .int .i64 r.Div, .int .i64 r.Bx, .int .i64 r.By, .int .i64 r.Low, .int .i64 r.High, .slice Ay6 r.Noise.length cy6, .slice Ay7 r.Limits.length cy7] 27)) (w.heap.size + 1) 27 #[.slice Ay0 r.Map.length cy0, .int .i64 r.Div, .int .i64 r.Bx, .int .i64 r.By, .int .i64 r.Low, .int .i64 r.High, .slice Ay6 r.Noise.length cy6, .slice Ay7 r.Limits.length cy7] := by
    have := Blk.new (w.alloc (.cells #[.slice Ax0 r.Map.length cx0, .int .i64 r.Div, .int .i64 r.Bx, .int .i64 r.By, .int .i64 r.Low, .int .i64 r.High, .slice Ax6 r.Noise.length cx6, .slice Ax7 r.Limits.length cx7] 27)) 27 #[.slice Ay0 r.Map.length cy0, .int .i64 r.Div, .int .i64 r.Bx, .int .i64 r.By, .int .i64 r.Low, .int .i64 r.High, .slice Ay6 r.Noise.length cy6, .slice Ay7 r.Limits.length cy7]
    simpa only [World.size_alloc] using this
  go_enter Try.func18, Try.ntmps18
  go_wp2_with fail
  refine (eqIntS_same _ _ _ _ _ r.Map _ rfl (rx0.ext hy) (ry0.ext hy) (Nat.le_trans nx0 mx0)).mono ?_
  rintro e w1 ⟨rfl, hx1⟩
  replace hy := hy.trans hx1
  replace bP := bP.ext hx1
  replace bQ := bQ.ext hx1
  have cbP_3 := fun o => bP.cell o
  have cbQ_4 := fun o => bQ.cell o
  go_wp2_with fail
  refine (eqRegion_same r.Noise [.slice Ax6 r.Noise.length cx6] [.slice Ay6 r.Noise.length cy6] _ ⟨_, _, _, rfl, rx6.ext hy, nx6, mx6, rfl⟩ ⟨_, _, _, rfl, ry6.ext hy, ny6, my6, rfl⟩).mono ?_
  rintro e w2 ⟨rfl, hx2⟩
  replace hy := hy.trans hx2
  replace bP := bP.ext hx2
  replace bQ := bQ.ext hx2
  have cbP_5 := fun o => bP.cell o
  have cbQ_6 := fun o => bQ.cell o
  go_wp2_with fail
  refine (eqRegion_same r.Limits [.slice Ax7 r.Limits.length cx7] [.slice Ay7 r.Limits.length cy7] _ ⟨_, _, _, rfl, rx7.ext hy, nx7, mx7, rfl⟩ ⟨_, _, _, rfl, ry7.ext hy, ny7, my7, rfl⟩).mono ?_
  rintro e w3 ⟨rfl, hx3⟩
  replace hy := hy.trans hx3
  replace bP := bP.ext hx3
  replace bQ := bQ.ext hx3
  have cbP_7 := fun o => bP.cell o
  have cbQ_8 := fun o => bQ.cell o
  go_wp2
  go_ret
  exact ⟨rfl, hy⟩
set_option maxHeartbeats 2000000 in
theorem markRoom_m (r : Room) (us : List Value) (k0 : Int) (lo hi : Nat) (w : World) (h : AggAt w (roomF r) us lo hi) (h0 : 0 ≤ k0) (h1 : k0 + (cntF (roomF r) : Int) ≤ 1000000000000) (hhi : hi ≤ w.heap.size) :
    Calls Try.prog 22 #[.agg us.toArray, .int .i64 k0] w fun e w' => e = .returned (.int .i64 (k0 + (cntF (roomF r) : Int))) ∧ AggAt w' (markF (roomF r) k0) us lo hi ∧ Touch lo hi w w' := by
  have hcnt : cntF (roomF r) = r.Map.length * 1 + r.Noise.length * 3 + r.Limits.length * 3 := by simp only [roomF, cntF, halfF, intF]; omega
  rw [hcnt] at h1 ⊢
  clear hcnt
  obtain ⟨A0, c0, _, q0, rfl, o0, l0, _, rfl, _, rfl, _, rfl, _, rfl, _, rfl, A6, c6, _, q6, rfl, o6, l6, A7, c7, _, q7, rfl, o7, l7, rfl, le⟩ := h
  have len0 : r.Map.length * 1 ≤ 1000000000000 := by omega
  have len6 : r.Noise.length * 3 ≤ 1000000000000 := by omega
  have len7 : r.Limits.length * 3 ≤ 1000000000000 := by omega
  have hx : Touch lo hi w (w.alloc (.cells #[.slice A0 r.Map.length c0, .int .i64 r.Div, .int .i64 r.Bx, .int .i64 r.By, .int .i64 r.Low, .int .i64 r.High, .slice A6 r.Noise.length c6, .slice A7 r.Limits.length c7] 27)) := (Touch.refl lo hi w).alloc _
  have bP := Blk.new w 27 #[.slice A0 r.Map.length c0, .int .i64 r.Div, .int .i64 r.Bx, .int .i64 r.By, .int .i64 r.Low, .int .i64 r.High, .slice A6 r.Noise.length c6, .slice A7 r.Limits.length c7]
  have cP := fun o => bP.cell o
  replace o0 := o0.alloc (.cells #[.slice A0 r.Map.length c0, .int .i64 r.Div, .int .i64 r.Bx, .int .i64 r.By, .int .i64 r.Low, .int .i64 r.High, .slice A6 r.Noise.length c6, .slice A7 r.Limits.length c7] 27)
  replace o6 := o6.alloc (.cells #[.slice A0 r.Map.length c0, .int .i64 r.Div, .int .i64 r.Bx, .int .i64 r.By, .int .i64 r.Low, .int .i64 r.High, .slice A6 r.Noise.length c6, .slice A7 r.Limits.length c7] 27)
  replace o7 := o7.alloc (.cells #[.slice A0 r.Map.length c0, .int .i64 r.Div, .int .i64 r.Bx, .int .i64 r.By, .int .i64 r.Low, .int .i64 r.High, .slice A6 r.Noise.length c6, .slice A7 r.Limits.length c7] 27)
  go_enter Try.func22, Try.ntmps22
  go_wp2_with fail
  refine (markIntS_m _ _ _ _ _ _ _ _ o0 (by omega) (by omega) (by omega)).mono ?_
  rintro e w1 ⟨rfl, o0', t1⟩
  replace o6 := o6.touch t1 (by omega)
  replace o7 := o7.touch t1 (by omega)
  replace hx := hx.trans (t1.mono (by omega) (by omega))
  have hzz1 := t1.size
  simp only [World.size_alloc] at hzz1
  replace bP := bP.touch t1 (.inr (by omega))
  have cP1 := fun o => bP.cell o
  go_wp2_with fail
  have hcs2 : cntF (regionF r.Noise) = r.Noise.length * 3 := by simp only [regionF, cntF, halfF]; omega
  refine (markRegion_m r.Noise [.slice A6 r.Noise.length c6] _ q0 q6 _ ⟨_, _, _, q6, rfl, o6, l6, rfl, Nat.le_refl _⟩ (by omega) (by omega) (by first | omega | (simp <;> omega))).mono ?_
  rintro e w2 ⟨rfl, at2, t2⟩
  rw [hcs2]
  replace o0' := o0'.touch t2 (by omega)
  replace o7 := o7.touch t2 (by omega)
  replace hx := hx.trans (t2.mono (by omega) (by omega))
  have hzz2 := t2.size
  skip
  replace bP := bP.touch t2 (.inr (by omega))
  have cP2 := fun o => bP.cell o
  go_wp2_with fail
  have hcs3 : cntF (regionF r.Limits) = r.Limits.length * 3 := by simp only [regionF, cntF, halfF]; omega
  refine (markRegion_m r.Limits [.slice A7 r.Limits.length c7] _ q6 q7 _ ⟨_, _, _, q7, rfl, o7, l7, rfl, Nat.le_refl _⟩ (by omega) (by omega) (by first | omega | (simp <;> omega))).mono ?_
  rintro e w3 ⟨rfl, at3, t3⟩
  rw [hcs3]
  replace o0' := o0'.touch t3 (by omega)
  replace at2 := at2.touch t3 (by omega)
  replace hx := hx.trans (t3.mono (by omega) (by omega))
  have hzz3 := t3.size
  skip
  replace bP := bP.touch t3 (.inr (by omega))
  have cP3 := fun o => bP.cell o
  go_wp2
  go_ret
  refine ⟨ret_int (by omega), ?_, hx⟩
  obtain ⟨B6, d6, _, p6, e6, o6', l6', ee2, lle2⟩ := at2
  obtain ⟨hv6, rfl⟩ := List.cons.inj e6
  injection hv6 with ha6 _ hb6
  subst ha6 hb6
  obtain ⟨B7, d7, _, p7, e7, o7', l7', ee3, lle3⟩ := at3
  obtain ⟨hv7, rfl⟩ := List.cons.inj e7
  injection hv7 with ha7 _ hb7
  subst ha7 hb7
  exact ⟨_, _, _, q0, rfl, (by first | exact o0' | exact Mine.wide (lo' := lo) o0' (by omega) (Nat.le_refl _) | simpa [Int.add_assoc] using o0' | (have q := Mine.wide (lo' := lo) o0' (by omega) (Nat.le_refl _); simpa [Int.add_assoc] using q)), (by omega), _, rfl, _, rfl, _, rfl, _, rfl, _, rfl, _, _, _, p6, rfl, (by first | exact o6' | exact Mine.wide (lo' := q0) o6' (by omega) (Nat.le_refl _) | simpa [Int.add_assoc] using o6' | (have q := Mine.wide (lo' := q0) o6' (by omega) (Nat.le_refl _); simpa [Int.add_assoc] using q)), (by omega), _, _, _, p7, rfl, (by first | exact o7' | exact Mine.wide (lo' := p6) o7' (by omega) (Nat.le_refl _) | simpa [Int.add_assoc] using o7' | (have q := Mine.wide (lo' := p6) o7' (by omega) (Nat.le_refl _); simpa [Int.add_assoc] using q)), (by omega), rfl, by omega⟩
set_option maxHeartbeats 2000000 in
theorem heldRoom_m (r : Room) (us : List Value) (k0 : Int) (w : World) (h : AggRow w (markF (roomF r) k0) us) (h0 : 0 ≤ k0) (h1 : k0 + (cntF (roomF r) : Int) ≤ 1000000000000) :
    Calls Try.prog 25 #[.agg us.toArray, .int .i64 k0] w fun e w' => e = .returned (.int .i64 (k0 + (cntF (roomF r) : Int))) ∧ Ext w w' := by
  have hcnt : cntF (roomF r) = r.Map.length * 1 + r.Noise.length * 3 + r.Limits.length * 3 := by simp only [roomF, cntF, halfF, intF]; omega
  rw [hcnt] at h1 ⊢
  clear hcnt
  obtain ⟨A0, c0, _, rfl, r0, n0, m0, _, rfl, _, rfl, _, rfl, _, rfl, _, rfl, A6, c6, _, rfl, r6, n6, m6, A7, c7, _, rfl, r7, n7, m7, rfl⟩ := h
  have len0 : r.Map.length * 1 ≤ 1000000000000 := by omega
  have len6 : r.Noise.length * 3 ≤ 1000000000000 := by omega
  have len7 : r.Limits.length * 3 ≤ 1000000000000 := by omega
  have hy : Ext w (w.alloc (.cells #[.slice A0 r.Map.length c0, .int .i64 r.Div, .int .i64 r.Bx, .int .i64 r.By, .int .i64 r.Low, .int .i64 r.High, .slice A6 r.Noise.length c6, .slice A7 r.Limits.length c7] 27)) := (Ext.refl w).alloc _
  have bP := Blk.new w 27 #[.slice A0 r.Map.length c0, .int .i64 r.Div, .int .i64 r.Bx, .int .i64 r.By, .int .i64 r.Low, .int .i64 r.High, .slice A6 r.Noise.length c6, .slice A7 r.Limits.length c7]
  go_enter Try.func25, Try.ntmps25
  go_wp2_with fail
  refine (heldIntS_m _ _ _ _ _ (by first | exact r0.ext hy | (have := r0.ext hy; simpa [Int.add_assoc] using this)) (by omega) (by omega) (by omega)).mono ?_
  rintro e w' ⟨rfl, rfl⟩
  have hcs2 : cntF (regionF r.Noise) = r.Noise.length * 3 := by simp only [regionF, cntF, halfF]; omega
  go_wp2_with fail
  refine (heldRegion_m r.Noise [.slice A6 r.Noise.length c6] _ _ ⟨_, _, _, rfl, (by first | exact r6.ext hy | (have := r6.ext hy; simpa [Int.add_assoc] using this)), n6, m6, rfl⟩ (by omega) (by omega)).mono ?_
  rintro e w2 ⟨rfl, hx2⟩
  replace hy := hy.trans hx2
  replace bP := bP.ext hx2
  have cbP_9 := fun o => bP.cell o
  rw [hcs2]
  have hcs3 : cntF (regionF r.Limits) = r.Limits.length * 3 := by simp only [regionF, cntF, halfF]; omega
  go_wp2_with fail
  refine (heldRegion_m r.Limits [.slice A7 r.Limits.length c7] _ _ ⟨_, _, _, rfl, (by first | exact r7.ext hy | (have := r7.ext hy; simpa [Int.add_assoc] using this)), n7, m7, rfl⟩ (by omega) (by omega)).mono ?_
  rintro e w3 ⟨rfl, hx3⟩
  replace hy := hy.trans hx3
  replace bP := bP.ext hx3
  have cbP_10 := fun o => bP.cell o
  rw [hcs3]
  go_wp2
  go_ret
  exact ⟨ret_int (by omega), hy⟩
end Go.Proofs.Ytnkkfjlnjhmahaa
