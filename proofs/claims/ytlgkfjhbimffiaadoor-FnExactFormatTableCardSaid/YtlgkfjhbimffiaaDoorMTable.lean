/- Contracts of the helpers on Table: copies, comparisons, sizes, marks. (written by tools/structs.py) -/
import Derived.Test.YtlgkfjhbimffiaaDoorMs
namespace Go.Proofs.YtlgkfjhbimffiaaDoor
open Go.ChangeShapes Go.WideShapes Go.ChangeAt Go.RowKit
set_option linter.unusedVariables false
set_option maxRecDepth 100000

structure Table where
  X0 : Int
  Y0 : Int
  Step : Int
  Nx : Int
  Ny : Int
  Cells : List Int
def tableF (r : Table) : List Fd := [.i r.X0, .i r.Y0, .i r.Step, .i r.Nx, .i r.Ny, intF r.Cells]
theorem tableF_len (r : Table) : lenF (tableF r) = [r.Cells.length] := rfl
def tableFI (r : Table) : Prop := I64 r.X0 ∧ I64 r.Y0 ∧ I64 r.Step ∧ I64 r.Nx ∧ I64 r.Ny ∧ (∀ z ∈ r.Cells, I64 z)
theorem tableF_open {w : World} {vs : List Value} (h : KdAll Tryd.prog w [.i, .i, .i, .i, .i, .s 3] vs) : ∃ r : Table, AggRow w (tableF r) vs ∧ tableFI r := by
  obtain ⟨_, _, rfl, ⟨z0, rfl, hz0⟩, _, _, rfl, ⟨z1, rfl, hz1⟩, _, _, rfl, ⟨z2, rfl, hz2⟩, _, _, rfl, ⟨z3, rfl, hz3⟩, _, _, rfl, ⟨z4, rfl, hz4⟩, _, _, rfl, ⟨A5, n5, c5, zs5, rfl, hl5, hr5, hn5, hm5, hz5⟩, rfl⟩ := h
  rw [(by kernel_rfl : Tryd.prog.cellsOf 3 = 1), Nat.mul_one] at hl5
  subst hl5
  exact ⟨⟨z0, z1, z2, z3, z4, zs5⟩, ⟨_, rfl, _, rfl, _, rfl, _, rfl, _, rfl, _, _, _, rfl, hr5, hn5, hm5, rfl⟩, ⟨hz0, hz1, hz2, hz3, hz4, hz5⟩⟩
set_option maxHeartbeats 4000000 in
theorem toTable_m (r : Table) (vs : List Value) (w : World) (h : AggRow w (tableF r) vs) (hb : ∀ n ∈ lenF (tableF r), n ≤ 1048576) :
    Calls Tryd.prog 11 #[.agg vs.toArray] w fun e w' => ∃ us, e = .returned (.agg us.toArray) ∧ AggAt w' (tableF r) us w.heap.size w'.heap.size ∧ Ext w w' := by
  rw [tableF_len] at hb
  obtain ⟨_, rfl, _, rfl, _, rfl, _, rfl, _, rfl, A5, c5, _, rfl, r5, n5, m5, rfl⟩ := h
  have b5 : r.Cells.length ≤ 1048576 := hb _ (by simp)
  have hy : Ext w (((w.alloc (.cells #[.int .i64 r.X0, .int .i64 r.Y0, .int .i64 r.Step, .int .i64 r.Nx, .int .i64 r.Ny, .slice A5 r.Cells.length c5] 24)).alloc (.cells #[.int .i64 0, .int .i64 0, .int .i64 0, .int .i64 0, .int .i64 0, .slice none 0 0] 28)).alloc (.cells #[.int .i64 r.X0, .int .i64 r.Y0, .int .i64 r.Step, .int .i64 r.Nx, .int .i64 r.Ny, .slice none 0 0] 28)) := (((Ext.refl w).alloc _).alloc _).alloc _
  have bP : Blk (((w.alloc (.cells #[.int .i64 r.X0, .int .i64 r.Y0, .int .i64 r.Step, .int .i64 r.Nx, .int .i64 r.Ny, .slice A5 r.Cells.length c5] 24)).alloc (.cells #[.int .i64 0, .int .i64 0, .int .i64 0, .int .i64 0, .int .i64 0, .slice none 0 0] 28)).alloc (.cells #[.int .i64 r.X0, .int .i64 r.Y0, .int .i64 r.Step, .int .i64 r.Nx, .int .i64 r.Ny, .slice none 0 0] 28)) w.heap.size 24 #[.int .i64 r.X0, .int .i64 r.Y0, .int .i64 r.Step, .int .i64 r.Nx, .int .i64 r.Ny, .slice A5 r.Cells.length c5] := ((Blk.new w _ _).alloc _).alloc _
  have bR : Blk (((w.alloc (.cells #[.int .i64 r.X0, .int .i64 r.Y0, .int .i64 r.Step, .int .i64 r.Nx, .int .i64 r.Ny, .slice A5 r.Cells.length c5] 24)).alloc (.cells #[.int .i64 0, .int .i64 0, .int .i64 0, .int .i64 0, .int .i64 0, .slice none 0 0] 28)).alloc (.cells #[.int .i64 r.X0, .int .i64 r.Y0, .int .i64 r.Step, .int .i64 r.Nx, .int .i64 r.Ny, .slice none 0 0] 28)) (w.heap.size + 1) 28 #[.int .i64 0, .int .i64 0, .int .i64 0, .int .i64 0, .int .i64 0, .slice none 0 0] := by
    have := (Blk.new (w.alloc (.cells #[.int .i64 r.X0, .int .i64 r.Y0, .int .i64 r.Step, .int .i64 r.Nx, .int .i64 r.Ny, .slice A5 r.Cells.length c5] 24)) 28 #[.int .i64 0, .int .i64 0, .int .i64 0, .int .i64 0, .int .i64 0, .slice none 0 0]).alloc (.cells #[.int .i64 r.X0, .int .i64 r.Y0, .int .i64 r.Step, .int .i64 r.Nx, .int .i64 r.Ny, .slice none 0 0] 28)
    simpa only [World.size_alloc] using this
  have bO : Blk (((w.alloc (.cells #[.int .i64 r.X0, .int .i64 r.Y0, .int .i64 r.Step, .int .i64 r.Nx, .int .i64 r.Ny, .slice A5 r.Cells.length c5] 24)).alloc (.cells #[.int .i64 0, .int .i64 0, .int .i64 0, .int .i64 0, .int .i64 0, .slice none 0 0] 28)).alloc (.cells #[.int .i64 r.X0, .int .i64 r.Y0, .int .i64 r.Step, .int .i64 r.Nx, .int .i64 r.Ny, .slice none 0 0] 28)) (w.heap.size + 2) 28 #[.int .i64 r.X0, .int .i64 r.Y0, .int .i64 r.Step, .int .i64 r.Nx, .int .i64 r.Ny, .slice none 0 0] := by
    have := Blk.new ((w.alloc (.cells #[.int .i64 r.X0, .int .i64 r.Y0, .int .i64 r.Step, .int .i64 r.Nx, .int .i64 r.Ny, .slice A5 r.Cells.length c5] 24)).alloc (.cells #[.int .i64 0, .int .i64 0, .int .i64 0, .int .i64 0, .int .i64 0, .slice none 0 0] 28)) 28 #[.int .i64 r.X0, .int .i64 r.Y0, .int .i64 r.Step, .int .i64 r.Nx, .int .i64 r.Ny, .slice none 0 0]
    simpa only [World.size_alloc] using this
  have cP := fun o => bP.cell o
  have fP := fun o => bP.frozen o
  have cR := fun o => bR.cell o
  have fR := fun o => bR.frozen o
  have cO := fun o => bO.cell o
  have fO := fun o => bO.frozen o
  go_enter Tryd.func11, Tryd.ntmps11
  go_wp2_with fail
  refine (toIntS_m _ _ _ r.Cells _ rfl (r5.ext (hy)) b5).mono ?_
  rintro e w1 ⟨g5, rfl, o5, hx1⟩
  have hz1 : w.heap.size + 3 ≤ w1.heap.size := by have := Ext.size hx1; simp at this; omega
  replace hy := Ext.trans (hy) hx1
  replace bP := Blk.ext (bP) hx1
  replace bR := Blk.ext (bR) hx1
  replace bO : Blk w1 (w.heap.size + 2) 28 #[.int .i64 r.X0, .int .i64 r.Y0, .int .i64 r.Step, .int .i64 r.Nx, .int .i64 r.Ny, .slice none 0 0] := Blk.ext (bO) hx1
  have cP1 := fun o => bP.cell o
  have fP1 := fun o => bP.frozen o
  have cR1 := fun o => bR.cell o
  have fR1 := fun o => bR.frozen o
  have cO1 := fun o => bO.cell o
  have fO1 := fun o => bO.frozen o
  go_wp2
  refine bodyPost_ret (v := .agg #[.int .i64 r.X0, .int .i64 r.Y0, .int .i64 r.Step, .int .i64 r.Nx, .int .i64 r.Ny, .slice (some ⟨g5, 0, none⟩) r.Cells.length r.Cells.length]) (by simp [results, Tryd.results11, go_sem, cR1]) rfl ⟨[.int .i64 r.X0, .int .i64 r.Y0, .int .i64 r.Step, .int .i64 r.Nx, .int .i64 r.Ny, .slice (some ⟨g5, 0, none⟩) r.Cells.length r.Cells.length], rfl, ?_, ?_⟩
  · exact ⟨_, rfl, _, rfl, _, rfl, _, rfl, _, rfl, _, _, _, w1.heap.size, rfl, Mine.wide (o5 |>.setB (.inl (by simp <;> omega)) _ |>.setB (.inl (by simp <;> omega)) _ |>.setB (.inl (by simp <;> omega)) _ |>.setB (.inl (by simp <;> omega)) _ |>.setB (.inl (by simp <;> omega)) _ |>.setB (.inl (by simp <;> omega)) _ |>.setB (.inl (by simp <;> omega)) _) (by simp <;> omega) (Nat.le_refl _), by omega, rfl, by simp⟩
  · exact (hy |>.setCell (by simp <;> omega) _ |>.setCell (by simp <;> omega) _ |>.setCell (by simp <;> omega) _ |>.setCell (by simp <;> omega) _ |>.setCell (by simp <;> omega) _ |>.setCell (by simp <;> omega) _ |>.setCell (by simp <;> omega) _)
set_option maxHeartbeats 1000000 in
theorem szTable_m (r : Table) (vs : List Value) (left : Int) (w : World) (h : AggRow w (tableF r) vs) (h0 : 0 ≤ left) (hl : left ≤ 1048576) :
    Calls Tryd.prog 9 #[.agg vs.toArray, .int .i64 left] w fun e w' => e = .returned (.int .i64 (szL (lenF (tableF r)) left)) ∧ Ext w w' := by
  rw [tableF_len]
  obtain ⟨_, rfl, _, rfl, _, rfl, _, rfl, _, rfl, A5, c5, _, rfl, r5, n5, m5, rfl⟩ := h
  have hy : Ext w (w.alloc (.cells #[.int .i64 r.X0, .int .i64 r.Y0, .int .i64 r.Step, .int .i64 r.Nx, .int .i64 r.Ny, .slice A5 r.Cells.length c5] 24)) := (Ext.refl w).alloc _
  have bP := Blk.new w 24 #[.int .i64 r.X0, .int .i64 r.Y0, .int .i64 r.Step, .int .i64 r.Nx, .int .i64 r.Ny, .slice A5 r.Cells.length c5]
  go_enter Tryd.func9, Tryd.ntmps9
  have E0 : Hid (szL [r.Cells.length] left = szL ([r.Cells.length] ++ []) left) := rfl
  obtain ⟨l0, hl0⟩ : ∃ l, szL ([r.Cells.length]) left = l := ⟨_, rfl⟩
  replace E0 := Lib.hid (E0.out.trans (szL_app' (a := [r.Cells.length]) (b := []) (by omega) hl0))
  have hbd0 := szL_bd ([r.Cells.length]) left (by omega)
  rw [hl0] at hbd0
  have HL0 := Lib.hid hl0
  clear hl0
  go_wp2_with fail
  refine (szIntS_any _ _ _ left _ (by omega) (by omega) (Nat.le_trans n5 m5)).mono ?_
  rintro e w' ⟨rfl, rfl⟩
  rw [← szL_one, HL0.out]
  obtain ⟨hp0, hq0⟩ := hbd0
  by_cases hc0 : l0 < 0
  · have E1 := Lib.hid (E0.out.trans (if_pos hc0))
    clear E0
    go_wp2
    go_ret
    exact ⟨ret_int E1.out.symm, hy⟩
  replace E0 := Lib.hid (E0.out.trans (if_neg hc0))
  go_wp2
  go_ret
  exact ⟨ret_int (show szL [r.Cells.length] left = l0 from E0.out).symm, hy⟩
set_option maxHeartbeats 2000000 in
theorem eqTable_same (r : Table) (us vs : List Value) (w : World) (hu : AggRow w (tableF r) us) (hv : AggRow w (tableF r) vs) :
    Calls Tryd.prog 14 #[.agg us.toArray, .agg vs.toArray] w fun e w' => e = .returned (.bool true) ∧ Ext w w' := by
  obtain ⟨_, rfl, _, rfl, _, rfl, _, rfl, _, rfl, Ax5, cx5, _, rfl, rx5, nx5, mx5, rfl⟩ := hu
  obtain ⟨_, rfl, _, rfl, _, rfl, _, rfl, _, rfl, Ay5, cy5, _, rfl, ry5, ny5, my5, rfl⟩ := hv
  have hy : Ext w ((w.alloc (.cells #[.int .i64 r.X0, .int .i64 r.Y0, .int .i64 r.Step, .int .i64 r.Nx, .int .i64 r.Ny, .slice Ax5 r.Cells.length cx5] 28)).alloc (.cells #[.int .i64 r.X0, .int .i64 r.Y0, .int .i64 r.Step, .int .i64 r.Nx, .int .i64 r.Ny, .slice Ay5 r.Cells.length cy5] 28)) := ((Ext.refl w).alloc _).alloc _
  have bP := (Blk.new w 28 #[.int .i64 r.X0, .int .i64 r.Y0, .int .i64 r.Step, .int .i64 r.Nx, .int .i64 r.Ny, .slice Ax5 r.Cells.length cx5]).alloc (.cells #[.int .i64 r.X0, .int .i64 r.Y0, .int .i64 r.Step, .int .i64 r.Nx, .int .i64 r.Ny, .slice Ay5 r.Cells.length cy5] 28)
  have bQ : Blk ((w.alloc (.cells #[.int .i64 r.X0, .int .i64 r.Y0, .int .i64 r.Step, .int .i64 r.Nx, .int .i64 r.Ny, .slice Ax5 r.Cells.length cx5] 28)).alloc (.cells #[.int .i64 r.X0, .int .i64 r.Y0, .int .i64 r.Step, .int .i64 r.Nx, .int .i64 r.Ny, .slice Ay5 r.Cells.length cy5] 28)) (w.heap.size + 1) 28 #[.int .i64 r.X0, .int .i64 r.Y0, .int .i64 r.Step, .int .i64 r.Nx, .int .i64 r.Ny, .slice Ay5 r.Cells.length cy5] := by
    have := Blk.new (w.alloc (.cells #[.int .i64 r.X0, .int .i64 r.Y0, .int .i64 r.Step, .int .i64 r.Nx, .int .i64 r.Ny, .slice Ax5 r.Cells.length cx5] 28)) 28 #[.int .i64 r.X0, .int .i64 r.Y0, .int .i64 r.Step, .int .i64 r.Nx, .int .i64 r.Ny, .slice Ay5 r.Cells.length cy5]
    simpa only [World.size_alloc] using this
  go_enter Tryd.func14, Tryd.ntmps14
  go_wp2_with fail
  refine (eqIntS_same _ _ _ _ _ r.Cells _ rfl (rx5.ext hy) (ry5.ext hy) (Nat.le_trans nx5 mx5)).mono ?_
  rintro e w1 ⟨rfl, hx1⟩
  replace hy := hy.trans hx1
  replace bP := bP.ext hx1
  replace bQ := bQ.ext hx1
  have cbP_1 := fun o => bP.cell o
  have cbQ_2 := fun o => bQ.cell o
  go_wp2
  go_ret
  exact ⟨rfl, hy⟩
set_option maxHeartbeats 2000000 in
theorem markTable_m (r : Table) (us : List Value) (k0 : Int) (lo hi : Nat) (w : World) (h : AggAt w (tableF r) us lo hi) (h0 : 0 ≤ k0) (h1 : k0 + (cntF (tableF r) : Int) ≤ 1000000000000) (hhi : hi ≤ w.heap.size) :
    Calls Tryd.prog 15 #[.agg us.toArray, .int .i64 k0] w fun e w' => e = .returned (.int .i64 (k0 + (cntF (tableF r) : Int))) ∧ AggAt w' (markF (tableF r) k0) us lo hi ∧ Touch lo hi w w' := by
  have hcnt : cntF (tableF r) = r.Cells.length * 1 := by simp only [tableF, cntF, intF]; omega
  rw [hcnt] at h1 ⊢
  clear hcnt
  obtain ⟨_, rfl, _, rfl, _, rfl, _, rfl, _, rfl, A5, c5, _, q5, rfl, o5, l5, rfl, le⟩ := h
  have len5 : r.Cells.length * 1 ≤ 1000000000000 := by omega
  have hx : Touch lo hi w (w.alloc (.cells #[.int .i64 r.X0, .int .i64 r.Y0, .int .i64 r.Step, .int .i64 r.Nx, .int .i64 r.Ny, .slice A5 r.Cells.length c5] 28)) := (Touch.refl lo hi w).alloc _
  have bP := Blk.new w 28 #[.int .i64 r.X0, .int .i64 r.Y0, .int .i64 r.Step, .int .i64 r.Nx, .int .i64 r.Ny, .slice A5 r.Cells.length c5]
  have cP := fun o => bP.cell o
  replace o5 := o5.alloc (.cells #[.int .i64 r.X0, .int .i64 r.Y0, .int .i64 r.Step, .int .i64 r.Nx, .int .i64 r.Ny, .slice A5 r.Cells.length c5] 28)
  go_enter Tryd.func15, Tryd.ntmps15
  go_wp2_with fail
  refine (markIntS_m _ _ _ _ _ _ _ _ o5 (by omega) (by omega) (by omega)).mono ?_
  rintro e w1 ⟨rfl, o5', t1⟩
  replace hx := hx.trans (t1.mono (by omega) (by omega))
  have hzz1 := t1.size
  simp only [World.size_alloc] at hzz1
  replace bP := bP.touch t1 (.inr (by omega))
  have cP1 := fun o => bP.cell o
  go_wp2
  go_ret
  refine ⟨ret_int (by omega), ?_, hx⟩
  exact ⟨_, rfl, _, rfl, _, rfl, _, rfl, _, rfl, _, _, _, q5, rfl, (by first | exact o5' | simpa [Int.add_assoc] using o5'), l5, rfl, by omega⟩
end Go.Proofs.YtlgkfjhbimffiaaDoor
