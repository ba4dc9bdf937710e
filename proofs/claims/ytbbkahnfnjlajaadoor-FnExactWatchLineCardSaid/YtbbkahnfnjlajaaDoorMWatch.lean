/- Contracts of the helpers on Watch: copies, comparisons, sizes, marks. (written by tools/structs.py) -/
import Derived.Test.YtbbkahnfnjlajaaDoorMRegion
import Derived.Test.YtbbkahnfnjlajaaDoorMRoom
namespace Go.Proofs.YtbbkahnfnjlajaaDoor
open Go.ChangeShapes Go.WideShapes Go.ChangeAt Go.RowKit
set_option linter.unusedVariables false
set_option maxRecDepth 100000

structure Watch where
  Room : Room
  Region : List Half
  Log : List Int
def watchF (r : Watch) : List Fd := [intF r.Room.Map, .i r.Room.Div, .i r.Room.Bx, .i r.Room.By, .i r.Room.Low, .i r.Room.High, halfF r.Room.Noise, halfF r.Room.Limits, halfF r.Region, intF r.Log]
theorem watchF_len (r : Watch) : lenF (watchF r) = [r.Room.Map.length, r.Room.Noise.length, r.Room.Limits.length, r.Region.length, r.Log.length] := rfl
def watchFI (r : Watch) : Prop := (∀ z ∈ r.Room.Map, I64 z) ∧ I64 r.Room.Div ∧ I64 r.Room.Bx ∧ I64 r.Room.By ∧ I64 r.Room.Low ∧ I64 r.Room.High ∧ (∀ x ∈ r.Room.Noise, ∀ z ∈ Half.ints x, I64 z) ∧ (∀ x ∈ r.Room.Limits, ∀ z ∈ Half.ints x, I64 z) ∧ (∀ x ∈ r.Region, ∀ z ∈ Half.ints x, I64 z) ∧ (∀ z ∈ r.Log, I64 z)
theorem watchF_open {w : World} {vs : List Value} (h : KdAll Tryd.prog w [.s 3, .i, .i, .i, .i, .i, .s 57, .s 57, .s 57, .s 3] vs) : ∃ r : Watch, AggRow w (watchF r) vs ∧ watchFI r := by
  obtain ⟨_, _, rfl, ⟨A0, n0, c0, zs0, rfl, hl0, hr0, hn0, hm0, hz0⟩, _, _, rfl, ⟨z1, rfl, hz1⟩, _, _, rfl, ⟨z2, rfl, hz2⟩, _, _, rfl, ⟨z3, rfl, hz3⟩, _, _, rfl, ⟨z4, rfl, hz4⟩, _, _, rfl, ⟨z5, rfl, hz5⟩, _, _, rfl, ⟨A6, n6, c6, zs6, rfl, hl6, hr6, hn6, hm6, hz6⟩, _, _, rfl, ⟨A7, n7, c7, zs7, rfl, hl7, hr7, hn7, hm7, hz7⟩, _, _, rfl, ⟨A8, n8, c8, zs8, rfl, hl8, hr8, hn8, hm8, hz8⟩, _, _, rfl, ⟨A9, n9, c9, zs9, rfl, hl9, hr9, hn9, hm9, hz9⟩, rfl⟩ := h
  rw [(by kernel_rfl : Tryd.prog.cellsOf 3 = 1), Nat.mul_one] at hl0
  subst hl0
  rw [(by kernel_rfl : Tryd.prog.cellsOf 57 = 3)] at hl6
  obtain ⟨xs6, hll6, rfl⟩ := unflat Half.unints n6 zs6 hl6
  subst hll6
  rw [(by kernel_rfl : Tryd.prog.cellsOf 57 = 3)] at hl7
  obtain ⟨xs7, hll7, rfl⟩ := unflat Half.unints n7 zs7 hl7
  subst hll7
  rw [(by kernel_rfl : Tryd.prog.cellsOf 57 = 3)] at hl8
  obtain ⟨xs8, hll8, rfl⟩ := unflat Half.unints n8 zs8 hl8
  subst hll8
  rw [(by kernel_rfl : Tryd.prog.cellsOf 3 = 1), Nat.mul_one] at hl9
  subst hl9
  exact ⟨⟨⟨zs0, z1, z2, z3, z4, z5, xs6, xs7⟩, xs8, zs9⟩, ⟨_, _, _, rfl, hr0, hn0, hm0, _, rfl, _, rfl, _, rfl, _, rfl, _, rfl, _, _, _, rfl, hr6, hn6, hm6, _, _, _, rfl, hr7, hn7, hm7, _, _, _, rfl, hr8, hn8, hm8, _, _, _, rfl, hr9, hn9, hm9, rfl⟩, ⟨hz0, hz1, hz2, hz3, hz4, hz5, (fun x hx z hz => hz6 z (by unfold flat; exact List.mem_flatMap.2 ⟨x, hx, hz⟩)), (fun x hx z hz => hz7 z (by unfold flat; exact List.mem_flatMap.2 ⟨x, hx, hz⟩)), (fun x hx z hz => hz8 z (by unfold flat; exact List.mem_flatMap.2 ⟨x, hx, hz⟩)), hz9⟩⟩
set_option maxHeartbeats 4000000 in
theorem toWatch_m (r : Watch) (vs : List Value) (w : World) (h : AggRow w (watchF r) vs) (hb : ∀ n ∈ lenF (watchF r), n ≤ 1048576) :
    Calls Tryd.prog 43 #[.agg vs.toArray] w fun e w' => ∃ us, e = .returned (.agg us.toArray) ∧ AggAt w' (watchF r) us w.heap.size w'.heap.size ∧ Ext w w' := by
  rw [watchF_len] at hb
  obtain ⟨A0, c0, _, rfl, r0, n0, m0, _, rfl, _, rfl, _, rfl, _, rfl, _, rfl, A6, c6, _, rfl, r6, n6, m6, A7, c7, _, rfl, r7, n7, m7, A8, c8, _, rfl, r8, n8, m8, A9, c9, _, rfl, r9, n9, m9, rfl⟩ := h
  have b0 : r.Room.Map.length ≤ 1048576 := hb _ (by simp)
  have b6 : r.Room.Noise.length ≤ 1048576 := hb _ (by simp)
  have b7 : r.Room.Limits.length ≤ 1048576 := hb _ (by simp)
  have b8 : r.Region.length ≤ 1048576 := hb _ (by simp)
  have b9 : r.Log.length ≤ 1048576 := hb _ (by simp)
  have hy : Ext w (((w.alloc (.cells #[.slice A0 r.Room.Map.length c0, .int .i64 r.Room.Div, .int .i64 r.Room.Bx, .int .i64 r.Room.By, .int .i64 r.Room.Low, .int .i64 r.Room.High, .slice A6 r.Room.Noise.length c6, .slice A7 r.Room.Limits.length c7, .slice A8 r.Region.length c8, .slice A9 r.Log.length c9] 83)).alloc (.cells #[.slice none 0 0, .int .i64 0, .int .i64 0, .int .i64 0, .int .i64 0, .int .i64 0, .slice none 0 0, .slice none 0 0, .slice none 0 0, .slice none 0 0] 92)).alloc (.cells #[.slice none 0 0, .int .i64 0, .int .i64 0, .int .i64 0, .int .i64 0, .int .i64 0, .slice none 0 0, .slice none 0 0, .slice none 0 0, .slice none 0 0] 92)) := (((Ext.refl w).alloc _).alloc _).alloc _
  have bP : Blk (((w.alloc (.cells #[.slice A0 r.Room.Map.length c0, .int .i64 r.Room.Div, .int .i64 r.Room.Bx, .int .i64 r.Room.By, .int .i64 r.Room.Low, .int .i64 r.Room.High, .slice A6 r.Room.Noise.length c6, .slice A7 r.Room.Limits.length c7, .slice A8 r.Region.length c8, .slice A9 r.Log.length c9] 83)).alloc (.cells #[.slice none 0 0, .int .i64 0, .int .i64 0, .int .i64 0, .int .i64 0, .int .i64 0, .slice none 0 0, .slice none 0 0, .slice none 0 0, .slice none 0 0] 92)).alloc (.cells #[.slice none 0 0, .int .i64 0, .int .i64 0, .int .i64 0, .int .i64 0, .int .i64 0, .slice none 0 0, .slice none 0 0, .slice none 0 0, .slice none 0 0] 92)) w.heap.size 83 #[.slice A0 r.Room.Map.length c0, .int .i64 r.Room.Div, .int .i64 r.Room.Bx, .int .i64 r.Room.By, .int .i64 r.Room.Low, .int .i64 r.Room.High, .slice A6 r.Room.Noise.length c6, .slice A7 r.Room.Limits.length c7, .slice A8 r.Region.length c8, .slice A9 r.Log.length c9] := ((Blk.new w _ _).alloc _).alloc _
  have bR : Blk (((w.alloc (.cells #[.slice A0 r.Room.Map.length c0, .int .i64 r.Room.Div, .int .i64 r.Room.Bx, .int .i64 r.Room.By, .int .i64 r.Room.Low, .int .i64 r.Room.High, .slice A6 r.Room.Noise.length c6, .slice A7 r.Room.Limits.length c7, .slice A8 r.Region.length c8, .slice A9 r.Log.length c9] 83)).alloc (.cells #[.slice none 0 0, .int .i64 0, .int .i64 0, .int .i64 0, .int .i64 0, .int .i64 0, .slice none 0 0, .slice none 0 0, .slice none 0 0, .slice none 0 0] 92)).alloc (.cells #[.slice none 0 0, .int .i64 0, .int .i64 0, .int .i64 0, .int .i64 0, .int .i64 0, .slice none 0 0, .slice none 0 0, .slice none 0 0, .slice none 0 0] 92)) (w.heap.size + 1) 92 #[.slice none 0 0, .int .i64 0, .int .i64 0, .int .i64 0, .int .i64 0, .int .i64 0, .slice none 0 0, .slice none 0 0, .slice none 0 0, .slice none 0 0] := by
    have := (Blk.new (w.alloc (.cells #[.slice A0 r.Room.Map.length c0, .int .i64 r.Room.Div, .int .i64 r.Room.Bx, .int .i64 r.Room.By, .int .i64 r.Room.Low, .int .i64 r.Room.High, .slice A6 r.Room.Noise.length c6, .slice A7 r.Room.Limits.length c7, .slice A8 r.Region.length c8, .slice A9 r.Log.length c9] 83)) 92 #[.slice none 0 0, .int .i64 0, .int .i64 0, .int .i64 0, .int .i64 0, .int .i64 0, .slice none 0 0, .slice none 0 0, .slice none 0 0, .slice none 0 0]).alloc (.cells #[.slice none 0 0, .int .i64 0, .int .i64 0, .int .i64 0, .int .i64 0, .int .i64 0, .slice none 0 0, .slice none 0 0, .slice none 0 0, .slice none 0 0] 92)
    simpa only [World.size_alloc] using this
  have bO : Blk (((w.alloc (.cells #[.slice A0 r.Room.Map.length c0, .int .i64 r.Room.Div, .int .i64 r.Room.Bx, .int .i64 r.Room.By, .int .i64 r.Room.Low, .int .i64 r.Room.High, .slice A6 r.Room.Noise.length c6, .slice A7 r.Room.Limits.length c7, .slice A8 r.Region.length c8, .slice A9 r.Log.length c9] 83)).alloc (.cells #[.slice none 0 0, .int .i64 0, .int .i64 0, .int .i64 0, .int .i64 0, .int .i64 0, .slice none 0 0, .slice none 0 0, .slice none 0 0, .slice none 0 0] 92)).alloc (.cells #[.slice none 0 0, .int .i64 0, .int .i64 0, .int .i64 0, .int .i64 0, .int .i64 0, .slice none 0 0, .slice none 0 0, .slice none 0 0, .slice none 0 0] 92)) (w.heap.size + 2) 92 #[.slice none 0 0, .int .i64 0, .int .i64 0, .int .i64 0, .int .i64 0, .int .i64 0, .slice none 0 0, .slice none 0 0, .slice none 0 0, .slice none 0 0] := by
    have := Blk.new ((w.alloc (.cells #[.slice A0 r.Room.Map.length c0, .int .i64 r.Room.Div, .int .i64 r.Room.Bx, .int .i64 r.Room.By, .int .i64 r.Room.Low, .int .i64 r.Room.High, .slice A6 r.Room.Noise.length c6, .slice A7 r.Room.Limits.length c7, .slice A8 r.Region.length c8, .slice A9 r.Log.length c9] 83)).alloc (.cells #[.slice none 0 0, .int .i64 0, .int .i64 0, .int .i64 0, .int .i64 0, .int .i64 0, .slice none 0 0, .slice none 0 0, .slice none 0 0, .slice none 0 0] 92)) 92 #[.slice none 0 0, .int .i64 0, .int .i64 0, .int .i64 0, .int .i64 0, .int .i64 0, .slice none 0 0, .slice none 0 0, .slice none 0 0, .slice none 0 0]
    simpa only [World.size_alloc] using this
  have cP := fun o => bP.cell o
  have fP := fun o => bP.frozen o
  have cR := fun o => bR.cell o
  have fR := fun o => bR.frozen o
  have cO := fun o => bO.cell o
  have fO := fun o => bO.frozen o
  go_enter Tryd.func43, Tryd.ntmps43
  go_wp2_with fail
  refine (toRoom_m r.Room [.slice A0 r.Room.Map.length c0, .int .i64 r.Room.Div, .int .i64 r.Room.Bx, .int .i64 r.Room.By, .int .i64 r.Room.Low, .int .i64 r.Room.High, .slice A6 r.Room.Noise.length c6, .slice A7 r.Room.Limits.length c7] _ ⟨_, _, _, rfl, r0.ext (hy), n0, m0, _, rfl, _, rfl, _, rfl, _, rfl, _, rfl, _, _, _, rfl, r6.ext (hy), n6, m6, _, _, _, rfl, r7.ext (hy), n7, m7, rfl⟩ (by rw [roomF_len]; simp; omega)).mono ?_
  rintro e w1 ⟨us1, rfl, hat1, hx1⟩
  obtain ⟨A_0, c_0, _, q0, rfl, o0, l0, _, rfl, _, rfl, _, rfl, _, rfl, _, rfl, A_6, c_6, _, q6, rfl, o6, l6, A_7, c_7, _, q7, rfl, o7, l7, rfl, le1⟩ := hat1
  try simp at l0
  have hz1 : w.heap.size + 3 ≤ w1.heap.size := by have := Ext.size hx1; simp at this; omega
  replace hy := Ext.trans (hy) hx1
  replace bP := Blk.ext (bP) hx1
  replace bR := Blk.ext (bR) hx1
  replace bO : Blk w1 (w.heap.size + 2) 92 #[.slice none 0 0, .int .i64 0, .int .i64 0, .int .i64 0, .int .i64 0, .int .i64 0, .slice none 0 0, .slice none 0 0, .slice none 0 0, .slice none 0 0] := Blk.ext (bO) hx1
  have cP1 := fun o => bP.cell o
  have fP1 := fun o => bP.frozen o
  have cR1 := fun o => bR.cell o
  have fR1 := fun o => bR.frozen o
  have cO1 := fun o => bO.cell o
  have fO1 := fun o => bO.frozen o
  go_wp2_with fail
  refine (toRegion_m r.Region [.slice A8 r.Region.length c8] _ ⟨_, _, _, rfl, r8.ext (hy |>.setCell (by simp <;> omega) _ |>.setCell (by simp <;> omega) _ |>.setCell (by simp <;> omega) _ |>.setCell (by simp <;> omega) _ |>.setCell (by simp <;> omega) _ |>.setCell (by simp <;> omega) _ |>.setCell (by simp <;> omega) _ |>.setCell (by simp <;> omega) _), n8, m8, rfl⟩ (by rw [regionF_len]; simp; omega)).mono ?_
  rintro e w2 ⟨us2, rfl, hat2, hx2⟩
  obtain ⟨A_8, c_8, _, q8, rfl, o8, l8, rfl, le2⟩ := hat2
  try simp at l8
  have hz2 : w1.heap.size ≤ w2.heap.size := by have := Ext.size hx2; simp at this; omega
  replace hy := Ext.trans (hy |>.setCell (by simp <;> omega) _ |>.setCell (by simp <;> omega) _ |>.setCell (by simp <;> omega) _ |>.setCell (by simp <;> omega) _ |>.setCell (by simp <;> omega) _ |>.setCell (by simp <;> omega) _ |>.setCell (by simp <;> omega) _ |>.setCell (by simp <;> omega) _) hx2
  replace bP := Blk.ext (bP |>.far (by simp <;> omega) _ |>.far (by simp <;> omega) _ |>.far (by simp <;> omega) _ |>.far (by simp <;> omega) _ |>.far (by simp <;> omega) _ |>.far (by simp <;> omega) _ |>.far (by simp <;> omega) _ |>.far (by simp <;> omega) _) hx2
  replace bR := Blk.ext (bR |>.far (by simp <;> omega) _ |>.far (by simp <;> omega) _ |>.far (by simp <;> omega) _ |>.far (by simp <;> omega) _ |>.far (by simp <;> omega) _ |>.far (by simp <;> omega) _ |>.far (by simp <;> omega) _ |>.far (by simp <;> omega) _) hx2
  replace bO : Blk w2 (w.heap.size + 2) 92 #[.slice A_0 r.Room.Map.length c_0, .int .i64 r.Room.Div, .int .i64 r.Room.Bx, .int .i64 r.Room.By, .int .i64 r.Room.Low, .int .i64 r.Room.High, .slice A_6 r.Room.Noise.length c_6, .slice A_7 r.Room.Limits.length c_7, .slice none 0 0, .slice none 0 0] := Blk.ext (bO |>.set_ 0 (.slice A_0 r.Room.Map.length c_0) |>.set_ 1 (.int .i64 r.Room.Div) |>.set_ 2 (.int .i64 r.Room.Bx) |>.set_ 3 (.int .i64 r.Room.By) |>.set_ 4 (.int .i64 r.Room.Low) |>.set_ 5 (.int .i64 r.Room.High) |>.set_ 6 (.slice A_6 r.Room.Noise.length c_6) |>.set_ 7 (.slice A_7 r.Room.Limits.length c_7)) hx2
  replace o0 := Mine.ext (o0 |>.setB (.inl (by simp <;> omega)) _ |>.setB (.inl (by simp <;> omega)) _ |>.setB (.inl (by simp <;> omega)) _ |>.setB (.inl (by simp <;> omega)) _ |>.setB (.inl (by simp <;> omega)) _ |>.setB (.inl (by simp <;> omega)) _ |>.setB (.inl (by simp <;> omega)) _ |>.setB (.inl (by simp <;> omega)) _) hx2
  replace o6 := Mine.ext (o6 |>.setB (.inl (by simp <;> omega)) _ |>.setB (.inl (by simp <;> omega)) _ |>.setB (.inl (by simp <;> omega)) _ |>.setB (.inl (by simp <;> omega)) _ |>.setB (.inl (by simp <;> omega)) _ |>.setB (.inl (by simp <;> omega)) _ |>.setB (.inl (by simp <;> omega)) _ |>.setB (.inl (by simp <;> omega)) _) hx2
  replace o7 := Mine.ext (o7 |>.setB (.inl (by simp <;> omega)) _ |>.setB (.inl (by simp <;> omega)) _ |>.setB (.inl (by simp <;> omega)) _ |>.setB (.inl (by simp <;> omega)) _ |>.setB (.inl (by simp <;> omega)) _ |>.setB (.inl (by simp <;> omega)) _ |>.setB (.inl (by simp <;> omega)) _ |>.setB (.inl (by simp <;> omega)) _) hx2
  have cP2 := fun o => bP.cell o
  have fP2 := fun o => bP.frozen o
  have cR2 := fun o => bR.cell o
  have fR2 := fun o => bR.frozen o
  have cO2 := fun o => bO.cell o
  have fO2 := fun o => bO.frozen o
  go_wp2_with fail
  refine (toIntS_m _ _ _ r.Log _ rfl (r9.ext (hy |>.setCell (by simp <;> omega) _)) b9).mono ?_
  rintro e w3 ⟨g9, rfl, o9, hx3⟩
  have hz3 : w2.heap.size ≤ w3.heap.size := by have := Ext.size hx3; simp at this; omega
  replace hy := Ext.trans (hy |>.setCell (by simp <;> omega) _) hx3
  replace bP := Blk.ext (bP |>.far (by simp <;> omega) _) hx3
  replace bR := Blk.ext (bR |>.far (by simp <;> omega) _) hx3
  replace bO : Blk w3 (w.heap.size + 2) 92 #[.slice A_0 r.Room.Map.length c_0, .int .i64 r.Room.Div, .int .i64 r.Room.Bx, .int .i64 r.Room.By, .int .i64 r.Room.Low, .int .i64 r.Room.High, .slice A_6 r.Room.Noise.length c_6, .slice A_7 r.Room.Limits.length c_7, .slice A_8 r.Region.length c_8, .slice none 0 0] := Blk.ext (bO |>.set_ 8 (.slice A_8 r.Region.length c_8)) hx3
  replace o0 := Mine.ext (o0 |>.setB (.inl (by simp <;> omega)) _) hx3
  replace o6 := Mine.ext (o6 |>.setB (.inl (by simp <;> omega)) _) hx3
  replace o7 := Mine.ext (o7 |>.setB (.inl (by simp <;> omega)) _) hx3
  replace o8 := Mine.ext (o8 |>.setB (.inl (by simp <;> omega)) _) hx3
  have cP3 := fun o => bP.cell o
  have fP3 := fun o => bP.frozen o
  have cR3 := fun o => bR.cell o
  have fR3 := fun o => bR.frozen o
  have cO3 := fun o => bO.cell o
  have fO3 := fun o => bO.frozen o
  go_wp2
  refine bodyPost_ret (v := .agg #[.slice A_0 r.Room.Map.length c_0, .int .i64 r.Room.Div, .int .i64 r.Room.Bx, .int .i64 r.Room.By, .int .i64 r.Room.Low, .int .i64 r.Room.High, .slice A_6 r.Room.Noise.length c_6, .slice A_7 r.Room.Limits.length c_7, .slice A_8 r.Region.length c_8, .slice (some ⟨g9, 0, none⟩) r.Log.length r.Log.length]) (by simp [results, Tryd.results43, go_sem, cR3]) rfl ⟨[.slice A_0 r.Room.Map.length c_0, .int .i64 r.Room.Div, .int .i64 r.Room.Bx, .int .i64 r.Room.By, .int .i64 r.Room.Low, .int .i64 r.Room.High, .slice A_6 r.Room.Noise.length c_6, .slice A_7 r.Room.Limits.length c_7, .slice A_8 r.Region.length c_8, .slice (some ⟨g9, 0, none⟩) r.Log.length r.Log.length], rfl, ?_, ?_⟩
  · exact ⟨_, _, _, q0, rfl, Mine.wide (o0 |>.setB (.inl (by simp <;> omega)) _ |>.setB (.inl (by simp <;> omega)) _ |>.setB (.inl (by simp <;> omega)) _ |>.setB (.inl (by simp <;> omega)) _ |>.setB (.inl (by simp <;> omega)) _ |>.setB (.inl (by simp <;> omega)) _ |>.setB (.inl (by simp <;> omega)) _ |>.setB (.inl (by simp <;> omega)) _ |>.setB (.inl (by simp <;> omega)) _ |>.setB (.inl (by simp <;> omega)) _ |>.setB (.inl (by simp <;> omega)) _) (by simp at * <;> omega) (by omega), by simp at * <;> omega, _, rfl, _, rfl, _, rfl, _, rfl, _, rfl, _, _, _, q6, rfl, Mine.wide (o6 |>.setB (.inl (by simp <;> omega)) _ |>.setB (.inl (by simp <;> omega)) _ |>.setB (.inl (by simp <;> omega)) _ |>.setB (.inl (by simp <;> omega)) _ |>.setB (.inl (by simp <;> omega)) _ |>.setB (.inl (by simp <;> omega)) _ |>.setB (.inl (by simp <;> omega)) _ |>.setB (.inl (by simp <;> omega)) _ |>.setB (.inl (by simp <;> omega)) _ |>.setB (.inl (by simp <;> omega)) _ |>.setB (.inl (by simp <;> omega)) _) (by simp at * <;> omega) (by omega), by simp at * <;> omega, _, _, _, w1.heap.size, rfl, Mine.wide (o7 |>.setB (.inl (by simp <;> omega)) _ |>.setB (.inl (by simp <;> omega)) _ |>.setB (.inl (by simp <;> omega)) _ |>.setB (.inl (by simp <;> omega)) _ |>.setB (.inl (by simp <;> omega)) _ |>.setB (.inl (by simp <;> omega)) _ |>.setB (.inl (by simp <;> omega)) _ |>.setB (.inl (by simp <;> omega)) _ |>.setB (.inl (by simp <;> omega)) _ |>.setB (.inl (by simp <;> omega)) _ |>.setB (.inl (by simp <;> omega)) _) (by simp at * <;> omega) (by omega), by simp at * <;> omega, _, _, _, w2.heap.size, rfl, Mine.wide (o8 |>.setB (.inl (by simp <;> omega)) _ |>.setB (.inl (by simp <;> omega)) _ |>.setB (.inl (by simp <;> omega)) _ |>.setB (.inl (by simp <;> omega)) _ |>.setB (.inl (by simp <;> omega)) _ |>.setB (.inl (by simp <;> omega)) _ |>.setB (.inl (by simp <;> omega)) _ |>.setB (.inl (by simp <;> omega)) _ |>.setB (.inl (by simp <;> omega)) _ |>.setB (.inl (by simp <;> omega)) _ |>.setB (.inl (by simp <;> omega)) _) (by simp at * <;> omega) (by omega), by simp at * <;> omega, _, _, _, w3.heap.size, rfl, Mine.wide (o9 |>.setB (.inl (by simp <;> omega)) _ |>.setB (.inl (by simp <;> omega)) _ |>.setB (.inl (by simp <;> omega)) _ |>.setB (.inl (by simp <;> omega)) _ |>.setB (.inl (by simp <;> omega)) _ |>.setB (.inl (by simp <;> omega)) _ |>.setB (.inl (by simp <;> omega)) _ |>.setB (.inl (by simp <;> omega)) _ |>.setB (.inl (by simp <;> omega)) _ |>.setB (.inl (by simp <;> omega)) _ |>.setB (.inl (by simp <;> omega)) _) (by simp <;> omega) (Nat.le_refl _), by omega, rfl, by simp⟩
  · exact (hy |>.setCell (by simp <;> omega) _ |>.setCell (by simp <;> omega) _ |>.setCell (by simp <;> omega) _ |>.setCell (by simp <;> omega) _ |>.setCell (by simp <;> omega) _ |>.setCell (by simp <;> omega) _ |>.setCell (by simp <;> omega) _ |>.setCell (by simp <;> omega) _ |>.setCell (by simp <;> omega) _ |>.setCell (by simp <;> omega) _ |>.setCell (by simp <;> omega) _)
set_option maxHeartbeats 1000000 in
theorem szWatch_m (r : Watch) (vs : List Value) (left : Int) (w : World) (h : AggRow w (watchF r) vs) (h0 : 0 ≤ left) (hl : left ≤ 1048576) :
    Calls Tryd.prog 41 #[.agg vs.toArray, .int .i64 left] w fun e w' => e = .returned (.int .i64 (szL (lenF (watchF r)) left)) ∧ Ext w w' := by
  rw [watchF_len]
  obtain ⟨A0, c0, _, rfl, r0, n0, m0, _, rfl, _, rfl, _, rfl, _, rfl, _, rfl, A6, c6, _, rfl, r6, n6, m6, A7, c7, _, rfl, r7, n7, m7, A8, c8, _, rfl, r8, n8, m8, A9, c9, _, rfl, r9, n9, m9, rfl⟩ := h
  have hy : Ext w (w.alloc (.cells #[.slice A0 r.Room.Map.length c0, .int .i64 r.Room.Div, .int .i64 r.Room.Bx, .int .i64 r.Room.By, .int .i64 r.Room.Low, .int .i64 r.Room.High, .slice A6 r.Room.Noise.length c6, .slice A7 r.Room.Limits.length c7, .slice A8 r.Region.length c8, .slice A9 r.Log.length c9] 83)) := (Ext.refl w).alloc _
  have bP := Blk.new w 83 #[.slice A0 r.Room.Map.length c0, .int .i64 r.Room.Div, .int .i64 r.Room.Bx, .int .i64 r.Room.By, .int .i64 r.Room.Low, .int .i64 r.Room.High, .slice A6 r.Room.Noise.length c6, .slice A7 r.Room.Limits.length c7, .slice A8 r.Region.length c8, .slice A9 r.Log.length c9]
  go_enter Tryd.func41, Tryd.ntmps41
  have E0 : Hid (szL [r.Room.Map.length, r.Room.Noise.length, r.Room.Limits.length, r.Region.length, r.Log.length] left = szL (lenF (roomF r.Room) ++ (lenF (regionF r.Region) ++ ([r.Log.length] ++ []))) left) := rfl
  obtain ⟨l0, hl0⟩ : ∃ l, szL (lenF (roomF r.Room)) left = l := ⟨_, rfl⟩
  replace E0 := Lib.hid (E0.out.trans (szL_app' (a := lenF (roomF r.Room)) (b := lenF (regionF r.Region) ++ ([r.Log.length] ++ ([]))) (by omega) hl0))
  have hbd0 := szL_bd (lenF (roomF r.Room)) left (by omega)
  rw [hl0] at hbd0
  have HL0 := Lib.hid hl0
  clear hl0
  go_wp2_with fail
  refine (szRoom_m r.Room [.slice A0 r.Room.Map.length c0, .int .i64 r.Room.Div, .int .i64 r.Room.Bx, .int .i64 r.Room.By, .int .i64 r.Room.Low, .int .i64 r.Room.High, .slice A6 r.Room.Noise.length c6, .slice A7 r.Room.Limits.length c7] left _ ⟨_, _, _, rfl, r0.ext hy, n0, m0, _, rfl, _, rfl, _, rfl, _, rfl, _, rfl, _, _, _, rfl, r6.ext hy, n6, m6, _, _, _, rfl, r7.ext hy, n7, m7, rfl⟩ (by omega) (by omega)).mono ?_
  rintro e w1 ⟨rfl, hx1⟩
  replace hy := hy.trans hx1
  replace bP := bP.ext hx1
  have cbP_1 := fun o => bP.cell o
  rw [HL0.out]
  obtain ⟨hp0, hq0⟩ := hbd0
  by_cases hc0 : l0 < 0
  · have E1 := Lib.hid (E0.out.trans (if_pos hc0))
    clear E0
    go_wp2
    go_ret
    exact ⟨ret_int E1.out.symm, hy⟩
  replace E0 := Lib.hid (E0.out.trans (if_neg hc0))
  obtain ⟨l1, hl1⟩ : ∃ l, szL (lenF (regionF r.Region)) l0 = l := ⟨_, rfl⟩
  replace E0 := Lib.hid (E0.out.trans (szL_app' (a := lenF (regionF r.Region)) (b := [r.Log.length] ++ ([])) (by omega) hl1))
  have hbd1 := szL_bd (lenF (regionF r.Region)) l0 (by omega)
  rw [hl1] at hbd1
  have HL1 := Lib.hid hl1
  clear hl1
  go_wp2_with fail
  refine (szRegion_m r.Region [.slice A8 r.Region.length c8] l0 _ ⟨_, _, _, rfl, r8.ext hy, n8, m8, rfl⟩ (by omega) (by omega)).mono ?_
  rintro e w2 ⟨rfl, hx2⟩
  replace hy := hy.trans hx2
  replace bP := bP.ext hx2
  have cbP_2 := fun o => bP.cell o
  rw [HL1.out]
  obtain ⟨hp1, hq1⟩ := hbd1
  by_cases hc1 : l1 < 0
  · have E1 := Lib.hid (E0.out.trans (if_pos hc1))
    clear E0
    go_wp2
    go_ret
    exact ⟨ret_int E1.out.symm, hy⟩
  replace E0 := Lib.hid (E0.out.trans (if_neg hc1))
  obtain ⟨l2, hl2⟩ : ∃ l, szL ([r.Log.length]) l1 = l := ⟨_, rfl⟩
  replace E0 := Lib.hid (E0.out.trans (szL_app' (a := [r.Log.length]) (b := []) (by omega) hl2))
  have hbd2 := szL_bd ([r.Log.length]) l1 (by omega)
  rw [hl2] at hbd2
  have HL2 := Lib.hid hl2
  clear hl2
  go_wp2_with fail
  refine (szIntS_any _ _ _ l1 _ (by omega) (by omega) (Nat.le_trans n9 m9)).mono ?_
  rintro e w' ⟨rfl, rfl⟩
  rw [← szL_one, HL2.out]
  obtain ⟨hp2, hq2⟩ := hbd2
  by_cases hc2 : l2 < 0
  · have E1 := Lib.hid (E0.out.trans (if_pos hc2))
    clear E0
    go_wp2
    go_ret
    exact ⟨ret_int E1.out.symm, hy⟩
  replace E0 := Lib.hid (E0.out.trans (if_neg hc2))
  go_wp2
  go_ret
  exact ⟨ret_int (show szL [r.Room.Map.length, r.Room.Noise.length, r.Room.Limits.length, r.Region.length, r.Log.length] left = l2 from E0.out).symm, hy⟩
set_option maxHeartbeats 2000000 in
theorem eqWatch_same (r : Watch) (us vs : List Value) (w : World) (hu : AggRow w (watchF r) us) (hv : AggRow w (watchF r) vs) :
    Calls Tryd.prog 45 #[.agg us.toArray, .agg vs.toArray] w fun e w' => e = .returned (.bool true) ∧ Ext w w' := by
  obtain ⟨Ax0, cx0, _, rfl, rx0, nx0, mx0, _, rfl, _, rfl, _, rfl, _, rfl, _, rfl, Ax6, cx6, _, rfl, rx6, nx6, mx6, Ax7, cx7, _, rfl, rx7, nx7, mx7, Ax8, cx8, _, rfl, rx8, nx8, mx8, Ax9, cx9, _, rfl, rx9, nx9, mx9, rfl⟩ := hu
  obtain ⟨Ay0, cy0, _, rfl, ry0, ny0, my0, _, rfl, _, rfl, _, rfl, _, rfl, _, rfl, Ay6, cy6, _, rfl, ry6, ny6, my6, Ay7, cy7, _, rfl, ry7, ny7, my7, Ay8, cy8, _, rfl, ry8, ny8, my8, Ay9, cy9, _, rfl, ry9, ny9, my9, rfl⟩ := hv
  have hy : Ext w ((w.alloc (.cells #[.slice Ax0 r.Room.Map.length cx0, .int .i64 r.Room.Div, .int .i64 r.Room.Bx, .int .i64 r.Room.By, .int .i64 r.Room.Low, .int .i64 r.Room.High, .slice Ax6 r.Room.Noise.length cx6, .slice Ax7 r.Room.Limits.length cx7, .slice Ax8 r.Region.length cx8, .slice Ax9 r.Log.length cx9] 92)).alloc (.cells #[.slice Ay0 r.Room.Map.length cy0, .int .i64 r.Room.Div, .int .i64 r.Room.Bx, .int .i64 r.Room.By, .int .i64 r.Room.Low, .int .i64 r.Room.High, .slice Ay6 r.Room.Noise.length cy6, .slice Ay7 r.Room.Limits.length cy7, .slice Ay8 r.Region.length cy8, .slice Ay9 r.Log.length cy9] 92)) := ((Ext.refl w).alloc _).alloc _
  have bP := (Blk.new w 92 #[.slice Ax0 r.Room.Map.length cx0, .int .i64 r.Room.Div, .int .i64 r.Room.Bx, .int .i64 r.Room.By, .int .i64 r.Room.Low, .int .i64 r.Room.High, .slice Ax6 r.Room.Noise.length cx6, .slice Ax7 r.Room.Limits.length cx7, .slice Ax8 r.Region.length cx8, .slice Ax9 r.Log.length cx9]).alloc (.cells #[.slice Ay0 r.Room.Map.length cy0, .int .i64 r.Room.Div, .int .i64 r.Room.Bx, .int .i64 r.Room.By, .int .i64 r.Room.Low, .int .i64 r.Room.High, .slice Ay6 r.Room.Noise.length cy6, .slice Ay7 r.Room.Limits.length cy7, .slice Ay8 r.Region.length cy8, .slice Ay9 r.Log.length cy9] 92)
  have bQ : Blk ((w.alloc (.cells #[.slice Ax0 r.Room.Map.length cx0, .int .i64 r.Room.Div, .int .i64 r.Room.Bx, .int .i64 r.Room.By, .int .i64 r.Room.Low, .int .i64 r.Room.High, .slice Ax6 r.Room.Noise.length cx6, .slice Ax7 r.Room.Limits.length cx7, .slice Ax8 r.Region.length cx8, .slice Ax9 r.Log.length cx9] 92)).alloc (.cells #[.slice Ay0 r.Room.Map.length cy0, .int .i64 r.Room.Div, .int .i64 r.Room.Bx, .int .i64 r.Room.By, .int .i64 r.Room.Low, .int .i64 r.Room.High, .slice Ay6 r.Room.Noise.length cy6, .slice Ay7 r.Room.Limits.length cy7, .slice Ay8 r.Region.length cy8, .slice Ay9 r.Log.length cy9] 92)) (w.heap.size + 1) 92 #[.slice Ay0 r.Room.Map.length cy0, .int .i64 r.Room.Div, .int .i64 r.Room.Bx, .int .i64 r.Room.By, .int .i64 r.Room.Low, .int .i64 r.Room.High, .slice Ay6 r.Room.Noise.length cy6, .slice Ay7 r.Room.Limits.length cy7, .slice Ay8 r.Region.length cy8, .slice Ay9 r.Log.length cy9] := by
    have := Blk.new (w.alloc (.cells #[.slice Ax0 r.Room.Map.length cx0, .int .i64 r.Room.Div, .int .i64 r.Room.Bx, .int .i64 r.Room.By, .int .i64 r.Room.Low, .int .i64 r.Room.High, .slice Ax6 r.Room.Noise.length cx6, .slice Ax7 r.Room.Limits.length cx7, .slice Ax8 r.Region.length cx8, .slice Ax9 r.Log.length cx9] 92)) 92 #[.slice Ay0 r.Room.Map.length cy0, .int .i64 r.Room.Div, .int .i64 r.Room.Bx, .int .i64 r.Room.By, .int .i64 r.Room.Low, .int .i64 r.Room.High, .slice Ay6 r.Room.Noise.length cy6, .slice Ay7 r.Room.Limits.length cy7, .slice Ay8 r.Region.length cy8, .slice Ay9 r.Log.length cy9]
    simpa only [World.size_alloc] using this
  go_enter Tryd.func45, Tryd.ntmps45
  go_wp2_with fail
  refine (eqRoom_same r.Room [.slice Ax0 r.Room.Map.length cx0, .int .i64 r.Room.Div, .int .i64 r.Room.Bx, .int .i64 r.Room.By, .int .i64 r.Room.Low, .int .i64 r.Room.High, .slice Ax6 r.Room.Noise.length cx6, .slice Ax7 r.Room.Limits.length cx7] [.slice Ay0 r.Room.Map.length cy0, .int .i64 r.Room.Div, .int .i64 r.Room.Bx, .int .i64 r.Room.By, .int .i64 r.Room.Low, .int .i64 r.Room.High, .slice Ay6 r.Room.Noise.length cy6, .slice Ay7 r.Room.Limits.length cy7] _ ⟨_, _, _, rfl, rx0.ext hy, nx0, mx0, _, rfl, _, rfl, _, rfl, _, rfl, _, rfl, _, _, _, rfl, rx6.ext hy, nx6, mx6, _, _, _, rfl, rx7.ext hy, nx7, mx7, rfl⟩ ⟨_, _, _, rfl, ry0.ext hy, ny0, my0, _, rfl, _, rfl, _, rfl, _, rfl, _, rfl, _, _, _, rfl, ry6.ext hy, ny6, my6, _, _, _, rfl, ry7.ext hy, ny7, my7, rfl⟩).mono ?_
  rintro e w1 ⟨rfl, hx1⟩
  replace hy := hy.trans hx1
  replace bP := bP.ext hx1
  replace bQ := bQ.ext hx1
  have cbP_3 := fun o => bP.cell o
  have cbQ_4 := fun o => bQ.cell o
  go_wp2_with fail
  refine (eqRegion_same r.Region [.slice Ax8 r.Region.length cx8] [.slice Ay8 r.Region.length cy8] _ ⟨_, _, _, rfl, rx8.ext hy, nx8, mx8, rfl⟩ ⟨_, _, _, rfl, ry8.ext hy, ny8, my8, rfl⟩).mono ?_
  rintro e w2 ⟨rfl, hx2⟩
  replace hy := hy.trans hx2
  replace bP := bP.ext hx2
  replace bQ := bQ.ext hx2
  have cbP_5 := fun o => bP.cell o
  have cbQ_6 := fun o => bQ.cell o
  go_wp2_with fail
  refine (eqIntS_same _ _ _ _ _ r.Log _ rfl (rx9.ext hy) (ry9.ext hy) (Nat.le_trans nx9 mx9)).mono ?_
  rintro e w3 ⟨rfl, hx3⟩
  replace hy := hy.trans hx3
  replace bP := bP.ext hx3
  replace bQ := bQ.ext hx3
  have cbP_7 := fun o => bP.cell o
  have cbQ_8 := fun o => bQ.cell o
  go_wp2
  go_ret
  exact ⟨rfl, hy⟩
end Go.Proofs.YtbbkahnfnjlajaaDoor
