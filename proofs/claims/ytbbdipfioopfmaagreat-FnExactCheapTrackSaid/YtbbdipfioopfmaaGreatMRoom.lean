/- Contracts of the helpers on Room: copies, comparisons, sizes, marks. (written by tools/structs.py) -/
import Derived.Test.YtbbdipfioopfmaaGreatMRegion
namespace Go.Proofs.YtbbdipfioopfmaaGreat
open Go.ChangeShapes Go.WideShapes Go.ChangeAt Go.RowKit
set_option linter.unusedVariables false
set_option maxRecDepth 100000

structure Room where
  Map : List Int
  Div : Int
  Bx : Int
  By : Int
  Low : Int
  High : Int
  Noise : List Half
  Limits : List Half
def roomF (r : Room) : List Fd := [intF r.Map, .i r.Div, .i r.Bx, .i r.By, .i r.Low, .i r.High, halfF r.Noise, halfF r.Limits]
theorem roomF_len (r : Room) : lenF (roomF r) = [r.Map.length, r.Noise.length, r.Limits.length] := rfl
def roomFI (r : Room) : Prop := (∀ z ∈ r.Map, I64 z) ∧ I64 r.Div ∧ I64 r.Bx ∧ I64 r.By ∧ I64 r.Low ∧ I64 r.High ∧ (∀ x ∈ r.Noise, ∀ z ∈ Half.ints x, I64 z) ∧ (∀ x ∈ r.Limits, ∀ z ∈ Half.ints x, I64 z)
theorem roomF_open {w : World} {vs : List Value} (h : KdAll Tryz.prog w [.s 3, .i, .i, .i, .i, .i, .s 80, .s 80] vs) : ∃ r : Room, AggRow w (roomF r) vs ∧ roomFI r := by
  obtain ⟨_, _, rfl, ⟨A0, n0, c0, zs0, rfl, hl0, hr0, hn0, hm0, hz0⟩, _, _, rfl, ⟨z1, rfl, hz1⟩, _, _, rfl, ⟨z2, rfl, hz2⟩, _, _, rfl, ⟨z3, rfl, hz3⟩, _, _, rfl, ⟨z4, rfl, hz4⟩, _, _, rfl, ⟨z5, rfl, hz5⟩, _, _, rfl, ⟨A6, n6, c6, zs6, rfl, hl6, hr6, hn6, hm6, hz6⟩, _, _, rfl, ⟨A7, n7, c7, zs7, rfl, hl7, hr7, hn7, hm7, hz7⟩, rfl⟩ := h
  rw [(by kernel_rfl : Tryz.prog.cellsOf 3 = 1), Nat.mul_one] at hl0
  subst hl0
  rw [(by kernel_rfl : Tryz.prog.cellsOf 80 = 3)] at hl6
  obtain ⟨xs6, hll6, rfl⟩ := unflat Half.unints n6 zs6 hl6
  subst hll6
  rw [(by kernel_rfl : Tryz.prog.cellsOf 80 = 3)] at hl7
  obtain ⟨xs7, hll7, rfl⟩ := unflat Half.unints n7 zs7 hl7
  subst hll7
  exact ⟨⟨zs0, z1, z2, z3, z4, z5, xs6, xs7⟩, ⟨_, _, _, rfl, hr0, hn0, hm0, _, rfl, _, rfl, _, rfl, _, rfl, _, rfl, _, _, _, rfl, hr6, hn6, hm6, _, _, _, rfl, hr7, hn7, hm7, rfl⟩, ⟨hz0, hz1, hz2, hz3, hz4, hz5, (fun x hx z hz => hz6 z (by unfold flat; exact List.mem_flatMap.2 ⟨x, hx, hz⟩)), (fun x hx z hz => hz7 z (by unfold flat; exact List.mem_flatMap.2 ⟨x, hx, hz⟩))⟩⟩
set_option maxHeartbeats 4000000 in
theorem toRoom_m (r : Room) (vs : List Value) (w : World) (h : AggRow w (roomF r) vs) (hb : ∀ n ∈ lenF (roomF r), n ≤ 1048576) :
    Calls Tryz.prog 8 #[.agg vs.toArray] w fun e w' => ∃ us, e = .returned (.agg us.toArray) ∧ AggAt w' (roomF r) us w.heap.size w'.heap.size ∧ Ext w w' := by
  rw [roomF_len] at hb
  obtain ⟨A0, c0, _, rfl, r0, n0, m0, _, rfl, _, rfl, _, rfl, _, rfl, _, rfl, A6, c6, _, rfl, r6, n6, m6, A7, c7, _, rfl, r7, n7, m7, rfl⟩ := h
  have b0 : r.Map.length ≤ 1048576 := hb _ (by simp)
  have b6 : r.Noise.length ≤ 1048576 := hb _ (by simp)
  have b7 : r.Limits.length ≤ 1048576 := hb _ (by simp)
  have hy : Ext w (((w.alloc (.cells #[.slice A0 r.Map.length c0, .int .i64 r.Div, .int .i64 r.Bx, .int .i64 r.By, .int .i64 r.Low, .int .i64 r.High, .slice A6 r.Noise.length c6, .slice A7 r.Limits.length c7] 27)).alloc (.cells #[.slice none 0 0, .int .i64 0, .int .i64 0, .int .i64 0, .int .i64 0, .int .i64 0, .slice none 0 0, .slice none 0 0] 44)).alloc (.cells #[.slice none 0 0, .int .i64 0, .int .i64 0, .int .i64 0, .int .i64 0, .int .i64 0, .slice none 0 0, .slice none 0 0] 44)) := (((Ext.refl w).alloc _).alloc _).alloc _
  have bP : Blk (((w.alloc (.cells #[.slice A0 r.Map.length c0, .int .i64 r.Div, .int .i64 r.Bx, .int .i64 r.By, .int .i64 r.Low, .int .i64 r.High, .slice A6 r.Noise.length c6, .slice A7 r.Limits.length c7] 27)).alloc (.cells #[.slice none 0 0, .int .i64 0, .int .i64 0, .int .i64 0, .int .i64 0, .int .i64 0, .slice none 0 0, .slice none 0 0] 44)).alloc (.cells #[.slice none 0 0, .int .i64 0, .int .i64 0, .int .i64 0, .int .i64 0, .int .i64 0, .slice none 0 0, .slice none 0 0] 44)) w.heap.size 27 #[.slice A0 r.Map.length c0, .int .i64 r.Div, .int .i64 r.Bx, .int .i64 r.By, .int .i64 r.Low, .int .i64 r.High, .slice A6 r.Noise.length c6, .slice A7 r.Limits.length c7] := ((Blk.new w _ _).alloc _).alloc _
  have bR : Blk (((w.alloc (.cells #[.slice A0 r.Map.length c0, .int .i64 r.Div, .int .i64 r.Bx, .int .i64 r.By, .int .i64 r.Low, .int .i64 r.High, .slice A6 r.Noise.length c6, .slice A7 r.Limits.length c7] 27)).alloc (.cells #[.slice none 0 0, .int .i64 0, .int .i64 0, .int .i64 0, .int .i64 0, .int .i64 0, .slice none 0 0, .slice none 0 0] 44)).alloc (.cells #[.slice none 0 0, .int .i64 0, .int .i64 0, .int .i64 0, .int .i64 0, .int .i64 0, .slice none 0 0, .slice none 0 0] 44)) (w.heap.size + 1) 44 #[.slice none 0 0, .int .i64 0, .int .i64 0, .int .i64 0, .int .i64 0, .int .i64 0, .slice none 0 0, .slice none 0 0] := by
    have := (Blk.new (w.alloc (.cells #[.slice A0 r.Map.length c0, .int .i64 r.Div, .int .i64 r.Bx, .int .i64 r.By, .int .i64 r.Low, .int .i64 r.High, .slice A6 r.Noise.length c6, .slice A7 r.Limits.length c7] 27)) 44 #[.slice none 0 0, .int .i64 0, .int .i64 0, .int .i64 0, .int .i64 0, .int .i64 0, .slice none 0 0, .slice none 0 0]).alloc (.cells #[.slice none 0 0, .int .i64 0, .int .i64 0, .int .i64 0, .int .i64 0, .int .i64 0, .slice none 0 0, .slice none 0 0] 44)
    simpa only [World.size_alloc] using this
  have bO : Blk (((w.alloc (.cells #[.slice A0 r.Map.length c0, .int .i64 r.Div, .int .i64 r.Bx, .int .i64 r.By, .int .i64 r.Low, .int .i64 r.High, .slice A6 r.Noise.length c6, .slice A7 r.Limits.length c7] 27)).alloc (.cells #[.slice none 0 0, .int .i64 0, .int .i64 0, .int .i64 0, .int .i64 0, .int .i64 0, .slice none 0 0, .slice none 0 0] 44)).alloc (.cells #[.slice none 0 0, .int .i64 0, .int .i64 0, .int .i64 0, .int .i64 0, .int .i64 0, .slice none 0 0, .slice none 0 0] 44)) (w.heap.size + 2) 44 #[.slice none 0 0, .int .i64 0, .int .i64 0, .int .i64 0, .int .i64 0, .int .i64 0, .slice none 0 0, .slice none 0 0] := by
    have := Blk.new ((w.alloc (.cells #[.slice A0 r.Map.length c0, .int .i64 r.Div, .int .i64 r.Bx, .int .i64 r.By, .int .i64 r.Low, .int .i64 r.High, .slice A6 r.Noise.length c6, .slice A7 r.Limits.length c7] 27)).alloc (.cells #[.slice none 0 0, .int .i64 0, .int .i64 0, .int .i64 0, .int .i64 0, .int .i64 0, .slice none 0 0, .slice none 0 0] 44)) 44 #[.slice none 0 0, .int .i64 0, .int .i64 0, .int .i64 0, .int .i64 0, .int .i64 0, .slice none 0 0, .slice none 0 0]
    simpa only [World.size_alloc] using this
  have cP := fun o => bP.cell o
  have fP := fun o => bP.frozen o
  have cR := fun o => bR.cell o
  have fR := fun o => bR.frozen o
  have cO := fun o => bO.cell o
  have fO := fun o => bO.frozen o
  go_enter Tryz.func8, Tryz.ntmps8
  go_wp2_with fail
  refine (toIntS_m _ _ _ r.Map _ rfl (r0.ext (hy)) b0).mono ?_
  rintro e w1 ⟨g0, rfl, o0, hx1⟩
  have hz1 : w.heap.size + 3 ≤ w1.heap.size := by have := Ext.size hx1; simp at this; omega
  replace hy := Ext.trans (hy) hx1
  replace bP := Blk.ext (bP) hx1
  replace bR := Blk.ext (bR) hx1
  replace bO : Blk w1 (w.heap.size + 2) 44 #[.slice none 0 0, .int .i64 0, .int .i64 0, .int .i64 0, .int .i64 0, .int .i64 0, .slice none 0 0, .slice none 0 0] := Blk.ext (bO) hx1
  have cP1 := fun o => bP.cell o
  have fP1 := fun o => bP.frozen o
  have cR1 := fun o => bR.cell o
  have fR1 := fun o => bR.frozen o
  have cO1 := fun o => bO.cell o
  have fO1 := fun o => bO.frozen o
  go_wp2_with fail
  refine (toRegion_m r.Noise [.slice A6 r.Noise.length c6] _ ⟨_, _, _, rfl, r6.ext (hy |>.setCell (by simp <;> omega) _ |>.setCell (by simp <;> omega) _ |>.setCell (by simp <;> omega) _ |>.setCell (by simp <;> omega) _ |>.setCell (by simp <;> omega) _ |>.setCell (by simp <;> omega) _), n6, m6, rfl⟩ (by rw [regionF_len]; simp; omega)).mono ?_
  rintro e w2 ⟨us2, rfl, hat2, hx2⟩
  obtain ⟨A_6, c_6, _, q6, rfl, o6, l6, rfl, le2⟩ := hat2
  try simp at l6
  have hz2 : w1.heap.size ≤ w2.heap.size := by have := Ext.size hx2; simp at this; omega
  replace hy := Ext.trans (hy |>.setCell (by simp <;> omega) _ |>.setCell (by simp <;> omega) _ |>.setCell (by simp <;> omega) _ |>.setCell (by simp <;> omega) _ |>.setCell (by simp <;> omega) _ |>.setCell (by simp <;> omega) _) hx2
  replace bP := Blk.ext (bP |>.far (by simp <;> omega) _ |>.far (by simp <;> omega) _ |>.far (by simp <;> omega) _ |>.far (by simp <;> omega) _ |>.far (by simp <;> omega) _ |>.far (by simp <;> omega) _) hx2
  replace bR := Blk.ext (bR |>.far (by simp <;> omega) _ |>.far (by simp <;> omega) _ |>.far (by simp <;> omega) _ |>.far (by simp <;> omega) _ |>.far (by simp <;> omega) _ |>.far (by simp <;> omega) _) hx2
  replace bO : Blk w2 (w.heap.size + 2) 44 #[.slice (some ⟨g0, 0, none⟩) r.Map.length r.Map.length, .int .i64 r.Div, .int .i64 r.Bx, .int .i64 r.By, .int .i64 r.Low, .int .i64 r.High, .slice none 0 0, .slice none 0 0] := Blk.ext (bO |>.set_ 0 (.slice (some ⟨g0, 0, none⟩) r.Map.length r.Map.length) |>.set_ 1 (.int .i64 r.Div) |>.set_ 2 (.int .i64 r.Bx) |>.set_ 3 (.int .i64 r.By) |>.set_ 4 (.int .i64 r.Low) |>.set_ 5 (.int .i64 r.High)) hx2
  replace o0 := Mine.ext (o0 |>.setB (.inl (by simp <;> omega)) _ |>.setB (.inl (by simp <;> omega)) _ |>.setB (.inl (by simp <;> omega)) _ |>.setB (.inl (by simp <;> omega)) _ |>.setB (.inl (by simp <;> omega)) _ |>.setB (.inl (by simp <;> omega)) _) hx2
  have cP2 := fun o => bP.cell o
  have fP2 := fun o => bP.frozen o
  have cR2 := fun o => bR.cell o
  have fR2 := fun o => bR.frozen o
  have cO2 := fun o => bO.cell o
  have fO2 := fun o => bO.frozen o
  go_wp2_with fail
  refine (toRegion_m r.Limits [.slice A7 r.Limits.length c7] _ ⟨_, _, _, rfl, r7.ext (hy |>.setCell (by simp <;> omega) _), n7, m7, rfl⟩ (by rw [regionF_len]; simp; omega)).mono ?_
  rintro e w3 ⟨us3, rfl, hat3, hx3⟩
  obtain ⟨A_7, c_7, _, q7, rfl, o7, l7, rfl, le3⟩ := hat3
  try simp at l7
  have hz3 : w2.heap.size ≤ w3.heap.size := by have := Ext.size hx3; simp at this; omega
  replace hy := Ext.trans (hy |>.setCell (by simp <;> omega) _) hx3
  replace bP := Blk.ext (bP |>.far (by simp <;> omega) _) hx3
  replace bR := Blk.ext (bR |>.far (by simp <;> omega) _) hx3
  replace bO : Blk w3 (w.heap.size + 2) 44 #[.slice (some ⟨g0, 0, none⟩) r.Map.length r.Map.length, .int .i64 r.Div, .int .i64 r.Bx, .int .i64 r.By, .int .i64 r.Low, .int .i64 r.High, .slice A_6 r.Noise.length c_6, .slice none 0 0] := Blk.ext (bO |>.set_ 6 (.slice A_6 r.Noise.length c_6)) hx3
  replace o0 := Mine.ext (o0 |>.setB (.inl (by simp <;> omega)) _) hx3
  replace o6 := Mine.ext (o6 |>.setB (.inl (by simp <;> omega)) _) hx3
  have cP3 := fun o => bP.cell o
  have fP3 := fun o => bP.frozen o
  have cR3 := fun o => bR.cell o
  have fR3 := fun o => bR.frozen o
  have cO3 := fun o => bO.cell o
  have fO3 := fun o => bO.frozen o
  go_wp2
  refine bodyPost_ret (v := .agg #[.slice (some ⟨g0, 0, none⟩) r.Map.length r.Map.length, .int .i64 r.Div, .int .i64 r.Bx, .int .i64 r.By, .int .i64 r.Low, .int .i64 r.High, .slice A_6 r.Noise.length c_6, .slice A_7 r.Limits.length c_7]) (by simp [results, Tryz.results8, go_sem, cR3]) rfl ⟨[.slice (some ⟨g0, 0, none⟩) r.Map.length r.Map.length, .int .i64 r.Div, .int .i64 r.Bx, .int .i64 r.By, .int .i64 r.Low, .int .i64 r.High, .slice A_6 r.Noise.length c_6, .slice A_7 r.Limits.length c_7], rfl, ?_, ?_⟩
  · exact ⟨_, _, _, w1.heap.size, rfl, Mine.wide (o0 |>.setB (.inl (by simp <;> omega)) _ |>.setB (.inl (by simp <;> omega)) _ |>.setB (.inl (by simp <;> omega)) _ |>.setB (.inl (by simp <;> omega)) _ |>.setB (.inl (by simp <;> omega)) _ |>.setB (.inl (by simp <;> omega)) _ |>.setB (.inl (by simp <;> omega)) _ |>.setB (.inl (by simp <;> omega)) _ |>.setB (.inl (by simp <;> omega)) _) (by simp <;> omega) (Nat.le_refl _), by omega, _, rfl, _, rfl, _, rfl, _, rfl, _, rfl, _, _, _, w2.heap.size, rfl, Mine.wide (o6 |>.setB (.inl (by simp <;> omega)) _ |>.setB (.inl (by simp <;> omega)) _ |>.setB (.inl (by simp <;> omega)) _ |>.setB (.inl (by simp <;> omega)) _ |>.setB (.inl (by simp <;> omega)) _ |>.setB (.inl (by simp <;> omega)) _ |>.setB (.inl (by simp <;> omega)) _ |>.setB (.inl (by simp <;> omega)) _ |>.setB (.inl (by simp <;> omega)) _) (by simp at * <;> omega) (by omega), by simp at * <;> omega, _, _, _, w3.heap.size, rfl, Mine.wide (o7 |>.setB (.inl (by simp <;> omega)) _ |>.setB (.inl (by simp <;> omega)) _ |>.setB (.inl (by simp <;> omega)) _ |>.setB (.inl (by simp <;> omega)) _ |>.setB (.inl (by simp <;> omega)) _ |>.setB (.inl (by simp <;> omega)) _ |>.setB (.inl (by simp <;> omega)) _ |>.setB (.inl (by simp <;> omega)) _ |>.setB (.inl (by simp <;> omega)) _) (by simp at * <;> omega) (by omega), by simp at * <;> omega, rfl, by simp⟩
  · exact (hy |>.setCell (by simp <;> omega) _ |>.setCell (by simp <;> omega) _ |>.setCell (by simp <;> omega) _ |>.setCell (by simp <;> omega) _ |>.setCell (by simp <;> omega) _ |>.setCell (by simp <;> omega) _ |>.setCell (by simp <;> omega) _ |>.setCell (by simp <;> omega) _ |>.setCell (by simp <;> omega) _)
set_option maxHeartbeats 1000000 in
theorem szRoom_m (r : Room) (vs : List Value) (left : Int) (w : World) (h : AggRow w (roomF r) vs) (h0 : 0 ≤ left) (hl : left ≤ 1048576) :
    Calls Tryz.prog 4 #[.agg vs.toArray, .int .i64 left] w fun e w' => e = .returned (.int .i64 (szL (lenF (roomF r)) left)) ∧ Ext w w' := by
  rw [roomF_len]
  obtain ⟨A0, c0, _, rfl, r0, n0, m0, _, rfl, _, rfl, _, rfl, _, rfl, _, rfl, A6, c6, _, rfl, r6, n6, m6, A7, c7, _, rfl, r7, n7, m7, rfl⟩ := h
  have hy : Ext w (w.alloc (.cells #[.slice A0 r.Map.length c0, .int .i64 r.Div, .int .i64 r.Bx, .int .i64 r.By, .int .i64 r.Low, .int .i64 r.High, .slice A6 r.Noise.length c6, .slice A7 r.Limits.length c7] 27)) := (Ext.refl w).alloc _
  have bP := Blk.new w 27 #[.slice A0 r.Map.length c0, .int .i64 r.Div, .int .i64 r.Bx, .int .i64 r.By, .int .i64 r.Low, .int .i64 r.High, .slice A6 r.Noise.length c6, .slice A7 r.Limits.length c7]
  go_enter Tryz.func4, Tryz.ntmps4
  have E0 : Hid (szL [r.Map.length, r.Noise.length, r.Limits.length] left = szL ([r.Map.length] ++ (lenF (regionF r.Noise) ++ (lenF (regionF r.Limits) ++ []))) left) := rfl
  obtain ⟨l0, hl0⟩ : ∃ l, szL ([r.Map.length]) left = l := ⟨_, rfl⟩
  replace E0 := Lib.hid (E0.out.trans (szL_app' (a := [r.Map.length]) (b := lenF (regionF r.Noise) ++ (lenF (regionF r.Limits) ++ ([]))) (by omega) hl0))
  have hbd0 := szL_bd ([r.Map.length]) left (by omega)
  rw [hl0] at hbd0
  have HL0 := Lib.hid hl0
  clear hl0
  go_wp2_with fail
  refine (szIntS_any _ _ _ left _ (by omega) (by omega) (Nat.le_trans n0 m0)).mono ?_
  rintro e w' ⟨rfl, rfl⟩
  rw [← szL_one, HL0.out]
  obtain ⟨hp0, hq0⟩ := hbd0
  by_cases hc0 : l0 < 0
  · have E1 := Lib.hid (E0.out.trans (if_pos hc0))
    clear E0
    go_wp2
    go_ret
    exact ⟨ret_int E1.out.symm, hy⟩
  replace E0 := Lib.hid (E0.out.trans (if_neg hc0))
  obtain ⟨l1, hl1⟩ : ∃ l, szL (lenF (regionF r.Noise)) l0 = l := ⟨_, rfl⟩
  replace E0 := Lib.hid (E0.out.trans (szL_app' (a := lenF (regionF r.Noise)) (b := lenF (regionF r.Limits) ++ ([])) (by omega) hl1))
  have hbd1 := szL_bd (lenF (regionF r.Noise)) l0 (by omega)
  rw [hl1] at hbd1
  have HL1 := Lib.hid hl1
  clear hl1
  go_wp2_with fail
  refine (szRegion_m r.Noise [.slice A6 r.Noise.length c6] l0 _ ⟨_, _, _, rfl, r6.ext hy, n6, m6, rfl⟩ (by omega) (by omega)).mono ?_
  rintro e w2 ⟨rfl, hx2⟩
  replace hy := hy.trans hx2
  replace bP := bP.ext hx2
  have cbP_1 := fun o => bP.cell o
  rw [HL1.out]
  obtain ⟨hp1, hq1⟩ := hbd1
  by_cases hc1 : l1 < 0
  · have E1 := Lib.hid (E0.out.trans (if_pos hc1))
    clear E0
    go_wp2
    go_ret
    exact ⟨ret_int E1.out.symm, hy⟩
  replace E0 := Lib.hid (E0.out.trans (if_neg hc1))
  obtain ⟨l2, hl2⟩ : ∃ l, szL (lenF (regionF r.Limits)) l1 = l := ⟨_, rfl⟩
  replace E0 := Lib.hid (E0.out.trans (szL_app' (a := lenF (regionF r.Limits)) (b := []) (by omega) hl2))
  have hbd2 := szL_bd (lenF (regionF r.Limits)) l1 (by omega)
  rw [hl2] at hbd2
  have HL2 := Lib.hid hl2
  clear hl2
  go_wp2_with fail
  refine (szRegion_m r.Limits [.slice A7 r.Limits.length c7] l1 _ ⟨_, _, _, rfl, r7.ext hy, n7, m7, rfl⟩ (by omega) (by omega)).mono ?_
  rintro e w3 ⟨rfl, hx3⟩
  replace hy := hy.trans hx3
  replace bP := bP.ext hx3
  have cbP_2 := fun o => bP.cell o
  rw [HL2.out]
  obtain ⟨hp2, hq2⟩ := hbd2
  by_cases hc2 : l2 < 0
  · have E1 := Lib.hid (E0.out.trans (if_pos hc2))
    clear E0
    go_wp2
    go_ret
    exact ⟨ret_int E1.out.symm, hy⟩
  replace E0 := Lib.hid (E0.out.trans (if_neg hc2))
  go_wp2
  go_ret
  exact ⟨ret_int (show szL [r.Map.length, r.Noise.length, r.Limits.length] left = l2 from E0.out).symm, hy⟩
set_option maxHeartbeats 2000000 in
theorem eqRoom_same (r : Room) (us vs : List Value) (w : World) (hu : AggRow w (roomF r) us) (hv : AggRow w (roomF r) vs) :
    Calls Tryz.prog 14 #[.agg us.toArray, .agg vs.toArray] w fun e w' => e = .returned (.bool true) ∧ Ext w w' := by
  obtain ⟨Ax0, cx0, _, rfl, rx0, nx0, mx0, _, rfl, _, rfl, _, rfl, _, rfl, _, rfl, Ax6, cx6, _, rfl, rx6, nx6, mx6, Ax7, cx7, _, rfl, rx7, nx7, mx7, rfl⟩ := hu
  obtain ⟨Ay0, cy0, _, rfl, ry0, ny0, my0, _, rfl, _, rfl, _, rfl, _, rfl, _, rfl, Ay6, cy6, _, rfl, ry6, ny6, my6, Ay7, cy7, _, rfl, ry7, ny7, my7, rfl⟩ := hv
  have hy : Ext w ((w.alloc (.cells #[.slice Ax0 r.Map.length cx0, .int .i64 r.Div, .int .i64 r.Bx, .int .i64 r.By, .int .i64 r.Low, .int .i64 r.High, .slice Ax6 r.Noise.length cx6, .slice Ax7 r.Limits.length cx7] 44)).alloc (.cells #[.slice Ay0 r.Map.length cy0, .int .i64 r.Div, .int .i64 r.Bx, .int .i64 r.By, .int .i64 r.Low, .int .i64 r.High, .slice Ay6 r.Noise.length cy6, .slice Ay7 r.Limits.length cy7] 44)) := ((Ext.refl w).alloc _).alloc _
  have bP := (Blk.new w 44 #[.slice Ax0 r.Map.length cx0, .int .i64 r.Div, .int .i64 r.Bx, .int .i64 r.By, .int .i64 r.Low, .int .i64 r.High, .slice Ax6 r.Noise.length cx6, .slice Ax7 r.Limits.length cx7]).alloc (.cells #[.slice Ay0 r.Map.length cy0, .int .i64 r.Div, .int .i64 r.Bx, .int .i64 r.By, .int .i64 r.Low, .int .i64 r.High, .slice Ay6 r.Noise.length cy6, .slice Ay7 r.Limits.length cy7] 44)
  have bQ : Blk ((w.alloc (.cells #[.slice Ax0 r.Map.length cx0, .int .i64 r.Div, .int .i64 r.Bx, .int .i64 r.By, .int .i64 r.Low, .int .i64 r.High, .slice Ax6 r.Noise.length cx6, .slice Ax7 r.Limits.length cx7] 44)).alloc (.cells #[.slice Ay0 r.Map.length cy0, .int .i64 r.Div, .int .i64 r.Bx, .int .i64 r.By, .int .i64 r.Low, .int .i64 r.High, .slice Ay6 r.Noise.length cy6, .slice Ay7 r.Limits.length cy7] 44)) (w.heap.size + 1) 44 #[.slice Ay0 r.Map.length cy0, .int .i64 r.Div, .int .i64 r.Bx, .int .i64 r.By, .int .i64 r.Low, .int .i64 r.High, .slice Ay6 r.Noise.length cy6, .slice Ay7 r.Limits.length cy7] := by
    have := Blk.new (w.alloc (.cells #[.slice Ax0 r.Map.length cx0, .int .i64 r.Div, .int .i64 r.Bx, .int .i64 r.By, .int .i64 r.Low, .int .i64 r.High, .slice Ax6 r.Noise.length cx6, .slice Ax7 r.Limits.length cx7] 44)) 44 #[.slice Ay0 r.Map.length cy0, .int .i64 r.Div, .int .i64 r.Bx, .int .i64 r.By, .int .i64 r.Low, .int .i64 r.High, .slice Ay6 r.Noise.length cy6, .slice Ay7 r.Limits.length cy7]
    simpa only [World.size_alloc] using this
  go_enter Tryz.func14, Tryz.ntmps14
  go_wp2_with fail
  refine (eqIntS_same _ _ _ _ _ r.Map _ rfl (rx0.ext hy) (ry0.ext hy) (Nat.le_trans nx0 mx0)).mono ?_
  rintro e w1 ⟨rfl, hx1⟩
  replace hy := hy.trans hx1
  replace bP := bP.ext hx1
  replace bQ := bQ.ext hx1
  have cbP_3 := fun o => bP.cell o
  have cbQ_4 := fun o => bQ.cell o
  go_wp2_with fail
  refine (eqRegion_same r.Noise [.slice Ax6 r.Noise.length cx6] [.slice Ay6 r.Noise.length cy6] _ ⟨_, _, _, rfl, rx6.ext hy, nx6, mx6, rfl⟩ ⟨_, _, _, rfl, ry6.ext hy, ny6, my6, rfl⟩).mono ?_
  rintro e w2 ⟨rfl, hx2⟩
  replace hy := hy.trans hx2
  replace bP := bP.ext hx2
  replace bQ := bQ.ext hx2
  have cbP_5 := fun o => bP.cell o
  have cbQ_6 := fun o => bQ.cell o
  go_wp2_with fail
  refine (eqRegion_same r.Limits [.slice Ax7 r.Limits.length cx7] [.slice Ay7 r.Limits.length cy7] _ ⟨_, _, _, rfl, rx7.ext hy, nx7, mx7, rfl⟩ ⟨_, _, _, rfl, ry7.ext hy, ny7, my7, rfl⟩).mono ?_
  rintro e w3 ⟨rfl, hx3⟩
  replace hy := hy.trans hx3
  replace bP := bP.ext hx3
  replace bQ := bQ.ext hx3
  have cbP_7 := fun o => bP.cell o
  have cbQ_8 := fun o => bQ.cell o
  go_wp2
  go_ret
  exact ⟨rfl, hy⟩
set_option maxHeartbeats 2000000 in
theorem markRoom_m (r : Room) (us : List Value) (k0 : Int) (lo hi : Nat) (w : World) (h : AggAt w (roomF r) us lo hi) (h0 : 0 ≤ k0) (h1 : k0 + (cntF (roomF r) : Int) ≤ 1000000000000) (hhi : hi ≤ w.heap.size) :
    Calls Tryz.prog 17 #[.agg us.toArray, .int .i64 k0] w fun e w' => e = .returned (.int .i64 (k0 + (cntF (roomF r) : Int))) ∧ AggAt w' (markF (roomF r) k0) us lo hi ∧ Touch lo hi w w' := by
  have hcnt : cntF (roomF r) = r.Map.length * 1 + r.Noise.length * 3 + r.Limits.length * 3 := by simp only [roomF, cntF, halfF, intF]; omega
  rw [hcnt] at h1 ⊢
  clear hcnt
  obtain ⟨A0, c0, _, q0, rfl, o0, l0, _, rfl, _, rfl, _, rfl, _, rfl, _, rfl, A6, c6, _, q6, rfl, o6, l6, A7, c7, _, q7, rfl, o7, l7, rfl, le⟩ := h
  have len0 : r.Map.length * 1 ≤ 1000000000000 := by omega
  have len6 : r.Noise.length * 3 ≤ 1000000000000 := by omega
  have len7 : r.Limits.length * 3 ≤ 1000000000000 := by omega
  have hx : Touch lo hi w (w.alloc (.cells #[.slice A0 r.Map.length c0, .int .i64 r.Div, .int .i64 r.Bx, .int .i64 r.By, .int .i64 r.Low, .int .i64 r.High, .slice A6 r.Noise.length c6, .slice A7 r.Limits.length c7] 44)) := (Touch.refl lo hi w).alloc _
  have bP := Blk.new w 44 #[.slice A0 r.Map.length c0, .int .i64 r.Div, .int .i64 r.Bx, .int .i64 r.By, .int .i64 r.Low, .int .i64 r.High, .slice A6 r.Noise.length c6, .slice A7 r.Limits.length c7]
  have cP := fun o => bP.cell o
  replace o0 := o0.alloc (.cells #[.slice A0 r.Map.length c0, .int .i64 r.Div, .int .i64 r.Bx, .int .i64 r.By, .int .i64 r.Low, .int .i64 r.High, .slice A6 r.Noise.length c6, .slice A7 r.Limits.length c7] 44)
  replace o6 := o6.alloc (.cells #[.slice A0 r.Map.length c0, .int .i64 r.Div, .int .i64 r.Bx, .int .i64 r.By, .int .i64 r.Low, .int .i64 r.High, .slice A6 r.Noise.length c6, .slice A7 r.Limits.length c7] 44)
  replace o7 := o7.alloc (.cells #[.slice A0 r.Map.length c0, .int .i64 r.Div, .int .i64 r.Bx, .int .i64 r.By, .int .i64 r.Low, .int .i64 r.High, .slice A6 r.Noise.length c6, .slice A7 r.Limits.length c7] 44)
  go_enter Tryz.func17, Tryz.ntmps17
  go_wp2_with fail
  refine (markIntS_m _ _ _ _ _ _ _ _ o0 (by omega) (by omega) (by omega)).mono ?_
  rintro e w1 ⟨rfl, o0', t1⟩
  replace o6 := o6.touch t1 (by omega)
  replace o7 := o7.touch t1 (by omega)
  replace hx := hx.trans (t1.mono (by omega) (by omega))
  have hzz1 := t1.size
  simp only [World.size_alloc] at hzz1
  replace bP := bP.touch t1 (.inr (by omega))
  have cP1 := fun o => bP.cell o
  go_wp2_with fail
  have hcs2 : cntF (regionF r.Noise) = r.Noise.length * 3 := by simp only [regionF, cntF, halfF]; omega
  refine (markRegion_m r.Noise [.slice A6 r.Noise.length c6] _ q0 q6 _ ⟨_, _, _, q6, rfl, o6, l6, rfl, Nat.le_refl _⟩ (by omega) (by omega) (by first | omega | (simp <;> omega))).mono ?_
  rintro e w2 ⟨rfl, at2, t2⟩
  rw [hcs2]
  replace o0' := o0'.touch t2 (by omega)
  replace o7 := o7.touch t2 (by omega)
  replace hx := hx.trans (t2.mono (by omega) (by omega))
  have hzz2 := t2.size
  skip
  replace bP := bP.touch t2 (.inr (by omega))
  have cP2 := fun o => bP.cell o
  go_wp2_with fail
  have hcs3 : cntF (regionF r.Limits) = r.Limits.length * 3 := by simp only [regionF, cntF, halfF]; omega
  refine (markRegion_m r.Limits [.slice A7 r.Limits.length c7] _ q6 q7 _ ⟨_, _, _, q7, rfl, o7, l7, rfl, Nat.le_refl _⟩ (by omega) (by omega) (by first | omega | (simp <;> omega))).mono ?_
  rintro e w3 ⟨rfl, at3, t3⟩
  rw [hcs3]
  replace o0' := o0'.touch t3 (by omega)
  replace at2 := at2.touch t3 (by omega)
  replace hx := hx.trans (t3.mono (by omega) (by omega))
  have hzz3 := t3.size
  skip
  replace bP := bP.touch t3 (.inr (by omega))
  have cP3 := fun o => bP.cell o
  go_wp2
  go_ret
  refine ⟨ret_int (by omega), ?_, hx⟩
  obtain ⟨B6, d6, _, p6, e6, o6', l6', ee2, lle2⟩ := at2
  obtain ⟨hv6, rfl⟩ := List.cons.inj e6
  injection hv6 with ha6 _ hb6
  subst ha6 hb6
  obtain ⟨B7, d7, _, p7, e7, o7', l7', ee3, lle3⟩ := at3
  obtain ⟨hv7, rfl⟩ := List.cons.inj e7
  injection hv7 with ha7 _ hb7
  subst ha7 hb7
  exact ⟨_, _, _, q0, rfl, (by first | exact o0' | exact Mine.wide (lo' := lo) o0' (by omega) (Nat.le_refl _) | simpa [Int.add_assoc] using o0' | (have q := Mine.wide (lo' := lo) o0' (by omega) (Nat.le_refl _); simpa [Int.add_assoc] using q)), (by omega), _, rfl, _, rfl, _, rfl, _, rfl, _, rfl, _, _, _, p6, rfl, (by first | exact o6' | exact Mine.wide (lo' := q0) o6' (by omega) (Nat.le_refl _) | simpa [Int.add_assoc] using o6' | (have q := Mine.wide (lo' := q0) o6' (by omega) (Nat.le_refl _); simpa [Int.add_assoc] using q)), (by omega), _, _, _, p7, rfl, (by first | exact o7' | exact Mine.wide (lo' := p6) o7' (by omega) (Nat.le_refl _) | simpa [Int.add_assoc] using o7' | (have q := Mine.wide (lo' := p6) o7' (by omega) (Nat.le_refl _); simpa [Int.add_assoc] using q)), (by omega), rfl, by omega⟩
end Go.Proofs.YtbbdipfioopfmaaGreat
