/- The law FnExactSpanLine returns true for all arguments: SpanLine of the program and of the reference give one text. No condition beyond the row's own: the library's tables lie as the program's text lays them (the card ties that). -/
import Derived.Test.YtigkgnplgehmhaaGreatDoorHz
import Derived.Test.YtigkgnplgehmhaaGreatDoorSnl
import Derived.Test.YtigkgnplgehmhaaGreatDoorRh
import Derived.Test.YtigkgnplgehmhaaGreatDoorRa
import Derived.Test.YtigkgnplgehmhaaGreatDoorMn
import Derived.Test.YtigkgnplgehmhaaGreatDoorMRoom
import Derived.Test.YtigkgnplgehmhaaGreatDoorMRegion
import Derived.Test.YtigkgnplgehmhaaGreatDoorCards
import Derived.Test.YtigkgnplgehmhaaGreatDoorTie
import Derived.Deep.DeepHandedRow
import Derived.Lib.LaidTab
import Derived.LaidMore
import Derived.SevenTiedAt
import Derived.Deep.RegionHeld3
namespace Go.Proofs.YtigkgnplgehmhaaGreatDoor
open Go.ChangeShapes Go.WideShapes Go.ChangeAt Go.RowKit
set_option linter.unusedVariables false
set_option maxRecDepth 100000

set_option maxHeartbeats 16000000 in
theorem lawSpanLine (r0 : Room) (vs0 : List Value) (r1 : List Half) (vs1 : List Value) (z20 z21 z22 : Int) (w : World) (h0 : AggRow w (roomF r0) vs0) (hI0 : roomFI r0) (h1 : AggRow w (regionF r1) vs1) (hI1 : regionFI r1) (hz20 : I64 z20) (hz21 : I64 z21) (hz22 : I64 z22) (ht : Tab w) :
    Calls Tryz.prog 3 #[.agg vs0.toArray, .agg vs1.toArray, .agg #[.int .i64 z20, .int .i64 z21, .int .i64 z22]] w fun e w' => e = .returned (.bool true) ∧ Ext w w' := by
  have HT0 := Lib.hid ht
  clear ht
  obtain ⟨A0_0, c0_0, _, rfl, p0r0, p0n0, p0m0, _, rfl, _, rfl, _, rfl, _, rfl, _, rfl, A0_6, c0_6, _, rfl, p0r6, p0n6, p0m6, A0_7, c0_7, _, rfl, p0r7, p0n7, p0m7, rfl⟩ := h0
  obtain ⟨A1_0, c1_0, _, rfl, p1r0, p1n0, p1m0, rfl⟩ := h1
  have hy : Ext w (((w.alloc (.cells #[.slice A0_0 r0.Map.length c0_0, .int .i64 r0.Div, .int .i64 r0.Bx, .int .i64 r0.By, .int .i64 r0.Low, .int .i64 r0.High, .slice A0_6 r0.Noise.length c0_6, .slice A0_7 r0.Limits.length c0_7] 27)).alloc (.cells #[.slice A1_0 r1.length c1_0] 25)).alloc (.cells #[.int .i64 z20, .int .i64 z21, .int .i64 z22] 29)) := by repeat (first | exact Ext.refl _ | refine Ext.alloc ?_ _)
  have bA0 : Blk (((w.alloc (.cells #[.slice A0_0 r0.Map.length c0_0, .int .i64 r0.Div, .int .i64 r0.Bx, .int .i64 r0.By, .int .i64 r0.Low, .int .i64 r0.High, .slice A0_6 r0.Noise.length c0_6, .slice A0_7 r0.Limits.length c0_7] 27)).alloc (.cells #[.slice A1_0 r1.length c1_0] 25)).alloc (.cells #[.int .i64 z20, .int .i64 z21, .int .i64 z22] 29)) (w.heap.size) 27 #[.slice A0_0 r0.Map.length c0_0, .int .i64 r0.Div, .int .i64 r0.Bx, .int .i64 r0.By, .int .i64 r0.Low, .int .i64 r0.High, .slice A0_6 r0.Noise.length c0_6, .slice A0_7 r0.Limits.length c0_7] := by
    have q := Blk.new w 27 #[.slice A0_0 r0.Map.length c0_0, .int .i64 r0.Div, .int .i64 r0.Bx, .int .i64 r0.By, .int .i64 r0.Low, .int .i64 r0.High, .slice A0_6 r0.Noise.length c0_6, .slice A0_7 r0.Limits.length c0_7]
    replace q := q.alloc (.cells #[.slice A1_0 r1.length c1_0] 25)
    replace q := q.alloc (.cells #[.int .i64 z20, .int .i64 z21, .int .i64 z22] 29)
    simpa only [World.size_alloc] using q
  have bA1 : Blk (((w.alloc (.cells #[.slice A0_0 r0.Map.length c0_0, .int .i64 r0.Div, .int .i64 r0.Bx, .int .i64 r0.By, .int .i64 r0.Low, .int .i64 r0.High, .slice A0_6 r0.Noise.length c0_6, .slice A0_7 r0.Limits.length c0_7] 27)).alloc (.cells #[.slice A1_0 r1.length c1_0] 25)).alloc (.cells #[.int .i64 z20, .int .i64 z21, .int .i64 z22] 29)) (w.heap.size + 1) 25 #[.slice A1_0 r1.length c1_0] := by
    have q := Blk.new (w.alloc (.cells #[.slice A0_0 r0.Map.length c0_0, .int .i64 r0.Div, .int .i64 r0.Bx, .int .i64 r0.By, .int .i64 r0.Low, .int .i64 r0.High, .slice A0_6 r0.Noise.length c0_6, .slice A0_7 r0.Limits.length c0_7] 27)) 25 #[.slice A1_0 r1.length c1_0]
    replace q := q.alloc (.cells #[.int .i64 z20, .int .i64 z21, .int .i64 z22] 29)
    simpa only [World.size_alloc] using q
  have bA2 : Blk (((w.alloc (.cells #[.slice A0_0 r0.Map.length c0_0, .int .i64 r0.Div, .int .i64 r0.Bx, .int .i64 r0.By, .int .i64 r0.Low, .int .i64 r0.High, .slice A0_6 r0.Noise.length c0_6, .slice A0_7 r0.Limits.length c0_7] 27)).alloc (.cells #[.slice A1_0 r1.length c1_0] 25)).alloc (.cells #[.int .i64 z20, .int .i64 z21, .int .i64 z22] 29)) (w.heap.size + 2) 29 #[.int .i64 z20, .int .i64 z21, .int .i64 z22] := by
    have q := Blk.new ((w.alloc (.cells #[.slice A0_0 r0.Map.length c0_0, .int .i64 r0.Div, .int .i64 r0.Bx, .int .i64 r0.By, .int .i64 r0.Low, .int .i64 r0.High, .slice A0_6 r0.Noise.length c0_6, .slice A0_7 r0.Limits.length c0_7] 27)).alloc (.cells #[.slice A1_0 r1.length c1_0] 25)) 29 #[.int .i64 z20, .int .i64 z21, .int .i64 z22]
    simpa only [World.size_alloc] using q
  go_enter Tryz.func3, Tryz.ntmps3
  go_wp2_with fail
  refine (szRoom_m r0 [.slice A0_0 r0.Map.length c0_0, .int .i64 r0.Div, .int .i64 r0.Bx, .int .i64 r0.By, .int .i64 r0.Low, .int .i64 r0.High, .slice A0_6 r0.Noise.length c0_6, .slice A0_7 r0.Limits.length c0_7] (1048576) _ ⟨_, _, _, rfl, p0r0.ext hy, p0n0, p0m0, _, rfl, _, rfl, _, rfl, _, rfl, _, rfl, _, _, _, rfl, p0r6.ext hy, p0n6, p0m6, _, _, _, rfl, p0r7.ext hy, p0n7, p0m7, rfl⟩ (by omega) (by omega)).mono ?_
  rintro e w1 ⟨rfl, hx1⟩
  replace hy := hy.trans hx1
  replace bA0 := bA0.ext hx1
  replace bA1 := bA1.ext hx1
  replace bA2 := bA2.ext hx1
  have cbA0_1 := fun o => bA0.cell o
  have cbA1_2 := fun o => bA1.cell o
  have cbA2_3 := fun o => bA2.cell o
  have hbd0 := szL_bd (lenF (roomF r0)) (1048576) (by omega)
  have hle0 := szL_le (lenF (roomF r0)) (1048576)
  generalize szL (lenF (roomF r0)) (1048576) = l0 at hbd0 hle0 ⊢
  obtain ⟨hp0, hq0⟩ := hbd0
  by_cases hc0 : l0 < 0
  · go_wp2
    go_ret
    exact ⟨rfl, hy⟩
  have hb0 : ∀ n ∈ lenF (roomF r0), n ≤ 1048576 := fun n hn => by have := hle0 (by omega) n hn; omega
  clear hle0
  go_wp2_with fail
  refine (szRegion_m r1 [.slice A1_0 r1.length c1_0] (l0) _ ⟨_, _, _, rfl, p1r0.ext hy, p1n0, p1m0, rfl⟩ (by omega) (by omega)).mono ?_
  rintro e w2 ⟨rfl, hx2⟩
  replace hy := hy.trans hx2
  replace bA0 := bA0.ext hx2
  replace bA1 := bA1.ext hx2
  replace bA2 := bA2.ext hx2
  have cbA0_4 := fun o => bA0.cell o
  have cbA1_5 := fun o => bA1.cell o
  have cbA2_6 := fun o => bA2.cell o
  have hbd1 := szL_bd (lenF (regionF r1)) (l0) (by omega)
  have hle1 := szL_le (lenF (regionF r1)) (l0)
  generalize szL (lenF (regionF r1)) (l0) = l1 at hbd1 hle1 ⊢
  obtain ⟨hp1, hq1⟩ := hbd1
  by_cases hc1 : l1 < 0
  · go_wp2
    go_ret
    exact ⟨rfl, hy⟩
  have hb1 : ∀ n ∈ lenF (regionF r1), n ≤ 1048576 := fun n hn => by have := hle1 (by omega) n hn; omega
  clear hle1
  have hB0 := hb0
  rw [roomF_len] at hB0
  have b0_0 : r0.Map.length ≤ 1048576 := hB0 _ (by simp)
  have b0_6 : r0.Noise.length ≤ 1048576 := hB0 _ (by simp)
  have b0_7 : r0.Limits.length ≤ 1048576 := hB0 _ (by simp)
  clear hB0
  have hB1 := hb1
  rw [regionF_len] at hB1
  have b1_0 : r1.length ≤ 1048576 := hB1 _ (by simp)
  clear hB1
  have hs00 := hy.size
  have hsA0 := bA0.lt
  have hsA1 := bA1.lt
  have hsA2 := bA2.lt
  have hI1' : HalvesI r1 := hI1
  have hrow0 : AggRow (w2) (roomF r0) [.slice A0_0 r0.Map.length c0_0, .int .i64 r0.Div, .int .i64 r0.Bx, .int .i64 r0.By, .int .i64 r0.Low, .int .i64 r0.High, .slice A0_6 r0.Noise.length c0_6, .slice A0_7 r0.Limits.length c0_7] := ⟨_, _, _, rfl, p0r0.ext hy, p0n0, p0m0, _, rfl, _, rfl, _, rfl, _, rfl, _, rfl, _, _, _, rfl, p0r6.ext hy, p0n6, p0m6, _, _, _, rfl, p0r7.ext hy, p0n7, p0m7, rfl⟩
  have hrow1 : AggRow (w2) (regionF r1) [.slice A1_0 r1.length c1_0] := ⟨_, _, _, rfl, p1r0.ext hy, p1n0, p1m0, rfl⟩
  go_wp2_with fail
  have hcur := Ext.refl (w2)
  go_region_held3 (fun w' => w'.cell? ⟨w.heap.size, 0, none⟩ = some (.slice A0_0 r0.Map.length c0_0) ∧ w'.cell? ⟨w.heap.size, 1, none⟩ = some (.int .i64 r0.Div) ∧ w'.cell? ⟨w.heap.size, 2, none⟩ = some (.int .i64 r0.Bx) ∧ w'.cell? ⟨w.heap.size, 3, none⟩ = some (.int .i64 r0.By) ∧ w'.cell? ⟨w.heap.size, 4, none⟩ = some (.int .i64 r0.Low) ∧ w'.cell? ⟨w.heap.size, 5, none⟩ = some (.int .i64 r0.High) ∧ w'.cell? ⟨w.heap.size, 6, none⟩ = some (.slice A0_6 r0.Noise.length c0_6) ∧ w'.cell? ⟨w.heap.size, 7, none⟩ = some (.slice A0_7 r0.Limits.length c0_7) ∧ w'.cell? ⟨w.heap.size + 1, 0, none⟩ = some (.slice A1_0 r1.length c1_0) ∧ w'.cell? ⟨w.heap.size + 2, 0, none⟩ = some (.int .i64 z20) ∧ w'.cell? ⟨w.heap.size + 2, 1, none⟩ = some (.int .i64 z21) ∧ w'.cell? ⟨w.heap.size + 2, 2, none⟩ = some (.int .i64 z22))
    (go_keep)
    (first
      | (go_at_call 9; (with_reducible refine (toRoom_m r0 [.slice A0_0 r0.Map.length c0_0, .int .i64 r0.Div, .int .i64 r0.Bx, .int .i64 r0.By, .int .i64 r0.Low, .int .i64 r0.High, .slice A0_6 r0.Noise.length c0_6, .slice A0_7 r0.Limits.length c0_7] _ (by first | exact hrow0.ext hcur | exact hrow0.ext hcur.drew) hb0).mono ?_); rintro e w9 ⟨ua, rfl, ta, hx9⟩; replace hcur := Ext.trans (by first | exact hcur | exact hcur.drew) hx9; obtain ⟨Aa0, Aa6, Aa7, ca0, ca6, ca7, rfl, RHa⟩ := ta.here; clear ta; have cA0_9 := fun o => (bA0.ext hcur).cell o; have cA1_9 := fun o => (bA1.ext hcur).cell o; have cA2_9 := fun o => (bA2.ext hcur).cell o)
      | (go_at_call 10; (with_reducible refine (toRegion_m r1 [.slice A1_0 r1.length c1_0] _ (by first | exact hrow1.ext hcur | exact hrow1.ext hcur.drew) hb1).mono ?_); rintro e w9 ⟨ub, rfl, tb, hx9⟩; replace hcur := Ext.trans (by first | exact hcur | exact hcur.drew) hx9; obtain ⟨Ab0, cb0, rfl, rb, nb⟩ := tb.hereP; clear tb; replace RHa := RHa.ext hx9; have cA0_9 := fun o => (bA0.ext hcur).cell o; have cA1_9 := fun o => (bA1.ext hcur).cell o; have cA2_9 := fun o => (bA2.ext hcur).cell o)
      | (go_at_call 11; (with_reducible refine (toSpot_any _ _ _ _).mono ?_); rintro e w9 ⟨rfl, hx9⟩; replace hcur := Ext.trans (by first | exact hcur | exact hcur.drew) hx9; replace RHa := RHa.ext hx9; replace rb := rb.ext hx9; have cA0_9 := fun o => (bA0.ext hcur).cell o; have cA1_9 := fun o => (bA1.ext hcur).cell o; have cA2_9 := fun o => (bA2.ext hcur).cell o)
      | (go_at_call 8; (with_reducible refine (specSpanLine_any r0 _ _ _ _ _ _ _ _ _ r1 ⟨z20, z21, z22⟩ _ RHa hI0 ⟨by unfold maxLen; omega, by unfold maxLen; omega, by unfold maxLen; omega⟩ rfl rb nb hI1' (by unfold maxLen; omega) ⟨hz20, hz21, hz22⟩).mono ?_); rintro e w9 ⟨rfl, hx9⟩; replace hcur := Ext.trans (by first | exact hcur | exact hcur.drew) hx9; have cA0_9 := fun o => (bA0.ext hcur).cell o; have cA1_9 := fun o => (bA1.ext hcur).cell o; have cA2_9 := fun o => (bA2.ext hcur).cell o))
  replace hy := hy.trans hcur
  replace bA0 := bA0.ext hcur
  replace bA1 := bA1.ext hcur
  replace bA2 := bA2.ext hcur
  have cbA0_7 := fun o => bA0.cell o
  have cbA1_8 := fun o => bA1.cell o
  have cbA2_9 := fun o => bA2.cell o
  have hsH0 := Ext.size hcur
  clear hcur hrow0 hrow1
  have hs9 := hsH0
  go_wp2_with fail
  refine (toRoom_m r0 [.slice A0_0 r0.Map.length c0_0, .int .i64 r0.Div, .int .i64 r0.Bx, .int .i64 r0.By, .int .i64 r0.Low, .int .i64 r0.High, .slice A0_6 r0.Noise.length c0_6, .slice A0_7 r0.Limits.length c0_7] _ ⟨_, _, _, rfl, p0r0.ext hy, p0n0, p0m0, _, rfl, _, rfl, _, rfl, _, rfl, _, rfl, _, _, _, rfl, p0r6.ext hy, p0n6, p0m6, _, _, _, rfl, p0r7.ext hy, p0n7, p0m7, rfl⟩ hb0).mono ?_
  rintro e w10 ⟨ux, rfl, tx, hx10⟩
  replace hy := hy.trans hx10
  replace bA0 := bA0.ext hx10
  replace bA1 := bA1.ext hx10
  replace bA2 := bA2.ext hx10
  have cbA0_10 := fun o => bA0.cell o
  have cbA1_11 := fun o => bA1.cell o
  have cbA2_12 := fun o => bA2.cell o
  have hs10 := Ext.size hx10
  try simp only [World.size_alloc] at hs10
  obtain ⟨Ax_0, cx_0, _, qx_0, rfl, ox_0, lx_0, _, rfl, _, rfl, _, rfl, _, rfl, _, rfl, Ax_6, cx_6, _, qx_6, rfl, ox_6, lx_6, Ax_7, cx_7, _, qx_7, rfl, ox_7, lx_7, rfl, lex⟩ := tx
  have tx : AggAt w10 (roomF r0) [.slice Ax_0 r0.Map.length cx_0, .int .i64 r0.Div, .int .i64 r0.Bx, .int .i64 r0.By, .int .i64 r0.Low, .int .i64 r0.High, .slice Ax_6 r0.Noise.length cx_6, .slice Ax_7 r0.Limits.length cx_7] _ _ := ⟨_, _, _, qx_0, rfl, ox_0, lx_0, _, rfl, _, rfl, _, rfl, _, rfl, _, rfl, _, _, _, qx_6, rfl, ox_6, lx_6, _, _, _, qx_7, rfl, ox_7, lx_7, rfl, lex⟩
  try simp only [World.size_alloc] at tx
  clear ox_0 lx_0
  clear ox_6 lx_6
  clear ox_7 lx_7
  clear lex
  have bX := Blk.new w10 37 #[.slice Ax_0 r0.Map.length cx_0, .int .i64 r0.Div, .int .i64 r0.Bx, .int .i64 r0.By, .int .i64 r0.Low, .int .i64 r0.High, .slice Ax_6 r0.Noise.length cx_6, .slice Ax_7 r0.Limits.length cx_7]
  have ha10 := (Ext.refl w10).alloc (.cells #[.slice Ax_0 r0.Map.length cx_0, .int .i64 r0.Div, .int .i64 r0.Bx, .int .i64 r0.By, .int .i64 r0.Low, .int .i64 r0.High, .slice Ax_6 r0.Noise.length cx_6, .slice Ax_7 r0.Limits.length cx_7] 37)
  replace hy := hy.trans ha10
  replace bA0 := bA0.ext ha10
  replace bA1 := bA1.ext ha10
  replace bA2 := bA2.ext ha10
  replace tx := tx.ext ha10
  have cbA0_13 := fun o => bA0.cell o
  have cbA1_14 := fun o => bA1.cell o
  have cbA2_15 := fun o => bA2.cell o
  have hsX : w10.heap.size ≤ w10.heap.size := Nat.le_refl _
  go_wp2_with fail
  refine (toRegion_m r1 [.slice A1_0 r1.length c1_0] _ ⟨_, _, _, rfl, p1r0.ext hy, p1n0, p1m0, rfl⟩ hb1).mono ?_
  rintro e w11 ⟨uy, rfl, ty, hx11⟩
  replace hy := hy.trans hx11
  replace bA0 := bA0.ext hx11
  replace bA1 := bA1.ext hx11
  replace bA2 := bA2.ext hx11
  replace tx := tx.ext hx11
  replace bX := bX.ext hx11
  have cbA0_16 := fun o => bA0.cell o
  have cbA1_17 := fun o => bA1.cell o
  have cbA2_18 := fun o => bA2.cell o
  have cbX_19 := fun o => bX.cell o
  have hs11 := Ext.size hx11
  try simp only [World.size_alloc] at hs11
  obtain ⟨Ay_0, cy_0, _, qy_0, rfl, oy_0, ly_0, rfl, ley⟩ := ty
  have ty : AggAt w11 (regionF r1) [.slice Ay_0 r1.length cy_0] _ _ := ⟨_, _, _, qy_0, rfl, oy_0, ly_0, rfl, ley⟩
  try simp only [World.size_alloc] at ty
  clear oy_0 ly_0
  clear ley
  have bY := Blk.new w11 35 #[.slice Ay_0 r1.length cy_0]
  have ha11 := (Ext.refl w11).alloc (.cells #[.slice Ay_0 r1.length cy_0] 35)
  replace hy := hy.trans ha11
  replace bA0 := bA0.ext ha11
  replace bA1 := bA1.ext ha11
  replace bA2 := bA2.ext ha11
  replace tx := tx.ext ha11
  replace bX := bX.ext ha11
  replace ty := ty.ext ha11
  have cbA0_20 := fun o => bA0.cell o
  have cbA1_21 := fun o => bA1.cell o
  have cbA2_22 := fun o => bA2.cell o
  have cbX_23 := fun o => bX.cell o
  have hsY : w11.heap.size ≤ w11.heap.size := Nat.le_refl _
  have RHx : RoomHere (w11.alloc (.cells #[.slice Ay_0 r1.length cy_0] 35)) r0 Ax_0 Ax_6 Ax_7 cx_0 cx_6 cx_7 := ⟨tx.room.1, tx.room.2.1, tx.room.2.2⟩
  have ry := ty.rows_of
  have ny := regionAt_none ty
  have HT := HT0.out.ext hy
  go_wp2_with fail
  have hcur := Ext.refl (w11.alloc (.cells #[.slice Ay_0 r1.length cy_0] 35))
  go_region_held3 (fun w' => w'.cell? ⟨w10.heap.size, 0, none⟩ = some (.slice Ax_0 r0.Map.length cx_0) ∧ w'.cell? ⟨w10.heap.size, 1, none⟩ = some (.int .i64 r0.Div) ∧ w'.cell? ⟨w10.heap.size, 2, none⟩ = some (.int .i64 r0.Bx) ∧ w'.cell? ⟨w10.heap.size, 3, none⟩ = some (.int .i64 r0.By) ∧ w'.cell? ⟨w10.heap.size, 4, none⟩ = some (.int .i64 r0.Low) ∧ w'.cell? ⟨w10.heap.size, 5, none⟩ = some (.int .i64 r0.High) ∧ w'.cell? ⟨w10.heap.size, 6, none⟩ = some (.slice Ax_6 r0.Noise.length cx_6) ∧ w'.cell? ⟨w10.heap.size, 7, none⟩ = some (.slice Ax_7 r0.Limits.length cx_7) ∧ w'.cell? ⟨w11.heap.size, 0, none⟩ = some (.slice Ay_0 r1.length cy_0) ∧ w'.cell? ⟨w.heap.size + 2, 0, none⟩ = some (.int .i64 z20) ∧ w'.cell? ⟨w.heap.size + 2, 1, none⟩ = some (.int .i64 z21) ∧ w'.cell? ⟨w.heap.size + 2, 2, none⟩ = some (.int .i64 z22))
    (go_keep)
    (first
      | (go_at_call 11; (with_reducible refine (toSpot_any _ _ _ _).mono ?_); rintro e w99 ⟨rfl, hx9⟩; replace hcur := Ext.trans (by first | exact hcur | exact hcur.drew) hx9; replace RHx := RHx.ext hcur; replace ry := ry.ext hcur; replace HT := HT.ext hcur; have cX9 := fun o => (bX.ext hcur).cell o; have cY9 := fun o => (bY.ext hcur).cell o; have cZ9 := fun o => (bA2.ext hcur).cell o)
      | (go_at_call 12; (with_reducible refine (implSpanLine_any r0 _ _ _ _ _ _ _ _ _ r1 ⟨z20, z21, z22⟩ _ RHx hI0 ⟨by unfold maxLen; omega, by unfold maxLen; omega, by unfold maxLen; omega⟩ rfl ry ny hI1' (by unfold maxLen; omega) ⟨hz20, hz21, hz22⟩ HT).mono ?_); rintro e w99 ⟨rfl, hx9⟩; replace hcur := Ext.trans (by first | exact hcur | exact hcur.drew) hx9; have cX9 := fun o => (bX.ext hcur).cell o; have cY9 := fun o => (bY.ext hcur).cell o; have cZ9 := fun o => (bA2.ext hcur).cell o))
  replace hy := hy.trans hcur
  replace bA0 := bA0.ext hcur
  replace bA1 := bA1.ext hcur
  replace bA2 := bA2.ext hcur
  replace tx := tx.ext hcur
  replace bX := bX.ext hcur
  replace ty := ty.ext hcur
  replace bY := bY.ext hcur
  have cbA0_24 := fun o => bA0.cell o
  have cbA1_25 := fun o => bA1.cell o
  have cbA2_26 := fun o => bA2.cell o
  have cbX_27 := fun o => bX.cell o
  have cbY_28 := fun o => bY.cell o
  have hsH1 := Ext.size hcur
  try simp only [World.size_alloc] at hsH1
  clear hcur RHx ry ny HT
  have hrowA : AggRow (w99) (roomF r0) [.slice A0_0 r0.Map.length c0_0, .int .i64 r0.Div, .int .i64 r0.Bx, .int .i64 r0.By, .int .i64 r0.Low, .int .i64 r0.High, .slice A0_6 r0.Noise.length c0_6, .slice A0_7 r0.Limits.length c0_7] := ⟨_, _, _, rfl, p0r0.ext hy, p0n0, p0m0, _, rfl, _, rfl, _, rfl, _, rfl, _, rfl, _, _, _, rfl, p0r6.ext hy, p0n6, p0m6, _, _, _, rfl, p0r7.ext hy, p0n7, p0m7, rfl⟩
  go_wp2_with fail
  have hcur := Ext.refl (w99)
  go_region_held3 (fun w' => w'.cell? ⟨w10.heap.size, 0, none⟩ = some (.slice Ax_0 r0.Map.length cx_0) ∧ w'.cell? ⟨w10.heap.size, 1, none⟩ = some (.int .i64 r0.Div) ∧ w'.cell? ⟨w10.heap.size, 2, none⟩ = some (.int .i64 r0.Bx) ∧ w'.cell? ⟨w10.heap.size, 3, none⟩ = some (.int .i64 r0.By) ∧ w'.cell? ⟨w10.heap.size, 4, none⟩ = some (.int .i64 r0.Low) ∧ w'.cell? ⟨w10.heap.size, 5, none⟩ = some (.int .i64 r0.High) ∧ w'.cell? ⟨w10.heap.size, 6, none⟩ = some (.slice Ax_6 r0.Noise.length cx_6) ∧ w'.cell? ⟨w10.heap.size, 7, none⟩ = some (.slice Ax_7 r0.Limits.length cx_7) ∧ w'.cell? ⟨w.heap.size, 0, none⟩ = some (.slice A0_0 r0.Map.length c0_0) ∧ w'.cell? ⟨w.heap.size, 1, none⟩ = some (.int .i64 r0.Div) ∧ w'.cell? ⟨w.heap.size, 2, none⟩ = some (.int .i64 r0.Bx) ∧ w'.cell? ⟨w.heap.size, 3, none⟩ = some (.int .i64 r0.By) ∧ w'.cell? ⟨w.heap.size, 4, none⟩ = some (.int .i64 r0.Low) ∧ w'.cell? ⟨w.heap.size, 5, none⟩ = some (.int .i64 r0.High) ∧ w'.cell? ⟨w.heap.size, 6, none⟩ = some (.slice A0_6 r0.Noise.length c0_6) ∧ w'.cell? ⟨w.heap.size, 7, none⟩ = some (.slice A0_7 r0.Limits.length c0_7))
    (go_keep)
    (first
      | (go_at_call 9; (with_reducible refine (toRoom_m r0 [.slice A0_0 r0.Map.length c0_0, .int .i64 r0.Div, .int .i64 r0.Bx, .int .i64 r0.By, .int .i64 r0.Low, .int .i64 r0.High, .slice A0_6 r0.Noise.length c0_6, .slice A0_7 r0.Limits.length c0_7] _ (by first | exact hrowA.ext hcur | exact hrowA.ext hcur.drew) hb0).mono ?_); rintro e w9 ⟨us9, rfl, hat9, hx9⟩; replace hcur := Ext.trans (by first | exact hcur | exact hcur.drew) hx9; have cX9 := fun o => (bX.ext hcur).cell o; have cA9 := fun o => (bA0.ext hcur).cell o; have hrow9 := hat9.rows)
      | (go_at_call 13; (with_reducible refine (eqRoom_same r0 [.slice Ax_0 r0.Map.length cx_0, .int .i64 r0.Div, .int .i64 r0.Bx, .int .i64 r0.By, .int .i64 r0.Low, .int .i64 r0.High, .slice Ax_6 r0.Noise.length cx_6, .slice Ax_7 r0.Limits.length cx_7] us9 _ (by exact tx.rows.ext hcur) (by exact hrow9)).mono ?_); rintro e w9 ⟨rfl, hx9⟩; replace hcur := Ext.trans (by first | exact hcur | exact hcur.drew) hx9; have cX9 := fun o => (bX.ext hcur).cell o; have cA9 := fun o => (bA0.ext hcur).cell o))
  replace hy := hy.trans hcur
  replace bA0 := bA0.ext hcur
  replace bA1 := bA1.ext hcur
  replace bA2 := bA2.ext hcur
  replace tx := tx.ext hcur
  replace bX := bX.ext hcur
  replace ty := ty.ext hcur
  replace bY := bY.ext hcur
  have cbA0_29 := fun o => bA0.cell o
  have cbA1_30 := fun o => bA1.cell o
  have cbA2_31 := fun o => bA2.cell o
  have cbX_32 := fun o => bX.cell o
  have cbY_33 := fun o => bY.cell o
  have hsH11 := Ext.size hcur
  clear hcur
  have hrowA : AggRow (w9) (regionF r1) [.slice A1_0 r1.length c1_0] := ⟨_, _, _, rfl, p1r0.ext hy, p1n0, p1m0, rfl⟩
  go_wp2_with fail
  have hcur := Ext.refl (w9)
  go_region_held3 (fun w' => w'.cell? ⟨w11.heap.size, 0, none⟩ = some (.slice Ay_0 r1.length cy_0) ∧ w'.cell? ⟨w.heap.size + 1, 0, none⟩ = some (.slice A1_0 r1.length c1_0))
    (go_keep)
    (first
      | (go_at_call 10; (with_reducible refine (toRegion_m r1 [.slice A1_0 r1.length c1_0] _ (by first | exact hrowA.ext hcur | exact hrowA.ext hcur.drew) hb1).mono ?_); rintro e w9 ⟨us9, rfl, hat9, hx9⟩; replace hcur := Ext.trans (by first | exact hcur | exact hcur.drew) hx9; have cX9 := fun o => (bY.ext hcur).cell o; have cA9 := fun o => (bA1.ext hcur).cell o; have hrow9 := hat9.rows)
      | (go_at_call 14; (with_reducible refine (eqRegion_same r1 [.slice Ay_0 r1.length cy_0] us9 _ (by exact ty.rows.ext hcur) (by exact hrow9)).mono ?_); rintro e w9 ⟨rfl, hx9⟩; replace hcur := Ext.trans (by first | exact hcur | exact hcur.drew) hx9; have cX9 := fun o => (bY.ext hcur).cell o; have cA9 := fun o => (bA1.ext hcur).cell o))
  replace hy := hy.trans hcur
  replace bA0 := bA0.ext hcur
  replace bA1 := bA1.ext hcur
  replace bA2 := bA2.ext hcur
  replace tx := tx.ext hcur
  replace bX := bX.ext hcur
  replace ty := ty.ext hcur
  replace bY := bY.ext hcur
  have cbA0_34 := fun o => bA0.cell o
  have cbA1_35 := fun o => bA1.cell o
  have cbA2_36 := fun o => bA2.cell o
  have cbX_37 := fun o => bX.cell o
  have cbY_38 := fun o => bY.cell o
  have hsH11 := Ext.size hcur
  clear hcur
  go_wp2
  go_ret
  exact ⟨rfl, hy⟩

namespace lFnExactSpanLine
set_option maxRecDepth 100000
theorem own : ownKnob Tryz.prog.godebug = none := by kernel_rfl
theorem pTab : (Tryz.prog.globals[0]?).map (·.type) = some 198 := by kernel_rfl
theorem table {W : World} (h : laidMetH Tryz.prog Rows.fnExactSpanLineRow.laid W) : Tab W := by
  change laidMet Tryz.prog _ W at h
  obtain ⟨ps, ⟨g0, t0, cs0, f0, p0, q0, hg0, ht0, hv0, hd0, ⟨g1, t1, cs1, f1, p1, q1, hg1, ht1, hv1, hd1, ⟨g2, t2, cs2, f2, p2, q2, hg2, ht2, hv2, hd2, _, _⟩, _⟩, _⟩, _⟩ := h
  obtain rfl := Option.some.inj (gTab.symm.trans hg2)
  obtain rfl := Option.some.inj (pTab.symm.trans ht2)
  unfold Tab Lib.TabIs
  rw [hv2, ← Lib.cells_of_tab (k := .u64) (zs := Lib.pow10Tab) Tryz.underlying198 Tryz.underlying104 (by kernel_rfl) (by kernel_rfl) hd2]
theorem laid_met (os : Os) : laidMet Tryz.prog Rows.fnExactSpanLineRow.laid ((World.doorLaid Tryz.prog 400 os).forCall (fun _ _ => 0) ⟨#[], #[.agg #[.slice none 0 0, .int .i64 0, .int .i64 0, .int .i64 0, .int .i64 0, .int .i64 0, .slice none 0 0, .slice none 0 0], .agg #[.slice none 0 0], .agg #[.int .i64 0, .int .i64 0, .int .i64 0]], []⟩).memory :=
  laidMet_of_run' 8 (by kernel_rfl) (by kernel_rfl)
theorem reads (os : Os) {H : Type} (enc : TypeId × Value → H) : ∃ places, DataW.whole enc Tryz.prog ((World.doorLaid Tryz.prog 400 os).forCall (fun _ _ => 0) ⟨#[], #[.agg #[.slice none 0 0, .int .i64 0, .int .i64 0, .int .i64 0, .int .i64 0, .int .i64 0, .slice none 0 0, .slice none 0 0], .agg #[.slice none 0 0], .agg #[.int .i64 0, .int .i64 0, .int .i64 0]], []⟩).memory Tryz.f3.params.toList Rows.fnExactSpanLineSpec.vars false (#[.agg #[.slice none 0 0, .int .i64 0, .int .i64 0, .int .i64 0, .int .i64 0, .int .i64 0, .slice none 0 0, .slice none 0 0], .agg #[.slice none 0 0], .agg #[.int .i64 0, .int .i64 0, .int .i64 0]] : Array Value).toList 8 = some ([.agg [.nil, .lit (.int .i64 0), .lit (.int .i64 0), .lit (.int .i64 0), .lit (.int .i64 0), .lit (.int .i64 0), .agg [.nil], .agg [.nil]], .agg [.nil], .agg [.lit (.int .i64 0), .lit (.int .i64 0), .lit (.int .i64 0)]], [], places) :=
  ⟨[], by kernel_rfl⟩
theorem lifted (os : Os) (started : os.Started) (H : Type) (enc : TypeId × Value → H) (F : Stop.Interp) :
    ReturnsInHanded {} Tryz.checked os 3 .any ((OpenSpec.ofChange Rows.fnExactSpanLineSpec).preRow enc Tryz.prog Tryz.f3 Rows.fnExactSpanLineRow.domain false Rows.fnExactSpanLineRow.laid) (((OpenSpec.ofChange Rows.fnExactSpanLineSpec).at F).post enc Tryz.prog Tryz.f3 false true false false) := by
  obtain ⟨places, hx⟩ := reads os enc
  refine returnsInHanded_of_row (C := Tryz.checked) (s := OpenSpec.ofChange Rows.fnExactSpanLineSpec) own started (by kernel_rfl) Tryz.func3
    (witness_row_at (enc := enc) (C := Tryz.checked) false (World.doorLaid Tryz.prog 400 os) #[.agg #[.slice none 0 0, .int .i64 0, .int .i64 0, .int .i64 0, .int .i64 0, .int .i64 0, .slice none 0 0, .slice none 0 0], .agg #[.slice none 0 0], .agg #[.int .i64 0, .int .i64 0, .int .i64 0]] rfl (by kernel_rfl) (by kernel_rfl) (by kernel_rfl)
      (OpenSpec.preRow_of_cond 8 hx (by kernel_rfl) (fun k hk => by cases hk) (by kernel_rfl) (laid_met os))) ?_
  intro W base args ds gs before hval0 hW _ _ _ hL hShaped _
  have hTab := table hL
  have hval : ∀ (j : Nat) t v, Tryz.f3.params[j]? = some t → args[j]? = some v → Value.okWide Tryz.prog W .any base t v := hval0
  have hW' := hW
  obtain ⟨p, q, hA0, hV, rfl, _, _⟩ := hW
  have hA : DataW.TrodAll enc Tryz.prog W 0 (fun _ => true) true Tryz.f3.params.toList args.toList ds p := hA0
  rw [Tryz.params3] at hA hval
  obtain ⟨v0, vs0, d0, ds0, p0, q0, hargs, rfl, rfl, h0, r0⟩ := trodAll_cons hA
  obtain ⟨v1, vs1, d1, ds1, p1, q1, rfl, rfl, rfl, h1, r1⟩ := trodAll_cons r0
  obtain ⟨v2, vs2, d2, ds2, p2, q2, rfl, rfl, rfl, h2, r2⟩ := trodAll_cons r1
  obtain ⟨rfl, rfl, rfl⟩ := trodAll_nil r2
  obtain rfl : args = #[v0, v1, v2] := by cases args; simp_all
  obtain ⟨rfl, rfl⟩ := trodVars_none hV
  have hv0 := hval 0 27 v0 rfl rfl
  have hv1 := hval 1 25 v1 rfl rfl
  have hv2 := hval 2 29 v2 rfl rfl
  clear hA0 hval hval0
  obtain ⟨vs0, rfl, hk0⟩ := openArg_mix (n := 8) Tryz.underlying27 (by kernel_rfl) hv0 h0
  obtain ⟨m0, ha0, hI0⟩ := roomF_open hk0
  obtain ⟨vs1, rfl, hk1⟩ := openArg_mix (n := 8) Tryz.underlying25 (by kernel_rfl) hv1 h1
  obtain ⟨m1, ha1, hI1⟩ := regionF_open hk1
  obtain ⟨zs2, rfl, hl2, hI2⟩ := openArg_flat (n := 5) Tryz.underlying29 (by kernel_rfl) hv2 h2
  obtain ⟨z20, z21, z22, rfl⟩ := list3 (hl2.trans (by kernel_rfl : Tryz.prog.cellsOf 29 = 3))
  refine (lawSpanLine m0 vs0 m1 vs1 z20 z21 z22 W ha0 hI0 ha1 hI1 (hI2 _ (by simp)) (hI2 _ (by simp)) (hI2 _ (by simp)) hTab).mono fun e W' ⟨he, hx⟩ => ?_
  subst he
  exact ⟨_, rfl, law_post (tb := 4) laidOut (by kernel_rfl) rfl Tryz.underlying4 rfl hW' rfl rfl rfl hx⟩
theorem said : Rows.FnExactSpanLineSaid :=
  OpenClaim.holds_of_cond 3 Tryz.f3 rfl rfl rfl rfl rfl rfl rfl ⟨rfl, rfl, rfl, rfl, rfl⟩ rfl rfl rfl rfl rfl (by kernel_rfl) Tryz.func3 (by kernel_rfl)
    (of_decide_eq_true (by kernel_rfl)) (by unfold Func.isWrapper; first | (rw [if_pos (by decide +kernel)]; kernel_rfl) | (rw [if_neg (by decide +kernel)]; exact ⟨rfl, rfl⟩))
    (fun os started H enc _ F => by rw [OpenClaim.pre_eq_preRow]; exact lifted os started H enc F)
theorem plain (f : FuncId) (fn : Func) (hf : Tryz.pinned.checked.prog.funcNamed "loop.example/g00832/laws.FnExactSpanLine" = some f) (hfn : Tryz.pinned.checked.prog.funcs[f]? = some fn) :
    false = Tryz.pinned.checked.prog.looks [] ∧ ∀ (j : Nat) t, fn.params[j]? = some t → Tryz.pinned.checked.prog.wantsStandIn t = false := by
  obtain rfl : f = 3 := Option.some.inj ((show Tryz.prog.funcNamed "loop.example/g00832/laws.FnExactSpanLine" = some 3 by kernel_rfl).symm.trans hf) |>.symm
  obtain rfl : fn = Tryz.f3 := (Option.some.inj (Tryz.func3.symm.trans hfn)).symm
  refine ⟨by kernel_rfl, fun j t ht => ?_⟩
  rw [Tryz.params3] at ht
  have hm : t ∈ [27, 25, 29] := by simpa using Array.mem_of_getElem? ht
  have hall : ([27, 25, 29].all fun u => !Tryz.prog.wantsStandIn u) = true := by kernel_rfl
  exact (show Tryz.prog.wantsStandIn t = false by simpa using List.all_eq_true.1 hall t hm)
theorem proved : Rows.FnExactSpanLineCardSaid :=
  Claim7.holds_tied_plain_at .later [] _ _ _ _ said (fun _ h => by cases h) (by kernel_rfl) (fun _ h => by cases h) fnExactSpanLine_row_tie rfl ⟨rfl, rfl⟩ (by kernel_rfl) rfl plain (by kernel_rfl)
end lFnExactSpanLine
end Go.Proofs.YtigkgnplgehmhaaGreatDoor
