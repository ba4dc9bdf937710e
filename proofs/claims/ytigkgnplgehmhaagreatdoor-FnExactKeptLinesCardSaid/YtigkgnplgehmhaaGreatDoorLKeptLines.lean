/- The law FnExactKeptLines returns true for all arguments: KeptLines of the program and of the reference give the same lines. No condition beyond the row's own: the library's tables lie as the program's text lays them (the card ties that). -/
import Derived.Test.YtigkgnplgehmhaaGreatDoorHz
import Derived.Test.YtigkgnplgehmhaaGreatDoorNz
import Derived.Test.YtigkgnplgehmhaaGreatDoorRa
import Derived.Test.YtigkgnplgehmhaaGreatDoorMn
import Derived.Test.YtigkgnplgehmhaaGreatDoorMRoom
import Derived.Test.YtigkgnplgehmhaaGreatDoorCards
import Derived.Test.YtigkgnplgehmhaaGreatDoorTie
import Derived.Deep.DeepHandedRow
import Derived.Lib.LaidTab
import Derived.LaidMore
import Derived.SevenTiedAt
import Derived.Deep.RegionHeld3
namespace Go.Proofs.YtigkgnplgehmhaaGreatDoor
open Go.ChangeShapes Go.WideShapes Go.ChangeAt Go.RowKit
set_option linter.unusedVariables false
set_option maxRecDepth 100000

set_option maxHeartbeats 8000000 in
theorem lawKeptLines (r0 : Room) (vs0 : List Value) (w : World) (h0 : AggRow w (roomF r0) vs0) (hI0 : roomFI r0) (ht : Tab w) :
    Calls Tryz.prog 4 #[.agg vs0.toArray] w fun e w' => e = .returned (.bool true) ∧ Ext w w' := by
  have HT0 := Lib.hid ht
  clear ht
  obtain ⟨A0_0, c0_0, _, rfl, p0r0, p0n0, p0m0, _, rfl, _, rfl, _, rfl, _, rfl, _, rfl, A0_6, c0_6, _, rfl, p0r6, p0n6, p0m6, A0_7, c0_7, _, rfl, p0r7, p0n7, p0m7, rfl⟩ := h0
  have hy : Ext w (w.alloc (.cells #[.slice A0_0 r0.Map.length c0_0, .int .i64 r0.Div, .int .i64 r0.Bx, .int .i64 r0.By, .int .i64 r0.Low, .int .i64 r0.High, .slice A0_6 r0.Noise.length c0_6, .slice A0_7 r0.Limits.length c0_7] 27)) := by repeat (first | exact Ext.refl _ | refine Ext.alloc ?_ _)
  have bA0 : Blk (w.alloc (.cells #[.slice A0_0 r0.Map.length c0_0, .int .i64 r0.Div, .int .i64 r0.Bx, .int .i64 r0.By, .int .i64 r0.Low, .int .i64 r0.High, .slice A0_6 r0.Noise.length c0_6, .slice A0_7 r0.Limits.length c0_7] 27)) (w.heap.size) 27 #[.slice A0_0 r0.Map.length c0_0, .int .i64 r0.Div, .int .i64 r0.Bx, .int .i64 r0.By, .int .i64 r0.Low, .int .i64 r0.High, .slice A0_6 r0.Noise.length c0_6, .slice A0_7 r0.Limits.length c0_7] := by
    have q := Blk.new w 27 #[.slice A0_0 r0.Map.length c0_0, .int .i64 r0.Div, .int .i64 r0.Bx, .int .i64 r0.By, .int .i64 r0.Low, .int .i64 r0.High, .slice A0_6 r0.Noise.length c0_6, .slice A0_7 r0.Limits.length c0_7]
    simpa only [World.size_alloc] using q
  go_enter Tryz.func4, Tryz.ntmps4
  go_wp2_with fail
  refine (szRoom_m r0 [.slice A0_0 r0.Map.length c0_0, .int .i64 r0.Div, .int .i64 r0.Bx, .int .i64 r0.By, .int .i64 r0.Low, .int .i64 r0.High, .slice A0_6 r0.Noise.length c0_6, .slice A0_7 r0.Limits.length c0_7] (1048576) _ ⟨_, _, _, rfl, p0r0.ext hy, p0n0, p0m0, _, rfl, _, rfl, _, rfl, _, rfl, _, rfl, _, _, _, rfl, p0r6.ext hy, p0n6, p0m6, _, _, _, rfl, p0r7.ext hy, p0n7, p0m7, rfl⟩ (by omega) (by omega)).mono ?_
  rintro e w1 ⟨rfl, hx1⟩
  replace hy := hy.trans hx1
  replace bA0 := bA0.ext hx1
  have cbA0_1 := fun o => bA0.cell o
  have hbd0 := szL_bd (lenF (roomF r0)) (1048576) (by omega)
  have hle0 := szL_le (lenF (roomF r0)) (1048576)
  generalize szL (lenF (roomF r0)) (1048576) = l0 at hbd0 hle0 ⊢
  obtain ⟨hp0, hq0⟩ := hbd0
  by_cases hc0 : l0 < 0
  · go_wp2
    go_ret
    exact ⟨rfl, hy⟩
  have hb0 : ∀ n ∈ lenF (roomF r0), n ≤ 1048576 := fun n hn => by have := hle0 (by omega) n hn; omega
  clear hle0
  have hB0 := hb0
  rw [roomF_len] at hB0
  have b0_0 : r0.Map.length ≤ 1048576 := hB0 _ (by simp)
  have b0_6 : r0.Noise.length ≤ 1048576 := hB0 _ (by simp)
  have b0_7 : r0.Limits.length ≤ 1048576 := hB0 _ (by simp)
  clear hB0
  have hs00 := hy.size
  have hsA0 := bA0.lt
  have hN : (keptT r0).length ≤ 1048576 := keptT_len r0
  go_wp2_with fail
  refine (toRoom_m r0 [.slice A0_0 r0.Map.length c0_0, .int .i64 r0.Div, .int .i64 r0.Bx, .int .i64 r0.By, .int .i64 r0.Low, .int .i64 r0.High, .slice A0_6 r0.Noise.length c0_6, .slice A0_7 r0.Limits.length c0_7] _ ⟨_, _, _, rfl, p0r0.ext hy, p0n0, p0m0, _, rfl, _, rfl, _, rfl, _, rfl, _, rfl, _, _, _, rfl, p0r6.ext hy, p0n6, p0m6, _, _, _, rfl, p0r7.ext hy, p0n7, p0m7, rfl⟩ hb0).mono ?_
  rintro e w2 ⟨ua, rfl, ta, hx2⟩
  replace hy := hy.trans hx2
  replace bA0 := bA0.ext hx2
  have cbA0_2 := fun o => bA0.cell o
  have hs2 := Ext.size hx2
  try simp only [World.size_alloc] at hs2
  obtain ⟨Aa_0, ca_0, _, qa_0, rfl, oa_0, la_0, _, rfl, _, rfl, _, rfl, _, rfl, _, rfl, Aa_6, ca_6, _, qa_6, rfl, oa_6, la_6, Aa_7, ca_7, _, qa_7, rfl, oa_7, la_7, rfl, lea⟩ := ta
  have ta : AggAt w2 (roomF r0) [.slice Aa_0 r0.Map.length ca_0, .int .i64 r0.Div, .int .i64 r0.Bx, .int .i64 r0.By, .int .i64 r0.Low, .int .i64 r0.High, .slice Aa_6 r0.Noise.length ca_6, .slice Aa_7 r0.Limits.length ca_7] _ _ := ⟨_, _, _, qa_0, rfl, oa_0, la_0, _, rfl, _, rfl, _, rfl, _, rfl, _, rfl, _, _, _, qa_6, rfl, oa_6, la_6, _, _, _, qa_7, rfl, oa_7, la_7, rfl, lea⟩
  try simp only [World.size_alloc] at ta
  clear oa_0 la_0
  clear oa_6 la_6
  clear oa_7 la_7
  clear lea
  go_wp2_with fail
  refine (specKeptLines_any r0 _ _ _ _ _ _ _ ⟨ta.room.1, ta.room.2.1, ta.room.2.2⟩ hI0 ⟨by unfold maxLen; omega, by unfold maxLen; omega, by unfold maxLen; omega⟩).mono ?_
  rintro e w3 ⟨Aw, cw, rfl, tw, hx3⟩
  replace hy := hy.trans hx3
  replace bA0 := bA0.ext hx3
  replace ta := ta.ext hx3
  have cbA0_3 := fun o => bA0.cell o
  have hs3 := Ext.size hx3
  try simp only [World.size_alloc] at hs3
  try simp only [World.size_alloc] at tw
  clear ta
  go_wp2_with fail
  refine (toRoom_m r0 [.slice A0_0 r0.Map.length c0_0, .int .i64 r0.Div, .int .i64 r0.Bx, .int .i64 r0.By, .int .i64 r0.Low, .int .i64 r0.High, .slice A0_6 r0.Noise.length c0_6, .slice A0_7 r0.Limits.length c0_7] _ ⟨_, _, _, rfl, p0r0.ext hy, p0n0, p0m0, _, rfl, _, rfl, _, rfl, _, rfl, _, rfl, _, _, _, rfl, p0r6.ext hy, p0n6, p0m6, _, _, _, rfl, p0r7.ext hy, p0n7, p0m7, rfl⟩ hb0).mono ?_
  rintro e w4 ⟨ux, rfl, tx, hx4⟩
  replace hy := hy.trans hx4
  replace bA0 := bA0.ext hx4
  replace tw := tw.ext hx4
  have cbA0_4 := fun o => bA0.cell o
  have hs4 := Ext.size hx4
  try simp only [World.size_alloc] at hs4
  obtain ⟨Ax_0, cx_0, _, qx_0, rfl, ox_0, lx_0, _, rfl, _, rfl, _, rfl, _, rfl, _, rfl, Ax_6, cx_6, _, qx_6, rfl, ox_6, lx_6, Ax_7, cx_7, _, qx_7, rfl, ox_7, lx_7, rfl, lex⟩ := tx
  have tx : AggAt w4 (roomF r0) [.slice Ax_0 r0.Map.length cx_0, .int .i64 r0.Div, .int .i64 r0.Bx, .int .i64 r0.By, .int .i64 r0.Low, .int .i64 r0.High, .slice Ax_6 r0.Noise.length cx_6, .slice Ax_7 r0.Limits.length cx_7] _ _ := ⟨_, _, _, qx_0, rfl, ox_0, lx_0, _, rfl, _, rfl, _, rfl, _, rfl, _, rfl, _, _, _, qx_6, rfl, ox_6, lx_6, _, _, _, qx_7, rfl, ox_7, lx_7, rfl, lex⟩
  try simp only [World.size_alloc] at tx
  clear ox_0 lx_0
  clear ox_6 lx_6
  clear ox_7 lx_7
  clear lex
  have bX := Blk.new w4 37 #[.slice Ax_0 r0.Map.length cx_0, .int .i64 r0.Div, .int .i64 r0.Bx, .int .i64 r0.By, .int .i64 r0.Low, .int .i64 r0.High, .slice Ax_6 r0.Noise.length cx_6, .slice Ax_7 r0.Limits.length cx_7]
  have ha4 := (Ext.refl w4).alloc (.cells #[.slice Ax_0 r0.Map.length cx_0, .int .i64 r0.Div, .int .i64 r0.Bx, .int .i64 r0.By, .int .i64 r0.Low, .int .i64 r0.High, .slice Ax_6 r0.Noise.length cx_6, .slice Ax_7 r0.Limits.length cx_7] 37)
  replace hy := hy.trans ha4
  replace bA0 := bA0.ext ha4
  replace tw := tw.ext ha4
  replace tx := tx.ext ha4
  have cbA0_5 := fun o => bA0.cell o
  have hsX : w4.heap.size ≤ w4.heap.size := Nat.le_refl _
  have HT := HT0.out.ext hy
  go_wp2_with fail
  refine (implKeptLines_any r0 _ _ _ _ _ _ _ ⟨tx.room.1, tx.room.2.1, tx.room.2.2⟩ hI0 ⟨by unfold maxLen; omega, by unfold maxLen; omega, by unfold maxLen; omega⟩ HT).mono ?_
  rintro e w5 ⟨Ag, cg, rfl, tg, hx5⟩
  replace hy := hy.trans hx5
  replace bA0 := bA0.ext hx5
  replace tw := tw.ext hx5
  replace tx := tx.ext hx5
  replace bX := bX.ext hx5
  have cbA0_6 := fun o => bA0.cell o
  have cbX_7 := fun o => bX.cell o
  have hs5 := Ext.size hx5
  try simp only [World.size_alloc] at hs5
  try simp only [World.size_alloc] at tg
  clear HT
  go_wp2_with fail
  refine (eqStringS_same _ _ _ _ _ (keptT r0) _ rfl tg.row tw.row (by unfold maxLen; omega)).mono ?_
  rintro e w6 ⟨rfl, hx6⟩
  replace hy := hy.trans hx6
  replace bA0 := bA0.ext hx6
  replace tw := tw.ext hx6
  replace tx := tx.ext hx6
  replace bX := bX.ext hx6
  replace tg := tg.ext hx6
  have cbA0_8 := fun o => bA0.cell o
  have cbX_9 := fun o => bX.cell o
  have hs6 := Ext.size hx6
  try simp only [World.size_alloc] at hs6
  have hrowA : AggRow (w6) (roomF r0) [.slice A0_0 r0.Map.length c0_0, .int .i64 r0.Div, .int .i64 r0.Bx, .int .i64 r0.By, .int .i64 r0.Low, .int .i64 r0.High, .slice A0_6 r0.Noise.length c0_6, .slice A0_7 r0.Limits.length c0_7] := ⟨_, _, _, rfl, p0r0.ext hy, p0n0, p0m0, _, rfl, _, rfl, _, rfl, _, rfl, _, rfl, _, _, _, rfl, p0r6.ext hy, p0n6, p0m6, _, _, _, rfl, p0r7.ext hy, p0n7, p0m7, rfl⟩
  go_wp2_with fail
  have hcur := Ext.refl (w6)
  go_region_held3 (fun w' => w'.cell? ⟨w4.heap.size, 0, none⟩ = some (.slice Ax_0 r0.Map.length cx_0) ∧ w'.cell? ⟨w4.heap.size, 1, none⟩ = some (.int .i64 r0.Div) ∧ w'.cell? ⟨w4.heap.size, 2, none⟩ = some (.int .i64 r0.Bx) ∧ w'.cell? ⟨w4.heap.size, 3, none⟩ = some (.int .i64 r0.By) ∧ w'.cell? ⟨w4.heap.size, 4, none⟩ = some (.int .i64 r0.Low) ∧ w'.cell? ⟨w4.heap.size, 5, none⟩ = some (.int .i64 r0.High) ∧ w'.cell? ⟨w4.heap.size, 6, none⟩ = some (.slice Ax_6 r0.Noise.length cx_6) ∧ w'.cell? ⟨w4.heap.size, 7, none⟩ = some (.slice Ax_7 r0.Limits.length cx_7) ∧ w'.cell? ⟨w.heap.size, 0, none⟩ = some (.slice A0_0 r0.Map.length c0_0) ∧ w'.cell? ⟨w.heap.size, 1, none⟩ = some (.int .i64 r0.Div) ∧ w'.cell? ⟨w.heap.size, 2, none⟩ = some (.int .i64 r0.Bx) ∧ w'.cell? ⟨w.heap.size, 3, none⟩ = some (.int .i64 r0.By) ∧ w'.cell? ⟨w.heap.size, 4, none⟩ = some (.int .i64 r0.Low) ∧ w'.cell? ⟨w.heap.size, 5, none⟩ = some (.int .i64 r0.High) ∧ w'.cell? ⟨w.heap.size, 6, none⟩ = some (.slice A0_6 r0.Noise.length c0_6) ∧ w'.cell? ⟨w.heap.size, 7, none⟩ = some (.slice A0_7 r0.Limits.length c0_7))
    (go_keep)
    (first
      | (go_at_call 9; (with_reducible refine (toRoom_m r0 [.slice A0_0 r0.Map.length c0_0, .int .i64 r0.Div, .int .i64 r0.Bx, .int .i64 r0.By, .int .i64 r0.Low, .int .i64 r0.High, .slice A0_6 r0.Noise.length c0_6, .slice A0_7 r0.Limits.length c0_7] _ (by first | exact hrowA.ext hcur | exact hrowA.ext hcur.drew) hb0).mono ?_); rintro e w9 ⟨us9, rfl, hat9, hx9⟩; replace hcur := Ext.trans (by first | exact hcur | exact hcur.drew) hx9; have cX9 := fun o => (bX.ext hcur).cell o; have cA9 := fun o => (bA0.ext hcur).cell o; have hrow9 := hat9.rows)
      | (go_at_call 13; (with_reducible refine (eqRoom_same r0 [.slice Ax_0 r0.Map.length cx_0, .int .i64 r0.Div, .int .i64 r0.Bx, .int .i64 r0.By, .int .i64 r0.Low, .int .i64 r0.High, .slice Ax_6 r0.Noise.length cx_6, .slice Ax_7 r0.Limits.length cx_7] us9 _ (by exact tx.rows.ext hcur) (by exact hrow9)).mono ?_); rintro e w9 ⟨rfl, hx9⟩; replace hcur := Ext.trans (by first | exact hcur | exact hcur.drew) hx9; have cX9 := fun o => (bX.ext hcur).cell o; have cA9 := fun o => (bA0.ext hcur).cell o))
  replace hy := hy.trans hcur
  replace bA0 := bA0.ext hcur
  replace tw := tw.ext hcur
  replace tx := tx.ext hcur
  replace bX := bX.ext hcur
  replace tg := tg.ext hcur
  have cbA0_10 := fun o => bA0.cell o
  have cbX_11 := fun o => bX.cell o
  have hsH6 := Ext.size hcur
  clear hcur
  have hcn7 : cntF (roomF r0) = r0.Map.length * 1 + r0.Noise.length * 3 + r0.Limits.length * 3 := by simp only [roomF, cntF, halfF, intF]; omega
  have hcb7 : cntF (roomF r0) ≤ 100000000 := by omega
  clear hcn7
  go_wp2_with fail
  refine (markRoom_m r0 [.slice Ax_0 r0.Map.length cx_0, .int .i64 r0.Div, .int .i64 r0.Bx, .int .i64 r0.By, .int .i64 r0.Low, .int .i64 r0.High, .slice Ax_6 r0.Noise.length cx_6, .slice Ax_7 r0.Limits.length cx_7] _ _ _ _ tx (by omega) (by omega) (by omega)).mono ?_
  rintro e w7 ⟨rfl, txq, k7⟩
  replace hy := hy.touch k7 (by omega)
  replace bA0 := bA0.touch k7 (by omega)
  have dbA0_1 := fun o => bA0.cell o
  replace tw := tw.touch k7 (by omega)
  replace bX := bX.touch k7 (by omega)
  have dbX_2 := fun o => bX.cell o
  replace tg := tg.touch k7 (by omega)
  have hsk7 := k7.size
  try simp only [World.size_alloc] at hsk7
  clear tx txq
  generalize cntF (roomF r0) = kc7 at hcb7 ⊢
  go_wp2_with fail
  refine (eqStringS_same _ _ _ _ _ (keptT r0) _ rfl tg.row tw.row (by unfold maxLen; omega)).mono ?_
  rintro e w8 ⟨rfl, hx8⟩
  replace hy := hy.trans hx8
  replace bA0 := bA0.ext hx8
  replace tw := tw.ext hx8
  replace bX := bX.ext hx8
  replace tg := tg.ext hx8
  have cbA0_12 := fun o => bA0.cell o
  have cbX_13 := fun o => bX.cell o
  have hs8 := Ext.size hx8
  try simp only [World.size_alloc] at hs8
  go_wp2_with fail
  refine (markStringS_m _ _ _ _ _ _ _ _ tg (by omega) (by omega) (by omega) (by omega)).mono ?_
  rintro e w9 ⟨rfl, tgq, k9⟩
  replace hy := hy.touch k9 (by omega)
  replace bA0 := bA0.touch k9 (by omega)
  have dbA0_3 := fun o => bA0.cell o
  replace tw := tw.touch k9 (by omega)
  replace bX := bX.touch k9 (by omega)
  have dbX_4 := fun o => bX.cell o
  have hsk9 := k9.size
  try simp only [World.size_alloc] at hsk9
  clear tg
  go_wp2_with fail
  refine (heldStringS_m _ _ _ _ _ tgq.row (by omega) (by omega) (by omega)).mono ?_
  rintro e w10 ⟨rfl, hx10⟩
  replace hy := hy.trans hx10
  replace bA0 := bA0.ext hx10
  replace tw := tw.ext hx10
  replace bX := bX.ext hx10
  replace tgq := tgq.ext hx10
  have cbA0_14 := fun o => bA0.cell o
  have cbX_15 := fun o => bX.cell o
  have hs10 := Ext.size hx10
  try simp only [World.size_alloc] at hs10
  go_wp2_with fail
  refine (toRoom_m r0 [.slice A0_0 r0.Map.length c0_0, .int .i64 r0.Div, .int .i64 r0.Bx, .int .i64 r0.By, .int .i64 r0.Low, .int .i64 r0.High, .slice A0_6 r0.Noise.length c0_6, .slice A0_7 r0.Limits.length c0_7] _ ⟨_, _, _, rfl, p0r0.ext hy, p0n0, p0m0, _, rfl, _, rfl, _, rfl, _, rfl, _, rfl, _, _, _, rfl, p0r6.ext hy, p0n6, p0m6, _, _, _, rfl, p0r7.ext hy, p0n7, p0m7, rfl⟩ hb0).mono ?_
  rintro e w11 ⟨uy, rfl, ty, hx11⟩
  replace hy := hy.trans hx11
  replace bA0 := bA0.ext hx11
  replace tw := tw.ext hx11
  replace bX := bX.ext hx11
  replace tgq := tgq.ext hx11
  have cbA0_16 := fun o => bA0.cell o
  have cbX_17 := fun o => bX.cell o
  have hs11 := Ext.size hx11
  try simp only [World.size_alloc] at hs11
  obtain ⟨Ay_0, cy_0, _, qy_0, rfl, oy_0, ly_0, _, rfl, _, rfl, _, rfl, _, rfl, _, rfl, Ay_6, cy_6, _, qy_6, rfl, oy_6, ly_6, Ay_7, cy_7, _, qy_7, rfl, oy_7, ly_7, rfl, ley⟩ := ty
  have ty : AggAt w11 (roomF r0) [.slice Ay_0 r0.Map.length cy_0, .int .i64 r0.Div, .int .i64 r0.Bx, .int .i64 r0.By, .int .i64 r0.Low, .int .i64 r0.High, .slice Ay_6 r0.Noise.length cy_6, .slice Ay_7 r0.Limits.length cy_7] _ _ := ⟨_, _, _, qy_0, rfl, oy_0, ly_0, _, rfl, _, rfl, _, rfl, _, rfl, _, rfl, _, _, _, qy_6, rfl, oy_6, ly_6, _, _, _, qy_7, rfl, oy_7, ly_7, rfl, ley⟩
  try simp only [World.size_alloc] at ty
  clear oy_0 ly_0
  clear oy_6 ly_6
  clear oy_7 ly_7
  clear ley
  have HT := HT0.out.ext hy
  go_wp2_with fail
  refine (implKeptLines_any r0 _ _ _ _ _ _ _ ⟨ty.room.1, ty.room.2.1, ty.room.2.2⟩ hI0 ⟨by unfold maxLen; omega, by unfold maxLen; omega, by unfold maxLen; omega⟩ HT).mono ?_
  rintro e w12 ⟨Ah, ch, rfl, th, hx12⟩
  replace hy := hy.trans hx12
  replace bA0 := bA0.ext hx12
  replace tw := tw.ext hx12
  replace bX := bX.ext hx12
  replace tgq := tgq.ext hx12
  replace ty := ty.ext hx12
  have cbA0_18 := fun o => bA0.cell o
  have cbX_19 := fun o => bX.cell o
  have hs12 := Ext.size hx12
  try simp only [World.size_alloc] at hs12
  try simp only [World.size_alloc] at th
  clear HT
  go_wp2_with fail
  refine (eqStringS_same _ _ _ _ _ (keptT r0) _ rfl th.row tw.row (by unfold maxLen; omega)).mono ?_
  rintro e w13 ⟨rfl, hx13⟩
  replace hy := hy.trans hx13
  replace bA0 := bA0.ext hx13
  replace tw := tw.ext hx13
  replace bX := bX.ext hx13
  replace tgq := tgq.ext hx13
  replace ty := ty.ext hx13
  replace th := th.ext hx13
  have cbA0_20 := fun o => bA0.cell o
  have cbX_21 := fun o => bX.cell o
  have hs13 := Ext.size hx13
  try simp only [World.size_alloc] at hs13
  go_wp2_with fail
  refine (heldStringS_m _ _ _ _ _ tgq.row (by omega) (by omega) (by omega)).mono ?_
  rintro e w14 ⟨rfl, hx14⟩
  replace hy := hy.trans hx14
  replace bA0 := bA0.ext hx14
  replace tw := tw.ext hx14
  replace bX := bX.ext hx14
  replace tgq := tgq.ext hx14
  replace ty := ty.ext hx14
  replace th := th.ext hx14
  have cbA0_22 := fun o => bA0.cell o
  have cbX_23 := fun o => bX.cell o
  have hs14 := Ext.size hx14
  try simp only [World.size_alloc] at hs14
  go_wp2
  go_ret
  exact ⟨rfl, hy⟩

namespace lFnExactKeptLines
set_option maxRecDepth 100000
theorem own : ownKnob Tryz.prog.godebug = none := by kernel_rfl
theorem pTab : (Tryz.prog.globals[0]?).map (·.type) = some 198 := by kernel_rfl
theorem table {W : World} (h : laidMetH Tryz.prog Rows.fnExactKeptLinesRow.laid W) : Tab W := by
  change laidMet Tryz.prog _ W at h
  obtain ⟨ps, ⟨g0, t0, cs0, f0, p0, q0, hg0, ht0, hv0, hd0, ⟨g1, t1, cs1, f1, p1, q1, hg1, ht1, hv1, hd1, ⟨g2, t2, cs2, f2, p2, q2, hg2, ht2, hv2, hd2, _, _⟩, _⟩, _⟩, _⟩ := h
  obtain rfl := Option.some.inj (gTab.symm.trans hg2)
  obtain rfl := Option.some.inj (pTab.symm.trans ht2)
  unfold Tab Lib.TabIs
  rw [hv2, ← Lib.cells_of_tab (k := .u64) (zs := Lib.pow10Tab) Tryz.underlying198 Tryz.underlying104 (by kernel_rfl) (by kernel_rfl) hd2]
theorem laid_met (os : Os) : laidMet Tryz.prog Rows.fnExactKeptLinesRow.laid ((World.doorLaid Tryz.prog 400 os).forCall (fun _ _ => 0) ⟨#[], #[.agg #[.slice none 0 0, .int .i64 0, .int .i64 0, .int .i64 0, .int .i64 0, .int .i64 0, .slice none 0 0, .slice none 0 0]], []⟩).memory :=
  laidMet_of_run' 8 (by kernel_rfl) (by kernel_rfl)
theorem reads (os : Os) {H : Type} (enc : TypeId × Value → H) : ∃ places, DataW.whole enc Tryz.prog ((World.doorLaid Tryz.prog 400 os).forCall (fun _ _ => 0) ⟨#[], #[.agg #[.slice none 0 0, .int .i64 0, .int .i64 0, .int .i64 0, .int .i64 0, .int .i64 0, .slice none 0 0, .slice none 0 0]], []⟩).memory Tryz.f4.params.toList Rows.fnExactKeptLinesSpec.vars false (#[.agg #[.slice none 0 0, .int .i64 0, .int .i64 0, .int .i64 0, .int .i64 0, .int .i64 0, .slice none 0 0, .slice none 0 0]] : Array Value).toList 8 = some ([.agg [.nil, .lit (.int .i64 0), .lit (.int .i64 0), .lit (.int .i64 0), .lit (.int .i64 0), .lit (.int .i64 0), .agg [.nil], .agg [.nil]]], [], places) :=
  ⟨[], by kernel_rfl⟩
theorem lifted (os : Os) (started : os.Started) (H : Type) (enc : TypeId × Value → H) (F : Stop.Interp) :
    ReturnsInHanded {} Tryz.checked os 4 .any ((OpenSpec.ofChange Rows.fnExactKeptLinesSpec).preRow enc Tryz.prog Tryz.f4 Rows.fnExactKeptLinesRow.domain false Rows.fnExactKeptLinesRow.laid) (((OpenSpec.ofChange Rows.fnExactKeptLinesSpec).at F).post enc Tryz.prog Tryz.f4 false true false false) := by
  obtain ⟨places, hx⟩ := reads os enc
  refine returnsInHanded_of_row (C := Tryz.checked) (s := OpenSpec.ofChange Rows.fnExactKeptLinesSpec) own started (by kernel_rfl) Tryz.func4
    (witness_row_at (enc := enc) (C := Tryz.checked) false (World.doorLaid Tryz.prog 400 os) #[.agg #[.slice none 0 0, .int .i64 0, .int .i64 0, .int .i64 0, .int .i64 0, .int .i64 0, .slice none 0 0, .slice none 0 0]] rfl (by kernel_rfl) (by kernel_rfl) (by kernel_rfl)
      (OpenSpec.preRow_of_cond 8 hx (by kernel_rfl) (fun k hk => by cases hk) (by kernel_rfl) (laid_met os))) ?_
  intro W base args ds gs before hval0 hW _ _ _ hL hShaped _
  have hTab := table hL
  have hval : ∀ (j : Nat) t v, Tryz.f4.params[j]? = some t → args[j]? = some v → Value.okWide Tryz.prog W .any base t v := hval0
  have hW' := hW
  obtain ⟨p, q, hA0, hV, rfl, _, _⟩ := hW
  have hA : DataW.TrodAll enc Tryz.prog W 0 (fun _ => true) true Tryz.f4.params.toList args.toList ds p := hA0
  rw [Tryz.params4] at hA hval
  obtain ⟨v0, vs0, d0, ds0, p0, q0, hargs, rfl, rfl, h0, r0⟩ := trodAll_cons hA
  obtain ⟨rfl, rfl, rfl⟩ := trodAll_nil r0
  obtain rfl : args = #[v0] := by cases args; simp_all
  obtain ⟨rfl, rfl⟩ := trodVars_none hV
  have hv0 := hval 0 27 v0 rfl rfl
  clear hA0 hval hval0
  obtain ⟨vs0, rfl, hk0⟩ := openArg_mix (n := 8) Tryz.underlying27 (by kernel_rfl) hv0 h0
  obtain ⟨m0, ha0, hI0⟩ := roomF_open hk0
  refine (lawKeptLines m0 vs0 W ha0 hI0 hTab).mono fun e W' ⟨he, hx⟩ => ?_
  subst he
  exact ⟨_, rfl, law_post (tb := 4) laidOut (by kernel_rfl) rfl Tryz.underlying4 rfl hW' rfl rfl rfl hx⟩
theorem said : Rows.FnExactKeptLinesSaid :=
  OpenClaim.holds_of_cond 4 Tryz.f4 rfl rfl rfl rfl rfl rfl rfl ⟨rfl, rfl, rfl, rfl, rfl⟩ rfl rfl rfl rfl rfl (by kernel_rfl) Tryz.func4 (by kernel_rfl)
    (of_decide_eq_true (by kernel_rfl)) (by unfold Func.isWrapper; first | (rw [if_pos (by decide +kernel)]; kernel_rfl) | (rw [if_neg (by decide +kernel)]; exact ⟨rfl, rfl⟩))
    (fun os started H enc _ F => by rw [OpenClaim.pre_eq_preRow]; exact lifted os started H enc F)
theorem plain (f : FuncId) (fn : Func) (hf : Tryz.pinned.checked.prog.funcNamed "loop.example/g00832/laws.FnExactKeptLines" = some f) (hfn : Tryz.pinned.checked.prog.funcs[f]? = some fn) :
    false = Tryz.pinned.checked.prog.looks [] ∧ ∀ (j : Nat) t, fn.params[j]? = some t → Tryz.pinned.checked.prog.wantsStandIn t = false := by
  obtain rfl : f = 4 := Option.some.inj ((show Tryz.prog.funcNamed "loop.example/g00832/laws.FnExactKeptLines" = some 4 by kernel_rfl).symm.trans hf) |>.symm
  obtain rfl : fn = Tryz.f4 := (Option.some.inj (Tryz.func4.symm.trans hfn)).symm
  refine ⟨by kernel_rfl, fun j t ht => ?_⟩
  rw [Tryz.params4] at ht
  have hm : t ∈ [27] := by simpa using Array.mem_of_getElem? ht
  have hall : ([27].all fun u => !Tryz.prog.wantsStandIn u) = true := by kernel_rfl
  exact (show Tryz.prog.wantsStandIn t = false by simpa using List.all_eq_true.1 hall t hm)
theorem proved : Rows.FnExactKeptLinesCardSaid :=
  Claim7.holds_tied_plain_at .later [] _ _ _ _ said (fun _ h => by cases h) (by kernel_rfl) (fun _ h => by cases h) fnExactKeptLines_row_tie rfl ⟨rfl, rfl⟩ (by kernel_rfl) rfl plain (by kernel_rfl)
end lFnExactKeptLines
end Go.Proofs.YtigkgnplgehmhaaGreatDoor
