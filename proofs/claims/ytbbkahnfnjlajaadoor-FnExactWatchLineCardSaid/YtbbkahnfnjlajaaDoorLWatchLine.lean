/- The law FnExactWatchLine returns true for all arguments: WatchLine of the program and of the reference give one text. No condition beyond the row's own: the library's tables lie as the program's text lays them (the card ties that). -/
import Derived.Test.YtbbkahnfnjlajaaDoorOpen
import Derived.Test.YtbbkahnfnjlajaaDoorWl
import Derived.Test.YtbbkahnfnjlajaaDoorCards
import Derived.Test.YtbbkahnfnjlajaaDoorTie
import Derived.Deep.DeepHandedRow
import Derived.Lib.LaidTab
import Derived.LaidMore
import Derived.SevenTiedAt
import Derived.Deep.RegionHeld3
namespace Go.Proofs.YtbbkahnfnjlajaaDoor
open Go.ChangeShapes Go.WideShapes Go.ChangeAt Go.RowKit
set_option linter.unusedVariables false
set_option maxRecDepth 100000

set_option maxHeartbeats 4000000 in
theorem lawWatchLine (r0 : Watch) (vs0 : List Value) (w : World) (h0 : AggRow w (watchF r0) vs0) (hI0 : watchFI r0) (ht : Tab w) :
    Calls Tryd.prog 8 #[.agg vs0.toArray] w fun e w' => e = .returned (.bool true) ∧ Ext w w' := by
  have HT0 := Lib.hid ht
  clear ht
  obtain ⟨A0_0, c0_0, _, rfl, p0r0, p0n0, p0m0, _, rfl, _, rfl, _, rfl, _, rfl, _, rfl, A0_6, c0_6, _, rfl, p0r6, p0n6, p0m6, A0_7, c0_7, _, rfl, p0r7, p0n7, p0m7, A0_8, c0_8, _, rfl, p0r8, p0n8, p0m8, A0_9, c0_9, _, rfl, p0r9, p0n9, p0m9, rfl⟩ := h0
  have hy : Ext w (w.alloc (.cells #[.slice A0_0 r0.Room.Map.length c0_0, .int .i64 r0.Room.Div, .int .i64 r0.Room.Bx, .int .i64 r0.Room.By, .int .i64 r0.Room.Low, .int .i64 r0.Room.High, .slice A0_6 r0.Room.Noise.length c0_6, .slice A0_7 r0.Room.Limits.length c0_7, .slice A0_8 r0.Region.length c0_8, .slice A0_9 r0.Log.length c0_9] 83)) := by repeat (first | exact Ext.refl _ | refine Ext.alloc ?_ _)
  have bA0 : Blk (w.alloc (.cells #[.slice A0_0 r0.Room.Map.length c0_0, .int .i64 r0.Room.Div, .int .i64 r0.Room.Bx, .int .i64 r0.Room.By, .int .i64 r0.Room.Low, .int .i64 r0.Room.High, .slice A0_6 r0.Room.Noise.length c0_6, .slice A0_7 r0.Room.Limits.length c0_7, .slice A0_8 r0.Region.length c0_8, .slice A0_9 r0.Log.length c0_9] 83)) (w.heap.size) 83 #[.slice A0_0 r0.Room.Map.length c0_0, .int .i64 r0.Room.Div, .int .i64 r0.Room.Bx, .int .i64 r0.Room.By, .int .i64 r0.Room.Low, .int .i64 r0.Room.High, .slice A0_6 r0.Room.Noise.length c0_6, .slice A0_7 r0.Room.Limits.length c0_7, .slice A0_8 r0.Region.length c0_8, .slice A0_9 r0.Log.length c0_9] := by
    have q := Blk.new w 83 #[.slice A0_0 r0.Room.Map.length c0_0, .int .i64 r0.Room.Div, .int .i64 r0.Room.Bx, .int .i64 r0.Room.By, .int .i64 r0.Room.Low, .int .i64 r0.Room.High, .slice A0_6 r0.Room.Noise.length c0_6, .slice A0_7 r0.Room.Limits.length c0_7, .slice A0_8 r0.Region.length c0_8, .slice A0_9 r0.Log.length c0_9]
    simpa only [World.size_alloc] using q
  go_enter Tryd.func8, Tryd.ntmps8
  go_wp2_with fail
  refine (szWatch_m r0 [.slice A0_0 r0.Room.Map.length c0_0, .int .i64 r0.Room.Div, .int .i64 r0.Room.Bx, .int .i64 r0.Room.By, .int .i64 r0.Room.Low, .int .i64 r0.Room.High, .slice A0_6 r0.Room.Noise.length c0_6, .slice A0_7 r0.Room.Limits.length c0_7, .slice A0_8 r0.Region.length c0_8, .slice A0_9 r0.Log.length c0_9] (1048576) _ ⟨_, _, _, rfl, p0r0.ext hy, p0n0, p0m0, _, rfl, _, rfl, _, rfl, _, rfl, _, rfl, _, _, _, rfl, p0r6.ext hy, p0n6, p0m6, _, _, _, rfl, p0r7.ext hy, p0n7, p0m7, _, _, _, rfl, p0r8.ext hy, p0n8, p0m8, _, _, _, rfl, p0r9.ext hy, p0n9, p0m9, rfl⟩ (by omega) (by omega)).mono ?_
  rintro e w1 ⟨rfl, hx1⟩
  replace hy := hy.trans hx1
  replace bA0 := bA0.ext hx1
  have cbA0_1 := fun o => bA0.cell o
  have hbd0 := szL_bd (lenF (watchF r0)) (1048576) (by omega)
  have hle0 := szL_le (lenF (watchF r0)) (1048576)
  generalize szL (lenF (watchF r0)) (1048576) = l0 at hbd0 hle0 ⊢
  obtain ⟨hp0, hq0⟩ := hbd0
  by_cases hc0 : l0 < 0
  · go_wp2
    go_ret
    exact ⟨rfl, hy⟩
  have hb0 : ∀ n ∈ lenF (watchF r0), n ≤ 1048576 := fun n hn => by have := hle0 (by omega) n hn; omega
  clear hle0
  have hB0 := hb0
  rw [watchF_len] at hB0
  have b0_0 : r0.Room.Map.length ≤ 1048576 := hB0 _ (by simp)
  have b0_6 : r0.Room.Noise.length ≤ 1048576 := hB0 _ (by simp)
  have b0_7 : r0.Room.Limits.length ≤ 1048576 := hB0 _ (by simp)
  have b0_8 : r0.Region.length ≤ 1048576 := hB0 _ (by simp)
  have b0_9 : r0.Log.length ≤ 1048576 := hB0 _ (by simp)
  clear hB0
  go_wp2_with fail
  refine (toWatch_m r0 [.slice A0_0 r0.Room.Map.length c0_0, .int .i64 r0.Room.Div, .int .i64 r0.Room.Bx, .int .i64 r0.Room.By, .int .i64 r0.Room.Low, .int .i64 r0.Room.High, .slice A0_6 r0.Room.Noise.length c0_6, .slice A0_7 r0.Room.Limits.length c0_7, .slice A0_8 r0.Region.length c0_8, .slice A0_9 r0.Log.length c0_9] _ ⟨_, _, _, rfl, p0r0.ext hy, p0n0, p0m0, _, rfl, _, rfl, _, rfl, _, rfl, _, rfl, _, _, _, rfl, p0r6.ext hy, p0n6, p0m6, _, _, _, rfl, p0r7.ext hy, p0n7, p0m7, _, _, _, rfl, p0r8.ext hy, p0n8, p0m8, _, _, _, rfl, p0r9.ext hy, p0n9, p0m9, rfl⟩ hb0).mono ?_
  rintro e w2 ⟨ua, rfl, ta, hx2⟩
  replace hy := hy.trans hx2
  replace bA0 := bA0.ext hx2
  have cbA0_2 := fun o => bA0.cell o
  have hs2 := Ext.size hx2
  try simp only [World.size_alloc] at hs2
  obtain ⟨Aa_0, ca_0, _, qa_0, rfl, oa_0, la_0, _, rfl, _, rfl, _, rfl, _, rfl, _, rfl, Aa_6, ca_6, _, qa_6, rfl, oa_6, la_6, Aa_7, ca_7, _, qa_7, rfl, oa_7, la_7, Aa_8, ca_8, _, qa_8, rfl, oa_8, la_8, Aa_9, ca_9, _, qa_9, rfl, oa_9, la_9, rfl, lea⟩ := ta
  have ta : AggAt w2 (watchF r0) [.slice Aa_0 r0.Room.Map.length ca_0, .int .i64 r0.Room.Div, .int .i64 r0.Room.Bx, .int .i64 r0.Room.By, .int .i64 r0.Room.Low, .int .i64 r0.Room.High, .slice Aa_6 r0.Room.Noise.length ca_6, .slice Aa_7 r0.Room.Limits.length ca_7, .slice Aa_8 r0.Region.length ca_8, .slice Aa_9 r0.Log.length ca_9] _ _ := ⟨_, _, _, qa_0, rfl, oa_0, la_0, _, rfl, _, rfl, _, rfl, _, rfl, _, rfl, _, _, _, qa_6, rfl, oa_6, la_6, _, _, _, qa_7, rfl, oa_7, la_7, _, _, _, qa_8, rfl, oa_8, la_8, _, _, _, qa_9, rfl, oa_9, la_9, rfl, lea⟩
  try simp only [World.size_alloc] at ta
  clear oa_0 la_0
  clear oa_6 la_6
  clear oa_7 la_7
  clear oa_8 la_8
  clear oa_9 la_9
  clear lea
  go_wp2_with fail
  refine (specWatchLine_any r0 [.slice Aa_0 r0.Room.Map.length ca_0, .int .i64 r0.Room.Div, .int .i64 r0.Room.Bx, .int .i64 r0.Room.By, .int .i64 r0.Room.Low, .int .i64 r0.Room.High, .slice Aa_6 r0.Room.Noise.length ca_6, .slice Aa_7 r0.Room.Limits.length ca_7, .slice Aa_8 r0.Region.length ca_8, .slice Aa_9 r0.Log.length ca_9] _ ta.rows b0_9).mono ?_
  rintro e w3 ⟨rfl, hx3⟩
  replace hy := hy.trans hx3
  replace bA0 := bA0.ext hx3
  replace ta := ta.ext hx3
  have cbA0_3 := fun o => bA0.cell o
  have hs3 := Ext.size hx3
  try simp only [World.size_alloc] at hs3
  go_wp2_with fail
  refine (toWatch_m r0 [.slice A0_0 r0.Room.Map.length c0_0, .int .i64 r0.Room.Div, .int .i64 r0.Room.Bx, .int .i64 r0.Room.By, .int .i64 r0.Room.Low, .int .i64 r0.Room.High, .slice A0_6 r0.Room.Noise.length c0_6, .slice A0_7 r0.Room.Limits.length c0_7, .slice A0_8 r0.Region.length c0_8, .slice A0_9 r0.Log.length c0_9] _ ⟨_, _, _, rfl, p0r0.ext hy, p0n0, p0m0, _, rfl, _, rfl, _, rfl, _, rfl, _, rfl, _, _, _, rfl, p0r6.ext hy, p0n6, p0m6, _, _, _, rfl, p0r7.ext hy, p0n7, p0m7, _, _, _, rfl, p0r8.ext hy, p0n8, p0m8, _, _, _, rfl, p0r9.ext hy, p0n9, p0m9, rfl⟩ hb0).mono ?_
  rintro e w4 ⟨ux, rfl, tx, hx4⟩
  replace hy := hy.trans hx4
  replace bA0 := bA0.ext hx4
  replace ta := ta.ext hx4
  have cbA0_4 := fun o => bA0.cell o
  have hs4 := Ext.size hx4
  try simp only [World.size_alloc] at hs4
  obtain ⟨Ax_0, cx_0, _, qx_0, rfl, ox_0, lx_0, _, rfl, _, rfl, _, rfl, _, rfl, _, rfl, Ax_6, cx_6, _, qx_6, rfl, ox_6, lx_6, Ax_7, cx_7, _, qx_7, rfl, ox_7, lx_7, Ax_8, cx_8, _, qx_8, rfl, ox_8, lx_8, Ax_9, cx_9, _, qx_9, rfl, ox_9, lx_9, rfl, lex⟩ := tx
  have tx : AggAt w4 (watchF r0) [.slice Ax_0 r0.Room.Map.length cx_0, .int .i64 r0.Room.Div, .int .i64 r0.Room.Bx, .int .i64 r0.Room.By, .int .i64 r0.Room.Low, .int .i64 r0.Room.High, .slice Ax_6 r0.Room.Noise.length cx_6, .slice Ax_7 r0.Room.Limits.length cx_7, .slice Ax_8 r0.Region.length cx_8, .slice Ax_9 r0.Log.length cx_9] _ _ := ⟨_, _, _, qx_0, rfl, ox_0, lx_0, _, rfl, _, rfl, _, rfl, _, rfl, _, rfl, _, _, _, qx_6, rfl, ox_6, lx_6, _, _, _, qx_7, rfl, ox_7, lx_7, _, _, _, qx_8, rfl, ox_8, lx_8, _, _, _, qx_9, rfl, ox_9, lx_9, rfl, lex⟩
  try simp only [World.size_alloc] at tx
  clear ox_0 lx_0
  clear ox_6 lx_6
  clear ox_7 lx_7
  clear ox_8 lx_8
  clear ox_9 lx_9
  clear lex
  have bX := Blk.new w4 92 #[.slice Ax_0 r0.Room.Map.length cx_0, .int .i64 r0.Room.Div, .int .i64 r0.Room.Bx, .int .i64 r0.Room.By, .int .i64 r0.Room.Low, .int .i64 r0.Room.High, .slice Ax_6 r0.Room.Noise.length cx_6, .slice Ax_7 r0.Room.Limits.length cx_7, .slice Ax_8 r0.Region.length cx_8, .slice Ax_9 r0.Log.length cx_9]
  have ha4 := (Ext.refl w4).alloc (.cells #[.slice Ax_0 r0.Room.Map.length cx_0, .int .i64 r0.Room.Div, .int .i64 r0.Room.Bx, .int .i64 r0.Room.By, .int .i64 r0.Room.Low, .int .i64 r0.Room.High, .slice Ax_6 r0.Room.Noise.length cx_6, .slice Ax_7 r0.Room.Limits.length cx_7, .slice Ax_8 r0.Region.length cx_8, .slice Ax_9 r0.Log.length cx_9] 92)
  replace hy := hy.trans ha4
  replace bA0 := bA0.ext ha4
  replace ta := ta.ext ha4
  replace tx := tx.ext ha4
  have cbA0_5 := fun o => bA0.cell o
  have hsX : w4.heap.size ≤ w4.heap.size := Nat.le_refl _
  have HT := HT0.out.ext hy
  go_wp2_with fail
  refine (implWatchLine_any r0 [.slice Ax_0 r0.Room.Map.length cx_0, .int .i64 r0.Room.Div, .int .i64 r0.Room.Bx, .int .i64 r0.Room.By, .int .i64 r0.Room.Low, .int .i64 r0.Room.High, .slice Ax_6 r0.Room.Noise.length cx_6, .slice Ax_7 r0.Room.Limits.length cx_7, .slice Ax_8 r0.Region.length cx_8, .slice Ax_9 r0.Log.length cx_9] _ tx.rows b0_9 HT).mono ?_
  rintro e w5 ⟨rfl, hx5⟩
  replace hy := hy.trans hx5
  replace bA0 := bA0.ext hx5
  replace ta := ta.ext hx5
  replace tx := tx.ext hx5
  replace bX := bX.ext hx5
  have cbA0_6 := fun o => bA0.cell o
  have cbX_7 := fun o => bX.cell o
  have hs5 := Ext.size hx5
  try simp only [World.size_alloc] at hs5
  clear HT
  have hrowA : AggRow (w5) (watchF r0) [.slice A0_0 r0.Room.Map.length c0_0, .int .i64 r0.Room.Div, .int .i64 r0.Room.Bx, .int .i64 r0.Room.By, .int .i64 r0.Room.Low, .int .i64 r0.Room.High, .slice A0_6 r0.Room.Noise.length c0_6, .slice A0_7 r0.Room.Limits.length c0_7, .slice A0_8 r0.Region.length c0_8, .slice A0_9 r0.Log.length c0_9] := ⟨_, _, _, rfl, p0r0.ext hy, p0n0, p0m0, _, rfl, _, rfl, _, rfl, _, rfl, _, rfl, _, _, _, rfl, p0r6.ext hy, p0n6, p0m6, _, _, _, rfl, p0r7.ext hy, p0n7, p0m7, _, _, _, rfl, p0r8.ext hy, p0n8, p0m8, _, _, _, rfl, p0r9.ext hy, p0n9, p0m9, rfl⟩
  go_wp2_with fail
  have hcur := Ext.refl (w5)
  go_region_held3 (fun w' => w'.cell? ⟨w4.heap.size, 0, none⟩ = some (.slice Ax_0 r0.Room.Map.length cx_0) ∧ w'.cell? ⟨w4.heap.size, 1, none⟩ = some (.int .i64 r0.Room.Div) ∧ w'.cell? ⟨w4.heap.size, 2, none⟩ = some (.int .i64 r0.Room.Bx) ∧ w'.cell? ⟨w4.heap.size, 3, none⟩ = some (.int .i64 r0.Room.By) ∧ w'.cell? ⟨w4.heap.size, 4, none⟩ = some (.int .i64 r0.Room.Low) ∧ w'.cell? ⟨w4.heap.size, 5, none⟩ = some (.int .i64 r0.Room.High) ∧ w'.cell? ⟨w4.heap.size, 6, none⟩ = some (.slice Ax_6 r0.Room.Noise.length cx_6) ∧ w'.cell? ⟨w4.heap.size, 7, none⟩ = some (.slice Ax_7 r0.Room.Limits.length cx_7) ∧ w'.cell? ⟨w4.heap.size, 8, none⟩ = some (.slice Ax_8 r0.Region.length cx_8) ∧ w'.cell? ⟨w4.heap.size, 9, none⟩ = some (.slice Ax_9 r0.Log.length cx_9) ∧ w'.cell? ⟨w.heap.size, 0, none⟩ = some (.slice A0_0 r0.Room.Map.length c0_0) ∧ w'.cell? ⟨w.heap.size, 1, none⟩ = some (.int .i64 r0.Room.Div) ∧ w'.cell? ⟨w.heap.size, 2, none⟩ = some (.int .i64 r0.Room.Bx) ∧ w'.cell? ⟨w.heap.size, 3, none⟩ = some (.int .i64 r0.Room.By) ∧ w'.cell? ⟨w.heap.size, 4, none⟩ = some (.int .i64 r0.Room.Low) ∧ w'.cell? ⟨w.heap.size, 5, none⟩ = some (.int .i64 r0.Room.High) ∧ w'.cell? ⟨w.heap.size, 6, none⟩ = some (.slice A0_6 r0.Room.Noise.length c0_6) ∧ w'.cell? ⟨w.heap.size, 7, none⟩ = some (.slice A0_7 r0.Room.Limits.length c0_7) ∧ w'.cell? ⟨w.heap.size, 8, none⟩ = some (.slice A0_8 r0.Region.length c0_8) ∧ w'.cell? ⟨w.heap.size, 9, none⟩ = some (.slice A0_9 r0.Log.length c0_9))
    (go_keep)
    (first
      | (go_at_call 43; (with_reducible refine (toWatch_m r0 [.slice A0_0 r0.Room.Map.length c0_0, .int .i64 r0.Room.Div, .int .i64 r0.Room.Bx, .int .i64 r0.Room.By, .int .i64 r0.Room.Low, .int .i64 r0.Room.High, .slice A0_6 r0.Room.Noise.length c0_6, .slice A0_7 r0.Room.Limits.length c0_7, .slice A0_8 r0.Region.length c0_8, .slice A0_9 r0.Log.length c0_9] _ (by first | exact hrowA.ext hcur | exact hrowA.ext hcur.drew) hb0).mono ?_); rintro e w9 ⟨us9, rfl, hat9, hx9⟩; replace hcur := Ext.trans (by first | exact hcur | exact hcur.drew) hx9; have cX9 := fun o => (bX.ext hcur).cell o; have cA9 := fun o => (bA0.ext hcur).cell o; have hrow9 := hat9.rows)
      | (go_at_call 45; (with_reducible refine (eqWatch_same r0 [.slice Ax_0 r0.Room.Map.length cx_0, .int .i64 r0.Room.Div, .int .i64 r0.Room.Bx, .int .i64 r0.Room.By, .int .i64 r0.Room.Low, .int .i64 r0.Room.High, .slice Ax_6 r0.Room.Noise.length cx_6, .slice Ax_7 r0.Room.Limits.length cx_7, .slice Ax_8 r0.Region.length cx_8, .slice Ax_9 r0.Log.length cx_9] us9 _ (by exact tx.rows.ext hcur) (by exact hrow9)).mono ?_); rintro e w9 ⟨rfl, hx9⟩; replace hcur := Ext.trans (by first | exact hcur | exact hcur.drew) hx9; have cX9 := fun o => (bX.ext hcur).cell o; have cA9 := fun o => (bA0.ext hcur).cell o))
  all_goals replace hy := hy.trans hcur
  all_goals
    go_wp2
    go_ret
    exact ⟨rfl, hy⟩

namespace lFnExactWatchLine
set_option maxRecDepth 100000
theorem own : ownKnob Tryd.prog.godebug = none := by kernel_rfl
theorem pTab : (Tryd.prog.globals[0]?).map (·.type) = some 164 := by kernel_rfl
theorem table {W : World} (h : laidMetH Tryd.prog Rows.fnExactWatchLineRow.laid W) : Tab W := by
  change laidMet Tryd.prog _ W at h
  obtain ⟨ps, ⟨g0, t0, cs0, f0, p0, q0, hg0, ht0, hv0, hd0, ⟨g1, t1, cs1, f1, p1, q1, hg1, ht1, hv1, hd1, ⟨g2, t2, cs2, f2, p2, q2, hg2, ht2, hv2, hd2, _, _⟩, _⟩, _⟩, _⟩ := h
  obtain rfl := Option.some.inj (gTab.symm.trans hg2)
  obtain rfl := Option.some.inj (pTab.symm.trans ht2)
  unfold Tab Lib.TabIs
  rw [hv2, ← Lib.cells_of_tab (k := .u64) (zs := Lib.pow10Tab) Tryd.underlying164 Tryd.underlying130 (by kernel_rfl) (by kernel_rfl) hd2]
theorem laid_met (os : Os) : laidMet Tryd.prog Rows.fnExactWatchLineRow.laid ((World.doorLaid Tryd.prog 400 os).forCall (fun _ _ => 0) ⟨#[], #[.agg #[.slice none 0 0, .int .i64 0, .int .i64 0, .int .i64 0, .int .i64 0, .int .i64 0, .slice none 0 0, .slice none 0 0, .slice none 0 0, .slice none 0 0]], []⟩).memory :=
  laidMet_of_run' 8 (by kernel_rfl) (by kernel_rfl)
theorem reads (os : Os) {H : Type} (enc : TypeId × Value → H) : ∃ places, DataW.whole enc Tryd.prog ((World.doorLaid Tryd.prog 400 os).forCall (fun _ _ => 0) ⟨#[], #[.agg #[.slice none 0 0, .int .i64 0, .int .i64 0, .int .i64 0, .int .i64 0, .int .i64 0, .slice none 0 0, .slice none 0 0, .slice none 0 0, .slice none 0 0]], []⟩).memory Tryd.f8.params.toList Rows.fnExactWatchLineSpec.vars false (#[.agg #[.slice none 0 0, .int .i64 0, .int .i64 0, .int .i64 0, .int .i64 0, .int .i64 0, .slice none 0 0, .slice none 0 0, .slice none 0 0, .slice none 0 0]] : Array Value).toList 8 = some ([.agg [.agg [.nil, .lit (.int .i64 0), .lit (.int .i64 0), .lit (.int .i64 0), .lit (.int .i64 0), .lit (.int .i64 0), .agg [.nil], .agg [.nil]], .agg [.nil], .nil]], [], places) :=
  ⟨[], by kernel_rfl⟩
theorem lifted (os : Os) (started : os.Started) (H : Type) (enc : TypeId × Value → H) (F : Stop.Interp) :
    ReturnsInHanded {} Tryd.checked os 8 .any ((OpenSpec.ofChange Rows.fnExactWatchLineSpec).preRow enc Tryd.prog Tryd.f8 Rows.fnExactWatchLineRow.domain false Rows.fnExactWatchLineRow.laid) (((OpenSpec.ofChange Rows.fnExactWatchLineSpec).at F).post enc Tryd.prog Tryd.f8 false true false false) := by
  obtain ⟨places, hx⟩ := reads os enc
  refine returnsInHanded_of_row (C := Tryd.checked) (s := OpenSpec.ofChange Rows.fnExactWatchLineSpec) own started (by kernel_rfl) Tryd.func8
    (witness_row_at (enc := enc) (C := Tryd.checked) false (World.doorLaid Tryd.prog 400 os) #[.agg #[.slice none 0 0, .int .i64 0, .int .i64 0, .int .i64 0, .int .i64 0, .int .i64 0, .slice none 0 0, .slice none 0 0, .slice none 0 0, .slice none 0 0]] rfl (by kernel_rfl) (by kernel_rfl) (by kernel_rfl)
      (OpenSpec.preRow_of_cond 8 hx (by kernel_rfl) (fun k hk => by cases hk) (by kernel_rfl) (laid_met os))) ?_
  intro W base args ds gs before hval0 hW _ _ _ hL _ _
  have hTab := table hL
  have hval : ∀ (j : Nat) t v, Tryd.f8.params[j]? = some t → args[j]? = some v → Value.okWide Tryd.prog W .any base t v := hval0
  have hW' := hW
  obtain ⟨p, q, hA0, hV, rfl, _, _⟩ := hW
  have hA : DataW.TrodAll enc Tryd.prog W 0 (fun _ => true) true Tryd.f8.params.toList args.toList ds p := hA0
  rw [Tryd.params8] at hA hval
  obtain ⟨v0, vs0, d0, ds0, p0, q0, hargs, rfl, rfl, h0, r0⟩ := trodAll_cons hA
  obtain ⟨rfl, rfl, rfl⟩ := trodAll_nil r0
  obtain rfl : args = #[v0] := by cases args; simp_all
  obtain ⟨rfl, rfl⟩ := trodVars_none hV
  have hv0 := hval 0 83 v0 rfl rfl
  clear hA0 hval hval0
  obtain ⟨vs0, rfl, hk0⟩ := openArg_mix (n := 8) Tryd.underlying83 (by kernel_rfl) hv0 h0
  obtain ⟨m0, ha0, hI0⟩ := watchF_open hk0
  refine (lawWatchLine m0 vs0 W ha0 hI0 hTab).mono fun e W' ⟨he, hx⟩ => ?_
  subst he
  exact ⟨_, rfl, law_post (tb := 4) laidOut (by kernel_rfl) rfl Tryd.underlying4 rfl hW' rfl rfl rfl hx⟩
theorem said : Rows.FnExactWatchLineSaid :=
  OpenClaim.holds_of_cond 8 Tryd.f8 rfl rfl rfl rfl rfl rfl rfl ⟨rfl, rfl, rfl, rfl, rfl⟩ rfl rfl rfl rfl rfl (by kernel_rfl) Tryd.func8 (by kernel_rfl)
    (of_decide_eq_true (by kernel_rfl)) (by unfold Func.isWrapper; first | (rw [if_pos (by decide +kernel)]; kernel_rfl) | (rw [if_neg (by decide +kernel)]; exact ⟨rfl, rfl⟩))
    (fun os started H enc _ F => by rw [OpenClaim.pre_eq_preRow]; exact lifted os started H enc F)
theorem plain (f : FuncId) (fn : Func) (hf : Tryd.pinned.checked.prog.funcNamed "loop.example/g00832/laws.FnExactWatchLine" = some f) (hfn : Tryd.pinned.checked.prog.funcs[f]? = some fn) :
    false = Tryd.pinned.checked.prog.looks [] ∧ ∀ (j : Nat) t, fn.params[j]? = some t → Tryd.pinned.checked.prog.wantsStandIn t = false := by
  obtain rfl : f = 8 := Option.some.inj ((show Tryd.prog.funcNamed "loop.example/g00832/laws.FnExactWatchLine" = some 8 by kernel_rfl).symm.trans hf) |>.symm
  obtain rfl : fn = Tryd.f8 := (Option.some.inj (Tryd.func8.symm.trans hfn)).symm
  refine ⟨by kernel_rfl, fun j t ht => ?_⟩
  rw [Tryd.params8] at ht
  have hm : t ∈ [83] := by simpa using Array.mem_of_getElem? ht
  have hall : ([83].all fun u => !Tryd.prog.wantsStandIn u) = true := by kernel_rfl
  exact (show Tryd.prog.wantsStandIn t = false by simpa using List.all_eq_true.1 hall t hm)
theorem proved : Rows.FnExactWatchLineCardSaid :=
  Claim7.holds_tied_plain_at .later [] _ _ _ _ said (fun _ h => by cases h) (by kernel_rfl) (fun _ h => by cases h) fnExactWatchLine_row_tie rfl ⟨rfl, rfl⟩ (by kernel_rfl) rfl plain (by kernel_rfl)
end lFnExactWatchLine
end Go.Proofs.YtbbkahnfnjlajaaDoor
