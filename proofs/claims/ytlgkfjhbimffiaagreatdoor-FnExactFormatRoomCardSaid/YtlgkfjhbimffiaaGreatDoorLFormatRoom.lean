/- The law FnExactFormatRoom returns true for all arguments: FormatRoom of the program and of the reference give one text. No condition beyond the row's own: the library's tables lie as the program's text lays them (the card ties that). -/
import Derived.Test.YtlgkfjhbimffiaaGreatDoorHz
import Derived.Test.YtlgkfjhbimffiaaGreatDoorRm
import Derived.Test.YtlgkfjhbimffiaaGreatDoorMn
import Derived.Test.YtlgkfjhbimffiaaGreatDoorMRoom
import Derived.Test.YtlgkfjhbimffiaaGreatDoorCards
import Derived.Test.YtlgkfjhbimffiaaGreatDoorTie
import Derived.Deep.DeepHandedRow
import Derived.Lib.LaidTab
import Derived.LaidMore
import Derived.SevenTiedAt
import Derived.Deep.RegionHeld3
namespace Go.Proofs.YtlgkfjhbimffiaaGreatDoor
open Go.ChangeShapes Go.WideShapes Go.ChangeAt Go.RowKit
set_option linter.unusedVariables false
set_option maxRecDepth 100000

set_option maxHeartbeats 4000000 in
theorem lawFormatRoom (r0 : Room) (vs0 : List Value) (w : World) (h0 : AggRow w (roomF r0) vs0) (hI0 : roomFI r0) (ht : Tab w) :
    Calls Tryz.prog 4 #[.agg vs0.toArray] w fun e w' => e = .returned (.bool true) ∧ Ext w w' := by
  have HT0 := Lib.hid ht
  clear ht
  obtain ⟨A0_0, c0_0, _, rfl, p0r0, p0n0, p0m0, _, rfl, _, rfl, _, rfl, _, rfl, _, rfl, A0_6, c0_6, _, rfl, p0r6, p0n6, p0m6, A0_7, c0_7, _, rfl, p0r7, p0n7, p0m7, rfl⟩ := h0
  have hy : Ext w (w.alloc (.cells #[.slice A0_0 r0.Map.length c0_0, .int .i64 r0.Div, .int .i64 r0.Bx, .int .i64 r0.By, .int .i64 r0.Low, .int .i64 r0.High, .slice A0_6 r0.Noise.length c0_6, .slice A0_7 r0.Limits.length c0_7] 35)) := by repeat (first | exact Ext.refl _ | refine Ext.alloc ?_ _)
  have bA0 : Blk (w.alloc (.cells #[.slice A0_0 r0.Map.length c0_0, .int .i64 r0.Div, .int .i64 r0.Bx, .int .i64 r0.By, .int .i64 r0.Low, .int .i64 r0.High, .slice A0_6 r0.Noise.length c0_6, .slice A0_7 r0.Limits.length c0_7] 35)) (w.heap.size) 35 #[.slice A0_0 r0.Map.length c0_0, .int .i64 r0.Div, .int .i64 r0.Bx, .int .i64 r0.By, .int .i64 r0.Low, .int .i64 r0.High, .slice A0_6 r0.Noise.length c0_6, .slice A0_7 r0.Limits.length c0_7] := by
    have q := Blk.new w 35 #[.slice A0_0 r0.Map.length c0_0, .int .i64 r0.Div, .int .i64 r0.Bx, .int .i64 r0.By, .int .i64 r0.Low, .int .i64 r0.High, .slice A0_6 r0.Noise.length c0_6, .slice A0_7 r0.Limits.length c0_7]
    simpa only [World.size_alloc] using q
  go_enter Tryz.func4, Tryz.ntmps4
  go_wp2_with fail
  refine (szRoom_m r0 [.slice A0_0 r0.Map.length c0_0, .int .i64 r0.Div, .int .i64 r0.Bx, .int .i64 r0.By, .int .i64 r0.Low, .int .i64 r0.High, .slice A0_6 r0.Noise.length c0_6, .slice A0_7 r0.Limits.length c0_7] (1048576) _ ⟨_, _, _, rfl, p0r0.ext hy, p0n0, p0m0, _, rfl, _, rfl, _, rfl, _, rfl, _, rfl, _, _, _, rfl, p0r6.ext hy, p0n6, p0m6, _, _, _, rfl, p0r7.ext hy, p0n7, p0m7, rfl⟩ (by omega) (by omega)).mono ?_
  rintro e w1 ⟨rfl, hx1⟩
  replace hy := hy.trans hx1
  replace bA0 := bA0.ext hx1
  have cbA0_1 := fun o => bA0.cell o
  have hbd0 := szL_bd (lenF (roomF r0)) (1048576) (by omega)
  have hle0 := szL_le (lenF (roomF r0)) (1048576)
  generalize szL (lenF (roomF r0)) (1048576) = l0 at hbd0 hle0 ⊢
  obtain ⟨hp0, hq0⟩ := hbd0
  by_cases hc0 : l0 < 0
  · go_wp2
    go_ret
    exact ⟨rfl, hy⟩
  have hb0 : ∀ n ∈ lenF (roomF r0), n ≤ 1048576 := fun n hn => by have := hle0 (by omega) n hn; omega
  clear hle0
  have hB0 := hb0
  rw [roomF_len] at hB0
  have b0_0 : r0.Map.length ≤ 1048576 := hB0 _ (by simp)
  have b0_6 : r0.Noise.length ≤ 1048576 := hB0 _ (by simp)
  have b0_7 : r0.Limits.length ≤ 1048576 := hB0 _ (by simp)
  clear hB0
  have hs00 := hy.size
  have hsA0 := bA0.lt
  go_wp2_with fail
  refine (toRoom_m r0 [.slice A0_0 r0.Map.length c0_0, .int .i64 r0.Div, .int .i64 r0.Bx, .int .i64 r0.By, .int .i64 r0.Low, .int .i64 r0.High, .slice A0_6 r0.Noise.length c0_6, .slice A0_7 r0.Limits.length c0_7] _ ⟨_, _, _, rfl, p0r0.ext hy, p0n0, p0m0, _, rfl, _, rfl, _, rfl, _, rfl, _, rfl, _, _, _, rfl, p0r6.ext hy, p0n6, p0m6, _, _, _, rfl, p0r7.ext hy, p0n7, p0m7, rfl⟩ hb0).mono ?_
  rintro e w2 ⟨ua, rfl, ta, hx2⟩
  replace hy := hy.trans hx2
  replace bA0 := bA0.ext hx2
  have cbA0_2 := fun o => bA0.cell o
  have hs2 := Ext.size hx2
  try simp only [World.size_alloc] at hs2
  obtain ⟨Aa_0, ca_0, _, qa_0, rfl, oa_0, la_0, _, rfl, _, rfl, _, rfl, _, rfl, _, rfl, Aa_6, ca_6, _, qa_6, rfl, oa_6, la_6, Aa_7, ca_7, _, qa_7, rfl, oa_7, la_7, rfl, lea⟩ := ta
  have ta : AggAt w2 (roomF r0) [.slice Aa_0 r0.Map.length ca_0, .int .i64 r0.Div, .int .i64 r0.Bx, .int .i64 r0.By, .int .i64 r0.Low, .int .i64 r0.High, .slice Aa_6 r0.Noise.length ca_6, .slice Aa_7 r0.Limits.length ca_7] _ _ := ⟨_, _, _, qa_0, rfl, oa_0, la_0, _, rfl, _, rfl, _, rfl, _, rfl, _, rfl, _, _, _, qa_6, rfl, oa_6, la_6, _, _, _, qa_7, rfl, oa_7, la_7, rfl, lea⟩
  try simp only [World.size_alloc] at ta
  clear oa_0 la_0
  clear oa_6 la_6
  clear oa_7 la_7
  clear lea
  go_wp2_with fail
  refine (specFormatRoom_any r0 _ _ _ _ _ _ _ ta.room.1 ta.room.2.1 ta.room.2.2 hI0 ⟨by unfold maxLen; omega, by unfold maxLen; omega, by unfold maxLen; omega⟩).mono ?_
  rintro e w3 ⟨rfl, hx3⟩
  replace hy := hy.trans hx3
  replace bA0 := bA0.ext hx3
  replace ta := ta.ext hx3
  have cbA0_3 := fun o => bA0.cell o
  have hs3 := Ext.size hx3
  try simp only [World.size_alloc] at hs3
  go_wp2_with fail
  refine (toRoom_m r0 [.slice A0_0 r0.Map.length c0_0, .int .i64 r0.Div, .int .i64 r0.Bx, .int .i64 r0.By, .int .i64 r0.Low, .int .i64 r0.High, .slice A0_6 r0.Noise.length c0_6, .slice A0_7 r0.Limits.length c0_7] _ ⟨_, _, _, rfl, p0r0.ext hy, p0n0, p0m0, _, rfl, _, rfl, _, rfl, _, rfl, _, rfl, _, _, _, rfl, p0r6.ext hy, p0n6, p0m6, _, _, _, rfl, p0r7.ext hy, p0n7, p0m7, rfl⟩ hb0).mono ?_
  rintro e w4 ⟨ux, rfl, tx, hx4⟩
  replace hy := hy.trans hx4
  replace bA0 := bA0.ext hx4
  replace ta := ta.ext hx4
  have cbA0_4 := fun o => bA0.cell o
  have hs4 := Ext.size hx4
  try simp only [World.size_alloc] at hs4
  obtain ⟨Ax_0, cx_0, _, qx_0, rfl, ox_0, lx_0, _, rfl, _, rfl, _, rfl, _, rfl, _, rfl, Ax_6, cx_6, _, qx_6, rfl, ox_6, lx_6, Ax_7, cx_7, _, qx_7, rfl, ox_7, lx_7, rfl, lex⟩ := tx
  have tx : AggAt w4 (roomF r0) [.slice Ax_0 r0.Map.length cx_0, .int .i64 r0.Div, .int .i64 r0.Bx, .int .i64 r0.By, .int .i64 r0.Low, .int .i64 r0.High, .slice Ax_6 r0.Noise.length cx_6, .slice Ax_7 r0.Limits.length cx_7] _ _ := ⟨_, _, _, qx_0, rfl, ox_0, lx_0, _, rfl, _, rfl, _, rfl, _, rfl, _, rfl, _, _, _, qx_6, rfl, ox_6, lx_6, _, _, _, qx_7, rfl, ox_7, lx_7, rfl, lex⟩
  try simp only [World.size_alloc] at tx
  clear ox_0 lx_0
  clear ox_6 lx_6
  clear ox_7 lx_7
  clear lex
  have bX := Blk.new w4 39 #[.slice Ax_0 r0.Map.length cx_0, .int .i64 r0.Div, .int .i64 r0.Bx, .int .i64 r0.By, .int .i64 r0.Low, .int .i64 r0.High, .slice Ax_6 r0.Noise.length cx_6, .slice Ax_7 r0.Limits.length cx_7]
  have ha4 := (Ext.refl w4).alloc (.cells #[.slice Ax_0 r0.Map.length cx_0, .int .i64 r0.Div, .int .i64 r0.Bx, .int .i64 r0.By, .int .i64 r0.Low, .int .i64 r0.High, .slice Ax_6 r0.Noise.length cx_6, .slice Ax_7 r0.Limits.length cx_7] 39)
  replace hy := hy.trans ha4
  replace bA0 := bA0.ext ha4
  replace ta := ta.ext ha4
  replace tx := tx.ext ha4
  have cbA0_5 := fun o => bA0.cell o
  have hsX : w4.heap.size ≤ w4.heap.size := Nat.le_refl _
  have HT := HT0.out.ext hy
  go_wp2_with fail
  refine (implFormatRoom_any r0 _ _ _ _ _ _ _ tx.room.1 hI0 ⟨by unfold maxLen; omega, by unfold maxLen; omega, by unfold maxLen; omega⟩ HT).mono ?_
  rintro e w5 ⟨rfl, hx5⟩
  replace hy := hy.trans hx5
  replace bA0 := bA0.ext hx5
  replace ta := ta.ext hx5
  replace tx := tx.ext hx5
  replace bX := bX.ext hx5
  have cbA0_6 := fun o => bA0.cell o
  have cbX_7 := fun o => bX.cell o
  have hs5 := Ext.size hx5
  try simp only [World.size_alloc] at hs5
  clear HT
  have hrowA : AggRow (w5) (roomF r0) [.slice A0_0 r0.Map.length c0_0, .int .i64 r0.Div, .int .i64 r0.Bx, .int .i64 r0.By, .int .i64 r0.Low, .int .i64 r0.High, .slice A0_6 r0.Noise.length c0_6, .slice A0_7 r0.Limits.length c0_7] := ⟨_, _, _, rfl, p0r0.ext hy, p0n0, p0m0, _, rfl, _, rfl, _, rfl, _, rfl, _, rfl, _, _, _, rfl, p0r6.ext hy, p0n6, p0m6, _, _, _, rfl, p0r7.ext hy, p0n7, p0m7, rfl⟩
  go_wp2_with fail
  have hcur := Ext.refl (w5)
  go_region_held3 (fun w' => w'.cell? ⟨w4.heap.size, 0, none⟩ = some (.slice Ax_0 r0.Map.length cx_0) ∧ w'.cell? ⟨w4.heap.size, 1, none⟩ = some (.int .i64 r0.Div) ∧ w'.cell? ⟨w4.heap.size, 2, none⟩ = some (.int .i64 r0.Bx) ∧ w'.cell? ⟨w4.heap.size, 3, none⟩ = some (.int .i64 r0.By) ∧ w'.cell? ⟨w4.heap.size, 4, none⟩ = some (.int .i64 r0.Low) ∧ w'.cell? ⟨w4.heap.size, 5, none⟩ = some (.int .i64 r0.High) ∧ w'.cell? ⟨w4.heap.size, 6, none⟩ = some (.slice Ax_6 r0.Noise.length cx_6) ∧ w'.cell? ⟨w4.heap.size, 7, none⟩ = some (.slice Ax_7 r0.Limits.length cx_7) ∧ w'.cell? ⟨w.heap.size, 0, none⟩ = some (.slice A0_0 r0.Map.length c0_0) ∧ w'.cell? ⟨w.heap.size, 1, none⟩ = some (.int .i64 r0.Div) ∧ w'.cell? ⟨w.heap.size, 2, none⟩ = some (.int .i64 r0.Bx) ∧ w'.cell? ⟨w.heap.size, 3, none⟩ = some (.int .i64 r0.By) ∧ w'.cell? ⟨w.heap.size, 4, none⟩ = some (.int .i64 r0.Low) ∧ w'.cell? ⟨w.heap.size, 5, none⟩ = some (.int .i64 r0.High) ∧ w'.cell? ⟨w.heap.size, 6, none⟩ = some (.slice A0_6 r0.Noise.length c0_6) ∧ w'.cell? ⟨w.heap.size, 7, none⟩ = some (.slice A0_7 r0.Limits.length c0_7))
    (go_keep)
    (first
      | (go_at_call 14; (with_reducible refine (toRoom_m r0 [.slice A0_0 r0.Map.length c0_0, .int .i64 r0.Div, .int .i64 r0.Bx, .int .i64 r0.By, .int .i64 r0.Low, .int .i64 r0.High, .slice A0_6 r0.Noise.length c0_6, .slice A0_7 r0.Limits.length c0_7] _ (by first | exact hrowA.ext hcur | exact hrowA.ext hcur.drew) hb0).mono ?_); rintro e w9 ⟨us9, rfl, hat9, hx9⟩; replace hcur := Ext.trans (by first | exact hcur | exact hcur.drew) hx9; have cX9 := fun o => (bX.ext hcur).cell o; have cA9 := fun o => (bA0.ext hcur).cell o; have hrow9 := hat9.rows)
      | (go_at_call 16; (with_reducible refine (eqRoom_same r0 [.slice Ax_0 r0.Map.length cx_0, .int .i64 r0.Div, .int .i64 r0.Bx, .int .i64 r0.By, .int .i64 r0.Low, .int .i64 r0.High, .slice Ax_6 r0.Noise.length cx_6, .slice Ax_7 r0.Limits.length cx_7] us9 _ (by exact tx.rows.ext hcur) (by exact hrow9)).mono ?_); rintro e w9 ⟨rfl, hx9⟩; replace hcur := Ext.trans (by first | exact hcur | exact hcur.drew) hx9; have cX9 := fun o => (bX.ext hcur).cell o; have cA9 := fun o => (bA0.ext hcur).cell o))
  replace hy := hy.trans hcur
  replace bA0 := bA0.ext hcur
  replace ta := ta.ext hcur
  replace tx := tx.ext hcur
  replace bX := bX.ext hcur
  have cbA0_8 := fun o => bA0.cell o
  have cbX_9 := fun o => bX.cell o
  have hsH5 := Ext.size hcur
  clear hcur
  go_wp2
  go_ret
  exact ⟨rfl, hy⟩

namespace lFnExactFormatRoom
set_option maxRecDepth 100000
theorem own : ownKnob Tryz.prog.godebug = none := by kernel_rfl
theorem pTab : (Tryz.prog.globals[3]?).map (·.type) = some 170 := by kernel_rfl
theorem table {W : World} (h : laidMetH Tryz.prog Rows.fnExactFormatRoomRow.laid W) : Tab W := by
  change laidMet Tryz.prog _ W at h
  obtain ⟨ps, ⟨g0, t0, cs0, f0, p0, q0, hg0, ht0, hv0, hd0, ⟨g1, t1, cs1, f1, p1, q1, hg1, ht1, hv1, hd1, ⟨g2, t2, cs2, f2, p2, q2, hg2, ht2, hv2, hd2, _, _⟩, _⟩, _⟩, _⟩ := h
  obtain rfl := Option.some.inj (gTab.symm.trans hg2)
  obtain rfl := Option.some.inj (pTab.symm.trans ht2)
  unfold Tab Lib.TabIs
  rw [hv2, ← Lib.cells_of_tab (k := .u64) (zs := Lib.pow10Tab) Tryz.underlying170 Tryz.underlying100 (by kernel_rfl) (by kernel_rfl) hd2]
theorem laid_met (os : Os) : laidMet Tryz.prog Rows.fnExactFormatRoomRow.laid ((World.doorLaid Tryz.prog 400 os).forCall (fun _ _ => 0) ⟨#[], #[.agg #[.slice none 0 0, .int .i64 0, .int .i64 0, .int .i64 0, .int .i64 0, .int .i64 0, .slice none 0 0, .slice none 0 0]], []⟩).memory :=
  laidMet_of_run' 8 (by kernel_rfl) (by kernel_rfl)
theorem reads (os : Os) {H : Type} (enc : TypeId × Value → H) : ∃ places, DataW.whole enc Tryz.prog ((World.doorLaid Tryz.prog 400 os).forCall (fun _ _ => 0) ⟨#[], #[.agg #[.slice none 0 0, .int .i64 0, .int .i64 0, .int .i64 0, .int .i64 0, .int .i64 0, .slice none 0 0, .slice none 0 0]], []⟩).memory Tryz.f4.params.toList Rows.fnExactFormatRoomSpec.vars false (#[.agg #[.slice none 0 0, .int .i64 0, .int .i64 0, .int .i64 0, .int .i64 0, .int .i64 0, .slice none 0 0, .slice none 0 0]] : Array Value).toList 8 = some ([.agg [.nil, .lit (.int .i64 0), .lit (.int .i64 0), .lit (.int .i64 0), .lit (.int .i64 0), .lit (.int .i64 0), .agg [.nil], .agg [.nil]]], [], places) :=
  ⟨[], by kernel_rfl⟩
theorem lifted (os : Os) (started : os.Started) (H : Type) (enc : TypeId × Value → H) (F : Stop.Interp) :
    ReturnsInHanded {} Tryz.checked os 4 .any ((OpenSpec.ofChange Rows.fnExactFormatRoomSpec).preRow enc Tryz.prog Tryz.f4 Rows.fnExactFormatRoomRow.domain false Rows.fnExactFormatRoomRow.laid) (((OpenSpec.ofChange Rows.fnExactFormatRoomSpec).at F).post enc Tryz.prog Tryz.f4 false true false false) := by
  obtain ⟨places, hx⟩ := reads os enc
  refine returnsInHanded_of_row (C := Tryz.checked) (s := OpenSpec.ofChange Rows.fnExactFormatRoomSpec) own started (by kernel_rfl) Tryz.func4
    (witness_row_at (enc := enc) (C := Tryz.checked) false (World.doorLaid Tryz.prog 400 os) #[.agg #[.slice none 0 0, .int .i64 0, .int .i64 0, .int .i64 0, .int .i64 0, .int .i64 0, .slice none 0 0, .slice none 0 0]] rfl (by kernel_rfl) (by kernel_rfl) (by kernel_rfl)
      (OpenSpec.preRow_of_cond 8 hx (by kernel_rfl) (fun k hk => by cases hk) (by kernel_rfl) (laid_met os))) ?_
  intro W base args ds gs before hval0 hW _ _ _ hL hShaped _
  have hTab := table hL
  have hval : ∀ (j : Nat) t v, Tryz.f4.params[j]? = some t → args[j]? = some v → Value.okWide Tryz.prog W .any base t v := hval0
  have hW' := hW
  obtain ⟨p, q, hA0, hV, rfl, _, _⟩ := hW
  have hA : DataW.TrodAll enc Tryz.prog W 0 (fun _ => true) true Tryz.f4.params.toList args.toList ds p := hA0
  rw [Tryz.params4] at hA hval
  obtain ⟨v0, vs0, d0, ds0, p0, q0, hargs, rfl, rfl, h0, r0⟩ := trodAll_cons hA
  obtain ⟨rfl, rfl, rfl⟩ := trodAll_nil r0
  obtain rfl : args = #[v0] := by cases args; simp_all
  obtain ⟨rfl, rfl⟩ := trodVars_none hV
  have hv0 := hval 0 35 v0 rfl rfl
  clear hA0 hval hval0
  obtain ⟨vs0, rfl, hk0⟩ := openArg_mix (n := 8) Tryz.underlying35 (by kernel_rfl) hv0 h0
  obtain ⟨m0, ha0, hI0⟩ := roomF_open hk0
  refine (lawFormatRoom m0 vs0 W ha0 hI0 hTab).mono fun e W' ⟨he, hx⟩ => ?_
  subst he
  exact ⟨_, rfl, law_post (tb := 4) laidOut (by kernel_rfl) rfl Tryz.underlying4 rfl hW' rfl rfl rfl hx⟩
theorem said : Rows.FnExactFormatRoomSaid :=
  OpenClaim.holds_of_cond 4 Tryz.f4 rfl rfl rfl rfl rfl rfl rfl ⟨rfl, rfl, rfl, rfl, rfl⟩ rfl rfl rfl rfl rfl (by kernel_rfl) Tryz.func4 (by kernel_rfl)
    (of_decide_eq_true (by kernel_rfl)) (by unfold Func.isWrapper; first | (rw [if_pos (by decide +kernel)]; kernel_rfl) | (rw [if_neg (by decide +kernel)]; exact ⟨rfl, rfl⟩))
    (fun os started H enc _ F => by rw [OpenClaim.pre_eq_preRow]; exact lifted os started H enc F)
theorem plain (f : FuncId) (fn : Func) (hf : Tryz.pinned.checked.prog.funcNamed "loop.example/g00832/laws.FnExactFormatRoom" = some f) (hfn : Tryz.pinned.checked.prog.funcs[f]? = some fn) :
    true = Tryz.pinned.checked.prog.looks [] ∧ ∀ (j : Nat) t, fn.params[j]? = some t → Tryz.pinned.checked.prog.wantsStandIn t = false := by
  obtain rfl : f = 4 := Option.some.inj ((show Tryz.prog.funcNamed "loop.example/g00832/laws.FnExactFormatRoom" = some 4 by kernel_rfl).symm.trans hf) |>.symm
  obtain rfl : fn = Tryz.f4 := (Option.some.inj (Tryz.func4.symm.trans hfn)).symm
  refine ⟨by kernel_rfl, fun j t ht => ?_⟩
  rw [Tryz.params4] at ht
  have hm : t ∈ [35] := by simpa using Array.mem_of_getElem? ht
  have hall : ([35].all fun u => !Tryz.prog.wantsStandIn u) = true := by kernel_rfl
  exact (show Tryz.prog.wantsStandIn t = false by simpa using List.all_eq_true.1 hall t hm)
theorem proved : Rows.FnExactFormatRoomCardSaid :=
  Claim7.holds_tied_plain_at .later [] _ _ _ _ said (fun _ h => by cases h) (by kernel_rfl) (fun _ h => by cases h) fnExactFormatRoom_row_tie rfl ⟨rfl, rfl⟩ (by kernel_rfl) rfl plain (by kernel_rfl)
end lFnExactFormatRoom
end Go.Proofs.YtlgkfjhbimffiaaGreatDoor
