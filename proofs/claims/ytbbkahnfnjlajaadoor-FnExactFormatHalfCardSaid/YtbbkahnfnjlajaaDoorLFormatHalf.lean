/- The law FnExactFormatHalf returns true for all arguments: FormatHalf of the program and of the reference give one text. No condition beyond the row's own: the library's tables lie as the program's text lays them (the card ties that). -/
import Derived.Test.YtbbkahnfnjlajaaDoorOpen
import Derived.Test.YtbbkahnfnjlajaaDoorHHalf
import Derived.Test.YtbbkahnfnjlajaaDoorHt
import Derived.Test.YtbbkahnfnjlajaaDoorCards
import Derived.Test.YtbbkahnfnjlajaaDoorTie
import Derived.Deep.DeepHandedRow
import Derived.Lib.LaidTab
import Derived.LaidMore
import Derived.SevenTiedAt
namespace Go.Proofs.YtbbkahnfnjlajaaDoor
open Go.ChangeShapes Go.WideShapes Go.ChangeAt Go.RowKit
set_option linter.unusedVariables false

set_option maxHeartbeats 1000000 in
theorem lawFormatHalf (a b c : Int) (w : World) (ha : I64 a) (hb : I64 b) (hc : I64 c) (ht : Tab w) :
    Calls Tryd.prog 5 #[.agg #[.int .i64 a, .int .i64 b, .int .i64 c]] w fun e w' => e = .returned (.bool true) ∧ Ext w w' := by
  have hy : Ext w (w.alloc (.cells #[.int .i64 a, .int .i64 b, .int .i64 c] 57)) := (Ext.refl w).alloc _
  have bA := Blk.new w 57 #[.int .i64 a, .int .i64 b, .int .i64 c]
  go_enter Tryd.func5, Tryd.ntmps5
  go_wp2_with fail
  refine (toHalf_any _ _ _ _).mono ?_
  rintro e w1 ⟨rfl, hx1⟩
  replace hy := hy.trans hx1
  replace bA := bA.ext hx1
  have cbA_1 := fun o => bA.cell o
  go_wp2_with fail
  refine (specFormatHalf_any _ _ _ _ ha hb hc).mono ?_
  rintro e w2 ⟨rfl, hx2⟩
  replace hy := hy.trans hx2
  replace bA := bA.ext hx2
  have cbA_2 := fun o => bA.cell o
  go_wp2_with fail
  refine (toHalf_any _ _ _ _).mono ?_
  rintro e w3 ⟨rfl, hx3⟩
  replace hy := hy.trans hx3
  replace bA := bA.ext hx3
  have cbA_3 := fun o => bA.cell o
  have HT := ht.ext hy
  go_wp2_with fail
  refine (implFormatHalf_any _ _ _ _ ha hb hc HT).mono ?_
  rintro e w4 ⟨rfl, hx4⟩
  replace hy := hy.trans hx4
  replace bA := bA.ext hx4
  have cbA_4 := fun o => bA.cell o
  go_wp2
  go_ret
  exact ⟨rfl, hy⟩

namespace lFnExactFormatHalf
set_option maxRecDepth 100000
theorem own : ownKnob Tryd.prog.godebug = none := by kernel_rfl
theorem pTab : (Tryd.prog.globals[0]?).map (·.type) = some 164 := by kernel_rfl
theorem table {W : World} (h : laidMetH Tryd.prog Rows.fnExactFormatHalfRow.laid W) : Tab W := by
  change laidMet Tryd.prog _ W at h
  obtain ⟨ps, ⟨g0, t0, cs0, f0, p0, q0, hg0, ht0, hv0, hd0, ⟨g1, t1, cs1, f1, p1, q1, hg1, ht1, hv1, hd1, ⟨g2, t2, cs2, f2, p2, q2, hg2, ht2, hv2, hd2, _, _⟩, _⟩, _⟩, _⟩ := h
  obtain rfl := Option.some.inj (gTab.symm.trans hg2)
  obtain rfl := Option.some.inj (pTab.symm.trans ht2)
  unfold Tab Lib.TabIs
  rw [hv2, ← Lib.cells_of_tab (k := .u64) (zs := Lib.pow10Tab) Tryd.underlying164 Tryd.underlying130 (by kernel_rfl) (by kernel_rfl) hd2]
theorem laid_met (os : Os) : laidMet Tryd.prog Rows.fnExactFormatHalfRow.laid ((World.doorLaid Tryd.prog 400 os).forCall (fun _ _ => 0) ⟨#[], #[.agg #[.int .i64 0, .int .i64 0, .int .i64 0]], []⟩).memory :=
  laidMet_of_run' 8 (by kernel_rfl) (by kernel_rfl)
theorem reads (os : Os) {H : Type} (enc : TypeId × Value → H) : ∃ places, DataW.whole enc Tryd.prog ((World.doorLaid Tryd.prog 400 os).forCall (fun _ _ => 0) ⟨#[], #[.agg #[.int .i64 0, .int .i64 0, .int .i64 0]], []⟩).memory Tryd.f5.params.toList Rows.fnExactFormatHalfSpec.vars false (#[.agg #[.int .i64 0, .int .i64 0, .int .i64 0]] : Array Value).toList 8 = some ([.agg [.lit (.int .i64 0), .lit (.int .i64 0), .lit (.int .i64 0)]], [], places) :=
  ⟨[], by kernel_rfl⟩
theorem lifted (os : Os) (started : os.Started) (H : Type) (enc : TypeId × Value → H) (F : Stop.Interp) :
    ReturnsInHanded {} Tryd.checked os 5 .any ((OpenSpec.ofChange Rows.fnExactFormatHalfSpec).preRow enc Tryd.prog Tryd.f5 Rows.fnExactFormatHalfRow.domain false Rows.fnExactFormatHalfRow.laid) (((OpenSpec.ofChange Rows.fnExactFormatHalfSpec).at F).post enc Tryd.prog Tryd.f5 false true false false) := by
  obtain ⟨places, hx⟩ := reads os enc
  refine returnsInHanded_of_row (C := Tryd.checked) (s := OpenSpec.ofChange Rows.fnExactFormatHalfSpec) own started (by kernel_rfl) Tryd.func5
    (witness_row_at (enc := enc) (C := Tryd.checked) false (World.doorLaid Tryd.prog 400 os) #[.agg #[.int .i64 0, .int .i64 0, .int .i64 0]] rfl (by kernel_rfl) (by kernel_rfl) (by kernel_rfl)
      (OpenSpec.preRow_of_cond 8 hx (by kernel_rfl) (fun k hk => by cases hk) (by kernel_rfl) (laid_met os))) ?_
  intro W base args ds gs before hval0 hW _ _ _ hL _ _
  have hTab := table hL
  have hval : ∀ (j : Nat) t v, Tryd.f5.params[j]? = some t → args[j]? = some v → Value.okWide Tryd.prog W .any base t v := hval0
  have hW' := hW
  obtain ⟨p, q, hA0, hV, rfl, _, _⟩ := hW
  have hA : DataW.TrodAll enc Tryd.prog W 0 (fun _ => true) true Tryd.f5.params.toList args.toList ds p := hA0
  rw [Tryd.params5] at hA hval
  obtain ⟨v0, vs0, d0, ds0, p0, q0, hargs, rfl, rfl, h0, r0⟩ := trodAll_cons hA
  obtain ⟨rfl, rfl, rfl⟩ := trodAll_nil r0
  obtain rfl : args = #[v0] := by cases args; simp_all
  obtain ⟨rfl, rfl⟩ := trodVars_none hV
  have hv0 := hval 0 57 v0 rfl rfl
  clear hA0 hval hval0
  obtain ⟨zs0, rfl, hl0, hI0⟩ := openArg_flat (n := 5) Tryd.underlying57 (by kernel_rfl) hv0 h0
  obtain ⟨z00, z01, z02, rfl⟩ := list3 (hl0.trans (by kernel_rfl : Tryd.prog.cellsOf 57 = 3))
  refine (lawFormatHalf z00 z01 z02 W (hI0 _ (by simp)) (hI0 _ (by simp)) (hI0 _ (by simp)) hTab).mono fun e W' ⟨he, hx⟩ => ?_
  subst he
  exact ⟨_, rfl, law_post (tb := 4) laidOut (by kernel_rfl) rfl Tryd.underlying4 rfl hW' rfl rfl rfl hx⟩
theorem said : Rows.FnExactFormatHalfSaid :=
  OpenClaim.holds_of_cond 5 Tryd.f5 rfl rfl rfl rfl rfl rfl rfl ⟨rfl, rfl, rfl, rfl, rfl⟩ rfl rfl rfl rfl rfl (by kernel_rfl) Tryd.func5 (by kernel_rfl)
    (of_decide_eq_true (by kernel_rfl)) (by unfold Func.isWrapper; first | (rw [if_pos (by decide +kernel)]; kernel_rfl) | (rw [if_neg (by decide +kernel)]; exact ⟨rfl, rfl⟩))
    (fun os started H enc _ F => by rw [OpenClaim.pre_eq_preRow]; exact lifted os started H enc F)
theorem plain (f : FuncId) (fn : Func) (hf : Tryd.pinned.checked.prog.funcNamed "loop.example/g00832/laws.FnExactFormatHalf" = some f) (hfn : Tryd.pinned.checked.prog.funcs[f]? = some fn) :
    false = Tryd.pinned.checked.prog.looks [] ∧ ∀ (j : Nat) t, fn.params[j]? = some t → Tryd.pinned.checked.prog.wantsStandIn t = false := by
  obtain rfl : f = 5 := Option.some.inj ((show Tryd.prog.funcNamed "loop.example/g00832/laws.FnExactFormatHalf" = some 5 by kernel_rfl).symm.trans hf) |>.symm
  obtain rfl : fn = Tryd.f5 := (Option.some.inj (Tryd.func5.symm.trans hfn)).symm
  refine ⟨by kernel_rfl, fun j t ht => ?_⟩
  rw [Tryd.params5] at ht
  have hm : t ∈ [57] := by simpa using Array.mem_of_getElem? ht
  have hall : ([57].all fun u => !Tryd.prog.wantsStandIn u) = true := by kernel_rfl
  exact (show Tryd.prog.wantsStandIn t = false by simpa using List.all_eq_true.1 hall t hm)
theorem proved : Rows.FnExactFormatHalfCardSaid :=
  Claim7.holds_tied_plain_at .later [] _ _ _ _ said (fun _ h => by cases h) (by kernel_rfl) (fun _ h => by cases h) fnExactFormatHalf_row_tie rfl ⟨rfl, rfl⟩ (by kernel_rfl) rfl plain (by kernel_rfl)
end lFnExactFormatHalf
end Go.Proofs.YtbbkahnfnjlajaaDoor
