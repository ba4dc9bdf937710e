/- The law FnExactBreachLine returns true for all arguments: BreachLine of the program and of the reference give one text. No condition beyond the row's own: the library's tables lie as the program's text lays them (the card ties that). -/
import Derived.Test.YtbbkahnfnjlajaaDoorOpen
import Derived.Test.YtbbkahnfnjlajaaDoorBl
import Derived.Test.YtbbkahnfnjlajaaDoorCards
import Derived.Test.YtbbkahnfnjlajaaDoorTie
import Derived.Deep.DeepHandedRow
import Derived.Lib.LaidTab
import Derived.LaidMore
import Derived.SevenTiedAt
namespace Go.Proofs.YtbbkahnfnjlajaaDoor
open Go.ChangeShapes Go.WideShapes Go.ChangeAt Go.RowKit
set_option linter.unusedVariables false

set_option maxHeartbeats 1000000 in
theorem lawBreachLine (z00 z01 z02 z03 z04 : Int) (A1 : Option Addr) (n1 c1 : Nat) (xs1 : List Int) (w : World) (hn1 : xs1.length = n1) (hr1 : Row w A1 (ints xs1)) (hle1 : n1 ≤ maxLen) (ht : Tab w) :
    Calls Tryd.prog 6 #[.agg #[.int .i64 z00, .int .i64 z01, .int .i64 z02, .int .i64 z03, .int .i64 z04], .slice A1 n1 c1] w fun e w' => e = .returned (.bool true) ∧ Ext w w' := by
  have hy : Ext w (w.alloc (.cells #[.int .i64 z00, .int .i64 z01, .int .i64 z02, .int .i64 z03, .int .i64 z04] 62)) := (Ext.refl w).alloc _
  have hB := Blk.new w 62 #[.int .i64 z00, .int .i64 z01, .int .i64 z02, .int .i64 z03, .int .i64 z04]
  have HT := Lib.hid ht
  clear ht
  unfold maxLen at hle1
  by_cases hbig1 : n1 ≤ 1048576
  rotate_left
  · go_enter Tryd.func6, Tryd.ntmps6
    go_wp2
    go_ret
    exact ⟨rfl, hy⟩
  have hbj1 : ¬ (1048576 : Int) < (n1 : Int) := by omega
  go_enter Tryd.func6, Tryd.ntmps6
  go_wp2_with fail
  refine (toRule_any _ _ _ _ _ _).mono ?_
  rintro e w1 ⟨rfl, hx1⟩
  replace hy := hy.trans hx1
  replace hB := hB.ext hx1
  have chB_1 := fun o => hB.cell o
  go_wp2_with fail
  refine (toIntS_any _ _ _ xs1 _ hn1 (hr1.ext hy) hbig1).mono ?_
  rintro e w2 ⟨g2, rfl, ho2, hx2⟩
  replace hy := hy.trans hx2
  replace hB := hB.ext hx2
  have chB_2 := fun o => hB.cell o
  go_wp2_with fail
  refine (specBreachLine_any _ _ _ _ _ _ _ _ xs1 _ hn1 (Row.of_own ho2) (Nat.le_refl _) (by unfold maxLen; omega)).mono ?_
  rintro e w3 ⟨rfl, hx3⟩
  replace hy := hy.trans hx3
  replace hB := hB.ext hx3
  have chB_3 := fun o => hB.cell o
  go_wp2_with fail
  refine (toIntS_any _ _ _ xs1 _ hn1 (hr1.ext hy) hbig1).mono ?_
  rintro e w4 ⟨g4, rfl, ho4, hx4⟩
  replace hy := hy.trans hx4
  replace hB := hB.ext hx4
  have chB_4 := fun o => hB.cell o
  go_wp2_with fail
  refine (toRule_any _ _ _ _ _ _).mono ?_
  rintro e w5 ⟨rfl, hx5⟩
  replace hy := hy.trans hx5
  replace hB := hB.ext hx5
  have chB_5 := fun o => hB.cell o
  replace ho4 := own_ext ho4 hx5
  have hT5 := HT.out.ext hy
  go_wp2_with fail
  refine (implBreachLine_any _ _ _ _ _ _ _ _ xs1 _ hn1 (Row.of_own ho4) (Nat.le_refl _) (by unfold maxLen; omega) hT5).mono ?_
  rintro e w6 ⟨rfl, hx6⟩
  replace hy := hy.trans hx6
  replace hB := hB.ext hx6
  have chB_6 := fun o => hB.cell o
  replace ho4 := own_ext ho4 hx6
  go_wp2_with fail
  refine (toIntS_any _ _ _ xs1 _ hn1 (hr1.ext hy) hbig1).mono ?_
  rintro e w7 ⟨g7, rfl, ho7, hx7⟩
  replace hy := hy.trans hx7
  replace hB := hB.ext hx7
  have chB_7 := fun o => hB.cell o
  replace ho4 := own_ext ho4 hx7
  go_wp2_with fail
  refine (eqIntS_any _ _ _ _ _ _ xs1 xs1 _ hn1 hn1 (Row.of_own ho4) (Row.of_own ho7) (by unfold maxLen; omega) (by unfold maxLen; omega)).mono ?_
  rintro e w8 ⟨rfl, hx8⟩
  replace hy := hy.trans hx8
  replace hB := hB.ext hx8
  have chB_8 := fun o => hB.cell o
  simp only [decide_true]
  go_wp2
  go_ret
  exact ⟨rfl, hy⟩

namespace lFnExactBreachLine
set_option maxRecDepth 100000
theorem own : ownKnob Tryd.prog.godebug = none := by kernel_rfl
theorem pTab : (Tryd.prog.globals[0]?).map (·.type) = some 164 := by kernel_rfl
theorem table {W : World} (h : laidMetH Tryd.prog Rows.fnExactBreachLineRow.laid W) : Tab W := by
  change laidMet Tryd.prog _ W at h
  obtain ⟨ps, ⟨g0, t0, cs0, f0, p0, q0, hg0, ht0, hv0, hd0, ⟨g1, t1, cs1, f1, p1, q1, hg1, ht1, hv1, hd1, ⟨g2, t2, cs2, f2, p2, q2, hg2, ht2, hv2, hd2, _, _⟩, _⟩, _⟩, _⟩ := h
  obtain rfl := Option.some.inj (gTab.symm.trans hg2)
  obtain rfl := Option.some.inj (pTab.symm.trans ht2)
  unfold Tab Lib.TabIs
  rw [hv2, ← Lib.cells_of_tab (k := .u64) (zs := Lib.pow10Tab) Tryd.underlying164 Tryd.underlying130 (by kernel_rfl) (by kernel_rfl) hd2]
theorem laid_met (os : Os) : laidMet Tryd.prog Rows.fnExactBreachLineRow.laid ((World.doorLaid Tryd.prog 400 os).forCall (fun _ _ => 0) ⟨#[], #[.agg #[.int .i64 0, .int .i64 0, .int .i64 0, .int .i64 0, .int .i64 0], .slice none 0 0], []⟩).memory :=
  laidMet_of_run' 8 (by kernel_rfl) (by kernel_rfl)
theorem reads (os : Os) {H : Type} (enc : TypeId × Value → H) : ∃ places, DataW.whole enc Tryd.prog ((World.doorLaid Tryd.prog 400 os).forCall (fun _ _ => 0) ⟨#[], #[.agg #[.int .i64 0, .int .i64 0, .int .i64 0, .int .i64 0, .int .i64 0], .slice none 0 0], []⟩).memory Tryd.f6.params.toList Rows.fnExactBreachLineSpec.vars false (#[.agg #[.int .i64 0, .int .i64 0, .int .i64 0, .int .i64 0, .int .i64 0], .slice none 0 0] : Array Value).toList 8 = some ([.agg [.lit (.int .i64 0), .lit (.int .i64 0), .lit (.int .i64 0), .lit (.int .i64 0), .lit (.int .i64 0)], .nil], [], places) :=
  ⟨[], by kernel_rfl⟩
theorem lifted (os : Os) (started : os.Started) (H : Type) (enc : TypeId × Value → H) (F : Stop.Interp) :
    ReturnsInHanded {} Tryd.checked os 6 .any ((OpenSpec.ofChange Rows.fnExactBreachLineSpec).preRow enc Tryd.prog Tryd.f6 Rows.fnExactBreachLineRow.domain false Rows.fnExactBreachLineRow.laid) (((OpenSpec.ofChange Rows.fnExactBreachLineSpec).at F).post enc Tryd.prog Tryd.f6 false true false false) := by
  obtain ⟨places, hx⟩ := reads os enc
  refine returnsInHanded_of_row (C := Tryd.checked) (s := OpenSpec.ofChange Rows.fnExactBreachLineSpec) own started (by kernel_rfl) Tryd.func6
    (witness_row_at (enc := enc) (C := Tryd.checked) false (World.doorLaid Tryd.prog 400 os) #[.agg #[.int .i64 0, .int .i64 0, .int .i64 0, .int .i64 0, .int .i64 0], .slice none 0 0] rfl (by kernel_rfl) (by kernel_rfl) (by kernel_rfl)
      (OpenSpec.preRow_of_cond 8 hx (by kernel_rfl) (fun k hk => by cases hk) (by kernel_rfl) (laid_met os))) ?_
  intro W base args ds gs before hval0 hW _ _ _ hL _ _
  have hTab := table hL
  have hval : ∀ (j : Nat) t v, Tryd.f6.params[j]? = some t → args[j]? = some v → Value.okWide Tryd.prog W .any base t v := hval0
  have hW' := hW
  obtain ⟨p, q, hA0, hV, rfl, _, _⟩ := hW
  have hA : DataW.TrodAll enc Tryd.prog W 0 (fun _ => true) true Tryd.f6.params.toList args.toList ds p := hA0
  rw [Tryd.params6] at hA hval
  obtain ⟨v0, vs0, d0, ds0, p0, q0, hargs, rfl, rfl, h0, r0⟩ := trodAll_cons hA
  obtain ⟨v1, vs1, d1, ds1, p1, q1, rfl, rfl, rfl, h1, r1⟩ := trodAll_cons r0
  obtain ⟨rfl, rfl, rfl⟩ := trodAll_nil r1
  obtain rfl : args = #[v0, v1] := by cases args; simp_all
  obtain ⟨rfl, rfl⟩ := trodVars_none hV
  have hv0 := hval 0 62 v0 rfl rfl
  have hv1 := hval 1 26 v1 rfl rfl
  clear hA0 hval hval0
  obtain ⟨zs0, rfl, hl0, _⟩ := openArg_flat (n := 5) Tryd.underlying62 (by kernel_rfl) hv0 h0
  obtain ⟨z00, z01, z02, z03, z04, rfl⟩ := list5 (hl0.trans (by kernel_rfl : Tryd.prog.cellsOf 62 = 5))
  obtain ⟨A1, n1, c1, xs1, rfl, hl1, hr1, hnc1, hm1, _⟩ := openArg_slice (n := 2) Tryd.underlying26 (by kernel_rfl) hv1 h1
  rw [(by kernel_rfl : Tryd.prog.cellsOf 3 = 1), Nat.mul_one] at hl1
  refine (lawBreachLine z00 z01 z02 z03 z04 A1 n1 c1 xs1 W hl1 hr1 (by omega) hTab).mono fun e W' ⟨he, hx⟩ => ?_
  subst he
  exact ⟨_, rfl, law_post (tb := 4) laidOut (by kernel_rfl) rfl Tryd.underlying4 rfl hW' rfl rfl rfl hx⟩
theorem said : Rows.FnExactBreachLineSaid :=
  OpenClaim.holds_of_cond 6 Tryd.f6 rfl rfl rfl rfl rfl rfl rfl ⟨rfl, rfl, rfl, rfl, rfl⟩ rfl rfl rfl rfl rfl (by kernel_rfl) Tryd.func6 (by kernel_rfl)
    (of_decide_eq_true (by kernel_rfl)) (by unfold Func.isWrapper; first | (rw [if_pos (by decide +kernel)]; kernel_rfl) | (rw [if_neg (by decide +kernel)]; exact ⟨rfl, rfl⟩))
    (fun os started H enc _ F => by rw [OpenClaim.pre_eq_preRow]; exact lifted os started H enc F)
theorem plain (f : FuncId) (fn : Func) (hf : Tryd.pinned.checked.prog.funcNamed "loop.example/g00832/laws.FnExactBreachLine" = some f) (hfn : Tryd.pinned.checked.prog.funcs[f]? = some fn) :
    false = Tryd.pinned.checked.prog.looks [] ∧ ∀ (j : Nat) t, fn.params[j]? = some t → Tryd.pinned.checked.prog.wantsStandIn t = false := by
  obtain rfl : f = 6 := Option.some.inj ((show Tryd.prog.funcNamed "loop.example/g00832/laws.FnExactBreachLine" = some 6 by kernel_rfl).symm.trans hf) |>.symm
  obtain rfl : fn = Tryd.f6 := (Option.some.inj (Tryd.func6.symm.trans hfn)).symm
  refine ⟨by kernel_rfl, fun j t ht => ?_⟩
  rw [Tryd.params6] at ht
  have hm : t ∈ [62, 26] := by simpa using Array.mem_of_getElem? ht
  have hall : ([62, 26].all fun u => !Tryd.prog.wantsStandIn u) = true := by kernel_rfl
  exact (show Tryd.prog.wantsStandIn t = false by simpa using List.all_eq_true.1 hall t hm)
theorem proved : Rows.FnExactBreachLineCardSaid :=
  Claim7.holds_tied_plain_at .later [] _ _ _ _ said (fun _ h => by cases h) (by kernel_rfl) (fun _ h => by cases h) fnExactBreachLine_row_tie rfl ⟨rfl, rfl⟩ (by kernel_rfl) rfl plain (by kernel_rfl)
end lFnExactBreachLine
end Go.Proofs.YtbbkahnfnjlajaaDoor
