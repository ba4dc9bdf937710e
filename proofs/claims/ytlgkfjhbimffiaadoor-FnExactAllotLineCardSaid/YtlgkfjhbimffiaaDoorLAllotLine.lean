/- The law FnExactAllotLine returns true for all arguments: AllotLine of the program and of the reference give one text. No condition beyond the row's own: the library's tables lie as the program's text lays them (the card ties that). -/
import Derived.Test.YtlgkfjhbimffiaaDoorOpen
import Derived.Test.YtlgkfjhbimffiaaDoorAlt
import Derived.Test.YtlgkfjhbimffiaaDoorMix
import Derived.Test.YtlgkfjhbimffiaaDoorMs
import Derived.Test.YtlgkfjhbimffiaaDoorCards
import Derived.Test.YtlgkfjhbimffiaaDoorTie
import Derived.Deep.DeepHandedRow
import Derived.Lib.LaidTab
import Derived.LaidMore
import Derived.SevenTiedAt
import Derived.Deep.RegionHeld3
namespace Go.Proofs.YtlgkfjhbimffiaaDoor
open Go.ChangeShapes Go.WideShapes Go.ChangeAt Go.RowKit
set_option linter.unusedVariables false
set_option maxRecDepth 100000

set_option maxHeartbeats 4000000 in
theorem lawAllotLine (A0 : Option Addr) (c0 : Nat) (xs0 : List Ask) (z1 : Int) (w : World) (hr0 : Row w A0 (ints (flat Ask.ints xs0))) (hn0 : xs0.length ≤ c0) (hm0 : c0 ≤ maxLen) (hz1 : I64 z1) (ht : Tab w) :
    Calls Tryd.prog 5 #[.slice A0 xs0.length c0, .int .i64 z1] w fun e w' => e = .returned (.bool true) ∧ Ext w w' := by
  have HT0 := Lib.hid ht
  clear ht
  have hy : Ext w w := by repeat (first | exact Ext.refl _ | refine Ext.alloc ?_ _)
  go_enter Tryd.func5, Tryd.ntmps5
  go_wp2_with fail
  refine (szAskS_any _ _ _ (1048576) _ (by omega) (by omega) (Nat.le_trans hn0 hm0)).mono ?_
  rintro e w' ⟨rfl, rfl⟩
  rw [← szL_one (n := xs0.length)]
  have hbd0 := szL_bd ([xs0.length]) (1048576) (by omega)
  have hle0 := szL_le ([xs0.length]) (1048576)
  generalize szL ([xs0.length]) (1048576) = l0 at hbd0 hle0 ⊢
  obtain ⟨hp0, hq0⟩ := hbd0
  by_cases hc0 : l0 < 0
  · go_wp2
    go_ret
    exact ⟨rfl, hy⟩
  have hb0 : xs0.length ≤ 1048576 := by have := hle0 (by omega) xs0.length (by simp); omega
  clear hle0
  go_wp2_with fail
  refine (toAskS_m _ _ _ xs0 _ rfl (hr0.ext hy) hb0).mono ?_
  rintro e w2 ⟨ga, rfl, ta, hx2⟩
  replace hy := hy.trans hx2
  have hs2 := Ext.size hx2
  try simp only [World.size_alloc] at hs2
  try simp only [World.size_alloc] at ta
  go_wp2_with fail
  refine (specAllotLine_any _ _ _ xs0 _ _ rfl ta.row (by unfold maxLen; omega) hz1).mono ?_
  rintro e w3 ⟨rfl, hx3⟩
  replace hy := hy.trans hx3
  replace ta := ta.ext hx3
  have hs3 := Ext.size hx3
  try simp only [World.size_alloc] at hs3
  go_wp2_with fail
  refine (toAskS_m _ _ _ xs0 _ rfl (hr0.ext hy) hb0).mono ?_
  rintro e w4 ⟨gx, rfl, tx, hx4⟩
  replace hy := hy.trans hx4
  replace ta := ta.ext hx4
  have hs4 := Ext.size hx4
  try simp only [World.size_alloc] at hs4
  try simp only [World.size_alloc] at tx
  have HT := HT0.out.ext hy
  go_wp2_with fail
  refine (implAllotLine_any _ _ _ xs0 _ _ rfl tx.row (by unfold maxLen; omega) hz1 HT).mono ?_
  rintro e w5 ⟨rfl, hx5⟩
  replace hy := hy.trans hx5
  replace ta := ta.ext hx5
  replace tx := tx.ext hx5
  have hs5 := Ext.size hx5
  try simp only [World.size_alloc] at hs5
  clear HT
  go_wp2_with fail
  refine (toAskS_m _ _ _ xs0 _ rfl (hr0.ext hy) hb0).mono ?_
  rintro e w6 ⟨gy5, rfl, ty5, hx6⟩
  replace hy := hy.trans hx6
  replace ta := ta.ext hx6
  replace tx := tx.ext hx6
  have hs6 := Ext.size hx6
  try simp only [World.size_alloc] at hs6
  try simp only [World.size_alloc] at ty5
  go_wp2_with fail
  refine (eqAskS_same _ _ _ _ _ xs0 _ rfl tx.row ty5.row (by unfold maxLen; omega)).mono ?_
  rintro e w7 ⟨rfl, hx7⟩
  replace hy := hy.trans hx7
  replace ta := ta.ext hx7
  replace tx := tx.ext hx7
  have hs7 := Ext.size hx7
  try simp only [World.size_alloc] at hs7
  clear ty5
  go_wp2
  go_ret
  exact ⟨rfl, hy⟩

namespace lFnExactAllotLine
set_option maxRecDepth 100000
theorem own : ownKnob Tryd.prog.godebug = none := by kernel_rfl
theorem pTab : (Tryd.prog.globals[1]?).map (·.type) = some 208 := by kernel_rfl
theorem table {W : World} (h : laidMetH Tryd.prog Rows.fnExactAllotLineRow.laid W) : Tab W := by
  change laidMet Tryd.prog _ W at h
  obtain ⟨ps, ⟨g0, t0, cs0, f0, p0, q0, hg0, ht0, hv0, hd0, ⟨g1, t1, cs1, f1, p1, q1, hg1, ht1, hv1, hd1, ⟨g2, t2, cs2, f2, p2, q2, hg2, ht2, hv2, hd2, _, _⟩, _⟩, _⟩, _⟩ := h
  obtain rfl := Option.some.inj (gTab.symm.trans hg2)
  obtain rfl := Option.some.inj (pTab.symm.trans ht2)
  unfold Tab Lib.TabIs
  rw [hv2, ← Lib.cells_of_tab (k := .u64) (zs := Lib.pow10Tab) Tryd.underlying208 Tryd.underlying131 (by kernel_rfl) (by kernel_rfl) hd2]
theorem laid_met (os : Os) : laidMet Tryd.prog Rows.fnExactAllotLineRow.laid ((World.doorLaid Tryd.prog 400 os).forCall (fun _ _ => 0) ⟨#[], #[.slice none 0 0, .int .i64 0], []⟩).memory :=
  laidMet_of_run' 8 (by kernel_rfl) (by kernel_rfl)
theorem reads (os : Os) {H : Type} (enc : TypeId × Value → H) : ∃ places, DataW.whole enc Tryd.prog ((World.doorLaid Tryd.prog 400 os).forCall (fun _ _ => 0) ⟨#[], #[.slice none 0 0, .int .i64 0], []⟩).memory Tryd.f5.params.toList Rows.fnExactAllotLineSpec.vars false (#[.slice none 0 0, .int .i64 0] : Array Value).toList 8 = some ([.nil, .lit (.int .i64 0)], [], places) :=
  ⟨[], by kernel_rfl⟩
theorem lifted (os : Os) (started : os.Started) (H : Type) (enc : TypeId × Value → H) (F : Stop.Interp) :
    ReturnsInHanded {} Tryd.checked os 5 .any ((OpenSpec.ofChange Rows.fnExactAllotLineSpec).preRow enc Tryd.prog Tryd.f5 Rows.fnExactAllotLineRow.domain false Rows.fnExactAllotLineRow.laid) (((OpenSpec.ofChange Rows.fnExactAllotLineSpec).at F).post enc Tryd.prog Tryd.f5 false true false false) := by
  obtain ⟨places, hx⟩ := reads os enc
  refine returnsInHanded_of_row (C := Tryd.checked) (s := OpenSpec.ofChange Rows.fnExactAllotLineSpec) own started (by kernel_rfl) Tryd.func5
    (witness_row_at (enc := enc) (C := Tryd.checked) false (World.doorLaid Tryd.prog 400 os) #[.slice none 0 0, .int .i64 0] rfl (by kernel_rfl) (by kernel_rfl) (by kernel_rfl)
      (OpenSpec.preRow_of_cond 8 hx (by kernel_rfl) (fun k hk => by cases hk) (by kernel_rfl) (laid_met os))) ?_
  intro W base args ds gs before hval0 hW _ _ _ hL _ _
  have hTab := table hL
  have hval : ∀ (j : Nat) t v, Tryd.f5.params[j]? = some t → args[j]? = some v → Value.okWide Tryd.prog W .any base t v := hval0
  have hW' := hW
  obtain ⟨p, q, hA0, hV, rfl, _, _⟩ := hW
  have hA : DataW.TrodAll enc Tryd.prog W 0 (fun _ => true) true Tryd.f5.params.toList args.toList ds p := hA0
  rw [Tryd.params5] at hA hval
  obtain ⟨v0, vs0, d0, ds0, p0, q0, hargs, rfl, rfl, h0, r0⟩ := trodAll_cons hA
  obtain ⟨v1, vs1, d1, ds1, p1, q1, rfl, rfl, rfl, h1, r1⟩ := trodAll_cons r0
  obtain ⟨rfl, rfl, rfl⟩ := trodAll_nil r1
  obtain rfl : args = #[v0, v1] := by cases args; simp_all
  obtain ⟨rfl, rfl⟩ := trodVars_none hV
  have hv0 := hval 0 49 v0 rfl rfl
  have hv1 := hval 1 3 v1 rfl rfl
  clear hA0 hval hval0
  obtain ⟨A0, n0, c0, zs0, rfl, hl0, hr0, hnc0, hm0, _⟩ := openArg_slice (n := 5) Tryd.underlying49 (by kernel_rfl) hv0 h0
  rw [(by kernel_rfl : Tryd.prog.cellsOf 106 = 4)] at hl0
  obtain ⟨xs0, hll0, rfl⟩ := unflat Ask.unints n0 zs0 hl0
  subst hll0
  obtain ⟨z1, rfl, hz1⟩ := openArg_int Tryd.underlying3 hv1 h1
  refine (lawAllotLine A0 c0 xs0 z1 W hr0 hnc0 hm0 hz1 hTab).mono fun e W' ⟨he, hx⟩ => ?_
  subst he
  exact ⟨_, rfl, law_post (tb := 4) laidOut (by kernel_rfl) rfl Tryd.underlying4 rfl hW' rfl rfl rfl hx⟩
theorem said : Rows.FnExactAllotLineSaid :=
  OpenClaim.holds_of_cond 5 Tryd.f5 rfl rfl rfl rfl rfl rfl rfl ⟨rfl, rfl, rfl, rfl, rfl⟩ rfl rfl rfl rfl rfl (by kernel_rfl) Tryd.func5 (by kernel_rfl)
    (of_decide_eq_true (by kernel_rfl)) (by unfold Func.isWrapper; first | (rw [if_pos (by decide +kernel)]; kernel_rfl) | (rw [if_neg (by decide +kernel)]; exact ⟨rfl, rfl⟩))
    (fun os started H enc _ F => by rw [OpenClaim.pre_eq_preRow]; exact lifted os started H enc F)
theorem plain (f : FuncId) (fn : Func) (hf : Tryd.pinned.checked.prog.funcNamed "loop.example/g00832/laws.FnExactAllotLine" = some f) (hfn : Tryd.pinned.checked.prog.funcs[f]? = some fn) :
    true = Tryd.pinned.checked.prog.looks [] ∧ ∀ (j : Nat) t, fn.params[j]? = some t → Tryd.pinned.checked.prog.wantsStandIn t = false := by
  obtain rfl : f = 5 := Option.some.inj ((show Tryd.prog.funcNamed "loop.example/g00832/laws.FnExactAllotLine" = some 5 by kernel_rfl).symm.trans hf) |>.symm
  obtain rfl : fn = Tryd.f5 := (Option.some.inj (Tryd.func5.symm.trans hfn)).symm
  refine ⟨by kernel_rfl, fun j t ht => ?_⟩
  rw [Tryd.params5] at ht
  have hm : t ∈ [49, 3] := by simpa using Array.mem_of_getElem? ht
  have hall : ([49, 3].all fun u => !Tryd.prog.wantsStandIn u) = true := by kernel_rfl
  exact (show Tryd.prog.wantsStandIn t = false by simpa using List.all_eq_true.1 hall t hm)
theorem proved : Rows.FnExactAllotLineCardSaid :=
  Claim7.holds_tied_plain_at .later [] _ _ _ _ said (fun _ h => by cases h) (by kernel_rfl) (fun _ h => by cases h) fnExactAllotLine_row_tie rfl ⟨rfl, rfl⟩ (by kernel_rfl) rfl plain (by kernel_rfl)
end lFnExactAllotLine
end Go.Proofs.YtlgkfjhbimffiaaDoor
