/- The law FnExactParseRoom returns true for all arguments: ParseRoom of the program and of the reference read the same of every text. No condition beyond the row's own: the library's tables and error variables lie as the program's text lays them (the card ties that). -/
import Derived.Test.YtlgkfjhbimffiaaGreatDoorHz
import Derived.Test.YtlgkfjhbimffiaaGreatDoorOps
import Derived.Test.YtlgkfjhbimffiaaGreatDoorPm
import Derived.Test.YtlgkfjhbimffiaaGreatDoorMRoom
import Derived.Test.YtlgkfjhbimffiaaGreatDoorMn
import Derived.Test.YtlgkfjhbimffiaaGreatDoorCards
import Derived.Test.YtlgkfjhbimffiaaGreatDoorTie
import Derived.Deep.DeepHandedRow
import Derived.Lib.LaidTab
import Derived.Stop.LaidErr
import Derived.LaidMore
import Derived.SevenTiedAt
import Derived.Shelf.Vars
import Derived.Deep.RegionHeld3
namespace Go.Proofs.YtlgkfjhbimffiaaGreatDoor
open Go.ChangeShapes Go.WideShapes Go.ChangeAt Go.RowKit
set_option linter.unusedVariables false
set_option maxRecDepth 100000

theorem RoomM.ext {w w' : World} {r : Room} {us : List Value} {lo hi : Nat} (h : RoomM w r us lo hi) (hx : Ext w w') : RoomM w' r us lo hi := RoomPt.ext h hx
theorem RoomMk.ext {w w' : World} {r : Room} {k : Int} {us : List Value} {lo hi : Nat} (h : RoomMk w r k us lo hi) (hx : Ext w w') : RoomMk w' r k us lo hi := RoomPt.ext h hx
set_option maxHeartbeats 8000000 in
theorem lawParseRoom (s : ByteArray) (w : World) (hs : s.size ≤ maxLen) (ht : Tab w) (he : Ers w) :
    Calls Tryz.prog 6 #[.string s] w fun e w' => e = .returned (.bool true) ∧ Ext w w' := by
  have HT0 := Lib.hid ht
  have HE0 := Lib.hid he
  clear ht he
  by_cases hbg : s.size ≤ 1048576
  rotate_left
  · have hbj : (1048576 : Int) < (s.size : Int) := by omega
    go_enter Tryz.func6, Tryz.ntmps6
    go_wp2
    go_ret
    exact ⟨rfl, Ext.refl _⟩
  have hbj : ¬ (1048576 : Int) < (s.size : Int) := by omega
  have hcn : cntF (roomF (roomR s.data.toList).1) ≤ 100000000 := room_cnt s.data.toList
  have HS := Lib.hid (fun w => specParseRoom_any s hbg w)
  have HI := Lib.hid (fun w ht he => implParseRoom_any s hbg w ht he)
  obtain ⟨r0, hr0⟩ : ∃ r, (roomR s.data.toList).1 = r := ⟨_, rfl⟩
  obtain ⟨q0, hq0⟩ : ∃ r, (roomR s.data.toList).2 = r := ⟨_, rfl⟩
  rw [hr0, hq0] at HS HI
  rw [hr0] at hcn
  clear hr0 hq0
  have hy := Ext.refl w
  go_enter Tryz.func6, Tryz.ntmps6
  go_wp2_with fail
  refine (HS.out _).mono ?_
  rintro e w1 ⟨ua, rfl, ta, hx1⟩
  replace hy := hy.trans hx1
  have hs1 := Ext.size hx1
  try simp only [World.size_alloc] at hs1
  obtain ⟨Aa_0, ca_0, Aa_6, ca_6, Aa_7, ca_7, rfl, oa_0, oa_6, oa_7⟩ := ta
  have ta : RoomW w1 r0 [.slice Aa_0 r0.Map.length ca_0, .int .i64 r0.Div, .int .i64 r0.Bx, .int .i64 r0.By, .int .i64 r0.Low, .int .i64 r0.High, .slice Aa_6 r0.Noise.length ca_6, .slice Aa_7 r0.Limits.length ca_7] _ _ := ⟨_, _, _, _, _, _, rfl, oa_0, oa_6, oa_7⟩
  try simp only [World.size_alloc] at ta
  clear oa_0 oa_6 oa_7
  have ba := Blk.new w1 39 #[.slice Aa_0 r0.Map.length ca_0, .int .i64 r0.Div, .int .i64 r0.Bx, .int .i64 r0.By, .int .i64 r0.Low, .int .i64 r0.High, .slice Aa_6 r0.Noise.length ca_6, .slice Aa_7 r0.Limits.length ca_7]
  have ha1 := (Ext.refl w1).alloc (.cells #[.slice Aa_0 r0.Map.length ca_0, .int .i64 r0.Div, .int .i64 r0.Bx, .int .i64 r0.By, .int .i64 r0.Low, .int .i64 r0.High, .slice Aa_6 r0.Noise.length ca_6, .slice Aa_7 r0.Limits.length ca_7] 39)
  replace hy := hy.trans ha1
  replace ta := ta.ext ha1
  have hsba : w1.heap.size ≤ w1.heap.size := Nat.le_refl _
  have HT := HT0.out.ext hy
  have HE := HE0.out.ext hy
  go_wp2_with fail
  refine (HI.out _ HT HE).mono ?_
  rintro e w2 ⟨ug, rfl, tg, hx2⟩
  clear HT HE
  replace hy := hy.trans hx2
  replace ta := ta.ext hx2
  replace ba := ba.ext hx2
  have cba_1 := fun o => ba.cell o
  have hs2 := Ext.size hx2
  try simp only [World.size_alloc] at hs2
  obtain ⟨Ag_0, cg_0, qg_0, Ag_6, cg_6, qg_6, Ag_7, cg_7, rfl, og_0, lg_0, og_6, lg_6, og_7, leg⟩ := tg
  have tg : RoomM w2 r0 [.slice Ag_0 r0.Map.length cg_0, .int .i64 r0.Div, .int .i64 r0.Bx, .int .i64 r0.By, .int .i64 r0.Low, .int .i64 r0.High, .slice Ag_6 r0.Noise.length cg_6, .slice Ag_7 r0.Limits.length cg_7] _ _ := ⟨_, _, qg_0, _, _, qg_6, _, _, rfl, og_0, lg_0, og_6, lg_6, og_7, leg⟩
  try simp only [World.size_alloc] at tg
  clear og_0 lg_0 og_6 lg_6 og_7 leg
  have bg := Blk.new w2 39 #[.slice Ag_0 r0.Map.length cg_0, .int .i64 r0.Div, .int .i64 r0.Bx, .int .i64 r0.By, .int .i64 r0.Low, .int .i64 r0.High, .slice Ag_6 r0.Noise.length cg_6, .slice Ag_7 r0.Limits.length cg_7]
  have ha2 := (Ext.refl w2).alloc (.cells #[.slice Ag_0 r0.Map.length cg_0, .int .i64 r0.Div, .int .i64 r0.Bx, .int .i64 r0.By, .int .i64 r0.Low, .int .i64 r0.High, .slice Ag_6 r0.Noise.length cg_6, .slice Ag_7 r0.Limits.length cg_7] 39)
  replace hy := hy.trans ha2
  replace ta := ta.ext ha2
  replace ba := ba.ext ha2
  replace tg := tg.ext ha2
  have cba_2 := fun o => ba.cell o
  have hsbg : w2.heap.size ≤ w2.heap.size := Nat.le_refl _
  go_wp2_with fail
  refine (eqRoom_same r0 [.slice Ag_0 r0.Map.length cg_0, .int .i64 r0.Div, .int .i64 r0.Bx, .int .i64 r0.By, .int .i64 r0.Low, .int .i64 r0.High, .slice Ag_6 r0.Noise.length cg_6, .slice Ag_7 r0.Limits.length cg_7] [.slice Aa_0 r0.Map.length ca_0, .int .i64 r0.Div, .int .i64 r0.Bx, .int .i64 r0.By, .int .i64 r0.Low, .int .i64 r0.High, .slice Aa_6 r0.Noise.length ca_6, .slice Aa_7 r0.Limits.length ca_7] _ tg.rows ta.rows).mono ?_
  rintro e w3 ⟨rfl, hx3⟩
  replace hy := hy.trans hx3
  replace ta := ta.ext hx3
  replace ba := ba.ext hx3
  replace tg := tg.ext hx3
  replace bg := bg.ext hx3
  have cba_3 := fun o => ba.cell o
  have cbg_4 := fun o => bg.cell o
  have hs3 := Ext.size hx3
  try simp only [World.size_alloc] at hs3
  go_wp2_with fail
  refine (markRoom_p r0 [.slice Ag_0 r0.Map.length cg_0, .int .i64 r0.Div, .int .i64 r0.Bx, .int .i64 r0.By, .int .i64 r0.Low, .int .i64 r0.High, .slice Ag_6 r0.Noise.length cg_6, .slice Ag_7 r0.Limits.length cg_7] _ _ _ _ tg (by omega) (by omega) (by omega)).mono ?_
  rintro e w4 ⟨rfl, tgq, k4⟩
  replace hy := hy.touch k4 (by omega)
  replace ba := ba.touch k4 (by omega)
  replace bg := bg.touch k4 (by omega)
  replace ta := ta.touch k4 (by omega)
  have d1 := fun o => ba.cell o
  have d2 := fun o => bg.cell o
  have hsk4 := k4.size
  try simp only [World.size_alloc] at hsk4
  clear tg
  go_wp2_with fail
  refine (heldRoom_m r0 [.slice Ag_0 r0.Map.length cg_0, .int .i64 r0.Div, .int .i64 r0.Bx, .int .i64 r0.By, .int .i64 r0.Low, .int .i64 r0.High, .slice Ag_6 r0.Noise.length cg_6, .slice Ag_7 r0.Limits.length cg_7] _ _ tgq.rows (by omega) (by omega)).mono ?_
  rintro e w5 ⟨rfl, hx5⟩
  replace hy := hy.trans hx5
  replace ta := ta.ext hx5
  replace ba := ba.ext hx5
  replace bg := bg.ext hx5
  replace tgq := tgq.ext hx5
  have cba_5 := fun o => ba.cell o
  have cbg_6 := fun o => bg.cell o
  have hs5 := Ext.size hx5
  try simp only [World.size_alloc] at hs5
  have HT := HT0.out.ext hy
  have HE := HE0.out.ext hy
  go_wp2_with fail
  refine (HI.out _ HT HE).mono ?_
  rintro e w6 ⟨uh, rfl, th, hx6⟩
  clear HT HE
  replace hy := hy.trans hx6
  replace ta := ta.ext hx6
  replace ba := ba.ext hx6
  replace bg := bg.ext hx6
  replace tgq := tgq.ext hx6
  have cba_7 := fun o => ba.cell o
  have cbg_8 := fun o => bg.cell o
  have hs6 := Ext.size hx6
  try simp only [World.size_alloc] at hs6
  obtain ⟨Ah_0, ch_0, qh_0, Ah_6, ch_6, qh_6, Ah_7, ch_7, rfl, oh_0, lh_0, oh_6, lh_6, oh_7, leh⟩ := th
  have th : RoomM w6 r0 [.slice Ah_0 r0.Map.length ch_0, .int .i64 r0.Div, .int .i64 r0.Bx, .int .i64 r0.By, .int .i64 r0.Low, .int .i64 r0.High, .slice Ah_6 r0.Noise.length ch_6, .slice Ah_7 r0.Limits.length ch_7] _ _ := ⟨_, _, qh_0, _, _, qh_6, _, _, rfl, oh_0, lh_0, oh_6, lh_6, oh_7, leh⟩
  try simp only [World.size_alloc] at th
  clear oh_0 lh_0 oh_6 lh_6 oh_7 leh
  have bh := Blk.new w6 39 #[.slice Ah_0 r0.Map.length ch_0, .int .i64 r0.Div, .int .i64 r0.Bx, .int .i64 r0.By, .int .i64 r0.Low, .int .i64 r0.High, .slice Ah_6 r0.Noise.length ch_6, .slice Ah_7 r0.Limits.length ch_7]
  have ha6 := (Ext.refl w6).alloc (.cells #[.slice Ah_0 r0.Map.length ch_0, .int .i64 r0.Div, .int .i64 r0.Bx, .int .i64 r0.By, .int .i64 r0.Low, .int .i64 r0.High, .slice Ah_6 r0.Noise.length ch_6, .slice Ah_7 r0.Limits.length ch_7] 39)
  replace hy := hy.trans ha6
  replace ta := ta.ext ha6
  replace ba := ba.ext ha6
  replace bg := bg.ext ha6
  replace tgq := tgq.ext ha6
  replace th := th.ext ha6
  have cba_9 := fun o => ba.cell o
  have cbg_10 := fun o => bg.cell o
  have hsbh : w6.heap.size ≤ w6.heap.size := Nat.le_refl _
  go_wp2_with fail
  refine (eqRoom_same r0 [.slice Ah_0 r0.Map.length ch_0, .int .i64 r0.Div, .int .i64 r0.Bx, .int .i64 r0.By, .int .i64 r0.Low, .int .i64 r0.High, .slice Ah_6 r0.Noise.length ch_6, .slice Ah_7 r0.Limits.length ch_7] [.slice Aa_0 r0.Map.length ca_0, .int .i64 r0.Div, .int .i64 r0.Bx, .int .i64 r0.By, .int .i64 r0.Low, .int .i64 r0.High, .slice Aa_6 r0.Noise.length ca_6, .slice Aa_7 r0.Limits.length ca_7] _ th.rows ta.rows).mono ?_
  rintro e w7 ⟨rfl, hx7⟩
  replace hy := hy.trans hx7
  replace ta := ta.ext hx7
  replace ba := ba.ext hx7
  replace bg := bg.ext hx7
  replace tgq := tgq.ext hx7
  replace th := th.ext hx7
  replace bh := bh.ext hx7
  have cba_11 := fun o => ba.cell o
  have cbg_12 := fun o => bg.cell o
  have cbh_13 := fun o => bh.cell o
  have hs7 := Ext.size hx7
  try simp only [World.size_alloc] at hs7
  go_wp2_with fail
  refine (heldRoom_m r0 [.slice Ag_0 r0.Map.length cg_0, .int .i64 r0.Div, .int .i64 r0.Bx, .int .i64 r0.By, .int .i64 r0.Low, .int .i64 r0.High, .slice Ag_6 r0.Noise.length cg_6, .slice Ag_7 r0.Limits.length cg_7] _ _ tgq.rows (by omega) (by omega)).mono ?_
  rintro e w8 ⟨rfl, hx8⟩
  replace hy := hy.trans hx8
  replace ta := ta.ext hx8
  replace ba := ba.ext hx8
  replace bg := bg.ext hx8
  replace tgq := tgq.ext hx8
  replace th := th.ext hx8
  replace bh := bh.ext hx8
  have cba_14 := fun o => ba.cell o
  have cbg_15 := fun o => bg.cell o
  have cbh_16 := fun o => bh.cell o
  have hs8 := Ext.size hx8
  try simp only [World.size_alloc] at hs8
  go_wp2
  go_ret
  exact ⟨rfl, hy⟩

namespace lFnExactParseRoom
set_option maxRecDepth 100000
theorem own : ownKnob Tryz.prog.godebug = none := by kernel_rfl
theorem pTab : (Tryz.prog.globals[3]?).map (·.type) = some 170 := by kernel_rfl
theorem table {W : World} (h : laidMetH Tryz.prog Rows.fnExactParseRoomRow.laid W) : Tab W := by
  change laidMet Tryz.prog _ W at h
  obtain ⟨ps, ⟨g0, t0, cs0, f0, p0, q0, hg0, ht0, hv0, hd0, ⟨g1, t1, cs1, f1, p1, q1, hg1, ht1, hv1, hd1, ⟨g2, t2, cs2, f2, p2, q2, hg2, ht2, hv2, hd2, _, _⟩, _⟩, _⟩, _⟩ := h
  obtain rfl := Option.some.inj (gTab.symm.trans hg2)
  obtain rfl := Option.some.inj (pTab.symm.trans ht2)
  unfold Tab Lib.TabIs
  rw [hv2, ← Lib.cells_of_tab (k := .u64) (zs := Lib.pow10Tab) Tryz.underlying170 Tryz.underlying100 (by kernel_rfl) (by kernel_rfl) hd2]
theorem gER : Tryz.prog.globalNamed "strconv.ErrRange" = some 2 := by kernel_rfl
theorem gTR : (Tryz.prog.globals[2]?).map (·.type) = some 108 := by kernel_rfl
theorem gES : Tryz.prog.globalNamed "strconv.ErrSyntax" = some 1 := by kernel_rfl
theorem gTS : (Tryz.prog.globals[1]?).map (·.type) = some 108 := by kernel_rfl
theorem cellsES : Tryz.prog.cellsOf 177 = 1 := by kernel_rfl
theorem cellsST : Tryz.prog.cellsOf 9 = 1 := by kernel_rfl
theorem star : "*" ++ "errors.errorString" = "*errors.errorString" := by decide
theorem rowTP (u : TypeId) (h : Tryz.prog.typeName? 3 u = some "*errors.errorString") : u = 175 :=
  typeName_ptr_named (nm := "errors.errorString") (by rw [star]; kernel_rfl) (by kernel_rfl) (by decide) u (by rw [star]; exact h)
theorem ersT {W : World} (h : laidMetH Tryz.prog Rows.fnExactParseRoomRow.laid W) : Ers W := by
  change laidMet Tryz.prog _ W at h
  obtain ⟨aR, sR, hvR, _⟩ := laid_sentinel h.tail.tail.tail gER gTR Tryz.underlying108 rowTP Tryz.underlying175 Tryz.underlying177 rfl rfl Tryz.underlying9 cellsES cellsST
  obtain ⟨aS, sS, hvS, _⟩ := laid_sentinel h.tail.tail.tail.tail gES gTS Tryz.underlying108 rowTP Tryz.underlying175 Tryz.underlying177 rfl rfl Tryz.underlying9 cellsES cellsST
  exact ⟨⟨_, _, by simpa using World.var?_cell gES hvS 0⟩, _, _, by simpa using World.var?_cell gER hvR 0⟩
theorem laid_met (os : Os) : laidMet Tryz.prog Rows.fnExactParseRoomRow.laid ((World.doorLaid Tryz.prog 400 os).forCall (fun _ _ => 0) ⟨#[], #[.string ByteArray.empty], []⟩).memory :=
  laidMet_of_run' 8 (by kernel_rfl) (by kernel_rfl)
theorem reads (os : Os) {H : Type} (enc : TypeId × Value → H) : ∃ places, DataW.whole enc Tryz.prog ((World.doorLaid Tryz.prog 400 os).forCall (fun _ _ => 0) ⟨#[], #[.string ByteArray.empty], []⟩).memory Tryz.f6.params.toList Rows.fnExactParseRoomSpec.vars false (#[.string ByteArray.empty] : Array Value).toList 8 = some ([.lit (.string [])], [], places) :=
  ⟨[], by kernel_rfl⟩
theorem lifted (os : Os) (started : os.Started) (H : Type) (enc : TypeId × Value → H) (F : Stop.Interp) :
    ReturnsInHanded {} Tryz.checked os 6 .any ((OpenSpec.ofChange Rows.fnExactParseRoomSpec).preRow enc Tryz.prog Tryz.f6 Rows.fnExactParseRoomRow.domain false Rows.fnExactParseRoomRow.laid) (((OpenSpec.ofChange Rows.fnExactParseRoomSpec).at F).post enc Tryz.prog Tryz.f6 false true false false) := by
  obtain ⟨places, hx⟩ := reads os enc
  refine returnsInHanded_of_row (C := Tryz.checked) (s := OpenSpec.ofChange Rows.fnExactParseRoomSpec) own started (by kernel_rfl) Tryz.func6
    (witness_row_at (enc := enc) (C := Tryz.checked) false (World.doorLaid Tryz.prog 400 os) #[.string ByteArray.empty] rfl (by kernel_rfl) (by kernel_rfl) (by kernel_rfl)
      (OpenSpec.preRow_of_cond 8 hx (by kernel_rfl) (fun k hk => by cases hk) (by kernel_rfl) (laid_met os))) ?_
  intro W base args ds gs before hval0 hW _ _ _ hL hShaped _
  have hTab := table hL
  have hErs := ersT hL
  have hval : ∀ (j : Nat) t v, Tryz.f6.params[j]? = some t → args[j]? = some v → Value.okWide Tryz.prog W .any base t v := hval0
  have hW' := hW
  obtain ⟨p, q, hA0, hV, rfl, _, _⟩ := hW
  have hA : DataW.TrodAll enc Tryz.prog W 0 (fun _ => true) true Tryz.f6.params.toList args.toList ds p := hA0
  rw [Tryz.params6] at hA hval
  obtain ⟨v0, vs0, d0, ds0, p0, q0, hargs, rfl, rfl, h0, r0⟩ := trodAll_cons hA
  obtain ⟨rfl, rfl, rfl⟩ := trodAll_nil r0
  obtain rfl : args = #[v0] := by cases args; simp_all
  obtain ⟨rfl, rfl⟩ := trodVars_none hV
  have hv0 := hval 0 9 v0 rfl rfl
  clear hA0 hval hval0
  obtain ⟨s0, rfl, hs0⟩ := openArg_string Tryz.underlying9 hv0 h0
  refine (lawParseRoom s0 W hs0 hTab hErs).mono fun e W' ⟨he, hx⟩ => ?_
  subst he
  exact ⟨_, rfl, law_post (tb := 4) laidOut (by kernel_rfl) rfl Tryz.underlying4 rfl hW' rfl rfl rfl hx⟩
theorem said : Rows.FnExactParseRoomSaid :=
  OpenClaim.holds_of_cond 6 Tryz.f6 rfl rfl rfl rfl rfl rfl rfl ⟨rfl, rfl, rfl, rfl, rfl⟩ rfl rfl rfl rfl rfl (by kernel_rfl) Tryz.func6 (by kernel_rfl)
    (of_decide_eq_true (by kernel_rfl)) (by unfold Func.isWrapper; first | (rw [if_pos (by decide +kernel)]; kernel_rfl) | (rw [if_neg (by decide +kernel)]; exact ⟨rfl, rfl⟩))
    (fun os started H enc _ F => by rw [OpenClaim.pre_eq_preRow]; exact lifted os started H enc F)
theorem plain (f : FuncId) (fn : Func) (hf : Tryz.pinned.checked.prog.funcNamed "loop.example/g00832/laws.FnExactParseRoom" = some f) (hfn : Tryz.pinned.checked.prog.funcs[f]? = some fn) :
    true = Tryz.pinned.checked.prog.looks [] ∧ ∀ (j : Nat) t, fn.params[j]? = some t → Tryz.pinned.checked.prog.wantsStandIn t = false := by
  obtain rfl : f = 6 := Option.some.inj ((show Tryz.prog.funcNamed "loop.example/g00832/laws.FnExactParseRoom" = some 6 by kernel_rfl).symm.trans hf) |>.symm
  obtain rfl : fn = Tryz.f6 := (Option.some.inj (Tryz.func6.symm.trans hfn)).symm
  refine ⟨by kernel_rfl, fun j t ht => ?_⟩
  rw [Tryz.params6] at ht
  have hm : t ∈ [9] := by simpa using Array.mem_of_getElem? ht
  have hall : ([9].all fun u => !Tryz.prog.wantsStandIn u) = true := by kernel_rfl
  exact (show Tryz.prog.wantsStandIn t = false by simpa using List.all_eq_true.1 hall t hm)
theorem proved : Rows.FnExactParseRoomCardSaid :=
  Claim7.holds_tied_plain_at .later [] _ _ _ _ said (fun _ h => by cases h) (by kernel_rfl) (fun _ h => by cases h) fnExactParseRoom_row_tie rfl ⟨rfl, rfl⟩ (by kernel_rfl) rfl plain (by kernel_rfl)
end lFnExactParseRoom
end Go.Proofs.YtlgkfjhbimffiaaGreatDoor
