/- The law FnExactParseSpan returns true for all arguments: ParseSpan of the program and of the reference read the same span of every text. No condition beyond the row's own: the library's tables and error variables lie as the program's text lays them (the card ties that). -/
import Derived.Test.YtlgkfjhbimffiaaDoorOps
import Derived.Test.YtlgkfjhbimffiaaDoorPs
import Derived.Test.YtlgkfjhbimffiaaDoorHRatio
import Derived.Test.YtlgkfjhbimffiaaDoorCards
import Derived.Test.YtlgkfjhbimffiaaDoorTie
import Derived.Deep.DeepHandedRow
import Derived.Lib.LaidTab
import Derived.Stop.LaidErr
import Derived.LaidMore
import Derived.SevenTiedAt
import Derived.Shelf.Vars
set_option linter.unusedVariables false
set_option maxRecDepth 100000
namespace Go.Proofs.YtlgkfjhbimffiaaDoor
open Go.ChangeShapes Go.WideShapes Go.ChangeAt Go.RowKit

set_option maxHeartbeats 4000000 in
theorem lawParseSpan (s : ByteArray) (w : World) (hs : s.size ≤ maxLen) (hm : ∃ m, w.cell? ⟨0, 0, none⟩ = some (.int .i64 m)) (ht : Tab w) (he : Ers w) :
    Calls Tryd.prog 7 #[.string s] w fun e w' => e = .returned (.bool true) ∧ Ext w w' := by
  have HT0 := Lib.hid ht
  have HE0 := Lib.hid he
  have HM0 := Lib.hid hm
  clear ht he hm
  by_cases hbg : s.size ≤ 1048576
  rotate_left
  · have hbj : (1048576 : Int) < (s.size : Int) := by omega
    go_enter Tryd.func7, Tryd.ntmps7
    go_wp2
    go_ret
    exact ⟨rfl, Ext.refl _⟩
  have hbj : ¬ (1048576 : Int) < (s.size : Int) := by omega
  obtain ⟨x, hx⟩ : ∃ x, (spanR s.data.toList).1.Low.N = x := ⟨_, rfl⟩
  obtain ⟨y, hy⟩ : ∃ x, (spanR s.data.toList).1.Low.D = x := ⟨_, rfl⟩
  obtain ⟨z, hz⟩ : ∃ x, (spanR s.data.toList).1.High.N = x := ⟨_, rfl⟩
  obtain ⟨u, hu⟩ : ∃ x, (spanR s.data.toList).1.High.D = x := ⟨_, rfl⟩
  obtain ⟨q, hq⟩ : ∃ x, (spanR s.data.toList).2 = x := ⟨_, rfl⟩
  have hS := specParseSpan_any s hbg w
  rw [hx, hy, hz, hu, hq] at hS
  have HI := Lib.hid (fun w hm ht he => implParseSpan_any s hbg w hm ht he)
  rw [hx, hy, hz, hu, hq] at HI
  clear hx hy hz hu hq
  go_enter Tryd.func7, Tryd.ntmps7
  go_wp2_with fail
  refine hS.mono ?_
  clear hS
  rintro e w1 ⟨rfl, hx1⟩
  have bA := Blk.new w1 65 #[.int .i64 x, .int .i64 y, .int .i64 z, .int .i64 u]
  have hE1 : Ext w (w1.alloc (.cells #[.int .i64 x, .int .i64 y, .int .i64 z, .int .i64 u] 65)) := hx1.alloc _
  have HT := HT0.out.ext hE1
  have HE := HE0.out.ext hE1
  have HM : Hid (∃ m, (w1.alloc (.cells #[.int .i64 x, .int .i64 y, .int .i64 z, .int .i64 u] 65)).cell? ⟨0, 0, none⟩ = some (.int .i64 m)) := by
    obtain ⟨m, hm⟩ := HM0.out
    exact ⟨m, max_ext hm hE1⟩
  go_wp2_with fail
  refine (HI.out _ HM.out HT HE).mono ?_
  rintro e w2 ⟨rfl, hx2⟩
  clear HT HE HM
  replace bA := (bA.ext hx2).alloc (.cells #[.int .i64 x, .int .i64 y, .int .i64 z, .int .i64 u] 65)
  have hE2 := (hE1.trans hx2).alloc (.cells #[.int .i64 x, .int .i64 y, .int .i64 z, .int .i64 u] 65)
  have cA := fun o => bA.cell o
  go_wp2_with fail
  refine (eqSpan_same _ _ _ _ _).mono ?_
  rintro e w3 ⟨rfl, hx3⟩
  cases q
  all_goals
    go_wp2
    go_ret
    exact ⟨rfl, hE2.trans hx3⟩

namespace lFnExactParseSpan
set_option maxRecDepth 100000
theorem own : ownKnob Tryd.prog.godebug = none := by kernel_rfl
theorem pTab : (Tryd.prog.globals[1]?).map (·.type) = some 208 := by kernel_rfl
theorem table {W : World} (h : laidMetH Tryd.prog Rows.fnExactParseSpanRow.laid W) : Tab W := by
  change laidMet Tryd.prog _ W at h
  obtain ⟨ps, ⟨g0, t0, cs0, f0, p0, q0, hg0, ht0, hv0, hd0, ⟨g1, t1, cs1, f1, p1, q1, hg1, ht1, hv1, hd1, ⟨g2, t2, cs2, f2, p2, q2, hg2, ht2, hv2, hd2, _, _⟩, _⟩, _⟩, _⟩ := h
  obtain rfl := Option.some.inj (gTab.symm.trans hg2)
  obtain rfl := Option.some.inj (pTab.symm.trans ht2)
  unfold Tab Lib.TabIs
  rw [hv2, ← Lib.cells_of_tab (k := .u64) (zs := Lib.pow10Tab) Tryd.underlying208 Tryd.underlying131 (by kernel_rfl) (by kernel_rfl) hd2]
theorem gER : Tryd.prog.globalNamed "strconv.ErrRange" = some 3 := by kernel_rfl
theorem gTR : (Tryd.prog.globals[3]?).map (·.type) = some 150 := by kernel_rfl
theorem gES : Tryd.prog.globalNamed "strconv.ErrSyntax" = some 2 := by kernel_rfl
theorem gTS : (Tryd.prog.globals[2]?).map (·.type) = some 150 := by kernel_rfl
theorem cellsES : Tryd.prog.cellsOf 229 = 1 := by kernel_rfl
theorem cellsST : Tryd.prog.cellsOf 9 = 1 := by kernel_rfl
theorem star : "*" ++ "errors.errorString" = "*errors.errorString" := by decide
theorem rowTP (u : TypeId) (h : Tryd.prog.typeName? 3 u = some "*errors.errorString") : u = 227 :=
  typeName_ptr_named (nm := "errors.errorString") (by rw [star]; kernel_rfl) (by kernel_rfl) (by decide) u (by rw [star]; exact h)
theorem ersT {W : World} (h : laidMetH Tryd.prog Rows.fnExactParseSpanRow.laid W) : Ers W := by
  change laidMet Tryd.prog _ W at h
  obtain ⟨aR, sR, hvR, _⟩ := laid_sentinel h.tail.tail.tail gER gTR Tryd.underlying150 rowTP Tryd.underlying227 Tryd.underlying229 rfl rfl Tryd.underlying9 cellsES cellsST
  obtain ⟨aS, sS, hvS, _⟩ := laid_sentinel h.tail.tail.tail.tail gES gTS Tryd.underlying150 rowTP Tryd.underlying227 Tryd.underlying229 rfl rfl Tryd.underlying9 cellsES cellsST
  exact ⟨⟨_, _, by simpa using World.var?_cell gES hvS 0⟩, _, _, by simpa using World.var?_cell gER hvR 0⟩
theorem laid_met (os : Os) : laidMet Tryd.prog Rows.fnExactParseSpanRow.laid ((World.doorLaid Tryd.prog 400 os).forCall (fun _ _ => 0) ⟨#[], #[.string ByteArray.empty], []⟩).memory :=
  laidMet_of_run' 8 (by kernel_rfl) (by kernel_rfl)
theorem reads (os : Os) {H : Type} (enc : TypeId × Value → H) : ∃ places, DataW.whole enc Tryd.prog ((World.doorLaid Tryd.prog 400 os).forCall (fun _ _ => 0) ⟨#[], #[.string ByteArray.empty], []⟩).memory Tryd.f7.params.toList Rows.fnExactParseSpanSpec.vars false (#[.string ByteArray.empty] : Array Value).toList 8 = some ([.lit (.string [])], [], places) :=
  ⟨[], by kernel_rfl⟩
theorem lifted (os : Os) (started : os.Started) (H : Type) (enc : TypeId × Value → H) (F : Stop.Interp) :
    ReturnsInHanded {} Tryd.checked os 7 .any ((OpenSpec.ofChange Rows.fnExactParseSpanSpec).preRow enc Tryd.prog Tryd.f7 Rows.fnExactParseSpanRow.domain false Rows.fnExactParseSpanRow.laid) (((OpenSpec.ofChange Rows.fnExactParseSpanSpec).at F).post enc Tryd.prog Tryd.f7 false true false false) := by
  obtain ⟨places, hx⟩ := reads os enc
  refine returnsInHanded_of_row (C := Tryd.checked) (s := OpenSpec.ofChange Rows.fnExactParseSpanSpec) own started (by kernel_rfl) Tryd.func7
    (witness_row_at (enc := enc) (C := Tryd.checked) false (World.doorLaid Tryd.prog 400 os) #[.string ByteArray.empty] rfl (by kernel_rfl) (by kernel_rfl) (by kernel_rfl)
      (OpenSpec.preRow_of_cond 8 hx (by kernel_rfl) (fun k hk => by cases hk) (by kernel_rfl) (laid_met os))) ?_
  intro W base args ds gs before hval0 hW _ _ _ hL hShaped _
  have hTab := table hL
  have hErs := ersT hL
  have hval : ∀ (j : Nat) t v, Tryd.f7.params[j]? = some t → args[j]? = some v → Value.okWide Tryd.prog W .any base t v := hval0
  have hW' := hW
  obtain ⟨p, q, hA0, hV, rfl, _, _⟩ := hW
  have hA : DataW.TrodAll enc Tryd.prog W 0 (fun _ => true) true Tryd.f7.params.toList args.toList ds p := hA0
  rw [Tryd.params7] at hA hval
  obtain ⟨v0, vs0, d0, ds0, p0, q0, hargs, rfl, rfl, h0, r0⟩ := trodAll_cons hA
  obtain ⟨rfl, rfl, rfl⟩ := trodAll_nil r0
  obtain rfl : args = #[v0] := by cases args; simp_all
  obtain ⟨rfl, rfl⟩ := trodVars_none hV
  have hv0 := hval 0 9 v0 rfl rfl
  clear hA0 hval hval0
  obtain ⟨s0, rfl, hs0⟩ := openArg_string Tryd.underlying9 hv0 h0
  have hMax : ∃ m, W.cell? ⟨0, 0, none⟩ = some (.int .i64 m) :=
    Go.Proofs.cell_of_shapedOpen_int (zero := #[.int .i64 0]) (t := 3) hShaped (of_decide_eq_true (by kernel_rfl)) (by kernel_rfl) rfl (by kernel_rfl) (by kernel_rfl) Tryd.underlying3
  refine (lawParseSpan s0 W hs0 hMax hTab hErs).mono fun e W' ⟨he, hx⟩ => ?_
  subst he
  exact ⟨_, rfl, law_post (tb := 4) laidOut (by kernel_rfl) rfl Tryd.underlying4 rfl hW' rfl rfl rfl hx⟩
theorem said : Rows.FnExactParseSpanSaid :=
  OpenClaim.holds_of_cond 7 Tryd.f7 rfl rfl rfl rfl rfl rfl rfl ⟨rfl, rfl, rfl, rfl, rfl⟩ rfl rfl rfl rfl rfl (by kernel_rfl) Tryd.func7 (by kernel_rfl)
    (of_decide_eq_true (by kernel_rfl)) (by unfold Func.isWrapper; first | (rw [if_pos (by decide +kernel)]; kernel_rfl) | (rw [if_neg (by decide +kernel)]; exact ⟨rfl, rfl⟩))
    (fun os started H enc _ F => by rw [OpenClaim.pre_eq_preRow]; exact lifted os started H enc F)
theorem plain (f : FuncId) (fn : Func) (hf : Tryd.pinned.checked.prog.funcNamed "loop.example/g00832/laws.FnExactParseSpan" = some f) (hfn : Tryd.pinned.checked.prog.funcs[f]? = some fn) :
    true = Tryd.pinned.checked.prog.looks [] ∧ ∀ (j : Nat) t, fn.params[j]? = some t → Tryd.pinned.checked.prog.wantsStandIn t = false := by
  obtain rfl : f = 7 := Option.some.inj ((show Tryd.prog.funcNamed "loop.example/g00832/laws.FnExactParseSpan" = some 7 by kernel_rfl).symm.trans hf) |>.symm
  obtain rfl : fn = Tryd.f7 := (Option.some.inj (Tryd.func7.symm.trans hfn)).symm
  refine ⟨by kernel_rfl, fun j t ht => ?_⟩
  rw [Tryd.params7] at ht
  have hm : t ∈ [9] := by simpa using Array.mem_of_getElem? ht
  have hall : ([9].all fun u => !Tryd.prog.wantsStandIn u) = true := by kernel_rfl
  exact (show Tryd.prog.wantsStandIn t = false by simpa using List.all_eq_true.1 hall t hm)
theorem proved : Rows.FnExactParseSpanCardSaid :=
  Claim7.holds_tied_plain_at .later [] _ _ _ _ said (fun _ h => by cases h) (by kernel_rfl) (fun _ h => by cases h) fnExactParseSpan_row_tie rfl ⟨rfl, rfl⟩ (by kernel_rfl) rfl plain (by kernel_rfl)
end lFnExactParseSpan
end Go.Proofs.YtlgkfjhbimffiaaDoor
