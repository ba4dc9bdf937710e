/- Contracts of pre and keep of the program. (written by tools/mkKp.py) -/
import Derived.Test.YtfnmbpjkjajpcaaGreatDoorFbRz
import Derived.Test.YtfnmbpjkjajpcaaGreatDoorFbLz
import Derived.Test.YtfnmbpjkjajpcaaGreatDoorFbSz
import Derived.Deep.AppendLies
import Derived.Deep.LoopGhost
import Derived.Test.YtfnmbpjkjajpcaaGreatDoorFbUz
import Derived.Test.YtfnmbpjkjajpcaaGreatDoorFbTz
import Derived.Deep.RegionHeld3
namespace Go.Proofs.YtfnmbpjkjajpcaaGreatDoor
open Go.ChangeShapes Go.WideShapes Go.ChangeAt Go.RowKit
set_option linter.unusedVariables false
set_option maxRecDepth 100000
set_option maxHeartbeats 8000000 in
theorem implPre_ok (r : Room) (A0 A6 A7 : Option Addr) (c0 c6 c7 : Nat) (A : Option Addr) (n c : Nat) (ps : List Half) (w : World) (hv : RoomV r) (ha : RoomHere w r A0 A6 A7 c0 c6 c7) (hn : ps.length = n) (hr : Row w A (ints (flat Half.ints ps))) (hA : A = none → n = 0 ∧ c = 0) (hpk : regOk ps = true) :
    Calls Tryz.prog 296 #[.agg #[.slice A0 r.Map.length c0, .int .i64 r.Div, .int .i64 r.Bx, .int .i64 r.By, .int .i64 r.Low, .int .i64 r.High, .slice A6 r.Noise.length c6, .slice A7 r.Limits.length c7], .agg #[.slice A n c]] w (RegMade (preR r ps) w) := by
  obtain ⟨hD, hM⟩ := hv.dyn
  have d1 : -1000 ≤ r.Low := hD.low
  have d2 : r.Low ≤ r.High := hD.mid
  have d3 : r.High ≤ 1000 := hD.high
  have hle : n ≤ 40 := by have := regOk_len hpk; omega
  have hEk : Hid (regOk (erodeR ps r.Noise).1 = true) := erodeR_ok _ _
  have hGk : Hid (∀ E, regOk E = true → regOk (growR E r.Bx r.By r.Low r.High).1 = true) := fun E h => growR_ok h _ _ _ _
  have HE := Lib.hid (fun w hr hr' => implErode_any A n c ps A6 r.Noise.length c6 r.Noise w hn hr (regOk_all hpk) (by omega) rfl hv.noise hv.noiseN hr')
  have HG := Lib.hid (fun A n c E w hn hk hA hr => implGrow_any A n c r.Bx r.By r.Low r.High E w hn hk hA hD.bx hD.by_ ⟨d1, by omega⟩ ⟨by omega, d3⟩ hr)
  have HP := Lib.hid (fun A n c G w hn hp hk hle hm => implPull_any (dynOf r) A n c G A0 c0 w hD hn hp hk hle hm)
  have hq : (dynOf r).q = r.Div := rfl
  have hl4 : r.Map.length = 4 := by rw [hM]; rfl
  have HMr : Hid (∀ V, Ext w V → Row V A0 (ints [(dynOf r).a, (dynOf r).b, (dynOf r).c, (dynOf r).d])) := fun V hV => by
    have := (ha.ext hV).at_.m
    rwa [hM] at this
  have HNo := Lib.hid (fun h => preR_no (r := r) (p := ps) h)
  have HNo2 := Lib.hid (fun h => preR_no2 (r := r) (p := ps) h)
  have HYes := Lib.hid (fun h1 h2 h3 => preR_yes (r := r) (p := ps) h1 h2 h3)
  have hx : Ext w (((w.alloc (.cells #[.slice A0 r.Map.length c0, .int .i64 r.Div, .int .i64 r.Bx, .int .i64 r.By, .int .i64 r.Low, .int .i64 r.High, .slice A6 r.Noise.length c6, .slice A7 r.Limits.length c7] 36)).alloc (.cells #[.slice A n c] 34)).alloc (.cells #[.slice none 0 0] 34)) := (((Ext.refl w).alloc _).alloc _).alloc _
  have bM := ((Blk.new w 36 #[.slice A0 r.Map.length c0, .int .i64 r.Div, .int .i64 r.Bx, .int .i64 r.By, .int .i64 r.Low, .int .i64 r.High, .slice A6 r.Noise.length c6, .slice A7 r.Limits.length c7]).alloc (.cells #[.slice A n c] 34)).alloc (.cells #[.slice none 0 0] 34)
  have bP := (Blk.new (w.alloc (.cells #[.slice A0 r.Map.length c0, .int .i64 r.Div, .int .i64 r.Bx, .int .i64 r.By, .int .i64 r.Low, .int .i64 r.High, .slice A6 r.Noise.length c6, .slice A7 r.Limits.length c7] 36)) 34 #[.slice A n c]).alloc (.cells #[.slice none 0 0] 34)
  have bR := Blk.new ((w.alloc (.cells #[.slice A0 r.Map.length c0, .int .i64 r.Div, .int .i64 r.Bx, .int .i64 r.By, .int .i64 r.Low, .int .i64 r.High, .slice A6 r.Noise.length c6, .slice A7 r.Limits.length c7] 36)).alloc (.cells #[.slice A n c] 34)) 34 #[.slice none 0 0]
  simp only [World.size_alloc] at bP bR
  have HR := Lib.hid hr
  have HA := Lib.hid ha
  rw [hq] at HP
  rw [hl4] at bM hx bP bR ⊢
  clear hv ha hn hr hpk hD hM hA d1 d2 d3
  generalize preR r ps = PR at *
  generalize erodeR ps r.Noise = ER at *
  have cbM_1 := fun o => bM.cell o
  have cbP_2 := fun o => bP.cell o
  have cbR_3 := fun o => bR.cell o
  have fbR_3 := fun o => bR.frozen o
  go_enter Tryz.func296, Tryz.ntmps296
  go_wp2_with fail
  refine (HE.out _ (HR.out.ext hx) ((HA.out.ext hx).at_.p)).mono ?_
  rintro e w1 ⟨A1, c1, n1, rfl, hn1, hx1, hown1⟩
  have hs1 := bR.lt
  replace hx := hx.trans hx1
  replace bM := bM.ext hx1
  replace bP := bP.ext hx1
  replace bR := bR.ext hx1
  have cbM_4 := fun o => bM.cell o
  have cbP_5 := fun o => bP.cell o
  have cbR_6 := fun o => bR.cell o
  have fbR_6 := fun o => bR.frozen o
  have hs1b := bR.lt
  obtain ⟨E, ok⟩ := ER
  dsimp only at *
  subst hn1
  have bE := Blk.new w1 34 #[.slice A1 E.length c1]
  have bR0 := bR
  have hx0 := hx
  have ha1 := (Ext.refl w1).alloc (.cells #[.slice A1 E.length c1] 34)
  replace hx := hx.trans ha1
  replace bM := bM.ext ha1
  replace bP := bP.ext ha1
  replace bR := bR.ext ha1
  have cbM_7 := fun o => bM.cell o
  have cbP_8 := fun o => bP.cell o
  have cbR_9 := fun o => bR.cell o
  have fbR_9 := fun o => bR.frozen o
  replace hown1 := own_ext hown1 ha1
  have cE := fun o => bE.cell o
  cases ok
  · have H := Lib.hid (HNo.out (.inl rfl))
    go_wp2
    have bF := (bR0.set_ 0 (.slice none 0 0)).alloc (.cells #[.slice A1 E.length c1] 34)
    have cF := fun o => bF.cell o
    refine bodyPost_ret (v := .tuple #[.agg #[.slice none 0 0], .bool false]) (by simp [results, Tryz.results296, go_sem, cF]) rfl ?_
    exact RegMade.nil false H.out rfl ((hx0.setCell (by simp only; omega) _).alloc _)
  by_cases h38 : 38 < E.length
  · have hb : (38 : Int) < (E.length : Int) := by omega
    have hb2 : decide ((38 : Int) < (E.length : Int)) = true := decide_eq_true hb
    have H := Lib.hid (HNo.out (.inr h38))
    clear h38
    go_wp2
    have bF := (bR0.set_ 0 (.slice none 0 0)).alloc (.cells #[.slice A1 E.length c1] 34)
    have cF := fun o => bF.cell o
    refine bodyPost_ret (v := .tuple #[.agg #[.slice none 0 0], .bool false]) (by simp [results, Tryz.results296, go_sem, cF]) rfl ?_
    exact RegMade.nil false H.out rfl ((hx0.setCell (by simp only; omega) _).alloc _)
  have hb : ¬ (38 : Int) < (E.length : Int) := by omega
  have hb2 : decide ((38 : Int) < (E.length : Int)) = false := decide_eq_false hb
  have h38' : E.length ≤ 38 := by omega
  have HY := Lib.hid (fun h3 => HYes.out rfl h38' h3)
  have hGk' := Lib.hid (hGk.out E hEk.out)
  have hmine := (Mine.of_own hown1).none
  clear HNo HYes h38
  go_wp2_with fail
  refine (HG.out A1 E.length c1 E _ rfl hEk.out hmine (Row.of_own hown1)).mono ?_
  rintro e w2 ⟨A2, c2, n2, rfl, hn2, hx2, hown2⟩
  replace hx := hx.trans hx2
  replace bM := bM.ext hx2
  replace bP := bP.ext hx2
  replace bR := bR.ext hx2
  replace bE := bE.ext hx2
  have cbM_10 := fun o => bM.cell o
  have cbP_11 := fun o => bP.cell o
  have cbR_12 := fun o => bR.cell o
  have fbR_12 := fun o => bR.frozen o
  have cbE_13 := fun o => bE.cell o
  have hs2 := bR.lt
  generalize growR E r.Bx r.By r.Low r.High = GR at *
  obtain ⟨G, ok⟩ := GR
  dsimp only at *
  subst hn2
  have bG := Blk.new w2 34 #[.slice A2 G.length c2]
  replace bR0 := bR
  replace hx0 := hx
  have ha2 := (Ext.refl w2).alloc (.cells #[.slice A2 G.length c2] 34)
  replace hx := hx.trans ha2
  replace bM := bM.ext ha2
  replace bP := bP.ext ha2
  replace bR := bR.ext ha2
  replace bE := bE.ext ha2
  have cbM_14 := fun o => bM.cell o
  have cbP_15 := fun o => bP.cell o
  have cbR_16 := fun o => bR.cell o
  have fbR_16 := fun o => bR.frozen o
  have cbE_17 := fun o => bE.cell o
  replace hown2 := own_ext hown2 ha2
  have cG := fun o => bG.cell o
  clear hown1 hmine
  cases ok
  · have H := Lib.hid (HNo2.out rfl)
    go_wp2
    have bF := (bR0.set_ 0 (.slice none 0 0)).alloc (.cells #[.slice A2 G.length c2] 34)
    have cF := fun o => bF.cell o
    refine bodyPost_ret (v := .tuple #[.agg #[.slice none 0 0], .bool false]) (by simp [results, Tryz.results296, go_sem, cF]) rfl ?_
    exact RegMade.nil false H.out rfl ((hx0.setCell (by simp only; omega) _).alloc _)
  have H := Lib.hid (HY.out rfl)
  have hGl := regOk_len hGk'.out
  clear HNo2 HY
  go_wp2_with fail
  refine (HP.out A2 G.length c2 G _ rfl (Row.of_own hown2) (regOk_all hGk'.out) (by omega) (HMr.out _ hx)).mono ?_
  rintro e wX ⟨AX, cX, nX, rfl, hnX, hxX, hownX⟩
  rw [← H.out] at hnX hownX ⊢
  have hsX := bR.lt
  replace hx := hx.trans hxX
  replace bM := bM.ext hxX
  replace bP := bP.ext hxX
  replace bR := bR.ext hxX
  replace bE := bE.ext hxX
  replace bG := bG.ext hxX
  have cbM_18 := fun o => bM.cell o
  have cbP_19 := fun o => bP.cell o
  have cbR_20 := fun o => bR.cell o
  have fbR_20 := fun o => bR.frozen o
  have cbE_21 := fun o => bE.cell o
  have cbG_22 := fun o => bG.cell o
  subst hnX
  go_wp2
  have bF := bR.set_ 0 (.slice AX PR.1.length cX)
  have cF := fun o => bF.cell o
  refine bodyPost_ret (v := .tuple #[.agg #[.slice AX PR.1.length cX], .bool PR.2]) (by simp [results, Tryz.results296, go_sem, cF]) rfl ?_
  exact ⟨AX, cX, _, rfl, rfl, hx.setCell (by simp only; omega) _, own_base (own_far hownX (by simp only; omega) _) (by omega)⟩
set_option maxHeartbeats 8000000 in
theorem implKeep_ok (r : Room) (A0 A6 A7 : Option Addr) (c0 c6 c7 : Nat) (A : Option Addr) (n c : Nat) (ps : List Half) (w : World) (hv : RoomV r) (ha : RoomHere w r A0 A6 A7 c0 c6 c7) (hn : ps.length = n) (hr : Row w A (ints (flat Half.ints ps))) (hA : A = none → n = 0 ∧ c = 0) (hpk : regOk ps = true) :
    Calls Tryz.prog 247 #[.agg #[.slice A0 r.Map.length c0, .int .i64 r.Div, .int .i64 r.Bx, .int .i64 r.By, .int .i64 r.Low, .int .i64 r.High, .slice A6 r.Noise.length c6, .slice A7 r.Limits.length c7], .agg #[.slice A n c]] w (RegMade (keepR r ps) w) := by
  have HP := Lib.hid (fun w ha hr => implPre_ok r A0 A6 A7 c0 c6 c7 A n c ps w hv ha hn hr hA hpk)
  have HMt := Lib.hid (fun A' n' c' Q w hr hn' hr' hq => implMeetRegions_ok A n c ps A' n' c' Q w hn hr hpk hn' hr' hq)
  have hPk : Hid (regOk (preR r ps).1 = true) := preR_ok r ps
  have HNo := Lib.hid (fun h => keepR_no (r := r) (p := ps) h)
  have HYes := Lib.hid (fun h => keepR_yes (r := r) (p := ps) h)
  have hx : Ext w (((w.alloc (.cells #[.slice A0 r.Map.length c0, .int .i64 r.Div, .int .i64 r.Bx, .int .i64 r.By, .int .i64 r.Low, .int .i64 r.High, .slice A6 r.Noise.length c6, .slice A7 r.Limits.length c7] 36)).alloc (.cells #[.slice A n c] 34)).alloc (.cells #[.slice none 0 0] 34)) := (((Ext.refl w).alloc _).alloc _).alloc _
  have bM := ((Blk.new w 36 #[.slice A0 r.Map.length c0, .int .i64 r.Div, .int .i64 r.Bx, .int .i64 r.By, .int .i64 r.Low, .int .i64 r.High, .slice A6 r.Noise.length c6, .slice A7 r.Limits.length c7]).alloc (.cells #[.slice A n c] 34)).alloc (.cells #[.slice none 0 0] 34)
  have bP := (Blk.new (w.alloc (.cells #[.slice A0 r.Map.length c0, .int .i64 r.Div, .int .i64 r.Bx, .int .i64 r.By, .int .i64 r.Low, .int .i64 r.High, .slice A6 r.Noise.length c6, .slice A7 r.Limits.length c7] 36)) 34 #[.slice A n c]).alloc (.cells #[.slice none 0 0] 34)
  have bR := Blk.new ((w.alloc (.cells #[.slice A0 r.Map.length c0, .int .i64 r.Div, .int .i64 r.Bx, .int .i64 r.By, .int .i64 r.Low, .int .i64 r.High, .slice A6 r.Noise.length c6, .slice A7 r.Limits.length c7] 36)).alloc (.cells #[.slice A n c] 34)) 34 #[.slice none 0 0]
  simp only [World.size_alloc] at bP bR
  have HR := Lib.hid hr
  have HA := Lib.hid ha
  clear hv ha hn hr hpk hA
  generalize keepR r ps = KR at *
  generalize preR r ps = PR at *
  have cbM_23 := fun o => bM.cell o
  have cbP_24 := fun o => bP.cell o
  have cbR_25 := fun o => bR.cell o
  have fbR_25 := fun o => bR.frozen o
  go_enter Tryz.func247, Tryz.ntmps247
  go_wp2_with fail
  refine (HP.out _ (HA.out.ext hx) (HR.out.ext hx)).mono ?_
  rintro e w1 ⟨A1, c1, n1, rfl, hn1, hx1, hown1⟩
  replace hx := hx.trans hx1
  replace bM := bM.ext hx1
  replace bP := bP.ext hx1
  replace bR := bR.ext hx1
  have cbM_26 := fun o => bM.cell o
  have cbP_27 := fun o => bP.cell o
  have cbR_28 := fun o => bR.cell o
  have fbR_28 := fun o => bR.frozen o
  have hs1 := bR.lt
  obtain ⟨Q, ok⟩ := PR
  dsimp only at *
  subst hn1
  have bE := Blk.new w1 34 #[.slice A1 Q.length c1]
  have bR0 := bR
  have hx0 := hx
  have ha1 := (Ext.refl w1).alloc (.cells #[.slice A1 Q.length c1] 34)
  replace hx := hx.trans ha1
  replace bM := bM.ext ha1
  replace bP := bP.ext ha1
  replace bR := bR.ext ha1
  have cbM_29 := fun o => bM.cell o
  have cbP_30 := fun o => bP.cell o
  have cbR_31 := fun o => bR.cell o
  have fbR_31 := fun o => bR.frozen o
  replace hown1 := own_ext hown1 ha1
  have cE := fun o => bE.cell o
  cases ok
  · have H := Lib.hid (HNo.out rfl)
    go_wp2
    have bF := (bR0.set_ 0 (.slice none 0 0)).alloc (.cells #[.slice A1 Q.length c1] 34)
    have cF := fun o => bF.cell o
    refine bodyPost_ret (v := .tuple #[.agg #[.slice none 0 0], .bool false]) (by simp [results, Tryz.results247, go_sem, cF]) rfl ?_
    exact RegMade.nil false H.out rfl ((hx0.setCell (by simp only; omega) _).alloc _)
  have H := Lib.hid (HYes.out rfl)
  clear HNo HYes
  go_wp2_with fail
  refine (HMt.out A1 Q.length c1 Q _ (HR.out.ext hx) rfl (Row.of_own hown1) hPk.out).mono ?_
  rintro e wX ⟨AX, cX, nX, rfl, hnX, hxX, hownX⟩
  rw [← H.out] at hnX hownX ⊢
  have hsX := bR.lt
  replace hx := hx.trans hxX
  replace bM := bM.ext hxX
  replace bP := bP.ext hxX
  replace bR := bR.ext hxX
  replace bE := bE.ext hxX
  have cbM_32 := fun o => bM.cell o
  have cbP_33 := fun o => bP.cell o
  have cbR_34 := fun o => bR.cell o
  have fbR_34 := fun o => bR.frozen o
  have cbE_35 := fun o => bE.cell o
  subst hnX
  go_wp2
  have bF := bR.set_ 0 (.slice AX KR.1.length cX)
  have cF := fun o => bF.cell o
  refine bodyPost_ret (v := .tuple #[.agg #[.slice AX KR.1.length cX], .bool KR.2]) (by simp [results, Tryz.results247, go_sem, cF]) rfl ?_
  exact ⟨AX, cX, _, rfl, rfl, hx.setCell (by simp only; omega) _, own_base (own_far hownX (by simp only; omega) _) (by omega)⟩
end Go.Proofs.YtfnmbpjkjajpcaaGreatDoor
namespace Go.Proofs.YtfnmbpjkjajpcaaGreatDoor
open Go.ChangeShapes Go.WideShapes Go.ChangeAt Go.RowKit
set_option linter.unusedVariables false
set_option maxRecDepth 100000
def ListMade (r : List Half × Bool) (w : World) (e : Ending) (w' : World) : Prop :=
  ∃ A c n, e = .returned (.tuple #[.slice A n c, .bool r.2]) ∧ n = r.1.length ∧ Ext w w' ∧ w'.ownsRow w.heap.size 116 3 (.slice A n c) n (ints (flat Half.ints r.1))
theorem ListMade.nil {r : List Half × Bool} {w w' : World} {e : Ending} (b : Bool) (hr : r = ([], b)) (he : e = .returned (.tuple #[.slice none 0 0, .bool b])) (hx : Ext w w') : ListMade r w e w' := by
  subst hr
  exact ⟨none, 0, 0, he, rfl, hx, World.ownsRow_nil _ _ _ _⟩
theorem inR_yes {n lo hi : Int} (h : lo ≤ n ∧ n ≤ hi) : inR n lo hi = true := by
  unfold inR
  rw [decide_eq_true h.1, decide_eq_true h.2]
  rfl
end Go.Proofs.YtfnmbpjkjajpcaaGreatDoor
namespace Go.Proofs.YtfnmbpjkjajpcaaGreatDoor
open Go.ChangeShapes Go.WideShapes Go.ChangeAt Go.RowKit
set_option linter.unusedVariables false
set_option maxRecDepth 100000
theorem own_set {w : World} {base : Nat} {e : TypeId} {s n : Nat} {v : Value} {xs : List Value} (h : w.ownsRow base e s v n xs) {p : Addr} (hp : ∀ g, v.ownBlock = some g → g ≠ p.block) (u : Value) : (w.setCell p u).ownsRow base e s v n xs := by
  refine World.ownsRow.kept h (row := some p.block) ⟨rfl, rfl, rfl, by simp [World.setCell], fun k _ hk => heap_setCell_other w p k u (fun e => hk (by rw [e]))⟩ ?_
  exact .inr (fun e => hp _ e rfl)
end Go.Proofs.YtfnmbpjkjajpcaaGreatDoor
namespace Go.Proofs.YtfnmbpjkjajpcaaGreatDoor
open Go.ChangeShapes Go.WideShapes Go.ChangeAt Go.RowKit
set_option linter.unusedVariables false
set_option maxRecDepth 100000
theorem RoomV.det {r : Room} (h : RoomV r) : (dynOf r).a * (dynOf r).d - (dynOf r).b * (dynOf r).c ≠ 0 := by
  obtain ⟨a, b, c, d, hm, _, hd⟩ := h.map
  unfold dynOf
  rw [hm]
  exact hd
end Go.Proofs.YtfnmbpjkjajpcaaGreatDoor
namespace Go.Proofs.YtfnmbpjkjajpcaaGreatDoor
open Go.ChangeShapes Go.WideShapes Go.ChangeAt Go.RowKit
set_option linter.unusedVariables false
set_option maxRecDepth 100000
def KeptMade (x : KeptV) (w : World) (e : Ending) (w' : World) : Prop :=
  ∃ A c n, e = .returned (.tuple #[.agg #[.slice A n c, .int .i64 (x.n : Int), .bool x.stop], .bool x.ok]) ∧ n = x.reg.length ∧ Ext w w' ∧ w'.ownsRow w.heap.size 116 3 (.slice A n c) n (ints (flat Half.ints x.reg))
theorem KeptMade.nil {x : KeptV} {w w' : World} {e : Ending} (hr : x = ⟨[], 0, false, false⟩) (he : e = .returned (.tuple #[.agg #[.slice none 0 0, .int .i64 0, .bool false], .bool false])) (hx : Ext w w') : KeptMade x w e w' := by
  subst hr
  exact ⟨none, 0, 0, he, rfl, hx, World.ownsRow_nil _ _ _ _⟩
theorem ext_set3 {w V : World} {g : Nat} (h : Ext w V) (hg : w.heap.size ≤ g) (a b c : Value) : Ext w (((V.setCell ⟨g, 0, none⟩ a).setCell ⟨g, 1, none⟩ b).setCell ⟨g, 2, none⟩ c) :=
  ((h.setCell (p := ⟨g, 0, none⟩) hg _).setCell (p := ⟨g, 1, none⟩) hg _).setCell (p := ⟨g, 2, none⟩) hg _
theorem own_set3 {w : World} {base : Nat} {e : TypeId} {s n : Nat} {v : Value} {xs : List Value} (h : w.ownsRow base e s v n xs) {g : Nat} (hg : g < base) (a b c : Value) : (((w.setCell ⟨g, 0, none⟩ a).setCell ⟨g, 1, none⟩ b).setCell ⟨g, 2, none⟩ c).ownsRow base e s v n xs :=
  own_far (own_far (own_far h (p := ⟨g, 0, none⟩) hg a) (p := ⟨g, 1, none⟩) hg b) (p := ⟨g, 2, none⟩) hg c
theorem runR_bad {r : Room} (h : roomOk r = false) (k : Nat) : runR r k = ⟨[], 0, false, false⟩ := by unfold runR; rw [h]; rfl
theorem runR_good {r : Room} (h : roomOk r = true) (k : Nat) : runR r k = runF r k r.Limits 0 := by unfold runR; rw [if_pos h]
set_option maxHeartbeats 32000000 in
theorem implRunRounds_any (r : Room) (A0 A6 A7 : Option Addr) (c0 c6 c7 : Nat) (k : Nat) (w : World) (hk : k ≤ 12) (ha : RoomHere w r A0 A6 A7 c0 c6 c7) (hFI : roomFI r) (hRL : RoomL r) :
    Calls Tryz.prog 183 #[.agg #[.slice A0 r.Map.length c0, .int .i64 r.Div, .int .i64 r.Bx, .int .i64 r.By, .int .i64 r.Low, .int .i64 r.High, .slice A6 r.Noise.length c6, .slice A7 r.Limits.length c7], .int .i64 (k : Int)] w (KeptMade (runR r k) w) := by
  have hx : Ext w ((w.alloc (.cells #[.slice A0 r.Map.length c0, .int .i64 r.Div, .int .i64 r.Bx, .int .i64 r.By, .int .i64 r.Low, .int .i64 r.High, .slice A6 r.Noise.length c6, .slice A7 r.Limits.length c7] 36)).alloc (.cells #[.slice none 0 0, .int .i64 0, .bool false] 134)) := ((Ext.refl w).alloc _).alloc _
  have bM := (Blk.new w 36 #[.slice A0 r.Map.length c0, .int .i64 r.Div, .int .i64 r.Bx, .int .i64 r.By, .int .i64 r.Low, .int .i64 r.High, .slice A6 r.Noise.length c6, .slice A7 r.Limits.length c7]).alloc (.cells #[.slice none 0 0, .int .i64 0, .bool false] 134)
  have bR := Blk.new (w.alloc (.cells #[.slice A0 r.Map.length c0, .int .i64 r.Div, .int .i64 r.Bx, .int .i64 r.By, .int .i64 r.Low, .int .i64 r.High, .slice A6 r.Noise.length c6, .slice A7 r.Limits.length c7] 36)) 134 #[.slice none 0 0, .int .i64 0, .bool false]
  simp only [World.size_alloc] at bR
  have HRo := Lib.hid (fun w h => implRoomOk_any r A0 A6 A7 c0 c6 c7 w h hFI hRL)
  have HIn := Lib.hid (fun w => inRange_eq (n := (k : Int)) (lo := 0) (hi := 12) (inR_yes (by omega)) w)
  have HBad := Lib.hid (fun h => runR_bad (r := r) h k)
  have HGood := Lib.hid (fun h => runR_good (r := r) h k)
  have HV := Lib.hid (fun h => room_valid (r := r) h)
  have HA := Lib.hid ha
  obtain ⟨v, hv⟩ : ∃ v, roomOk r = v := ⟨_, rfl⟩
  rw [hv] at HRo HBad HGood HV
  generalize runR r k = X at *
  clear ha hFI hRL hv
  have cbM_81 := fun o => bM.cell o
  have cbR_82 := fun o => bR.cell o
  have fbR_82 := fun o => bR.frozen o
  go_enter Tryz.func183, Tryz.ntmps183
  go_wp2_with fail
  refine (HIn.out _).mono ?_
  rintro e w' ⟨rfl, rfl⟩
  go_wp2_with fail
  refine (HRo.out _ (HA.out.ext hx).at_).mono ?_
  rintro e w1 ⟨rfl, hx1⟩
  replace hx := hx.trans hx1
  replace bM := bM.ext hx1
  replace bR := bR.ext hx1
  have cbM_83 := fun o => bM.cell o
  have cbR_84 := fun o => bR.cell o
  have fbR_84 := fun o => bR.frozen o
  cases v
  · have H := Lib.hid (HBad.out rfl)
    go_wp2
    have bF := ((bR.set_ 0 (.slice none 0 0)).set_ 1 (.int .i64 0)).set_ 2 (.bool false)
    have cF := fun o => bF.cell o
    refine bodyPost_ret (v := .tuple #[.agg #[.slice none 0 0, .int .i64 0, .bool false], .bool false]) (by simp [results, Tryz.results183, go_sem, cF]) rfl ?_
    exact KeptMade.nil H.out rfl (ext_set3 hx (by omega) _ _ _)
  have hv := HV.out (by first | rfl | trivial)
  have HX := Lib.hid (HGood.out (by first | rfl | trivial))
  have hlim := HA.out.n7
  have HCp := Lib.hid (fun w hr => implCopyRegion_any A7 r.Limits.length c7 r.Limits w rfl hr hlim (by have := regOk_len hv.limits; omega))
  have HLk : Hid (regOk r.Limits = true) := hv.limits
  have HKeep := Lib.hid (fun A n c ps w ha hn hr hA hpk => implKeep_ok r A0 A6 A7 c0 c6 c7 A n c ps w hv ha hn hr hA hpk)
  have HKok := Lib.hid (fun p (h : regOk p = true) => keepR_ok (r := r) h)
  have HSame := Lib.hid (fun A B n m c d xs ys w hn hm hr hs hle hle' => implSameRegion_any A B n m c d xs ys w hn hm hr hs hle hle')
  clear HBad HGood HRo HIn HV hlim hv
  go_wp2_with fail
  refine (HCp.out _ ((HA.out.ext hx).at_.q)).mono ?_
  rintro e w2 ⟨A2, c2, n2, rfl, hn2, hx2, hown2⟩
  subst hn2
  have hs2 := bR.lt
  replace hx := hx.trans hx2
  replace bM := bM.ext hx2
  replace bR := bR.ext hx2
  have cbM_85 := fun o => bM.cell o
  have cbR_86 := fun o => bR.cell o
  have fbR_86 := fun o => bR.frozen o
  have hs2b := bR.lt
  have bK := Blk.new w2 134 #[.slice A2 r.Limits.length c2, .int .i64 0, .bool false]
  have hfar : ∀ g, Value.ownBlock (.slice A2 r.Limits.length c2) = some g → g ≠ w2.heap.size := fun q hq => by have := (hown2.lt q hq).2; omega
  have ha2 := (Ext.refl w2).alloc (.cells #[.slice A2 r.Limits.length c2, .int .i64 0, .bool false] 134)
  replace hx := hx.trans ha2
  replace bM := bM.ext ha2
  replace bR := bR.ext ha2
  have cbM_87 := fun o => bM.cell o
  have cbR_88 := fun o => bR.cell o
  have fbR_88 := fun o => bR.frozen o
  replace hown2 := own_base (own_ext hown2 ha2) (show w.heap.size + 2 ≤ _ by omega)
  obtain ⟨BK, hBK⟩ : ∃ B, w2.heap.size = B := ⟨_, rfl⟩
  rw [hBK] at bK hfar
  have hBK2 : w.heap.size + 1 < BK := by omega
  go_wp2
  go_loopg [] (2 * k + 1) (fun gk wr => ∃ (p : List Half) (j : Nat) (st : Bool) (A : Option Addr) (c : Nat), j ≤ k ∧ regOk p = true ∧ gk = 2 * (k - j) + (if st = true then 0 else 1) ∧ (st = false → X = runF r (k - j) p j) ∧ (st = true → X = ⟨p, j, true, true⟩)
    ∧ Ext w wr ∧ Blk wr w.heap.size 36 #[.slice A0 r.Map.length c0, .int .i64 r.Div, .int .i64 r.Bx, .int .i64 r.By, .int .i64 r.Low, .int .i64 r.High, .slice A6 r.Noise.length c6, .slice A7 r.Limits.length c7] ∧ Blk wr (w.heap.size + 1) 134 #[.slice none 0 0, .int .i64 0, .bool false] ∧ Blk wr BK 134 #[.slice A p.length c, .int .i64 (j : Int), .bool st]
    ∧ (∀ g, Value.ownBlock (.slice A p.length c) = some g → g ≠ BK) ∧ wr.ownsRow (w.heap.size + 2) 116 3 (.slice A p.length c) p.length (ints (flat Half.ints p)))
  case atStart => exact ⟨r.Limits, 0, false, A2, c2, Nat.zero_le _, HLk.out, by simp, fun _ => HX.out, (fun h => by cases h), hx, bM, bR, bK, hfar, hown2⟩
  case round =>
  obtain ⟨p, j, st, A, c, hj, hpk, hgk, hgo, hst, hy, dM, dR, dK, hfr, hown⟩ := hrel
  have hsz := hy.size
  have hdl := dR.lt
  have hkl := dK.lt
  have hpl := regOk_len hpk
  have hmine := (Mine.of_own hown).none
  clear bM bR bK hfar hown2 hx HCp HLk
  cases st
  rotate_left
  · have H := Lib.hid (hst rfl)
    have cK := fun o => dK.cell o
    have cR := fun o => dR.cell o
    have fR := fun o => dR.frozen o
    clear hgo hst hgk
    by_cases hlt : (j : Int) < (k : Int)
    all_goals
      go_wp2
      have bF := ((dR.set_ 0 (.slice A p.length c)).set_ 1 (.int .i64 (j : Int))).set_ 2 (.bool true)
      have cF := fun o => bF.cell o
      clear cR fR cK
      refine bodyPost_ret (v := .tuple #[.agg #[.slice A p.length c, .int .i64 (j : Int), .bool true], .bool true]) (by simp [results, Tryz.results183, go_sem, cF]) rfl ?_
      rw [H.out]
      exact ⟨A, c, _, rfl, rfl, ext_set3 hy (by omega) _ _ _, own_base (own_set3 hown (by omega) _ _ _) (by omega)⟩
  have hgoF := hgo rfl
  clear hgo hst
  by_cases hjk : j = k
  · subst hjk
    have hlt : ¬ (j : Int) < (j : Int) := by omega
    have H : Hid (X = ⟨p, j, false, true⟩) := by
      rw [Hid, hgoF, Nat.sub_self]
      rfl
    have cK := fun o => dK.cell o
    have cR := fun o => dR.cell o
    have fR := fun o => dR.frozen o
    clear hgoF hgk
    go_wp2
    have bF := ((dR.set_ 0 (.slice A p.length c)).set_ 1 (.int .i64 (j : Int))).set_ 2 (.bool false)
    have cF := fun o => bF.cell o
    clear cR fR cK
    refine bodyPost_ret (v := .tuple #[.agg #[.slice A p.length c, .int .i64 (j : Int), .bool false], .bool true]) (by simp [results, Tryz.results183, go_sem, cF]) rfl ?_
    rw [H.out]
    exact ⟨A, c, _, rfl, rfl, ext_set3 hy (by omega) _ _ _, own_base (own_set3 hown (by omega) _ _ _) (by omega)⟩
  have hlt : (j : Int) < (k : Int) := by omega
  have hjk2 : j < k := by omega
  obtain ⟨f, hf⟩ : ∃ f, k - j = f + 1 := ⟨k - j - 1, by omega⟩
  rw [hf] at hgoF
  have HNo := Lib.hid (fun h => hgoF.trans (runF_no h))
  have HStop := Lib.hid (fun h h2 => hgoF.trans (runF_stop h h2))
  have HGo := Lib.hid (fun h h2 => hgoF.trans (runF_go h h2))
  have hf2 : k - (j + 1) = f := by omega
  have HKq := Lib.hid (HKok.out p hpk)
  have HNum := Lib.hid (And.intro hf (And.intro hf2 (And.intro hgk hjk2)))
  have HKp := Lib.hid (fun w ha hr => HKeep.out A p.length c p w ha rfl hr hmine hpk)
  clear hgoF hf hf2 hgk hjk hjk2
  obtain ⟨KR, hKR⟩ : ∃ x, keepR r p = x := ⟨_, rfl⟩
  rw [hKR] at HNo HStop HGo HKq HKp
  obtain ⟨q, ok⟩ := KR
  dsimp only at HNo HStop HGo HKq HKp
  clear hKR
  have wj : IntKind.i64.wrap ((j : Int) + 1) = ((j + 1 : Nat) : Int) := by
    have e : ((j + 1 : Nat) : Int) = (j : Int) + 1 := by omega
    rw [e]
    exact IntWalk.i64_in _ (by omega)
  have cK := fun o => dK.cell o
  have cM := fun o => dM.cell o
  go_wp2_with fail
  refine (HKp.out _ (HA.out.ext hy) (Row.of_own hown)).mono ?_
  rintro e w3 ⟨A3, c3, n3, rfl, hn3, hx3, hown3⟩
  dsimp only at hn3 hown3 ⊢
  subst hn3
  have bN := Blk.new w3 34 #[.slice A3 q.length c3]
  have hA3 := (Ext.refl w3).alloc (.cells #[.slice A3 q.length c3] 34)
  have dR3 := dR.ext hx3
  have hy3 := hy.trans hx3
  replace hy := hy3.trans hA3
  have h34 := hx3.trans hA3
  replace dM := dM.ext h34
  replace dR := dR.ext h34
  replace dK := dK.ext h34
  replace hown := own_ext hown h34
  have hfr3 : ∀ g, Value.ownBlock (.slice A3 q.length c3) = some g → g ≠ BK := fun g hg => by have := (hown3.lt g hg).1; omega
  replace hown3 := own_ext hown3 hA3
  clear cK cM
  have cK := fun o => dK.cell o
  have cN := fun o => bN.cell o
  have cR := fun o => dR.cell o
  have fR := fun o => dR.frozen o
  have hs3 := hx3.size
  cases ok
  · have H := Lib.hid (HNo.out rfl)
    go_wp2
    have bF := ((dR.set_ 0 (.slice none 0 0)).set_ 1 (.int .i64 0)).set_ 2 (.bool false)
    have cF := fun o => bF.cell o
    clear cR fR
    refine bodyPost_ret (v := .tuple #[.agg #[.slice none 0 0, .int .i64 0, .bool false], .bool false]) (by simp [results, Tryz.results183, go_sem, cF]) rfl ?_
    exact KeptMade.nil H.out rfl (ext_set3 hy (by omega) _ _ _)
  have hql := regOk_len HKq.out
  clear cR fR
  go_wp2_with fail
  refine (HSame.out A3 A q.length p.length c3 c q p _ rfl rfl (Row.of_own hown3) (Row.of_own hown) (by unfold maxLen; omega) (by unfold maxLen; omega)).mono ?_
  rintro e w5 ⟨rfl, hx5⟩
  replace hy := hy.trans hx5
  replace dM := dM.ext hx5
  replace dR := dR.ext hx5
  replace dK := dK.ext hx5
  replace bN := bN.ext hx5
  replace hown := own_ext hown hx5
  replace hown3 := own_ext hown3 hx5
  clear cK cN
  have cK := fun o => dK.cell o
  have fK := fun o => dK.frozen o
  have cN := fun o => bN.cell o
  have hwB : w.heap.size ≤ BK := by omega
  have hneM : w.heap.size ≠ BK := by omega
  have hneR : w.heap.size + 1 ≠ BK := by omega
  by_cases hs : q = p
  · have hb : decide (q = p) = true := decide_eq_true hs
    rw [hb]
    have H := Lib.hid (HStop.out (by first | rfl | trivial) hs)
    clear hb hs
    go_wp2
    go_roundg (2 * (k - j))
    case measure => obtain ⟨n1, n2, n3, n4⟩ := HNum.out; rw [n3]; simp
    case rel => exact ⟨p, j, true, A, c, hj, hpk, by simp, (fun h => by cases h), fun _ => H.out, hy.setCell (p := ⟨BK, 2, none⟩) hwB _, dM.far (p := ⟨BK, 2, none⟩) hneM _, dR.far (p := ⟨BK, 2, none⟩) hneR _, dK.set_ 2 (.bool true), hfr, own_set hown (p := ⟨BK, 2, none⟩) hfr _⟩
  have hb : decide (q = p) = false := decide_eq_false hs
  rw [hb]
  have H := Lib.hid (HGo.out (by first | rfl | trivial) hs)
  clear hb hs
  have hnb : w3.heap.size ≠ BK := by omega
  have bN2 := bN.far (p := ⟨BK, 0, none⟩) hnb (.slice A3 q.length c3)
  have dK2 := dK.set_ 0 (.slice A3 q.length c3)
  have cN2 := fun o => bN2.cell o
  have cK2 := fun o => dK2.cell o
  have fK2 := fun o => dK2.frozen o
  go_wp2
  go_roundg (2 * (k - (j + 1)) + 1)
  case measure => obtain ⟨n1, n2, n3, n4⟩ := HNum.out; rw [n3]; simp; omega
  case rel => exact ⟨q, j + 1, false, A3, c3, by omega, HKq.out, by simp, (fun _ => by obtain ⟨n1, n2, n3, n4⟩ := HNum.out; rw [n2]; exact H.out), (fun h => by cases h), (hy.setCell (p := ⟨BK, 0, none⟩) hwB _).setCell (p := ⟨BK, 1, none⟩) hwB _, (dM.far (p := ⟨BK, 0, none⟩) hneM _).far (p := ⟨BK, 1, none⟩) hneM _, (dR.far (p := ⟨BK, 0, none⟩) hneR _).far (p := ⟨BK, 1, none⟩) hneR _, (dK.set_ 0 (.slice A3 q.length c3)).set_ 1 (.int .i64 ((j + 1 : Nat) : Int)), hfr3, own_base (own_set (own_set hown3 (p := ⟨BK, 0, none⟩) hfr3 _) (p := ⟨BK, 1, none⟩) hfr3 _) (by omega)⟩
end Go.Proofs.YtfnmbpjkjajpcaaGreatDoor
namespace Go.Proofs.YtfnmbpjkjajpcaaGreatDoor
open Go.ChangeShapes Go.WideShapes Go.ChangeAt Go.RowKit
set_option linter.unusedVariables false
set_option maxRecDepth 100000
def roundsT (n : Nat) : List UInt8 := [114, 111, 117, 110, 100, 115, 32] ++ numT (n : Int)
def wordT (b : Bool) : List UInt8 := if b = true then [115, 116, 111, 112, 112, 101, 100] else [111, 112, 101, 110]
def keptT (r : Room) : List (List UInt8) := if (runR r 12).ok = true then [roundsT (runR r 12).n, wordT (runR r 12).stop, cornerT (runR r 12).reg] else []
theorem keptT_len (r : Room) : (keptT r).length ≤ 1048576 := by
  unfold keptT
  split
  · simp
  · simp
set_option maxHeartbeats 16000000 in
theorem implKeptLines_any (r : Room) (A0 A6 A7 : Option Addr) (c0 c6 c7 : Nat) (w : World) (ha : RoomHere w r A0 A6 A7 c0 c6 c7) (hFI : roomFI r) (hRL : RoomL r) (ht : Tab w) :
    Calls Tryz.prog 120 #[.agg #[.slice A0 r.Map.length c0, .int .i64 r.Div, .int .i64 r.Bx, .int .i64 r.By, .int .i64 r.Low, .int .i64 r.High, .slice A6 r.Noise.length c6, .slice A7 r.Limits.length c7]] w fun e w' => StrsMade (keptT r) w e w' := by
  have hx : Ext w (w.alloc (.cells #[.slice A0 r.Map.length c0, .int .i64 r.Div, .int .i64 r.Bx, .int .i64 r.By, .int .i64 r.Low, .int .i64 r.High, .slice A6 r.Noise.length c6, .slice A7 r.Limits.length c7] 36)) := (Ext.refl w).alloc _
  have bM := Blk.new w 36 #[.slice A0 r.Map.length c0, .int .i64 r.Div, .int .i64 r.Bx, .int .i64 r.By, .int .i64 r.Low, .int .i64 r.High, .slice A6 r.Noise.length c6, .slice A7 r.Limits.length c7]
  have HRu := Lib.hid (fun w ha => implRunRounds_any r A0 A6 A7 c0 c6 c7 12 w (by omega) ha hFI hRL)
  have HA := Lib.hid ha
  have HNo : Hid ((runR r 12).ok = false → keptT r = []) := fun h => by unfold keptT; rw [h]; rfl
  have HYes : Hid ((runR r 12).ok = true → keptT r = [roundsT (runR r 12).n, wordT (runR r 12).stop, cornerT (runR r 12).reg]) := fun h => if_pos h
  have HK : Hid (regOk (runR r 12).reg = true) := runR_ok r 12
  have HN : Hid ((runR r 12).n ≤ 12) := runR_n r 12
  have HT := Lib.hid ht
  clear ht
  generalize keptT r = KT at *
  generalize runR r 12 = X at *
  clear ha hFI hRL
  have cM := fun o => bM.cell o
  go_enter Tryz.func120, Tryz.ntmps120
  go_wp2_with fail
  refine (HRu.out _ (HA.out.ext hx)).mono ?_
  rintro e w1 ⟨A1, c1, n1, rfl, hn1, hx1, hown1⟩
  subst hn1
  obtain ⟨p, j, st, ok⟩ := X
  dsimp only at *
  have bK := Blk.new w1 134 #[.slice A1 p.length c1, .int .i64 (j : Int), .bool st]
  have hA1 := (Ext.refl w1).alloc (.cells #[.slice A1 p.length c1, .int .i64 (j : Int), .bool st] 134)
  replace hx := (hx.trans hx1).trans hA1
  replace hown1 := own_ext hown1 hA1
  have cK := fun o => bK.cell o
  clear cM bM
  cases ok
  · have H := Lib.hid (HNo.out rfl)
    go_wp2
    go_ret
    exact StrsMade.none H.out rfl hx
  have H := Lib.hid (HYes.out rfl)
  have hle := regOk_len HK.out
  have hjn := HN.out
  have hmine := (Mine.of_own hown1).none
  have HRow := Lib.hid (Row.of_own hown1)
  have hs1 := hx.size
  have HCl := Lib.hid (fun w hr ht => implCornerLine_any A1 p.length c1 p w rfl hr (halves_I (regOk_all HK.out)) (by unfold maxLen; omega) ht)
  have HFi := Lib.hid (fun w ht => implFormatInt_any (j : Int) w (by unfold I64; omega) ht)
  have hsz := sz1 (n := (j : Int)) (by unfold I64; omega)
  obtain ⟨tn, htn⟩ : ∃ t, txt (numT (j : Int)) = t := ⟨_, rfl⟩
  rw [htn] at HFi hsz
  obtain ⟨t1, ht1⟩ : ∃ t, (⟨#[114, 111, 117, 110, 100, 115, 32]⟩ : ByteArray) ++ tn = t := ⟨_, rfl⟩
  have a1 := add_txt (a := ⟨#[114, 111, 117, 110, 100, 115, 32]⟩) (b := tn) (c := t1) ht1 (by have : (⟨#[114, 111, 117, 110, 100, 115, 32]⟩ : ByteArray).size = 7 := rfl; omega)
  have HT1 : Hid (txt (roundsT j) = t1) := by rw [Hid, roundsT, ← txt_append, htn, ← ht1]; rfl
  obtain ⟨t3, ht3⟩ : ∃ t, txt (cornerT p) = t := ⟨_, rfl⟩
  rw [ht3] at HCl
  have HT3 := Lib.hid ht3
  have HWd : Hid (∀ b, txt (wordT b) = if b = true then ⟨#[115, 116, 111, 112, 112, 101, 100]⟩ else ⟨#[111, 112, 101, 110]⟩) := fun b => by cases b <;> rfl
  clear htn ht1 ht3 hmine hown1 HNo HYes
  cases st
  all_goals
    go_wp2_with fail
    generalize (w1.alloc (.cells #[.slice A1 p.length c1, .int .i64 (j : Int), .bool _] 134)) = W at *
    generalize w1.heap.size = BK at *
    have hcur := Ext.refl W
    go_region_held3 (fun w' => w'.cell? ⟨BK, 0, none⟩ = some (.slice A1 p.length c1) ∧ w'.cell? ⟨BK, 1, none⟩ = some (.int .i64 (j : Int)))
      (go_keep)
      (first
        | (go_at_call 8; (with_reducible refine (HFi.out _ (HT.out.ext (hx.trans (by first | exact hcur | exact hcur.drew)))).mono ?_); rintro e w9 ⟨rfl, hx9⟩; replace hcur := Ext.trans (by first | exact hcur | exact hcur.drew) hx9; have d1 := fun o => (bK.ext hcur).cell o; have l1 := (bK.ext hcur).lt)
        | (go_at_call 184; (with_reducible refine (HCl.out _ (HRow.out.ext (by first | exact hcur | exact hcur.drew)) (HT.out.ext (hx.trans (by first | exact hcur | exact hcur.drew)))).mono ?_); rintro e w9 ⟨rfl, hx9⟩; replace hcur := Ext.trans (by first | exact hcur | exact hcur.drew) hx9; have d1 := fun o => (bK.ext hcur).cell o; have l1 := (bK.ext hcur).lt))
    have hEf := hx.trans hcur
    have hsf := hEf.size
    clear cK d1 l1
    go_wp2
    go_ret
    rw [H.out]
    refine StrsMade.mk (n := 3) rfl rfl (hEf.alloc _) ?_
    rw [show ∀ b, strs [roundsT j, wordT b, cornerT p] = [.string (txt (roundsT j)), .string (txt (wordT b)), .string (txt (cornerT p))] from fun _ => rfl, HT1.out, HT3.out]
    exact World.ownsRow_lit (base := w.heap.size) (e := 9) (size := 1) w9 _ 3 hsf (by unfold maxLen; omega) rfl
end Go.Proofs.YtfnmbpjkjajpcaaGreatDoor
