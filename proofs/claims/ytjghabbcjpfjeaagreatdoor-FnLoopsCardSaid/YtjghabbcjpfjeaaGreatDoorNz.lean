/- Contracts of l07Grown and GrowAlong of the reference, for valid regions. -/
import Derived.Test.YtjghabbcjpfjeaaGreatDoorLz
import Derived.Test.YtjghabbcjpfjeaaGreatDoorSz
import Derived.Deep.AppendLies
import Derived.Test.YtjghabbcjpfjeaaGreatDoorRz
import Derived.Deep.LoopGhost
import Derived.Test.YtjghabbcjpfjeaaGreatDoorCl
import Derived.Test.YtjghabbcjpfjeaaGreatDoorTz
import Derived.Deep.RegionHeld3
namespace Go.Proofs.YtjghabbcjpfjeaaGreatDoor
open Go.ChangeShapes Go.WideShapes Go.ChangeAt Go.RowKit
set_option linter.unusedVariables false
set_option maxRecDepth 100000

def dirsL (bx by_ : Int) : List Half := [⟨dirA bx by_, dirB bx by_, 0⟩, ⟨-dirA bx by_, -dirB bx by_, 0⟩]
def sideD (hs : List Half) (d : Half) : Half × Bool := sideH hs d.A d.B
/-- the half planes of a grown region, in the reference's order -/
def grownL (hs : List Half) (bx by_ low high : Int) : List Half × Bool :=
  if hs.all (fun h => (growH bx by_ low high h).2) = true ∧ (dirsL bx by_).all (fun d => (sideD hs d).2) = true then ((hs.map fun h => (growH bx by_ low high h).1) ++ (dirsL bx by_).map fun d => (sideD hs d).1, true) else ([], false)
theorem grown_no1 {hs : List Half} {bx by_ low high : Int} {k : Nat} (hk : k < hs.length) (h : (growH bx by_ low high hs[k]).2 = false) : grownL hs bx by_ low high = ([], false) := by
  unfold grownL
  rw [if_neg]
  rintro ⟨h1, _⟩
  have := List.all_eq_true.1 h1 _ (List.getElem_mem hk)
  rw [h] at this; cases this
theorem grown_no2 {hs : List Half} {bx by_ low high : Int} {k : Nat} (hk : k < (dirsL bx by_).length) (h : (sideD hs (dirsL bx by_)[k]).2 = false) : grownL hs bx by_ low high = ([], false) := by
  unfold grownL
  rw [if_neg]
  rintro ⟨_, h1⟩
  have := List.all_eq_true.1 h1 _ (List.getElem_mem hk)
  rw [h] at this; cases this
theorem grown_yes {hs : List Half} {bx by_ low high : Int} (h1 : ∀ k (hk : k < hs.length), (growH bx by_ low high hs[k]).2 = true) (h2 : ∀ k (hk : k < (dirsL bx by_).length), (sideD hs (dirsL bx by_)[k]).2 = true) :
    grownL hs bx by_ low high = (movedTo (growH bx by_ low high) hs hs.length ++ movedTo (sideD hs) (dirsL bx by_) (dirsL bx by_).length, true) := by
  unfold grownL
  rw [if_pos, movedTo_all, movedTo_all]
  refine ⟨grow_all h1, List.all_eq_true.2 fun x hx => ?_⟩
  obtain ⟨i, hi, rfl⟩ := List.getElem_of_mem hx
  exact h2 i hi
theorem grown_all {hs : List Half} {bx by_ low high : Int} : (grownL hs bx by_ low high).1.all halfOk = true := by
  unfold grownL
  split
  · rename_i h
    refine List.all_eq_true.2 fun x hx => ?_
    rcases List.mem_append.1 hx with hx | hx
    · obtain ⟨y, hy, rfl⟩ := List.mem_map.1 hx
      exact halfOfZ_ok (List.all_eq_true.1 h.1 y hy)
    · obtain ⟨y, hy, rfl⟩ := List.mem_map.1 hx
      exact halfOfZ_ok (List.all_eq_true.1 h.2 y hy)
  · rfl
theorem grown_len {hs : List Half} {bx by_ low high : Int} : (grownL hs bx by_ low high).1.length ≤ hs.length + 2 := by
  unfold grownL
  split
  · rw [List.length_append, List.length_map, List.length_map]; exact Nat.le_refl _
  · exact Nat.zero_le _
theorem grow_grown {hs : List Half} {bx by_ low high : Int} (hp : hs ≠ []) (hz : ¬ (bx = 0 ∧ by_ = 0)) : growR hs bx by_ low high = if (grownL hs bx by_ low high).2 = true then fitR (madeOf (grownL hs bx by_ low high).1) else ([], false) := by
  by_cases h : hs.all (fun h => (growH bx by_ low high h).2) = true ∧ (dirsL bx by_).all (fun d => (sideD hs d).2) = true
  · have e : grownL hs bx by_ low high = ((hs.map fun h => (growH bx by_ low high h).1) ++ (dirsL bx by_).map fun d => (sideD hs d).1, true) := by unfold grownL; rw [if_pos h]
    rw [e, if_pos rfl]
    have h2 := h.2
    simp only [dirsL, List.all_cons, List.all_nil, Bool.and_true, Bool.and_eq_true] at h2
    exact grow_yes2 hp hz h2.1 h2.2 (fun k hk => List.all_eq_true.1 h.1 _ (List.getElem_mem hk))
  · have e : grownL hs bx by_ low high = ([], false) := by unfold grownL; rw [if_neg h]
    rw [e, if_neg (by simp)]
    unfold growR
    rw [if_neg (fun e => e.elim hp hz), if_neg]
    rintro ⟨h1, h2, h3⟩
    refine h ⟨h3, ?_⟩
    simp only [dirsL, List.all_cons, List.all_nil, Bool.and_true, Bool.and_eq_true]
    exact ⟨h1, h2⟩
/-- half planes were made, and a bool -/
def ListMade (r : List Half × Bool) (w : World) (e : Ending) (w' : World) : Prop :=
  ∃ A c n, e = .returned (.tuple #[.slice A n c, .bool r.2]) ∧ n = r.1.length ∧ Ext w w' ∧ w'.ownsRow w.heap.size 120 3 (.slice A n c) n (ints (flat Half.ints r.1))
theorem ListMade.nil {r : List Half × Bool} {w w' : World} {e : Ending} (b : Bool) (hr : r = ([], b)) (he : e = .returned (.tuple #[.slice none 0 0, .bool b])) (hx : Ext w w') : ListMade r w e w' := by
  subst hr
  exact ⟨none, 0, 0, he, rfl, hx, World.ownsRow_nil _ _ _ _⟩
theorem gcdI_small {bx by_ : Int} (hx : -100 ≤ bx ∧ bx ≤ 100) (hy : -100 ≤ by_ ∧ by_ ≤ 100) : gcdI bx by_ = (Int.gcd bx by_ : Int) := by
  unfold gcdI
  rw [if_neg]
  rintro (h | h) <;> (unfold isLeastI at h; simp at h; omega)
def alongR (hs : List Half) (bx by_ low high : Int) : List Half × Bool := if 38 < hs.length then ([], false) else growR hs bx by_ low high
theorem inR_yes {n lo hi : Int} (h : lo ≤ n ∧ n ≤ hi) : inR n lo hi = true := by
  unfold inR
  rw [decide_eq_true h.1, decide_eq_true h.2]
  rfl
theorem l01In_yes {n lo hi : Int} (h : lo ≤ n ∧ n ≤ hi) (w : World) : Calls Tryz.prog 97 #[.int .i64 n, .int .i64 lo, .int .i64 hi] w fun e w' => e = .returned (.bool true) ∧ w' = w :=
  l01In_is (inR_yes h) w
end Go.Proofs.YtjghabbcjpfjeaaGreatDoor
/- Contract of PullBack of the reference, for valid regions and maps. (written by tools/mkPb.py) -/
namespace Go.Proofs.YtjghabbcjpfjeaaGreatDoor
open Go.ChangeShapes Go.WideShapes Go.ChangeAt Go.RowKit
set_option linter.unusedVariables false
set_option maxRecDepth 100000

theorem own_set {w : World} {base : Nat} {e : TypeId} {s n : Nat} {v : Value} {xs : List Value} (h : w.ownsRow base e s v n xs) {p : Addr} (hp : ∀ g, v.ownBlock = some g → g ≠ p.block) (u : Value) : (w.setCell p u).ownsRow base e s v n xs := by
  refine World.ownsRow.kept h (row := some p.block) ⟨rfl, rfl, rfl, by simp [World.setCell], fun k _ hk => heap_setCell_other w p k u (fun e => hk (by rw [e]))⟩ ?_
  exact .inr (fun e => hp _ e rfl)
theorem isMap_of {r : Dyn} (h : DynOk r) : isMapB [r.a, r.b, r.c, r.d] r.q = true := by
  unfold isMapB
  rw [inR_yes h.q, decide_eq_true (by rfl)]
  simp only [List.all_cons, List.all_nil, Bool.and_true, Bool.true_and]
  rw [inR_yes h.a, inR_yes h.b, inR_yes h.c, inR_yes h.d]
  rfl
end Go.Proofs.YtjghabbcjpfjeaaGreatDoor
/- Contracts of pre and keep of the program. (written by tools/mkKp.py) -/
namespace Go.Proofs.YtjghabbcjpfjeaaGreatDoor
open Go.ChangeShapes Go.WideShapes Go.ChangeAt Go.RowKit
set_option linter.unusedVariables false
set_option maxRecDepth 100000

set_option maxHeartbeats 8000000 in
theorem implPre_ok (r : Room) (A0 A6 A7 : Option Addr) (c0 c6 c7 : Nat) (A : Option Addr) (n c : Nat) (ps : List Half) (w : World) (hv : RoomV r) (ha : RoomHere w r A0 A6 A7 c0 c6 c7) (hn : ps.length = n) (hr : Row w A (ints (flat Half.ints ps))) (hA : A = none → n = 0 ∧ c = 0) (hpk : regOk ps = true) :
    Calls Tryz.prog 117 #[.agg #[.slice A0 r.Map.length c0, .int .i64 r.Div, .int .i64 r.Bx, .int .i64 r.By, .int .i64 r.Low, .int .i64 r.High, .slice A6 r.Noise.length c6, .slice A7 r.Limits.length c7], .agg #[.slice A n c]] w (RegMade (preR r ps) w) := by
  obtain ⟨hD, hM⟩ := hv.dyn
  have d1 : -1000 ≤ r.Low := hD.low
  have d2 : r.Low ≤ r.High := hD.mid
  have d3 : r.High ≤ 1000 := hD.high
  have hle : n ≤ 40 := by have := regOk_len hpk; omega
  have hEk : Hid (regOk (erodeR ps r.Noise).1 = true) := erodeR_ok _ _
  have hGk : Hid (∀ E, regOk E = true → regOk (growR E r.Bx r.By r.Low r.High).1 = true) := fun E h => growR_ok h _ _ _ _
  have HE := Lib.hid (fun w hr hr' => implErode_any A n c ps A6 r.Noise.length c6 r.Noise w hn hr (regOk_all hpk) (by omega) rfl hv.noise hv.noiseN hr')
  have HG := Lib.hid (fun A n c E w hn hk hA hr => implGrow_any A n c r.Bx r.By r.Low r.High E w hn hk hA hD.bx hD.by_ ⟨d1, by omega⟩ ⟨by omega, d3⟩ hr)
  have HP := Lib.hid (fun A n c G w hn hp hk hle hm => implPull_any (dynOf r) A n c G A0 c0 w hD hn hp hk hle hm)
  have hq : (dynOf r).q = r.Div := rfl
  have hl4 : r.Map.length = 4 := by rw [hM]; rfl
  have HMr : Hid (∀ V, Ext w V → Row V A0 (ints [(dynOf r).a, (dynOf r).b, (dynOf r).c, (dynOf r).d])) := fun V hV => by
    have := (ha.ext hV).at_.m
    rwa [hM] at this
  have HNo := Lib.hid (fun h => preR_no (r := r) (p := ps) h)
  have HNo2 := Lib.hid (fun h => preR_no2 (r := r) (p := ps) h)
  have HYes := Lib.hid (fun h1 h2 h3 => preR_yes (r := r) (p := ps) h1 h2 h3)
  have hx : Ext w (((w.alloc (.cells #[.slice A0 r.Map.length c0, .int .i64 r.Div, .int .i64 r.Bx, .int .i64 r.By, .int .i64 r.Low, .int .i64 r.High, .slice A6 r.Noise.length c6, .slice A7 r.Limits.length c7] 28)).alloc (.cells #[.slice A n c] 26)).alloc (.cells #[.slice none 0 0] 26)) := (((Ext.refl w).alloc _).alloc _).alloc _
  have bM := ((Blk.new w 28 #[.slice A0 r.Map.length c0, .int .i64 r.Div, .int .i64 r.Bx, .int .i64 r.By, .int .i64 r.Low, .int .i64 r.High, .slice A6 r.Noise.length c6, .slice A7 r.Limits.length c7]).alloc (.cells #[.slice A n c] 26)).alloc (.cells #[.slice none 0 0] 26)
  have bP := (Blk.new (w.alloc (.cells #[.slice A0 r.Map.length c0, .int .i64 r.Div, .int .i64 r.Bx, .int .i64 r.By, .int .i64 r.Low, .int .i64 r.High, .slice A6 r.Noise.length c6, .slice A7 r.Limits.length c7] 28)) 26 #[.slice A n c]).alloc (.cells #[.slice none 0 0] 26)
  have bR := Blk.new ((w.alloc (.cells #[.slice A0 r.Map.length c0, .int .i64 r.Div, .int .i64 r.Bx, .int .i64 r.By, .int .i64 r.Low, .int .i64 r.High, .slice A6 r.Noise.length c6, .slice A7 r.Limits.length c7] 28)).alloc (.cells #[.slice A n c] 26)) 26 #[.slice none 0 0]
  simp only [World.size_alloc] at bP bR
  have HR := Lib.hid hr
  have HA := Lib.hid ha
  rw [hq] at HP
  rw [hl4] at bM hx bP bR ⊢
  clear hv ha hn hr hpk hD hM hA d1 d2 d3
  generalize preR r ps = PR at *
  generalize erodeR ps r.Noise = ER at *
  have cbM_11 := fun o => bM.cell o
  have cbP_12 := fun o => bP.cell o
  have cbR_13 := fun o => bR.cell o
  have fbR_13 := fun o => bR.frozen o
  go_enter Tryz.func117, Tryz.ntmps117
  go_wp2_with fail
  refine (HE.out _ (HR.out.ext hx) ((HA.out.ext hx).at_.p)).mono ?_
  rintro e w1 ⟨A1, c1, n1, rfl, hn1, hx1, hown1⟩
  have hs1 := bR.lt
  replace hx := hx.trans hx1
  replace bM := bM.ext hx1
  replace bP := bP.ext hx1
  replace bR := bR.ext hx1
  have cbM_14 := fun o => bM.cell o
  have cbP_15 := fun o => bP.cell o
  have cbR_16 := fun o => bR.cell o
  have fbR_16 := fun o => bR.frozen o
  have hs1b := bR.lt
  obtain ⟨E, ok⟩ := ER
  dsimp only at *
  subst hn1
  have bE := Blk.new w1 26 #[.slice A1 E.length c1]
  have bR0 := bR
  have hx0 := hx
  have ha1 := (Ext.refl w1).alloc (.cells #[.slice A1 E.length c1] 26)
  replace hx := hx.trans ha1
  replace bM := bM.ext ha1
  replace bP := bP.ext ha1
  replace bR := bR.ext ha1
  have cbM_17 := fun o => bM.cell o
  have cbP_18 := fun o => bP.cell o
  have cbR_19 := fun o => bR.cell o
  have fbR_19 := fun o => bR.frozen o
  replace hown1 := own_ext hown1 ha1
  have cE := fun o => bE.cell o
  cases ok
  · have H := Lib.hid (HNo.out (.inl rfl))
    go_wp2
    have bF := (bR0.set_ 0 (.slice none 0 0)).alloc (.cells #[.slice A1 E.length c1] 26)
    have cF := fun o => bF.cell o
    refine bodyPost_ret (v := .tuple #[.agg #[.slice none 0 0], .bool false]) (by simp [results, Tryz.results117, go_sem, cF]) rfl ?_
    exact RegMade.nil false H.out rfl ((hx0.setCell (by simp only; omega) _).alloc _)
  by_cases h38 : 38 < E.length
  · have hb : (38 : Int) < (E.length : Int) := by omega
    have hb2 : decide ((38 : Int) < (E.length : Int)) = true := decide_eq_true hb
    have H := Lib.hid (HNo.out (.inr h38))
    clear h38
    go_wp2
    have bF := (bR0.set_ 0 (.slice none 0 0)).alloc (.cells #[.slice A1 E.length c1] 26)
    have cF := fun o => bF.cell o
    refine bodyPost_ret (v := .tuple #[.agg #[.slice none 0 0], .bool false]) (by simp [results, Tryz.results117, go_sem, cF]) rfl ?_
    exact RegMade.nil false H.out rfl ((hx0.setCell (by simp only; omega) _).alloc _)
  have hb : ¬ (38 : Int) < (E.length : Int) := by omega
  have hb2 : decide ((38 : Int) < (E.length : Int)) = false := decide_eq_false hb
  have h38' : E.length ≤ 38 := by omega
  have HY := Lib.hid (fun h3 => HYes.out rfl h38' h3)
  have hGk' := Lib.hid (hGk.out E hEk.out)
  have hmine := (Mine.of_own hown1).none
  clear HNo HYes h38
  go_wp2_with fail
  refine (HG.out A1 E.length c1 E _ rfl hEk.out hmine (Row.of_own hown1)).mono ?_
  rintro e w2 ⟨A2, c2, n2, rfl, hn2, hx2, hown2⟩
  replace hx := hx.trans hx2
  replace bM := bM.ext hx2
  replace bP := bP.ext hx2
  replace bR := bR.ext hx2
  replace bE := bE.ext hx2
  have cbM_20 := fun o => bM.cell o
  have cbP_21 := fun o => bP.cell o
  have cbR_22 := fun o => bR.cell o
  have fbR_22 := fun o => bR.frozen o
  have cbE_23 := fun o => bE.cell o
  have hs2 := bR.lt
  generalize growR E r.Bx r.By r.Low r.High = GR at *
  obtain ⟨G, ok⟩ := GR
  dsimp only at *
  subst hn2
  have bG := Blk.new w2 26 #[.slice A2 G.length c2]
  replace bR0 := bR
  replace hx0 := hx
  have ha2 := (Ext.refl w2).alloc (.cells #[.slice A2 G.length c2] 26)
  replace hx := hx.trans ha2
  replace bM := bM.ext ha2
  replace bP := bP.ext ha2
  replace bR := bR.ext ha2
  replace bE := bE.ext ha2
  have cbM_24 := fun o => bM.cell o
  have cbP_25 := fun o => bP.cell o
  have cbR_26 := fun o => bR.cell o
  have fbR_26 := fun o => bR.frozen o
  have cbE_27 := fun o => bE.cell o
  replace hown2 := own_ext hown2 ha2
  have cG := fun o => bG.cell o
  clear hown1 hmine
  cases ok
  · have H := Lib.hid (HNo2.out rfl)
    go_wp2
    have bF := (bR0.set_ 0 (.slice none 0 0)).alloc (.cells #[.slice A2 G.length c2] 26)
    have cF := fun o => bF.cell o
    refine bodyPost_ret (v := .tuple #[.agg #[.slice none 0 0], .bool false]) (by simp [results, Tryz.results117, go_sem, cF]) rfl ?_
    exact RegMade.nil false H.out rfl ((hx0.setCell (by simp only; omega) _).alloc _)
  have H := Lib.hid (HY.out rfl)
  have hGl := regOk_len hGk'.out
  clear HNo2 HY
  go_wp2_with fail
  refine (HP.out A2 G.length c2 G _ rfl (Row.of_own hown2) (regOk_all hGk'.out) (by omega) (HMr.out _ hx)).mono ?_
  rintro e wX ⟨AX, cX, nX, rfl, hnX, hxX, hownX⟩
  rw [← H.out] at hnX hownX ⊢
  have hsX := bR.lt
  replace hx := hx.trans hxX
  replace bM := bM.ext hxX
  replace bP := bP.ext hxX
  replace bR := bR.ext hxX
  replace bE := bE.ext hxX
  replace bG := bG.ext hxX
  have cbM_28 := fun o => bM.cell o
  have cbP_29 := fun o => bP.cell o
  have cbR_30 := fun o => bR.cell o
  have fbR_30 := fun o => bR.frozen o
  have cbE_31 := fun o => bE.cell o
  have cbG_32 := fun o => bG.cell o
  subst hnX
  go_wp2
  have bF := bR.set_ 0 (.slice AX PR.1.length cX)
  have cF := fun o => bF.cell o
  refine bodyPost_ret (v := .tuple #[.agg #[.slice AX PR.1.length cX], .bool PR.2]) (by simp [results, Tryz.results117, go_sem, cF]) rfl ?_
  exact ⟨AX, cX, _, rfl, rfl, hx.setCell (by simp only; omega) _, own_base (own_far hownX (by simp only; omega) _) (by omega)⟩
set_option maxHeartbeats 8000000 in
theorem implKeep_ok (r : Room) (A0 A6 A7 : Option Addr) (c0 c6 c7 : Nat) (A : Option Addr) (n c : Nat) (ps : List Half) (w : World) (hv : RoomV r) (ha : RoomHere w r A0 A6 A7 c0 c6 c7) (hn : ps.length = n) (hr : Row w A (ints (flat Half.ints ps))) (hA : A = none → n = 0 ∧ c = 0) (hpk : regOk ps = true) :
    Calls Tryz.prog 92 #[.agg #[.slice A0 r.Map.length c0, .int .i64 r.Div, .int .i64 r.Bx, .int .i64 r.By, .int .i64 r.Low, .int .i64 r.High, .slice A6 r.Noise.length c6, .slice A7 r.Limits.length c7], .agg #[.slice A n c]] w (RegMade (keepR r ps) w) := by
  have HP := Lib.hid (fun w ha hr => implPre_ok r A0 A6 A7 c0 c6 c7 A n c ps w hv ha hn hr hA hpk)
  have HMt := Lib.hid (fun A' n' c' Q w hr hn' hr' hq => implMeetRegions_ok A n c ps A' n' c' Q w hn hr hpk hn' hr' hq)
  have hPk : Hid (regOk (preR r ps).1 = true) := preR_ok r ps
  have HNo := Lib.hid (fun h => keepR_no (r := r) (p := ps) h)
  have HYes := Lib.hid (fun h => keepR_yes (r := r) (p := ps) h)
  have hx : Ext w (((w.alloc (.cells #[.slice A0 r.Map.length c0, .int .i64 r.Div, .int .i64 r.Bx, .int .i64 r.By, .int .i64 r.Low, .int .i64 r.High, .slice A6 r.Noise.length c6, .slice A7 r.Limits.length c7] 28)).alloc (.cells #[.slice A n c] 26)).alloc (.cells #[.slice none 0 0] 26)) := (((Ext.refl w).alloc _).alloc _).alloc _
  have bM := ((Blk.new w 28 #[.slice A0 r.Map.length c0, .int .i64 r.Div, .int .i64 r.Bx, .int .i64 r.By, .int .i64 r.Low, .int .i64 r.High, .slice A6 r.Noise.length c6, .slice A7 r.Limits.length c7]).alloc (.cells #[.slice A n c] 26)).alloc (.cells #[.slice none 0 0] 26)
  have bP := (Blk.new (w.alloc (.cells #[.slice A0 r.Map.length c0, .int .i64 r.Div, .int .i64 r.Bx, .int .i64 r.By, .int .i64 r.Low, .int .i64 r.High, .slice A6 r.Noise.length c6, .slice A7 r.Limits.length c7] 28)) 26 #[.slice A n c]).alloc (.cells #[.slice none 0 0] 26)
  have bR := Blk.new ((w.alloc (.cells #[.slice A0 r.Map.length c0, .int .i64 r.Div, .int .i64 r.Bx, .int .i64 r.By, .int .i64 r.Low, .int .i64 r.High, .slice A6 r.Noise.length c6, .slice A7 r.Limits.length c7] 28)).alloc (.cells #[.slice A n c] 26)) 26 #[.slice none 0 0]
  simp only [World.size_alloc] at bP bR
  have HR := Lib.hid hr
  have HA := Lib.hid ha
  clear hv ha hn hr hpk hA
  generalize keepR r ps = KR at *
  generalize preR r ps = PR at *
  have cbM_33 := fun o => bM.cell o
  have cbP_34 := fun o => bP.cell o
  have cbR_35 := fun o => bR.cell o
  have fbR_35 := fun o => bR.frozen o
  go_enter Tryz.func92, Tryz.ntmps92
  go_wp2_with fail
  refine (HP.out _ (HA.out.ext hx) (HR.out.ext hx)).mono ?_
  rintro e w1 ⟨A1, c1, n1, rfl, hn1, hx1, hown1⟩
  replace hx := hx.trans hx1
  replace bM := bM.ext hx1
  replace bP := bP.ext hx1
  replace bR := bR.ext hx1
  have cbM_36 := fun o => bM.cell o
  have cbP_37 := fun o => bP.cell o
  have cbR_38 := fun o => bR.cell o
  have fbR_38 := fun o => bR.frozen o
  have hs1 := bR.lt
  obtain ⟨Q, ok⟩ := PR
  dsimp only at *
  subst hn1
  have bE := Blk.new w1 26 #[.slice A1 Q.length c1]
  have bR0 := bR
  have hx0 := hx
  have ha1 := (Ext.refl w1).alloc (.cells #[.slice A1 Q.length c1] 26)
  replace hx := hx.trans ha1
  replace bM := bM.ext ha1
  replace bP := bP.ext ha1
  replace bR := bR.ext ha1
  have cbM_39 := fun o => bM.cell o
  have cbP_40 := fun o => bP.cell o
  have cbR_41 := fun o => bR.cell o
  have fbR_41 := fun o => bR.frozen o
  replace hown1 := own_ext hown1 ha1
  have cE := fun o => bE.cell o
  cases ok
  · have H := Lib.hid (HNo.out rfl)
    go_wp2
    have bF := (bR0.set_ 0 (.slice none 0 0)).alloc (.cells #[.slice A1 Q.length c1] 26)
    have cF := fun o => bF.cell o
    refine bodyPost_ret (v := .tuple #[.agg #[.slice none 0 0], .bool false]) (by simp [results, Tryz.results92, go_sem, cF]) rfl ?_
    exact RegMade.nil false H.out rfl ((hx0.setCell (by simp only; omega) _).alloc _)
  have H := Lib.hid (HYes.out rfl)
  clear HNo HYes
  go_wp2_with fail
  refine (HMt.out A1 Q.length c1 Q _ (HR.out.ext hx) rfl (Row.of_own hown1) hPk.out).mono ?_
  rintro e wX ⟨AX, cX, nX, rfl, hnX, hxX, hownX⟩
  rw [← H.out] at hnX hownX ⊢
  have hsX := bR.lt
  replace hx := hx.trans hxX
  replace bM := bM.ext hxX
  replace bP := bP.ext hxX
  replace bR := bR.ext hxX
  replace bE := bE.ext hxX
  have cbM_42 := fun o => bM.cell o
  have cbP_43 := fun o => bP.cell o
  have cbR_44 := fun o => bR.cell o
  have fbR_44 := fun o => bR.frozen o
  have cbE_45 := fun o => bE.cell o
  subst hnX
  go_wp2
  have bF := bR.set_ 0 (.slice AX KR.1.length cX)
  have cF := fun o => bF.cell o
  refine bodyPost_ret (v := .tuple #[.agg #[.slice AX KR.1.length cX], .bool KR.2]) (by simp [results, Tryz.results92, go_sem, cF]) rfl ?_
  exact ⟨AX, cX, _, rfl, rfl, hx.setCell (by simp only; omega) _, own_base (own_far hownX (by simp only; omega) _) (by omega)⟩
end Go.Proofs.YtjghabbcjpfjeaaGreatDoor
/- Contracts of PreRegion and KeepRegion of the reference. (written by tools/mkKp.py) -/
namespace Go.Proofs.YtjghabbcjpfjeaaGreatDoor
open Go.ChangeShapes Go.WideShapes Go.ChangeAt Go.RowKit
set_option linter.unusedVariables false
set_option maxRecDepth 100000

theorem RoomV.det {r : Room} (h : RoomV r) : (dynOf r).a * (dynOf r).d - (dynOf r).b * (dynOf r).c ≠ 0 := by
  obtain ⟨a, b, c, d, hm, _, hd⟩ := h.map
  unfold dynOf
  rw [hm]
  exact hd
theorem preR_along_no {r : Room} {p : List Half} (h1 : (erodeR p r.Noise).2 = true) (h : (alongR (erodeR p r.Noise).1 r.Bx r.By r.Low r.High).2 = false) : preR r p = ([], false) := by
  unfold alongR at h
  split at h
  · rename_i h38
    exact preR_no (.inr h38)
  · exact preR_no2 h
theorem preR_along {r : Room} {p : List Half} (h1 : (erodeR p r.Noise).2 = true) (h : (alongR (erodeR p r.Noise).1 r.Bx r.By r.Low r.High).2 = true) :
    preR r p = pullR (alongR (erodeR p r.Noise).1 r.Bx r.By r.Low r.High).1 (dynOf r).a (dynOf r).b (dynOf r).c (dynOf r).d r.Div := by
  unfold alongR at h ⊢
  split at h
  · cases h
  · rename_i h38
    rw [if_neg h38]
    exact preR_yes h1 (by omega) h
theorem along_ok {E : List Half} (h : regOk E = true) (bx by_ low high : Int) : regOk (alongR E bx by_ low high).1 = true := by
  unfold alongR
  split
  · rfl
  · exact growR_ok h _ _ _ _
end Go.Proofs.YtjghabbcjpfjeaaGreatDoor
/- Contracts of RunRounds of both. (written by tools/mkRu.py) -/
namespace Go.Proofs.YtjghabbcjpfjeaaGreatDoor
open Go.ChangeShapes Go.WideShapes Go.ChangeAt Go.RowKit
set_option linter.unusedVariables false
set_option maxRecDepth 100000

/-- a kept region was made, and a bool -/
def KeptMade (x : KeptV) (w : World) (e : Ending) (w' : World) : Prop :=
  ∃ A c n, e = .returned (.tuple #[.agg #[.slice A n c, .int .i64 (x.n : Int), .bool x.stop], .bool x.ok]) ∧ n = x.reg.length ∧ Ext w w' ∧ w'.ownsRow w.heap.size 120 3 (.slice A n c) n (ints (flat Half.ints x.reg))
theorem KeptMade.nil {x : KeptV} {w w' : World} {e : Ending} (hr : x = ⟨[], 0, false, false⟩) (he : e = .returned (.tuple #[.agg #[.slice none 0 0, .int .i64 0, .bool false], .bool false])) (hx : Ext w w') : KeptMade x w e w' := by
  subst hr
  exact ⟨none, 0, 0, he, rfl, hx, World.ownsRow_nil _ _ _ _⟩
theorem ext_set3 {w V : World} {g : Nat} (h : Ext w V) (hg : w.heap.size ≤ g) (a b c : Value) : Ext w (((V.setCell ⟨g, 0, none⟩ a).setCell ⟨g, 1, none⟩ b).setCell ⟨g, 2, none⟩ c) :=
  ((h.setCell (p := ⟨g, 0, none⟩) hg _).setCell (p := ⟨g, 1, none⟩) hg _).setCell (p := ⟨g, 2, none⟩) hg _
theorem own_set3 {w : World} {base : Nat} {e : TypeId} {s n : Nat} {v : Value} {xs : List Value} (h : w.ownsRow base e s v n xs) {g : Nat} (hg : g < base) (a b c : Value) : (((w.setCell ⟨g, 0, none⟩ a).setCell ⟨g, 1, none⟩ b).setCell ⟨g, 2, none⟩ c).ownsRow base e s v n xs :=
  own_far (own_far (own_far h (p := ⟨g, 0, none⟩) hg a) (p := ⟨g, 1, none⟩) hg b) (p := ⟨g, 2, none⟩) hg c
theorem runR_bad {r : Room} (h : roomOk r = false) (k : Nat) : runR r k = ⟨[], 0, false, false⟩ := by unfold runR; rw [h]; rfl
theorem runR_good {r : Room} (h : roomOk r = true) (k : Nat) : runR r k = runF r k r.Limits 0 := by unfold runR; rw [if_pos h]
set_option maxHeartbeats 32000000 in
theorem implRunRounds_any (r : Room) (A0 A6 A7 : Option Addr) (c0 c6 c7 : Nat) (k : Nat) (w : World) (hk : k ≤ 12) (ha : RoomHere w r A0 A6 A7 c0 c6 c7) (hFI : roomFI r) (hRL : RoomL r) :
    Calls Tryz.prog 60 #[.agg #[.slice A0 r.Map.length c0, .int .i64 r.Div, .int .i64 r.Bx, .int .i64 r.By, .int .i64 r.Low, .int .i64 r.High, .slice A6 r.Noise.length c6, .slice A7 r.Limits.length c7], .int .i64 (k : Int)] w (KeptMade (runR r k) w) := by
  have hx : Ext w ((w.alloc (.cells #[.slice A0 r.Map.length c0, .int .i64 r.Div, .int .i64 r.Bx, .int .i64 r.By, .int .i64 r.Low, .int .i64 r.High, .slice A6 r.Noise.length c6, .slice A7 r.Limits.length c7] 28)).alloc (.cells #[.slice none 0 0, .int .i64 0, .bool false] 103)) := ((Ext.refl w).alloc _).alloc _
  have bM := (Blk.new w 28 #[.slice A0 r.Map.length c0, .int .i64 r.Div, .int .i64 r.Bx, .int .i64 r.By, .int .i64 r.Low, .int .i64 r.High, .slice A6 r.Noise.length c6, .slice A7 r.Limits.length c7]).alloc (.cells #[.slice none 0 0, .int .i64 0, .bool false] 103)
  have bR := Blk.new (w.alloc (.cells #[.slice A0 r.Map.length c0, .int .i64 r.Div, .int .i64 r.Bx, .int .i64 r.By, .int .i64 r.Low, .int .i64 r.High, .slice A6 r.Noise.length c6, .slice A7 r.Limits.length c7] 28)) 103 #[.slice none 0 0, .int .i64 0, .bool false]
  simp only [World.size_alloc] at bR
  have HRo := Lib.hid (fun w h => implRoomOk_any r A0 A6 A7 c0 c6 c7 w h hFI hRL)
  have HIn := Lib.hid (fun w => inRange_eq (n := (k : Int)) (lo := 0) (hi := 12) (inR_yes (by omega)) w)
  have HBad := Lib.hid (fun h => runR_bad (r := r) h k)
  have HGood := Lib.hid (fun h => runR_good (r := r) h k)
  have HV := Lib.hid (fun h => room_valid (r := r) h)
  have HA := Lib.hid ha
  obtain ⟨v, hv⟩ : ∃ v, roomOk r = v := ⟨_, rfl⟩
  rw [hv] at HRo HBad HGood HV
  generalize runR r k = X at *
  clear ha hFI hRL hv
  have cbM_81 := fun o => bM.cell o
  have cbR_82 := fun o => bR.cell o
  have fbR_82 := fun o => bR.frozen o
  go_enter Tryz.func60, Tryz.ntmps60
  go_wp2_with fail
  refine (HIn.out _).mono ?_
  rintro e w' ⟨rfl, rfl⟩
  go_wp2_with fail
  refine (HRo.out _ (HA.out.ext hx).at_).mono ?_
  rintro e w1 ⟨rfl, hx1⟩
  replace hx := hx.trans hx1
  replace bM := bM.ext hx1
  replace bR := bR.ext hx1
  have cbM_83 := fun o => bM.cell o
  have cbR_84 := fun o => bR.cell o
  have fbR_84 := fun o => bR.frozen o
  cases v
  · have H := Lib.hid (HBad.out rfl)
    go_wp2
    have bF := ((bR.set_ 0 (.slice none 0 0)).set_ 1 (.int .i64 0)).set_ 2 (.bool false)
    have cF := fun o => bF.cell o
    refine bodyPost_ret (v := .tuple #[.agg #[.slice none 0 0, .int .i64 0, .bool false], .bool false]) (by simp [results, Tryz.results60, go_sem, cF]) rfl ?_
    exact KeptMade.nil H.out rfl (ext_set3 hx (by omega) _ _ _)
  have hv := HV.out (by first | rfl | trivial)
  have HX := Lib.hid (HGood.out (by first | rfl | trivial))
  have hlim := HA.out.n7
  have HCp := Lib.hid (fun w hr => implCopyRegion_any A7 r.Limits.length c7 r.Limits w rfl hr hlim (by have := regOk_len hv.limits; omega))
  have HLk : Hid (regOk r.Limits = true) := hv.limits
  have HKeep := Lib.hid (fun A n c ps w ha hn hr hA hpk => implKeep_ok r A0 A6 A7 c0 c6 c7 A n c ps w hv ha hn hr hA hpk)
  have HKok := Lib.hid (fun p (h : regOk p = true) => keepR_ok (r := r) h)
  have HSame := Lib.hid (fun A B n m c d xs ys w hn hm hr hs hle hle' => implSameRegion_any A B n m c d xs ys w hn hm hr hs hle hle')
  clear HBad HGood HRo HIn HV hlim hv
  go_wp2_with fail
  refine (HCp.out _ ((HA.out.ext hx).at_.q)).mono ?_
  rintro e w2 ⟨A2, c2, n2, rfl, hn2, hx2, hown2⟩
  subst hn2
  have hs2 := bR.lt
  replace hx := hx.trans hx2
  replace bM := bM.ext hx2
  replace bR := bR.ext hx2
  have cbM_85 := fun o => bM.cell o
  have cbR_86 := fun o => bR.cell o
  have fbR_86 := fun o => bR.frozen o
  have hs2b := bR.lt
  have bK := Blk.new w2 103 #[.slice A2 r.Limits.length c2, .int .i64 0, .bool false]
  have hfar : ∀ g, Value.ownBlock (.slice A2 r.Limits.length c2) = some g → g ≠ w2.heap.size := fun q hq => by have := (hown2.lt q hq).2; omega
  have ha2 := (Ext.refl w2).alloc (.cells #[.slice A2 r.Limits.length c2, .int .i64 0, .bool false] 103)
  replace hx := hx.trans ha2
  replace bM := bM.ext ha2
  replace bR := bR.ext ha2
  have cbM_87 := fun o => bM.cell o
  have cbR_88 := fun o => bR.cell o
  have fbR_88 := fun o => bR.frozen o
  replace hown2 := own_base (own_ext hown2 ha2) (show w.heap.size + 2 ≤ _ by omega)
  obtain ⟨BK, hBK⟩ : ∃ B, w2.heap.size = B := ⟨_, rfl⟩
  rw [hBK] at bK hfar
  have hBK2 : w.heap.size + 1 < BK := by omega
  go_wp2
  go_loopg [] (2 * k + 1) (fun gk wr => ∃ (p : List Half) (j : Nat) (st : Bool) (A : Option Addr) (c : Nat), j ≤ k ∧ regOk p = true ∧ gk = 2 * (k - j) + (if st = true then 0 else 1) ∧ (st = false → X = runF r (k - j) p j) ∧ (st = true → X = ⟨p, j, true, true⟩)
    ∧ Ext w wr ∧ Blk wr w.heap.size 28 #[.slice A0 r.Map.length c0, .int .i64 r.Div, .int .i64 r.Bx, .int .i64 r.By, .int .i64 r.Low, .int .i64 r.High, .slice A6 r.Noise.length c6, .slice A7 r.Limits.length c7] ∧ Blk wr (w.heap.size + 1) 103 #[.slice none 0 0, .int .i64 0, .bool false] ∧ Blk wr BK 103 #[.slice A p.length c, .int .i64 (j : Int), .bool st]
    ∧ (∀ g, Value.ownBlock (.slice A p.length c) = some g → g ≠ BK) ∧ wr.ownsRow (w.heap.size + 2) 120 3 (.slice A p.length c) p.length (ints (flat Half.ints p)))
  case atStart => exact ⟨r.Limits, 0, false, A2, c2, Nat.zero_le _, HLk.out, by simp, fun _ => HX.out, (fun h => by cases h), hx, bM, bR, bK, hfar, hown2⟩
  case round =>
  obtain ⟨p, j, st, A, c, hj, hpk, hgk, hgo, hst, hy, dM, dR, dK, hfr, hown⟩ := hrel
  have hsz := hy.size
  have hdl := dR.lt
  have hkl := dK.lt
  have hpl := regOk_len hpk
  have hmine := (Mine.of_own hown).none
  clear bM bR bK hfar hown2 hx HCp HLk
  cases st
  rotate_left
  · have H := Lib.hid (hst rfl)
    have cK := fun o => dK.cell o
    have cR := fun o => dR.cell o
    have fR := fun o => dR.frozen o
    clear hgo hst hgk
    by_cases hlt : (j : Int) < (k : Int)
    all_goals
      go_wp2
      have bF := ((dR.set_ 0 (.slice A p.length c)).set_ 1 (.int .i64 (j : Int))).set_ 2 (.bool true)
      have cF := fun o => bF.cell o
      clear cR fR cK
      refine bodyPost_ret (v := .tuple #[.agg #[.slice A p.length c, .int .i64 (j : Int), .bool true], .bool true]) (by simp [results, Tryz.results60, go_sem, cF]) rfl ?_
      rw [H.out]
      exact ⟨A, c, _, rfl, rfl, ext_set3 hy (by omega) _ _ _, own_base (own_set3 hown (by omega) _ _ _) (by omega)⟩
  have hgoF := hgo rfl
  clear hgo hst
  by_cases hjk : j = k
  · subst hjk
    have hlt : ¬ (j : Int) < (j : Int) := by omega
    have H : Hid (X = ⟨p, j, false, true⟩) := by
      rw [Hid, hgoF, Nat.sub_self]
      rfl
    have cK := fun o => dK.cell o
    have cR := fun o => dR.cell o
    have fR := fun o => dR.frozen o
    clear hgoF hgk
    go_wp2
    have bF := ((dR.set_ 0 (.slice A p.length c)).set_ 1 (.int .i64 (j : Int))).set_ 2 (.bool false)
    have cF := fun o => bF.cell o
    clear cR fR cK
    refine bodyPost_ret (v := .tuple #[.agg #[.slice A p.length c, .int .i64 (j : Int), .bool false], .bool true]) (by simp [results, Tryz.results60, go_sem, cF]) rfl ?_
    rw [H.out]
    exact ⟨A, c, _, rfl, rfl, ext_set3 hy (by omega) _ _ _, own_base (own_set3 hown (by omega) _ _ _) (by omega)⟩
  have hlt : (j : Int) < (k : Int) := by omega
  have hjk2 : j < k := by omega
  obtain ⟨f, hf⟩ : ∃ f, k - j = f + 1 := ⟨k - j - 1, by omega⟩
  rw [hf] at hgoF
  have HNo := Lib.hid (fun h => hgoF.trans (runF_no h))
  have HStop := Lib.hid (fun h h2 => hgoF.trans (runF_stop h h2))
  have HGo := Lib.hid (fun h h2 => hgoF.trans (runF_go h h2))
  have hf2 : k - (j + 1) = f := by omega
  have HKq := Lib.hid (HKok.out p hpk)
  have HNum := Lib.hid (And.intro hf (And.intro hf2 (And.intro hgk hjk2)))
  have HKp := Lib.hid (fun w ha hr => HKeep.out A p.length c p w ha rfl hr hmine hpk)
  clear hgoF hf hf2 hgk hjk hjk2
  obtain ⟨KR, hKR⟩ : ∃ x, keepR r p = x := ⟨_, rfl⟩
  rw [hKR] at HNo HStop HGo HKq HKp
  obtain ⟨q, ok⟩ := KR
  dsimp only at HNo HStop HGo HKq HKp
  clear hKR
  have wj : IntKind.i64.wrap ((j : Int) + 1) = ((j + 1 : Nat) : Int) := by
    have e : ((j + 1 : Nat) : Int) = (j : Int) + 1 := by omega
    rw [e]
    exact IntWalk.i64_in _ (by omega)
  have cK := fun o => dK.cell o
  have cM := fun o => dM.cell o
  go_wp2_with fail
  refine (HKp.out _ (HA.out.ext hy) (Row.of_own hown)).mono ?_
  rintro e w3 ⟨A3, c3, n3, rfl, hn3, hx3, hown3⟩
  dsimp only at hn3 hown3 ⊢
  subst hn3
  have bN := Blk.new w3 26 #[.slice A3 q.length c3]
  have hA3 := (Ext.refl w3).alloc (.cells #[.slice A3 q.length c3] 26)
  have dR3 := dR.ext hx3
  have hy3 := hy.trans hx3
  replace hy := hy3.trans hA3
  have h34 := hx3.trans hA3
  replace dM := dM.ext h34
  replace dR := dR.ext h34
  replace dK := dK.ext h34
  replace hown := own_ext hown h34
  have hfr3 : ∀ g, Value.ownBlock (.slice A3 q.length c3) = some g → g ≠ BK := fun g hg => by have := (hown3.lt g hg).1; omega
  replace hown3 := own_ext hown3 hA3
  clear cK cM
  have cK := fun o => dK.cell o
  have cN := fun o => bN.cell o
  have cR := fun o => dR.cell o
  have fR := fun o => dR.frozen o
  have hs3 := hx3.size
  cases ok
  · have H := Lib.hid (HNo.out rfl)
    go_wp2
    have bF := ((dR.set_ 0 (.slice none 0 0)).set_ 1 (.int .i64 0)).set_ 2 (.bool false)
    have cF := fun o => bF.cell o
    clear cR fR
    refine bodyPost_ret (v := .tuple #[.agg #[.slice none 0 0, .int .i64 0, .bool false], .bool false]) (by simp [results, Tryz.results60, go_sem, cF]) rfl ?_
    exact KeptMade.nil H.out rfl (ext_set3 hy (by omega) _ _ _)
  have hql := regOk_len HKq.out
  clear cR fR
  go_wp2_with fail
  refine (HSame.out A3 A q.length p.length c3 c q p _ rfl rfl (Row.of_own hown3) (Row.of_own hown) (by unfold maxLen; omega) (by unfold maxLen; omega)).mono ?_
  rintro e w5 ⟨rfl, hx5⟩
  replace hy := hy.trans hx5
  replace dM := dM.ext hx5
  replace dR := dR.ext hx5
  replace dK := dK.ext hx5
  replace bN := bN.ext hx5
  replace hown := own_ext hown hx5
  replace hown3 := own_ext hown3 hx5
  clear cK cN
  have cK := fun o => dK.cell o
  have fK := fun o => dK.frozen o
  have cN := fun o => bN.cell o
  have hwB : w.heap.size ≤ BK := by omega
  have hneM : w.heap.size ≠ BK := by omega
  have hneR : w.heap.size + 1 ≠ BK := by omega
  by_cases hs : q = p
  · have hb : decide (q = p) = true := decide_eq_true hs
    rw [hb]
    have H := Lib.hid (HStop.out (by first | rfl | trivial) hs)
    clear hb hs
    go_wp2
    go_roundg (2 * (k - j))
    case measure => obtain ⟨n1, n2, n3, n4⟩ := HNum.out; rw [n3]; simp
    case rel => exact ⟨p, j, true, A, c, hj, hpk, by simp, (fun h => by cases h), fun _ => H.out, hy.setCell (p := ⟨BK, 2, none⟩) hwB _, dM.far (p := ⟨BK, 2, none⟩) hneM _, dR.far (p := ⟨BK, 2, none⟩) hneR _, dK.set_ 2 (.bool true), hfr, own_set hown (p := ⟨BK, 2, none⟩) hfr _⟩
  have hb : decide (q = p) = false := decide_eq_false hs
  rw [hb]
  have H := Lib.hid (HGo.out (by first | rfl | trivial) hs)
  clear hb hs
  have hnb : w3.heap.size ≠ BK := by omega
  have bN2 := bN.far (p := ⟨BK, 0, none⟩) hnb (.slice A3 q.length c3)
  have dK2 := dK.set_ 0 (.slice A3 q.length c3)
  have cN2 := fun o => bN2.cell o
  have cK2 := fun o => dK2.cell o
  have fK2 := fun o => dK2.frozen o
  go_wp2
  go_roundg (2 * (k - (j + 1)) + 1)
  case measure => obtain ⟨n1, n2, n3, n4⟩ := HNum.out; rw [n3]; simp; omega
  case rel => exact ⟨q, j + 1, false, A3, c3, by omega, HKq.out, by simp, (fun _ => by obtain ⟨n1, n2, n3, n4⟩ := HNum.out; rw [n2]; exact H.out), (fun h => by cases h), (hy.setCell (p := ⟨BK, 0, none⟩) hwB _).setCell (p := ⟨BK, 1, none⟩) hwB _, (dM.far (p := ⟨BK, 0, none⟩) hneM _).far (p := ⟨BK, 1, none⟩) hneM _, (dR.far (p := ⟨BK, 0, none⟩) hneR _).far (p := ⟨BK, 1, none⟩) hneR _, (dK.set_ 0 (.slice A3 q.length c3)).set_ 1 (.int .i64 ((j + 1 : Nat) : Int)), hfr3, own_base (own_set (own_set hown3 (p := ⟨BK, 0, none⟩) hfr3 _) (p := ⟨BK, 1, none⟩) hfr3 _) (by omega)⟩
end Go.Proofs.YtjghabbcjpfjeaaGreatDoor
/- Contracts of KeptLines of both. (written by tools/mkKl.py) -/
namespace Go.Proofs.YtjghabbcjpfjeaaGreatDoor
open Go.ChangeShapes Go.WideShapes Go.ChangeAt Go.RowKit
set_option linter.unusedVariables false
set_option maxRecDepth 100000

def roundsT (n : Nat) : List UInt8 := [114, 111, 117, 110, 100, 115, 32] ++ numT (n : Int)
def wordT (b : Bool) : List UInt8 := if b = true then [115, 116, 111, 112, 112, 101, 100] else [111, 112, 101, 110]
def keptT (r : Room) : List (List UInt8) := if (runR r 12).ok = true then [roundsT (runR r 12).n, wordT (runR r 12).stop, cornerT (runR r 12).reg] else []
theorem keptT_len (r : Room) : (keptT r).length ≤ 1048576 := by
  unfold keptT
  split
  · simp
  · simp
end Go.Proofs.YtjghabbcjpfjeaaGreatDoor
