/- Contracts of one step of the loop, of both. (written by tools/mkStp.py) -/
import Derived.Test.YtbbdipfioopfmaaGreatNx
import Derived.Test.YtbbdipfioopfmaaGreatAa
import Derived.Test.YtbbdipfioopfmaaGreatPk
import Derived.Test.YtbbdipfioopfmaaGreatPc
import Derived.RegionTactic
import Derived.ChangeAlike
namespace Go.Proofs.YtbbdipfioopfmaaGreat
open Go.ChangeShapes Go.WideShapes Go.ChangeAt Go.RowKit
set_option linter.unusedVariables false
set_option maxRecDepth 100000

/-- one step of the loop: the next state and the input -/
def stepR (r : Room) (ps : List Half) (s : Spot) (n : Int) (t : Spot) : Option (Spot × Ratio) :=
  if spotOk s = true ∧ (admAtR r ps s).2 = true ∧ (nextR (dynOf r) s (pickInput (admAtR r ps s).1 n) t).2 = true then some ((nextR (dynOf r) s (pickInput (admAtR r ps s).1 n) t).1, pickInput (admAtR r ps s).1 n) else none
def stepV : Option (Spot × Ratio) → Value
  | none => .tuple #[.agg #[.int .i64 0, .int .i64 0, .int .i64 0], .agg #[.int .i64 0, .int .i64 0], .bool false]
  | some x => .tuple #[.agg #[.int .i64 x.1.X, .int .i64 x.1.Y, .int .i64 x.1.D], .agg #[.int .i64 x.2.N, .int .i64 x.2.D], .bool true]
def StepMade (x : Option (Spot × Ratio)) (w : World) (e : Ending) (w' : World) : Prop := e = .returned (stepV x) ∧ Ext w w'
theorem stepR_no {r : Room} {ps : List Half} {s t : Spot} {n : Int} (h : ¬ (spotOk s = true ∧ (admAtR r ps s).2 = true ∧ (nextR (dynOf r) s (pickInput (admAtR r ps s).1 n) t).2 = true)) : stepR r ps s n t = none := if_neg h
theorem stepR_yes {r : Room} {ps : List Half} {s t : Spot} {n : Int} (h : spotOk s = true ∧ (admAtR r ps s).2 = true ∧ (nextR (dynOf r) s (pickInput (admAtR r ps s).1 n) t).2 = true) : stepR r ps s n t = some ((nextR (dynOf r) s (pickInput (admAtR r ps s).1 n) t).1, pickInput (admAtR r ps s).1 n) := if_pos h
theorem Blk.tt {V : World} {g k : Nat} {t t' : TypeId} {x0 x1 x2 y0 y1 : Value} (hne : g ≠ k) (b1 : Blk V g t #[x0, x1, x2]) (b2 : Blk V k t' #[y0, y1]) (p q v r s : Value) :
    Blk (((((V.setCell ⟨g, 0, none⟩ p).setCell ⟨g, 1, none⟩ q).setCell ⟨g, 2, none⟩ v).setCell ⟨k, 0, none⟩ r).setCell ⟨k, 1, none⟩ s) g t #[p, q, v] ∧ Blk (((((V.setCell ⟨g, 0, none⟩ p).setCell ⟨g, 1, none⟩ q).setCell ⟨g, 2, none⟩ v).setCell ⟨k, 0, none⟩ r).setCell ⟨k, 1, none⟩ s) k t' #[r, s] :=
  ⟨((((b1.set_ 0 p).set_ 1 q).set_ 2 v).far (p := ⟨k, 0, none⟩) hne r).far (p := ⟨k, 1, none⟩) hne s, (((((b2.far (p := ⟨g, 0, none⟩) (Ne.symm hne) p).far (p := ⟨g, 1, none⟩) (Ne.symm hne) q).far (p := ⟨g, 2, none⟩) (Ne.symm hne) v).set_ 0 r).set_ 1 s)⟩
theorem Ext.tt {w V : World} {g k : Nat} (h : Ext w V) (hg : w.heap.size ≤ g) (hk : w.heap.size ≤ k) (p q v r s : Value) : Ext w (((((V.setCell ⟨g, 0, none⟩ p).setCell ⟨g, 1, none⟩ q).setCell ⟨g, 2, none⟩ v).setCell ⟨k, 0, none⟩ r).setCell ⟨k, 1, none⟩ s) :=
  ((((h.setCell (p := ⟨g, 0, none⟩) hg p).setCell (p := ⟨g, 1, none⟩) hg q).setCell (p := ⟨g, 2, none⟩) hg v).setCell (p := ⟨k, 0, none⟩) hk r).setCell (p := ⟨k, 1, none⟩) hk s
theorem spot_I64' {s : Spot} (h : spotOk s = true) : I64 s.X ∧ I64 s.Y ∧ I64 s.D := by
  have := spot_I64 h
  exact ⟨this.1, this.2.1, this.2.2.1⟩
theorem ratio_I {u : Ratio} (h : ratioOk u = true) : I64 u.N ∧ I64 u.D := by
  have := ratioOk_bd h
  unfold I64
  omega
theorem span_I {w : Span} (h : spanOk w = true) : (I64 w.Low.N ∧ I64 w.Low.D) ∧ (I64 w.High.N ∧ I64 w.High.D) := by
  unfold spanOk at h
  simp only [Bool.and_eq_true] at h
  exact ⟨ratio_I h.1.1, ratio_I h.1.2⟩
theorem pickInput_ok {w : Span} (h : spanOk w = true) (n : Int) : ratioOk (pickInput w n) = true := by
  have hk := h
  unfold spanOk at hk
  simp only [Bool.and_eq_true] at hk
  have hc := clampI_bd (-1000) 1000 n (by omega)
  have cb := ratioCeil_bd w.Low
  have fb := ratioFloor_bd w.High
  unfold pickInput
  rw [if_pos h]
  split
  · split
    · exact ratioOk_one (by omega) (by omega)
    · exact hk.1.1
  · split
    · split
      · exact ratioOk_one (by omega) (by omega)
      · exact hk.1.2
    · exact ratioOk_one (by omega) (by omega)

set_option maxHeartbeats 16000000 in
theorem implStep0_ok (r : Room) (A0 A6 A7 : Option Addr) (c0 c6 c7 : Nat) (A : Option Addr) (n c : Nat) (ps E : List Half) (s t : Spot) (z : Int) (w : World) (hv : RoomV r) (ha : RoomHere w r A0 A6 A7 c0 c6 c7) (hn : E.length = n) (hr : Row w A (ints (flat Half.ints E))) (hE : erodeR ps r.Noise = (E, true)) (hne : E ≠ []) (hs : I64 s.X ∧ I64 s.Y ∧ I64 s.D) (ht : I64 t.X ∧ I64 t.Y ∧ I64 t.D) :
    Calls Tryz.prog 46 #[.agg #[.slice A0 r.Map.length c0, .int .i64 r.Div, .int .i64 r.Bx, .int .i64 r.By, .int .i64 r.Low, .int .i64 r.High, .slice A6 r.Noise.length c6, .slice A7 r.Limits.length c7], .agg #[.slice A n c], .agg #[.int .i64 s.X, .int .i64 s.Y, .int .i64 s.D], .int .i64 z, .agg #[.int .i64 t.X, .int .i64 t.Y, .int .i64 t.D]] w (StepMade (stepR r ps s z t) w) := by
  unfold StepMade
  have HS := Lib.hid (fun w => implSpotOk_any s.X s.Y s.D w hs.1 hs.2.1 hs.2.2)
  change Hid (∀ w, Calls Tryz.prog 58 #[.agg #[.int .i64 s.X, .int .i64 s.Y, .int .i64 s.D]] w fun e w' => e = .returned (.bool (spotOk s)) ∧ Ext w w') at HS
  have hEk : regOk E = true := by have := erodeR_ok ps r.Noise; rw [hE] at this; exact this
  have hl := regOk_len hEk
  have HAd := Lib.hid (fun w ha hr hs => implAdmit_ok r A0 A6 A7 c0 c6 c7 A n c E s w hv ha hn hr (regOk_all hEk) (by omega) hs)
  have HBig := Lib.hid (fun w h => implAdmit_big r A0 A6 A7 c0 c6 c7 A n c s w h)
  have HNx := Lib.hid (fun u w ha hu => implNext_ok r A0 A6 A7 c0 c6 c7 s t u w hv ha hs ht hu)
  have HSp : Hid ((admitR (dynOf r) E s).2 = true → spanOk (admitR (dynOf r) E s).1 = true) := admit_span
  have HNo := Lib.hid (fun h => stepR_no (r := r) (ps := ps) (s := s) (n := z) (t := t) h)
  have HYes := Lib.hid (fun h => stepR_yes (r := r) (ps := ps) (s := s) (n := z) (t := t) h)
  have HAy : Hid (s.D ≤ 100000 → admAtR r ps s = admitR (dynOf r) E s) := fun h => by
    have e := admAt_yes (r := r) (ps := ps) (s := s) ⟨by rw [hE], by rw [hE]; exact hne, h⟩
    rw [hE] at e
    exact e
  have HAn : Hid (¬ s.D ≤ 100000 → admAtR r ps s = (zeroSpan, false)) := fun h => admAt_no (fun q => h q.2.2)
  have HSs : Hid (spotOk s = true → s.D ≤ 100000 → SpotS s) := fun h1 h2 => spotS_of h1 h2
  have HA := Lib.hid ha
  have HR := Lib.hid hr
  have hx : Ext w ((((((w.alloc (.cells #[.slice A0 r.Map.length c0, .int .i64 r.Div, .int .i64 r.Bx, .int .i64 r.By, .int .i64 r.Low, .int .i64 r.High, .slice A6 r.Noise.length c6, .slice A7 r.Limits.length c7] 44)).alloc (.cells #[.slice A n c] 42)).alloc (.cells #[.int .i64 s.X, .int .i64 s.Y, .int .i64 s.D] 47)).alloc (.cells #[.int .i64 t.X, .int .i64 t.Y, .int .i64 t.D] 47)).alloc (.cells #[.int .i64 0, .int .i64 0, .int .i64 0] 47)).alloc (.cells #[.int .i64 0, .int .i64 0] 74)) := by repeat (first | exact Ext.refl _ | refine Ext.alloc ?_ _)
  have bM : Blk ((((((w.alloc (.cells #[.slice A0 r.Map.length c0, .int .i64 r.Div, .int .i64 r.Bx, .int .i64 r.By, .int .i64 r.Low, .int .i64 r.High, .slice A6 r.Noise.length c6, .slice A7 r.Limits.length c7] 44)).alloc (.cells #[.slice A n c] 42)).alloc (.cells #[.int .i64 s.X, .int .i64 s.Y, .int .i64 s.D] 47)).alloc (.cells #[.int .i64 t.X, .int .i64 t.Y, .int .i64 t.D] 47)).alloc (.cells #[.int .i64 0, .int .i64 0, .int .i64 0] 47)).alloc (.cells #[.int .i64 0, .int .i64 0] 74)) (w.heap.size) 44 #[.slice A0 r.Map.length c0, .int .i64 r.Div, .int .i64 r.Bx, .int .i64 r.By, .int .i64 r.Low, .int .i64 r.High, .slice A6 r.Noise.length c6, .slice A7 r.Limits.length c7] := by
    have q := Blk.new w 44 #[.slice A0 r.Map.length c0, .int .i64 r.Div, .int .i64 r.Bx, .int .i64 r.By, .int .i64 r.Low, .int .i64 r.High, .slice A6 r.Noise.length c6, .slice A7 r.Limits.length c7]
    replace q := q.alloc (.cells #[.slice A n c] 42)
    replace q := q.alloc (.cells #[.int .i64 s.X, .int .i64 s.Y, .int .i64 s.D] 47)
    replace q := q.alloc (.cells #[.int .i64 t.X, .int .i64 t.Y, .int .i64 t.D] 47)
    replace q := q.alloc (.cells #[.int .i64 0, .int .i64 0, .int .i64 0] 47)
    replace q := q.alloc (.cells #[.int .i64 0, .int .i64 0] 74)
    simpa only [World.size_alloc] using q
  have bP : Blk ((((((w.alloc (.cells #[.slice A0 r.Map.length c0, .int .i64 r.Div, .int .i64 r.Bx, .int .i64 r.By, .int .i64 r.Low, .int .i64 r.High, .slice A6 r.Noise.length c6, .slice A7 r.Limits.length c7] 44)).alloc (.cells #[.slice A n c] 42)).alloc (.cells #[.int .i64 s.X, .int .i64 s.Y, .int .i64 s.D] 47)).alloc (.cells #[.int .i64 t.X, .int .i64 t.Y, .int .i64 t.D] 47)).alloc (.cells #[.int .i64 0, .int .i64 0, .int .i64 0] 47)).alloc (.cells #[.int .i64 0, .int .i64 0] 74)) (w.heap.size + 1) 42 #[.slice A n c] := by
    have q := Blk.new (w.alloc (.cells #[.slice A0 r.Map.length c0, .int .i64 r.Div, .int .i64 r.Bx, .int .i64 r.By, .int .i64 r.Low, .int .i64 r.High, .slice A6 r.Noise.length c6, .slice A7 r.Limits.length c7] 44)) 42 #[.slice A n c]
    replace q := q.alloc (.cells #[.int .i64 s.X, .int .i64 s.Y, .int .i64 s.D] 47)
    replace q := q.alloc (.cells #[.int .i64 t.X, .int .i64 t.Y, .int .i64 t.D] 47)
    replace q := q.alloc (.cells #[.int .i64 0, .int .i64 0, .int .i64 0] 47)
    replace q := q.alloc (.cells #[.int .i64 0, .int .i64 0] 74)
    simpa only [World.size_alloc] using q
  have bS : Blk ((((((w.alloc (.cells #[.slice A0 r.Map.length c0, .int .i64 r.Div, .int .i64 r.Bx, .int .i64 r.By, .int .i64 r.Low, .int .i64 r.High, .slice A6 r.Noise.length c6, .slice A7 r.Limits.length c7] 44)).alloc (.cells #[.slice A n c] 42)).alloc (.cells #[.int .i64 s.X, .int .i64 s.Y, .int .i64 s.D] 47)).alloc (.cells #[.int .i64 t.X, .int .i64 t.Y, .int .i64 t.D] 47)).alloc (.cells #[.int .i64 0, .int .i64 0, .int .i64 0] 47)).alloc (.cells #[.int .i64 0, .int .i64 0] 74)) (w.heap.size + 1 + 1) 47 #[.int .i64 s.X, .int .i64 s.Y, .int .i64 s.D] := by
    have q := Blk.new ((w.alloc (.cells #[.slice A0 r.Map.length c0, .int .i64 r.Div, .int .i64 r.Bx, .int .i64 r.By, .int .i64 r.Low, .int .i64 r.High, .slice A6 r.Noise.length c6, .slice A7 r.Limits.length c7] 44)).alloc (.cells #[.slice A n c] 42)) 47 #[.int .i64 s.X, .int .i64 s.Y, .int .i64 s.D]
    replace q := q.alloc (.cells #[.int .i64 t.X, .int .i64 t.Y, .int .i64 t.D] 47)
    replace q := q.alloc (.cells #[.int .i64 0, .int .i64 0, .int .i64 0] 47)
    replace q := q.alloc (.cells #[.int .i64 0, .int .i64 0] 74)
    simpa only [World.size_alloc] using q
  have bT : Blk ((((((w.alloc (.cells #[.slice A0 r.Map.length c0, .int .i64 r.Div, .int .i64 r.Bx, .int .i64 r.By, .int .i64 r.Low, .int .i64 r.High, .slice A6 r.Noise.length c6, .slice A7 r.Limits.length c7] 44)).alloc (.cells #[.slice A n c] 42)).alloc (.cells #[.int .i64 s.X, .int .i64 s.Y, .int .i64 s.D] 47)).alloc (.cells #[.int .i64 t.X, .int .i64 t.Y, .int .i64 t.D] 47)).alloc (.cells #[.int .i64 0, .int .i64 0, .int .i64 0] 47)).alloc (.cells #[.int .i64 0, .int .i64 0] 74)) (w.heap.size + 1 + 1 + 1) 47 #[.int .i64 t.X, .int .i64 t.Y, .int .i64 t.D] := by
    have q := Blk.new (((w.alloc (.cells #[.slice A0 r.Map.length c0, .int .i64 r.Div, .int .i64 r.Bx, .int .i64 r.By, .int .i64 r.Low, .int .i64 r.High, .slice A6 r.Noise.length c6, .slice A7 r.Limits.length c7] 44)).alloc (.cells #[.slice A n c] 42)).alloc (.cells #[.int .i64 s.X, .int .i64 s.Y, .int .i64 s.D] 47)) 47 #[.int .i64 t.X, .int .i64 t.Y, .int .i64 t.D]
    replace q := q.alloc (.cells #[.int .i64 0, .int .i64 0, .int .i64 0] 47)
    replace q := q.alloc (.cells #[.int .i64 0, .int .i64 0] 74)
    simpa only [World.size_alloc] using q
  have bA : Blk ((((((w.alloc (.cells #[.slice A0 r.Map.length c0, .int .i64 r.Div, .int .i64 r.Bx, .int .i64 r.By, .int .i64 r.Low, .int .i64 r.High, .slice A6 r.Noise.length c6, .slice A7 r.Limits.length c7] 44)).alloc (.cells #[.slice A n c] 42)).alloc (.cells #[.int .i64 s.X, .int .i64 s.Y, .int .i64 s.D] 47)).alloc (.cells #[.int .i64 t.X, .int .i64 t.Y, .int .i64 t.D] 47)).alloc (.cells #[.int .i64 0, .int .i64 0, .int .i64 0] 47)).alloc (.cells #[.int .i64 0, .int .i64 0] 74)) (w.heap.size + 1 + 1 + 1 + 1) 47 #[.int .i64 0, .int .i64 0, .int .i64 0] := by
    have q := Blk.new ((((w.alloc (.cells #[.slice A0 r.Map.length c0, .int .i64 r.Div, .int .i64 r.Bx, .int .i64 r.By, .int .i64 r.Low, .int .i64 r.High, .slice A6 r.Noise.length c6, .slice A7 r.Limits.length c7] 44)).alloc (.cells #[.slice A n c] 42)).alloc (.cells #[.int .i64 s.X, .int .i64 s.Y, .int .i64 s.D] 47)).alloc (.cells #[.int .i64 t.X, .int .i64 t.Y, .int .i64 t.D] 47)) 47 #[.int .i64 0, .int .i64 0, .int .i64 0]
    replace q := q.alloc (.cells #[.int .i64 0, .int .i64 0] 74)
    simpa only [World.size_alloc] using q
  have bB : Blk ((((((w.alloc (.cells #[.slice A0 r.Map.length c0, .int .i64 r.Div, .int .i64 r.Bx, .int .i64 r.By, .int .i64 r.Low, .int .i64 r.High, .slice A6 r.Noise.length c6, .slice A7 r.Limits.length c7] 44)).alloc (.cells #[.slice A n c] 42)).alloc (.cells #[.int .i64 s.X, .int .i64 s.Y, .int .i64 s.D] 47)).alloc (.cells #[.int .i64 t.X, .int .i64 t.Y, .int .i64 t.D] 47)).alloc (.cells #[.int .i64 0, .int .i64 0, .int .i64 0] 47)).alloc (.cells #[.int .i64 0, .int .i64 0] 74)) (w.heap.size + 1 + 1 + 1 + 1 + 1) 74 #[.int .i64 0, .int .i64 0] := by
    have q := Blk.new (((((w.alloc (.cells #[.slice A0 r.Map.length c0, .int .i64 r.Div, .int .i64 r.Bx, .int .i64 r.By, .int .i64 r.Low, .int .i64 r.High, .slice A6 r.Noise.length c6, .slice A7 r.Limits.length c7] 44)).alloc (.cells #[.slice A n c] 42)).alloc (.cells #[.int .i64 s.X, .int .i64 s.Y, .int .i64 s.D] 47)).alloc (.cells #[.int .i64 t.X, .int .i64 t.Y, .int .i64 t.D] 47)).alloc (.cells #[.int .i64 0, .int .i64 0, .int .i64 0] 47)) 74 #[.int .i64 0, .int .i64 0]
    simpa only [World.size_alloc] using q
  clear hv ha hn hr hE hne hs ht hEk hl
  obtain ⟨o1, ho1⟩ : ∃ o, spotOk s = o := ⟨_, rfl⟩
  generalize stepR r ps s z t = X at *
  generalize admAtR r ps s = AT_ at *
  generalize admitR (dynOf r) E s = AR at *
  rw [ho1] at HS HNo HYes HSs
  clear ho1
  have cA := fun o => bA.cell o
  have cB := fun o => bB.cell o
  have cbM_1 := fun o => bM.cell o
  have cbP_2 := fun o => bP.cell o
  have cbS_3 := fun o => bS.cell o
  have cbT_4 := fun o => bT.cell o
  have cbA_5 := fun o => bA.cell o
  have fbA_5 := fun o => bA.frozen o
  have cbB_6 := fun o => bB.cell o
  have fbB_6 := fun o => bB.frozen o
  go_enter Tryz.func46, Tryz.ntmps46
  go_wp2_with fail
  refine (HS.out _).mono ?_
  rintro e w1 ⟨rfl, hx1⟩
  replace hx := hx.trans hx1
  replace bM := bM.ext hx1
  replace bP := bP.ext hx1
  replace bS := bS.ext hx1
  replace bT := bT.ext hx1
  replace bA := bA.ext hx1
  replace bB := bB.ext hx1
  have cbM_7 := fun o => bM.cell o
  have cbP_8 := fun o => bP.cell o
  have cbS_9 := fun o => bS.cell o
  have cbT_10 := fun o => bT.cell o
  have cbA_11 := fun o => bA.cell o
  have fbA_11 := fun o => bA.frozen o
  have cbB_12 := fun o => bB.cell o
  have fbB_12 := fun o => bB.frozen o
  cases o1
  · have H := Lib.hid (HNo.out (fun h => by cases h.1))
    go_wp2
    obtain ⟨z1, z2⟩ := Blk.tt (by omega) bA bB (.int .i64 0) (.int .i64 0) (.int .i64 0) (.int .i64 0) (.int .i64 0)
    have d1 := fun o => (z1).cell o
    have d2 := fun o => (z2).cell o
    clear cA cB
    refine bodyPost_ret (v := .tuple #[.agg #[.int .i64 0, .int .i64 0, .int .i64 0], .agg #[.int .i64 0, .int .i64 0], .bool false]) (by simp [results, Tryz.results46, go_sem, d1, d2]) rfl ?_
    exact ⟨by rw [H.out]; rfl, by first | (with_reducible exact ((hx).tt (by omega) (by omega) _ _ _ _ _)) | exact ((hx).tt (by omega) (by omega) _ _ _ _ _)⟩
  by_cases hD : s.D ≤ 100000
  rotate_left
  · have H := Lib.hid (HNo.out (fun h => by have := h.2.1; rw [HAn.out (by omega)] at this; cases this))
    go_wp2_with fail
    refine (HBig.out _ (by omega)).mono ?_
    rintro e w2 ⟨rfl, hx2⟩
    dsimp only [zeroSpan]
    replace hx := hx.trans hx2
    replace bM := bM.ext hx2
    replace bP := bP.ext hx2
    replace bS := bS.ext hx2
    replace bT := bT.ext hx2
    replace bA := bA.ext hx2
    replace bB := bB.ext hx2
    have cbM_13 := fun o => bM.cell o
    have cbP_14 := fun o => bP.cell o
    have cbS_15 := fun o => bS.cell o
    have cbT_16 := fun o => bT.cell o
    have cbA_17 := fun o => bA.cell o
    have fbA_17 := fun o => bA.frozen o
    have cbB_18 := fun o => bB.cell o
    have fbB_18 := fun o => bB.frozen o
    have hy2 := hx
    have bA2 := bA
    have bB2 := bB
    have lA := bA.lt
    have lB := bB.lt
    go_wp2
    obtain ⟨z1, z2⟩ := Blk.tt (by omega) bA2 bB2 (.int .i64 0) (.int .i64 0) (.int .i64 0) (.int .i64 0) (.int .i64 0)
    have d1 := fun o => (z1.alloc (.cells #[.int .i64 0, .int .i64 0, .int .i64 0, .int .i64 0] 89)).cell o
    have d2 := fun o => (z2.alloc (.cells #[.int .i64 0, .int .i64 0, .int .i64 0, .int .i64 0] 89)).cell o
    clear cA cB
    refine bodyPost_ret (v := .tuple #[.agg #[.int .i64 0, .int .i64 0, .int .i64 0], .agg #[.int .i64 0, .int .i64 0], .bool false]) (by simp [results, Tryz.results46, go_sem, d1, d2]) rfl ?_
    exact ⟨by rw [H.out]; rfl, by first | (with_reducible exact ((hy2).tt (by omega) (by omega) _ _ _ _ _).alloc _) | exact ((hy2).tt (by omega) (by omega) _ _ _ _ _).alloc _⟩
  have hAD := HAy.out hD
  have HSS := Lib.hid (HSs.out rfl hD)
  subst hAD
  go_wp2_with fail
  refine (HAd.out _ (HA.out.ext hx) (HR.out.ext hx) HSS.out).mono ?_
  rintro e w2 ⟨rfl, hx2⟩
  replace hx := hx.trans hx2
  replace bM := bM.ext hx2
  replace bP := bP.ext hx2
  replace bS := bS.ext hx2
  replace bT := bT.ext hx2
  replace bA := bA.ext hx2
  replace bB := bB.ext hx2
  have cbM_19 := fun o => bM.cell o
  have cbP_20 := fun o => bP.cell o
  have cbS_21 := fun o => bS.cell o
  have cbT_22 := fun o => bT.cell o
  have cbA_23 := fun o => bA.cell o
  have fbA_23 := fun o => bA.frozen o
  have cbB_24 := fun o => bB.cell o
  have fbB_24 := fun o => bB.frozen o
  obtain ⟨⟨⟨ln, ld⟩, ⟨hn_, hd_⟩⟩, ok⟩ := AT_
  dsimp only at *
  have bW := Blk.new w2 89 #[.int .i64 ln, .int .i64 ld, .int .i64 hn_, .int .i64 hd_]
  have hy2 := hx
  have bA2 := bA
  have bB2 := bB
  have lA := bA.lt
  have lB := bB.lt
  have ha2 := (Ext.refl w2).alloc (.cells #[.int .i64 ln, .int .i64 ld, .int .i64 hn_, .int .i64 hd_] 89)
  replace hx := hx.trans ha2
  replace bM := bM.ext ha2
  replace bP := bP.ext ha2
  replace bS := bS.ext ha2
  replace bT := bT.ext ha2
  replace bA := bA.ext ha2
  replace bB := bB.ext ha2
  have cbM_25 := fun o => bM.cell o
  have cbP_26 := fun o => bP.cell o
  have cbS_27 := fun o => bS.cell o
  have cbT_28 := fun o => bT.cell o
  have cbA_29 := fun o => bA.cell o
  have fbA_29 := fun o => bA.frozen o
  have cbB_30 := fun o => bB.cell o
  have fbB_30 := fun o => bB.frozen o
  cases ok
  · have H := Lib.hid (HNo.out (fun h => by cases h.2.1))
    go_wp2
    obtain ⟨z1, z2⟩ := Blk.tt (by omega) bA2 bB2 (.int .i64 0) (.int .i64 0) (.int .i64 0) (.int .i64 0) (.int .i64 0)
    have d1 := fun o => (z1.alloc (.cells #[.int .i64 ln, .int .i64 ld, .int .i64 hn_, .int .i64 hd_] 89)).cell o
    have d2 := fun o => (z2.alloc (.cells #[.int .i64 ln, .int .i64 ld, .int .i64 hn_, .int .i64 hd_] 89)).cell o
    clear cA cB
    refine bodyPost_ret (v := .tuple #[.agg #[.int .i64 0, .int .i64 0, .int .i64 0], .agg #[.int .i64 0, .int .i64 0], .bool false]) (by simp [results, Tryz.results46, go_sem, d1, d2]) rfl ?_
    exact ⟨by rw [H.out]; rfl, by first | (with_reducible exact ((hy2).tt (by omega) (by omega) _ _ _ _ _).alloc _) | exact ((hy2).tt (by omega) (by omega) _ _ _ _ _).alloc _⟩
  clear hy2 bA2 bB2
  have hsp := HSp.out rfl
  obtain ⟨⟨i1, i2⟩, ⟨i3, i4⟩⟩ := span_I hsp
  have HPk := Lib.hid (fun w => pickInput_any ln ld hn_ hd_ z w i1 i2 i3 i4)
  have hui := ratio_I (pickInput_ok hsp z)
  have HUI := Lib.hid hui
  generalize pickInput ⟨⟨ln, ld⟩, ⟨hn_, hd_⟩⟩ z = u at *
  clear hsp i1 i2 i3 i4 hui
  have HNu := Lib.hid (fun w ha => HNx.out u w ha HUI.out)
  obtain ⟨un, ud⟩ := u
  dsimp only at *
  generalize nextR (dynOf r) s ⟨un, ud⟩ t = NX at *
  obtain ⟨⟨x1, x2, x3⟩, ok⟩ := NX
  dsimp only at *
  go_wp2_with fail
  refine (HPk.out _).mono ?_
  rintro e w3 ⟨rfl, hx3⟩
  replace hx := hx.trans hx3
  replace bM := bM.ext hx3
  replace bP := bP.ext hx3
  replace bS := bS.ext hx3
  replace bT := bT.ext hx3
  replace bA := bA.ext hx3
  replace bB := bB.ext hx3
  replace bW := bW.ext hx3
  have cbM_31 := fun o => bM.cell o
  have cbP_32 := fun o => bP.cell o
  have cbS_33 := fun o => bS.cell o
  have cbT_34 := fun o => bT.cell o
  have cbA_35 := fun o => bA.cell o
  have fbA_35 := fun o => bA.frozen o
  have cbB_36 := fun o => bB.cell o
  have fbB_36 := fun o => bB.frozen o
  have cbW_37 := fun o => bW.cell o
  have lB3 := bB.lt
  have bU := Blk.new w3 74 #[.int .i64 un, .int .i64 ud]
  have ha3 := (Ext.refl w3).alloc (.cells #[.int .i64 un, .int .i64 ud] 74)
  replace hx := hx.trans ha3
  replace bM := bM.ext ha3
  replace bP := bP.ext ha3
  replace bS := bS.ext ha3
  replace bT := bT.ext ha3
  replace bA := bA.ext ha3
  replace bB := bB.ext ha3
  replace bW := bW.ext ha3
  have cbM_38 := fun o => bM.cell o
  have cbP_39 := fun o => bP.cell o
  have cbS_40 := fun o => bS.cell o
  have cbT_41 := fun o => bT.cell o
  have cbA_42 := fun o => bA.cell o
  have fbA_42 := fun o => bA.frozen o
  have cbB_43 := fun o => bB.cell o
  have fbB_43 := fun o => bB.frozen o
  have cbW_44 := fun o => bW.cell o
  go_wp2_with fail
  refine (HNu.out _ (HA.out.ext hx)).mono ?_
  rintro e w4 ⟨rfl, hx4⟩
  replace hx := hx.trans hx4
  replace bM := bM.ext hx4
  replace bP := bP.ext hx4
  replace bS := bS.ext hx4
  replace bT := bT.ext hx4
  replace bA := bA.ext hx4
  replace bB := bB.ext hx4
  replace bW := bW.ext hx4
  replace bU := bU.ext hx4
  have cbM_45 := fun o => bM.cell o
  have cbP_46 := fun o => bP.cell o
  have cbS_47 := fun o => bS.cell o
  have cbT_48 := fun o => bT.cell o
  have cbA_49 := fun o => bA.cell o
  have fbA_49 := fun o => bA.frozen o
  have cbB_50 := fun o => bB.cell o
  have fbB_50 := fun o => bB.frozen o
  have cbW_51 := fun o => bW.cell o
  have cbU_52 := fun o => bU.cell o
  have lU := bU.lt
  have cU4 := fun o => bU.cell o
  have cA4 := fun o => bA.cell o
  have cB4 := fun o => bB.cell o
  have fA4 := fun o => bA.frozen o
  have fB4 := fun o => bB.frozen o
  have bN := Blk.new w4 47 #[.int .i64 x1, .int .i64 x2, .int .i64 x3]
  have hy2 := hx
  have bA2 := bA
  have bB2 := bB
  have lA := bA.lt
  have lB := bB.lt
  have ha4 := (Ext.refl w4).alloc (.cells #[.int .i64 x1, .int .i64 x2, .int .i64 x3] 47)
  replace hx := hx.trans ha4
  replace bM := bM.ext ha4
  replace bP := bP.ext ha4
  replace bS := bS.ext ha4
  replace bT := bT.ext ha4
  replace bA := bA.ext ha4
  replace bB := bB.ext ha4
  replace bW := bW.ext ha4
  replace bU := bU.ext ha4
  have cbM_53 := fun o => bM.cell o
  have cbP_54 := fun o => bP.cell o
  have cbS_55 := fun o => bS.cell o
  have cbT_56 := fun o => bT.cell o
  have cbA_57 := fun o => bA.cell o
  have fbA_57 := fun o => bA.frozen o
  have cbB_58 := fun o => bB.cell o
  have fbB_58 := fun o => bB.frozen o
  have cbW_59 := fun o => bW.cell o
  have cbU_60 := fun o => bU.cell o
  cases ok
  · have H := Lib.hid (HNo.out (fun h => by cases h.2.2))
    go_wp2
    obtain ⟨z1, z2⟩ := Blk.tt (by omega) bA2 bB2 (.int .i64 0) (.int .i64 0) (.int .i64 0) (.int .i64 0) (.int .i64 0)
    have d1 := fun o => (z1.alloc (.cells #[.int .i64 x1, .int .i64 x2, .int .i64 x3] 47)).cell o
    have d2 := fun o => (z2.alloc (.cells #[.int .i64 x1, .int .i64 x2, .int .i64 x3] 47)).cell o
    clear cA cB
    refine bodyPost_ret (v := .tuple #[.agg #[.int .i64 0, .int .i64 0, .int .i64 0], .agg #[.int .i64 0, .int .i64 0], .bool false]) (by simp [results, Tryz.results46, go_sem, d1, d2]) rfl ?_
    exact ⟨by rw [H.out]; rfl, by first | (with_reducible exact ((hy2).tt (by omega) (by omega) _ _ _ _ _).alloc _) | exact ((hy2).tt (by omega) (by omega) _ _ _ _ _).alloc _⟩
  have H := Lib.hid (HYes.out (by first | exact ⟨rfl, rfl, rfl⟩ | simp))
  have n1 : w3.heap.size ≠ w.heap.size + 1 + 1 + 1 + 1 := by omega
  have n2 : w.heap.size + 1 + 1 + 1 + 1 ≠ w3.heap.size := by omega
  have n3 : w3.heap.size ≠ w.heap.size + 1 + 1 + 1 + 1 + 1 := by omega
  have n4 : w.heap.size + 1 + 1 + 1 + 1 + 1 ≠ w3.heap.size := by omega
  have n5 : w3.heap.size ≠ w4.heap.size := by omega
  go_wp2
  go_region
  all_goals
    go_wp2
    obtain ⟨y1, y2⟩ := Blk.tt (by omega) bA2 bB2 (.int .i64 x1) (.int .i64 x2) (.int .i64 x3) (.int .i64 un) (.int .i64 ud)
    have z1 := (y1.alloc (.cells #[.int .i64 x1, .int .i64 x2, .int .i64 x3] 47)).ext (Ext.refl _).drew
    have z2 := (y2.alloc (.cells #[.int .i64 x1, .int .i64 x2, .int .i64 x3] 47)).ext (Ext.refl _).drew
    have d1 := fun o => z1.cell o
    have d2 := fun o => z2.cell o
    clear cA cB cA4 cB4
    rw [H.out]
    refine bodyPost_ret (v := .tuple #[.agg #[.int .i64 x1, .int .i64 x2, .int .i64 x3], .agg #[.int .i64 un, .int .i64 ud], .bool true]) (by simp [results, Tryz.results46, go_sem, d1, d2]) rfl ?_
    exact ⟨rfl, ((hy2.tt (by omega) (by omega) _ _ _ _ _).alloc _).drew⟩

set_option maxHeartbeats 16000000 in
theorem specStep_ok (r : Room) (A0 A6 A7 : Option Addr) (c0 c6 c7 : Nat) (A : Option Addr) (n c : Nat) (ps : List Half) (s t : Spot) (z : Int) (w : World) (hv : RoomV r) (ha : RoomHere w r A0 A6 A7 c0 c6 c7) (hn : ps.length = n) (hr : Row w A (ints (flat Half.ints ps))) (hA : A = none → n = 0 ∧ c = 0) (hpk : regOk ps = true) (hsk : spotOk s = true) (ht : I64 t.X ∧ I64 t.Y ∧ I64 t.D) :
    Calls Tryz.prog 41 #[.agg #[.slice A0 r.Map.length c0, .int .i64 r.Div, .int .i64 r.Bx, .int .i64 r.By, .int .i64 r.Low, .int .i64 r.High, .slice A6 r.Noise.length c6, .slice A7 r.Limits.length c7], .agg #[.slice A n c], .agg #[.int .i64 s.X, .int .i64 s.Y, .int .i64 s.D], .int .i64 z, .agg #[.int .i64 t.X, .int .i64 t.Y, .int .i64 t.D]] w (StepMade (stepR r ps s z t) w) := by
  unfold StepMade
  have HAd := Lib.hid (fun w ha hr => specAdmitAt_ok r A0 A6 A7 c0 c6 c7 A n c ps s w hv ha hn hr hA hpk hsk)
  have HNx := Lib.hid (fun u w ha hu => specNext_ok r A0 A6 A7 c0 c6 c7 s t u w hv ha (spot_I64' hsk) ht hu)
  have HSp : Hid ((admAtR r ps s).2 = true → spanOk (admAtR r ps s).1 = true) := admAt_span
  have HNo := Lib.hid (fun h => stepR_no (r := r) (ps := ps) (s := s) (n := z) (t := t) h)
  have HYes := Lib.hid (fun h1 h2 => stepR_yes (r := r) (ps := ps) (s := s) (n := z) (t := t) ⟨hsk, h1, h2⟩)
  have HA := Lib.hid ha
  have HR := Lib.hid hr
  have hx : Ext w ((((((w.alloc (.cells #[.slice A0 r.Map.length c0, .int .i64 r.Div, .int .i64 r.Bx, .int .i64 r.By, .int .i64 r.Low, .int .i64 r.High, .slice A6 r.Noise.length c6, .slice A7 r.Limits.length c7] 44)).alloc (.cells #[.slice A n c] 42)).alloc (.cells #[.int .i64 s.X, .int .i64 s.Y, .int .i64 s.D] 47)).alloc (.cells #[.int .i64 t.X, .int .i64 t.Y, .int .i64 t.D] 47)).alloc (.cells #[.int .i64 0, .int .i64 0, .int .i64 0] 47)).alloc (.cells #[.int .i64 0, .int .i64 0] 74)) := by repeat (first | exact Ext.refl _ | refine Ext.alloc ?_ _)
  have bM : Blk ((((((w.alloc (.cells #[.slice A0 r.Map.length c0, .int .i64 r.Div, .int .i64 r.Bx, .int .i64 r.By, .int .i64 r.Low, .int .i64 r.High, .slice A6 r.Noise.length c6, .slice A7 r.Limits.length c7] 44)).alloc (.cells #[.slice A n c] 42)).alloc (.cells #[.int .i64 s.X, .int .i64 s.Y, .int .i64 s.D] 47)).alloc (.cells #[.int .i64 t.X, .int .i64 t.Y, .int .i64 t.D] 47)).alloc (.cells #[.int .i64 0, .int .i64 0, .int .i64 0] 47)).alloc (.cells #[.int .i64 0, .int .i64 0] 74)) (w.heap.size) 44 #[.slice A0 r.Map.length c0, .int .i64 r.Div, .int .i64 r.Bx, .int .i64 r.By, .int .i64 r.Low, .int .i64 r.High, .slice A6 r.Noise.length c6, .slice A7 r.Limits.length c7] := by
    have q := Blk.new w 44 #[.slice A0 r.Map.length c0, .int .i64 r.Div, .int .i64 r.Bx, .int .i64 r.By, .int .i64 r.Low, .int .i64 r.High, .slice A6 r.Noise.length c6, .slice A7 r.Limits.length c7]
    replace q := q.alloc (.cells #[.slice A n c] 42)
    replace q := q.alloc (.cells #[.int .i64 s.X, .int .i64 s.Y, .int .i64 s.D] 47)
    replace q := q.alloc (.cells #[.int .i64 t.X, .int .i64 t.Y, .int .i64 t.D] 47)
    replace q := q.alloc (.cells #[.int .i64 0, .int .i64 0, .int .i64 0] 47)
    replace q := q.alloc (.cells #[.int .i64 0, .int .i64 0] 74)
    simpa only [World.size_alloc] using q
  have bP : Blk ((((((w.alloc (.cells #[.slice A0 r.Map.length c0, .int .i64 r.Div, .int .i64 r.Bx, .int .i64 r.By, .int .i64 r.Low, .int .i64 r.High, .slice A6 r.Noise.length c6, .slice A7 r.Limits.length c7] 44)).alloc (.cells #[.slice A n c] 42)).alloc (.cells #[.int .i64 s.X, .int .i64 s.Y, .int .i64 s.D] 47)).alloc (.cells #[.int .i64 t.X, .int .i64 t.Y, .int .i64 t.D] 47)).alloc (.cells #[.int .i64 0, .int .i64 0, .int .i64 0] 47)).alloc (.cells #[.int .i64 0, .int .i64 0] 74)) (w.heap.size + 1) 42 #[.slice A n c] := by
    have q := Blk.new (w.alloc (.cells #[.slice A0 r.Map.length c0, .int .i64 r.Div, .int .i64 r.Bx, .int .i64 r.By, .int .i64 r.Low, .int .i64 r.High, .slice A6 r.Noise.length c6, .slice A7 r.Limits.length c7] 44)) 42 #[.slice A n c]
    replace q := q.alloc (.cells #[.int .i64 s.X, .int .i64 s.Y, .int .i64 s.D] 47)
    replace q := q.alloc (.cells #[.int .i64 t.X, .int .i64 t.Y, .int .i64 t.D] 47)
    replace q := q.alloc (.cells #[.int .i64 0, .int .i64 0, .int .i64 0] 47)
    replace q := q.alloc (.cells #[.int .i64 0, .int .i64 0] 74)
    simpa only [World.size_alloc] using q
  have bS : Blk ((((((w.alloc (.cells #[.slice A0 r.Map.length c0, .int .i64 r.Div, .int .i64 r.Bx, .int .i64 r.By, .int .i64 r.Low, .int .i64 r.High, .slice A6 r.Noise.length c6, .slice A7 r.Limits.length c7] 44)).alloc (.cells #[.slice A n c] 42)).alloc (.cells #[.int .i64 s.X, .int .i64 s.Y, .int .i64 s.D] 47)).alloc (.cells #[.int .i64 t.X, .int .i64 t.Y, .int .i64 t.D] 47)).alloc (.cells #[.int .i64 0, .int .i64 0, .int .i64 0] 47)).alloc (.cells #[.int .i64 0, .int .i64 0] 74)) (w.heap.size + 1 + 1) 47 #[.int .i64 s.X, .int .i64 s.Y, .int .i64 s.D] := by
    have q := Blk.new ((w.alloc (.cells #[.slice A0 r.Map.length c0, .int .i64 r.Div, .int .i64 r.Bx, .int .i64 r.By, .int .i64 r.Low, .int .i64 r.High, .slice A6 r.Noise.length c6, .slice A7 r.Limits.length c7] 44)).alloc (.cells #[.slice A n c] 42)) 47 #[.int .i64 s.X, .int .i64 s.Y, .int .i64 s.D]
    replace q := q.alloc (.cells #[.int .i64 t.X, .int .i64 t.Y, .int .i64 t.D] 47)
    replace q := q.alloc (.cells #[.int .i64 0, .int .i64 0, .int .i64 0] 47)
    replace q := q.alloc (.cells #[.int .i64 0, .int .i64 0] 74)
    simpa only [World.size_alloc] using q
  have bT : Blk ((((((w.alloc (.cells #[.slice A0 r.Map.length c0, .int .i64 r.Div, .int .i64 r.Bx, .int .i64 r.By, .int .i64 r.Low, .int .i64 r.High, .slice A6 r.Noise.length c6, .slice A7 r.Limits.length c7] 44)).alloc (.cells #[.slice A n c] 42)).alloc (.cells #[.int .i64 s.X, .int .i64 s.Y, .int .i64 s.D] 47)).alloc (.cells #[.int .i64 t.X, .int .i64 t.Y, .int .i64 t.D] 47)).alloc (.cells #[.int .i64 0, .int .i64 0, .int .i64 0] 47)).alloc (.cells #[.int .i64 0, .int .i64 0] 74)) (w.heap.size + 1 + 1 + 1) 47 #[.int .i64 t.X, .int .i64 t.Y, .int .i64 t.D] := by
    have q := Blk.new (((w.alloc (.cells #[.slice A0 r.Map.length c0, .int .i64 r.Div, .int .i64 r.Bx, .int .i64 r.By, .int .i64 r.Low, .int .i64 r.High, .slice A6 r.Noise.length c6, .slice A7 r.Limits.length c7] 44)).alloc (.cells #[.slice A n c] 42)).alloc (.cells #[.int .i64 s.X, .int .i64 s.Y, .int .i64 s.D] 47)) 47 #[.int .i64 t.X, .int .i64 t.Y, .int .i64 t.D]
    replace q := q.alloc (.cells #[.int .i64 0, .int .i64 0, .int .i64 0] 47)
    replace q := q.alloc (.cells #[.int .i64 0, .int .i64 0] 74)
    simpa only [World.size_alloc] using q
  have bA : Blk ((((((w.alloc (.cells #[.slice A0 r.Map.length c0, .int .i64 r.Div, .int .i64 r.Bx, .int .i64 r.By, .int .i64 r.Low, .int .i64 r.High, .slice A6 r.Noise.length c6, .slice A7 r.Limits.length c7] 44)).alloc (.cells #[.slice A n c] 42)).alloc (.cells #[.int .i64 s.X, .int .i64 s.Y, .int .i64 s.D] 47)).alloc (.cells #[.int .i64 t.X, .int .i64 t.Y, .int .i64 t.D] 47)).alloc (.cells #[.int .i64 0, .int .i64 0, .int .i64 0] 47)).alloc (.cells #[.int .i64 0, .int .i64 0] 74)) (w.heap.size + 1 + 1 + 1 + 1) 47 #[.int .i64 0, .int .i64 0, .int .i64 0] := by
    have q := Blk.new ((((w.alloc (.cells #[.slice A0 r.Map.length c0, .int .i64 r.Div, .int .i64 r.Bx, .int .i64 r.By, .int .i64 r.Low, .int .i64 r.High, .slice A6 r.Noise.length c6, .slice A7 r.Limits.length c7] 44)).alloc (.cells #[.slice A n c] 42)).alloc (.cells #[.int .i64 s.X, .int .i64 s.Y, .int .i64 s.D] 47)).alloc (.cells #[.int .i64 t.X, .int .i64 t.Y, .int .i64 t.D] 47)) 47 #[.int .i64 0, .int .i64 0, .int .i64 0]
    replace q := q.alloc (.cells #[.int .i64 0, .int .i64 0] 74)
    simpa only [World.size_alloc] using q
  have bB : Blk ((((((w.alloc (.cells #[.slice A0 r.Map.length c0, .int .i64 r.Div, .int .i64 r.Bx, .int .i64 r.By, .int .i64 r.Low, .int .i64 r.High, .slice A6 r.Noise.length c6, .slice A7 r.Limits.length c7] 44)).alloc (.cells #[.slice A n c] 42)).alloc (.cells #[.int .i64 s.X, .int .i64 s.Y, .int .i64 s.D] 47)).alloc (.cells #[.int .i64 t.X, .int .i64 t.Y, .int .i64 t.D] 47)).alloc (.cells #[.int .i64 0, .int .i64 0, .int .i64 0] 47)).alloc (.cells #[.int .i64 0, .int .i64 0] 74)) (w.heap.size + 1 + 1 + 1 + 1 + 1) 74 #[.int .i64 0, .int .i64 0] := by
    have q := Blk.new (((((w.alloc (.cells #[.slice A0 r.Map.length c0, .int .i64 r.Div, .int .i64 r.Bx, .int .i64 r.By, .int .i64 r.Low, .int .i64 r.High, .slice A6 r.Noise.length c6, .slice A7 r.Limits.length c7] 44)).alloc (.cells #[.slice A n c] 42)).alloc (.cells #[.int .i64 s.X, .int .i64 s.Y, .int .i64 s.D] 47)).alloc (.cells #[.int .i64 t.X, .int .i64 t.Y, .int .i64 t.D] 47)).alloc (.cells #[.int .i64 0, .int .i64 0, .int .i64 0] 47)) 74 #[.int .i64 0, .int .i64 0]
    simpa only [World.size_alloc] using q
  clear hv ha hn hr hpk hsk ht hA
  generalize stepR r ps s z t = X at *
  generalize admAtR r ps s = AT_ at *
  have cA := fun o => bA.cell o
  have cB := fun o => bB.cell o
  have cbM_61 := fun o => bM.cell o
  have cbP_62 := fun o => bP.cell o
  have cbS_63 := fun o => bS.cell o
  have cbT_64 := fun o => bT.cell o
  have cbA_65 := fun o => bA.cell o
  have fbA_65 := fun o => bA.frozen o
  have cbB_66 := fun o => bB.cell o
  have fbB_66 := fun o => bB.frozen o
  go_enter Tryz.func41, Tryz.ntmps41
  go_wp2_with fail
  refine (HAd.out _ (HA.out.ext hx) (HR.out.ext hx)).mono ?_
  rintro e w2 ⟨rfl, hx2⟩
  replace hx := hx.trans hx2
  replace bM := bM.ext hx2
  replace bP := bP.ext hx2
  replace bS := bS.ext hx2
  replace bT := bT.ext hx2
  replace bA := bA.ext hx2
  replace bB := bB.ext hx2
  have cbM_67 := fun o => bM.cell o
  have cbP_68 := fun o => bP.cell o
  have cbS_69 := fun o => bS.cell o
  have cbT_70 := fun o => bT.cell o
  have cbA_71 := fun o => bA.cell o
  have fbA_71 := fun o => bA.frozen o
  have cbB_72 := fun o => bB.cell o
  have fbB_72 := fun o => bB.frozen o
  obtain ⟨⟨⟨ln, ld⟩, ⟨hn_, hd_⟩⟩, ok⟩ := AT_
  dsimp only at *
  have bW := Blk.new w2 89 #[.int .i64 ln, .int .i64 ld, .int .i64 hn_, .int .i64 hd_]
  have hy2 := hx
  have bA2 := bA
  have bB2 := bB
  have lA := bA.lt
  have lB := bB.lt
  have ha2 := (Ext.refl w2).alloc (.cells #[.int .i64 ln, .int .i64 ld, .int .i64 hn_, .int .i64 hd_] 89)
  replace hx := hx.trans ha2
  replace bM := bM.ext ha2
  replace bP := bP.ext ha2
  replace bS := bS.ext ha2
  replace bT := bT.ext ha2
  replace bA := bA.ext ha2
  replace bB := bB.ext ha2
  have cbM_73 := fun o => bM.cell o
  have cbP_74 := fun o => bP.cell o
  have cbS_75 := fun o => bS.cell o
  have cbT_76 := fun o => bT.cell o
  have cbA_77 := fun o => bA.cell o
  have fbA_77 := fun o => bA.frozen o
  have cbB_78 := fun o => bB.cell o
  have fbB_78 := fun o => bB.frozen o
  cases ok
  · have H := Lib.hid (HNo.out (fun h => by cases h.2.1))
    go_wp2
    obtain ⟨z1, z2⟩ := Blk.tt (by omega) bA2 bB2 (.int .i64 0) (.int .i64 0) (.int .i64 0) (.int .i64 0) (.int .i64 0)
    have d1 := fun o => (z1.alloc (.cells #[.int .i64 ln, .int .i64 ld, .int .i64 hn_, .int .i64 hd_] 89)).cell o
    have d2 := fun o => (z2.alloc (.cells #[.int .i64 ln, .int .i64 ld, .int .i64 hn_, .int .i64 hd_] 89)).cell o
    clear cA cB
    refine bodyPost_ret (v := .tuple #[.agg #[.int .i64 0, .int .i64 0, .int .i64 0], .agg #[.int .i64 0, .int .i64 0], .bool false]) (by simp [results, Tryz.results41, go_sem, d1, d2]) rfl ?_
    exact ⟨by rw [H.out]; rfl, by first | (with_reducible exact ((hy2).tt (by omega) (by omega) _ _ _ _ _).alloc _) | exact ((hy2).tt (by omega) (by omega) _ _ _ _ _).alloc _⟩
  clear hy2 bA2 bB2
  have hsp := HSp.out rfl
  obtain ⟨⟨i1, i2⟩, ⟨i3, i4⟩⟩ := span_I hsp
  have HPk := Lib.hid (fun w => specPickInput_any ln ld hn_ hd_ z w i1 i2 i3 i4)
  rw [specPick_eq] at HPk
  have hui := ratio_I (pickInput_ok hsp z)
  have HUI := Lib.hid hui
  generalize pickInput ⟨⟨ln, ld⟩, ⟨hn_, hd_⟩⟩ z = u at *
  clear hsp i1 i2 i3 i4 hui
  have HNu := Lib.hid (fun w ha => HNx.out u w ha HUI.out)
  obtain ⟨un, ud⟩ := u
  dsimp only at *
  generalize nextR (dynOf r) s ⟨un, ud⟩ t = NX at *
  obtain ⟨⟨x1, x2, x3⟩, ok⟩ := NX
  dsimp only at *
  go_wp2_with fail
  refine (HPk.out _).mono ?_
  rintro e w3 ⟨rfl, hx3⟩
  replace hx := hx.trans hx3
  replace bM := bM.ext hx3
  replace bP := bP.ext hx3
  replace bS := bS.ext hx3
  replace bT := bT.ext hx3
  replace bA := bA.ext hx3
  replace bB := bB.ext hx3
  replace bW := bW.ext hx3
  have cbM_79 := fun o => bM.cell o
  have cbP_80 := fun o => bP.cell o
  have cbS_81 := fun o => bS.cell o
  have cbT_82 := fun o => bT.cell o
  have cbA_83 := fun o => bA.cell o
  have fbA_83 := fun o => bA.frozen o
  have cbB_84 := fun o => bB.cell o
  have fbB_84 := fun o => bB.frozen o
  have cbW_85 := fun o => bW.cell o
  have lB3 := bB.lt
  have bU := Blk.new w3 74 #[.int .i64 un, .int .i64 ud]
  have ha3 := (Ext.refl w3).alloc (.cells #[.int .i64 un, .int .i64 ud] 74)
  replace hx := hx.trans ha3
  replace bM := bM.ext ha3
  replace bP := bP.ext ha3
  replace bS := bS.ext ha3
  replace bT := bT.ext ha3
  replace bA := bA.ext ha3
  replace bB := bB.ext ha3
  replace bW := bW.ext ha3
  have cbM_86 := fun o => bM.cell o
  have cbP_87 := fun o => bP.cell o
  have cbS_88 := fun o => bS.cell o
  have cbT_89 := fun o => bT.cell o
  have cbA_90 := fun o => bA.cell o
  have fbA_90 := fun o => bA.frozen o
  have cbB_91 := fun o => bB.cell o
  have fbB_91 := fun o => bB.frozen o
  have cbW_92 := fun o => bW.cell o
  go_wp2_with fail
  refine (HNu.out _ (HA.out.ext hx)).mono ?_
  rintro e w4 ⟨rfl, hx4⟩
  replace hx := hx.trans hx4
  replace bM := bM.ext hx4
  replace bP := bP.ext hx4
  replace bS := bS.ext hx4
  replace bT := bT.ext hx4
  replace bA := bA.ext hx4
  replace bB := bB.ext hx4
  replace bW := bW.ext hx4
  replace bU := bU.ext hx4
  have cbM_93 := fun o => bM.cell o
  have cbP_94 := fun o => bP.cell o
  have cbS_95 := fun o => bS.cell o
  have cbT_96 := fun o => bT.cell o
  have cbA_97 := fun o => bA.cell o
  have fbA_97 := fun o => bA.frozen o
  have cbB_98 := fun o => bB.cell o
  have fbB_98 := fun o => bB.frozen o
  have cbW_99 := fun o => bW.cell o
  have cbU_100 := fun o => bU.cell o
  have lU := bU.lt
  have cU4 := fun o => bU.cell o
  have cA4 := fun o => bA.cell o
  have cB4 := fun o => bB.cell o
  have fA4 := fun o => bA.frozen o
  have fB4 := fun o => bB.frozen o
  have bN := Blk.new w4 47 #[.int .i64 x1, .int .i64 x2, .int .i64 x3]
  have hy2 := hx
  have bA2 := bA
  have bB2 := bB
  have lA := bA.lt
  have lB := bB.lt
  have ha4 := (Ext.refl w4).alloc (.cells #[.int .i64 x1, .int .i64 x2, .int .i64 x3] 47)
  replace hx := hx.trans ha4
  replace bM := bM.ext ha4
  replace bP := bP.ext ha4
  replace bS := bS.ext ha4
  replace bT := bT.ext ha4
  replace bA := bA.ext ha4
  replace bB := bB.ext ha4
  replace bW := bW.ext ha4
  replace bU := bU.ext ha4
  have cbM_101 := fun o => bM.cell o
  have cbP_102 := fun o => bP.cell o
  have cbS_103 := fun o => bS.cell o
  have cbT_104 := fun o => bT.cell o
  have cbA_105 := fun o => bA.cell o
  have fbA_105 := fun o => bA.frozen o
  have cbB_106 := fun o => bB.cell o
  have fbB_106 := fun o => bB.frozen o
  have cbW_107 := fun o => bW.cell o
  have cbU_108 := fun o => bU.cell o
  cases ok
  · have H := Lib.hid (HNo.out (fun h => by cases h.2.2))
    go_wp2
    obtain ⟨z1, z2⟩ := Blk.tt (by omega) bA2 bB2 (.int .i64 0) (.int .i64 0) (.int .i64 0) (.int .i64 0) (.int .i64 0)
    have d1 := fun o => (z1.alloc (.cells #[.int .i64 x1, .int .i64 x2, .int .i64 x3] 47)).cell o
    have d2 := fun o => (z2.alloc (.cells #[.int .i64 x1, .int .i64 x2, .int .i64 x3] 47)).cell o
    clear cA cB
    refine bodyPost_ret (v := .tuple #[.agg #[.int .i64 0, .int .i64 0, .int .i64 0], .agg #[.int .i64 0, .int .i64 0], .bool false]) (by simp [results, Tryz.results41, go_sem, d1, d2]) rfl ?_
    exact ⟨by rw [H.out]; rfl, by first | (with_reducible exact ((hy2).tt (by omega) (by omega) _ _ _ _ _).alloc _) | exact ((hy2).tt (by omega) (by omega) _ _ _ _ _).alloc _⟩
  have H := Lib.hid (HYes.out (by first | rfl | trivial) (by first | rfl | trivial))
  have n1 : w3.heap.size ≠ w.heap.size + 1 + 1 + 1 + 1 := by omega
  have n2 : w.heap.size + 1 + 1 + 1 + 1 ≠ w3.heap.size := by omega
  have n3 : w3.heap.size ≠ w.heap.size + 1 + 1 + 1 + 1 + 1 := by omega
  have n4 : w.heap.size + 1 + 1 + 1 + 1 + 1 ≠ w3.heap.size := by omega
  have n5 : w3.heap.size ≠ w4.heap.size := by omega
  go_wp2
  go_region
  all_goals
    go_wp2
    obtain ⟨y1, y2⟩ := Blk.tt (by omega) bA2 bB2 (.int .i64 x1) (.int .i64 x2) (.int .i64 x3) (.int .i64 un) (.int .i64 ud)
    have z1 := (y1.alloc (.cells #[.int .i64 x1, .int .i64 x2, .int .i64 x3] 47)).ext (Ext.refl _).drew
    have z2 := (y2.alloc (.cells #[.int .i64 x1, .int .i64 x2, .int .i64 x3] 47)).ext (Ext.refl _).drew
    have d1 := fun o => z1.cell o
    have d2 := fun o => z2.cell o
    clear cA cB cA4 cB4
    rw [H.out]
    refine bodyPost_ret (v := .tuple #[.agg #[.int .i64 x1, .int .i64 x2, .int .i64 x3], .agg #[.int .i64 un, .int .i64 ud], .bool true]) (by simp [results, Tryz.results41, go_sem, d1, d2]) rfl ?_
    exact ⟨rfl, ((hy2.tt (by omega) (by omega) _ _ _ _ _).alloc _).drew⟩

end Go.Proofs.YtbbdipfioopfmaaGreat
