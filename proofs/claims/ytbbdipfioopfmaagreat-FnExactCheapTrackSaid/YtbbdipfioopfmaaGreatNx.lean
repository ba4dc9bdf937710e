/- Contracts of the next state: next of the program, NextSpot of the reference. (written by tools/mkNx.py) -/
import Derived.Test.YtbbdipfioopfmaaGreatPlX
import Derived.Test.YtbbdipfioopfmaaGreatCo
import Derived.Test.YtbbdipfioopfmaaGreatRo
namespace Go.Proofs.YtbbdipfioopfmaaGreat
open Go.ChangeShapes Go.WideShapes Go.ChangeAt Go.RowKit
set_option linter.unusedVariables false
set_option maxRecDepth 100000

def NextMade (x : Spot × Bool) (w : World) (e : Ending) (w' : World) : Prop := e = .returned (.tuple #[.agg #[.int .i64 x.1.X, .int .i64 x.1.Y, .int .i64 x.1.D], .bool x.2]) ∧ Ext w w'
theorem ext_set3 {w V : World} {g : Nat} (h : Ext w V) (hg : w.heap.size ≤ g) (a b c : Value) : Ext w (((V.setCell ⟨g, 0, none⟩ a).setCell ⟨g, 1, none⟩ b).setCell ⟨g, 2, none⟩ c) :=
  ((h.setCell (p := ⟨g, 0, none⟩) hg _).setCell (p := ⟨g, 1, none⟩) hg _).setCell (p := ⟨g, 2, none⟩) hg _

set_option maxHeartbeats 16000000 in
theorem implNext_ok (r : Room) (A0 A6 A7 : Option Addr) (c0 c6 c7 : Nat) (s t : Spot) (u : Ratio) (w : World) (hv : RoomV r) (ha : RoomHere w r A0 A6 A7 c0 c6 c7) (hs : I64 s.X ∧ I64 s.Y ∧ I64 s.D) (ht : I64 t.X ∧ I64 t.Y ∧ I64 t.D) (hu : I64 u.N ∧ I64 u.D) :
    Calls Tryz.prog 67 #[.agg #[.slice A0 r.Map.length c0, .int .i64 r.Div, .int .i64 r.Bx, .int .i64 r.By, .int .i64 r.Low, .int .i64 r.High, .slice A6 r.Noise.length c6, .slice A7 r.Limits.length c7], .agg #[.int .i64 s.X, .int .i64 s.Y, .int .i64 s.D], .agg #[.int .i64 u.N, .int .i64 u.D], .agg #[.int .i64 t.X, .int .i64 t.Y, .int .i64 t.D]] w (NextMade (nextR (dynOf r) s u t) w) := by
  unfold NextMade
  obtain ⟨hd, hM⟩ := hv.dyn
  have HS := Lib.hid (fun w => implSpotOk_any s.X s.Y s.D w hs.1 hs.2.1 hs.2.2)
  change Hid (∀ w, Calls Tryz.prog 58 #[.agg #[.int .i64 s.X, .int .i64 s.Y, .int .i64 s.D]] w fun e w' => e = .returned (.bool (spotOk s)) ∧ Ext w w') at HS
  have HT := Lib.hid (fun w => implSpotOk_any t.X t.Y t.D w ht.1 ht.2.1 ht.2.2)
  change Hid (∀ w, Calls Tryz.prog 58 #[.agg #[.int .i64 t.X, .int .i64 t.Y, .int .i64 t.D]] w fun e w' => e = .returned (.bool (spotOk t)) ∧ Ext w w') at HT
  have HU := Lib.hid (fun w => isDriven_any u.N u.D w hu.1 hu.2)
  change Hid (∀ w, Calls Tryz.prog 100 #[.agg #[.int .i64 u.N, .int .i64 u.D]] w fun e w' => e = .returned (.bool (isDriven u)) ∧ Ext w w') at HU
  have HMp : Hid (SpotS s → ∀ w, Row w A0 (ints [(dynOf r).a, (dynOf r).b, (dynOf r).c, (dynOf r).d]) → Calls Tryz.prog 91 #[.agg #[.int .i64 s.X, .int .i64 s.Y, .int .i64 s.D], .slice A0 4 c0, .int .i64 r.Div] w fun e w' => e = .returned (.tuple #[.int .i64 (mapX (dynOf r) s), .int .i64 (mapY (dynOf r) s), .int .i64 (mapD (dynOf r) s)]) ∧ Ext w w') := fun hs w hm => mapped_ok (dynOf r) A0 c0 s w hd hs hm
  have HNo := Lib.hid (fun h => nextR_no (r := dynOf r) (s := s) (t := t) (u := u) h)
  have HYes := Lib.hid (fun h => nextR_yes (r := dynOf r) (s := s) (t := t) (u := u) h)
  have HSt := Lib.hid (fun h => StepS.of (r := dynOf r) (s := s) (t := t) (u := u) hd h)
  have HX : Hid (nextOk s t u = (spotOk s && spotOk t && decide (s.D ≤ 100000) && decide (t.D ≤ 1000) && decide (u.D ≤ 1000) && isDriven u)) := rfl
  have hm := ha.at_.m
  rw [hM] at hm
  have HR := Lib.hid hm
  have hx : Ext w (((((w.alloc (.cells #[.slice A0 r.Map.length c0, .int .i64 r.Div, .int .i64 r.Bx, .int .i64 r.By, .int .i64 r.Low, .int .i64 r.High, .slice A6 r.Noise.length c6, .slice A7 r.Limits.length c7] 44)).alloc (.cells #[.int .i64 s.X, .int .i64 s.Y, .int .i64 s.D] 47)).alloc (.cells #[.int .i64 u.N, .int .i64 u.D] 74)).alloc (.cells #[.int .i64 t.X, .int .i64 t.Y, .int .i64 t.D] 47)).alloc (.cells #[.int .i64 0, .int .i64 0, .int .i64 0] 47)) := by repeat (first | exact Ext.refl _ | refine Ext.alloc ?_ _)
  have bM : Blk (((((w.alloc (.cells #[.slice A0 r.Map.length c0, .int .i64 r.Div, .int .i64 r.Bx, .int .i64 r.By, .int .i64 r.Low, .int .i64 r.High, .slice A6 r.Noise.length c6, .slice A7 r.Limits.length c7] 44)).alloc (.cells #[.int .i64 s.X, .int .i64 s.Y, .int .i64 s.D] 47)).alloc (.cells #[.int .i64 u.N, .int .i64 u.D] 74)).alloc (.cells #[.int .i64 t.X, .int .i64 t.Y, .int .i64 t.D] 47)).alloc (.cells #[.int .i64 0, .int .i64 0, .int .i64 0] 47)) (w.heap.size) 44 #[.slice A0 r.Map.length c0, .int .i64 r.Div, .int .i64 r.Bx, .int .i64 r.By, .int .i64 r.Low, .int .i64 r.High, .slice A6 r.Noise.length c6, .slice A7 r.Limits.length c7] := by
    have q := Blk.new w 44 #[.slice A0 r.Map.length c0, .int .i64 r.Div, .int .i64 r.Bx, .int .i64 r.By, .int .i64 r.Low, .int .i64 r.High, .slice A6 r.Noise.length c6, .slice A7 r.Limits.length c7]
    replace q := q.alloc (.cells #[.int .i64 s.X, .int .i64 s.Y, .int .i64 s.D] 47)
    replace q := q.alloc (.cells #[.int .i64 u.N, .int .i64 u.D] 74)
    replace q := q.alloc (.cells #[.int .i64 t.X, .int .i64 t.Y, .int .i64 t.D] 47)
    replace q := q.alloc (.cells #[.int .i64 0, .int .i64 0, .int .i64 0] 47)
    simpa only [World.size_alloc] using q
  have bS : Blk (((((w.alloc (.cells #[.slice A0 r.Map.length c0, .int .i64 r.Div, .int .i64 r.Bx, .int .i64 r.By, .int .i64 r.Low, .int .i64 r.High, .slice A6 r.Noise.length c6, .slice A7 r.Limits.length c7] 44)).alloc (.cells #[.int .i64 s.X, .int .i64 s.Y, .int .i64 s.D] 47)).alloc (.cells #[.int .i64 u.N, .int .i64 u.D] 74)).alloc (.cells #[.int .i64 t.X, .int .i64 t.Y, .int .i64 t.D] 47)).alloc (.cells #[.int .i64 0, .int .i64 0, .int .i64 0] 47)) (w.heap.size + 1) 47 #[.int .i64 s.X, .int .i64 s.Y, .int .i64 s.D] := by
    have q := Blk.new (w.alloc (.cells #[.slice A0 r.Map.length c0, .int .i64 r.Div, .int .i64 r.Bx, .int .i64 r.By, .int .i64 r.Low, .int .i64 r.High, .slice A6 r.Noise.length c6, .slice A7 r.Limits.length c7] 44)) 47 #[.int .i64 s.X, .int .i64 s.Y, .int .i64 s.D]
    replace q := q.alloc (.cells #[.int .i64 u.N, .int .i64 u.D] 74)
    replace q := q.alloc (.cells #[.int .i64 t.X, .int .i64 t.Y, .int .i64 t.D] 47)
    replace q := q.alloc (.cells #[.int .i64 0, .int .i64 0, .int .i64 0] 47)
    simpa only [World.size_alloc] using q
  have bU : Blk (((((w.alloc (.cells #[.slice A0 r.Map.length c0, .int .i64 r.Div, .int .i64 r.Bx, .int .i64 r.By, .int .i64 r.Low, .int .i64 r.High, .slice A6 r.Noise.length c6, .slice A7 r.Limits.length c7] 44)).alloc (.cells #[.int .i64 s.X, .int .i64 s.Y, .int .i64 s.D] 47)).alloc (.cells #[.int .i64 u.N, .int .i64 u.D] 74)).alloc (.cells #[.int .i64 t.X, .int .i64 t.Y, .int .i64 t.D] 47)).alloc (.cells #[.int .i64 0, .int .i64 0, .int .i64 0] 47)) (w.heap.size + 1 + 1) 74 #[.int .i64 u.N, .int .i64 u.D] := by
    have q := Blk.new ((w.alloc (.cells #[.slice A0 r.Map.length c0, .int .i64 r.Div, .int .i64 r.Bx, .int .i64 r.By, .int .i64 r.Low, .int .i64 r.High, .slice A6 r.Noise.length c6, .slice A7 r.Limits.length c7] 44)).alloc (.cells #[.int .i64 s.X, .int .i64 s.Y, .int .i64 s.D] 47)) 74 #[.int .i64 u.N, .int .i64 u.D]
    replace q := q.alloc (.cells #[.int .i64 t.X, .int .i64 t.Y, .int .i64 t.D] 47)
    replace q := q.alloc (.cells #[.int .i64 0, .int .i64 0, .int .i64 0] 47)
    simpa only [World.size_alloc] using q
  have bT : Blk (((((w.alloc (.cells #[.slice A0 r.Map.length c0, .int .i64 r.Div, .int .i64 r.Bx, .int .i64 r.By, .int .i64 r.Low, .int .i64 r.High, .slice A6 r.Noise.length c6, .slice A7 r.Limits.length c7] 44)).alloc (.cells #[.int .i64 s.X, .int .i64 s.Y, .int .i64 s.D] 47)).alloc (.cells #[.int .i64 u.N, .int .i64 u.D] 74)).alloc (.cells #[.int .i64 t.X, .int .i64 t.Y, .int .i64 t.D] 47)).alloc (.cells #[.int .i64 0, .int .i64 0, .int .i64 0] 47)) (w.heap.size + 1 + 1 + 1) 47 #[.int .i64 t.X, .int .i64 t.Y, .int .i64 t.D] := by
    have q := Blk.new (((w.alloc (.cells #[.slice A0 r.Map.length c0, .int .i64 r.Div, .int .i64 r.Bx, .int .i64 r.By, .int .i64 r.Low, .int .i64 r.High, .slice A6 r.Noise.length c6, .slice A7 r.Limits.length c7] 44)).alloc (.cells #[.int .i64 s.X, .int .i64 s.Y, .int .i64 s.D] 47)).alloc (.cells #[.int .i64 u.N, .int .i64 u.D] 74)) 47 #[.int .i64 t.X, .int .i64 t.Y, .int .i64 t.D]
    replace q := q.alloc (.cells #[.int .i64 0, .int .i64 0, .int .i64 0] 47)
    simpa only [World.size_alloc] using q
  have bR : Blk (((((w.alloc (.cells #[.slice A0 r.Map.length c0, .int .i64 r.Div, .int .i64 r.Bx, .int .i64 r.By, .int .i64 r.Low, .int .i64 r.High, .slice A6 r.Noise.length c6, .slice A7 r.Limits.length c7] 44)).alloc (.cells #[.int .i64 s.X, .int .i64 s.Y, .int .i64 s.D] 47)).alloc (.cells #[.int .i64 u.N, .int .i64 u.D] 74)).alloc (.cells #[.int .i64 t.X, .int .i64 t.Y, .int .i64 t.D] 47)).alloc (.cells #[.int .i64 0, .int .i64 0, .int .i64 0] 47)) (w.heap.size + 1 + 1 + 1 + 1) 47 #[.int .i64 0, .int .i64 0, .int .i64 0] := by
    have q := Blk.new ((((w.alloc (.cells #[.slice A0 r.Map.length c0, .int .i64 r.Div, .int .i64 r.Bx, .int .i64 r.By, .int .i64 r.Low, .int .i64 r.High, .slice A6 r.Noise.length c6, .slice A7 r.Limits.length c7] 44)).alloc (.cells #[.int .i64 s.X, .int .i64 s.Y, .int .i64 s.D] 47)).alloc (.cells #[.int .i64 u.N, .int .i64 u.D] 74)).alloc (.cells #[.int .i64 t.X, .int .i64 t.Y, .int .i64 t.D] 47)) 47 #[.int .i64 0, .int .i64 0, .int .i64 0]
    simpa only [World.size_alloc] using q
  have hl4 : r.Map.length = 4 := by rw [hM]; rfl
  rw [hl4] at bM bS bU bT bR hx ⊢
  clear hl4 hM hm ha hv hd hs ht hu
  generalize nextR (dynOf r) s u t = X at *
  obtain ⟨o1, ho1⟩ : ∃ o, spotOk s = o := ⟨_, rfl⟩
  obtain ⟨o2, ho2⟩ : ∃ o, spotOk t = o := ⟨_, rfl⟩
  obtain ⟨o3, ho3⟩ : ∃ o, isDriven u = o := ⟨_, rfl⟩
  rw [ho1, ho2, ho3] at HX
  rw [ho1] at HS
  rw [ho2] at HT
  rw [ho3] at HU
  clear ho1 ho2 ho3
  have cbM_1 := fun o => bM.cell o
  have cbS_2 := fun o => bS.cell o
  have cbU_3 := fun o => bU.cell o
  have cbT_4 := fun o => bT.cell o
  have cbR_5 := fun o => bR.cell o
  have fbR_5 := fun o => bR.frozen o
  go_enter Tryz.func67, Tryz.ntmps67
  go_wp2_with fail
  refine (HS.out _).mono ?_
  rintro e w1 ⟨rfl, hx1⟩
  replace hx := hx.trans hx1
  replace bM := bM.ext hx1
  replace bS := bS.ext hx1
  replace bU := bU.ext hx1
  replace bT := bT.ext hx1
  replace bR := bR.ext hx1
  have cbM_6 := fun o => bM.cell o
  have cbS_7 := fun o => bS.cell o
  have cbU_8 := fun o => bU.cell o
  have cbT_9 := fun o => bT.cell o
  have cbR_10 := fun o => bR.cell o
  have fbR_10 := fun o => bR.frozen o
  cases o1
  · have H := Lib.hid (HNo.out (by rw [HX.out]; simp))
    go_wp2
    have bF := ((bR.set_ 0 (.int .i64 0)).set_ 1 (.int .i64 0)).set_ 2 (.int .i64 0)
    have cF := fun o => bF.cell o
    refine bodyPost_ret (v := .tuple #[.agg #[.int .i64 0, .int .i64 0, .int .i64 0], .bool false]) (by simp [results, Tryz.results67, go_sem, cF]) rfl ?_
    exact ⟨by rw [H.out], ext_set3 hx (by omega) _ _ _⟩
  go_wp2_with fail
  refine (HT.out _).mono ?_
  rintro e w2 ⟨rfl, hx2⟩
  replace hx := hx.trans hx2
  replace bM := bM.ext hx2
  replace bS := bS.ext hx2
  replace bU := bU.ext hx2
  replace bT := bT.ext hx2
  replace bR := bR.ext hx2
  have cbM_11 := fun o => bM.cell o
  have cbS_12 := fun o => bS.cell o
  have cbU_13 := fun o => bU.cell o
  have cbT_14 := fun o => bT.cell o
  have cbR_15 := fun o => bR.cell o
  have fbR_15 := fun o => bR.frozen o
  cases o2
  · have H := Lib.hid (HNo.out (by rw [HX.out]; simp))
    go_wp2
    have bF := ((bR.set_ 0 (.int .i64 0)).set_ 1 (.int .i64 0)).set_ 2 (.int .i64 0)
    have cF := fun o => bF.cell o
    refine bodyPost_ret (v := .tuple #[.agg #[.int .i64 0, .int .i64 0, .int .i64 0], .bool false]) (by simp [results, Tryz.results67, go_sem, cF]) rfl ?_
    exact ⟨by rw [H.out], ext_set3 hx (by omega) _ _ _⟩
  by_cases h3 : 100000 < s.D
  · have H := Lib.hid (HNo.out (by rw [HX.out]; rw [decide_eq_false (show ¬ s.D ≤ 100000 by omega)]; simp))
    go_wp2
    have bF := ((bR.set_ 0 (.int .i64 0)).set_ 1 (.int .i64 0)).set_ 2 (.int .i64 0)
    have cF := fun o => bF.cell o
    refine bodyPost_ret (v := .tuple #[.agg #[.int .i64 0, .int .i64 0, .int .i64 0], .bool false]) (by simp [results, Tryz.results67, go_sem, cF]) rfl ?_
    exact ⟨by rw [H.out], ext_set3 hx (by omega) _ _ _⟩
  by_cases h4 : 1000 < t.D
  · have H := Lib.hid (HNo.out (by rw [HX.out]; rw [decide_eq_false (show ¬ t.D ≤ 1000 by omega)]; simp))
    go_wp2
    have bF := ((bR.set_ 0 (.int .i64 0)).set_ 1 (.int .i64 0)).set_ 2 (.int .i64 0)
    have cF := fun o => bF.cell o
    refine bodyPost_ret (v := .tuple #[.agg #[.int .i64 0, .int .i64 0, .int .i64 0], .bool false]) (by simp [results, Tryz.results67, go_sem, cF]) rfl ?_
    exact ⟨by rw [H.out], ext_set3 hx (by omega) _ _ _⟩
  by_cases h5 : 1000 < u.D
  · have H := Lib.hid (HNo.out (by rw [HX.out]; rw [decide_eq_false (show ¬ u.D ≤ 1000 by omega)]; simp))
    go_wp2
    have bF := ((bR.set_ 0 (.int .i64 0)).set_ 1 (.int .i64 0)).set_ 2 (.int .i64 0)
    have cF := fun o => bF.cell o
    refine bodyPost_ret (v := .tuple #[.agg #[.int .i64 0, .int .i64 0, .int .i64 0], .bool false]) (by simp [results, Tryz.results67, go_sem, cF]) rfl ?_
    exact ⟨by rw [H.out], ext_set3 hx (by omega) _ _ _⟩
  have b3 : decide (100000 < s.D) = false := decide_eq_false h3
  have b4 : decide (1000 < t.D) = false := decide_eq_false h4
  have b5 : decide (1000 < u.D) = false := decide_eq_false h5
  go_wp2_with fail
  refine (HU.out _).mono ?_
  rintro e w3 ⟨rfl, hx3⟩
  replace hx := hx.trans hx3
  replace bM := bM.ext hx3
  replace bS := bS.ext hx3
  replace bU := bU.ext hx3
  replace bT := bT.ext hx3
  replace bR := bR.ext hx3
  have cbM_16 := fun o => bM.cell o
  have cbS_17 := fun o => bS.cell o
  have cbU_18 := fun o => bU.cell o
  have cbT_19 := fun o => bT.cell o
  have cbR_20 := fun o => bR.cell o
  have fbR_20 := fun o => bR.frozen o
  cases o3
  · have H := Lib.hid (HNo.out (by rw [HX.out]; simp))
    go_wp2
    have bF := ((bR.set_ 0 (.int .i64 0)).set_ 1 (.int .i64 0)).set_ 2 (.int .i64 0)
    have cF := fun o => bF.cell o
    refine bodyPost_ret (v := .tuple #[.agg #[.int .i64 0, .int .i64 0, .int .i64 0], .bool false]) (by simp [results, Tryz.results67, go_sem, cF]) rfl ?_
    exact ⟨by rw [H.out], ext_set3 hx (by omega) _ _ _⟩
  have hok : nextOk s t u = true := by rw [HX.out, decide_eq_true (show s.D ≤ 100000 by omega), decide_eq_true (show t.D ≤ 1000 by omega), decide_eq_true (show u.D ≤ 1000 by omega)]; rfl
  have hst := HSt.out hok
  have b := hst.bd
  have H := Lib.hid (HYes.out hok)
  have HMq := Lib.hid (HMp.out hst.s)
  have q1 := b.xu
  have q2 := b.yu
  have q3 : -100000000 ≤ r.Bx * u.N ∧ r.Bx * u.N ≤ 100000000 := b.bx
  have q4 : -100000000 ≤ r.By * u.N ∧ r.By * u.N ≤ 100000000 := b.by_
  have q5 : -200000000000000 ≤ r.Bx * u.N * mapD (dynOf r) s ∧ r.Bx * u.N * mapD (dynOf r) s ≤ 200000000000000 := b.bxd
  have q6 : -200000000000000 ≤ r.By * u.N * mapD (dynOf r) s ∧ r.By * u.N * mapD (dynOf r) s ≤ 200000000000000 := b.byd
  have q7 := b.du
  have q8 : -300000000000000000 ≤ (mapX (dynOf r) s * u.D + r.Bx * u.N * mapD (dynOf r) s) * t.D ∧ (mapX (dynOf r) s * u.D + r.Bx * u.N * mapD (dynOf r) s) * t.D ≤ 300000000000000000 := b.xt
  have q9 : -300000000000000000 ≤ (mapY (dynOf r) s * u.D + r.By * u.N * mapD (dynOf r) s) * t.D ∧ (mapY (dynOf r) s * u.D + r.By * u.N * mapD (dynOf r) s) * t.D ≤ 300000000000000000 := b.yt
  have q10 := b.tx
  have q11 := b.ty
  have q12 : 1 ≤ mapD (dynOf r) s * u.D * t.D ∧ mapD (dynOf r) s * u.D * t.D ≤ 2000000000000 := b.dt
  have eX : stepX (dynOf r) s t u = (mapX (dynOf r) s * u.D + r.Bx * u.N * mapD (dynOf r) s) * t.D + t.X * (mapD (dynOf r) s * u.D) := rfl
  have eY : stepY (dynOf r) s t u = (mapY (dynOf r) s * u.D + r.By * u.N * mapD (dynOf r) s) * t.D + t.Y * (mapD (dynOf r) s * u.D) := rfl
  have eD : stepD (dynOf r) s t u = mapD (dynOf r) s * u.D * t.D := rfl
  generalize stepX (dynOf r) s t u = SX at *
  generalize stepY (dynOf r) s t u = SY at *
  generalize stepD (dynOf r) s t u = SD at *
  generalize mapX (dynOf r) s = x at *
  generalize mapY (dynOf r) s = y at *
  generalize mapD (dynOf r) s = d at *
  have w1 : IntKind.i64.wrap (x * u.D) = x * u.D := IntWalk.i64_in _ (by omega)
  have w2 : IntKind.i64.wrap (r.Bx * u.N) = r.Bx * u.N := IntWalk.i64_in _ (by omega)
  have w3 : IntKind.i64.wrap (r.Bx * u.N * d) = r.Bx * u.N * d := IntWalk.i64_in _ (by omega)
  have w4 : IntKind.i64.wrap (x * u.D + r.Bx * u.N * d) = x * u.D + r.Bx * u.N * d := IntWalk.i64_in _ (by omega)
  have w5 : IntKind.i64.wrap (y * u.D) = y * u.D := IntWalk.i64_in _ (by omega)
  have w6 : IntKind.i64.wrap (r.By * u.N) = r.By * u.N := IntWalk.i64_in _ (by omega)
  have w7 : IntKind.i64.wrap (r.By * u.N * d) = r.By * u.N * d := IntWalk.i64_in _ (by omega)
  have w8 : IntKind.i64.wrap (y * u.D + r.By * u.N * d) = y * u.D + r.By * u.N * d := IntWalk.i64_in _ (by omega)
  have w9 : IntKind.i64.wrap (d * u.D) = d * u.D := IntWalk.i64_in _ (by omega)
  have w10 : IntKind.i64.wrap ((x * u.D + r.Bx * u.N * d) * t.D) = (x * u.D + r.Bx * u.N * d) * t.D := IntWalk.i64_in _ (by omega)
  have w11 : IntKind.i64.wrap (t.X * (d * u.D)) = t.X * (d * u.D) := IntWalk.i64_in _ (by omega)
  have w12 : IntKind.i64.wrap ((x * u.D + r.Bx * u.N * d) * t.D + t.X * (d * u.D)) = SX := by rw [eX]; exact IntWalk.i64_in _ (by omega)
  have w13 : IntKind.i64.wrap ((y * u.D + r.By * u.N * d) * t.D) = (y * u.D + r.By * u.N * d) * t.D := IntWalk.i64_in _ (by omega)
  have w14 : IntKind.i64.wrap (t.Y * (d * u.D)) = t.Y * (d * u.D) := IntWalk.i64_in _ (by omega)
  have w15 : IntKind.i64.wrap ((y * u.D + r.By * u.N * d) * t.D + t.Y * (d * u.D)) = SY := by rw [eY]; exact IntWalk.i64_in _ (by omega)
  have w16 : IntKind.i64.wrap (d * u.D * t.D) = SD := by rw [eD]; exact IntWalk.i64_in _ (by omega)
  have HSo := Lib.hid (fun w => implSpotOf_any SX SY SD w (by unfold I64; omega) (by unfold I64; omega) (by unfold I64; omega))
  rw [← H.out] at HSo
  clear q1 q2 q3 q4 q5 q6 q7 q8 q9 q10 q11 q12 eX eY eD hok hst b h3 h4 h5
  obtain ⟨⟨z1, z2, z3⟩, ok⟩ := X
  dsimp only at *
  go_wp2_with fail
  refine (HMq.out _ (HR.out.ext hx)).mono ?_
  rintro e w4 ⟨rfl, hx4⟩
  replace hx := hx.trans hx4
  replace bM := bM.ext hx4
  replace bS := bS.ext hx4
  replace bU := bU.ext hx4
  replace bT := bT.ext hx4
  replace bR := bR.ext hx4
  have cbM_21 := fun o => bM.cell o
  have cbS_22 := fun o => bS.cell o
  have cbU_23 := fun o => bU.cell o
  have cbT_24 := fun o => bT.cell o
  have cbR_25 := fun o => bR.cell o
  have fbR_25 := fun o => bR.frozen o
  go_wp2_with fail
  refine (HSo.out _).mono ?_
  rintro e w5 ⟨rfl, hx5⟩
  replace hx := hx.trans hx5
  replace bM := bM.ext hx5
  replace bS := bS.ext hx5
  replace bU := bU.ext hx5
  replace bT := bT.ext hx5
  replace bR := bR.ext hx5
  have cbM_26 := fun o => bM.cell o
  have cbS_27 := fun o => bS.cell o
  have cbU_28 := fun o => bU.cell o
  have cbT_29 := fun o => bT.cell o
  have cbR_30 := fun o => bR.cell o
  have fbR_30 := fun o => bR.frozen o
  go_wp2
  have bF := ((bR.set_ 0 (.int .i64 z1)).set_ 1 (.int .i64 z2)).set_ 2 (.int .i64 z3)
  have cF := fun o => bF.cell o
  refine bodyPost_ret (v := .tuple #[.agg #[.int .i64 z1, .int .i64 z2, .int .i64 z3], .bool ok]) (by simp [results, Tryz.results67, go_sem, cF]) rfl ?_
  exact ⟨rfl, ext_set3 hx (by omega) _ _ _⟩

set_option maxHeartbeats 32000000 in
theorem specNext_ok (r : Room) (A0 A6 A7 : Option Addr) (c0 c6 c7 : Nat) (s t : Spot) (u : Ratio) (w : World) (hv : RoomV r) (ha : RoomHere w r A0 A6 A7 c0 c6 c7) (hs : I64 s.X ∧ I64 s.Y ∧ I64 s.D) (ht : I64 t.X ∧ I64 t.Y ∧ I64 t.D) (hu : I64 u.N ∧ I64 u.D) :
    Calls Tryz.prog 56 #[.agg #[.slice A0 r.Map.length c0, .int .i64 r.Div, .int .i64 r.Bx, .int .i64 r.By, .int .i64 r.Low, .int .i64 r.High, .slice A6 r.Noise.length c6, .slice A7 r.Limits.length c7], .agg #[.int .i64 s.X, .int .i64 s.Y, .int .i64 s.D], .agg #[.int .i64 u.N, .int .i64 u.D], .agg #[.int .i64 t.X, .int .i64 t.Y, .int .i64 t.D]] w (NextMade (nextR (dynOf r) s u t) w) := by
  unfold NextMade
  obtain ⟨hd, hM⟩ := hv.dyn
  have HS := Lib.hid (fun w => specSpotOk_any s.X s.Y s.D w hs.1 hs.2.1 hs.2.2)
  change Hid (∀ w, Calls Tryz.prog 52 #[.agg #[.int .i64 s.X, .int .i64 s.Y, .int .i64 s.D]] w fun e w' => e = .returned (.bool (spotOk s)) ∧ Ext w w') at HS
  have HT := Lib.hid (fun w => specSpotOk_any t.X t.Y t.D w ht.1 ht.2.1 ht.2.2)
  change Hid (∀ w, Calls Tryz.prog 52 #[.agg #[.int .i64 t.X, .int .i64 t.Y, .int .i64 t.D]] w fun e w' => e = .returned (.bool (spotOk t)) ∧ Ext w w') at HT
  have HU := Lib.hid (fun w => specRatioOk_any u.N u.D w hu.1 hu.2)
  change Hid (∀ w, Calls Tryz.prog 82 #[.agg #[.int .i64 u.N, .int .i64 u.D]] w fun e w' => e = .returned (.bool (ratioOk u)) ∧ Ext w w') at HU
  have HRo := Lib.hid (fun w ha h6 h7 => specRoomOk_any r A0 A6 A7 c0 c6 c7 w ha h6 h7 hv.fi.1 hv.fi.2)
  rw [hv.ok] at HRo
  have HNo := Lib.hid (fun h => nextR_no (r := dynOf r) (s := s) (t := t) (u := u) h)
  have HYes := Lib.hid (fun h => nextR_yes (r := dynOf r) (s := s) (t := t) (u := u) h)
  have HSt := Lib.hid (fun h => StepS.of (r := dynOf r) (s := s) (t := t) (u := u) hd h)
  have HX : Hid (nextOk s t u = (spotOk s && spotOk t && decide (s.D ≤ 100000) && decide (t.D ≤ 1000) && decide (u.D ≤ 1000) && (ratioOk u && inR u.N (-1000 * u.D) (1000 * u.D)))) := rfl
  have HUb : Hid (ratioOk u = true → 1 ≤ u.D ∧ u.D ≤ 1000000000000000) := fun h => ⟨(ratioOk_bd h).1, (ratioOk_bd h).2.1⟩
  have hm := ha.at_.m
  rw [hM] at hm
  have HR := Lib.hid hm
  have HA := Lib.hid ha
  have hx : Ext w (((((w.alloc (.cells #[.slice A0 r.Map.length c0, .int .i64 r.Div, .int .i64 r.Bx, .int .i64 r.By, .int .i64 r.Low, .int .i64 r.High, .slice A6 r.Noise.length c6, .slice A7 r.Limits.length c7] 44)).alloc (.cells #[.int .i64 s.X, .int .i64 s.Y, .int .i64 s.D] 47)).alloc (.cells #[.int .i64 u.N, .int .i64 u.D] 74)).alloc (.cells #[.int .i64 t.X, .int .i64 t.Y, .int .i64 t.D] 47)).alloc (.cells #[.int .i64 0, .int .i64 0, .int .i64 0] 47)) := by repeat (first | exact Ext.refl _ | refine Ext.alloc ?_ _)
  have bM : Blk (((((w.alloc (.cells #[.slice A0 r.Map.length c0, .int .i64 r.Div, .int .i64 r.Bx, .int .i64 r.By, .int .i64 r.Low, .int .i64 r.High, .slice A6 r.Noise.length c6, .slice A7 r.Limits.length c7] 44)).alloc (.cells #[.int .i64 s.X, .int .i64 s.Y, .int .i64 s.D] 47)).alloc (.cells #[.int .i64 u.N, .int .i64 u.D] 74)).alloc (.cells #[.int .i64 t.X, .int .i64 t.Y, .int .i64 t.D] 47)).alloc (.cells #[.int .i64 0, .int .i64 0, .int .i64 0] 47)) (w.heap.size) 44 #[.slice A0 r.Map.length c0, .int .i64 r.Div, .int .i64 r.Bx, .int .i64 r.By, .int .i64 r.Low, .int .i64 r.High, .slice A6 r.Noise.length c6, .slice A7 r.Limits.length c7] := by
    have q := Blk.new w 44 #[.slice A0 r.Map.length c0, .int .i64 r.Div, .int .i64 r.Bx, .int .i64 r.By, .int .i64 r.Low, .int .i64 r.High, .slice A6 r.Noise.length c6, .slice A7 r.Limits.length c7]
    replace q := q.alloc (.cells #[.int .i64 s.X, .int .i64 s.Y, .int .i64 s.D] 47)
    replace q := q.alloc (.cells #[.int .i64 u.N, .int .i64 u.D] 74)
    replace q := q.alloc (.cells #[.int .i64 t.X, .int .i64 t.Y, .int .i64 t.D] 47)
    replace q := q.alloc (.cells #[.int .i64 0, .int .i64 0, .int .i64 0] 47)
    simpa only [World.size_alloc] using q
  have bS : Blk (((((w.alloc (.cells #[.slice A0 r.Map.length c0, .int .i64 r.Div, .int .i64 r.Bx, .int .i64 r.By, .int .i64 r.Low, .int .i64 r.High, .slice A6 r.Noise.length c6, .slice A7 r.Limits.length c7] 44)).alloc (.cells #[.int .i64 s.X, .int .i64 s.Y, .int .i64 s.D] 47)).alloc (.cells #[.int .i64 u.N, .int .i64 u.D] 74)).alloc (.cells #[.int .i64 t.X, .int .i64 t.Y, .int .i64 t.D] 47)).alloc (.cells #[.int .i64 0, .int .i64 0, .int .i64 0] 47)) (w.heap.size + 1) 47 #[.int .i64 s.X, .int .i64 s.Y, .int .i64 s.D] := by
    have q := Blk.new (w.alloc (.cells #[.slice A0 r.Map.length c0, .int .i64 r.Div, .int .i64 r.Bx, .int .i64 r.By, .int .i64 r.Low, .int .i64 r.High, .slice A6 r.Noise.length c6, .slice A7 r.Limits.length c7] 44)) 47 #[.int .i64 s.X, .int .i64 s.Y, .int .i64 s.D]
    replace q := q.alloc (.cells #[.int .i64 u.N, .int .i64 u.D] 74)
    replace q := q.alloc (.cells #[.int .i64 t.X, .int .i64 t.Y, .int .i64 t.D] 47)
    replace q := q.alloc (.cells #[.int .i64 0, .int .i64 0, .int .i64 0] 47)
    simpa only [World.size_alloc] using q
  have bU : Blk (((((w.alloc (.cells #[.slice A0 r.Map.length c0, .int .i64 r.Div, .int .i64 r.Bx, .int .i64 r.By, .int .i64 r.Low, .int .i64 r.High, .slice A6 r.Noise.length c6, .slice A7 r.Limits.length c7] 44)).alloc (.cells #[.int .i64 s.X, .int .i64 s.Y, .int .i64 s.D] 47)).alloc (.cells #[.int .i64 u.N, .int .i64 u.D] 74)).alloc (.cells #[.int .i64 t.X, .int .i64 t.Y, .int .i64 t.D] 47)).alloc (.cells #[.int .i64 0, .int .i64 0, .int .i64 0] 47)) (w.heap.size + 1 + 1) 74 #[.int .i64 u.N, .int .i64 u.D] := by
    have q := Blk.new ((w.alloc (.cells #[.slice A0 r.Map.length c0, .int .i64 r.Div, .int .i64 r.Bx, .int .i64 r.By, .int .i64 r.Low, .int .i64 r.High, .slice A6 r.Noise.length c6, .slice A7 r.Limits.length c7] 44)).alloc (.cells #[.int .i64 s.X, .int .i64 s.Y, .int .i64 s.D] 47)) 74 #[.int .i64 u.N, .int .i64 u.D]
    replace q := q.alloc (.cells #[.int .i64 t.X, .int .i64 t.Y, .int .i64 t.D] 47)
    replace q := q.alloc (.cells #[.int .i64 0, .int .i64 0, .int .i64 0] 47)
    simpa only [World.size_alloc] using q
  have bT : Blk (((((w.alloc (.cells #[.slice A0 r.Map.length c0, .int .i64 r.Div, .int .i64 r.Bx, .int .i64 r.By, .int .i64 r.Low, .int .i64 r.High, .slice A6 r.Noise.length c6, .slice A7 r.Limits.length c7] 44)).alloc (.cells #[.int .i64 s.X, .int .i64 s.Y, .int .i64 s.D] 47)).alloc (.cells #[.int .i64 u.N, .int .i64 u.D] 74)).alloc (.cells #[.int .i64 t.X, .int .i64 t.Y, .int .i64 t.D] 47)).alloc (.cells #[.int .i64 0, .int .i64 0, .int .i64 0] 47)) (w.heap.size + 1 + 1 + 1) 47 #[.int .i64 t.X, .int .i64 t.Y, .int .i64 t.D] := by
    have q := Blk.new (((w.alloc (.cells #[.slice A0 r.Map.length c0, .int .i64 r.Div, .int .i64 r.Bx, .int .i64 r.By, .int .i64 r.Low, .int .i64 r.High, .slice A6 r.Noise.length c6, .slice A7 r.Limits.length c7] 44)).alloc (.cells #[.int .i64 s.X, .int .i64 s.Y, .int .i64 s.D] 47)).alloc (.cells #[.int .i64 u.N, .int .i64 u.D] 74)) 47 #[.int .i64 t.X, .int .i64 t.Y, .int .i64 t.D]
    replace q := q.alloc (.cells #[.int .i64 0, .int .i64 0, .int .i64 0] 47)
    simpa only [World.size_alloc] using q
  have bR : Blk (((((w.alloc (.cells #[.slice A0 r.Map.length c0, .int .i64 r.Div, .int .i64 r.Bx, .int .i64 r.By, .int .i64 r.Low, .int .i64 r.High, .slice A6 r.Noise.length c6, .slice A7 r.Limits.length c7] 44)).alloc (.cells #[.int .i64 s.X, .int .i64 s.Y, .int .i64 s.D] 47)).alloc (.cells #[.int .i64 u.N, .int .i64 u.D] 74)).alloc (.cells #[.int .i64 t.X, .int .i64 t.Y, .int .i64 t.D] 47)).alloc (.cells #[.int .i64 0, .int .i64 0, .int .i64 0] 47)) (w.heap.size + 1 + 1 + 1 + 1) 47 #[.int .i64 0, .int .i64 0, .int .i64 0] := by
    have q := Blk.new ((((w.alloc (.cells #[.slice A0 r.Map.length c0, .int .i64 r.Div, .int .i64 r.Bx, .int .i64 r.By, .int .i64 r.Low, .int .i64 r.High, .slice A6 r.Noise.length c6, .slice A7 r.Limits.length c7] 44)).alloc (.cells #[.int .i64 s.X, .int .i64 s.Y, .int .i64 s.D] 47)).alloc (.cells #[.int .i64 u.N, .int .i64 u.D] 74)).alloc (.cells #[.int .i64 t.X, .int .i64 t.Y, .int .i64 t.D] 47)) 47 #[.int .i64 0, .int .i64 0, .int .i64 0]
    simpa only [World.size_alloc] using q
  have hl4 : r.Map.length = 4 := by rw [hM]; rfl
  rw [hl4] at bM bS bU bT bR hx HRo ⊢
  clear hl4 hM hm ha hv hd hs ht hu
  generalize nextR (dynOf r) s u t = X at *
  obtain ⟨o1, ho1⟩ : ∃ o, spotOk s = o := ⟨_, rfl⟩
  obtain ⟨o2, ho2⟩ : ∃ o, spotOk t = o := ⟨_, rfl⟩
  obtain ⟨o3, ho3⟩ : ∃ o, ratioOk u = o := ⟨_, rfl⟩
  rw [ho1, ho2, ho3] at HX
  rw [ho1] at HS
  rw [ho2] at HT
  rw [ho3] at HU HUb
  clear ho1 ho2 ho3
  have cbM_31 := fun o => bM.cell o
  have cbS_32 := fun o => bS.cell o
  have cbU_33 := fun o => bU.cell o
  have cbT_34 := fun o => bT.cell o
  have cbR_35 := fun o => bR.cell o
  have fbR_35 := fun o => bR.frozen o
  go_enter Tryz.func56, Tryz.ntmps56
  go_wp2_with fail
  refine (HRo.out _ (HA.out.ext hx).at_ HA.out.n6 HA.out.n7).mono ?_
  rintro e w1 ⟨rfl, hx1⟩
  replace hx := hx.trans hx1
  replace bM := bM.ext hx1
  replace bS := bS.ext hx1
  replace bU := bU.ext hx1
  replace bT := bT.ext hx1
  replace bR := bR.ext hx1
  have cbM_36 := fun o => bM.cell o
  have cbS_37 := fun o => bS.cell o
  have cbU_38 := fun o => bU.cell o
  have cbT_39 := fun o => bT.cell o
  have cbR_40 := fun o => bR.cell o
  have fbR_40 := fun o => bR.frozen o
  go_wp2_with fail
  refine (HS.out _).mono ?_
  rintro e w2 ⟨rfl, hx2⟩
  replace hx := hx.trans hx2
  replace bM := bM.ext hx2
  replace bS := bS.ext hx2
  replace bU := bU.ext hx2
  replace bT := bT.ext hx2
  replace bR := bR.ext hx2
  have cbM_41 := fun o => bM.cell o
  have cbS_42 := fun o => bS.cell o
  have cbU_43 := fun o => bU.cell o
  have cbT_44 := fun o => bT.cell o
  have cbR_45 := fun o => bR.cell o
  have fbR_45 := fun o => bR.frozen o
  cases o1
  · have H := Lib.hid (HNo.out (by rw [HX.out]; simp))
    go_wp2
    have bF := ((bR.set_ 0 (.int .i64 0)).set_ 1 (.int .i64 0)).set_ 2 (.int .i64 0)
    have cF := fun o => bF.cell o
    refine bodyPost_ret (v := .tuple #[.agg #[.int .i64 0, .int .i64 0, .int .i64 0], .bool false]) (by simp [results, Tryz.results56, go_sem, cF]) rfl ?_
    exact ⟨by rw [H.out], ext_set3 hx (by omega) _ _ _⟩
  go_wp2_with fail
  refine (HU.out _).mono ?_
  rintro e w3 ⟨rfl, hx3⟩
  replace hx := hx.trans hx3
  replace bM := bM.ext hx3
  replace bS := bS.ext hx3
  replace bU := bU.ext hx3
  replace bT := bT.ext hx3
  replace bR := bR.ext hx3
  have cbM_46 := fun o => bM.cell o
  have cbS_47 := fun o => bS.cell o
  have cbU_48 := fun o => bU.cell o
  have cbT_49 := fun o => bT.cell o
  have cbR_50 := fun o => bR.cell o
  have fbR_50 := fun o => bR.frozen o
  cases o3
  · have H := Lib.hid (HNo.out (by rw [HX.out]; simp))
    go_wp2
    have bF := ((bR.set_ 0 (.int .i64 0)).set_ 1 (.int .i64 0)).set_ 2 (.int .i64 0)
    have cF := fun o => bF.cell o
    refine bodyPost_ret (v := .tuple #[.agg #[.int .i64 0, .int .i64 0, .int .i64 0], .bool false]) (by simp [results, Tryz.results56, go_sem, cF]) rfl ?_
    exact ⟨by rw [H.out], ext_set3 hx (by omega) _ _ _⟩
  go_wp2_with fail
  refine (HT.out _).mono ?_
  rintro e w4 ⟨rfl, hx4⟩
  replace hx := hx.trans hx4
  replace bM := bM.ext hx4
  replace bS := bS.ext hx4
  replace bU := bU.ext hx4
  replace bT := bT.ext hx4
  replace bR := bR.ext hx4
  have cbM_51 := fun o => bM.cell o
  have cbS_52 := fun o => bS.cell o
  have cbU_53 := fun o => bU.cell o
  have cbT_54 := fun o => bT.cell o
  have cbR_55 := fun o => bR.cell o
  have fbR_55 := fun o => bR.frozen o
  cases o2
  · have H := Lib.hid (HNo.out (by rw [HX.out]; simp))
    go_wp2
    have bF := ((bR.set_ 0 (.int .i64 0)).set_ 1 (.int .i64 0)).set_ 2 (.int .i64 0)
    have cF := fun o => bF.cell o
    refine bodyPost_ret (v := .tuple #[.agg #[.int .i64 0, .int .i64 0, .int .i64 0], .bool false]) (by simp [results, Tryz.results56, go_sem, cF]) rfl ?_
    exact ⟨by rw [H.out], ext_set3 hx (by omega) _ _ _⟩
  by_cases h3 : 100000 < s.D
  · have H := Lib.hid (HNo.out (by rw [HX.out]; rw [decide_eq_false (show ¬ s.D ≤ 100000 by omega)]; simp))
    go_wp2
    have bF := ((bR.set_ 0 (.int .i64 0)).set_ 1 (.int .i64 0)).set_ 2 (.int .i64 0)
    have cF := fun o => bF.cell o
    refine bodyPost_ret (v := .tuple #[.agg #[.int .i64 0, .int .i64 0, .int .i64 0], .bool false]) (by simp [results, Tryz.results56, go_sem, cF]) rfl ?_
    exact ⟨by rw [H.out], ext_set3 hx (by omega) _ _ _⟩
  by_cases h4 : 1000 < t.D
  · have H := Lib.hid (HNo.out (by rw [HX.out]; rw [decide_eq_false (show ¬ t.D ≤ 1000 by omega)]; simp))
    go_wp2
    have bF := ((bR.set_ 0 (.int .i64 0)).set_ 1 (.int .i64 0)).set_ 2 (.int .i64 0)
    have cF := fun o => bF.cell o
    refine bodyPost_ret (v := .tuple #[.agg #[.int .i64 0, .int .i64 0, .int .i64 0], .bool false]) (by simp [results, Tryz.results56, go_sem, cF]) rfl ?_
    exact ⟨by rw [H.out], ext_set3 hx (by omega) _ _ _⟩
  by_cases h5 : 1000 < u.D
  · have H := Lib.hid (HNo.out (by rw [HX.out]; rw [decide_eq_false (show ¬ u.D ≤ 1000 by omega)]; simp))
    go_wp2
    have bF := ((bR.set_ 0 (.int .i64 0)).set_ 1 (.int .i64 0)).set_ 2 (.int .i64 0)
    have cF := fun o => bF.cell o
    refine bodyPost_ret (v := .tuple #[.agg #[.int .i64 0, .int .i64 0, .int .i64 0], .bool false]) (by simp [results, Tryz.results56, go_sem, cF]) rfl ?_
    exact ⟨by rw [H.out], ext_set3 hx (by omega) _ _ _⟩
  have b3 : decide (100000 < s.D) = false := decide_eq_false h3
  have b4 : decide (1000 < t.D) = false := decide_eq_false h4
  have b5 : decide (1000 < u.D) = false := decide_eq_false h5
  have hub := HUb.out (by first | rfl | trivial)
  have y1 : IntKind.i64.wrap (-1000 * u.D) = -1000 * u.D := IntWalk.i64_in _ (by omega)
  have y2 : IntKind.i64.wrap (1000 * u.D) = 1000 * u.D := IntWalk.i64_in _ (by omega)
  obtain ⟨o4, ho4⟩ : ∃ o, inR u.N (-1000 * u.D) (1000 * u.D) = o := ⟨_, rfl⟩
  rw [ho4] at HX
  go_wp2_with fail
  refine (l01In_any _ _ _ _).mono ?_
  rintro e w5 ⟨rfl, hw5⟩
  subst hw5
  rw [ho4]
  clear ho4
  cases o4
  · have H := Lib.hid (HNo.out (by rw [HX.out]; simp))
    go_wp2
    have bF := ((bR.set_ 0 (.int .i64 0)).set_ 1 (.int .i64 0)).set_ 2 (.int .i64 0)
    have cF := fun o => bF.cell o
    refine bodyPost_ret (v := .tuple #[.agg #[.int .i64 0, .int .i64 0, .int .i64 0], .bool false]) (by simp [results, Tryz.results56, go_sem, cF]) rfl ?_
    exact ⟨by rw [H.out], ext_set3 hx (by omega) _ _ _⟩
  clear y1 y2 hub
  have hok : nextOk s t u = true := by rw [HX.out, decide_eq_true (show s.D ≤ 100000 by omega), decide_eq_true (show t.D ≤ 1000 by omega), decide_eq_true (show u.D ≤ 1000 by omega)]; rfl
  have hst := HSt.out hok
  have H := Lib.hid ((HYes.out hok).trans (next_ref hst).symm)
  have hrf := hst.ref
  obtain ⟨q1, q2, q3, q4⟩ := map_parts hst.dyn hst.s
  obtain ⟨q5, q6, q7⟩ := map_bd hst.dyn hst.s
  have eX : mapX (dynOf r) s = (dynOf r).a * s.X + (dynOf r).b * s.Y := rfl
  have eY : mapY (dynOf r) s = (dynOf r).c * s.X + (dynOf r).d * s.Y := rfl
  have eD : mapD (dynOf r) s = r.Div * s.D := rfl
  have fX : refX (dynOf r) s t = mapX (dynOf r) s * t.D + t.X * mapD (dynOf r) s := rfl
  have fY : refY (dynOf r) s t = mapY (dynOf r) s * t.D + t.Y * mapD (dynOf r) s := rfl
  have fD : refD (dynOf r) s t = mapD (dynOf r) s * t.D := rfl
  have fS : refS (dynOf r) s t = lowSpot (refX (dynOf r) s t) (refY (dynOf r) s t) (refD (dynOf r) s t) := rfl
  have p1 := hrf.xt
  have p2 := hrf.yt
  have p3 := hrf.tx
  have p4 := hrf.ty
  have p5 := hrf.dt
  have p6 := hrf.xu
  have p7 := hrf.yu
  have p8 : -100000000 ≤ r.Bx * u.N ∧ r.Bx * u.N ≤ 100000000 := hrf.bx
  have p9 : -100000000 ≤ r.By * u.N ∧ r.By * u.N ≤ 100000000 := hrf.by_
  have p10 : -200000000000000000 ≤ r.Bx * u.N * (refS (dynOf r) s t).D ∧ r.Bx * u.N * (refS (dynOf r) s t).D ≤ 200000000000000000 := hrf.bxd
  have p11 : -200000000000000000 ≤ r.By * u.N * (refS (dynOf r) s t).D ∧ r.By * u.N * (refS (dynOf r) s t).D ≤ 200000000000000000 := hrf.byd
  have p12 := hrf.du
  have p13 := hrf.lx
  have p14 := hrf.ly
  have p15 := hrf.ld
  change Hid (X = spotOf ((refS (dynOf r) s t).X * u.D + r.Bx * u.N * (refS (dynOf r) s t).D) ((refS (dynOf r) s t).Y * u.D + r.By * u.N * (refS (dynOf r) s t).D) ((refS (dynOf r) s t).D * u.D)) at H
  obtain ⟨t1, t2, t3⟩ := low_tdiv (x := refX (dynOf r) s t) (y := refY (dynOf r) s t) (d := refD (dynOf r) s t) (by omega)
  rw [← fS] at t1 t2 t3
  have hgp := gcd3_pos (x := refX (dynOf r) s t) (y := refY (dynOf r) s t) (d := refD (dynOf r) s t) (by omega)
  have hg3 := gcdI_3 (x := refX (dynOf r) s t) (y := refY (dynOf r) s t) (d := refD (dynOf r) s t) (by unfold I64; omega) (by unfold I64; omega) (least_not (by omega)) (least_not (by omega)) (least_not (by omega))
  have hgI := gcdI_I64 (a := refX (dynOf r) s t) (b := refY (dynOf r) s t) (by unfold I64; omega) (by unfold I64; omega)
  have HG1 := Lib.hid (fun w => specGcd_any (refX (dynOf r) s t) (refY (dynOf r) s t) w (by unfold I64; omega) (by unfold I64; omega))
  have HG2 := Lib.hid (fun w => specGcd_any (gcdI (refX (dynOf r) s t) (refY (dynOf r) s t)) (refD (dynOf r) s t) w hgI.1 (by unfold I64; omega))
  rw [hg3] at HG2
  clear fS hst hok hrf hg3
  generalize gcdI (refX (dynOf r) s t) (refY (dynOf r) s t) = g1 at *
  have hgE : (0 : Int) < (gcd3 (refX (dynOf r) s t) (refY (dynOf r) s t) (refD (dynOf r) s t) : Int) := by omega
  generalize (gcd3 (refX (dynOf r) s t) (refY (dynOf r) s t) (refD (dynOf r) s t) : Int) = g at *
  generalize refX (dynOf r) s t = X0 at *
  generalize refY (dynOf r) s t = Y0 at *
  generalize refD (dynOf r) s t = D0 at *
  generalize refS (dynOf r) s t = Q at *
  obtain ⟨x1, y1, d1⟩ := Q
  dsimp only at *
  generalize mapX (dynOf r) s = x at *
  generalize mapY (dynOf r) s = y at *
  generalize mapD (dynOf r) s = d at *
  have v1 : IntKind.i64.wrap ((dynOf r).a * s.X) = (dynOf r).a * s.X := IntWalk.i64_in _ (by omega)
  have v2 : IntKind.i64.wrap ((dynOf r).b * s.Y) = (dynOf r).b * s.Y := IntWalk.i64_in _ (by omega)
  have v3 : IntKind.i64.wrap ((dynOf r).c * s.X) = (dynOf r).c * s.X := IntWalk.i64_in _ (by omega)
  have v4 : IntKind.i64.wrap ((dynOf r).d * s.Y) = (dynOf r).d * s.Y := IntWalk.i64_in _ (by omega)
  have v5 : IntKind.i64.wrap ((dynOf r).a * s.X + (dynOf r).b * s.Y) = x := by rw [eX]; exact IntWalk.i64_in _ (by omega)
  have v6 : IntKind.i64.wrap ((dynOf r).c * s.X + (dynOf r).d * s.Y) = y := by rw [eY]; exact IntWalk.i64_in _ (by omega)
  have v7 : IntKind.i64.wrap (r.Div * s.D) = d := by rw [eD]; exact IntWalk.i64_in _ (by omega)
  have v8 : IntKind.i64.wrap (x * t.D) = x * t.D := IntWalk.i64_in _ (by omega)
  have v9 : IntKind.i64.wrap (y * t.D) = y * t.D := IntWalk.i64_in _ (by omega)
  have v10 : IntKind.i64.wrap (t.X * d) = t.X * d := IntWalk.i64_in _ (by omega)
  have v11 : IntKind.i64.wrap (t.Y * d) = t.Y * d := IntWalk.i64_in _ (by omega)
  have v12 : IntKind.i64.wrap (x * t.D + t.X * d) = X0 := by rw [fX]; exact IntWalk.i64_in _ (by omega)
  have v13 : IntKind.i64.wrap (y * t.D + t.Y * d) = Y0 := by rw [fY]; exact IntWalk.i64_in _ (by omega)
  have v14 : IntKind.i64.wrap (d * t.D) = D0 := by rw [fD]; exact IntWalk.i64_in _ (by omega)
  have v15 : IntKind.i64.wrap (X0.tdiv g) = x1 := by rw [t1]; exact IntWalk.i64_in _ (by omega)
  have v16 : IntKind.i64.wrap (Y0.tdiv g) = y1 := by rw [t2]; exact IntWalk.i64_in _ (by omega)
  have v17 : IntKind.i64.wrap (D0.tdiv g) = d1 := by rw [t3]; exact IntWalk.i64_in _ (by omega)
  have v18 : IntKind.i64.wrap (x1 * u.D) = x1 * u.D := IntWalk.i64_in _ (by omega)
  have v19 : IntKind.i64.wrap (y1 * u.D) = y1 * u.D := IntWalk.i64_in _ (by omega)
  have v20 : IntKind.i64.wrap (r.Bx * u.N) = r.Bx * u.N := IntWalk.i64_in _ (by omega)
  have v21 : IntKind.i64.wrap (r.By * u.N) = r.By * u.N := IntWalk.i64_in _ (by omega)
  have v22 : IntKind.i64.wrap (r.Bx * u.N * d1) = r.Bx * u.N * d1 := IntWalk.i64_in _ (by omega)
  have v23 : IntKind.i64.wrap (r.By * u.N * d1) = r.By * u.N * d1 := IntWalk.i64_in _ (by omega)
  have v24 : IntKind.i64.wrap (x1 * u.D + r.Bx * u.N * d1) = x1 * u.D + r.Bx * u.N * d1 := IntWalk.i64_in _ (by omega)
  have v25 : IntKind.i64.wrap (y1 * u.D + r.By * u.N * d1) = y1 * u.D + r.By * u.N * d1 := IntWalk.i64_in _ (by omega)
  have v26 : IntKind.i64.wrap (d1 * u.D) = d1 * u.D := IntWalk.i64_in _ (by omega)
  have HSo := Lib.hid (fun w => specSpotOf_any (x1 * u.D + r.Bx * u.N * d1) (y1 * u.D + r.By * u.N * d1) (d1 * u.D) w (by unfold I64; omega) (by unfold I64; omega) (by unfold I64; omega))
  rw [← H.out] at HSo
  have z1 : (g == 0) = false := beq_false_of_ne (by omega)
  have z2 : ¬ g = 0 := by omega
  clear q1 q2 q3 q4 q5 q6 q7 p1 p2 p3 p4 p5 p6 p7 p8 p9 p10 p11 p12 p13 p14 p15 eX eY eD fX fY fD t1 t2 t3 h3 h4 h5 hgI hgp hgE
  obtain ⟨⟨z3, z4, z5⟩, ok⟩ := X
  dsimp only at *
  obtain ⟨gm, om, rfl, hgm, k0, k1, k2, k3⟩ := row4 (HR.out.ext hx)
  rw [Nat.add_zero] at k0
  go_wp2_with fail
  go_quiet (fail)
  generalize nq = n1
  have hq1 : Ext w4 (w4.drewN n1) := (Ext.refl w4).drewN n1
  replace hx := hx.trans hq1
  replace bM := bM.ext hq1
  replace bS := bS.ext hq1
  replace bU := bU.ext hq1
  replace bT := bT.ext hq1
  replace bR := bR.ext hq1
  have cbM_56 := fun o => bM.cell o
  have cbS_57 := fun o => bS.cell o
  have cbU_58 := fun o => bU.cell o
  have cbT_59 := fun o => bT.cell o
  have cbR_60 := fun o => bR.cell o
  have fbR_60 := fun o => bR.frozen o
  have cbM_61 := fun o => bM.cell o
  have cbS_62 := fun o => bS.cell o
  have cbU_63 := fun o => bU.cell o
  have cbT_64 := fun o => bT.cell o
  have cbR_65 := fun o => bR.cell o
  have fbR_65 := fun o => bR.frozen o
  replace k2 := hq1.cellOf k2
  replace k3 := hq1.cellOf k3
  clear hq1 k0 k1
  generalize w4.drewN n1 = W1 at *
  go_wp2_with fail
  go_quiet (fail)
  generalize nq = n2
  have hq2 : Ext W1 (W1.drewN n2) := (Ext.refl W1).drewN n2
  replace hx := hx.trans hq2
  replace bM := bM.ext hq2
  replace bS := bS.ext hq2
  replace bU := bU.ext hq2
  replace bT := bT.ext hq2
  replace bR := bR.ext hq2
  have cbM_66 := fun o => bM.cell o
  have cbS_67 := fun o => bS.cell o
  have cbU_68 := fun o => bU.cell o
  have cbT_69 := fun o => bT.cell o
  have cbR_70 := fun o => bR.cell o
  have fbR_70 := fun o => bR.frozen o
  have cbM_71 := fun o => bM.cell o
  have cbS_72 := fun o => bS.cell o
  have cbU_73 := fun o => bU.cell o
  have cbT_74 := fun o => bT.cell o
  have cbR_75 := fun o => bR.cell o
  have fbR_75 := fun o => bR.frozen o
  clear hq2
  generalize W1.drewN n2 = W2 at *
  go_wp2_with fail
  refine (HG1.out _).mono ?_
  rintro e w5 ⟨rfl, hx5⟩
  replace hx := hx.trans hx5
  replace bM := bM.ext hx5
  replace bS := bS.ext hx5
  replace bU := bU.ext hx5
  replace bT := bT.ext hx5
  replace bR := bR.ext hx5
  have cbM_76 := fun o => bM.cell o
  have cbS_77 := fun o => bS.cell o
  have cbU_78 := fun o => bU.cell o
  have cbT_79 := fun o => bT.cell o
  have cbR_80 := fun o => bR.cell o
  have fbR_80 := fun o => bR.frozen o
  go_wp2_with fail
  refine (HG2.out _).mono ?_
  rintro e w6 ⟨rfl, hx6⟩
  replace hx := hx.trans hx6
  replace bM := bM.ext hx6
  replace bS := bS.ext hx6
  replace bU := bU.ext hx6
  replace bT := bT.ext hx6
  replace bR := bR.ext hx6
  have cbM_81 := fun o => bM.cell o
  have cbS_82 := fun o => bS.cell o
  have cbU_83 := fun o => bU.cell o
  have cbT_84 := fun o => bT.cell o
  have cbR_85 := fun o => bR.cell o
  have fbR_85 := fun o => bR.frozen o
  go_wp2_with fail
  refine (HSo.out _).mono ?_
  rintro e w7 ⟨rfl, hx7⟩
  replace hx := hx.trans hx7
  replace bM := bM.ext hx7
  replace bS := bS.ext hx7
  replace bU := bU.ext hx7
  replace bT := bT.ext hx7
  replace bR := bR.ext hx7
  have cbM_86 := fun o => bM.cell o
  have cbS_87 := fun o => bS.cell o
  have cbU_88 := fun o => bU.cell o
  have cbT_89 := fun o => bT.cell o
  have cbR_90 := fun o => bR.cell o
  have fbR_90 := fun o => bR.frozen o
  go_wp2
  have bF := ((bR.set_ 0 (.int .i64 z3)).set_ 1 (.int .i64 z4)).set_ 2 (.int .i64 z5)
  have cF := fun o => bF.cell o
  refine bodyPost_ret (v := .tuple #[.agg #[.int .i64 z3, .int .i64 z4, .int .i64 z5], .bool ok]) (by simp [results, Tryz.results56, go_sem, cF]) rfl ?_
  exact ⟨rfl, ext_set3 hx (by omega) _ _ _⟩

end Go.Proofs.YtbbdipfioopfmaaGreat
