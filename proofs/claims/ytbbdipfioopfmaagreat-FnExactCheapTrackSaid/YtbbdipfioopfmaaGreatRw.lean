/- Contract of RunLoop of the reference. (written by tools/mkRl2.py) -/
import Derived.Test.YtbbdipfioopfmaaGreatRl
namespace Go.Proofs.YtbbdipfioopfmaaGreat
open Go.ChangeShapes Go.WideShapes Go.ChangeAt Go.RowKit
set_option linter.unusedVariables false
set_option maxRecDepth 100000

theorem last_at {l : List Spot} {s : Spot} {k : Nat} (h : l.length = k + 1) (hk : k < l.length) : l.getLastD s = l[k] := by
  rw [List.getLastD_eq_getLast?, List.getLast?_eq_getElem?, h]
  simp [hk]

set_option maxHeartbeats 32000000 in
theorem specRunLoop_any (r : Room) (A0 A6 A7 : Option Addr) (c0 c6 c7 : Nat) (A : Option Addr) (n c : Nat) (ps : List Half) (s : Spot) (Aw : Option Addr) (cw : Nat) (ws : List Int) (An : Option Addr) (cn : Nat) (ns : List Spot) (w : World) (ha : RoomHere w r A0 A6 A7 c0 c6 c7) (hFI : roomFI r) (hRL : RoomL r) (hn : ps.length = n) (hr : Row w A (ints (flat Half.ints ps))) (hA : A = none → n = 0 ∧ c = 0) (hI : HalvesI ps) (hle : n ≤ maxLen) (hs : I64 s.X ∧ I64 s.Y ∧ I64 s.D) (hw : Row w Aw (ints ws)) (hwl : ws.length ≤ maxLen) (hnr : Row w An (ints (flat Spot.ints ns))) (hnl : ns.length ≤ maxLen) (hNI : ∀ x ∈ ns, I64 x.X ∧ I64 x.Y ∧ I64 x.D) :
    Calls Tryz.prog 25 #[.agg #[.slice A0 r.Map.length c0, .int .i64 r.Div, .int .i64 r.Bx, .int .i64 r.By, .int .i64 r.Low, .int .i64 r.High, .slice A6 r.Noise.length c6, .slice A7 r.Limits.length c7], .agg #[.slice A n c], .agg #[.int .i64 s.X, .int .i64 s.Y, .int .i64 s.D], .slice Aw ws.length cw, .slice An ns.length cn] w (TrackMade (trackR r ps s ws ns) w) := by
  have HHS := Lib.hid (fun w hr => specHasSpot_any A n c ps s w hn hr hA hI hle hs)
  have HRo := Lib.hid (fun w ha h6 h7 => specRoomOk_any r A0 A6 A7 c0 c6 c7 w ha h6 h7 hFI hRL)
  have HSt := Lib.hid (fun hv hp s t z w ha hr hs ht => specStep_ok r A0 A6 A7 c0 c6 c7 A n c ps s t z w hv ha hn hr hA hp hs ht)
  have HV : Hid (roomOk r = true → RoomV r) := room_valid
  have HX : Hid (runOk r ps s ws ns = (decide (ws.length ≤ 20) && !decide (ns.length = 0) && hasSpot ps s && roomOk r)) := rfl
  have HNo := Lib.hid (fun h => trackR_no (r := r) (ps := ps) (s := s) (ws := ws) (ns := ns) h)
  have HYes := Lib.hid (fun h => trackR_yes (r := r) (ps := ps) (s := s) (ws := ws) (ns := ns) h)
  have HHp : Hid (hasSpot ps s = true → regOk ps = true ∧ spotOk s = true) := fun h => by
    unfold hasSpot at h
    simp only [Bool.and_eq_true] at h
    exact h.1
  have HA := Lib.hid ha
  have HR := Lib.hid hr
  have HW := Lib.hid hw
  have HNr := Lib.hid hnr
  have HNI := Lib.hid hNI
  unfold maxLen at hwl hnl
  have hx : Ext w ((((w.alloc (.cells #[.slice A0 r.Map.length c0, .int .i64 r.Div, .int .i64 r.Bx, .int .i64 r.By, .int .i64 r.Low, .int .i64 r.High, .slice A6 r.Noise.length c6, .slice A7 r.Limits.length c7] 44)).alloc (.cells #[.slice A n c] 42)).alloc (.cells #[.int .i64 s.X, .int .i64 s.Y, .int .i64 s.D] 47)).alloc (.cells #[.slice none 0 0, .slice none 0 0] 37)) := by repeat (first | exact Ext.refl _ | refine Ext.alloc ?_ _)
  have bM : Blk ((((w.alloc (.cells #[.slice A0 r.Map.length c0, .int .i64 r.Div, .int .i64 r.Bx, .int .i64 r.By, .int .i64 r.Low, .int .i64 r.High, .slice A6 r.Noise.length c6, .slice A7 r.Limits.length c7] 44)).alloc (.cells #[.slice A n c] 42)).alloc (.cells #[.int .i64 s.X, .int .i64 s.Y, .int .i64 s.D] 47)).alloc (.cells #[.slice none 0 0, .slice none 0 0] 37)) (w.heap.size) 44 #[.slice A0 r.Map.length c0, .int .i64 r.Div, .int .i64 r.Bx, .int .i64 r.By, .int .i64 r.Low, .int .i64 r.High, .slice A6 r.Noise.length c6, .slice A7 r.Limits.length c7] := by
    have q := Blk.new w 44 #[.slice A0 r.Map.length c0, .int .i64 r.Div, .int .i64 r.Bx, .int .i64 r.By, .int .i64 r.Low, .int .i64 r.High, .slice A6 r.Noise.length c6, .slice A7 r.Limits.length c7]
    replace q := q.alloc (.cells #[.slice A n c] 42)
    replace q := q.alloc (.cells #[.int .i64 s.X, .int .i64 s.Y, .int .i64 s.D] 47)
    replace q := q.alloc (.cells #[.slice none 0 0, .slice none 0 0] 37)
    simpa only [World.size_alloc] using q
  have bP : Blk ((((w.alloc (.cells #[.slice A0 r.Map.length c0, .int .i64 r.Div, .int .i64 r.Bx, .int .i64 r.By, .int .i64 r.Low, .int .i64 r.High, .slice A6 r.Noise.length c6, .slice A7 r.Limits.length c7] 44)).alloc (.cells #[.slice A n c] 42)).alloc (.cells #[.int .i64 s.X, .int .i64 s.Y, .int .i64 s.D] 47)).alloc (.cells #[.slice none 0 0, .slice none 0 0] 37)) (w.heap.size + 1) 42 #[.slice A n c] := by
    have q := Blk.new (w.alloc (.cells #[.slice A0 r.Map.length c0, .int .i64 r.Div, .int .i64 r.Bx, .int .i64 r.By, .int .i64 r.Low, .int .i64 r.High, .slice A6 r.Noise.length c6, .slice A7 r.Limits.length c7] 44)) 42 #[.slice A n c]
    replace q := q.alloc (.cells #[.int .i64 s.X, .int .i64 s.Y, .int .i64 s.D] 47)
    replace q := q.alloc (.cells #[.slice none 0 0, .slice none 0 0] 37)
    simpa only [World.size_alloc] using q
  have bS : Blk ((((w.alloc (.cells #[.slice A0 r.Map.length c0, .int .i64 r.Div, .int .i64 r.Bx, .int .i64 r.By, .int .i64 r.Low, .int .i64 r.High, .slice A6 r.Noise.length c6, .slice A7 r.Limits.length c7] 44)).alloc (.cells #[.slice A n c] 42)).alloc (.cells #[.int .i64 s.X, .int .i64 s.Y, .int .i64 s.D] 47)).alloc (.cells #[.slice none 0 0, .slice none 0 0] 37)) (w.heap.size + 1 + 1) 47 #[.int .i64 s.X, .int .i64 s.Y, .int .i64 s.D] := by
    have q := Blk.new ((w.alloc (.cells #[.slice A0 r.Map.length c0, .int .i64 r.Div, .int .i64 r.Bx, .int .i64 r.By, .int .i64 r.Low, .int .i64 r.High, .slice A6 r.Noise.length c6, .slice A7 r.Limits.length c7] 44)).alloc (.cells #[.slice A n c] 42)) 47 #[.int .i64 s.X, .int .i64 s.Y, .int .i64 s.D]
    replace q := q.alloc (.cells #[.slice none 0 0, .slice none 0 0] 37)
    simpa only [World.size_alloc] using q
  have bA : Blk ((((w.alloc (.cells #[.slice A0 r.Map.length c0, .int .i64 r.Div, .int .i64 r.Bx, .int .i64 r.By, .int .i64 r.Low, .int .i64 r.High, .slice A6 r.Noise.length c6, .slice A7 r.Limits.length c7] 44)).alloc (.cells #[.slice A n c] 42)).alloc (.cells #[.int .i64 s.X, .int .i64 s.Y, .int .i64 s.D] 47)).alloc (.cells #[.slice none 0 0, .slice none 0 0] 37)) (w.heap.size + 1 + 1 + 1) 37 #[.slice none 0 0, .slice none 0 0] := by
    have q := Blk.new (((w.alloc (.cells #[.slice A0 r.Map.length c0, .int .i64 r.Div, .int .i64 r.Bx, .int .i64 r.By, .int .i64 r.Low, .int .i64 r.High, .slice A6 r.Noise.length c6, .slice A7 r.Limits.length c7] 44)).alloc (.cells #[.slice A n c] 42)).alloc (.cells #[.int .i64 s.X, .int .i64 s.Y, .int .i64 s.D] 47)) 37 #[.slice none 0 0, .slice none 0 0]
    simpa only [World.size_alloc] using q
  clear ha hFI hRL hn hr hI hle hs hw hnr hNI hA
  generalize trackR r ps s ws ns = TR at *
  obtain ⟨o1, ho1⟩ : ∃ o, hasSpot ps s = o := ⟨_, rfl⟩
  obtain ⟨o2, ho2⟩ : ∃ o, roomOk r = o := ⟨_, rfl⟩
  rw [ho1] at HHS HX HHp
  rw [ho2] at HRo HX HV
  clear ho1 ho2
  have cA := fun o => bA.cell o
  have cbM_1 := fun o => bM.cell o
  have cbP_2 := fun o => bP.cell o
  have cbS_3 := fun o => bS.cell o
  have cbA_4 := fun o => bA.cell o
  have fbA_4 := fun o => bA.frozen o
  go_enter Tryz.func25, Tryz.ntmps25
  go_wp2_with fail
  refine (HRo.out _ (HA.out.ext hx).at_ HA.out.n6 HA.out.n7).mono ?_
  rintro e w1 ⟨rfl, hx1⟩
  replace hx := hx.trans hx1
  replace bM := bM.ext hx1
  replace bP := bP.ext hx1
  replace bS := bS.ext hx1
  replace bA := bA.ext hx1
  have cbM_5 := fun o => bM.cell o
  have cbP_6 := fun o => bP.cell o
  have cbS_7 := fun o => bS.cell o
  have cbA_8 := fun o => bA.cell o
  have fbA_8 := fun o => bA.frozen o
  cases o2
  · have H := Lib.hid (HNo.out (by rw [HX.out]; simp))
    go_wp2
    have bF := ((bA.set_ 0 (.slice none 0 0)).set_ 1 (.slice none 0 0))
    have cF := fun o => bF.cell o
    clear cA
    refine bodyPost_ret (v := .tuple #[.agg #[.slice none 0 0, .slice none 0 0], .bool false]) (by first | (simp [results, Tryz.results25, go_sem]; done) | simp [results, Tryz.results25, go_sem, cF]) rfl ?_
    first | (with_reducible exact TrackMade.no H.out rfl hx) | exact TrackMade.no H.out rfl (ext_set2 hx (by omega) _ _)
  by_cases h1 : (20 : Int) < (ws.length : Int)
  · have H := Lib.hid (HNo.out (by rw [HX.out]; rw [decide_eq_false (show ¬ ws.length ≤ 20 by omega)]; simp))
    go_wp2
    have bF := ((bA.set_ 0 (.slice none 0 0)).set_ 1 (.slice none 0 0))
    have cF := fun o => bF.cell o
    clear cA
    refine bodyPost_ret (v := .tuple #[.agg #[.slice none 0 0, .slice none 0 0], .bool false]) (by first | (simp [results, Tryz.results25, go_sem]; done) | simp [results, Tryz.results25, go_sem, cF]) rfl ?_
    first | (with_reducible exact TrackMade.no H.out rfl hx) | exact TrackMade.no H.out rfl (ext_set2 hx (by omega) _ _)
  have h1b : decide ((20 : Int) < (ws.length : Int)) = false := decide_eq_false h1
  by_cases h2 : ns.length = 0
  · have H := Lib.hid (HNo.out (by rw [HX.out]; rw [decide_eq_true h2]; simp))
    go_wp2
    have bF := ((bA.set_ 0 (.slice none 0 0)).set_ 1 (.slice none 0 0))
    have cF := fun o => bF.cell o
    clear cA
    refine bodyPost_ret (v := .tuple #[.agg #[.slice none 0 0, .slice none 0 0], .bool false]) (by first | (simp [results, Tryz.results25, go_sem]; done) | simp [results, Tryz.results25, go_sem, cF]) rfl ?_
    first | (with_reducible exact TrackMade.no H.out rfl hx) | exact TrackMade.no H.out rfl (ext_set2 hx (by omega) _ _)
  have h2i : ¬ (ns.length : Int) = 0 := by omega
  have h2b : ((ns.length : Int) == 0) = false := beq_false_of_ne h2i
  go_wp2_with fail
  refine (HHS.out _ (HR.out.ext hx)).mono ?_
  rintro e w2 ⟨rfl, hx2⟩
  replace hx := hx.trans hx2
  replace bM := bM.ext hx2
  replace bP := bP.ext hx2
  replace bS := bS.ext hx2
  replace bA := bA.ext hx2
  have cbM_9 := fun o => bM.cell o
  have cbP_10 := fun o => bP.cell o
  have cbS_11 := fun o => bS.cell o
  have cbA_12 := fun o => bA.cell o
  have fbA_12 := fun o => bA.frozen o
  cases o1
  · have H := Lib.hid (HNo.out (by rw [HX.out]; simp))
    go_wp2
    have bF := ((bA.set_ 0 (.slice none 0 0)).set_ 1 (.slice none 0 0))
    have cF := fun o => bF.cell o
    clear cA
    refine bodyPost_ret (v := .tuple #[.agg #[.slice none 0 0, .slice none 0 0], .bool false]) (by first | (simp [results, Tryz.results25, go_sem]; done) | simp [results, Tryz.results25, go_sem, cF]) rfl ?_
    first | (with_reducible exact TrackMade.no H.out rfl hx) | exact TrackMade.no H.out rfl (ext_set2 hx (by omega) _ _)
  have HTR := Lib.hid (HYes.out (by rw [HX.out, decide_eq_true (show ws.length ≤ 20 by omega), decide_eq_false (show ¬ ns.length = 0 by omega)]; rfl))
  have hv := HV.out (by first | rfl | trivial)
  have hph := HHp.out (by first | rfl | trivial)
  have HSk := Lib.hid hph.2
  have HSt2 := Lib.hid (fun s t z w => HSt.out hv hph.1 s t z w)
  clear hv hph
  have hs2 := bA.lt
  have b0 := Blk.new w2 47 #[.int .i64 s.X, .int .i64 s.Y, .int .i64 s.D]
  have ha2 := (Ext.refl w2).alloc (.cells #[.int .i64 s.X, .int .i64 s.Y, .int .i64 s.D] 47)
  replace hx := hx.trans ha2
  replace bM := bM.ext ha2
  replace bP := bP.ext ha2
  replace bS := bS.ext ha2
  replace bA := bA.ext ha2
  have cbM_13 := fun o => bM.cell o
  have cbP_14 := fun o => bP.cell o
  have cbS_15 := fun o => bS.cell o
  have cbA_16 := fun o => bA.cell o
  have fbA_16 := fun o => bA.frozen o
  have bT := Blk.new (w2.alloc (.cells #[.int .i64 s.X, .int .i64 s.Y, .int .i64 s.D] 47)) 37 #[.slice (some ⟨w2.heap.size, 0, none⟩) 1 1, .slice none 0 0]
  simp only [World.size_alloc] at bT
  have hq2 := (Ext.refl (w2.alloc (.cells #[.int .i64 s.X, .int .i64 s.Y, .int .i64 s.D] 47))).alloc (.cells #[.slice (some ⟨w2.heap.size, 0, none⟩) 1 1, .slice none 0 0] 37)
  have hgM : w2.heap.size + 2 ≤ ((w2.alloc (.cells #[.int .i64 s.X, .int .i64 s.Y, .int .i64 s.D] 47)).alloc (.cells #[.slice (some ⟨w2.heap.size, 0, none⟩) 1 1, .slice none 0 0] 37)).heap.size := by simp only [World.size_alloc]; omega
  replace hx := hx.trans hq2
  replace bM := bM.ext hq2
  replace bP := bP.ext hq2
  replace bS := bS.ext hq2
  replace bA := bA.ext hq2
  replace b0 := b0.ext hq2
  have cbM_17 := fun o => bM.cell o
  have cbP_18 := fun o => bP.cell o
  have cbS_19 := fun o => bS.cell o
  have cbA_20 := fun o => bA.cell o
  have fbA_20 := fun o => bA.frozen o
  have cb0_21 := fun o => b0.cell o
  have cbM_22 := fun o => bM.cell o
  have cbP_23 := fun o => bP.cell o
  have cbS_24 := fun o => bS.cell o
  have cbA_25 := fun o => bA.cell o
  have fbA_25 := fun o => bA.frozen o
  have cb0_26 := fun o => b0.cell o
  have cbT_27 := fun o => bT.cell o
  have fbT_27 := fun o => bT.frozen o
  obtain ⟨i0, hi0, hz0, hz1, hz2⟩ := info_parts spot_info
  obtain ⟨j0, hjj0, hy0, hy1, hy2_⟩ := info_parts ratio_info_
  have own0 := own_blk (n := 1) (s := 3) b0 rfl (by unfold maxLen; omega)
  clear h2b HHS HRo HV HX HNo HYes HHp b0 HSt
  go_wp2
  go_loopw [43] (fun i wr => ∃ (k : Nat) (T : Track) (A1 A2 : Option Addr) (c1 c2 : Nat), k ≤ ws.length ∧ i = .int .i64 k ∧ trackK r ps s ws ns k = some T ∧ spotOk (T.Spots.getLastD s) = true ∧ Ext w wr ∧ w2.heap.size + 2 ≤ wr.heap.size ∧ Blk wr w.heap.size 44 #[.slice A0 r.Map.length c0, .int .i64 r.Div, .int .i64 r.Bx, .int .i64 r.By, .int .i64 r.Low, .int .i64 r.High, .slice A6 r.Noise.length c6, .slice A7 r.Limits.length c7] ∧ Blk wr (w.heap.size + 1) 42 #[.slice A n c] ∧ Blk wr (w.heap.size + 1 + 1 + 1) 37 #[.slice none 0 0, .slice none 0 0] ∧ Blk wr (w2.heap.size + 1) 37 #[.slice A1 (k + 1) c1, .slice A2 k c2] ∧ wr.ownsRow w2.heap.size 47 3 (.slice A1 (k + 1) c1) (k + 1) (ints (flat Spot.ints T.Spots)) ∧ wr.ownsRow (w2.heap.size + 2) 74 2 (.slice A2 k c2) k (ints (flat Ratio.ints T.Inputs)) ∧ (∀ g, (Value.slice A1 (k + 1) c1).ownBlock = some g → g = w2.heap.size ∨ w2.heap.size + 2 ≤ g) ∧ (∀ g, (Value.slice A1 (k + 1) c1).ownBlock = some g → (Value.slice A2 k c2).ownBlock ≠ some g)) (fun i _ => ws.length - (intOf i).toNat)
  case atStart => exact ⟨0, ⟨[s], []⟩, some ⟨w2.heap.size, 0, none⟩, none, 1, 0, Nat.zero_le _, rfl, rfl, HSk.out, hx, hgM, bM, bP, bA, bT, own0, World.ownsRow_nil _ _ _ _, fun g hg => .inl (by cases hg; rfl), fun g _ h2 => by cases h2⟩
  case round =>
  clear bM bS bA bT bP own0 hx hgM
  obtain ⟨k, T, A1, A2, c1, c2, hk, rfl, hT, hck, hx, hgM, bM, bP, bA, bT, own1, own2, hb1, hne⟩ := hrel
  have HT := Lib.hid hT
  have hlen := trackK_len k T hT
  clear hT
  by_cases hlt : k < ws.length
  rotate_left
  · obtain rfl : k = ws.length := by omega
    have H := Lib.hid (HTR.out.trans (trackAll_some HT.out))
    have cT := fun o => bT.cell o
    have cA := fun o => bA.cell o
    have fA := fun o => bA.frozen o
    go_wp2
    have bF := (bA.set_ 0 (.slice A1 (ws.length + 1) c1)).set_ 1 (.slice A2 ws.length c2)
    have cF := fun o => bF.cell o
    clear cA cT
    refine bodyPost_ret (v := .tuple #[.agg #[.slice A1 (ws.length + 1) c1, .slice A2 ws.length c2], .bool true]) (by first | (simp [results, Tryz.results25, go_sem]; done) | simp [results, Tryz.results25, go_sem, cF]) rfl ?_
    rw [H.out]
    have q1 := own_far (own_far own1 (p := ⟨w.heap.size + 1 + 1 + 1, 0, none⟩) (by show w.heap.size + 1 + 1 + 1 < w2.heap.size; omega) (.slice A1 (ws.length + 1) c1)) (p := ⟨w.heap.size + 1 + 1 + 1, 1, none⟩) (by show w.heap.size + 1 + 1 + 1 < w2.heap.size; omega) (.slice A2 ws.length c2)
    have q2 := own_far (own_far own2 (p := ⟨w.heap.size + 1 + 1 + 1, 0, none⟩) (by show w.heap.size + 1 + 1 + 1 < w2.heap.size + 2; omega) (.slice A1 (ws.length + 1) c1)) (p := ⟨w.heap.size + 1 + 1 + 1, 1, none⟩) (by show w.heap.size + 1 + 1 + 1 < w2.heap.size + 2; omega) (.slice A2 ws.length c2)
    refine ⟨_, rfl, ?_, ext_set2 hx (by omega) _ _⟩
    unfold TrackM
    dsimp only
    rw [hlen.1, hlen.2]
    exact track_made (own_base q1 (by omega)) (own_base q2 (by omega)) (fun g1 g2 e1 e2 e3 => hne g1 (by rw [e1]; rfl) (by rw [e2, e3]; rfl)) (by simp only [World.size_setCell]; omega)
  have hkl : k < ws.length := hlt
  obtain ⟨bw, ow, rfl, hbw, hw0⟩ := (HW.out.ext hx).int (k := k) hkl
  have hjl : k % ns.length < ns.length := Nat.mod_lt _ (by omega)
  obtain ⟨bn, on, rfl, hbn, t0, t1, t2⟩ := (HNr.out.ext hx).Spot (k := k % ns.length) hjl
  have hkT : k < T.Spots.length := by rw [hlen.1]; omega
  obtain ⟨bs, os, rfl, hbs, s0, s1, s2⟩ := (Row.of_own own1).Spot (k := k) hkT
  have HStep := Lib.hid (trackK_step HT.out)
  have hti := HNI.out _ (List.getElem_mem hjl)
  have hrem : Int.tmod (k : Int) (ns.length : Int) = ((k % ns.length : Nat) : Int) := rfl
  rw [List.getD_eq_getElem?_getD, List.getElem?_eq_getElem hkl, List.getD_eq_getElem?_getD, List.getElem?_eq_getElem hjl] at HStep
  dsimp only [Option.getD_some] at HStep
  obtain ⟨t, ht_⟩ : ∃ t, ns[k % ns.length]'hjl = t := ⟨_, rfl⟩
  obtain ⟨z, hz_⟩ : ∃ z, ws[k]'hkl = z := ⟨_, rfl⟩
  rw [ht_] at t0 t1 t2 HStep hti
  rw [hz_] at hw0 HStep
  clear ht_ hz_
  have hla := last_at (s := s) hlen.1 hkT
  obtain ⟨cur, hcur_⟩ : ∃ c, T.Spots[k]'hkT = c := ⟨_, rfl⟩
  rw [hcur_] at s0 s1 s2 hla
  rw [hla] at HStep hck
  clear hcur_ hla hkT
  generalize k % ns.length = j at *
  have HNn := Lib.hid (fun h => trackAll_none (r := r) (ps := ps) (s := s) (ws := ws) (ns := ns) (k := k + 1) h (by omega))
  have HCs := Lib.hid (fun w ha hr => HSt2.out cur t z w ha hr hck hti)
  have HSk2 := Lib.hid (fun x h => stepR_ok (r := r) (ps := ps) (s := cur) (t := t) (n := z) (x := x) h)
  obtain ⟨x1, x2, x3, u1, u2, ok, hV, hf, htr⟩ := stepV_form (stepR r ps cur z t)
  generalize stepR r ps cur z t = X at *
  unfold StepMade at HCs
  rw [hV] at HCs
  have Hf := Lib.hid hf
  have Htr := Lib.hid htr
  clear hV hf htr hti hck
  have hremw : IntKind.i64.wrap ((k : Int).tmod (ns.length : Int)) = (j : Int) := by rw [hrem]; exact IntWalk.i64_in _ (by omega)
  have hk0 : (0 : Int) ≤ (k : Int) := by omega
  have hk1 : (k : Int) < (k : Int) + 1 := by omega
  have hk2 : (k : Int) < ((k + 1 : Nat) : Int) := by omega
  have hj0 : (0 : Int) ≤ (j : Int) := by omega
  have hj1 : (j : Int) < (ns.length : Int) := by omega
  have cM := fun o => bM.cell o
  have cP := fun o => bP.cell o
  have cT := fun o => bT.cell o
  go_upto_region 7 with fail
  go_cut [15, 16, 17] from 49 to 67 (fun p q o wx => SpotRat [.int .i64 x1, .int .i64 x2, .int .i64 x3] [.int .i64 u1, .int .i64 u2] wr p q wx ∧ o = .bool ok)
  case first =>
    have hcur := Ext.refl wr
    have nM := Nat.ne_of_lt bM.lt
    have nM' := (Nat.ne_of_lt bM.lt).symm
    have mM := Nat.ne_of_lt (Nat.lt_succ_of_lt bM.lt)
    have mM' := (Nat.ne_of_lt (Nat.lt_succ_of_lt bM.lt)).symm
    have nP := Nat.ne_of_lt bP.lt
    have nP' := (Nat.ne_of_lt bP.lt).symm
    have mP := Nat.ne_of_lt (Nat.lt_succ_of_lt bP.lt)
    have mP' := (Nat.ne_of_lt (Nat.lt_succ_of_lt bP.lt)).symm
    have nT := Nat.ne_of_lt bT.lt
    have nT' := (Nat.ne_of_lt bT.lt).symm
    have mT := Nat.ne_of_lt (Nat.lt_succ_of_lt bT.lt)
    have mT' := (Nat.ne_of_lt (Nat.lt_succ_of_lt bT.lt)).symm
    have nS := Nat.ne_of_lt hbs
    have nS' := (Nat.ne_of_lt hbs).symm
    have mS := Nat.ne_of_lt (Nat.lt_succ_of_lt hbs)
    have mS' := (Nat.ne_of_lt (Nat.lt_succ_of_lt hbs)).symm
    have nB := Nat.ne_of_lt hbn
    have nB' := (Nat.ne_of_lt hbn).symm
    have mB := Nat.ne_of_lt (Nat.lt_succ_of_lt hbn)
    have mB' := (Nat.ne_of_lt (Nat.lt_succ_of_lt hbn)).symm
    have kP : w.heap.size ≠ wr.heap.size := by omega
    have kP' : wr.heap.size ≠ w.heap.size := by omega
    have kT : w2.heap.size ≠ wr.heap.size := by omega
    have kT' : wr.heap.size ≠ w2.heap.size := by omega
    go_region_held3 (fun w' => w'.cell? ⟨w.heap.size, 0, none⟩ = some (.slice A0 r.Map.length c0) ∧ w'.cell? ⟨w.heap.size, 1, none⟩ = some (.int .i64 r.Div) ∧ w'.cell? ⟨w.heap.size, 2, none⟩ = some (.int .i64 r.Bx) ∧ w'.cell? ⟨w.heap.size, 3, none⟩ = some (.int .i64 r.By) ∧ w'.cell? ⟨w.heap.size, 4, none⟩ = some (.int .i64 r.Low) ∧ w'.cell? ⟨w.heap.size, 5, none⟩ = some (.int .i64 r.High) ∧ w'.cell? ⟨w.heap.size, 6, none⟩ = some (.slice A6 r.Noise.length c6) ∧ w'.cell? ⟨w.heap.size, 7, none⟩ = some (.slice A7 r.Limits.length c7) ∧ w'.cell? ⟨w.heap.size + 1, 0, none⟩ = some (.slice A n c) ∧ w'.cell? ⟨w2.heap.size + 1, 0, none⟩ = some (.slice (some ⟨bs, os, none⟩) (k + 1) c1) ∧ w'.cell? ⟨bs, os + k * 3, none⟩ = some (.int .i64 cur.X) ∧ w'.cell? ⟨bs, os + k * 3 + 1, none⟩ = some (.int .i64 cur.Y) ∧ w'.cell? ⟨bs, os + k * 3 + 2, none⟩ = some (.int .i64 cur.D) ∧ w'.cell? ⟨bn, on + j * 3, none⟩ = some (.int .i64 t.X) ∧ w'.cell? ⟨bn, on + j * 3 + 1, none⟩ = some (.int .i64 t.Y) ∧ w'.cell? ⟨bn, on + j * 3 + 2, none⟩ = some (.int .i64 t.D))
      (go_keep)
      (first | (go_at_call 41; (with_reducible refine (HCs.out _ (HA.out.ext (hx.trans (by first | exact hcur | exact hcur.drew | exact hcur.alloc _ | exact hcur.drew.alloc _ | exact (hcur.alloc _).drew | exact ((hcur.alloc _).alloc _).drew | exact (hcur.alloc _).alloc _ | exact (hcur.drew.alloc _).alloc _))) (HR.out.ext (hx.trans (by first | exact hcur | exact hcur.drew | exact hcur.alloc _ | exact hcur.drew.alloc _ | exact (hcur.alloc _).drew | exact ((hcur.alloc _).alloc _).drew | exact (hcur.alloc _).alloc _ | exact (hcur.drew.alloc _).alloc _)))).mono ?_); rintro e w9 ⟨rfl, hx9⟩; (first | have hx8 := (Ext.refl _).drew.trans hx9 | have hx8 := hx9); replace hcur := Ext.trans (by first | exact hcur | exact hcur.drew | exact hcur.alloc _ | exact hcur.drew.alloc _ | exact (hcur.alloc _).drew | exact ((hcur.alloc _).alloc _).drew | exact (hcur.alloc _).alloc _ | exact (hcur.drew.alloc _).alloc _) hx9; have cM9 := fun o => (bM.ext hcur).cell o; have cP9 := fun o => (bP.ext hcur).cell o; have cT9 := fun o => (bT.ext hcur).cell o; have t09 := hcur.cellOf t0; have t19 := hcur.cellOf t1; have t29 := hcur.cellOf t2; have s09 := hcur.cellOf s0; have s19 := hcur.cellOf s1; have s29 := hcur.cellOf s2; have z9 := hcur.size; have kP9 : w.heap.size ≠ w9.heap.size := (by omega); have kP9' : w9.heap.size ≠ w.heap.size := (by omega); have kT9 : w2.heap.size ≠ w9.heap.size := (by omega); have kT9' : w9.heap.size ≠ w2.heap.size := (by omega); have nM9 := Nat.ne_of_lt (bM.ext hcur).lt; have nM9' := (Nat.ne_of_lt (bM.ext hcur).lt).symm; have nM8 := Nat.ne_of_lt (Nat.lt_succ_of_lt (bM.ext hcur).lt); have nM8' := (Nat.ne_of_lt (Nat.lt_succ_of_lt (bM.ext hcur).lt)).symm; have nP9 := Nat.ne_of_lt (bP.ext hcur).lt; have nP9' := (Nat.ne_of_lt (bP.ext hcur).lt).symm; have nP8 := Nat.ne_of_lt (Nat.lt_succ_of_lt (bP.ext hcur).lt); have nP8' := (Nat.ne_of_lt (Nat.lt_succ_of_lt (bP.ext hcur).lt)).symm; have nT9 := Nat.ne_of_lt (bT.ext hcur).lt; have nT9' := (Nat.ne_of_lt (bT.ext hcur).lt).symm; have nT8 := Nat.ne_of_lt (Nat.lt_succ_of_lt (bT.ext hcur).lt); have nT8' := (Nat.ne_of_lt (Nat.lt_succ_of_lt (bT.ext hcur).lt)).symm; have nS9 := Nat.ne_of_lt (Nat.lt_of_lt_of_le hbs hcur.size); have nS9' := (Nat.ne_of_lt (Nat.lt_of_lt_of_le hbs hcur.size)).symm; have nS8 := Nat.ne_of_lt (Nat.lt_succ_of_lt (Nat.lt_of_lt_of_le hbs hcur.size)); have nS8' := (Nat.ne_of_lt (Nat.lt_succ_of_lt (Nat.lt_of_lt_of_le hbs hcur.size))).symm; have nB9 := Nat.ne_of_lt (Nat.lt_of_lt_of_le hbn hcur.size); have nB9' := (Nat.ne_of_lt (Nat.lt_of_lt_of_le hbn hcur.size)).symm; have nB8 := Nat.ne_of_lt (Nat.lt_succ_of_lt (Nat.lt_of_lt_of_le hbn hcur.size)); have nB8' := (Nat.ne_of_lt (Nat.lt_succ_of_lt (Nat.lt_of_lt_of_le hbn hcur.size))).symm; (first | (have gA := Blk.ext ((Blk.new _ 47 #[.int .i64 0, .int .i64 0, .int .i64 0]).alloc (.cells #[.int .i64 0, .int .i64 0] 74)) hx8; have gB := Blk.ext (blk_new1 _ _ 74 #[.int .i64 0, .int .i64 0]) hx8; have gAc := fun o => gA.cell o; have gAf := fun o => gA.frozen o; have lA := gA.lt; have nA := Nat.ne_of_lt gA.lt; have nA' := (Nat.ne_of_lt gA.lt).symm; have gBc := fun o => gB.cell o; have gBf := fun o => gB.frozen o; have lB := gB.lt; have nB2 := Nat.ne_of_lt gB.lt; have nB2' := (Nat.ne_of_lt gB.lt).symm) | (have gB := Blk.ext ((Blk.new _ 74 #[.int .i64 0, .int .i64 0]).alloc (.cells #[.int .i64 0, .int .i64 0, .int .i64 0] 47)) hx8; have gA := Blk.ext (blk_new1 _ _ 47 #[.int .i64 0, .int .i64 0, .int .i64 0]) hx8; have gAc := fun o => gA.cell o; have gAf := fun o => gA.frozen o; have lA := gA.lt; have nA := Nat.ne_of_lt gA.lt; have nA' := (Nat.ne_of_lt gA.lt).symm; have gBc := fun o => gB.cell o; have gBf := fun o => gB.frozen o; have lB := gB.lt; have nB2 := Nat.ne_of_lt gB.lt; have nB2' := (Nat.ne_of_lt gB.lt).symm) | (have gA := Blk.ext (Blk.new _ 47 #[.int .i64 0, .int .i64 0, .int .i64 0]) hx8; have gAc := fun o => gA.cell o; have gAf := fun o => gA.frozen o; have lA := gA.lt; have nA := Nat.ne_of_lt gA.lt; have nA' := (Nat.ne_of_lt gA.lt).symm) | (have gB := Blk.ext (Blk.new _ 74 #[.int .i64 0, .int .i64 0]) hx8; have gBc := fun o => gB.cell o; have gBf := fun o => gB.frozen o; have lB := gB.lt; have nB2 := Nat.ne_of_lt gB.lt; have nB2' := (Nat.ne_of_lt gB.lt).symm) | skip)))
    all_goals
      go_wp2_with fail
      go_meet
      case rel => exact ⟨by first | (with_reducible exact SpotRat.ab hcur) | (with_reducible exact SpotRat.ba hcur) | (with_reducible exact SpotRat.a hcur (by omega) lA gA) | (with_reducible exact SpotRat.b hcur (by omega) lB gB) | (with_reducible exact SpotRat.two hcur (by omega) (by omega) (by omega) gA gB), rfl⟩
  case rest =>
  clear cM cP cT
  obtain ⟨⟨b1, b2, rfl, rfl, hv1, hv2, h12, hxC, bN, bU⟩, rfl⟩ := hcut
  replace bN : Blk wc b1 47 #[.int .i64 x1, .int .i64 x2, .int .i64 x3] := bN
  replace bU : Blk wc b2 74 #[.int .i64 u1, .int .i64 u2] := bU
  have hl1 : ∀ g, (Value.slice (some ⟨bs, os, none⟩) (k + 1) c1).ownBlock = some g → g < wr.heap.size := fun g hg => (own_lt own1 hg).2
  have hl2 : ∀ g, (Value.slice A2 k c2).ownBlock = some g → w2.heap.size + 2 ≤ g ∧ g < wr.heap.size := fun g hg => own_lt own2 hg
  have hsC := hxC.size
  replace hx := hx.trans hxC
  replace bM := bM.ext hxC
  replace bP := bP.ext hxC
  replace bA := bA.ext hxC
  replace bT := bT.ext hxC
  replace own1 := own_ext own1 hxC
  replace own2 := own_ext own2 hxC
  cases ok
  · have H := Lib.hid (HTR.out.trans (HNn.out (HStep.out.trans (by rw [Hf.out rfl]))))
    have cA := fun o => bA.cell o
    have fA := fun o => bA.frozen o
    go_wp2
    have bF := (bA.set_ 0 (.slice none 0 0)).set_ 1 (.slice none 0 0)
    have cF := fun o => bF.cell o
    clear cA
    refine bodyPost_ret (v := .tuple #[.agg #[.slice none 0 0, .slice none 0 0], .bool false]) (by first | (simp [results, Tryz.results25, go_sem]; done) | simp [results, Tryz.results25, go_sem, cF]) rfl ?_
    exact TrackMade.no H.out rfl (ext_set2 hx (by omega) _ _)
  have HX1 := Htr.out rfl
  have HK1 : Hid (trackK r ps s ws ns (k + 1) = some ⟨T.Spots ++ [⟨x1, x2, x3⟩], T.Inputs ++ [⟨u1, u2⟩]⟩) := HStep.out.trans (by rw [HX1])
  have hck2 : spotOk ⟨x1, x2, x3⟩ = true := (HSk2.out _ HX1).1
  have hlast : (T.Spots ++ [(⟨x1, x2, x3⟩ : Spot)]).getLastD s = ⟨x1, x2, x3⟩ := by simp
  have hnewS := Blk.new wc 47 #[.int .i64 x1, .int .i64 x2, .int .i64 x3]
  have hccS : ∀ j u, (ints (Spot.ints ⟨x1, x2, x3⟩))[j]? = some u → (wc.alloc (.cells #[.int .i64 x1, .int .i64 x2, .int .i64 x3] 47)).cell? ((⟨wc.heap.size, 0, none⟩ : Addr).add j) = some u := fun j u hj => by
    rw [show ((⟨wc.heap.size, 0, none⟩ : Addr).add j) = ⟨wc.heap.size, 0 + j, none⟩ from by unfold Addr.add; split <;> simp_all, Nat.zero_add, hnewS.cell]
    simpa [ints, Spot.ints] using hj
  clear hnewS HX1 hremw hrem s0 s1 s2 t0 t1 t2
  have cT := fun o => bT.cell o
  have fT := fun o => bT.frozen o
  have cN := fun o => bN.cell o
  have hk20 : k < 20 := by omega
  go_wp2_with (first | (at_builtin; (refine wpList_append_own_at _ rfl _ _ 34 rfl w2.heap.size 47 i0 (.agg #[.int .i64 0, .int .i64 0, .int .i64 0]) 3 24 Tryz.underlying34 hi0 hz0 hz1 hz2 rfl (by decide) _ _ _ rfl (own1.alloc _) ⟨wc.heap.size, 0, none⟩ 1 1 (ints (Spot.ints ⟨x1, x2, x3⟩)) rfl rfl hccS (oneCell_ints _) (by unfold maxLen; omega) (by omega) (by simp; omega) ?_); intro v' w6 own1G hgrow _ hat; obtain ⟨A1', c1', rfl⟩ := own_form own1G; have hgs := hgrow.size; simp only [World.size_alloc] at hgs hat; have bMG := (bM.alloc (.cells #[.int .i64 x1, .int .i64 x2, .int .i64 x3] 47)).grown hgrow (fun e => by have q1 := hb1 _ e; have q2 := hl1 _ e; omega); have bPG := (bP.alloc (.cells #[.int .i64 x1, .int .i64 x2, .int .i64 x3] 47)).grown hgrow (fun e => by have q1 := hb1 _ e; have q2 := hl1 _ e; omega); have bAG := (bA.alloc (.cells #[.int .i64 x1, .int .i64 x2, .int .i64 x3] 47)).grown hgrow (fun e => by have q1 := hb1 _ e; have q2 := hl1 _ e; omega); have bTG := (bT.alloc (.cells #[.int .i64 x1, .int .i64 x2, .int .i64 x3] 47)).grown hgrow (fun e => by have q1 := hb1 _ e; have q2 := hl1 _ e; omega); have bNG := (bN.alloc (.cells #[.int .i64 x1, .int .i64 x2, .int .i64 x3] 47)).grown hgrow (fun e => by have q1 := hb1 _ e; have q2 := hl1 _ e; omega); have bUG := (bU.alloc (.cells #[.int .i64 x1, .int .i64 x2, .int .i64 x3] 47)).grown hgrow (fun e => by have q1 := hb1 _ e; have q2 := hl1 _ e; omega); have own2G := own_only (own2.alloc (.cells #[.int .i64 x1, .int .i64 x2, .int .i64 x3] 47)) hgrow (fun g hg => hne g hg); have hxG : Ext w w6 := (hx.alloc (.cells #[.int .i64 x1, .int .i64 x2, .int .i64 x3] 47)).grown hgrow (fun g hg => by have q1 := hb1 _ hg; omega); have hb1G : ∀ g, (Value.slice A1' (k + 1 + 1) c1').ownBlock = some g → (g = w2.heap.size ∨ w2.heap.size + 2 ≤ g) ∧ (Value.slice A2 k c2).ownBlock ≠ some g := (fun g hg => by rcases hat with h | h <;> rw [h] at hg; exact ⟨hb1 g hg, hne g hg⟩; (injection hg with hg; subst hg; exact ⟨.inr (by omega), fun q => by have := hl2 _ q; omega⟩)); have bTH : Blk (w6.setCell ⟨w2.heap.size + 1, 0, none⟩ (.slice A1' (k + 1 + 1) c1')) (w2.heap.size + 1) 37 #[.slice A1' (k + 1 + 1) c1', .slice A2 k c2] := bTG.set_ 0 (.slice A1' (k + 1 + 1) c1'); have bMH := bMG.far (p := ⟨w2.heap.size + 1, 0, none⟩) (show w.heap.size ≠ w2.heap.size + 1 by omega) (.slice A1' (k + 1 + 1) c1'); have bPH := bPG.far (p := ⟨w2.heap.size + 1, 0, none⟩) (show w.heap.size + 1 ≠ w2.heap.size + 1 by omega) (.slice A1' (k + 1 + 1) c1'); have bAH := bAG.far (p := ⟨w2.heap.size + 1, 0, none⟩) (show w.heap.size + 1 + 1 + 1 ≠ w2.heap.size + 1 by omega) (.slice A1' (k + 1 + 1) c1'); have bNH := bNG.far (p := ⟨w2.heap.size + 1, 0, none⟩) (show b1 ≠ w2.heap.size + 1 by omega) (.slice A1' (k + 1 + 1) c1'); have bUH := bUG.far (p := ⟨w2.heap.size + 1, 0, none⟩) (show b2 ≠ w2.heap.size + 1 by omega) (.slice A1' (k + 1 + 1) c1'); have own1H := own_off own1G (p := ⟨w2.heap.size + 1, 0, none⟩) (fun e => by have q := (hb1G _ e).1; simp only at q; omega) (.slice A1' (k + 1 + 1) c1'); have own2H := own_off own2G (p := ⟨w2.heap.size + 1, 0, none⟩) (fun e => by have q := hl2 _ e; simp only at q; omega) (.slice A1' (k + 1 + 1) c1'); have hxH := hxG.setCell (p := ⟨w2.heap.size + 1, 0, none⟩) (show w.heap.size ≤ w2.heap.size + 1 by omega) (.slice A1' (k + 1 + 1) c1'); have hnewU := Blk.new (w6.setCell ⟨w2.heap.size + 1, 0, none⟩ (.slice A1' (k + 1 + 1) c1')) 74 #[.int .i64 u1, .int .i64 u2]; have hccU : ∀ j u, (ints (Ratio.ints ⟨u1, u2⟩))[j]? = some u → ((w6.setCell ⟨w2.heap.size + 1, 0, none⟩ (.slice A1' (k + 1 + 1) c1')).alloc (.cells #[.int .i64 u1, .int .i64 u2] 74)).cell? ((⟨w6.heap.size, 0, none⟩ : Addr).add j) = some u := (fun j u hj => by rw [show ((⟨w6.heap.size, 0, none⟩ : Addr).add j) = ⟨w6.heap.size, 0 + j, none⟩ from by unfold Addr.add; split <;> simp_all, Nat.zero_add]; rw [World.size_setCell] at hnewU; rw [hnewU.cell]; simpa [ints, Ratio.ints] using hj); have cTH := fun o => bTH.cell o; have fTH := fun o => bTH.frozen o; have cUH := fun o => bUH.cell o; have cTG := fun o => bTG.cell o; have fTG := fun o => bTG.frozen o; have cUG := fun o => bUG.cell o) | (at_builtin; go_must (refine wpList_append_own_at _ rfl _ _ 35 rfl (w2.heap.size + 2) 74 j0 (.agg #[.int .i64 0, .int .i64 0]) 2 16 Tryz.underlying35 hjj0 hy0 hy1 hy2_ rfl (by decide) _ _ _ rfl (own2H.alloc _) ⟨w6.heap.size, 0, none⟩ 1 1 (ints (Ratio.ints ⟨u1, u2⟩)) rfl rfl hccU (oneCell_ints _) (by unfold maxLen; omega) (by omega) (by simp; omega) ?_); intro v2 w8 own2K hgrow2 _ hat2; obtain ⟨A2', c2', rfl⟩ := own_form own2K; have hgs2 := hgrow2.size; simp only [World.size_alloc, World.size_setCell] at hgs2 hat2; have bMK := (bMH.alloc (.cells #[.int .i64 u1, .int .i64 u2] 74)).grown hgrow2 (fun e => by have q2 := hl2 _ e; omega); have bPK := (bPH.alloc (.cells #[.int .i64 u1, .int .i64 u2] 74)).grown hgrow2 (fun e => by have q2 := hl2 _ e; omega); have bAK := (bAH.alloc (.cells #[.int .i64 u1, .int .i64 u2] 74)).grown hgrow2 (fun e => by have q2 := hl2 _ e; omega); have bTK := (bTH.alloc (.cells #[.int .i64 u1, .int .i64 u2] 74)).grown hgrow2 (fun e => by have q2 := hl2 _ e; omega); have bNK := (bNH.alloc (.cells #[.int .i64 u1, .int .i64 u2] 74)).grown hgrow2 (fun e => by have q2 := hl2 _ e; omega); have bUK := (bUH.alloc (.cells #[.int .i64 u1, .int .i64 u2] 74)).grown hgrow2 (fun e => by have q2 := hl2 _ e; omega); have own1K := own_only (own1H.alloc (.cells #[.int .i64 u1, .int .i64 u2] 74)) hgrow2 (fun g hg q => (hb1G _ q).2 hg); have hxK : Ext w w8 := (hxH.alloc (.cells #[.int .i64 u1, .int .i64 u2] 74)).grown hgrow2 (fun g hg => by have q1 := hl2 _ hg; omega); have hl1G : ∀ g, (Value.slice A1' (k + 1 + 1) c1').ownBlock = some g → g < w6.heap.size := (fun g hg => (own_lt own1G hg).2); have hb2K : ∀ g, (Value.slice A2' (k + 1) c2').ownBlock = some g → w2.heap.size + 2 ≤ g ∧ (Value.slice A1' (k + 1 + 1) c1').ownBlock ≠ some g := (fun g hg => by rcases hat2 with h | h <;> rw [h] at hg; exact ⟨(hl2 g hg).1, fun q => (hb1G g q).2 hg⟩; (injection hg with hg; subst hg; exact ⟨by omega, fun q => by have := hl1G _ q; omega⟩)); have bTL : Blk (w8.setCell ⟨w2.heap.size + 1, 1, none⟩ (.slice A2' (k + 1) c2')) (w2.heap.size + 1) 37 #[.slice A1' (k + 1 + 1) c1', .slice A2' (k + 1) c2'] := bTK.set_ 1 (.slice A2' (k + 1) c2'); have bML := bMK.far (p := ⟨w2.heap.size + 1, 1, none⟩) (show w.heap.size ≠ w2.heap.size + 1 by omega) (.slice A2' (k + 1) c2'); have bPL := bPK.far (p := ⟨w2.heap.size + 1, 1, none⟩) (show w.heap.size + 1 ≠ w2.heap.size + 1 by omega) (.slice A2' (k + 1) c2'); have bAL := bAK.far (p := ⟨w2.heap.size + 1, 1, none⟩) (show w.heap.size + 1 + 1 + 1 ≠ w2.heap.size + 1 by omega) (.slice A2' (k + 1) c2'); have bNL := bNK.far (p := ⟨w2.heap.size + 1, 1, none⟩) (show b1 ≠ w2.heap.size + 1 by omega) (.slice A2' (k + 1) c2'); have bUL := bUK.far (p := ⟨w2.heap.size + 1, 1, none⟩) (show b2 ≠ w2.heap.size + 1 by omega) (.slice A2' (k + 1) c2'); have own1L := own_off own1K (p := ⟨w2.heap.size + 1, 1, none⟩) (fun e => by have q := (hb1G _ e).1; simp only at q; omega) (.slice A2' (k + 1) c2'); have own2L := own_off own2K (p := ⟨w2.heap.size + 1, 1, none⟩) (fun e => by have q := hb2K _ e; simp only at q; omega) (.slice A2' (k + 1) c2'); have hxL := hxK.setCell (p := ⟨w2.heap.size + 1, 1, none⟩) (show w.heap.size ≤ w2.heap.size + 1 by omega) (.slice A2' (k + 1) c2'); have cTK := fun o => bTK.cell o; have fTK := fun o => bTK.frozen o))
  go_roundw
  case rel =>
    refine ⟨k + 1, ⟨T.Spots ++ [⟨x1, x2, x3⟩], T.Inputs ++ [⟨u1, u2⟩]⟩, A1', A2', c1', c2', by omega, by go_num, HK1.out, by dsimp only; rw [hlast]; exact hck2, hxL, by simp only [World.size_setCell]; omega, bML, bPL, bAL, bTL, ?_, ?_, fun g hg => (hb1G g hg).1, fun g hg q => (hb2K g q).2 hg⟩
    · dsimp only
      rw [spots_add]
      exact own1L
    · dsimp only
      rw [ratios_add]
      exact own2L
  case measure => simp [intOf]; omega
end Go.Proofs.YtbbdipfioopfmaaGreat
