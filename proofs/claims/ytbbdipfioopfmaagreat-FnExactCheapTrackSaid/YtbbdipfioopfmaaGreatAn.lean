/- Contract of l11Admit of the reference. (written by tools/mkAm.py) -/
import Derived.Test.YtbbdipfioopfmaaGreatAm
namespace Go.Proofs.YtbbdipfioopfmaaGreat
open Go.ChangeShapes Go.WideShapes Go.ChangeAt Go.RowKit
set_option linter.unusedVariables false
set_option maxRecDepth 100000

theorem ratioOf_whole {n : Int} (h : -1000 ≤ n ∧ n ≤ 1000) : ratioOf n 1 = ⟨n, 1⟩ := by
  exact ratioOf_one (by omega)
theorem spec1 (n : Int) (h : -1000 ≤ n ∧ n ≤ 1000) (w : World) : Calls Tryz.prog 76 #[.int .i64 n, .int .i64 1] w fun e w' => e = .returned (.agg #[.int .i64 n, .int .i64 1]) ∧ Ext w w' := by
  have := specRatioOf_any n 1 w (by unfold I64; omega) (by unfold I64; omega)
  rw [ratioOf_whole h] at this
  exact this
set_option maxHeartbeats 32000000 in
theorem specAdmit_ok (r : Room) (A0 A6 A7 : Option Addr) (c0 c6 c7 : Nat) (A : Option Addr) (n c : Nat) (E : List Half) (s : Spot) (w : World) (hv : RoomV r) (ha : RoomHere w r A0 A6 A7 c0 c6 c7) (hn : E.length = n) (hr : Row w A (ints (flat Half.ints E))) (hE : E.all halfOk = true) (hle : n ≤ 40) (hs : SpotS s) :
    Calls Tryz.prog 73 #[.agg #[.slice A0 r.Map.length c0, .int .i64 r.Div, .int .i64 r.Bx, .int .i64 r.By, .int .i64 r.Low, .int .i64 r.High, .slice A6 r.Noise.length c6, .slice A7 r.Limits.length c7], .agg #[.slice A n c], .agg #[.int .i64 s.X, .int .i64 s.Y, .int .i64 s.D]] w (SpanMade (admitR (dynOf r) E s) w) := by
  obtain ⟨hd, hM⟩ := hv.dyn
  have hl1 : -1000 ≤ r.Low := hd.low
  have hl2 : r.Low ≤ r.High := hd.mid
  have hl3 : r.High ≤ 1000 := hd.high
  have hm := ha.at_.m
  rw [hM] at hm
  have hx : Ext w ((((w.alloc (.cells #[.slice A0 r.Map.length c0, .int .i64 r.Div, .int .i64 r.Bx, .int .i64 r.By, .int .i64 r.Low, .int .i64 r.High, .slice A6 r.Noise.length c6, .slice A7 r.Limits.length c7] 44)).alloc (.cells #[.slice A n c] 42)).alloc (.cells #[.int .i64 s.X, .int .i64 s.Y, .int .i64 s.D] 47)).alloc (.cells #[.int .i64 0, .int .i64 0, .int .i64 0, .int .i64 0] 89)) := ((((Ext.refl w).alloc _).alloc _).alloc _).alloc _
  have bM := (((Blk.new w 44 #[.slice A0 r.Map.length c0, .int .i64 r.Div, .int .i64 r.Bx, .int .i64 r.By, .int .i64 r.Low, .int .i64 r.High, .slice A6 r.Noise.length c6, .slice A7 r.Limits.length c7]).alloc (.cells #[.slice A n c] 42)).alloc (.cells #[.int .i64 s.X, .int .i64 s.Y, .int .i64 s.D] 47)).alloc (.cells #[.int .i64 0, .int .i64 0, .int .i64 0, .int .i64 0] 89)
  have bP := ((Blk.new (w.alloc (.cells #[.slice A0 r.Map.length c0, .int .i64 r.Div, .int .i64 r.Bx, .int .i64 r.By, .int .i64 r.Low, .int .i64 r.High, .slice A6 r.Noise.length c6, .slice A7 r.Limits.length c7] 44)) 42 #[.slice A n c]).alloc (.cells #[.int .i64 s.X, .int .i64 s.Y, .int .i64 s.D] 47)).alloc (.cells #[.int .i64 0, .int .i64 0, .int .i64 0, .int .i64 0] 89)
  have bS := (Blk.new ((w.alloc (.cells #[.slice A0 r.Map.length c0, .int .i64 r.Div, .int .i64 r.Bx, .int .i64 r.By, .int .i64 r.Low, .int .i64 r.High, .slice A6 r.Noise.length c6, .slice A7 r.Limits.length c7] 44)).alloc (.cells #[.slice A n c] 42)) 47 #[.int .i64 s.X, .int .i64 s.Y, .int .i64 s.D]).alloc (.cells #[.int .i64 0, .int .i64 0, .int .i64 0, .int .i64 0] 89)
  have bR := Blk.new (((w.alloc (.cells #[.slice A0 r.Map.length c0, .int .i64 r.Div, .int .i64 r.Bx, .int .i64 r.By, .int .i64 r.Low, .int .i64 r.High, .slice A6 r.Noise.length c6, .slice A7 r.Limits.length c7] 44)).alloc (.cells #[.slice A n c] 42)).alloc (.cells #[.int .i64 s.X, .int .i64 s.Y, .int .i64 s.D] 47)) 89 #[.int .i64 0, .int .i64 0, .int .i64 0, .int .i64 0]
  simp only [World.size_alloc] at bP bS bR
  have HW1 := Lib.hid (fun w => spec1 r.Low (by omega) w)
  have HW2 := Lib.hid (fun w => spec1 r.High (by omega) w)
  have HSl := Lib.hid (fun h (hh : halfOk h = true) w hm => l11Top_ok r A0 A6 A7 c0 c6 c7 h s w hv hm hs hh)
  have HSb := Lib.hid (fun h (hh : halfOk h = true) => slope_bd hd hh)
  have HSe : Hid (∀ h, slopeH (dynOf r) h = h.A * r.Bx + h.B * r.By) := fun h => rfl
  have hbx : (dynOf r).bx = r.Bx := rfl
  have hby : (dynOf r).by_ = r.By := rfl
  rw [hbx, hby] at HSb
  have HTb := Lib.hid (fun h (hh : halfOk h = true) => top_bd hd hs hh)
  have HMb := Lib.hid (map_bd hd hs)
  have HInv := Lib.hid (fun k hk w h => admInv hd hs hE k hk w h)
  have HEk : Hid (∀ k (hk : k < E.length), halfOk E[k] = true) := fun k h => List.all_eq_true.1 hE _ (List.getElem_mem h)
  have HM := Lib.hid (show ∀ V, Ext w V → Row V A0 (ints r.Map) from fun V hV => (ha.ext hV).at_.m)
  have HR := Lib.hid hr
  have HN := Lib.hid hn
  have HTop : Hid (∀ h, topH (dynOf r) s h = h.C * mapD (dynOf r) s - h.A * mapX (dynOf r) s - h.B * mapY (dynOf r) s) := fun h => rfl
  have HNone := Lib.hid (fun k hk h => admitR_none (r := dynOf r) (s := s) (hs := E) (k := k) hk h)
  have HSome := Lib.hid (fun w h => admitR_some (r := dynOf r) (s := s) (hs := E) (w := w) h)
  have H0 : Hid (admTo (dynOf r) s E 0 = some ⟨⟨r.Low, 1⟩, ⟨r.High, 1⟩⟩) := rfl
  generalize admitR (dynOf r) E s = AR at *
  have hl4 : r.Map.length = 4 := by rw [hM]; rfl
  rw [hl4] at bM hx bP bS bR HSl ⊢
  have cM := fun o => bM.cell o
  have cS := fun o => bS.cell o
  clear hn hr hE hm ha hv hM hs hd hl4 hl1 hl2 hl3 hbx hby
  go_enter Tryz.func73, Tryz.ntmps73
  go_upto_region 1 with fail
  generalize (((w.alloc (.cells #[.slice A0 4 c0, .int .i64 r.Div, .int .i64 r.Bx, .int .i64 r.By, .int .i64 r.Low, .int .i64 r.High, .slice A6 r.Noise.length c6, .slice A7 r.Limits.length c7] 44)).alloc (.cells #[.slice A n c] 42)).alloc (.cells #[.int .i64 s.X, .int .i64 s.Y, .int .i64 s.D] 47)).alloc (.cells #[.int .i64 0, .int .i64 0, .int .i64 0, .int .i64 0] 89) = V at *
  go_cut [8] from 14 to 20 (fun p wx => OneSpan ⟨⟨r.Low, 1⟩, ⟨r.High, 1⟩⟩ V p wx)
  case first =>
    have hcur := Ext.refl V
    have lM := bM.lt
    have nM := Nat.ne_of_lt lM
    have nM' := (Nat.ne_of_lt lM).symm
    go_region_held3 (fun w' => w'.cell? ⟨w.heap.size, 4, none⟩ = some (.int .i64 r.Low) ∧ w'.cell? ⟨w.heap.size, 5, none⟩ = some (.int .i64 r.High))
      (go_keep)
      (first
        | (go_at_call 76; (with_reducible refine (HW1.out _).mono ?_); rintro e w9 ⟨rfl, hx9⟩; (first | have hx8 := (Ext.refl _).drew.trans hx9 | have hx8 := hx9); replace hcur := Ext.trans (by first | exact hcur | exact hcur.drew | exact hcur.alloc _ | exact hcur.drew.alloc _ | exact (hcur.alloc _).drew) hx9; have s9 := hcur.size; have d1 := fun o => (bM.ext hcur).cell o; have lM := (bM.ext hcur).lt; have nM := Nat.ne_of_lt lM; have nM' := (Nat.ne_of_lt lM).symm; (first | (replace gA := gA.ext hx8; have gAc := fun o => gA.cell o; have gAf := fun o => gA.frozen o; have lA := gA.lt) | (have gA := Blk.ext (Blk.new _ 89 #[.int .i64 0, .int .i64 0, .int .i64 0, .int .i64 0]) hx8; have gAc := fun o => gA.cell o; have gAf := fun o => gA.frozen o; have lA := gA.lt) | skip))
        | (go_at_call 76; (with_reducible refine (HW2.out _).mono ?_); rintro e w9 ⟨rfl, hx9⟩; (first | have hx8 := (Ext.refl _).drew.trans hx9 | have hx8 := hx9); replace hcur := Ext.trans (by first | exact hcur | exact hcur.drew | exact hcur.alloc _ | exact hcur.drew.alloc _ | exact (hcur.alloc _).drew) hx9; have s9 := hcur.size; have d1 := fun o => (bM.ext hcur).cell o; have lM := (bM.ext hcur).lt; have nM := Nat.ne_of_lt lM; have nM' := (Nat.ne_of_lt lM).symm; (first | (replace gA := gA.ext hx8; have gAc := fun o => gA.cell o; have gAf := fun o => gA.frozen o; have lA := gA.lt) | (have gA := Blk.ext (Blk.new _ 89 #[.int .i64 0, .int .i64 0, .int .i64 0, .int .i64 0]) hx8; have gAc := fun o => gA.cell o; have gAf := fun o => gA.frozen o; have lA := gA.lt) | skip)))
    all_goals
      go_wp2_with fail
      go_meet
      case rel => first | (with_reducible exact OneSpan.new (x := ⟨⟨r.Low, 1⟩, ⟨r.High, 1⟩⟩) hcur) | (with_reducible exact OneSpan.old (x := ⟨⟨r.Low, 1⟩, ⟨r.High, 1⟩⟩) hcur (by omega) gA)
  case rest =>
  obtain ⟨b, rfl, hVb, hVc, bW⟩ := hcut
  have hRl := bR.lt
  have hbb : w.heap.size + 1 + 1 + 1 < b := by omega
  replace hx := hx.trans hVc
  replace bM := bM.ext hVc
  replace bP := bP.ext hVc
  replace bS := bS.ext hVc
  replace bR := bR.ext hVc
  clear cM cS hVb hVc HW1 HW2
  have cP := fun o => bP.cell o
  go_wp2
  clear cP
  go_loopw [24] (fun i wr => ∃ k : Nat, k ≤ n ∧ i = .int .i64 k ∧ ∃ sp : Span, admTo (dynOf r) s E k = some sp ∧ Ext w wr ∧ Blk wr w.heap.size 44 #[.slice A0 4 c0, .int .i64 r.Div, .int .i64 r.Bx, .int .i64 r.By, .int .i64 r.Low, .int .i64 r.High, .slice A6 r.Noise.length c6, .slice A7 r.Limits.length c7] ∧ Blk wr (w.heap.size + 1 + 1) 47 #[.int .i64 s.X, .int .i64 s.Y, .int .i64 s.D] ∧ Blk wr (w.heap.size + 1 + 1 + 1) 89 #[.int .i64 0, .int .i64 0, .int .i64 0, .int .i64 0] ∧ Blk wr b 89 #[.int .i64 sp.Low.N, .int .i64 sp.Low.D, .int .i64 sp.High.N, .int .i64 sp.High.D]) (fun i _ => n - (intOf i).toNat)
  case atStart => exact ⟨0, Nat.zero_le _, rfl, _, H0.out, hx, bM, bS, bR, bW⟩
  case round =>
  obtain ⟨k, hk, rfl, sp, hadm, hy, dM, dS, dR, dW⟩ := hrel
  obtain ⟨i1, i2, _, _, _⟩ := HInv.out k (by have := HN.out; omega) sp hadm
  have lo := ratioOk_bd i1
  have hi := ratioOk_bd i2
  have Hadm := Lib.hid hadm
  have hsz := hy.size
  clear hx bM bS bR bW bP hadm H0
  have cW := fun o => dW.cell o
  have fW := fun o => dW.frozen o
  have cR := fun o => dR.cell o
  have fR := fun o => dR.frozen o
  by_cases hlt : k < n
  rotate_left
  · obtain rfl : k = n := by omega
    have HS := Lib.hid (HSome.out sp (by have := HN.out; rw [this]; exact Hadm.out))
    have HOk := Lib.hid (fun w => specSpanOk_any sp.Low.N sp.Low.D sp.High.N sp.High.D w (by unfold I64; omega) (by unfold I64; omega) (by unfold I64; omega) (by unfold I64; omega))
    obtain ⟨⟨ln, ld⟩, ⟨hn_, hd_⟩⟩ := sp
    dsimp only at *
    generalize spanOk ⟨⟨ln, ld⟩, ⟨hn_, hd_⟩⟩ = ok at *
    clear lo hi i1 i2 fW
    go_wp2_with fail
    refine (HOk.out _).mono ?_
    rintro e w3 ⟨rfl, hx3⟩
    replace hy := hy.trans hx3
    replace dR := dR.ext hx3
    replace dW := dW.ext hx3
    clear cW cR fR
    have cW := fun o => dW.cell o
    have cR := fun o => dR.cell o
    have fR := fun o => dR.frozen o
    cases ok
    · have H := Lib.hid (HS.out.trans (if_neg (by simp)))
      go_wp2
      have bF := (((dR.set_ 0 (.int .i64 0)).set_ 1 (.int .i64 0)).set_ 2 (.int .i64 0)).set_ 3 (.int .i64 0)
      have cF := fun o => bF.cell o
      clear cR fR
      refine bodyPost_ret (v := .tuple #[.agg #[.int .i64 0, .int .i64 0, .int .i64 0, .int .i64 0], .bool false]) (by simp [results, Tryz.results73, go_sem, cF]) rfl ?_
      exact ⟨by rw [H.out]; rfl, ext_set4 hy (by omega) _ _ _ _⟩
    · have H := Lib.hid (HS.out.trans (if_pos rfl))
      go_wp2
      have bF := (((dR.set_ 0 (.int .i64 ln)).set_ 1 (.int .i64 ld)).set_ 2 (.int .i64 hn_)).set_ 3 (.int .i64 hd_)
      have cF := fun o => bF.cell o
      clear cR fR
      refine bodyPost_ret (v := .tuple #[.agg #[.int .i64 ln, .int .i64 ld, .int .i64 hn_, .int .i64 hd_], .bool true]) (by simp [results, Tryz.results73, go_sem, cF]) rfl ?_
      exact ⟨by rw [H.out], ext_set4 hy (by omega) _ _ _ _⟩
  have hkl : k < E.length := by rw [HN.out]; exact hlt
  obtain ⟨b', off, rfl, hb, e0, e1, e2⟩ := (HR.out.ext hy).Half (k := k) hkl
  have hh := HEk.out k hkl
  have HStep := Lib.hid (admTo_step hkl Hadm.out)
  obtain ⟨g, hg⟩ : ∃ g, E[k]'hkl = g := ⟨_, rfl⟩
  rw [hg] at e0 e1 e2 hh HStep
  obtain ⟨⟨t1, t2⟩, ⟨n1, n2⟩, ⟨m1, m2⟩, ⟨p1, p2⟩, ⟨p3, p4⟩, ⟨p5, p6⟩⟩ := HTb.out g hh
  have HTg := HTop.out g
  have HSg := Lib.hid (fun w hm => HSl.out g hh w hm)
  obtain ⟨⟨y1, y2⟩, ⟨y3, y4⟩⟩ := HSb.out g hh
  have hsl := HSe.out g
  obtain ⟨dd1, dd2⟩ := HMb.out.2.2
  have HLT := Lib.hid hlt
  have hkl' := Lib.hid hkl
  unfold admStep at HStep
  clear hg hh hkl
  generalize topH (dynOf r) s g = T at *
  generalize slopeH (dynOf r) g = N at *
  generalize mapD (dynOf r) s = D at *
  clear HTg p1 p2 p3 p4 p5 p6
  obtain ⟨v1, hv1⟩ : ∃ v, g.A * r.Bx = v := ⟨_, rfl⟩
  obtain ⟨v2, hv2⟩ : ∃ v, g.B * r.By = v := ⟨_, rfl⟩
  rw [hv1] at y1 y2 hsl
  rw [hv2] at y3 y4 hsl
  obtain ⟨M, hM_⟩ : ∃ u, D * N = u := ⟨_, rfl⟩
  rw [hM_] at m1 m2
  have q1 : IntKind.i64.wrap (g.A * r.Bx) = v1 := by rw [hv1]; exact IntWalk.i64_in _ (by omega)
  have q2 : IntKind.i64.wrap (g.B * r.By) = v2 := by rw [hv2]; exact IntWalk.i64_in _ (by omega)
  have q3 : IntKind.i64.wrap (v1 + v2) = N := by rw [← hsl]; exact IntWalk.i64_in _ (by omega)
  clear hv1 hv2 hsl y1 y2 y3 y4
  have bG := Blk.new wr 78 #[.int .i64 g.A, .int .i64 g.B, .int .i64 g.C]
  have hA := (Ext.refl wr).alloc (.cells #[.int .i64 g.A, .int .i64 g.B, .int .i64 g.C] 78)
  replace hy := hy.trans hA
  replace dM := dM.ext hA
  replace dS := dS.ext hA
  replace dR := dR.ext hA
  replace dW := dW.ext hA
  have cG := fun o => bG.cell o
  have cM := fun o => dM.cell o
  have cS := fun o => dS.cell o
  go_wp2_with fail
  refine (HSg.out _ (HM.out _ hy)).mono ?_
  rintro e w3 ⟨rfl, hx3⟩
  replace hy := hy.trans hx3
  replace dM := dM.ext hx3
  replace dS := dS.ext hx3
  replace bG := bG.ext hx3
  replace dR := dR.ext hx3
  replace dW := dW.ext hx3
  clear cW fW cR fR cG cM cS e0 e1 e2
  have cG := fun o => bG.cell o
  have cM := fun o => dM.cell o
  have cW := fun o => dW.cell o
  have fW := fun o => dW.frozen o
  have cR := fun o => dR.cell o
  have fR := fun o => dR.frozen o
  have nbM : w.heap.size ≠ b := by omega
  have nbR : w.heap.size + 1 + 1 + 1 ≠ b := by omega
  have nbS : w.heap.size + 1 + 1 ≠ b := by omega
  have hwb : w.heap.size ≤ b := by omega
  by_cases hpos : 0 < N
  · have HC := Lib.hid (fun w => specRatioOf_any T M w (by unfold I64; omega) (by unfold I64; omega))
    have HSt := Lib.hid (HStep.out.trans (if_pos hpos))
    rw [hM_] at HSt
    have q6 : IntKind.i64.wrap (D * N) = M := by rw [hM_]; exact IntWalk.i64_in _ (by omega)
    obtain ⟨rr1, rr2⟩ := ratioOf_in T M
    have HMn := Lib.hid (fun w => specRatioMin_any sp.High.N sp.High.D (ratioOf T M).N (ratioOf T M).D w (by unfold I64; omega) (by unfold I64; omega) rr1 rr2)
    change Hid (∀ w, Calls Tryz.prog 80 #[.agg #[.int .i64 sp.High.N, .int .i64 sp.High.D], .agg #[.int .i64 (ratioOf T M).N, .int .i64 (ratioOf T M).D]] w fun e w' => e = .returned (.agg #[.int .i64 (ratioMin sp.High (ratioOf T M)).N, .int .i64 (ratioMin sp.High (ratioOf T M)).D]) ∧ Ext w w') at HMn
    generalize ratioOf T M = Q at *
    obtain ⟨R, hR⟩ : ∃ R, ratioMin sp.High Q = R := ⟨_, rfl⟩
    rw [hR] at HSt HMn
    clear hR rr1 rr2 hM_ lo hi i1 i2 HStep
    clear cR fR
    go_wp2_with fail
    clear cG cM q1 q2 q3
    go_region_law (first
      | (go_simp; go_at_call 76; (with_reducible refine (HC.out _).mono ?_); rintro e w8 ⟨rfl, hx8⟩; have hcur := (Ext.refl w3).drew.trans hx8; have d1 := fun o => (dW.ext hcur).cell o)
      | (go_simp; go_at_call 80; (with_reducible refine (HMn.out _).mono ?_); rintro e w9 ⟨rfl, hx9⟩; replace hcur := hcur.trans hx9; have d2 := fun o => (dW.ext hcur).cell o; have d3 := fun o => (dW.ext hcur).frozen o))
    all_goals
      have hy9 := hy.trans hcur
      have dM9 := ((dM.ext hcur).far (p := ⟨b, 2, none⟩) nbM (.int .i64 R.N)).far (p := ⟨b, 3, none⟩) nbM (.int .i64 R.D)
      have dS9 := ((dS.ext hcur).far (p := ⟨b, 2, none⟩) nbS (.int .i64 R.N)).far (p := ⟨b, 3, none⟩) nbS (.int .i64 R.D)
      have dR9 := ((dR.ext hcur).far (p := ⟨b, 2, none⟩) nbR (.int .i64 R.N)).far (p := ⟨b, 3, none⟩) nbR (.int .i64 R.D)
      have dW9 := ((dW.ext hcur).set_ 2 (.int .i64 R.N)).set_ 3 (.int .i64 R.D)
      have hyF := (hy9.setCell (p := ⟨b, 2, none⟩) hwb (.int .i64 R.N)).setCell (p := ⟨b, 3, none⟩) hwb (.int .i64 R.D)
      clear d1 d2 d3 cW fW
      go_wp2
      go_roundw
      case rel => exact ⟨k + 1, HLT.out, by go_num, ⟨sp.Low, ⟨R.N, R.D⟩⟩, HSt.out, by first | exact hyF | exact hyF.drew, by first | exact dM9, by first | exact dS9, by first | exact dR9, by first | exact dW9⟩
      case measure => have := HLT.out; simp [intOf]; omega
  by_cases hneg : N < 0
  · have HC := Lib.hid (fun w => specRatioOf_any (-T) (-M) w (by unfold I64; omega) (by unfold I64; omega))
    have HSt := Lib.hid (HStep.out.trans ((if_neg hpos).trans (if_pos hneg)))
    rw [Int.neg_mul, hM_] at HSt
    have q6 : IntKind.i64.wrap (-D * N) = -M := by rw [Int.neg_mul, hM_]; exact IntWalk.i64_in _ (by omega)
    have q6' : IntKind.i64.wrap (-(D * N)) = -M := by rw [hM_]; exact IntWalk.i64_in _ (by omega)
    have q7 : IntKind.i64.wrap (-T) = -T := IntWalk.i64_in _ (by omega)
    have q8 : IntKind.i64.wrap (-D) = -D := IntWalk.i64_in _ (by omega)
    obtain ⟨rr1, rr2⟩ := ratioOf_in (-T) (-M)
    have HMn := Lib.hid (fun w => specRatioMax_any sp.Low.N sp.Low.D (ratioOf (-T) (-M)).N (ratioOf (-T) (-M)).D w (by unfold I64; omega) (by unfold I64; omega) rr1 rr2)
    change Hid (∀ w, Calls Tryz.prog 81 #[.agg #[.int .i64 sp.Low.N, .int .i64 sp.Low.D], .agg #[.int .i64 (ratioOf (-T) (-M)).N, .int .i64 (ratioOf (-T) (-M)).D]] w fun e w' => e = .returned (.agg #[.int .i64 (ratioMax sp.Low (ratioOf (-T) (-M))).N, .int .i64 (ratioMax sp.Low (ratioOf (-T) (-M))).D]) ∧ Ext w w') at HMn
    generalize ratioOf (-T) (-M) = Q at *
    obtain ⟨R, hR⟩ : ∃ R, ratioMax sp.Low Q = R := ⟨_, rfl⟩
    rw [hR] at HSt HMn
    clear hR rr1 rr2 hM_ lo hi i1 i2 HStep
    clear cR fR
    go_wp2_with fail
    clear cG cM q1 q2 q3
    go_region_law (first
      | (go_simp; go_at_call 76; (with_reducible refine (HC.out _).mono ?_); rintro e w8 ⟨rfl, hx8⟩; have hcur := (Ext.refl w3).drew.trans hx8; have d1 := fun o => (dW.ext hcur).cell o)
      | (go_simp; go_at_call 81; (with_reducible refine (HMn.out _).mono ?_); rintro e w9 ⟨rfl, hx9⟩; replace hcur := hcur.trans hx9; have d2 := fun o => (dW.ext hcur).cell o; have d3 := fun o => (dW.ext hcur).frozen o))
    all_goals
      have hy9 := hy.trans hcur
      have dM9 := ((dM.ext hcur).far (p := ⟨b, 0, none⟩) nbM (.int .i64 R.N)).far (p := ⟨b, 1, none⟩) nbM (.int .i64 R.D)
      have dS9 := ((dS.ext hcur).far (p := ⟨b, 0, none⟩) nbS (.int .i64 R.N)).far (p := ⟨b, 1, none⟩) nbS (.int .i64 R.D)
      have dR9 := ((dR.ext hcur).far (p := ⟨b, 0, none⟩) nbR (.int .i64 R.N)).far (p := ⟨b, 1, none⟩) nbR (.int .i64 R.D)
      have dW9 := ((dW.ext hcur).set_ 0 (.int .i64 R.N)).set_ 1 (.int .i64 R.D)
      have hyF := (hy9.setCell (p := ⟨b, 0, none⟩) hwb (.int .i64 R.N)).setCell (p := ⟨b, 1, none⟩) hwb (.int .i64 R.D)
      clear d1 d2 d3 cW fW
      go_wp2
      go_roundw
      case rel => exact ⟨k + 1, HLT.out, by go_num, ⟨⟨R.N, R.D⟩, sp.High⟩, HSt.out, by first | exact hyF | exact hyF.drew, by first | exact dM9, by first | exact dS9, by first | exact dR9, by first | exact dW9⟩
      case measure => have := HLT.out; simp [intOf]; omega
  have HSt := Lib.hid (HStep.out.trans ((if_neg hpos).trans (if_neg hneg)))
  by_cases ht : T < 0
  · have H := Lib.hid (HNone.out (k + 1) hkl'.out (HSt.out.trans (if_pos ht)))
    go_wp2
    have bF := (((dR.set_ 0 (.int .i64 0)).set_ 1 (.int .i64 0)).set_ 2 (.int .i64 0)).set_ 3 (.int .i64 0)
    have cF := fun o => bF.cell o
    clear cR fR
    refine bodyPost_ret (v := .tuple #[.agg #[.int .i64 0, .int .i64 0, .int .i64 0, .int .i64 0], .bool false]) (by simp [results, Tryz.results73, go_sem, cF]) rfl ?_
    exact ⟨by rw [H.out]; rfl, ext_set4 hy (by omega) _ _ _ _⟩
  have HSt2 := Lib.hid (HSt.out.trans (if_neg ht))
  go_wp2
  go_roundw
  case rel => exact ⟨k + 1, HLT.out, by go_num, sp, HSt2.out, hy, dM, dS, dR, dW⟩
  case measure => have := HLT.out; simp [intOf]; omega
end Go.Proofs.YtbbdipfioopfmaaGreat
