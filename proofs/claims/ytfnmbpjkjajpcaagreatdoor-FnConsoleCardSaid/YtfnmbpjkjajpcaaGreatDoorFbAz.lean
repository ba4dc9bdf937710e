/- Contract of admit of the program. (written by tools/mkAm.py) -/
import Derived.Test.YtfnmbpjkjajpcaaGreatDoorFbRz
import Derived.Test.YtfnmbpjkjajpcaaGreatDoorFbRat
import Derived.Test.YtfnmbpjkjajpcaaGreatDoorFbJz
import Derived.Deep.CutRange
import Derived.Deep.RegionHeld3
import Derived.Deep.RegionLaw
import Derived.Test.YtfnmbpjkjajpcaaGreatDoorFbRf
import Derived.Test.YtfnmbpjkjajpcaaGreatDoorFbTz
import Derived.Test.YtfnmbpjkjajpcaaGreatDoorFbHz
namespace Go.Proofs.YtfnmbpjkjajpcaaGreatDoor
open Go.ChangeShapes Go.WideShapes Go.ChangeAt Go.RowKit
set_option linter.unusedVariables false
set_option maxRecDepth 100000
def SpanMade (x : Span × Bool) (w : World) (e : Ending) (w' : World) : Prop :=
  e = .returned (.tuple #[.agg #[.int .i64 x.1.Low.N, .int .i64 x.1.Low.D, .int .i64 x.1.High.N, .int .i64 x.1.High.D], .bool x.2]) ∧ Ext w w'
theorem ext_set4 {w V : World} {g : Nat} (h : Ext w V) (hg : w.heap.size ≤ g) (a b c d : Value) : Ext w ((((V.setCell ⟨g, 0, none⟩ a).setCell ⟨g, 1, none⟩ b).setCell ⟨g, 2, none⟩ c).setCell ⟨g, 3, none⟩ d) :=
  (((h.setCell (p := ⟨g, 0, none⟩) hg _).setCell (p := ⟨g, 1, none⟩) hg _).setCell (p := ⟨g, 2, none⟩) hg _).setCell (p := ⟨g, 3, none⟩) hg _
def OneSpan (x : Span) (V : World) (p : Value) (wx : World) : Prop := ∃ b : Nat, p = .pointer (some ⟨b, 0, none⟩) ∧ V.heap.size ≤ b ∧ Ext V wx ∧ Blk wx b 178 #[.int .i64 x.Low.N, .int .i64 x.Low.D, .int .i64 x.High.N, .int .i64 x.High.D]
theorem OneSpan.new {x : Span} {V w : World} (h : Ext V w) : OneSpan x V (.pointer (some ⟨w.heap.size, 0, none⟩)) (w.alloc (.cells #[.int .i64 x.Low.N, .int .i64 x.Low.D, .int .i64 x.High.N, .int .i64 x.High.D] 178)) :=
  ⟨_, rfl, h.size, h.alloc _, Blk.new w _ _⟩
theorem OneSpan.old {x : Span} {V w : World} {g : Nat} (h : Ext V w) (hg : V.heap.size ≤ g) (b : Blk w g 178 #[.int .i64 0, .int .i64 0, .int .i64 0, .int .i64 0]) : OneSpan x V (.pointer (some ⟨g, 0, none⟩)) ((((w.setCell ⟨g, 0, none⟩ (.int .i64 x.Low.N)).setCell ⟨g, 1, none⟩ (.int .i64 x.Low.D)).setCell ⟨g, 2, none⟩ (.int .i64 x.High.N)).setCell ⟨g, 3, none⟩ (.int .i64 x.High.D)) :=
  ⟨_, rfl, hg, ext_set4 h hg _ _ _ _, (((b.set_ 0 (.int .i64 x.Low.N)).set_ 1 (.int .i64 x.Low.D)).set_ 2 (.int .i64 x.High.N)).set_ 3 (.int .i64 x.High.D)⟩
theorem ratioOf_in (n d : Int) : I64 (ratioOf n d).N ∧ I64 (ratioOf n d).D := by
  unfold ratioOf
  split
  · unfold I64; decide
  · split
    · rename_i h
      have := ratioOk_bd h
      unfold I64
      omega
    · unfold I64; decide
theorem admitR_none {r : Dyn} {s : Spot} {hs : List Half} {k : Nat} (hk : k ≤ hs.length) (h : admTo r s hs k = none) : admitR r hs s = (zeroSpan, false) := by
  unfold admitR
  rw [admTo_none h _ hk]
theorem admitR_some {r : Dyn} {s : Spot} {hs : List Half} {w : Span} (h : admTo r s hs hs.length = some w) : admitR r hs s = if spanOk w = true then (w, true) else (zeroSpan, false) := by
  unfold admitR
  rw [h]
theorem admTo_step {r : Dyn} {s : Spot} {hs : List Half} {k : Nat} {w : Span} (hk : k < hs.length) (h : admTo r s hs k = some w) : admTo r s hs (k + 1) = admStep r s w hs[k] := by
  rw [admTo, h, halfAt0_at hk]
  rfl
set_option maxHeartbeats 32000000 in
theorem implAdmit_ok (r : Room) (A0 A6 A7 : Option Addr) (c0 c6 c7 : Nat) (A : Option Addr) (n c : Nat) (E : List Half) (s : Spot) (w : World) (hv : RoomV r) (ha : RoomHere w r A0 A6 A7 c0 c6 c7) (hn : E.length = n) (hr : Row w A (ints (flat Half.ints E))) (hE : E.all halfOk = true) (hle : n ≤ 40) (hs : SpotS s) :
    Calls Tryz.prog 300 #[.agg #[.slice A0 r.Map.length c0, .int .i64 r.Div, .int .i64 r.Bx, .int .i64 r.By, .int .i64 r.Low, .int .i64 r.High, .slice A6 r.Noise.length c6, .slice A7 r.Limits.length c7], .agg #[.slice A n c], .agg #[.int .i64 s.X, .int .i64 s.Y, .int .i64 s.D]] w (SpanMade (admitR (dynOf r) E s) w) := by
  obtain ⟨hd, hM⟩ := hv.dyn
  have hm := ha.at_.m
  rw [hM] at hm
  have hx : Ext w ((((w.alloc (.cells #[.slice A0 r.Map.length c0, .int .i64 r.Div, .int .i64 r.Bx, .int .i64 r.By, .int .i64 r.Low, .int .i64 r.High, .slice A6 r.Noise.length c6, .slice A7 r.Limits.length c7] 36)).alloc (.cells #[.slice A n c] 34)).alloc (.cells #[.int .i64 s.X, .int .i64 s.Y, .int .i64 s.D] 38)).alloc (.cells #[.int .i64 0, .int .i64 0, .int .i64 0, .int .i64 0] 178)) := ((((Ext.refl w).alloc _).alloc _).alloc _).alloc _
  have bM := (((Blk.new w 36 #[.slice A0 r.Map.length c0, .int .i64 r.Div, .int .i64 r.Bx, .int .i64 r.By, .int .i64 r.Low, .int .i64 r.High, .slice A6 r.Noise.length c6, .slice A7 r.Limits.length c7]).alloc (.cells #[.slice A n c] 34)).alloc (.cells #[.int .i64 s.X, .int .i64 s.Y, .int .i64 s.D] 38)).alloc (.cells #[.int .i64 0, .int .i64 0, .int .i64 0, .int .i64 0] 178)
  have bP := ((Blk.new (w.alloc (.cells #[.slice A0 r.Map.length c0, .int .i64 r.Div, .int .i64 r.Bx, .int .i64 r.By, .int .i64 r.Low, .int .i64 r.High, .slice A6 r.Noise.length c6, .slice A7 r.Limits.length c7] 36)) 34 #[.slice A n c]).alloc (.cells #[.int .i64 s.X, .int .i64 s.Y, .int .i64 s.D] 38)).alloc (.cells #[.int .i64 0, .int .i64 0, .int .i64 0, .int .i64 0] 178)
  have bS := (Blk.new ((w.alloc (.cells #[.slice A0 r.Map.length c0, .int .i64 r.Div, .int .i64 r.Bx, .int .i64 r.By, .int .i64 r.Low, .int .i64 r.High, .slice A6 r.Noise.length c6, .slice A7 r.Limits.length c7] 36)).alloc (.cells #[.slice A n c] 34)) 38 #[.int .i64 s.X, .int .i64 s.Y, .int .i64 s.D]).alloc (.cells #[.int .i64 0, .int .i64 0, .int .i64 0, .int .i64 0] 178)
  have bR := Blk.new (((w.alloc (.cells #[.slice A0 r.Map.length c0, .int .i64 r.Div, .int .i64 r.Bx, .int .i64 r.By, .int .i64 r.Low, .int .i64 r.High, .slice A6 r.Noise.length c6, .slice A7 r.Limits.length c7] 36)).alloc (.cells #[.slice A n c] 34)).alloc (.cells #[.int .i64 s.X, .int .i64 s.Y, .int .i64 s.D] 38)) 178 #[.int .i64 0, .int .i64 0, .int .i64 0, .int .i64 0]
  simp only [World.size_alloc] at bP bS bR
  have hs3 := hs.d3
  have hsd : ¬ 100000 < s.D := by omega
  have HW1 := Lib.hid (fun w => whole_any r.Low w)
  have HW2 := Lib.hid (fun w => whole_any r.High w)
  have HMp := Lib.hid (fun w hm => mapped_ok (dynOf r) A0 c0 s w hd hs hm)
  have HSl := Lib.hid (fun h (hh : halfOk h = true) w => slope_ok r A0 A6 A7 c0 c6 c7 h w hd hh)
  have HTb := Lib.hid (fun h (hh : halfOk h = true) => top_bd hd hs hh)
  have HMb := Lib.hid (map_bd hd hs)
  have HInv := Lib.hid (fun k hk w h => admInv hd hs hE k hk w h)
  have HEk : Hid (∀ k (hk : k < E.length), halfOk E[k] = true) := fun k h => List.all_eq_true.1 hE _ (List.getElem_mem h)
  have HM := Lib.hid hm
  have HR := Lib.hid hr
  have HN := Lib.hid hn
  have HTop : Hid (∀ h, topH (dynOf r) s h = h.C * mapD (dynOf r) s - h.A * mapX (dynOf r) s - h.B * mapY (dynOf r) s) := fun h => rfl
  have HNone := Lib.hid (fun k hk h => admitR_none (r := dynOf r) (s := s) (hs := E) (k := k) hk h)
  have HSome := Lib.hid (fun w h => admitR_some (r := dynOf r) (s := s) (hs := E) (w := w) h)
  have H0 : Hid (admTo (dynOf r) s E 0 = some ⟨⟨r.Low, 1⟩, ⟨r.High, 1⟩⟩) := rfl
  generalize admitR (dynOf r) E s = AR at *
  have hq : (dynOf r).q = r.Div := rfl
  rw [hq] at HMp
  have hl4 : r.Map.length = 4 := by rw [hM]; rfl
  rw [hl4] at bM hx bP bS bR HSl ⊢
  have cM := fun o => bM.cell o
  have cS := fun o => bS.cell o
  clear hn hr hE hm ha hv hM hs hd hs3 hq hl4
  go_enter Tryz.func300, Tryz.ntmps300
  go_upto_region 3 with fail
  generalize (((w.alloc (.cells #[.slice A0 4 c0, .int .i64 r.Div, .int .i64 r.Bx, .int .i64 r.By, .int .i64 r.Low, .int .i64 r.High, .slice A6 r.Noise.length c6, .slice A7 r.Limits.length c7] 36)).alloc (.cells #[.slice A n c] 34)).alloc (.cells #[.int .i64 s.X, .int .i64 s.Y, .int .i64 s.D] 38)).alloc (.cells #[.int .i64 0, .int .i64 0, .int .i64 0, .int .i64 0] 178) = V at *
  go_cut [8] from 20 to 26 (fun p wx => OneSpan ⟨⟨r.Low, 1⟩, ⟨r.High, 1⟩⟩ V p wx)
  case first =>
    have hcur := Ext.refl V
    have lM := bM.lt
    have nM := Nat.ne_of_lt lM
    have nM' := (Nat.ne_of_lt lM).symm
    go_region_held3 (fun w' => w'.cell? ⟨w.heap.size, 4, none⟩ = some (.int .i64 r.Low) ∧ w'.cell? ⟨w.heap.size, 5, none⟩ = some (.int .i64 r.High))
      (go_keep)
      (first
        | (go_at_call 326; (with_reducible refine (HW1.out _).mono ?_); rintro e w9 ⟨rfl, hx9⟩; (first | have hx8 := (Ext.refl _).drew.trans hx9 | have hx8 := hx9); replace hcur := Ext.trans (by first | exact hcur | exact hcur.drew | exact hcur.alloc _ | exact hcur.drew.alloc _ | exact (hcur.alloc _).drew) hx9; have s9 := hcur.size; have d1 := fun o => (bM.ext hcur).cell o; have lM := (bM.ext hcur).lt; have nM := Nat.ne_of_lt lM; have nM' := (Nat.ne_of_lt lM).symm; (first | (replace gA := gA.ext hx8; have gAc := fun o => gA.cell o; have gAf := fun o => gA.frozen o; have lA := gA.lt) | (have gA := Blk.ext (Blk.new _ 178 #[.int .i64 0, .int .i64 0, .int .i64 0, .int .i64 0]) hx8; have gAc := fun o => gA.cell o; have gAf := fun o => gA.frozen o; have lA := gA.lt) | skip))
        | (go_at_call 326; (with_reducible refine (HW2.out _).mono ?_); rintro e w9 ⟨rfl, hx9⟩; (first | have hx8 := (Ext.refl _).drew.trans hx9 | have hx8 := hx9); replace hcur := Ext.trans (by first | exact hcur | exact hcur.drew | exact hcur.alloc _ | exact hcur.drew.alloc _ | exact (hcur.alloc _).drew) hx9; have s9 := hcur.size; have d1 := fun o => (bM.ext hcur).cell o; have lM := (bM.ext hcur).lt; have nM := Nat.ne_of_lt lM; have nM' := (Nat.ne_of_lt lM).symm; (first | (replace gA := gA.ext hx8; have gAc := fun o => gA.cell o; have gAf := fun o => gA.frozen o; have lA := gA.lt) | (have gA := Blk.ext (Blk.new _ 178 #[.int .i64 0, .int .i64 0, .int .i64 0, .int .i64 0]) hx8; have gAc := fun o => gA.cell o; have gAf := fun o => gA.frozen o; have lA := gA.lt) | skip)))
    all_goals
      go_wp2_with fail
      go_meet
      case rel => first | (with_reducible exact OneSpan.new (x := ⟨⟨r.Low, 1⟩, ⟨r.High, 1⟩⟩) hcur) | (with_reducible exact OneSpan.old (x := ⟨⟨r.Low, 1⟩, ⟨r.High, 1⟩⟩) hcur (by omega) gA)
  case rest =>
  obtain ⟨b, rfl, hVb, hVc, bW⟩ := hcut
  have hRl := bR.lt
  have hbb : w.heap.size + 1 + 1 + 1 < b := by omega
  replace hx := hx.trans hVc
  replace bM := bM.ext hVc
  replace bP := bP.ext hVc
  replace bS := bS.ext hVc
  replace bR := bR.ext hVc
  clear cM cS hVb hVc HW1 HW2
  have cM := fun o => bM.cell o
  have cS := fun o => bS.cell o
  go_wp2_with fail
  refine (HMp.out _ (HM.out.ext hx)).mono ?_
  rintro e w2 ⟨rfl, hx2⟩
  replace hx := hx.trans hx2
  replace bM := bM.ext hx2
  replace bP := bP.ext hx2
  replace bR := bR.ext hx2
  replace bW := bW.ext hx2
  clear cM cS bS HM HMp
  have cP := fun o => bP.cell o
  go_wp2
  clear cP
  go_loopw [40] (fun i wr => ∃ k : Nat, k ≤ n ∧ i = .int .i64 k ∧ ∃ sp : Span, admTo (dynOf r) s E k = some sp ∧ Ext w wr ∧ Blk wr w.heap.size 36 #[.slice A0 4 c0, .int .i64 r.Div, .int .i64 r.Bx, .int .i64 r.By, .int .i64 r.Low, .int .i64 r.High, .slice A6 r.Noise.length c6, .slice A7 r.Limits.length c7] ∧ Blk wr (w.heap.size + 1 + 1 + 1) 178 #[.int .i64 0, .int .i64 0, .int .i64 0, .int .i64 0] ∧ Blk wr b 178 #[.int .i64 sp.Low.N, .int .i64 sp.Low.D, .int .i64 sp.High.N, .int .i64 sp.High.D]) (fun i _ => n - (intOf i).toNat)
  case atStart => exact ⟨0, Nat.zero_le _, rfl, _, H0.out, hx, bM, bR, bW⟩
  case round =>
  obtain ⟨k, hk, rfl, sp, hadm, hy, dM, dR, dW⟩ := hrel
  obtain ⟨i1, i2, _, _, _⟩ := HInv.out k (by have := HN.out; omega) sp hadm
  have lo := ratioOk_bd i1
  have hi := ratioOk_bd i2
  have Hadm := Lib.hid hadm
  have hsz := hy.size
  clear hx bM bR bW bP hadm H0
  have cW := fun o => dW.cell o
  have fW := fun o => dW.frozen o
  have cR := fun o => dR.cell o
  have fR := fun o => dR.frozen o
  by_cases hlt : k < n
  rotate_left
  · obtain rfl : k = n := by omega
    have HS := Lib.hid (HSome.out sp (by have := HN.out; rw [this]; exact Hadm.out))
    have HOk := Lib.hid (fun w => implSpanOk_any sp.Low.N sp.Low.D sp.High.N sp.High.D w (by unfold I64; omega) (by unfold I64; omega) (by unfold I64; omega) (by unfold I64; omega))
    obtain ⟨⟨ln, ld⟩, ⟨hn_, hd_⟩⟩ := sp
    dsimp only at *
    generalize spanOk ⟨⟨ln, ld⟩, ⟨hn_, hd_⟩⟩ = ok at *
    clear lo hi i1 i2 fW
    go_wp2_with fail
    refine (HOk.out _).mono ?_
    rintro e w3 ⟨rfl, hx3⟩
    replace hy := hy.trans hx3
    replace dR := dR.ext hx3
    replace dW := dW.ext hx3
    clear cW cR fR
    have cW := fun o => dW.cell o
    have cR := fun o => dR.cell o
    have fR := fun o => dR.frozen o
    cases ok
    · have H := Lib.hid (HS.out.trans (if_neg (by simp)))
      go_wp2
      have bF := (((dR.set_ 0 (.int .i64 0)).set_ 1 (.int .i64 0)).set_ 2 (.int .i64 0)).set_ 3 (.int .i64 0)
      have cF := fun o => bF.cell o
      clear cR fR
      refine bodyPost_ret (v := .tuple #[.agg #[.int .i64 0, .int .i64 0, .int .i64 0, .int .i64 0], .bool false]) (by simp [results, Tryz.results300, go_sem, cF]) rfl ?_
      exact ⟨by rw [H.out]; rfl, ext_set4 hy (by omega) _ _ _ _⟩
    · have H := Lib.hid (HS.out.trans (if_pos rfl))
      go_wp2
      have bF := (((dR.set_ 0 (.int .i64 ln)).set_ 1 (.int .i64 ld)).set_ 2 (.int .i64 hn_)).set_ 3 (.int .i64 hd_)
      have cF := fun o => bF.cell o
      clear cR fR
      refine bodyPost_ret (v := .tuple #[.agg #[.int .i64 ln, .int .i64 ld, .int .i64 hn_, .int .i64 hd_], .bool true]) (by simp [results, Tryz.results300, go_sem, cF]) rfl ?_
      exact ⟨by rw [H.out], ext_set4 hy (by omega) _ _ _ _⟩
  have hkl : k < E.length := by rw [HN.out]; exact hlt
  obtain ⟨b', off, rfl, hb, e0, e1, e2⟩ := (HR.out.ext hy).Half (k := k) hkl
  have hh := HEk.out k hkl
  have HStep := Lib.hid (admTo_step hkl Hadm.out)
  obtain ⟨g, hg⟩ : ∃ g, E[k]'hkl = g := ⟨_, rfl⟩
  rw [hg] at e0 e1 e2 hh HStep
  obtain ⟨⟨t1, t2⟩, ⟨n1, n2⟩, ⟨m1, m2⟩, ⟨p1, p2⟩, ⟨p3, p4⟩, ⟨p5, p6⟩⟩ := HTb.out g hh
  have HTg := HTop.out g
  have HSg := Lib.hid (fun w => HSl.out g hh w)
  obtain ⟨dd1, dd2⟩ := HMb.out.2.2
  have HLT := Lib.hid hlt
  have hkl' := Lib.hid hkl
  unfold admStep at HStep
  clear hg hh hkl
  generalize topH (dynOf r) s g = T at *
  generalize slopeH (dynOf r) g = N at *
  generalize hDD : mapD (dynOf r) s = D at *
  generalize hXX : mapX (dynOf r) s = X at *
  generalize hYY : mapY (dynOf r) s = Y at *
  clear hDD hXX hYY
  obtain ⟨u1, hu1⟩ : ∃ u, g.C * D = u := ⟨_, rfl⟩
  obtain ⟨u2, hu2⟩ : ∃ u, g.A * X = u := ⟨_, rfl⟩
  obtain ⟨u3, hu3⟩ : ∃ u, g.B * Y = u := ⟨_, rfl⟩
  obtain ⟨M, hM_⟩ : ∃ u, D * N = u := ⟨_, rfl⟩
  rw [hu1] at p1 p2 HTg
  rw [hu2] at p3 p4 HTg
  rw [hu3] at p5 p6 HTg
  rw [hM_] at m1 m2
  have q1 : IntKind.i64.wrap (g.C * D) = u1 := by rw [hu1]; exact IntWalk.i64_in _ (by omega)
  have q2 : IntKind.i64.wrap (g.A * X) = u2 := by rw [hu2]; exact IntWalk.i64_in _ (by omega)
  have q3 : IntKind.i64.wrap (g.B * Y) = u3 := by rw [hu3]; exact IntWalk.i64_in _ (by omega)
  have q4 : IntKind.i64.wrap (u1 - u2) = u1 - u2 := IntWalk.i64_in _ (by omega)
  have q5 : IntKind.i64.wrap (u1 - u2 - u3) = T := by rw [← HTg]; exact IntWalk.i64_in _ (by omega)
  clear hu1 hu2 hu3 HTg p1 p2 p3 p4 p5 p6
  have bG := Blk.new wr 116 #[.int .i64 g.A, .int .i64 g.B, .int .i64 g.C]
  have hA := (Ext.refl wr).alloc (.cells #[.int .i64 g.A, .int .i64 g.B, .int .i64 g.C] 116)
  replace hy := hy.trans hA
  replace dM := dM.ext hA
  replace dR := dR.ext hA
  replace dW := dW.ext hA
  have cG := fun o => bG.cell o
  have cM := fun o => dM.cell o
  go_wp2_with fail
  refine (HSg.out _).mono ?_
  rintro e w3 ⟨rfl, hx3⟩
  replace hy := hy.trans hx3
  replace dM := dM.ext hx3
  replace dR := dR.ext hx3
  replace dW := dW.ext hx3
  clear cW fW cR fR cG cM e0 e1 e2 q1 q2 q3 q4 q5
  have cW := fun o => dW.cell o
  have fW := fun o => dW.frozen o
  have cR := fun o => dR.cell o
  have fR := fun o => dR.frozen o
  have nbM : w.heap.size ≠ b := by omega
  have nbR : w.heap.size + 1 + 1 + 1 ≠ b := by omega
  have hwb : w.heap.size ≤ b := by omega
  by_cases hpos : 0 < N
  · have HC := Lib.hid (fun w => implRatioOf_any T M w (by unfold I64; omega) (by unfold I64; omega))
    have HSt := Lib.hid (HStep.out.trans (if_pos hpos))
    rw [hM_] at HSt
    have q6 : IntKind.i64.wrap (D * N) = M := by rw [hM_]; exact IntWalk.i64_in _ (by omega)
    obtain ⟨rr1, rr2⟩ := ratioOf_in T M
    have HMn := Lib.hid (fun w => implRatioMin_any sp.High.N sp.High.D (ratioOf T M).N (ratioOf T M).D w (by unfold I64; omega) (by unfold I64; omega) rr1 rr2)
    change Hid (∀ w, Calls Tryz.prog 329 #[.agg #[.int .i64 sp.High.N, .int .i64 sp.High.D], .agg #[.int .i64 (ratioOf T M).N, .int .i64 (ratioOf T M).D]] w fun e w' => e = .returned (.agg #[.int .i64 (ratioMin sp.High (ratioOf T M)).N, .int .i64 (ratioMin sp.High (ratioOf T M)).D]) ∧ Ext w w') at HMn
    generalize ratioOf T M = Q at *
    obtain ⟨R, hR⟩ : ∃ R, ratioMin sp.High Q = R := ⟨_, rfl⟩
    rw [hR] at HSt HMn
    clear hR rr1 rr2 hM_ lo hi i1 i2 HStep
    clear cR fR
    go_wp2_with fail
    go_region_law (first
      | (go_simp; go_at_call 191; (with_reducible refine (HC.out _).mono ?_); rintro e w8 ⟨rfl, hx8⟩; have hcur := (Ext.refl w3).drew.trans hx8; have d1 := fun o => (dW.ext hcur).cell o)
      | (go_simp; go_at_call 329; (with_reducible refine (HMn.out _).mono ?_); rintro e w9 ⟨rfl, hx9⟩; replace hcur := hcur.trans hx9; have d2 := fun o => (dW.ext hcur).cell o; have d3 := fun o => (dW.ext hcur).frozen o))
    all_goals
      have hy9 := hy.trans hcur
      have dM9 := ((dM.ext hcur).far (p := ⟨b, 2, none⟩) nbM (.int .i64 R.N)).far (p := ⟨b, 3, none⟩) nbM (.int .i64 R.D)
      have dR9 := ((dR.ext hcur).far (p := ⟨b, 2, none⟩) nbR (.int .i64 R.N)).far (p := ⟨b, 3, none⟩) nbR (.int .i64 R.D)
      have dW9 := ((dW.ext hcur).set_ 2 (.int .i64 R.N)).set_ 3 (.int .i64 R.D)
      have hyF := (hy9.setCell (p := ⟨b, 2, none⟩) hwb (.int .i64 R.N)).setCell (p := ⟨b, 3, none⟩) hwb (.int .i64 R.D)
      clear d1 d2 d3 cW fW
      go_wp2
      go_roundw
      case rel => exact ⟨k + 1, HLT.out, by go_num, ⟨sp.Low, ⟨R.N, R.D⟩⟩, HSt.out, by first | exact hyF | exact hyF.drew, by first | exact dM9, by first | exact dR9, by first | exact dW9⟩
      case measure => have := HLT.out; simp [intOf]; omega
  by_cases hneg : N < 0
  · have HC := Lib.hid (fun w => implRatioOf_any (-T) (-M) w (by unfold I64; omega) (by unfold I64; omega))
    have HSt := Lib.hid (HStep.out.trans ((if_neg hpos).trans (if_pos hneg)))
    rw [Int.neg_mul, hM_] at HSt
    have q6 : IntKind.i64.wrap (-D * N) = -M := by rw [Int.neg_mul, hM_]; exact IntWalk.i64_in _ (by omega)
    have q6' : IntKind.i64.wrap (-(D * N)) = -M := by rw [hM_]; exact IntWalk.i64_in _ (by omega)
    have q7 : IntKind.i64.wrap (-T) = -T := IntWalk.i64_in _ (by omega)
    have q8 : IntKind.i64.wrap (-D) = -D := IntWalk.i64_in _ (by omega)
    obtain ⟨rr1, rr2⟩ := ratioOf_in (-T) (-M)
    have HMn := Lib.hid (fun w => implRatioMax_any sp.Low.N sp.Low.D (ratioOf (-T) (-M)).N (ratioOf (-T) (-M)).D w (by unfold I64; omega) (by unfold I64; omega) rr1 rr2)
    change Hid (∀ w, Calls Tryz.prog 330 #[.agg #[.int .i64 sp.Low.N, .int .i64 sp.Low.D], .agg #[.int .i64 (ratioOf (-T) (-M)).N, .int .i64 (ratioOf (-T) (-M)).D]] w fun e w' => e = .returned (.agg #[.int .i64 (ratioMax sp.Low (ratioOf (-T) (-M))).N, .int .i64 (ratioMax sp.Low (ratioOf (-T) (-M))).D]) ∧ Ext w w') at HMn
    generalize ratioOf (-T) (-M) = Q at *
    obtain ⟨R, hR⟩ : ∃ R, ratioMax sp.Low Q = R := ⟨_, rfl⟩
    rw [hR] at HSt HMn
    clear hR rr1 rr2 hM_ lo hi i1 i2 HStep
    clear cR fR
    go_wp2_with fail
    go_region_law (first
      | (go_simp; go_at_call 191; (with_reducible refine (HC.out _).mono ?_); rintro e w8 ⟨rfl, hx8⟩; have hcur := (Ext.refl w3).drew.trans hx8; have d1 := fun o => (dW.ext hcur).cell o)
      | (go_simp; go_at_call 330; (with_reducible refine (HMn.out _).mono ?_); rintro e w9 ⟨rfl, hx9⟩; replace hcur := hcur.trans hx9; have d2 := fun o => (dW.ext hcur).cell o; have d3 := fun o => (dW.ext hcur).frozen o))
    all_goals
      have hy9 := hy.trans hcur
      have dM9 := ((dM.ext hcur).far (p := ⟨b, 0, none⟩) nbM (.int .i64 R.N)).far (p := ⟨b, 1, none⟩) nbM (.int .i64 R.D)
      have dR9 := ((dR.ext hcur).far (p := ⟨b, 0, none⟩) nbR (.int .i64 R.N)).far (p := ⟨b, 1, none⟩) nbR (.int .i64 R.D)
      have dW9 := ((dW.ext hcur).set_ 0 (.int .i64 R.N)).set_ 1 (.int .i64 R.D)
      have hyF := (hy9.setCell (p := ⟨b, 0, none⟩) hwb (.int .i64 R.N)).setCell (p := ⟨b, 1, none⟩) hwb (.int .i64 R.D)
      clear d1 d2 d3 cW fW
      go_wp2
      go_roundw
      case rel => exact ⟨k + 1, HLT.out, by go_num, ⟨⟨R.N, R.D⟩, sp.High⟩, HSt.out, by first | exact hyF | exact hyF.drew, by first | exact dM9, by first | exact dR9, by first | exact dW9⟩
      case measure => have := HLT.out; simp [intOf]; omega
  have HSt := Lib.hid (HStep.out.trans ((if_neg hpos).trans (if_neg hneg)))
  by_cases ht : T < 0
  · have H := Lib.hid (HNone.out (k + 1) hkl'.out (HSt.out.trans (if_pos ht)))
    go_wp2
    have bF := (((dR.set_ 0 (.int .i64 0)).set_ 1 (.int .i64 0)).set_ 2 (.int .i64 0)).set_ 3 (.int .i64 0)
    have cF := fun o => bF.cell o
    clear cR fR
    refine bodyPost_ret (v := .tuple #[.agg #[.int .i64 0, .int .i64 0, .int .i64 0, .int .i64 0], .bool false]) (by simp [results, Tryz.results300, go_sem, cF]) rfl ?_
    exact ⟨by rw [H.out]; rfl, ext_set4 hy (by omega) _ _ _ _⟩
  have HSt2 := Lib.hid (HSt.out.trans (if_neg ht))
  go_wp2
  go_roundw
  case rel => exact ⟨k + 1, HLT.out, by go_num, sp, HSt2.out, hy, dM, dR, dW⟩
  case measure => have := HLT.out; simp [intOf]; omega
end Go.Proofs.YtfnmbpjkjajpcaaGreatDoor
namespace Go.Proofs.YtfnmbpjkjajpcaaGreatDoor
open Go.ChangeShapes Go.WideShapes Go.ChangeAt Go.RowKit
set_option linter.unusedVariables false
set_option maxRecDepth 100000
end Go.Proofs.YtfnmbpjkjajpcaaGreatDoor
namespace Go.Proofs.YtfnmbpjkjajpcaaGreatDoor
open Go.ChangeShapes Go.WideShapes Go.ChangeAt Go.RowKit
set_option linter.unusedVariables false
set_option maxRecDepth 100000
def admAtR (r : Room) (ps : List Half) (s : Spot) : Span × Bool := if (erodeR ps r.Noise).2 = true ∧ (erodeR ps r.Noise).1 ≠ [] ∧ s.D ≤ 100000 then admitR (dynOf r) (erodeR ps r.Noise).1 s else (zeroSpan, false)
theorem admAt_no {r : Room} {ps : List Half} {s : Spot} (h : ¬ ((erodeR ps r.Noise).2 = true ∧ (erodeR ps r.Noise).1 ≠ [] ∧ s.D ≤ 100000)) : admAtR r ps s = (zeroSpan, false) := if_neg h
theorem admAt_yes {r : Room} {ps : List Half} {s : Spot} (h : (erodeR ps r.Noise).2 = true ∧ (erodeR ps r.Noise).1 ≠ [] ∧ s.D ≤ 100000) : admAtR r ps s = admitR (dynOf r) (erodeR ps r.Noise).1 s := if_pos h
theorem spot_I64 {s : Spot} (h : spotOk s = true) : I64 s.X ∧ I64 s.Y ∧ I64 s.D ∧ 1 ≤ s.D := by
  have h' := h
  unfold spotOk inR at h'
  simp only [Bool.and_eq_true, decide_eq_true_eq] at h'
  unfold I64
  omega
theorem admit_span {r : Dyn} {hs : List Half} {s : Spot} (h : (admitR r hs s).2 = true) : spanOk (admitR r hs s).1 = true := by
  unfold admitR at h ⊢
  split at h
  · split at h
    · rename_i w hw hk
      rw [if_pos hk]
      exact hk
    · cases h
  · cases h
theorem admAt_span {r : Room} {ps : List Half} {s : Spot} (h : (admAtR r ps s).2 = true) : spanOk (admAtR r ps s).1 = true := by
  unfold admAtR at h ⊢
  split at h
  · rename_i hc
    rw [if_pos hc]
    exact admit_span h
  · cases h
set_option maxHeartbeats 4000000 in
theorem implAdmit_big (r : Room) (A0 A6 A7 : Option Addr) (c0 c6 c7 : Nat) (A : Option Addr) (n c : Nat) (s : Spot) (w : World) (h : 100000 < s.D) :
    Calls Tryz.prog 300 #[.agg #[.slice A0 r.Map.length c0, .int .i64 r.Div, .int .i64 r.Bx, .int .i64 r.By, .int .i64 r.Low, .int .i64 r.High, .slice A6 r.Noise.length c6, .slice A7 r.Limits.length c7], .agg #[.slice A n c], .agg #[.int .i64 s.X, .int .i64 s.Y, .int .i64 s.D]] w (SpanMade (zeroSpan, false) w) := by
  have hx : Ext w ((((w.alloc (.cells #[.slice A0 r.Map.length c0, .int .i64 r.Div, .int .i64 r.Bx, .int .i64 r.By, .int .i64 r.Low, .int .i64 r.High, .slice A6 r.Noise.length c6, .slice A7 r.Limits.length c7] 36)).alloc (.cells #[.slice A n c] 34)).alloc (.cells #[.int .i64 s.X, .int .i64 s.Y, .int .i64 s.D] 38)).alloc (.cells #[.int .i64 0, .int .i64 0, .int .i64 0, .int .i64 0] 178)) := ((((Ext.refl w).alloc _).alloc _).alloc _).alloc _
  have bM := (((Blk.new w 36 #[.slice A0 r.Map.length c0, .int .i64 r.Div, .int .i64 r.Bx, .int .i64 r.By, .int .i64 r.Low, .int .i64 r.High, .slice A6 r.Noise.length c6, .slice A7 r.Limits.length c7]).alloc (.cells #[.slice A n c] 34)).alloc (.cells #[.int .i64 s.X, .int .i64 s.Y, .int .i64 s.D] 38)).alloc (.cells #[.int .i64 0, .int .i64 0, .int .i64 0, .int .i64 0] 178)
  have bP := ((Blk.new (w.alloc (.cells #[.slice A0 r.Map.length c0, .int .i64 r.Div, .int .i64 r.Bx, .int .i64 r.By, .int .i64 r.Low, .int .i64 r.High, .slice A6 r.Noise.length c6, .slice A7 r.Limits.length c7] 36)) 34 #[.slice A n c]).alloc (.cells #[.int .i64 s.X, .int .i64 s.Y, .int .i64 s.D] 38)).alloc (.cells #[.int .i64 0, .int .i64 0, .int .i64 0, .int .i64 0] 178)
  have bS := (Blk.new ((w.alloc (.cells #[.slice A0 r.Map.length c0, .int .i64 r.Div, .int .i64 r.Bx, .int .i64 r.By, .int .i64 r.Low, .int .i64 r.High, .slice A6 r.Noise.length c6, .slice A7 r.Limits.length c7] 36)).alloc (.cells #[.slice A n c] 34)) 38 #[.int .i64 s.X, .int .i64 s.Y, .int .i64 s.D]).alloc (.cells #[.int .i64 0, .int .i64 0, .int .i64 0, .int .i64 0] 178)
  have bR := Blk.new (((w.alloc (.cells #[.slice A0 r.Map.length c0, .int .i64 r.Div, .int .i64 r.Bx, .int .i64 r.By, .int .i64 r.Low, .int .i64 r.High, .slice A6 r.Noise.length c6, .slice A7 r.Limits.length c7] 36)).alloc (.cells #[.slice A n c] 34)).alloc (.cells #[.int .i64 s.X, .int .i64 s.Y, .int .i64 s.D] 38)) 178 #[.int .i64 0, .int .i64 0, .int .i64 0, .int .i64 0]
  simp only [World.size_alloc] at bP bS bR
  have hb : decide (100000 < s.D) = true := decide_eq_true h
  have cS := fun o => bS.cell o
  have cR := fun o => bR.cell o
  have fR := fun o => bR.frozen o
  go_enter Tryz.func300, Tryz.ntmps300
  go_wp2
  refine bodyPost_ret (v := .tuple #[.agg #[.int .i64 0, .int .i64 0, .int .i64 0, .int .i64 0], .bool false]) (by simp [results, Tryz.results300, go_sem]) rfl ?_
  exact ⟨rfl, hx⟩
set_option maxHeartbeats 8000000 in
theorem implAdmitAt_ok (r : Room) (A0 A6 A7 : Option Addr) (c0 c6 c7 : Nat) (A : Option Addr) (n c : Nat) (ps : List Half) (s : Spot) (w : World) (hv : RoomV r) (ha : RoomHere w r A0 A6 A7 c0 c6 c7) (hn : ps.length = n) (hr : Row w A (ints (flat Half.ints ps))) (hA : A = none → n = 0 ∧ c = 0) (hpk : regOk ps = true) (hsk : spotOk s = true) :
    Calls Tryz.prog 250 #[.agg #[.slice A0 r.Map.length c0, .int .i64 r.Div, .int .i64 r.Bx, .int .i64 r.By, .int .i64 r.Low, .int .i64 r.High, .slice A6 r.Noise.length c6, .slice A7 r.Limits.length c7], .agg #[.slice A n c], .agg #[.int .i64 s.X, .int .i64 s.Y, .int .i64 s.D]] w (SpanMade (admAtR r ps s) w) := by
  obtain ⟨s1, s2, s3, s4⟩ := spot_I64 hsk
  have HRo := Lib.hid (fun w ha hr => implRobustOf_ok r A0 A6 A7 c0 c6 c7 A n c ps w hv ha hn hr hpk)
  have HSk := Lib.hid (fun w => implSpotOk_any s.X s.Y s.D w s1 s2 s3)
  have hsk' : spotOk ⟨s.X, s.Y, s.D⟩ = true := hsk
  rw [hsk'] at HSk
  have HAd := Lib.hid (fun A n c E w ha hn hr hE hle hs => implAdmit_ok r A0 A6 A7 c0 c6 c7 A n c E s w hv ha hn hr hE hle hs)
  have HBig := Lib.hid (fun A n c w h => implAdmit_big r A0 A6 A7 c0 c6 c7 A n c s w h)
  have HSs : Hid (s.D ≤ 100000 → SpotS s) := fun h => spotS_of hsk h
  have HEk : Hid (regOk (robR ps r.Noise).1 = true) := erodeR_ok _ _
  have HRb : Hid (robR ps r.Noise = ((erodeR ps r.Noise).1, (erodeR ps r.Noise).2 && !decide ((erodeR ps r.Noise).1 = []))) := rfl
  have HNo := Lib.hid (fun h => admAt_no (r := r) (ps := ps) (s := s) h)
  have HYes := Lib.hid (fun h => admAt_yes (r := r) (ps := ps) (s := s) h)
  have hx : Ext w ((((w.alloc (.cells #[.slice A0 r.Map.length c0, .int .i64 r.Div, .int .i64 r.Bx, .int .i64 r.By, .int .i64 r.Low, .int .i64 r.High, .slice A6 r.Noise.length c6, .slice A7 r.Limits.length c7] 36)).alloc (.cells #[.slice A n c] 34)).alloc (.cells #[.int .i64 s.X, .int .i64 s.Y, .int .i64 s.D] 38)).alloc (.cells #[.int .i64 0, .int .i64 0, .int .i64 0, .int .i64 0] 178)) := ((((Ext.refl w).alloc _).alloc _).alloc _).alloc _
  have bM := (((Blk.new w 36 #[.slice A0 r.Map.length c0, .int .i64 r.Div, .int .i64 r.Bx, .int .i64 r.By, .int .i64 r.Low, .int .i64 r.High, .slice A6 r.Noise.length c6, .slice A7 r.Limits.length c7]).alloc (.cells #[.slice A n c] 34)).alloc (.cells #[.int .i64 s.X, .int .i64 s.Y, .int .i64 s.D] 38)).alloc (.cells #[.int .i64 0, .int .i64 0, .int .i64 0, .int .i64 0] 178)
  have bP := ((Blk.new (w.alloc (.cells #[.slice A0 r.Map.length c0, .int .i64 r.Div, .int .i64 r.Bx, .int .i64 r.By, .int .i64 r.Low, .int .i64 r.High, .slice A6 r.Noise.length c6, .slice A7 r.Limits.length c7] 36)) 34 #[.slice A n c]).alloc (.cells #[.int .i64 s.X, .int .i64 s.Y, .int .i64 s.D] 38)).alloc (.cells #[.int .i64 0, .int .i64 0, .int .i64 0, .int .i64 0] 178)
  have bS := (Blk.new ((w.alloc (.cells #[.slice A0 r.Map.length c0, .int .i64 r.Div, .int .i64 r.Bx, .int .i64 r.By, .int .i64 r.Low, .int .i64 r.High, .slice A6 r.Noise.length c6, .slice A7 r.Limits.length c7] 36)).alloc (.cells #[.slice A n c] 34)) 38 #[.int .i64 s.X, .int .i64 s.Y, .int .i64 s.D]).alloc (.cells #[.int .i64 0, .int .i64 0, .int .i64 0, .int .i64 0] 178)
  have bR := Blk.new (((w.alloc (.cells #[.slice A0 r.Map.length c0, .int .i64 r.Div, .int .i64 r.Bx, .int .i64 r.By, .int .i64 r.Low, .int .i64 r.High, .slice A6 r.Noise.length c6, .slice A7 r.Limits.length c7] 36)).alloc (.cells #[.slice A n c] 34)).alloc (.cells #[.int .i64 s.X, .int .i64 s.Y, .int .i64 s.D] 38)) 178 #[.int .i64 0, .int .i64 0, .int .i64 0, .int .i64 0]
  simp only [World.size_alloc] at bP bS bR
  have HR := Lib.hid hr
  have HA := Lib.hid ha
  have s4' := Lib.hid s4
  clear hv ha hn hr hpk hA s1 s2 s3 s4 hsk hsk'
  generalize admAtR r ps s = AR at *
  generalize erodeR ps r.Noise = ER at *
  generalize robR ps r.Noise = RR at *
  have cbM_1 := fun o => bM.cell o
  have cbP_2 := fun o => bP.cell o
  have cbS_3 := fun o => bS.cell o
  have cbR_4 := fun o => bR.cell o
  have fbR_4 := fun o => bR.frozen o
  go_enter Tryz.func250, Tryz.ntmps250
  go_wp2_with fail
  refine (HRo.out _ (HA.out.ext hx) (HR.out.ext hx)).mono ?_
  rintro e w1 ⟨A1, c1, n1, rfl, hn1, hx1, hown1⟩
  replace hx := hx.trans hx1
  replace bM := bM.ext hx1
  replace bP := bP.ext hx1
  replace bS := bS.ext hx1
  replace bR := bR.ext hx1
  have cbM_5 := fun o => bM.cell o
  have cbP_6 := fun o => bP.cell o
  have cbS_7 := fun o => bS.cell o
  have cbR_8 := fun o => bR.cell o
  have fbR_8 := fun o => bR.frozen o
  have hs1 := bR.lt
  obtain ⟨E, ok⟩ := RR
  dsimp only at *
  subst hn1
  have bE := Blk.new w1 34 #[.slice A1 E.length c1]
  have bR0 := bR
  have hx0 := hx
  have ha1 := (Ext.refl w1).alloc (.cells #[.slice A1 E.length c1] 34)
  replace hx := hx.trans ha1
  replace bM := bM.ext ha1
  replace bP := bP.ext ha1
  replace bS := bS.ext ha1
  replace bR := bR.ext ha1
  have cbM_9 := fun o => bM.cell o
  have cbP_10 := fun o => bP.cell o
  have cbS_11 := fun o => bS.cell o
  have cbR_12 := fun o => bR.cell o
  have fbR_12 := fun o => bR.frozen o
  replace hown1 := own_ext hown1 ha1
  have cE := fun o => bE.cell o
  cases ok
  · have H := Lib.hid (HNo.out (fun h => by
      have e := congrArg Prod.snd HRb.out
      simp only [h.1, decide_eq_false h.2.1] at e
      cases e))
    go_wp2
    have bF := ((((bR0.set_ 0 (.int .i64 0)).set_ 1 (.int .i64 0)).set_ 2 (.int .i64 0)).set_ 3 (.int .i64 0)).alloc (.cells #[.slice A1 E.length c1] 34)
    have cF := fun o => bF.cell o
    refine bodyPost_ret (v := .tuple #[.agg #[.int .i64 0, .int .i64 0, .int .i64 0, .int .i64 0], .bool false]) (by simp [results, Tryz.results250, go_sem, cF]) rfl ?_
    exact ⟨by rw [H.out]; rfl, (ext_set4 hx0 (by omega) _ _ _ _).alloc _⟩
  go_wp2_with fail
  refine (HSk.out _).mono ?_
  rintro e w2 ⟨rfl, hx2⟩
  replace hx := hx.trans hx2
  replace bM := bM.ext hx2
  replace bP := bP.ext hx2
  replace bS := bS.ext hx2
  replace bR := bR.ext hx2
  replace bE := bE.ext hx2
  have cbM_13 := fun o => bM.cell o
  have cbP_14 := fun o => bP.cell o
  have cbS_15 := fun o => bS.cell o
  have cbR_16 := fun o => bR.cell o
  have fbR_16 := fun o => bR.frozen o
  have cbE_17 := fun o => bE.cell o
  have hEE : E = ER.1 := congrArg Prod.fst HRb.out
  have hER : ER.2 = true ∧ ER.1 ≠ [] := by
    have e := congrArg Prod.snd HRb.out
    simp only at e
    have e2 := e.symm
    rw [Bool.and_eq_true] at e2
    refine ⟨e2.1, fun h => ?_⟩
    have := e2.2
    rw [decide_eq_true h] at this
    cases this
  have HEE := Lib.hid hEE
  have HER := Lib.hid hER
  clear hEE hER
  by_cases hD : s.D ≤ 100000
  · have H := Lib.hid (HYes.out ⟨HER.out.1, HER.out.2, hD⟩)
    have hSS := Lib.hid (HSs.out hD)
    go_wp2_with fail
    refine (HAd.out A1 E.length c1 E _ (HA.out.ext hx) rfl ((Row.of_own hown1).ext hx2) (regOk_all HEk.out) (by have := regOk_len HEk.out; omega) hSS.out).mono ?_
    rintro e w3 ⟨rfl, hx3⟩
    have hs3 := bR.lt
    replace hx := hx.trans hx3
    replace bM := bM.ext hx3
    replace bP := bP.ext hx3
    replace bS := bS.ext hx3
    replace bR := bR.ext hx3
    replace bE := bE.ext hx3
    have cbM_18 := fun o => bM.cell o
    have cbP_19 := fun o => bP.cell o
    have cbS_20 := fun o => bS.cell o
    have cbR_21 := fun o => bR.cell o
    have fbR_21 := fun o => bR.frozen o
    have cbE_22 := fun o => bE.cell o
    rw [HEE.out, ← H.out]
    obtain ⟨⟨⟨ln, ld⟩, ⟨hn_, hd_⟩⟩, ok⟩ := AR
    dsimp only
    go_wp2
    have bF := (((bR.set_ 0 (.int .i64 ln)).set_ 1 (.int .i64 ld)).set_ 2 (.int .i64 hn_)).set_ 3 (.int .i64 hd_)
    have cF := fun o => bF.cell o
    refine bodyPost_ret (v := .tuple #[.agg #[.int .i64 ln, .int .i64 ld, .int .i64 hn_, .int .i64 hd_], .bool ok]) (by simp [results, Tryz.results250, go_sem, cF]) rfl ?_
    exact ⟨rfl, ext_set4 hx (by omega) _ _ _ _⟩
  have H := Lib.hid (HNo.out (fun h => hD h.2.2))
  go_wp2_with fail
  refine (HBig.out A1 E.length c1 _ (by omega)).mono ?_
  rintro e w3 ⟨rfl, hx3⟩
  dsimp only [zeroSpan]
  have hs3 := bR.lt
  replace hx := hx.trans hx3
  replace bM := bM.ext hx3
  replace bP := bP.ext hx3
  replace bS := bS.ext hx3
  replace bR := bR.ext hx3
  replace bE := bE.ext hx3
  have cbM_23 := fun o => bM.cell o
  have cbP_24 := fun o => bP.cell o
  have cbS_25 := fun o => bS.cell o
  have cbR_26 := fun o => bR.cell o
  have fbR_26 := fun o => bR.frozen o
  have cbE_27 := fun o => bE.cell o
  go_wp2
  have bF := ((((bR.set_ 0 (.int .i64 0)).set_ 1 (.int .i64 0)).set_ 2 (.int .i64 0)).set_ 3 (.int .i64 0))
  have cF := fun o => bF.cell o
  refine bodyPost_ret (v := .tuple #[.agg #[.int .i64 0, .int .i64 0, .int .i64 0, .int .i64 0], .bool false]) (by simp [results, Tryz.results250, go_sem, cF]) rfl ?_
  exact ⟨by rw [H.out]; rfl, ext_set4 hx (by omega) _ _ _ _⟩
end Go.Proofs.YtfnmbpjkjajpcaaGreatDoor
namespace Go.Proofs.YtfnmbpjkjajpcaaGreatDoor
open Go.ChangeShapes Go.WideShapes Go.ChangeAt Go.RowKit
set_option linter.unusedVariables false
set_option maxRecDepth 100000
def spanLineT (r : Room) (ps : List Half) (s : Spot) : List UInt8 :=
  if roomOk r = true ∧ regOk ps = true ∧ spotOk s = true then (if (admAtR r ps s).2 = true then spotT s ++ [32] ++ spanT (admAtR r ps s).1 else spotT s ++ [32, 108, 111, 115, 116]) else []
theorem spanLine_no {r : Room} {ps : List Half} {s : Spot} (h : ¬ (roomOk r = true ∧ regOk ps = true ∧ spotOk s = true)) : spanLineT r ps s = [] := if_neg h
theorem spanLine_lost {r : Room} {ps : List Half} {s : Spot} (h : roomOk r = true ∧ regOk ps = true ∧ spotOk s = true) (h2 : (admAtR r ps s).2 = false) : spanLineT r ps s = spotT s ++ [32, 108, 111, 115, 116] := by
  unfold spanLineT; rw [if_pos h, h2]; rfl
theorem spanLine_yes {r : Room} {ps : List Half} {s : Spot} (h : roomOk r = true ∧ regOk ps = true ∧ spotOk s = true) (h2 : (admAtR r ps s).2 = true) : spanLineT r ps s = spotT s ++ [32] ++ spanT (admAtR r ps s).1 := by
  unfold spanLineT; rw [if_pos h, if_pos h2]
theorem spanT_len (w : Span) : (spanT w).length ≤ 260 := by
  unfold spanT
  split
  · have a := ratioT_len w.Low
    have b := ratioT_len w.High
    simp only [List.length_append, List.length_cons, List.length_nil]
    omega
  · simp
set_option maxHeartbeats 16000000 in
theorem implSpanLine_any (r : Room) (A0 A6 A7 : Option Addr) (c0 c6 c7 : Nat) (A : Option Addr) (n c : Nat) (ps : List Half) (s : Spot) (w : World) (ha : RoomHere w r A0 A6 A7 c0 c6 c7) (hFI : roomFI r) (hRL : RoomL r) (hn : ps.length = n) (hr : Row w A (ints (flat Half.ints ps))) (hA : A = none → n = 0 ∧ c = 0) (hI : HalvesI ps) (hle : n ≤ maxLen) (hs : I64 s.X ∧ I64 s.Y ∧ I64 s.D) (ht : Tab w) :
    Calls Tryz.prog 186 #[.agg #[.slice A0 r.Map.length c0, .int .i64 r.Div, .int .i64 r.Bx, .int .i64 r.By, .int .i64 r.Low, .int .i64 r.High, .slice A6 r.Noise.length c6, .slice A7 r.Limits.length c7], .agg #[.slice A n c], .agg #[.int .i64 s.X, .int .i64 s.Y, .int .i64 s.D]] w fun e w' => e = .returned (.string (txt (spanLineT r ps s))) ∧ Ext w w' := by
  have HRo := Lib.hid (fun w h => implRoomOk_any r A0 A6 A7 c0 c6 c7 w h hFI hRL)
  have HO := Lib.hid (fun w hr => implRegionOk_any A n c ps w hn hr hI hle)
  have HSk := Lib.hid (fun w => implSpotOk_any s.X s.Y s.D w hs.1 hs.2.1 hs.2.2)
  have HFs := Lib.hid (fun w ht => implFormatSpot_any s.X s.Y s.D w hs.1 hs.2.1 hs.2.2 ht)
  have HFp := Lib.hid (fun a b c d w ha hb hc hd ht => implFormatSpan_any a b c d w ha hb hc hd ht)
  have es : (⟨s.X, s.Y, s.D⟩ : Spot) = s := rfl
  rw [es] at HSk HFs
  have HAd := Lib.hid (fun (h1 : roomOk r = true) (h2 : regOk ps = true) (h3 : spotOk s = true) w ha hr => implAdmitAt_ok r A0 A6 A7 c0 c6 c7 A n c ps s w (room_valid h1) ha hn hr hA h2 h3)
  have HSpan : Hid ((admAtR r ps s).2 = true → spanOk (admAtR r ps s).1 = true) := fun h => admAt_span h
  have HNo := Lib.hid (fun h => spanLine_no (r := r) (ps := ps) (s := s) h)
  have HLost := Lib.hid (fun h h2 => spanLine_lost (r := r) (ps := ps) (s := s) h h2)
  have HYes := Lib.hid (fun h h2 => spanLine_yes (r := r) (ps := ps) (s := s) h h2)
  obtain ⟨v1, hv1⟩ : ∃ v, roomOk r = v := ⟨_, rfl⟩
  obtain ⟨v2, hv2⟩ : ∃ v, regOk ps = v := ⟨_, rfl⟩
  obtain ⟨v3, hv3⟩ : ∃ v, spotOk s = v := ⟨_, rfl⟩
  rw [hv1] at HRo HAd HNo HLost HYes
  rw [hv2] at HO HAd HNo HLost HYes
  rw [hv3] at HSk HAd HNo HLost HYes
  have HT := Lib.hid ht
  clear ht
  have HR := Lib.hid hr
  have HA := Lib.hid ha
  have sz : (txt (spotT s)).size ≤ 259 := by rw [txt_size]; exact spotT_len s
  have sz2 : (txt (spanT (admAtR r ps s).1)).size ≤ 260 := by rw [txt_size]; exact spanT_len _
  have hx : Ext w (((w.alloc (.cells #[.slice A0 r.Map.length c0, .int .i64 r.Div, .int .i64 r.Bx, .int .i64 r.By, .int .i64 r.Low, .int .i64 r.High, .slice A6 r.Noise.length c6, .slice A7 r.Limits.length c7] 36)).alloc (.cells #[.slice A n c] 34)).alloc (.cells #[.int .i64 s.X, .int .i64 s.Y, .int .i64 s.D] 38)) := (((Ext.refl w).alloc _).alloc _).alloc _
  have bM := ((Blk.new w 36 #[.slice A0 r.Map.length c0, .int .i64 r.Div, .int .i64 r.Bx, .int .i64 r.By, .int .i64 r.Low, .int .i64 r.High, .slice A6 r.Noise.length c6, .slice A7 r.Limits.length c7]).alloc (.cells #[.slice A n c] 34)).alloc (.cells #[.int .i64 s.X, .int .i64 s.Y, .int .i64 s.D] 38)
  have bP := (Blk.new (w.alloc (.cells #[.slice A0 r.Map.length c0, .int .i64 r.Div, .int .i64 r.Bx, .int .i64 r.By, .int .i64 r.Low, .int .i64 r.High, .slice A6 r.Noise.length c6, .slice A7 r.Limits.length c7] 36)) 34 #[.slice A n c]).alloc (.cells #[.int .i64 s.X, .int .i64 s.Y, .int .i64 s.D] 38)
  have bS := Blk.new ((w.alloc (.cells #[.slice A0 r.Map.length c0, .int .i64 r.Div, .int .i64 r.Bx, .int .i64 r.By, .int .i64 r.Low, .int .i64 r.High, .slice A6 r.Noise.length c6, .slice A7 r.Limits.length c7] 36)).alloc (.cells #[.slice A n c] 34)) 38 #[.int .i64 s.X, .int .i64 s.Y, .int .i64 s.D]
  simp only [World.size_alloc] at bP bS
  generalize spanLineT r ps s = LT at *
  generalize admAtR r ps s = AR at *
  obtain ⟨ts, hts⟩ : ∃ t, txt (spotT s) = t := ⟨_, rfl⟩
  rw [hts] at HFs sz
  have HTs := Lib.hid hts
  clear ha hFI hRL hn hr hA hI hle hs hv1 hv2 hv3 hts es
  have cbM_58 := fun o => bM.cell o
  have cbP_59 := fun o => bP.cell o
  have cbS_60 := fun o => bS.cell o
  go_enter Tryz.func186, Tryz.ntmps186
  go_wp2_with fail
  refine (HSk.out _).mono ?_
  rintro e w1 ⟨rfl, hx1⟩
  replace hx := hx.trans hx1
  replace bM := bM.ext hx1
  replace bP := bP.ext hx1
  replace bS := bS.ext hx1
  have cbM_61 := fun o => bM.cell o
  have cbP_62 := fun o => bP.cell o
  have cbS_63 := fun o => bS.cell o
  cases v3
  · have H := Lib.hid (HNo.out (fun h => by cases h.2.2))
    go_wp2
    go_ret
    exact ⟨ret_txt (by rw [H.out]; rfl), hx⟩
  go_wp2_with fail
  refine (HRo.out _ (HA.out.ext hx).at_).mono ?_
  rintro e w2 ⟨rfl, hx2⟩
  replace hx := hx.trans hx2
  replace bM := bM.ext hx2
  replace bP := bP.ext hx2
  replace bS := bS.ext hx2
  have cbM_64 := fun o => bM.cell o
  have cbP_65 := fun o => bP.cell o
  have cbS_66 := fun o => bS.cell o
  cases v1
  · have H := Lib.hid (HNo.out (fun h => by cases h.1))
    go_wp2
    go_ret
    exact ⟨ret_txt (by rw [H.out]; rfl), hx⟩
  go_wp2_with fail
  refine (HO.out _ (HR.out.ext hx)).mono ?_
  rintro e w3 ⟨rfl, hx3⟩
  replace hx := hx.trans hx3
  replace bM := bM.ext hx3
  replace bP := bP.ext hx3
  replace bS := bS.ext hx3
  have cbM_67 := fun o => bM.cell o
  have cbP_68 := fun o => bP.cell o
  have cbS_69 := fun o => bS.cell o
  cases v2
  · have H := Lib.hid (HNo.out (fun h => by cases h.2.1))
    go_wp2
    go_ret
    exact ⟨ret_txt (by rw [H.out]; rfl), hx⟩
  have HAdm := Lib.hid (fun w ha hr => HAd.out (by first | rfl | trivial) (by first | rfl | trivial) (by first | rfl | trivial) w ha hr)
  have HL2 := Lib.hid (fun h2 => HLost.out ⟨by first | rfl | trivial, by first | rfl | trivial, by first | rfl | trivial⟩ h2)
  have HY2 := Lib.hid (fun h2 => HYes.out ⟨by first | rfl | trivial, by first | rfl | trivial, by first | rfl | trivial⟩ h2)
  clear HNo HLost HYes HAd HO HRo HSk
  go_wp2_with fail
  refine (HAdm.out _ (HA.out.ext hx) (HR.out.ext hx)).mono ?_
  rintro e w4 ⟨rfl, hx4⟩
  replace hx := hx.trans hx4
  replace bM := bM.ext hx4
  replace bP := bP.ext hx4
  replace bS := bS.ext hx4
  have cbM_70 := fun o => bM.cell o
  have cbP_71 := fun o => bP.cell o
  have cbS_72 := fun o => bS.cell o
  obtain ⟨⟨⟨ln, ld⟩, ⟨hn_, hd_⟩⟩, ok⟩ := AR
  dsimp only at *
  have bW := Blk.new w4 178 #[.int .i64 ln, .int .i64 ld, .int .i64 hn_, .int .i64 hd_]
  have ha4 := (Ext.refl w4).alloc (.cells #[.int .i64 ln, .int .i64 ld, .int .i64 hn_, .int .i64 hd_] 178)
  replace hx := hx.trans ha4
  replace bM := bM.ext ha4
  replace bP := bP.ext ha4
  replace bS := bS.ext ha4
  have cbM_73 := fun o => bM.cell o
  have cbP_74 := fun o => bP.cell o
  have cbS_75 := fun o => bS.cell o
  cases ok
  · have H := Lib.hid (HL2.out rfl)
    obtain ⟨t1, ht1⟩ : ∃ t, ts ++ (⟨#[32, 108, 111, 115, 116]⟩ : ByteArray) = t := ⟨_, rfl⟩
    have a1 := add_txt (a := ts) (b := ⟨#[32, 108, 111, 115, 116]⟩) (c := t1) ht1 (by have : (⟨#[32, 108, 111, 115, 116]⟩ : ByteArray).size = 5 := rfl; omega)
    have HT1 : Hid (txt LT = t1) := by rw [Hid, H.out, ← txt_append, HTs.out, ← ht1]; rfl
    clear ht1
    go_wp2_with fail
    refine (HFs.out _ (HT.out.ext hx)).mono ?_
    rintro e w5 ⟨rfl, hx5⟩
    replace hx := hx.trans hx5
    replace bM := bM.ext hx5
    replace bP := bP.ext hx5
    replace bS := bS.ext hx5
    have cbM_76 := fun o => bM.cell o
    have cbP_77 := fun o => bP.cell o
    have cbS_78 := fun o => bS.cell o
    go_wp2
    go_ret
    exact ⟨ret_txt HT1.out.symm, hx⟩
  have H := Lib.hid (HY2.out rfl)
  have hsp := HSpan.out (by first | rfl | trivial)
  have hb1 : ratioOk ⟨ln, ld⟩ = true ∧ ratioOk ⟨hn_, hd_⟩ = true := by
    unfold spanOk at hsp
    simp only [Bool.and_eq_true] at hsp
    exact hsp.1
  have hb2 := ratioOk_bd hb1.1
  have hb3 := ratioOk_bd hb1.2
  dsimp only at hb2 hb3
  have HFq := Lib.hid (fun w ht => HFp.out ln ld hn_ hd_ w (by unfold I64; omega) (by unfold I64; omega) (by unfold I64; omega) (by unfold I64; omega) ht)
  obtain ⟨tp, htp⟩ : ∃ t, txt (spanT ⟨⟨ln, ld⟩, ⟨hn_, hd_⟩⟩) = t := ⟨_, rfl⟩
  rw [htp] at HFq sz2
  obtain ⟨t1, ht1⟩ : ∃ t, ts ++ (⟨#[32]⟩ : ByteArray) = t := ⟨_, rfl⟩
  have z1 : t1.size ≤ 260 := by rw [← ht1, ByteArray.size_append]; have : (⟨#[32]⟩ : ByteArray).size = 1 := rfl; omega
  have a1 := add_txt (a := ts) (b := ⟨#[32]⟩) (c := t1) ht1 (by have : (⟨#[32]⟩ : ByteArray).size = 1 := rfl; omega)
  obtain ⟨t2, ht2⟩ : ∃ t, t1 ++ tp = t := ⟨_, rfl⟩
  have a2 := add_txt (a := t1) (b := tp) (c := t2) ht2 (by omega)
  have HT2 : Hid (txt LT = t2) := by rw [Hid, H.out, ← txt_append, ← txt_append, HTs.out, htp, ← ht2, ← ht1]; rfl
  clear htp ht1 ht2 hb1 hb2 hb3 hsp
  go_wp2_with fail
  generalize (w4.alloc (.cells #[.int .i64 ln, .int .i64 ld, .int .i64 hn_, .int .i64 hd_] 178)) = W at *
  generalize w4.heap.size = BW at *
  have dS := fun (p : After W) o => (bS.ext p.h).cell o
  have dW := fun (p : After W) o => (bW.ext p.h).cell o
  try simp only [List.append_eq, List.cons_append, List.nil_append]
  refine wp_region_after (by kernel_rfl) (by kernel_rfl) ?_
  repeat (go_big_quiet_step ((first
      | (go_at_call 249; exact Calls.after_of (HFs.out _ (HT.out.ext (hx.trans (After.h _)))))
      | (go_at_call 251; exact Calls.after_of (HFq.out _ (HT.out.ext (hx.trans (After.h _))))))))
  refine wpQuiet_nil ?_
  rintro _ ⟨⟨V9, hV9⟩, rfl⟩
  go_wp2
  go_ret
  exact ⟨ret_txt HT2.out.symm, hx.trans hV9⟩
end Go.Proofs.YtfnmbpjkjajpcaaGreatDoor
