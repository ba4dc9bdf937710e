/- Contracts of hundredth and InfluenceOf of the program, InfluenceOf of the reference. -/
import Derived.Test.YtnkkfjlnjhmahaaFa
import Derived.Test.YtnkkfjlnjhmahaaGeoF
import Derived.Test.YtnkkfjlnjhmahaaIv
namespace Go.Proofs.Ytnkkfjlnjhmahaa
open Go.ChangeShapes Go.WideShapes Go.ChangeAt Go.RowKit
set_option linter.unusedVariables false
set_option maxRecDepth 100000

theorem Blk.two {V : World} {g k : Nat} {t : TypeId} {x0 x1 y0 y1 : Value} (hne : g ≠ k) (b1 : Blk V g t #[x0, x1]) (b2 : Blk V k t #[y0, y1]) (p q r s : Value) :
    Blk ((((V.setCell ⟨g, 0, none⟩ p).setCell ⟨g, 1, none⟩ q).setCell ⟨k, 0, none⟩ r).setCell ⟨k, 1, none⟩ s) g t #[p, q] ∧ Blk ((((V.setCell ⟨g, 0, none⟩ p).setCell ⟨g, 1, none⟩ q).setCell ⟨k, 0, none⟩ r).setCell ⟨k, 1, none⟩ s) k t #[r, s] :=
  ⟨(((b1.set_ 0 p).set_ 1 q).far (p := ⟨k, 0, none⟩) hne r).far (p := ⟨k, 1, none⟩) hne s, ((((b2.far (p := ⟨g, 0, none⟩) (Ne.symm hne) p).far (p := ⟨g, 1, none⟩) (Ne.symm hne) q).set_ 0 r).set_ 1 s)⟩
theorem Ext.two {w V : World} {g k : Nat} (h : Ext w V) (hg : w.heap.size ≤ g) (hk : w.heap.size ≤ k) (p q r s : Value) : Ext w ((((V.setCell ⟨g, 0, none⟩ p).setCell ⟨g, 1, none⟩ q).setCell ⟨k, 0, none⟩ r).setCell ⟨k, 1, none⟩ s) :=
  (((h.setCell (p := ⟨g, 0, none⟩) hg p).setCell (p := ⟨g, 1, none⟩) hg q).setCell (p := ⟨k, 0, none⟩) hk r).setCell (p := ⟨k, 1, none⟩) hk s
set_option maxHeartbeats 1000000 in
theorem hundredth_any (a b t : Int) (w : World) (h1 : I64 (a * t)) (h2 : I64 (b * 100)) :
    Calls Try.prog 38 #[.agg #[.int .i64 a, .int .i64 b], .int .i64 t] w fun e w' => e = .returned (.agg #[.int .i64 (ratioOf (a * t) (b * 100)).N, .int .i64 (ratioOf (a * t) (b * 100)).D]) ∧ Ext w w' := by
  have e1 : IntKind.i64.wrap (a * t) = a * t := IntWalk.i64_in _ (by unfold I64 at h1; omega)
  have e2 : IntKind.i64.wrap (b * 100) = b * 100 := IntWalk.i64_in _ (by unfold I64 at h2; omega)
  have hx : Ext w ((w.alloc (.cells #[.int .i64 a, .int .i64 b] 44)).alloc (.cells #[.int .i64 0, .int .i64 0] 44)) := ((Ext.refl w).alloc _).alloc _
  have b0 := (Blk.new w 44 #[.int .i64 a, .int .i64 b]).alloc (.cells #[.int .i64 0, .int .i64 0] 44)
  have b1 := Blk.new (w.alloc (.cells #[.int .i64 a, .int .i64 b] 44)) 44 #[.int .i64 0, .int .i64 0]
  simp only [World.size_alloc] at b1
  have c0 := fun o => b0.cell o
  have HC := Lib.hid (fun w => implRatioOf_any (a * t) (b * 100) w h1 h2)
  clear h1 h2
  go_enter Try.func38, Try.ntmps38
  go_wp2_with fail
  refine (HC.out _).mono ?_
  rintro e w1 ⟨rfl, hx1⟩
  replace hx := hx.trans hx1
  replace b1 := b1.ext hx1
  have c1 := fun o => b1.cell o
  have f1 := fun o => b1.frozen o
  go_wp2
  have bF := (b1.set_ 0 (.int .i64 (ratioOf (a * t) (b * 100)).N)).set_ 1 (.int .i64 (ratioOf (a * t) (b * 100)).D)
  have cF := fun o => bF.cell o
  refine bodyPost_ret (v := .agg #[.int .i64 (ratioOf (a * t) (b * 100)).N, .int .i64 (ratioOf (a * t) (b * 100)).D]) (by simp [results, Try.results38, go_sem, cF]) rfl ?_
  exact ⟨rfl, (hx.setCell (by simp) _).setCell (by simp) _⟩
def InfMade (x : Ratio × Ratio × Bool) (w : World) (e : Ending) (w' : World) : Prop :=
  e = .returned (.tuple #[.agg #[.int .i64 x.1.N, .int .i64 x.1.D], .agg #[.int .i64 x.2.1.N, .int .i64 x.2.1.D], .bool x.2.2]) ∧ Ext w w'
theorem infR_no {p : List Half} {g : Int} (h : ¬ ((-100 ≤ g ∧ g ≤ 100) ∧ p ≠ [] ∧ regOk p = true)) : infR p g = (⟨0, 0⟩, ⟨0, 0⟩, false) := if_neg h
theorem infR_big {p : List Half} {g : Int} (h : (-100 ≤ g ∧ g ≤ 100) ∧ p ≠ [] ∧ regOk p = true) (h2 : 1000000 < (infLow p g).D ∨ 1000000 < (infHigh p g).D) : infR p g = (⟨0, 0⟩, ⟨0, 0⟩, false) := by
  unfold infR; rw [if_pos h, if_pos h2]
theorem infR_yes {p : List Half} {g : Int} (h : (-100 ≤ g ∧ g ≤ 100) ∧ p ≠ [] ∧ regOk p = true) (h2 : ¬ (1000000 < (infLow p g).D ∨ 1000000 < (infHigh p g).D)) : infR p g = (infLow p g, infHigh p g, true) := by
  unfold infR; rw [if_pos h, if_neg h2]
theorem inRange_eq {n lo hi : Int} {v : Bool} (h : inR n lo hi = v) (w : World) : Calls Try.prog 35 #[.int .i64 n, .int .i64 lo, .int .i64 hi] w fun e w' => e = .returned (.bool v) ∧ w = w' := by
  rw [← h]; exact inRange_any n lo hi w
theorem inR_100 {g : Int} {v : Bool} (h : inR g (-100) 100 = v) : (-100 ≤ g ∧ g ≤ 100) ↔ v = true := by
  rw [← h]; unfold inR; simp only [Bool.and_eq_true, decide_eq_true_eq]
theorem infR_r {p : List Half} {g : Int} (h : ¬ (-100 ≤ g ∧ g ≤ 100)) : infR p g = (⟨0, 0⟩, ⟨0, 0⟩, false) := infR_no fun e => h e.1
theorem infR_v {p : List Half} {g : Int} (h : p = []) : infR p g = (⟨0, 0⟩, ⟨0, 0⟩, false) := infR_no fun e => e.2.1 h
theorem infR_k {p : List Half} {g : Int} (h : regOk p = false) : infR p g = (⟨0, 0⟩, ⟨0, 0⟩, false) := infR_no fun e => by rw [h] at e; cases e.2.2
set_option maxHeartbeats 8000000 in
theorem implInfluenceOf_any (A : Option Addr) (n c : Nat) (g : Int) (hs : List Half) (w : World) (hn : hs.length = n) (hr : Row w A (ints (flat Half.ints hs))) (hI : HalvesI hs) (hle : n ≤ maxLen) (hg : I64 g) :
    Calls Try.prog 13 #[.agg #[.slice A n c], .int .i64 g] w (InfMade (infR hs g) w) := by
  have hx : Ext w (((w.alloc (.cells #[.slice A n c] 25)).alloc (.cells #[.int .i64 0, .int .i64 0] 44)).alloc (.cells #[.int .i64 0, .int .i64 0] 44)) := (((Ext.refl w).alloc _).alloc _).alloc _
  have bP := ((Blk.new w 25 #[.slice A n c]).alloc (.cells #[.int .i64 0, .int .i64 0] 44)).alloc (.cells #[.int .i64 0, .int .i64 0] 44)
  have bL := (Blk.new (w.alloc (.cells #[.slice A n c] 25)) 44 #[.int .i64 0, .int .i64 0]).alloc (.cells #[.int .i64 0, .int .i64 0] 44)
  have bH := Blk.new ((w.alloc (.cells #[.slice A n c] 25)).alloc (.cells #[.int .i64 0, .int .i64 0] 44)) 44 #[.int .i64 0, .int .i64 0]
  simp only [World.size_alloc] at bL bH
  have HR := Lib.hid hr
  have HV := Lib.hid (fun w => implIsVoid_any A n c w hle)
  have HO := Lib.hid (fun w hr => implRegionOk_any A n c hs w hn hr hI hle)
  obtain ⟨p, hp⟩ : ∃ p, inR g (-100) 100 = p := ⟨_, rfl⟩
  have HIn := Lib.hid (fun w => inRange_eq hp w)
  have HG := Lib.hid (inR_100 hp)
  obtain ⟨v, hv⟩ : ∃ v, decide (n = 0) = v := ⟨_, rfl⟩
  rw [hv] at HV
  have HN : Hid (hs = [] ↔ v = true) := by
    rw [← hv, decide_eq_true_eq, ← hn]
    exact List.length_eq_zero_iff.symm
  obtain ⟨k, hk⟩ : ∃ k, regOk hs = k := ⟨_, rfl⟩
  rw [hk] at HO
  have HK := Lib.hid hk
  have HSu := Lib.hid (fun a (hk : regOk hs = true) (hne : hs ≠ []) (ha : -1 ≤ a ∧ a ≤ 1) w hr => implSupport_any A n c a 0 hs w hn hk hne (by omega) (by omega) hr)
  clear hp hv hk hr hn hI hle
  have cP := fun o => bP.cell o
  have cL := fun o => bL.cell o
  have cH := fun o => bH.cell o
  have fL := fun o => bL.frozen o
  have fH := fun o => bH.frozen o
  go_enter Try.func13, Try.ntmps13
  go_wp2_with fail
  refine (HIn.out _).mono ?_
  rintro e w' ⟨rfl, rfl⟩
  cases p
  · have HW := Lib.hid (infR_r (p := hs) (fun e => by have := HG.out.1 e; cases this))
    go_wp2
    obtain ⟨q1, q2⟩ := Blk.two (by omega) bL bH (.int .i64 0) (.int .i64 0) (.int .i64 0) (.int .i64 0)
    have d1 := fun o => q1.cell o
    have d2 := fun o => q2.cell o
    clear cL cH
    refine bodyPost_ret (v := .tuple #[.agg #[.int .i64 0, .int .i64 0], .agg #[.int .i64 0, .int .i64 0], .bool false]) (by simp [results, Try.results13, go_sem, d1, d2]) rfl ?_
    rw [HW.out]
    exact ⟨rfl, by first | (with_reducible exact hx) | exact hx.two (by omega) (by omega) _ _ _ _⟩
  go_wp2_with fail
  refine (HV.out _).mono ?_
  rintro e w1 ⟨rfl, hx1⟩
  replace hx := hx.trans hx1
  replace bP := bP.ext hx1
  replace bL := bL.ext hx1
  replace bH := bH.ext hx1
  clear cL cH fL fH
  have cL := fun o => bL.cell o
  have cH := fun o => bH.cell o
  have fL := fun o => bL.frozen o
  have fH := fun o => bH.frozen o
  clear cP
  have cP := fun o => bP.cell o
  cases v
  rotate_left
  · have HW := Lib.hid (infR_v (p := hs) (g := g) (HN.out.2 rfl))
    go_wp2
    obtain ⟨q1, q2⟩ := Blk.two (by omega) bL bH (.int .i64 0) (.int .i64 0) (.int .i64 0) (.int .i64 0)
    have d1 := fun o => q1.cell o
    have d2 := fun o => q2.cell o
    clear cL cH
    refine bodyPost_ret (v := .tuple #[.agg #[.int .i64 0, .int .i64 0], .agg #[.int .i64 0, .int .i64 0], .bool false]) (by simp [results, Try.results13, go_sem, d1, d2]) rfl ?_
    rw [HW.out]
    exact ⟨rfl, by first | (with_reducible exact hx) | exact hx.two (by omega) (by omega) _ _ _ _⟩
  have hne : hs ≠ [] := fun e => by have := HN.out.1 e; cases this
  go_wp2_with fail
  refine (HO.out _ (HR.out.ext hx)).mono ?_
  rintro e w2 ⟨rfl, hx2⟩
  replace hx := hx.trans hx2
  replace bP := bP.ext hx2
  replace bL := bL.ext hx2
  replace bH := bH.ext hx2
  clear cL cH fL fH
  have cL := fun o => bL.cell o
  have cH := fun o => bH.cell o
  have fL := fun o => bL.frozen o
  have fH := fun o => bH.frozen o
  clear cP
  have cP := fun o => bP.cell o
  cases k
  · have HW := Lib.hid (infR_k (p := hs) (g := g) HK.out)
    go_wp2
    obtain ⟨q1, q2⟩ := Blk.two (by omega) bL bH (.int .i64 0) (.int .i64 0) (.int .i64 0) (.int .i64 0)
    have d1 := fun o => q1.cell o
    have d2 := fun o => q2.cell o
    clear cL cH
    refine bodyPost_ret (v := .tuple #[.agg #[.int .i64 0, .int .i64 0], .agg #[.int .i64 0, .int .i64 0], .bool false]) (by simp [results, Try.results13, go_sem, d1, d2]) rfl ?_
    rw [HW.out]
    exact ⟨rfl, by first | (with_reducible exact hx) | exact hx.two (by omega) (by omega) _ _ _ _⟩
  have hS := shape_of HK.out hne
  have hg' := HG.out.2 (by first | rfl | trivial)
  have HA := Lib.hid (infR_yes (p := hs) (g := g) ⟨hg', hne, HK.out⟩)
  have HBg := Lib.hid (infR_big (p := hs) (g := g) ⟨hg', hne, HK.out⟩)
  obtain ⟨i1, i2, i3, i4, i5⟩ := inf_impl hS hg'
  obtain ⟨a1, a2, a3⟩ := hund_bd hS (a := 1) (t := g) (by omega) (by omega)
  obtain ⟨b1, b2, b3⟩ := hund_bd hS (a := -1) (t := -g) (by omega) (by omega)
  have S1 := Lib.hid (fun w hr => HSu.out 1 HK.out hne (by omega) w hr)
  have S2 := Lib.hid (fun w hr => HSu.out (-1) HK.out hne (by omega) w hr)
  unfold hundred at i1 i2 i3 i4 i5
  have H1 := Lib.hid (fun w => hundredth_any (suppR hs 1 0).N (suppR hs 1 0).D g w (by unfold I64; omega) (by unfold I64; omega))
  have H2 := Lib.hid (fun w => hundredth_any (suppR hs (-1) 0).N (suppR hs (-1) 0).D (-g) w (by unfold I64; omega) (by unfold I64; omega))
  generalize suppR hs 1 0 = r1 at *
  generalize suppR hs (-1) 0 = r2 at *
  generalize ratioOf (r1.N * g) (r1.D * 100) = x at *
  generalize ratioOf (r2.N * -g) (r2.D * 100) = y at *
  have bx := ratioOk_bd i3
  have by_ := ratioOk_bd i4
  have HX := Lib.hid i3
  have HY := Lib.hid i4
  have HMn := Lib.hid i1
  have HMx := Lib.hid i2
  have HB5 := Lib.hid i5
  have ew : IntKind.i64.wrap (-g) = -g := IntWalk.i64_in _ (by omega)
  clear a1 a2 a3 b1 b2 b3 i1 i2 i3 i4 i5 hS HSu HIn HV HO
  go_wp2_with fail
  refine (S1.out _ (HR.out.ext hx)).mono ?_
  rintro e w3 ⟨rfl, hx3⟩
  replace hx := hx.trans hx3
  replace bP := bP.ext hx3
  replace bL := bL.ext hx3
  replace bH := bH.ext hx3
  go_wp2_with fail
  refine (H1.out _).mono ?_
  rintro e w4 ⟨rfl, hx4⟩
  have s4 := (bH.ext hx4).lt
  have bX := Blk.new w4 44 #[.int .i64 x.N, .int .i64 x.D]
  have ha4 := (Ext.refl w4).alloc (.cells #[.int .i64 x.N, .int .i64 x.D] 44)
  replace hx := (hx.trans hx4).trans ha4
  replace bP := (bP.ext hx4).ext ha4
  replace bL := (bL.ext hx4).ext ha4
  replace bH := (bH.ext hx4).ext ha4
  clear cP
  have cP := fun o => bP.cell o
  go_wp2_with fail
  refine (S2.out _ (HR.out.ext hx)).mono ?_
  rintro e w5 ⟨rfl, hx5⟩
  replace hx := hx.trans hx5
  replace bL := bL.ext hx5
  replace bH := bH.ext hx5
  replace bX := bX.ext hx5
  go_wp2_with fail
  refine (H2.out _).mono ?_
  rintro e w6 ⟨rfl, hx6⟩
  have s6 := (bH.ext hx6).lt
  have bY := Blk.new w6 44 #[.int .i64 y.N, .int .i64 y.D]
  have ha6 := (Ext.refl w6).alloc (.cells #[.int .i64 y.N, .int .i64 y.D] 44)
  replace hx := (hx.trans hx6).trans ha6
  replace bL := (bL.ext hx6).ext ha6
  replace bH := (bH.ext hx6).ext ha6
  replace bX := (bX.ext hx6).ext ha6
  have cX := fun o => bX.cell o
  have cY := fun o => bY.cell o
  clear cL cH fL fH
  have cL := fun o => bL.cell o
  have cH := fun o => bH.cell o
  have fL := fun o => bL.frozen o
  have fH := fun o => bH.frozen o
  have HOx := Lib.hid (fun w => implRatioOk_any x.N x.D w (by unfold I64; omega) (by unfold I64; omega))
  have HOy := Lib.hid (fun w => implRatioOk_any y.N y.D w (by unfold I64; omega) (by unfold I64; omega))
  change Hid (∀ w, Calls Try.prog 40 #[.agg #[.int .i64 x.N, .int .i64 x.D]] w fun e w' => e = .returned (.bool (ratioOk x)) ∧ Ext w w') at HOx
  change Hid (∀ w, Calls Try.prog 40 #[.agg #[.int .i64 y.N, .int .i64 y.D]] w fun e w' => e = .returned (.bool (ratioOk y)) ∧ Ext w w') at HOy
  rw [HX.out] at HOx
  rw [HY.out] at HOy
  have HMi := Lib.hid (fun w => implRatioMin_any x.N x.D y.N y.D w (by unfold I64; omega) (by unfold I64; omega) (by unfold I64; omega) (by unfold I64; omega))
  have HMa := Lib.hid (fun w => implRatioMax_any x.N x.D y.N y.D w (by unfold I64; omega) (by unfold I64; omega) (by unfold I64; omega) (by unfold I64; omega))
  change Hid (∀ w, Calls Try.prog 41 #[.agg #[.int .i64 x.N, .int .i64 x.D], .agg #[.int .i64 y.N, .int .i64 y.D]] w fun e w' => e = .returned (.agg #[.int .i64 (ratioMin x y).N, .int .i64 (ratioMin x y).D]) ∧ Ext w w') at HMi
  change Hid (∀ w, Calls Try.prog 42 #[.agg #[.int .i64 x.N, .int .i64 x.D], .agg #[.int .i64 y.N, .int .i64 y.D]] w fun e w' => e = .returned (.agg #[.int .i64 (ratioMax x y).N, .int .i64 (ratioMax x y).D]) ∧ Ext w w') at HMa
  rw [HMn.out] at HMi
  rw [HMx.out] at HMa
  obtain ⟨xN, xD⟩ := x
  obtain ⟨yN, yD⟩ := y
  dsimp only at *
  clear bx by_
  go_wp2_with fail
  refine (HOx.out _).mono ?_
  rintro e w7 ⟨rfl, hx7⟩
  replace hx := hx.trans hx7
  replace bL := bL.ext hx7
  replace bH := bH.ext hx7
  replace bX := bX.ext hx7
  replace bY := bY.ext hx7
  clear cX cY
  have cX := fun o => bX.cell o
  have cY := fun o => bY.cell o
  go_wp2_with fail
  refine (HOy.out _).mono ?_
  rintro e w8 ⟨rfl, hx8⟩
  replace hx := hx.trans hx8
  replace bL := bL.ext hx8
  replace bH := bH.ext hx8
  replace bX := bX.ext hx8
  replace bY := bY.ext hx8
  clear cX cY
  have cX := fun o => bX.cell o
  have cY := fun o => bY.cell o
  clear cL cH fL fH
  have cL := fun o => bL.cell o
  have cH := fun o => bH.cell o
  have fL := fun o => bL.frozen o
  have fH := fun o => bH.frozen o
  by_cases hb1 : 1000000 < xD
  · have HW := Lib.hid (HBg.out (HB5.out.1 (.inl hb1)))
    go_wp2
    obtain ⟨q1, q2⟩ := Blk.two (by omega) bL bH (.int .i64 0) (.int .i64 0) (.int .i64 0) (.int .i64 0)
    have d1 := fun o => q1.cell o
    have d2 := fun o => q2.cell o
    clear cL cH
    refine bodyPost_ret (v := .tuple #[.agg #[.int .i64 0, .int .i64 0], .agg #[.int .i64 0, .int .i64 0], .bool false]) (by simp [results, Try.results13, go_sem, d1, d2]) rfl ?_
    rw [HW.out]
    exact ⟨rfl, by first | (with_reducible exact hx) | exact hx.two (by omega) (by omega) _ _ _ _⟩
  by_cases hb2 : 1000000 < yD
  · have HW := Lib.hid (HBg.out (HB5.out.1 (.inr hb2)))
    go_wp2
    obtain ⟨q1, q2⟩ := Blk.two (by omega) bL bH (.int .i64 0) (.int .i64 0) (.int .i64 0) (.int .i64 0)
    have d1 := fun o => q1.cell o
    have d2 := fun o => q2.cell o
    clear cL cH
    refine bodyPost_ret (v := .tuple #[.agg #[.int .i64 0, .int .i64 0], .agg #[.int .i64 0, .int .i64 0], .bool false]) (by simp [results, Try.results13, go_sem, d1, d2]) rfl ?_
    rw [HW.out]
    exact ⟨rfl, by first | (with_reducible exact hx) | exact hx.two (by omega) (by omega) _ _ _ _⟩
  have HW := Lib.hid (HA.out (fun e => by rcases HB5.out.2 e with h | h; exact hb1 h; exact hb2 h))
  clear HBg HB5 HA
  go_wp2_with fail
  have n1 : ¬ w4.heap.size = w.heap.size + 1 := by omega
  have n2 : ¬ w4.heap.size = w.heap.size + 1 + 1 := by omega
  have n3 : ¬ w6.heap.size = w.heap.size + 1 := by omega
  have n4 : ¬ w6.heap.size = w.heap.size + 1 + 1 := by omega
  have n1' : ¬ w.heap.size + 1 = w4.heap.size := by omega
  have n2' : ¬ w.heap.size + 1 + 1 = w4.heap.size := by omega
  have n3' : ¬ w.heap.size + 1 = w6.heap.size := by omega
  have n4' : ¬ w.heap.size + 1 + 1 = w6.heap.size := by omega
  have hcur := Ext.refl (w8)
  go_region_held3 (fun w' => w'.cell? ⟨w4.heap.size, 0, none⟩ = some (.int .i64 xN) ∧ w'.cell? ⟨w4.heap.size, 1, none⟩ = some (.int .i64 xD) ∧ w'.cell? ⟨w6.heap.size, 0, none⟩ = some (.int .i64 yN) ∧ w'.cell? ⟨w6.heap.size, 1, none⟩ = some (.int .i64 yD))
    (go_keep)
    (first
      | (go_at_call 41; (with_reducible refine (HMi.out _).mono ?_); rintro e w9 ⟨rfl, hx9⟩; replace hcur := Ext.trans (by first | exact hcur | exact hcur.drew | exact hcur.alloc _ | exact (hcur.alloc _).drew) hx9; have c9bX := fun o => (bX.ext hcur).cell o; have c9bY := fun o => (bY.ext hcur).cell o; (have l9 := fun o => (bL.ext hcur).cell o; have m9 := fun o => (bL.ext hcur).frozen o; have l8 := fun o => (bH.ext hcur).cell o; have m8 := fun o => (bH.ext hcur).frozen o))
      | (go_at_call 42; (with_reducible refine (HMa.out _).mono ?_); rintro e w9 ⟨rfl, hx9⟩; replace hcur := Ext.trans (by first | exact hcur | exact hcur.drew | exact hcur.alloc _ | exact (hcur.alloc _).drew) hx9; have c9bX := fun o => (bX.ext hcur).cell o; have c9bY := fun o => (bY.ext hcur).cell o; (have l9 := fun o => (bL.ext hcur).cell o; have m9 := fun o => (bL.ext hcur).frozen o; have l8 := fun o => (bH.ext hcur).cell o; have m8 := fun o => (bH.ext hcur).frozen o)))
  all_goals
    have bl := bL.ext hcur
    have bh := bH.ext hcur
    obtain ⟨q1, q2⟩ := Blk.two (by omega) bl bh (.int .i64 (infLow hs g).N) (.int .i64 (infLow hs g).D) (.int .i64 (infHigh hs g).N) (.int .i64 (infHigh hs g).D)
    have d1 := fun o => q1.cell o
    have d2 := fun o => q2.cell o
    clear cL cH
    go_wp2
    refine bodyPost_ret (v := .tuple #[.agg #[.int .i64 (infLow hs g).N, .int .i64 (infLow hs g).D], .agg #[.int .i64 (infHigh hs g).N, .int .i64 (infHigh hs g).D], .bool true]) (by simp [results, Try.results13, go_sem, d1, d2]) rfl ?_
    rw [HW.out]
    exact ⟨rfl, by first | exact (hx.trans hcur).two (by omega) (by omega) _ _ _ _ | exact ((hx.trans hcur).two (by omega) (by omega) _ _ _ _).drew⟩
set_option maxHeartbeats 8000000 in
theorem specInfluenceOf_any (A : Option Addr) (n c : Nat) (g : Int) (hs : List Half) (w : World) (hn : hs.length = n) (hr : Row w A (ints (flat Half.ints hs))) (hA : A = none → n = 0 ∧ c = 0) (hI : HalvesI hs) (hle : n ≤ maxLen) (hg : I64 g) :
    Calls Try.prog 11 #[.agg #[.slice A n c], .int .i64 g] w (InfMade (infR hs g) w) := by
  have hx : Ext w (((w.alloc (.cells #[.slice A n c] 25)).alloc (.cells #[.int .i64 0, .int .i64 0] 44)).alloc (.cells #[.int .i64 0, .int .i64 0] 44)) := (((Ext.refl w).alloc _).alloc _).alloc _
  have bP := ((Blk.new w 25 #[.slice A n c]).alloc (.cells #[.int .i64 0, .int .i64 0] 44)).alloc (.cells #[.int .i64 0, .int .i64 0] 44)
  have bL := (Blk.new (w.alloc (.cells #[.slice A n c] 25)) 44 #[.int .i64 0, .int .i64 0]).alloc (.cells #[.int .i64 0, .int .i64 0] 44)
  have bH := Blk.new ((w.alloc (.cells #[.slice A n c] 25)).alloc (.cells #[.int .i64 0, .int .i64 0] 44)) 44 #[.int .i64 0, .int .i64 0]
  simp only [World.size_alloc] at bL bH
  have HR := Lib.hid hr
  have HV := Lib.hid (fun w => specIsVoid_any A n c w hle)
  have HO := Lib.hid (fun w hr => specRegionOk_any A n c hs w hn hr hA hI hle)
  obtain ⟨p, hp⟩ : ∃ p, inR g (-100) 100 = p := ⟨_, rfl⟩
  have HIn := Lib.hid (fun w => l01In_is hp w)
  have HG := Lib.hid (inR_100 hp)
  obtain ⟨v, hv⟩ : ∃ v, decide (n = 0) = v := ⟨_, rfl⟩
  rw [hv] at HV
  have HN : Hid (hs = [] ↔ v = true) := by
    rw [← hv, decide_eq_true_eq, ← hn]
    exact List.length_eq_zero_iff.symm
  obtain ⟨k, hk⟩ : ∃ k, regOk hs = k := ⟨_, rfl⟩
  rw [hk] at HO
  have HK := Lib.hid hk
  have HSu := Lib.hid (fun a (hk : regOk hs = true) (hne : hs ≠ []) (ha : -100 ≤ a ∧ a ≤ 100) w hr => l06Far_any A n c a 0 hs w hn hk hne (by omega) (by omega) hr)
  clear hp hv hk hr hn hI hle hA
  have cP := fun o => bP.cell o
  have cL := fun o => bL.cell o
  have cH := fun o => bH.cell o
  have fL := fun o => bL.frozen o
  have fH := fun o => bH.frozen o
  go_enter Try.func11, Try.ntmps11
  go_wp2_with fail
  refine (HO.out _ (HR.out.ext hx)).mono ?_
  rintro e w2 ⟨rfl, hx2⟩
  replace hx := hx.trans hx2
  replace bP := bP.ext hx2
  replace bL := bL.ext hx2
  replace bH := bH.ext hx2
  clear cL cH fL fH
  have cL := fun o => bL.cell o
  have cH := fun o => bH.cell o
  have fL := fun o => bL.frozen o
  have fH := fun o => bH.frozen o
  clear cP
  have cP := fun o => bP.cell o
  cases k
  · have HW := Lib.hid (infR_k (p := hs) (g := g) HK.out)
    go_wp2
    obtain ⟨q1, q2⟩ := Blk.two (by omega) bL bH (.int .i64 0) (.int .i64 0) (.int .i64 0) (.int .i64 0)
    have d1 := fun o => q1.cell o
    have d2 := fun o => q2.cell o
    clear cL cH
    refine bodyPost_ret (v := .tuple #[.agg #[.int .i64 0, .int .i64 0], .agg #[.int .i64 0, .int .i64 0], .bool false]) (by simp [results, Try.results11, go_sem, d1, d2]) rfl ?_
    rw [HW.out]
    exact ⟨rfl, by first | (with_reducible exact hx) | exact hx.two (by omega) (by omega) _ _ _ _⟩
  go_wp2_with fail
  refine (HV.out _).mono ?_
  rintro e w1 ⟨rfl, hx1⟩
  replace hx := hx.trans hx1
  replace bP := bP.ext hx1
  replace bL := bL.ext hx1
  replace bH := bH.ext hx1
  clear cL cH fL fH
  have cL := fun o => bL.cell o
  have cH := fun o => bH.cell o
  have fL := fun o => bL.frozen o
  have fH := fun o => bH.frozen o
  clear cP
  have cP := fun o => bP.cell o
  cases v
  rotate_left
  · have HW := Lib.hid (infR_v (p := hs) (g := g) (HN.out.2 (by first | rfl | trivial)))
    go_wp2
    obtain ⟨q1, q2⟩ := Blk.two (by omega) bL bH (.int .i64 0) (.int .i64 0) (.int .i64 0) (.int .i64 0)
    have d1 := fun o => q1.cell o
    have d2 := fun o => q2.cell o
    clear cL cH
    refine bodyPost_ret (v := .tuple #[.agg #[.int .i64 0, .int .i64 0], .agg #[.int .i64 0, .int .i64 0], .bool false]) (by simp [results, Try.results11, go_sem, d1, d2]) rfl ?_
    rw [HW.out]
    exact ⟨rfl, by first | (with_reducible exact hx) | exact hx.two (by omega) (by omega) _ _ _ _⟩
  have hne : hs ≠ [] := fun e => by have := HN.out.1 e; cases this
  go_wp2_with fail
  refine (HIn.out _).mono ?_
  rintro e w' ⟨rfl, rfl⟩
  cases p
  · have HW := Lib.hid (infR_r (p := hs) (fun e => by have := HG.out.1 e; cases this))
    go_wp2
    obtain ⟨q1, q2⟩ := Blk.two (by omega) bL bH (.int .i64 0) (.int .i64 0) (.int .i64 0) (.int .i64 0)
    have d1 := fun o => q1.cell o
    have d2 := fun o => q2.cell o
    clear cL cH
    refine bodyPost_ret (v := .tuple #[.agg #[.int .i64 0, .int .i64 0], .agg #[.int .i64 0, .int .i64 0], .bool false]) (by simp [results, Try.results11, go_sem, d1, d2]) rfl ?_
    rw [HW.out]
    exact ⟨rfl, by first | (with_reducible exact hx) | exact hx.two (by omega) (by omega) _ _ _ _⟩
  have hS := shape_of HK.out hne
  have hg' := HG.out.2 (by first | rfl | trivial)
  have HA := Lib.hid (infR_yes (p := hs) (g := g) ⟨hg', hne, HK.out⟩)
  have HBg := Lib.hid (infR_big (p := hs) (g := g) ⟨hg', hne, HK.out⟩)
  obtain ⟨a1, a2, a3⟩ := inf_bd hS (g := -g) (by omega)
  obtain ⟨b1, b2, b3⟩ := inf_bd hS (g := g) (by omega)
  have S1 := Lib.hid (fun w hr => HSu.out (-g) HK.out hne (by omega) w hr)
  have S2 := Lib.hid (fun w hr => HSu.out g HK.out hne (by omega) w hr)
  generalize (farOf (-g) 0 hs).1 = f1 at S1
  generalize (farOf g 0 hs).1 = f2 at S2
  unfold infLow infHigh at HA HBg
  have H1 := Lib.hid (fun w => specRatioOf_any (-(suppR hs (-g) 0).N) (100 * (suppR hs (-g) 0).D) w (by unfold I64; omega) (by unfold I64; omega))
  have H2 := Lib.hid (fun w => specRatioOf_any (suppR hs g 0).N (100 * (suppR hs g 0).D) w (by unfold I64; omega) (by unfold I64; omega))
  generalize suppR hs (-g) 0 = r1 at *
  generalize suppR hs g 0 = r2 at *
  have ew : IntKind.i64.wrap (-g) = -g := IntWalk.i64_in _ (by omega)
  have ew1 : IntKind.i64.wrap (-r1.N) = -r1.N := IntWalk.i64_in _ (by omega)
  have ew2 : IntKind.i64.wrap (100 * r1.D) = 100 * r1.D := IntWalk.i64_in _ (by omega)
  have ew3 : IntKind.i64.wrap (100 * r2.D) = 100 * r2.D := IntWalk.i64_in _ (by omega)
  generalize ratioOf (-r1.N) (100 * r1.D) = x at *
  generalize ratioOf r2.N (100 * r2.D) = y at *
  clear a1 a2 a3 b1 b2 b3 hS HSu HIn HV HO
  go_wp2_with fail
  refine (S1.out _ (HR.out.ext hx)).mono ?_
  rintro e w3 ⟨rfl, hx3⟩
  replace hx := hx.trans hx3
  replace bP := bP.ext hx3
  replace bL := bL.ext hx3
  replace bH := bH.ext hx3
  have v1 := Blk.new w3 44 #[.int .i64 r1.N, .int .i64 r1.D]
  have ha3 := (Ext.refl w3).alloc (.cells #[.int .i64 r1.N, .int .i64 r1.D] 44)
  replace hx := hx.trans ha3
  replace bP := bP.ext ha3
  replace bL := bL.ext ha3
  replace bH := bH.ext ha3
  clear cP
  have cP := fun o => bP.cell o
  go_wp2_with fail
  refine (S2.out _ (HR.out.ext hx)).mono ?_
  rintro e w4 ⟨rfl, hx4⟩
  replace hx := hx.trans hx4
  replace bL := bL.ext hx4
  replace bH := bH.ext hx4
  replace v1 := v1.ext hx4
  have v2 := Blk.new w4 44 #[.int .i64 r2.N, .int .i64 r2.D]
  have ha4 := (Ext.refl w4).alloc (.cells #[.int .i64 r2.N, .int .i64 r2.D] 44)
  replace hx := hx.trans ha4
  replace bL := bL.ext ha4
  replace bH := bH.ext ha4
  replace v1 := v1.ext ha4
  have e1 := fun o => v1.cell o
  have e2 := fun o => v2.cell o
  go_wp2_with fail
  refine (H1.out _).mono ?_
  rintro e w5 ⟨rfl, hx5⟩
  replace hx := hx.trans hx5
  replace bL := bL.ext hx5
  replace bH := bH.ext hx5
  replace v2 := v2.ext hx5
  have bX := Blk.new w5 44 #[.int .i64 x.N, .int .i64 x.D]
  have ha5 := (Ext.refl w5).alloc (.cells #[.int .i64 x.N, .int .i64 x.D] 44)
  replace hx := hx.trans ha5
  replace bL := bL.ext ha5
  replace bH := bH.ext ha5
  replace v2 := v2.ext ha5
  clear e1 e2
  have e2 := fun o => v2.cell o
  go_wp2_with fail
  refine (H2.out _).mono ?_
  rintro e w6 ⟨rfl, hx6⟩
  replace hx := hx.trans hx6
  replace bL := bL.ext hx6
  replace bH := bH.ext hx6
  replace bX := bX.ext hx6
  have s6 := bH.lt
  have t6 := bX.lt
  have bY := Blk.new w6 44 #[.int .i64 y.N, .int .i64 y.D]
  have ha6 := (Ext.refl w6).alloc (.cells #[.int .i64 y.N, .int .i64 y.D] 44)
  replace hx := hx.trans ha6
  replace bL := bL.ext ha6
  replace bH := bH.ext ha6
  replace bX := bX.ext ha6
  have cX := fun o => bX.cell o
  have cY := fun o => bY.cell o
  clear cL cH fL fH
  have cL := fun o => bL.cell o
  have cH := fun o => bH.cell o
  have fL := fun o => bL.frozen o
  have fH := fun o => bH.frozen o
  obtain ⟨xN, xD⟩ := x
  obtain ⟨yN, yD⟩ := y
  dsimp only at *
  by_cases hb1 : 1000000 < xD
  · have HW := Lib.hid (HBg.out (.inl hb1))
    go_wp2
    obtain ⟨q1, q2⟩ := Blk.two (by omega) bL bH (.int .i64 0) (.int .i64 0) (.int .i64 0) (.int .i64 0)
    have d1 := fun o => q1.cell o
    have d2 := fun o => q2.cell o
    clear cL cH
    refine bodyPost_ret (v := .tuple #[.agg #[.int .i64 0, .int .i64 0], .agg #[.int .i64 0, .int .i64 0], .bool false]) (by simp [results, Try.results11, go_sem, d1, d2]) rfl ?_
    rw [HW.out]
    exact ⟨rfl, by first | (with_reducible exact hx) | exact hx.two (by omega) (by omega) _ _ _ _⟩
  by_cases hb2 : 1000000 < yD
  · have HW := Lib.hid (HBg.out (.inr hb2))
    go_wp2
    obtain ⟨q1, q2⟩ := Blk.two (by omega) bL bH (.int .i64 0) (.int .i64 0) (.int .i64 0) (.int .i64 0)
    have d1 := fun o => q1.cell o
    have d2 := fun o => q2.cell o
    clear cL cH
    refine bodyPost_ret (v := .tuple #[.agg #[.int .i64 0, .int .i64 0], .agg #[.int .i64 0, .int .i64 0], .bool false]) (by simp [results, Try.results11, go_sem, d1, d2]) rfl ?_
    rw [HW.out]
    exact ⟨rfl, by first | (with_reducible exact hx) | exact hx.two (by omega) (by omega) _ _ _ _⟩
  have HW := Lib.hid (HA.out (fun e => by rcases e with h | h; exact hb1 h; exact hb2 h))
  clear HBg HA
  go_wp2_with fail
  go_region
  all_goals
    obtain ⟨q1, q2⟩ := Blk.two (by omega) bL bH (.int .i64 xN) (.int .i64 xD) (.int .i64 yN) (.int .i64 yD)
    have d1 := fun o => q1.cell o
    have d2 := fun o => q2.cell o
    clear cL cH
    go_wp2
    refine bodyPost_ret (v := .tuple #[.agg #[.int .i64 xN, .int .i64 xD], .agg #[.int .i64 yN, .int .i64 yD], .bool true]) (by simp [results, Try.results11, go_sem, d1, d2]) rfl ?_
    rw [HW.out]
    exact ⟨rfl, by first | exact hx.two (by omega) (by omega) _ _ _ _ | exact (hx.two (by omega) (by omega) _ _ _ _).drew⟩
end Go.Proofs.Ytnkkfjlnjhmahaa
