/- Contracts of InSpan and PickInput of the reference. (written by tools/mkPc.py) -/
import Derived.Test.YtbbdipfioopfmaaGreatPlX
import Derived.Test.YtbbdipfioopfmaaGreatSp
import Derived.Test.YtbbdipfioopfmaaGreatAn
import Derived.Deep.RegionHeld3
namespace Go.Proofs.YtbbdipfioopfmaaGreat
open Go.ChangeShapes Go.WideShapes Go.ChangeAt Go.RowKit
set_option linter.unusedVariables false

set_option maxHeartbeats 1000000 in
theorem specInSpan_any (a b c d n m : Int) (w : World) (ha : I64 a) (hb : I64 b) (hc : I64 c) (hd : I64 d) (hn : I64 n) (hm : I64 m) :
    Calls Tryz.prog 77 #[.agg #[.int .i64 a, .int .i64 b, .int .i64 c, .int .i64 d], .agg #[.int .i64 n, .int .i64 m]] w fun e w' => e = .returned (.bool (inSpan ⟨⟨a, b⟩, ⟨c, d⟩⟩ ⟨n, m⟩)) ∧ Ext w w' := by
  have hy : Ext w ((w.alloc (.cells #[.int .i64 a, .int .i64 b, .int .i64 c, .int .i64 d] 89)).alloc (.cells #[.int .i64 n, .int .i64 m] 74)) := ((Ext.refl w).alloc _).alloc _
  have hB : Ext (w.alloc (.cells #[.int .i64 a, .int .i64 b, .int .i64 c, .int .i64 d] 89)) ((w.alloc (.cells #[.int .i64 a, .int .i64 b, .int .i64 c, .int .i64 d] 89)).alloc (.cells #[.int .i64 n, .int .i64 m] 74)) := (Ext.refl _).alloc _
  have hC := Ext.refl ((w.alloc (.cells #[.int .i64 a, .int .i64 b, .int .i64 c, .int .i64 d] 89)).alloc (.cells #[.int .i64 n, .int .i64 m] 74))
  go_enter Tryz.func77, Tryz.ntmps77
  go_wp2_with fail
  refine (specSpanOk_any _ _ _ _ _ ha hb hc hd).mono ?_
  rintro e w1 ⟨rfl, hx1⟩
  replace hy := hy.trans hx1
  replace hB := hB.trans hx1
  replace hC := hC.trans hx1
  have chB_1 := fun o => hB.use.1 (w.heap.size) o (by simp <;> omega)
  have chC_2 := fun o => hC.use.1 (w.heap.size + 1) o (by simp <;> omega)
  by_cases h1 : spanOk ⟨⟨a, b⟩, ⟨c, d⟩⟩ = true
  · have H1 := Lib.hid h1
    rw [h1]
    clear h1
    go_wp2_with fail
    refine (specRatioOk_any _ _ _ hn hm).mono ?_
    rintro e w2 ⟨rfl, hx2⟩
    replace hy := hy.trans hx2
    replace hB := hB.trans hx2
    replace hC := hC.trans hx2
    have chB_3 := fun o => hB.use.1 (w.heap.size) o (by simp <;> omega)
    have chC_4 := fun o => hC.use.1 (w.heap.size + 1) o (by simp <;> omega)
    by_cases h2 : ratioOk ⟨n, m⟩ = true
    · have H2 := Lib.hid h2
      rw [h2]
      clear h2
      go_wp2_with fail
      refine (specRatioCmp_any _ _ _ _ _ ha hb hn hm).mono ?_
      rintro e w3 ⟨rfl, hx3⟩
      replace hy := hy.trans hx3
      replace hB := hB.trans hx3
      replace hC := hC.trans hx3
      have chB_5 := fun o => hB.use.1 (w.heap.size) o (by simp <;> omega)
      have chC_6 := fun o => hC.use.1 (w.heap.size + 1) o (by simp <;> omega)
      by_cases h3 : ratioCmp ⟨a, b⟩ ⟨n, m⟩ ≤ 0
      · have h3' : decide (ratioCmp ⟨a, b⟩ ⟨n, m⟩ ≤ 0) = true := by simpa using h3
        go_wp2_with fail
        refine (specRatioCmp_any _ _ _ _ _ hn hm hc hd).mono ?_
        rintro e w4 ⟨rfl, hx4⟩
        replace hy := hy.trans hx4
        replace hB := hB.trans hx4
        replace hC := hC.trans hx4
        have chB_7 := fun o => hB.use.1 (w.heap.size) o (by simp <;> omega)
        have chC_8 := fun o => hC.use.1 (w.heap.size + 1) o (by simp <;> omega)
        go_wp2
        go_ret
        exact ⟨ret_bool (by unfold inSpan; rw [H1.out, H2.out, h3']; rfl), hy⟩
      · have h3' : decide (ratioCmp ⟨a, b⟩ ⟨n, m⟩ ≤ 0) = false := by simpa using h3
        clear h3
        go_wp2
        go_ret
        exact ⟨ret_bool (by unfold inSpan; rw [h3']; simp), hy⟩
    · have h2' : ratioOk ⟨n, m⟩ = false := by simpa using h2
      clear h2
      rw [h2']
      go_wp2
      go_ret
      exact ⟨ret_bool (by unfold inSpan; rw [h2']; simp), hy⟩
  · have h1' : spanOk ⟨⟨a, b⟩, ⟨c, d⟩⟩ = false := by simpa using h1
    clear h1
    rw [h1']
    go_wp2
    go_ret
    exact ⟨ret_bool (by unfold inSpan; rw [h1']; simp), hy⟩

theorem sPick_bad {w : Span} {n : Int} (h : spanOk w = false) : specPick w n = ⟨0, 0⟩ := by unfold specPick; rw [h]; rfl
theorem sPick_in {w : Span} {n : Int} (h : spanOk w = true) (h1 : inSpan w ⟨clampI (-1000) 1000 n, 1⟩ = true) : specPick w n = ⟨clampI (-1000) 1000 n, 1⟩ := by unfold specPick; rw [if_pos h, if_pos h1]
theorem sPick_mid {w : Span} {n : Int} (h : spanOk w = true) (h1 : inSpan w ⟨clampI (-1000) 1000 n, 1⟩ = false) (h2 : ratioCeil w.Low ≤ ratioFloor w.High) : specPick w n = ⟨clampI (ratioCeil w.Low) (ratioFloor w.High) (clampI (-1000) 1000 n), 1⟩ := by unfold specPick; rw [if_pos h, if_neg (by rw [h1]; decide), if_pos h2]
theorem sPick_end {w : Span} {n : Int} (h : spanOk w = true) (h1 : inSpan w ⟨clampI (-1000) 1000 n, 1⟩ = false) (h2 : ¬ ratioCeil w.Low ≤ ratioFloor w.High) : specPick w n = ratioMin w.High (ratioMax w.Low ⟨clampI (-1000) 1000 n, 1⟩) := by unfold specPick; rw [if_pos h, if_neg (by rw [h1]; decide), if_neg h2]
theorem specRatio1 (n : Int) (h : -1000000000000000000 ≤ n ∧ n ≤ 1000000000000000000) (w : World) : Calls Tryz.prog 76 #[.int .i64 n, .int .i64 1] w fun e w' => e = .returned (.agg #[.int .i64 n, .int .i64 1]) ∧ Ext w w' := by
  have := specRatioOf_any n 1 w (by unfold I64; omega) (by unfold I64; omega)
  rw [ratioOf_one h] at this
  exact this
set_option maxRecDepth 100000 in
set_option maxHeartbeats 8000000 in
theorem specPickInput_any (a b c d n : Int) (w : World) (ha : I64 a) (hb : I64 b) (hc : I64 c) (hd : I64 d) :
    Calls Tryz.prog 55 #[.agg #[.int .i64 a, .int .i64 b, .int .i64 c, .int .i64 d], .int .i64 n] w fun e w' => e = .returned (.agg #[.int .i64 (specPick ⟨⟨a, b⟩, ⟨c, d⟩⟩ n).N, .int .i64 (specPick ⟨⟨a, b⟩, ⟨c, d⟩⟩ n).D]) ∧ Ext w w' := by
  have hx : Ext w ((w.alloc (.cells #[.int .i64 a, .int .i64 b, .int .i64 c, .int .i64 d] 89)).alloc (.cells #[.int .i64 0, .int .i64 0] 74)) := ((Ext.refl w).alloc _).alloc _
  have bS := (Blk.new w 89 #[.int .i64 a, .int .i64 b, .int .i64 c, .int .i64 d]).alloc (.cells #[.int .i64 0, .int .i64 0] 74)
  have bR := Blk.new (w.alloc (.cells #[.int .i64 a, .int .i64 b, .int .i64 c, .int .i64 d] 89)) 74 #[.int .i64 0, .int .i64 0]
  simp only [World.size_alloc] at bR
  have HU := clampI_bd (-1000) 1000 n (by omega)
  have HSk := Lib.hid (fun w => specSpanOk_any a b c d w ha hb hc hd)
  have HCe := Lib.hid (fun w => specRatioCeil_any a b w ha hb)
  have HFl := Lib.hid (fun w => specRatioFloor_any c d w hc hd)
  have HC1 := Lib.hid (fun w => l02Clamp_any n (-1000) 1000 w)
  have hq := ratioCeil_bd ⟨a, b⟩
  have hq2 := ratioFloor_bd ⟨c, d⟩
  have K1 := Lib.hid (fun h => sPick_bad (w := ⟨⟨a, b⟩, ⟨c, d⟩⟩) (n := n) h)
  have K2 := Lib.hid (fun h h1 => sPick_in (w := ⟨⟨a, b⟩, ⟨c, d⟩⟩) (n := n) h h1)
  have K3 := Lib.hid (fun h h1 h2 => sPick_mid (w := ⟨⟨a, b⟩, ⟨c, d⟩⟩) (n := n) h h1 h2)
  have K4 := Lib.hid (fun h h1 h2 => sPick_end (w := ⟨⟨a, b⟩, ⟨c, d⟩⟩) (n := n) h h1 h2)
  dsimp only at K2 K3 K4
  generalize specPick ⟨⟨a, b⟩, ⟨c, d⟩⟩ n = X at *
  obtain ⟨u, hu⟩ : ∃ u, clampI (-1000) 1000 n = u := ⟨_, rfl⟩
  rw [hu] at HU K2 K3 K4 HC1
  have HR1 := Lib.hid (fun w => specRatio1 u (by omega) w)
  have hIu : I64 u := by unfold I64; omega
  have HIn := Lib.hid (fun w => specInSpan_any a b c d u 1 w ha hb hc hd hIu (by unfold I64; omega))
  have HMx := Lib.hid (fun w => specRatioMax_any a b u 1 w ha hb hIu (by unfold I64; omega))
  have hmx : ratioMax ⟨a, b⟩ ⟨u, 1⟩ = ⟨a, b⟩ ∨ ratioMax ⟨a, b⟩ ⟨u, 1⟩ = ⟨u, 1⟩ ∨ ratioMax ⟨a, b⟩ ⟨u, 1⟩ = ⟨0, 0⟩ := by unfold ratioMax; split <;> (try split) <;> simp
  have hmi : I64 (ratioMax ⟨a, b⟩ ⟨u, 1⟩).N ∧ I64 (ratioMax ⟨a, b⟩ ⟨u, 1⟩).D := by
    rcases hmx with h | h | h <;> rw [h] <;> unfold I64 at * <;> simp <;> omega
  generalize ratioMax ⟨a, b⟩ ⟨u, 1⟩ = M at *
  obtain ⟨m1, m2⟩ := M
  have HMn := Lib.hid (fun w => specRatioMin_any c d m1 m2 w hc hd hmi.1 hmi.2)
  generalize ratioMin ⟨c, d⟩ ⟨m1, m2⟩ = Y at *
  generalize ratioCeil ⟨a, b⟩ = lo at *
  generalize ratioFloor ⟨c, d⟩ = hi at *
  have HC2 := Lib.hid (fun w => l02Clamp_any u lo hi w)
  have HR2 : Hid (lo ≤ hi → ∀ w, Calls Tryz.prog 76 #[.int .i64 (clampI lo hi u), .int .i64 1] w fun e w' => e = .returned (.agg #[.int .i64 (clampI lo hi u), .int .i64 1]) ∧ Ext w w') := fun h w => specRatio1 _ (by have := clampI_bd lo hi u h; omega) w
  generalize clampI lo hi u = v at *
  obtain ⟨o1, ho1⟩ : ∃ o, spanOk ⟨⟨a, b⟩, ⟨c, d⟩⟩ = o := ⟨_, rfl⟩
  obtain ⟨o2, ho2⟩ : ∃ o, inSpan ⟨⟨a, b⟩, ⟨c, d⟩⟩ ⟨u, 1⟩ = o := ⟨_, rfl⟩
  rw [ho1] at K1 K2 K3 K4 HSk
  rw [ho2] at K2 K3 K4 HIn
  obtain ⟨xn, xd⟩ := X
  dsimp only at *
  clear ho1 ho2 hu hmx hmi ha hb hc hd hIu HU hq hq2
  go_enter Tryz.func55, Tryz.ntmps55
  go_wp2_with fail
  refine (HSk.out _).mono ?_
  rintro e w1 ⟨rfl, hx1⟩
  replace hx := hx.trans hx1
  replace bS := bS.ext hx1
  replace bR := bR.ext hx1
  have cbS_9 := fun o => bS.cell o
  have cbR_10 := fun o => bR.cell o
  have fbR_10 := fun o => bR.frozen o
  cases o1
  · have H := Lib.hid (K1.out (by first | rfl | trivial))
    go_wp2
    have cF := fun o => ((bR.set_ 0 (.int .i64 0)).set_ 1 (.int .i64 0)).cell o
    refine bodyPost_ret (v := .agg #[.int .i64 0, .int .i64 0]) (by simp [results, Tryz.results55, go_sem, cF]) rfl ⟨by have := H.out; injection this with e1 e2; rw [e1, e2], ?_⟩
    all_goals (repeat (first | exact hx | refine Ext.alloc ?_ _ | refine Ext.setCell ?_ (by first | omega | (simp <;> omega)) _ | refine Ext.drewN ?_ _ | refine Ext.drew ?_))
  go_wp2_with fail
  refine (HC1.out _).mono ?_
  rintro e w' ⟨rfl, rfl⟩
  go_wp2_with fail
  refine (HR1.out _).mono ?_
  rintro e w2 ⟨rfl, hx2⟩
  replace hx := hx.trans hx2
  replace bS := bS.ext hx2
  replace bR := bR.ext hx2
  have cbS_11 := fun o => bS.cell o
  have cbR_12 := fun o => bR.cell o
  have fbR_12 := fun o => bR.frozen o
  have bU := Blk.new w2 74 #[.int .i64 u, .int .i64 1]
  have hlR := bR.lt
  have ha2 := (Ext.refl w2).alloc (.cells #[.int .i64 u, .int .i64 1] 74)
  replace hx := hx.trans ha2
  replace bS := bS.ext ha2
  replace bR := bR.ext ha2
  have cbS_13 := fun o => bS.cell o
  have cbR_14 := fun o => bR.cell o
  have fbR_14 := fun o => bR.frozen o
  go_wp2_with fail
  refine (HIn.out _).mono ?_
  rintro e w3 ⟨rfl, hx3⟩
  replace hx := hx.trans hx3
  replace bS := bS.ext hx3
  replace bR := bR.ext hx3
  replace bU := bU.ext hx3
  have cbS_15 := fun o => bS.cell o
  have cbR_16 := fun o => bR.cell o
  have fbR_16 := fun o => bR.frozen o
  have cbU_17 := fun o => bU.cell o
  cases o2
  rotate_left
  · have H := Lib.hid (K2.out (by first | rfl | trivial) (by first | rfl | trivial))
    go_wp2
    have cF := fun o => ((bR.set_ 0 (.int .i64 u)).set_ 1 (.int .i64 1)).cell o
    refine bodyPost_ret (v := .agg #[.int .i64 u, .int .i64 1]) (by simp [results, Tryz.results55, go_sem, cF]) rfl ⟨by have := H.out; injection this with e1 e2; rw [e1, e2], ?_⟩
    all_goals (repeat (first | exact hx | refine Ext.alloc ?_ _ | refine Ext.setCell ?_ (by first | omega | (simp <;> omega)) _ | refine Ext.drewN ?_ _ | refine Ext.drew ?_))
  go_wp2_with fail
  refine (HCe.out _).mono ?_
  rintro e w4 ⟨rfl, hx4⟩
  replace hx := hx.trans hx4
  replace bS := bS.ext hx4
  replace bR := bR.ext hx4
  replace bU := bU.ext hx4
  have cbS_18 := fun o => bS.cell o
  have cbR_19 := fun o => bR.cell o
  have fbR_19 := fun o => bR.frozen o
  have cbU_20 := fun o => bU.cell o
  go_wp2_with fail
  refine (HFl.out _).mono ?_
  rintro e w5 ⟨rfl, hx5⟩
  replace hx := hx.trans hx5
  replace bS := bS.ext hx5
  replace bR := bR.ext hx5
  replace bU := bU.ext hx5
  have cbS_21 := fun o => bS.cell o
  have cbR_22 := fun o => bR.cell o
  have fbR_22 := fun o => bR.frozen o
  have cbU_23 := fun o => bU.cell o
  by_cases hle : lo ≤ hi
  · have H := Lib.hid (K3.out (by first | rfl | trivial) (by first | rfl | trivial) hle)
    have HR3 := Lib.hid (HR2.out hle)
    go_wp2_with fail
    refine (HC2.out _).mono ?_
    rintro e w' ⟨rfl, rfl⟩
    go_wp2_with fail
    refine (HR3.out _).mono ?_
    rintro e w6 ⟨rfl, hx6⟩
    replace hx := hx.trans hx6
    replace bS := bS.ext hx6
    replace bR := bR.ext hx6
    replace bU := bU.ext hx6
    have cbS_24 := fun o => bS.cell o
    have cbR_25 := fun o => bR.cell o
    have fbR_25 := fun o => bR.frozen o
    have cbU_26 := fun o => bU.cell o
    go_wp2
    have cF := fun o => ((bR.set_ 0 (.int .i64 v)).set_ 1 (.int .i64 1)).cell o
    refine bodyPost_ret (v := .agg #[.int .i64 v, .int .i64 1]) (by simp [results, Tryz.results55, go_sem, cF]) rfl ⟨by have := H.out; injection this with e1 e2; rw [e1, e2], ?_⟩
    all_goals (repeat (first | exact hx | refine Ext.alloc ?_ _ | refine Ext.setCell ?_ (by first | omega | (simp <;> omega)) _ | refine Ext.drewN ?_ _ | refine Ext.drew ?_))
  have H := Lib.hid (K4.out (by first | rfl | trivial) (by first | rfl | trivial) (by omega))
  obtain ⟨y1, y2⟩ := Y
  dsimp only at *
  have hcur := Ext.refl w5
  have lS := bS.lt
  have lU := bU.lt
  have lR := bR.lt
  have e1 : w2.heap.size ≠ w.heap.size + 1 := by omega
  have e2 : w.heap.size + 1 ≠ w2.heap.size := by omega
  go_wp2_with fail
  go_region_held3 (fun w' => w'.cell? ⟨w.heap.size, 0, none⟩ = some (.int .i64 a) ∧ w'.cell? ⟨w.heap.size, 1, none⟩ = some (.int .i64 b) ∧ w'.cell? ⟨w.heap.size, 2, none⟩ = some (.int .i64 c) ∧ w'.cell? ⟨w.heap.size, 3, none⟩ = some (.int .i64 d) ∧ w'.cell? ⟨w2.heap.size, 0, none⟩ = some (.int .i64 u) ∧ w'.cell? ⟨w2.heap.size, 1, none⟩ = some (.int .i64 1))
    (go_keep)
    (first
      | (go_at_call 81; (with_reducible refine (HMx.out _).mono ?_); rintro e w9 ⟨rfl, hx9⟩; replace hcur := Ext.trans (by first | exact hcur | exact hcur.drew) hx9; have cS9 := fun o => (bS.ext hcur).cell o; have cU9 := fun o => (bU.ext hcur).cell o; have cR9 := fun o => (bR.ext hcur).cell o; have fR9 := fun o => (bR.ext hcur).frozen o)
      | (go_at_call 80; (with_reducible refine (HMn.out _).mono ?_); rintro e w9 ⟨rfl, hx9⟩; replace hcur := Ext.trans (by first | exact hcur | exact hcur.drew) hx9; have cS9 := fun o => (bS.ext hcur).cell o; have cU9 := fun o => (bU.ext hcur).cell o; have cR9 := fun o => (bR.ext hcur).cell o; have fR9 := fun o => (bR.ext hcur).frozen o))
  all_goals
    go_wp2
    have bR9 := bR.ext hcur
    have cF := fun o => ((bR9.set_ 0 (.int .i64 y1)).set_ 1 (.int .i64 y2)).cell o
    refine bodyPost_ret (v := .agg #[.int .i64 y1, .int .i64 y2]) (by simp [results, Tryz.results55, go_sem, cF]) rfl ⟨by have := H.out; injection this with e1 e2; rw [e1, e2], ?_⟩
    first | exact ((hx.trans hcur).setCell (by simp) _).setCell (by simp) _ | exact (((hx.trans hcur).setCell (by simp) _).setCell (by simp) _).drew
end Go.Proofs.YtbbdipfioopfmaaGreat
