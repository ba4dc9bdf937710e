/- Contract of the program's PickInput. -/
import Derived.Test.YtjghabbcjpfjeaaGreatDoorAp
import Derived.Deep.DeepCutAuto
namespace Go.Proofs.YtjghabbcjpfjeaaGreatDoor
open Go.ChangeShapes Go.WideShapes Go.ChangeAt Go.RowKit
set_option linter.unusedVariables false

theorem pick_bad {w : Span} {n : Int} (h : spanOk w = false) : pickInput w n = ⟨0, 0⟩ := by unfold pickInput; rw [h]; rfl
theorem pick_up {w : Span} {n : Int} (h : spanOk w = true) (h1 : ratioCmp ⟨clampI (-1000) 1000 n, 1⟩ w.Low < 0) (h2 : ratioCmp ⟨ratioCeil w.Low, 1⟩ w.High ≤ 0) : pickInput w n = ⟨ratioCeil w.Low, 1⟩ := by
  unfold pickInput; rw [if_pos h, if_pos h1, if_pos h2]
theorem pick_low {w : Span} {n : Int} (h : spanOk w = true) (h1 : ratioCmp ⟨clampI (-1000) 1000 n, 1⟩ w.Low < 0) (h2 : ¬ ratioCmp ⟨ratioCeil w.Low, 1⟩ w.High ≤ 0) : pickInput w n = w.Low := by
  unfold pickInput; rw [if_pos h, if_pos h1, if_neg h2]
theorem pick_down {w : Span} {n : Int} (h : spanOk w = true) (h1 : ¬ ratioCmp ⟨clampI (-1000) 1000 n, 1⟩ w.Low < 0) (h2 : 0 < ratioCmp ⟨clampI (-1000) 1000 n, 1⟩ w.High) (h3 : 0 ≤ ratioCmp ⟨ratioFloor w.High, 1⟩ w.Low) : pickInput w n = ⟨ratioFloor w.High, 1⟩ := by
  unfold pickInput; rw [if_pos h, if_neg h1, if_pos h2, if_pos h3]
theorem pick_high {w : Span} {n : Int} (h : spanOk w = true) (h1 : ¬ ratioCmp ⟨clampI (-1000) 1000 n, 1⟩ w.Low < 0) (h2 : 0 < ratioCmp ⟨clampI (-1000) 1000 n, 1⟩ w.High) (h3 : ¬ 0 ≤ ratioCmp ⟨ratioFloor w.High, 1⟩ w.Low) : pickInput w n = w.High := by
  unfold pickInput; rw [if_pos h, if_neg h1, if_pos h2, if_neg h3]
theorem pick_self {w : Span} {n : Int} (h : spanOk w = true) (h1 : ¬ ratioCmp ⟨clampI (-1000) 1000 n, 1⟩ w.Low < 0) (h2 : ¬ 0 < ratioCmp ⟨clampI (-1000) 1000 n, 1⟩ w.High) : pickInput w n = ⟨clampI (-1000) 1000 n, 1⟩ := by
  unfold pickInput; rw [if_pos h, if_neg h1, if_neg h2]
set_option maxRecDepth 100000 in
set_option maxHeartbeats 4000000 in
theorem pickInput_any (a b c d n : Int) (w : World) (ha : I64 a) (hb : I64 b) (hc : I64 c) (hd : I64 d) :
    Calls Tryz.prog 95 #[.agg #[.int .i64 a, .int .i64 b, .int .i64 c, .int .i64 d], .int .i64 n] w fun e w' => e = .returned (.agg #[.int .i64 (pickInput ⟨⟨a, b⟩, ⟨c, d⟩⟩ n).N, .int .i64 (pickInput ⟨⟨a, b⟩, ⟨c, d⟩⟩ n).D]) ∧ Ext w w' := by
  have Ha := Lib.hid ha
  have Hb := Lib.hid hb
  have Hc := Lib.hid hc
  have Hd := Lib.hid hd
  clear ha hb hc hd
  have hx : Ext w ((w.alloc (.cells #[.int .i64 a, .int .i64 b, .int .i64 c, .int .i64 d] 46)).alloc (.cells #[.int .i64 0, .int .i64 0] 44)) := ((Ext.refl w).alloc _).alloc _
  have bS := (Blk.new w 46 #[.int .i64 a, .int .i64 b, .int .i64 c, .int .i64 d]).alloc (.cells #[.int .i64 0, .int .i64 0] 44)
  have bR := Blk.new (w.alloc (.cells #[.int .i64 a, .int .i64 b, .int .i64 c, .int .i64 d] 46)) 44 #[.int .i64 0, .int .i64 0]
  simp only [World.size_alloc] at bR
  go_enter Tryz.func95, Tryz.ntmps95
  go_wp2_with fail
  refine (implSpanOk_any _ _ _ _ _ Ha.out Hb.out Hc.out Hd.out).mono ?_
  rintro e w1 ⟨rfl, hx1⟩
  replace hx := hx.trans hx1
  replace bS := bS.ext hx1
  replace bR := bR.ext hx1
  have cbS_1 := fun o => bS.cell o
  have cbR_2 := fun o => bR.cell o
  have fbR_2 := fun o => bR.frozen o
  by_cases h1 : spanOk ⟨⟨a, b⟩, ⟨c, d⟩⟩ = true
  rotate_left
  · have h1' : spanOk ⟨⟨a, b⟩, ⟨c, d⟩⟩ = false := by simpa using h1
    clear h1
    have H := Lib.hid (pick_bad (n := n) h1')
    rw [h1']
    clear h1'
    go_wp2
    have cF := fun o => ((bR.set_ 0 (.int .i64 0)).set_ 1 (.int .i64 0)).cell o
    refine bodyPost_ret (v := .agg #[.int .i64 0, .int .i64 0]) (by simp [results, Tryz.results95, go_sem, cF]) rfl ⟨by rw [H.out], ?_⟩
    all_goals (repeat (first | exact hx | refine Ext.alloc ?_ _ | refine Ext.setCell ?_ (by first | omega | (simp <;> omega)) _ | refine Ext.drewN ?_ _ | refine Ext.drew ?_))
  have H1 := Lib.hid h1
  rw [h1]
  clear h1
  have HU := clampI_bd (-1000) 1000 n (by omega)
  have hlS := bS.lt
  go_upto_region 3 with fail
  go_cut [5] (fun s5 wx => ∃ g : Nat, s5 = .pointer (some ⟨g, 0, none⟩) ∧ Blk wx g 44 #[.int .i64 (clampI (-1000) 1000 n), .int .i64 1] ∧ Ext w1 wx ∧ w1.heap.size ≤ g)
  case first =>
    go_wp2_with (go_at_call 42; refine (whole_any _ _).mono ?_; rintro e w' ⟨rfl, hxw⟩)
    all_goals
      go_meet
      refine ⟨w'.heap.size, rfl, ?_, hxw.alloc _, hxw.size⟩
      first
        | (rw [show clampI (-1000) 1000 n = n from by unfold clampI; (repeat' split) <;> omega]; exact Blk.new _ _ _)
        | (rw [show clampI (-1000) 1000 n = 1000 from by unfold clampI; (repeat' split) <;> omega]; exact Blk.new _ _ _)
        | (rw [show clampI (-1000) 1000 n = -1000 from by unfold clampI; (repeat' split) <;> omega]; exact Blk.new _ _ _)
  case rest =>
    obtain ⟨g, rfl, bU, hxu, hgu⟩ := hcut
    obtain ⟨u, hu⟩ : ∃ u, clampI (-1000) 1000 n = u := ⟨_, rfl⟩
    rw [hu] at bU HU
    have K1 := Lib.hid (fun h1 h2 => pick_up (n := n) H1.out h1 h2)
    have K2 := Lib.hid (fun h1 h2 => pick_low (n := n) H1.out h1 h2)
    have K3 := Lib.hid (fun h1 h2 h3 => pick_down (n := n) H1.out h1 h2 h3)
    have K4 := Lib.hid (fun h1 h2 h3 => pick_high (n := n) H1.out h1 h2 h3)
    have K5 := Lib.hid (fun h1 h2 => pick_self (n := n) H1.out h1 h2)
    rw [hu] at K1 K2 K3 K4 K5
    clear hu
    replace hx := hx.trans hxu
    replace bS := bS.ext hxu
    replace bR := bR.ext hxu
    have cbS_3 := fun o => bS.cell o
    have cbR_4 := fun o => bR.cell o
    have fbR_4 := fun o => bR.frozen o
    have hIu : I64 u := by unfold I64; omega
    have cU := fun o => bU.cell o
    go_wp2_with fail
    refine (implRatioCmp_any _ _ _ _ _ hIu (by simp [I64]) Ha.out Hb.out).mono ?_
    rintro e w2 ⟨rfl, hx2⟩
    replace hx := hx.trans hx2
    replace bS := bS.ext hx2
    replace bR := bR.ext hx2
    replace bU := bU.ext hx2
    have cbS_5 := fun o => bS.cell o
    have cbR_6 := fun o => bR.cell o
    have fbR_6 := fun o => bR.frozen o
    have cbU_7 := fun o => bU.cell o
    by_cases hlt : ratioCmp ⟨u, 1⟩ ⟨a, b⟩ < 0
    · go_wp2_with fail
      refine (implRatioCeil_any _ _ _ Ha.out Hb.out).mono ?_
      rintro e w3 ⟨rfl, hx3⟩
      replace hx := hx.trans hx3
      replace bS := bS.ext hx3
      replace bR := bR.ext hx3
      replace bU := bU.ext hx3
      have cbS_8 := fun o => bS.cell o
      have cbR_9 := fun o => bR.cell o
      have fbR_9 := fun o => bR.frozen o
      have cbU_10 := fun o => bU.cell o
      have hq := ratioCeil_bd ⟨a, b⟩
      have hIq : I64 (ratioCeil ⟨a, b⟩) := by unfold I64; omega
      obtain ⟨q, hqe⟩ : ∃ q, ratioCeil ⟨a, b⟩ = q := ⟨_, rfl⟩
      have K1' := Lib.hid (Hid.out K1 (by omega))
      have K2' := Lib.hid (Hid.out K2 (by omega))
      rw [hqe] at K1' K2' hIq
      rw [hqe]
      clear hqe hq
      go_wp2_with fail
      refine (whole_any _ _).mono ?_
      rintro e w4 ⟨rfl, hx4⟩
      replace hx := hx.trans hx4
      replace bS := bS.ext hx4
      replace bR := bR.ext hx4
      replace bU := bU.ext hx4
      have cbS_11 := fun o => bS.cell o
      have cbR_12 := fun o => bR.cell o
      have fbR_12 := fun o => bR.frozen o
      have cbU_13 := fun o => bU.cell o
      have bQ := Blk.new w4 44 #[.int .i64 q, .int .i64 1]
      have cQ := fun o => bQ.cell o
      have hlR := bR.lt
      have ha4 := (Ext.refl w4).alloc (.cells #[.int .i64 q, .int .i64 1] 44)
      replace hx := hx.trans ha4
      replace bS := bS.ext ha4
      replace bR := bR.ext ha4
      replace bU := bU.ext ha4
      have cbS_14 := fun o => bS.cell o
      have cbR_15 := fun o => bR.cell o
      have fbR_15 := fun o => bR.frozen o
      have cbU_16 := fun o => bU.cell o
      go_wp2_with fail
      refine (implRatioCmp_any _ _ _ _ _ hIq (by simp [I64]) Hc.out Hd.out).mono ?_
      rintro e w5 ⟨rfl, hx5⟩
      replace hx := hx.trans hx5
      replace bS := bS.ext hx5
      replace bR := bR.ext hx5
      replace bU := bU.ext hx5
      replace bQ := bQ.ext hx5
      have cbS_17 := fun o => bS.cell o
      have cbR_18 := fun o => bR.cell o
      have fbR_18 := fun o => bR.frozen o
      have cbU_19 := fun o => bU.cell o
      have cbQ_20 := fun o => bQ.cell o
      by_cases hle : ratioCmp ⟨q, 1⟩ ⟨c, d⟩ ≤ 0
      · have H := Lib.hid (Hid.out K1' (by omega))
        go_wp2
        have cF := fun o => ((bR.set_ 0 (.int .i64 q)).set_ 1 (.int .i64 1)).cell o
        refine bodyPost_ret (v := .agg #[.int .i64 q, .int .i64 1]) (by simp [results, Tryz.results95, go_sem, cF]) rfl ⟨by rw [H.out], ?_⟩
        all_goals (repeat (first | exact hx | refine Ext.alloc ?_ _ | refine Ext.setCell ?_ (by first | omega | (simp <;> omega)) _ | refine Ext.drewN ?_ _ | refine Ext.drew ?_))
      · have H := Lib.hid (Hid.out K2' (by omega))
        go_wp2
        have cF := fun o => ((bR.set_ 0 (.int .i64 a)).set_ 1 (.int .i64 b)).cell o
        refine bodyPost_ret (v := .agg #[.int .i64 a, .int .i64 b]) (by simp [results, Tryz.results95, go_sem, cF]) rfl ⟨by rw [H.out], ?_⟩
        all_goals (repeat (first | exact hx | refine Ext.alloc ?_ _ | refine Ext.setCell ?_ (by first | omega | (simp <;> omega)) _ | refine Ext.drewN ?_ _ | refine Ext.drew ?_))
    · go_wp2_with fail
      refine (implRatioCmp_any _ _ _ _ _ hIu (by simp [I64]) Hc.out Hd.out).mono ?_
      rintro e w3 ⟨rfl, hx3⟩
      replace hx := hx.trans hx3
      replace bS := bS.ext hx3
      replace bR := bR.ext hx3
      replace bU := bU.ext hx3
      have cbS_21 := fun o => bS.cell o
      have cbR_22 := fun o => bR.cell o
      have fbR_22 := fun o => bR.frozen o
      have cbU_23 := fun o => bU.cell o
      by_cases hgt : 0 < ratioCmp ⟨u, 1⟩ ⟨c, d⟩
      · go_wp2_with fail
        refine (implRatioFloor_any _ _ _ Hc.out Hd.out).mono ?_
        rintro e w4 ⟨rfl, hx4⟩
        replace hx := hx.trans hx4
        replace bS := bS.ext hx4
        replace bR := bR.ext hx4
        replace bU := bU.ext hx4
        have cbS_24 := fun o => bS.cell o
        have cbR_25 := fun o => bR.cell o
        have fbR_25 := fun o => bR.frozen o
        have cbU_26 := fun o => bU.cell o
        have hq := ratioFloor_bd ⟨c, d⟩
        have hIq : I64 (ratioFloor ⟨c, d⟩) := by unfold I64; omega
        obtain ⟨q, hqe⟩ : ∃ q, ratioFloor ⟨c, d⟩ = q := ⟨_, rfl⟩
        have K1' := Lib.hid (Hid.out K3 (by omega) (by omega))
        have K2' := Lib.hid (Hid.out K4 (by omega) (by omega))
        rw [hqe] at K1' K2' hIq
        rw [hqe]
        clear hqe hq
        go_wp2_with fail
        refine (whole_any _ _).mono ?_
        rintro e w5 ⟨rfl, hx5⟩
        replace hx := hx.trans hx5
        replace bS := bS.ext hx5
        replace bR := bR.ext hx5
        replace bU := bU.ext hx5
        have cbS_27 := fun o => bS.cell o
        have cbR_28 := fun o => bR.cell o
        have fbR_28 := fun o => bR.frozen o
        have cbU_29 := fun o => bU.cell o
        have bQ := Blk.new w5 44 #[.int .i64 q, .int .i64 1]
        have cQ := fun o => bQ.cell o
        have hlR := bR.lt
        have ha5 := (Ext.refl w5).alloc (.cells #[.int .i64 q, .int .i64 1] 44)
        replace hx := hx.trans ha5
        replace bS := bS.ext ha5
        replace bR := bR.ext ha5
        replace bU := bU.ext ha5
        have cbS_30 := fun o => bS.cell o
        have cbR_31 := fun o => bR.cell o
        have fbR_31 := fun o => bR.frozen o
        have cbU_32 := fun o => bU.cell o
        go_wp2_with fail
        refine (implRatioCmp_any _ _ _ _ _ hIq (by simp [I64]) Ha.out Hb.out).mono ?_
        rintro e w6 ⟨rfl, hx6⟩
        replace hx := hx.trans hx6
        replace bS := bS.ext hx6
        replace bR := bR.ext hx6
        replace bU := bU.ext hx6
        replace bQ := bQ.ext hx6
        have cbS_33 := fun o => bS.cell o
        have cbR_34 := fun o => bR.cell o
        have fbR_34 := fun o => bR.frozen o
        have cbU_35 := fun o => bU.cell o
        have cbQ_36 := fun o => bQ.cell o
        by_cases hle : 0 ≤ ratioCmp ⟨q, 1⟩ ⟨a, b⟩
        · have H := Lib.hid (Hid.out K1' (by omega))
          go_wp2
          have cF := fun o => ((bR.set_ 0 (.int .i64 q)).set_ 1 (.int .i64 1)).cell o
          refine bodyPost_ret (v := .agg #[.int .i64 q, .int .i64 1]) (by simp [results, Tryz.results95, go_sem, cF]) rfl ⟨by rw [H.out], ?_⟩
          all_goals (repeat (first | exact hx | refine Ext.alloc ?_ _ | refine Ext.setCell ?_ (by first | omega | (simp <;> omega)) _ | refine Ext.drewN ?_ _ | refine Ext.drew ?_))
        · have H := Lib.hid (Hid.out K2' (by omega))
          go_wp2
          have cF := fun o => ((bR.set_ 0 (.int .i64 c)).set_ 1 (.int .i64 d)).cell o
          refine bodyPost_ret (v := .agg #[.int .i64 c, .int .i64 d]) (by simp [results, Tryz.results95, go_sem, cF]) rfl ⟨by rw [H.out], ?_⟩
          all_goals (repeat (first | exact hx | refine Ext.alloc ?_ _ | refine Ext.setCell ?_ (by first | omega | (simp <;> omega)) _ | refine Ext.drewN ?_ _ | refine Ext.drew ?_))
      · have H := Lib.hid (Hid.out K5 (by omega) (by omega))
        go_wp2
        have cF := fun o => ((bR.set_ 0 (.int .i64 u)).set_ 1 (.int .i64 1)).cell o
        refine bodyPost_ret (v := .agg #[.int .i64 u, .int .i64 1]) (by simp [results, Tryz.results95, go_sem, cF]) rfl ⟨by rw [H.out], ?_⟩
        all_goals (repeat (first | exact hx | refine Ext.alloc ?_ _ | refine Ext.setCell ?_ (by first | omega | (simp <;> omega)) _ | refine Ext.drewN ?_ _ | refine Ext.drew ?_))
end Go.Proofs.YtjghabbcjpfjeaaGreatDoor
