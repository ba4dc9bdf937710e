/- Contracts of the reference's functions on two half planes. -/
import Derived.Test.YtjghabbcjpfjeaaGreatDoorHo
import Derived.Test.YtjghabbcjpfjeaaGreatDoorPz
namespace Go.Proofs.YtjghabbcjpfjeaaGreatDoor
open Go.ChangeShapes Go.WideShapes Go.ChangeAt Go.RowKit
set_option linter.unusedVariables false
set_option maxRecDepth 100000
attribute [local go_sem ↓] Go.wp_at_zero Go.wp_at_succ

theorem l04Upper_any (h : Half) (w : World) :
    Calls Tryz.prog 164 #[.agg #[.int .i64 h.A, .int .i64 h.B, .int .i64 h.C]] w fun e w' => e = .returned (.int .i64 (upI h)) ∧ Ext w w' := by
  have hx : Ext w (w.alloc (.cells #[.int .i64 h.A, .int .i64 h.B, .int .i64 h.C] 120)) := (Ext.refl w).alloc _
  by_cases h1 : 0 < h.B
  · have H : Hid (upI h = 0) := if_pos ((up_iff h).2 (.inl h1))
    go_enter Tryz.func164, Tryz.ntmps164
    go_wp2
    go_ret
    exact ⟨ret_int H.out.symm, hx⟩
  by_cases h2 : h.B = 0
  · have e2 : (h.B == 0) = true := by simpa using h2
    by_cases h3 : 0 < h.A
    · have H : Hid (upI h = 0) := if_pos ((up_iff h).2 (.inr ⟨h2, h3⟩))
      clear h2
      go_enter Tryz.func164, Tryz.ntmps164
      go_wp2
      go_ret
      exact ⟨ret_int H.out.symm, hx⟩
    · have H : Hid (upI h = 1) := if_neg (fun e => by have := (up_iff h).1 e; omega)
      clear h2
      go_enter Tryz.func164, Tryz.ntmps164
      go_wp2
      go_ret
      exact ⟨ret_int H.out.symm, hx⟩
  · have e2 : (h.B == 0) = false := by simpa using h2
    have H : Hid (upI h = 1) := if_neg (fun e => by have := (up_iff h).1 e; omega)
    clear h2
    go_enter Tryz.func164, Tryz.ntmps164
    go_wp2
    go_ret
    exact ⟨ret_int H.out.symm, hx⟩

set_option maxHeartbeats 2000000 in
theorem specBefore_any (g h : Half) (w : World) (hg : halfOk g = true) (hh : halfOk h = true) :
    Calls Tryz.prog 141 #[.agg #[.int .i64 g.A, .int .i64 g.B, .int .i64 g.C], .agg #[.int .i64 h.A, .int .i64 h.B, .int .i64 h.C]] w fun e w' => e = .returned (.bool (before g h)) ∧ Ext w w' := by
  have hx : Ext w ((w.alloc (.cells #[.int .i64 g.A, .int .i64 g.B, .int .i64 g.C] 120)).alloc (.cells #[.int .i64 h.A, .int .i64 h.B, .int .i64 h.C] 120)) := ((Ext.refl w).alloc _).alloc _
  have bG := (Blk.new w 120 #[.int .i64 g.A, .int .i64 g.B, .int .i64 g.C]).alloc (.cells #[.int .i64 h.A, .int .i64 h.B, .int .i64 h.C] 120)
  have bH := Blk.new (w.alloc (.cells #[.int .i64 g.A, .int .i64 g.B, .int .i64 g.C] 120)) 120 #[.int .i64 h.A, .int .i64 h.B, .int .i64 h.C]
  simp only [World.size_alloc] at bH
  have sG := small_ok hg
  have sH := small_ok hh
  obtain ⟨i1, i2, i3⟩ := sG.i64
  obtain ⟨j1, j2, j3⟩ := sH.i64
  obtain ⟨p1, p2⟩ := prod_bd sG.a sH.b rfl
  obtain ⟨p3, p4⟩ := prod_bd sH.a sG.b rfl
  have HG := Lib.hid (fun w => specHalfOk_any g.A g.B g.C w i1 i2 i3)
  have HH := Lib.hid (fun w => specHalfOk_any h.A h.B h.C w j1 j2 j3)
  rw [show halfOk ⟨g.A, g.B, g.C⟩ = true from hg] at HG
  rw [show halfOk ⟨h.A, h.B, h.C⟩ = true from hh] at HH
  clear i1 i2 i3 j1 j2 j3 hg hh sG sH
  have HB : Hid (before g h = if isUpper g = isUpper h then decide (h.A * g.B < g.A * h.B) else isUpper g) := by
    unfold Hid before cross
    rw [Int.mul_comm h.A g.B, show decide (0 < g.A * h.B - g.B * h.A) = decide (g.B * h.A < g.A * h.B) from decide_eq_decide.2 (by omega)]
    cases isUpper g <;> cases isUpper h <;> rfl
  have Hua : Hid (∀ u, isUpper g = u → upI g = if u = true then 0 else 1) := fun u hu => by rw [← hu]; rfl
  have Hub : Hid (∀ u, isUpper h = u → upI h = if u = true then 0 else 1) := fun u hu => by rw [← hu]; rfl
  have Ha := fun w => l04Upper_any g w
  have Hb := fun w => l04Upper_any h w
  obtain ⟨u, hu⟩ : ∃ u, isUpper g = u := ⟨_, rfl⟩
  obtain ⟨v, hv⟩ : ∃ u, isUpper h = u := ⟨_, rfl⟩
  rw [Hua.out u hu] at Ha
  rw [Hub.out v hv] at Hb
  rw [hu, hv] at HB
  have HA := Lib.hid Ha
  have HBb := Lib.hid Hb
  clear Ha Hb Hua Hub hu hv
  cases u <;> cases v
  all_goals
    simp only [Bool.false_eq_true, if_false, if_true, reduceCtorEq, eq_self] at HB HA HBb
    go_enter Tryz.func141, Tryz.ntmps141
    go_wp2_with fail
    refine (HG.out _).mono ?_
    rintro e w1 ⟨rfl, hx1⟩
    replace hx := hx.trans hx1
    replace bG := bG.ext hx1
    replace bH := bH.ext hx1
    have cbG_1 := fun o => bG.cell o
    have cbH_2 := fun o => bH.cell o
    go_wp2_with fail
    refine (HH.out _).mono ?_
    rintro e w2 ⟨rfl, hx2⟩
    replace hx := hx.trans hx2
    replace bG := bG.ext hx2
    replace bH := bH.ext hx2
    have cbG_3 := fun o => bG.cell o
    have cbH_4 := fun o => bH.cell o
    go_wp2_with fail
    have hcur := Ext.refl (w2)
    go_region_held3 (fun w' => w'.cell? ⟨w.heap.size, 0, none⟩ = some (.int .i64 g.A) ∧ w'.cell? ⟨w.heap.size, 1, none⟩ = some (.int .i64 g.B) ∧ w'.cell? ⟨w.heap.size, 2, none⟩ = some (.int .i64 g.C) ∧ w'.cell? ⟨w.heap.size + 1, 0, none⟩ = some (.int .i64 h.A) ∧ w'.cell? ⟨w.heap.size + 1, 1, none⟩ = some (.int .i64 h.B) ∧ w'.cell? ⟨w.heap.size + 1, 2, none⟩ = some (.int .i64 h.C))
      (go_keep)
      (first
        | (go_at_call 164; (with_reducible refine (HA.out _).mono ?_); rintro e w9 ⟨rfl, hx9⟩; replace hcur := Ext.trans (by first | exact hcur | exact hcur.drew | exact hcur.alloc _ | exact (hcur.alloc _).drew) hx9; have c9bG := fun o => (bG.ext hcur).cell o; have c9bH := fun o => (bH.ext hcur).cell o)
        | (go_at_call 164; (with_reducible refine (HBb.out _).mono ?_); rintro e w9 ⟨rfl, hx9⟩; replace hcur := Ext.trans (by first | exact hcur | exact hcur.drew | exact hcur.alloc _ | exact (hcur.alloc _).drew) hx9; have c9bG := fun o => (bG.ext hcur).cell o; have c9bH := fun o => (bH.ext hcur).cell o))
    all_goals
      replace hx := hx.trans hcur
      replace bG := bG.ext hcur
      replace bH := bH.ext hcur
      have cbG_5 := fun o => bG.cell o
      have cbH_6 := fun o => bH.cell o
      clear hcur
      first
        | (go_wp2_with fail
           have hcur := Ext.refl (w9)
           go_region_held3 (fun w' => w'.cell? ⟨w.heap.size, 0, none⟩ = some (.int .i64 g.A) ∧ w'.cell? ⟨w.heap.size, 1, none⟩ = some (.int .i64 g.B) ∧ w'.cell? ⟨w.heap.size, 2, none⟩ = some (.int .i64 g.C) ∧ w'.cell? ⟨w.heap.size + 1, 0, none⟩ = some (.int .i64 h.A) ∧ w'.cell? ⟨w.heap.size + 1, 1, none⟩ = some (.int .i64 h.B) ∧ w'.cell? ⟨w.heap.size + 1, 2, none⟩ = some (.int .i64 h.C))
             (go_keep)
             (first
               | (go_at_call 164; (with_reducible refine (HA.out _).mono ?_); rintro e w9 ⟨rfl, hx9⟩; replace hcur := Ext.trans (by first | exact hcur | exact hcur.drew | exact hcur.alloc _ | exact (hcur.alloc _).drew) hx9; have c9bG := fun o => (bG.ext hcur).cell o; have c9bH := fun o => (bH.ext hcur).cell o)
               | (go_at_call 164; (with_reducible refine (HBb.out _).mono ?_); rintro e w9 ⟨rfl, hx9⟩; replace hcur := Ext.trans (by first | exact hcur | exact hcur.drew | exact hcur.alloc _ | exact (hcur.alloc _).drew) hx9; have c9bG := fun o => (bG.ext hcur).cell o; have c9bH := fun o => (bH.ext hcur).cell o))
           all_goals
             go_wp2
             go_ret
             exact ⟨ret_bool HB.out.symm, hx.trans hcur⟩)
        | (go_wp2
           go_ret
           exact ⟨ret_bool HB.out.symm, hx⟩)

set_option maxHeartbeats 2000000 in
theorem specSameDir_any (g h : Half) (w : World) (hg : halfOk g = true) (hh : halfOk h = true) :
    Calls Tryz.prog 142 #[.agg #[.int .i64 g.A, .int .i64 g.B, .int .i64 g.C], .agg #[.int .i64 h.A, .int .i64 h.B, .int .i64 h.C]] w fun e w' => e = .returned (.bool (sameDir g h)) ∧ Ext w w' := by
  have hx : Ext w ((w.alloc (.cells #[.int .i64 g.A, .int .i64 g.B, .int .i64 g.C] 120)).alloc (.cells #[.int .i64 h.A, .int .i64 h.B, .int .i64 h.C] 120)) := ((Ext.refl w).alloc _).alloc _
  have bG := (Blk.new w 120 #[.int .i64 g.A, .int .i64 g.B, .int .i64 g.C]).alloc (.cells #[.int .i64 h.A, .int .i64 h.B, .int .i64 h.C] 120)
  have bH := Blk.new (w.alloc (.cells #[.int .i64 g.A, .int .i64 g.B, .int .i64 g.C] 120)) 120 #[.int .i64 h.A, .int .i64 h.B, .int .i64 h.C]
  simp only [World.size_alloc] at bH
  have sG := small_ok hg
  have sH := small_ok hh
  obtain ⟨i1, i2, i3⟩ := sG.i64
  obtain ⟨j1, j2, j3⟩ := sH.i64
  obtain ⟨p1, p2⟩ := prod_bd sG.a sH.b rfl
  obtain ⟨p3, p4⟩ := prod_bd sH.a sG.b rfl
  obtain ⟨p5, p6⟩ := prod_bd sG.a sH.a rfl
  obtain ⟨p7, p8⟩ := prod_bd sG.b sH.b rfl
  have HS := Lib.hid (sameDir_dot (halfOk_bd hg).2.2.2.2.2.2.1 (halfOk_bd hh).2.2.2.2.2.2.1)
  have HG := Lib.hid (fun w => specHalfOk_any g.A g.B g.C w i1 i2 i3)
  have HH := Lib.hid (fun w => specHalfOk_any h.A h.B h.C w j1 j2 j3)
  rw [show halfOk ⟨g.A, g.B, g.C⟩ = true from hg] at HG
  rw [show halfOk ⟨h.A, h.B, h.C⟩ = true from hh] at HH
  clear i1 i2 i3 j1 j2 j3 hg hh sG sH
  unfold dotH at HS
  by_cases he : g.A * h.B = h.A * g.B
  · have heb : (g.A * h.B == h.A * g.B) = true := by simpa using he
    rw [decide_eq_true he, Bool.true_and] at HS
    clear he
    go_enter Tryz.func142, Tryz.ntmps142
    go_wp2_with fail
    refine (HG.out _).mono ?_
    rintro e w1 ⟨rfl, hx1⟩
    replace hx := hx.trans hx1
    replace bG := bG.ext hx1
    replace bH := bH.ext hx1
    have cbG_7 := fun o => bG.cell o
    have cbH_8 := fun o => bH.cell o
    go_wp2_with fail
    refine (HH.out _).mono ?_
    rintro e w2 ⟨rfl, hx2⟩
    replace hx := hx.trans hx2
    replace bG := bG.ext hx2
    replace bH := bH.ext hx2
    have cbG_9 := fun o => bG.cell o
    have cbH_10 := fun o => bH.cell o
    go_wp2
    go_ret
    exact ⟨ret_bool HS.out.symm, hx⟩
  · have heb : (g.A * h.B == h.A * g.B) = false := by simpa using he
    rw [decide_eq_false he, Bool.false_and] at HS
    clear he
    go_enter Tryz.func142, Tryz.ntmps142
    go_wp2_with fail
    refine (HG.out _).mono ?_
    rintro e w1 ⟨rfl, hx1⟩
    replace hx := hx.trans hx1
    replace bG := bG.ext hx1
    replace bH := bH.ext hx1
    have cbG_11 := fun o => bG.cell o
    have cbH_12 := fun o => bH.cell o
    go_wp2_with fail
    refine (HH.out _).mono ?_
    rintro e w2 ⟨rfl, hx2⟩
    replace hx := hx.trans hx2
    replace bG := bG.ext hx2
    replace bH := bH.ext hx2
    have cbG_13 := fun o => bG.cell o
    have cbH_14 := fun o => bH.cell o
    go_wp2
    go_ret
    exact ⟨ret_bool HS.out.symm, hx⟩

theorem absA_bd {x M : Int} (h : -M ≤ x ∧ x ≤ M) : 0 ≤ absA x ∧ absA x ≤ M := by unfold absA; split <;> omega
set_option maxHeartbeats 4000000 in
theorem specTighter_any (g h : Half) (w : World) (hg : halfOk g = true) (hh : halfOk h = true) (hs : sameDir g h = true) :
    Calls Tryz.prog 143 #[.agg #[.int .i64 g.A, .int .i64 g.B, .int .i64 g.C], .agg #[.int .i64 h.A, .int .i64 h.B, .int .i64 h.C]] w fun e w' => e = .returned (.agg #[.int .i64 (tighter g h).A, .int .i64 (tighter g h).B, .int .i64 (tighter g h).C]) ∧ Ext w w' := by
  have hx : Ext w (((w.alloc (.cells #[.int .i64 g.A, .int .i64 g.B, .int .i64 g.C] 120)).alloc (.cells #[.int .i64 h.A, .int .i64 h.B, .int .i64 h.C] 120)).alloc (.cells #[.int .i64 0, .int .i64 0, .int .i64 0] 120)) := (((Ext.refl w).alloc _).alloc _).alloc _
  have bG := ((Blk.new w 120 #[.int .i64 g.A, .int .i64 g.B, .int .i64 g.C]).alloc (.cells #[.int .i64 h.A, .int .i64 h.B, .int .i64 h.C] 120)).alloc (.cells #[.int .i64 0, .int .i64 0, .int .i64 0] 120)
  have bH := (Blk.new (w.alloc (.cells #[.int .i64 g.A, .int .i64 g.B, .int .i64 g.C] 120)) 120 #[.int .i64 h.A, .int .i64 h.B, .int .i64 h.C]).alloc (.cells #[.int .i64 0, .int .i64 0, .int .i64 0] 120)
  have b0 := Blk.new ((w.alloc (.cells #[.int .i64 g.A, .int .i64 g.B, .int .i64 g.C] 120)).alloc (.cells #[.int .i64 h.A, .int .i64 h.B, .int .i64 h.C] 120)) 120 #[.int .i64 0, .int .i64 0, .int .i64 0]
  simp only [World.size_alloc] at bH b0
  have HT := Lib.hid (tighter_one (halfOk_bd hg).2.2.2.2.2.2.1 (halfOk_bd hh).2.2.2.2.2.2.1 hs)
  have HS := Lib.hid (fun w => specSameDir_any g h w hg hh)
  rw [hs] at HS
  have sG := small_ok hg
  have sH := small_ok hh
  obtain ⟨a1, a2⟩ := sG.a
  obtain ⟨a3, a4⟩ := sG.b
  obtain ⟨a5, a6⟩ := sH.a
  obtain ⟨a7, a8⟩ := sH.b
  have q1 := absA_bd sG.a
  have q2 := absA_bd sG.b
  have q3 := absA_bd sH.a
  have q4 := absA_bd sH.b
  obtain ⟨m1, m2⟩ : (0 : Int) ≤ oneH g ∧ oneH g ≤ 100000 := by unfold oneH; omega
  obtain ⟨m3, m4⟩ : (0 : Int) ≤ oneH h ∧ oneH h ≤ 100000 := by unfold oneH; omega
  obtain ⟨p1, p2⟩ := prod_bd (B := 100000) sG.c (show -100000 ≤ oneH h ∧ oneH h ≤ 100000 by omega) rfl
  obtain ⟨p3, p4⟩ := prod_bd (B := 100000) sH.c (show -100000 ≤ oneH g ∧ oneH g ≤ 100000 by omega) rfl
  have E1 : Hid (absA g.A = if g.A < -g.A then -g.A else g.A) := rfl
  have E2 : Hid (absA g.B = if g.B < -g.B then -g.B else g.B) := rfl
  have E3 : Hid (absA h.A = if h.A < -h.A then -h.A else h.A) := rfl
  have E4 : Hid (absA h.B = if h.B < -h.B then -h.B else h.B) := rfl
  have EG : Hid (oneH g = absA g.A + absA g.B) := rfl
  have EH : Hid (oneH h = absA h.A + absA h.B) := rfl
  clear hg hh hs sG sH q1 q2 q3 q4
  obtain ⟨x1, hx1⟩ : ∃ x, absA g.A = x := ⟨_, rfl⟩
  obtain ⟨x2, hx2⟩ : ∃ x, absA g.B = x := ⟨_, rfl⟩
  obtain ⟨x3, hx3⟩ : ∃ x, absA h.A = x := ⟨_, rfl⟩
  obtain ⟨x4, hx4⟩ : ∃ x, absA h.B = x := ⟨_, rfl⟩
  rw [hx1, hx2] at EG
  rw [hx3, hx4] at EH
  rw [hx1] at E1
  rw [hx2] at E2
  rw [hx3] at E3
  rw [hx4] at E4
  clear hx1 hx2 hx3 hx4
  obtain ⟨y1, hy1⟩ : ∃ y, oneH g = y := ⟨_, rfl⟩
  obtain ⟨y2, hy2⟩ : ∃ y, oneH h = y := ⟨_, rfl⟩
  rw [hy1] at HT EG m1 m2 p3 p4
  rw [hy2] at HT EH m3 m4 p1 p2
  clear hy1 hy2
  have r1 := E1.out.symm
  have r2 := E2.out.symm
  have r3 := E3.out.symm
  have r4 := E4.out.symm
  have s1 := EG.out.symm
  have s2 := EH.out.symm
  by_cases hc : h.C * y1 < g.C * y2
  · have H : Hid (tighter g h = h) := by unfold Hid; rw [HT.out, if_pos hc]
    go_enter Tryz.func143, Tryz.ntmps143
    go_wp2_with fail
    refine (HS.out _).mono ?_
    rintro e w1 ⟨rfl, hx1⟩
    replace hx := hx.trans hx1
    replace bG := bG.ext hx1
    replace bH := bH.ext hx1
    replace b0 := b0.ext hx1
    have cbG_15 := fun o => bG.cell o
    have cbH_16 := fun o => bH.cell o
    have cb0_17 := fun o => b0.cell o
    have fb0_17 := fun o => b0.frozen o
    have hlt := b0.lt
    go_wp2
    have c0 := fun o => b0.cell o
    refine bodyPost_ret (v := .agg #[.int .i64 h.A, .int .i64 h.B, .int .i64 h.C]) (by simp [results, Tryz.results143, go_sem, c0]) rfl ⟨by rw [H.out], ?_⟩
    exact ((hx.setCell (by first | omega | (simp <;> omega)) _).setCell (by first | omega | (simp <;> omega)) _).setCell (by first | omega | (simp <;> omega)) _
  · have H : Hid (tighter g h = g) := by unfold Hid; rw [HT.out, if_neg hc]
    go_enter Tryz.func143, Tryz.ntmps143
    go_wp2_with fail
    refine (HS.out _).mono ?_
    rintro e w1 ⟨rfl, hx1⟩
    replace hx := hx.trans hx1
    replace bG := bG.ext hx1
    replace bH := bH.ext hx1
    replace b0 := b0.ext hx1
    have cbG_18 := fun o => bG.cell o
    have cbH_19 := fun o => bH.cell o
    have cb0_20 := fun o => b0.cell o
    have fb0_20 := fun o => b0.frozen o
    have hlt := b0.lt
    go_wp2
    have c0 := fun o => b0.cell o
    refine bodyPost_ret (v := .agg #[.int .i64 g.A, .int .i64 g.B, .int .i64 g.C]) (by simp [results, Tryz.results143, go_sem, c0]) rfl ⟨by rw [H.out], ?_⟩
    exact ((hx.setCell (by first | omega | (simp <;> omega)) _).setCell (by first | omega | (simp <;> omega)) _).setCell (by first | omega | (simp <;> omega)) _
end Go.Proofs.YtjghabbcjpfjeaaGreatDoor
