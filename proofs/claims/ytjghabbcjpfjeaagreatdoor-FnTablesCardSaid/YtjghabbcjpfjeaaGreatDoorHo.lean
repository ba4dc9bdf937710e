/- Contracts of the program's functions on two half planes: cross, crossing, beforeAngle, sameDirection, size, TighterHalf, leavesRoom. -/
import Derived.Test.YtjghabbcjpfjeaaGreatDoorHf
import Derived.Test.YtjghabbcjpfjeaaGreatDoorPz
import Derived.Deep.RegionHeld3
import Derived.Deep.RegionWith
import Derived.Deep.DrawnRows
import Derived.IntWalk
namespace Go.Proofs.YtjghabbcjpfjeaaGreatDoor
open Go.ChangeShapes Go.WideShapes Go.ChangeAt Go.RowKit
set_option linter.unusedVariables false
set_option maxRecDepth 100000
attribute [local go_sem ↓] Go.wp_at_zero Go.wp_at_succ

theorem prod_bd {a b A B C : Int} (ha : -A ≤ a ∧ a ≤ A) (hb : -B ≤ b ∧ b ≤ B) (hC : A * B = C) : -C ≤ a * b ∧ a * b ≤ C := by subst hC; exact mul_bd ha hb
theorem SmallH.i64 {h : Half} (hs : SmallH h) : I64 h.A ∧ I64 h.B ∧ I64 h.C := by
  have := hs.a; have := hs.b; have := hs.c
  unfold I64; omega
theorem ret4 {k1 k2 k3 : IntKind} {a b c a' b' c' : Int} {q q' : Bool} (h1 : a = a') (h2 : b = b') (h3 : c = c') (h4 : q = q') : Ending.returned (.tuple #[.int k1 a, .int k2 b, .int k3 c, .bool q]) = .returned (.tuple #[.int k1 a', .int k2 b', .int k3 c', .bool q']) := by rw [h1, h2, h3, h4]

theorem cross_any (g h : Half) (w : World) (hg : SmallH g) (hh : SmallH h) :
    Calls Tryz.prog 138 #[.agg #[.int .i64 g.A, .int .i64 g.B, .int .i64 g.C], .agg #[.int .i64 h.A, .int .i64 h.B, .int .i64 h.C]] w fun e w' => e = .returned (.int .i64 (cross g h)) ∧ Ext w w' := by
  obtain ⟨p1, p2⟩ := prod_bd hg.a hh.b rfl
  obtain ⟨p3, p4⟩ := prod_bd hg.b hh.a rfl
  go_enter Tryz.func138, Tryz.ntmps138
  go_wp2
  go_ret
  exact ⟨rfl, ((Ext.refl _).alloc _).alloc _⟩

theorem cross_bd {g h : Half} (hg : SmallH g) (hh : SmallH h) : -5000000000 ≤ cross g h ∧ cross g h ≤ 5000000000 := by
  obtain ⟨p1, p2⟩ := prod_bd hg.a hh.b rfl
  obtain ⟨p3, p4⟩ := prod_bd hg.b hh.a rfl
  unfold cross; omega
set_option maxHeartbeats 1000000 in
theorem crossing_any (g h : Half) (w : World) (hg : SmallH g) (hh : SmallH h) :
    Calls Tryz.prog 114 #[.agg #[.int .i64 g.A, .int .i64 g.B, .int .i64 g.C], .agg #[.int .i64 h.A, .int .i64 h.B, .int .i64 h.C]] w fun e w' => e = .returned (.tuple #[.int .i64 (ptX g h), .int .i64 (ptY g h), .int .i64 (frD g h), .bool (decide (cross g h ≠ 0))]) ∧ Ext w w' := by
  obtain ⟨p1, p2⟩ := prod_bd hg.c hh.b rfl
  obtain ⟨p3, p4⟩ := prod_bd hh.c hg.b rfl
  obtain ⟨p5, p6⟩ := prod_bd hg.a hh.c rfl
  obtain ⟨p7, p8⟩ := prod_bd hh.a hg.c rfl
  obtain ⟨q1, q2⟩ := cross_bd hg hh
  have hx : Ext w ((w.alloc (.cells #[.int .i64 g.A, .int .i64 g.B, .int .i64 g.C] 120)).alloc (.cells #[.int .i64 h.A, .int .i64 h.B, .int .i64 h.C] 120)) := ((Ext.refl w).alloc _).alloc _
  have bG := (Blk.new w 120 #[.int .i64 g.A, .int .i64 g.B, .int .i64 g.C]).alloc (.cells #[.int .i64 h.A, .int .i64 h.B, .int .i64 h.C] 120)
  have bH := Blk.new (w.alloc (.cells #[.int .i64 g.A, .int .i64 g.B, .int .i64 g.C] 120)) 120 #[.int .i64 h.A, .int .i64 h.B, .int .i64 h.C]
  simp only [World.size_alloc] at bH
  have HXn : Hid (∀ h' : cross g h < 0, ptX g h = -(g.C * h.B - h.C * g.B) ∧ ptY g h = -(g.A * h.C - h.A * g.C) ∧ frD g h = -cross g h ∧ decide (cross g h ≠ 0) = true) := fun h' => ⟨if_pos h', if_pos h', if_pos h', by simp; omega⟩
  have HXp : Hid (∀ h' : ¬ cross g h < 0, ptX g h = g.C * h.B - h.C * g.B ∧ ptY g h = g.A * h.C - h.A * g.C ∧ frD g h = cross g h) := fun h' => ⟨if_neg h', if_neg h', if_neg h'⟩
  have hC := cross_any g h ((w.alloc (.cells #[.int .i64 g.A, .int .i64 g.B, .int .i64 g.C] 120)).alloc (.cells #[.int .i64 h.A, .int .i64 h.B, .int .i64 h.C] 120)) hg hh
  obtain ⟨d, hd⟩ : ∃ d, cross g h = d := ⟨_, rfl⟩
  rw [hd] at q1 q2 hC HXn HXp
  rw [hd]
  clear hd
  rcases Int.lt_trichotomy d 0 with hn | hn | hn
  · obtain ⟨r1, r2, r3, r4⟩ := HXn.out hn
    have R := Lib.hid (ret4 (k1 := .i64) (k2 := .i64) (k3 := .i64) r1 r2 r3 r4)
    clear r1 r2 r3 r4
    go_enter Tryz.func114, Tryz.ntmps114
    go_wp2_with fail
    refine (hC).mono ?_
    rintro e w1 ⟨rfl, hx1⟩
    replace hx := hx.trans hx1
    replace bG := bG.ext hx1
    replace bH := bH.ext hx1
    have cbG_1 := fun o => bG.cell o
    have cbH_2 := fun o => bH.cell o
    clear hC
    go_wp2
    refine bodyPost_ret (v := .tuple #[.int .i64 (-(g.C * h.B - h.C * g.B)), .int .i64 (-(g.A * h.C - h.A * g.C)), .int .i64 (-d), .bool true]) (by simp [results, Tryz.results114, go_sem]) rfl ⟨R.out.symm, hx⟩
  · obtain ⟨r1, r2, r3⟩ := HXp.out (by omega)
    have R := Lib.hid (ret4 (k1 := .i64) (k2 := .i64) (k3 := .i64) r1 r2 r3 (show decide (d ≠ 0) = false by simp; omega))
    clear r1 r2 r3
    subst hn
    go_enter Tryz.func114, Tryz.ntmps114
    go_wp2_with fail
    refine (hC).mono ?_
    rintro e w1 ⟨rfl, hx1⟩
    replace hx := hx.trans hx1
    replace bG := bG.ext hx1
    replace bH := bH.ext hx1
    have cbG_3 := fun o => bG.cell o
    have cbH_4 := fun o => bH.cell o
    clear hC
    go_wp2
    refine bodyPost_ret (v := .tuple #[.int .i64 (g.C * h.B - h.C * g.B), .int .i64 (g.A * h.C - h.A * g.C), .int .i64 0, .bool false]) (by simp [results, Tryz.results114, go_sem]) rfl ⟨R.out.symm, hx⟩
  · obtain ⟨r1, r2, r3⟩ := HXp.out (by omega)
    have R := Lib.hid (ret4 (k1 := .i64) (k2 := .i64) (k3 := .i64) r1 r2 r3 (show decide (d ≠ 0) = true by simp; omega))
    clear r1 r2 r3
    have hn2 : (d != 0) = true := by simp; omega
    go_enter Tryz.func114, Tryz.ntmps114
    go_wp2_with fail
    refine (hC).mono ?_
    rintro e w1 ⟨rfl, hx1⟩
    replace hx := hx.trans hx1
    replace bG := bG.ext hx1
    replace bH := bH.ext hx1
    have cbG_5 := fun o => bG.cell o
    have cbH_6 := fun o => bH.cell o
    clear hC
    go_wp2
    refine bodyPost_ret (v := .tuple #[.int .i64 (g.C * h.B - h.C * g.B), .int .i64 (g.A * h.C - h.A * g.C), .int .i64 d, .bool true]) (by simp [results, Tryz.results114, go_sem]) rfl ⟨R.out.symm, hx⟩

theorem isUpper_any (h : Half) (w : World) :
    Calls Tryz.prog 166 #[.agg #[.int .i64 h.A, .int .i64 h.B, .int .i64 h.C]] w fun e w' => e = .returned (.bool (isUpper h)) ∧ Ext w w' := by
  have hx : Ext w (w.alloc (.cells #[.int .i64 h.A, .int .i64 h.B, .int .i64 h.C] 120)) := (Ext.refl w).alloc _
  by_cases h1 : 0 < h.B
  · have H : Hid (isUpper h = true) := (up_iff h).2 (.inl h1)
    go_enter Tryz.func166, Tryz.ntmps166
    go_wp2
    go_ret
    exact ⟨ret_bool H.out.symm, hx⟩
  by_cases h2 : h.B = 0
  · have e2 : (h.B == 0) = true := by simpa using h2
    by_cases h3 : 0 < h.A
    · have H : Hid (isUpper h = true) := (up_iff h).2 (.inr ⟨h2, h3⟩)
      clear h2
      go_enter Tryz.func166, Tryz.ntmps166
      go_wp2
      go_ret
      exact ⟨ret_bool H.out.symm, hx⟩
    · have H : Hid (isUpper h = false) := by unfold Hid; rw [Bool.eq_false_iff]; intro e; have := (up_iff h).1 e; omega
      clear h2
      go_enter Tryz.func166, Tryz.ntmps166
      go_wp2
      go_ret
      exact ⟨ret_bool H.out.symm, hx⟩
  · have e2 : (h.B == 0) = false := by simpa using h2
    have H : Hid (isUpper h = false) := by unfold Hid; rw [Bool.eq_false_iff]; intro e; have := (up_iff h).1 e; omega
    clear h2
    go_enter Tryz.func166, Tryz.ntmps166
    go_wp2
    go_ret
    exact ⟨ret_bool H.out.symm, hx⟩

set_option maxHeartbeats 1000000 in
theorem beforeAngle_any (g h : Half) (w : World) (hg : SmallH g) (hh : SmallH h) :
    Calls Tryz.prog 148 #[.agg #[.int .i64 g.A, .int .i64 g.B, .int .i64 g.C], .agg #[.int .i64 h.A, .int .i64 h.B, .int .i64 h.C]] w fun e w' => e = .returned (.bool (before g h)) ∧ Ext w w' := by
  have hx : Ext w ((w.alloc (.cells #[.int .i64 g.A, .int .i64 g.B, .int .i64 g.C] 120)).alloc (.cells #[.int .i64 h.A, .int .i64 h.B, .int .i64 h.C] 120)) := ((Ext.refl w).alloc _).alloc _
  have bG := (Blk.new w 120 #[.int .i64 g.A, .int .i64 g.B, .int .i64 g.C]).alloc (.cells #[.int .i64 h.A, .int .i64 h.B, .int .i64 h.C] 120)
  have bH := Blk.new (w.alloc (.cells #[.int .i64 g.A, .int .i64 g.B, .int .i64 g.C] 120)) 120 #[.int .i64 h.A, .int .i64 h.B, .int .i64 h.C]
  simp only [World.size_alloc] at bH
  have HC := Lib.hid (fun w => cross_any g h w hg hh)
  have HU := Lib.hid (fun w => isUpper_any g w)
  obtain ⟨u, hu⟩ : ∃ u, isUpper g = u := ⟨_, rfl⟩
  obtain ⟨v, hv⟩ : ∃ u, isUpper h = u := ⟨_, rfl⟩
  have Ha := fun w => isUpper_any g w
  have Hb := fun w => isUpper_any h w
  rw [hu] at Ha HU
  rw [hv] at Hb
  have HA := Lib.hid Ha
  have HB := Lib.hid Hb
  clear Ha Hb
  by_cases huv : u = v
  · have H : Hid (before g h = decide (0 < cross g h)) := by unfold Hid before; rw [hu, hv, huv]; simp
    clear hu hv
    subst huv
    go_enter Tryz.func148, Tryz.ntmps148
    go_wp2_with fail
    have hcur := Ext.refl ((w.alloc (.cells #[.int .i64 g.A, .int .i64 g.B, .int .i64 g.C] 120)).alloc (.cells #[.int .i64 h.A, .int .i64 h.B, .int .i64 h.C] 120))
    go_region_held3 (fun w' => w'.cell? ⟨w.heap.size, 0, none⟩ = some (.int .i64 g.A) ∧ w'.cell? ⟨w.heap.size, 1, none⟩ = some (.int .i64 g.B) ∧ w'.cell? ⟨w.heap.size, 2, none⟩ = some (.int .i64 g.C) ∧ w'.cell? ⟨w.heap.size + 1, 0, none⟩ = some (.int .i64 h.A) ∧ w'.cell? ⟨w.heap.size + 1, 1, none⟩ = some (.int .i64 h.B) ∧ w'.cell? ⟨w.heap.size + 1, 2, none⟩ = some (.int .i64 h.C))
      (go_keep)
      (first
        | (go_at_call 166; (with_reducible refine (HA.out _).mono ?_); rintro e w9 ⟨rfl, hx9⟩; replace hcur := Ext.trans (by first | exact hcur | exact hcur.drew | exact hcur.alloc _ | exact (hcur.alloc _).drew) hx9; have c9bG := fun o => (bG.ext hcur).cell o; have c9bH := fun o => (bH.ext hcur).cell o)
        | (go_at_call 166; (with_reducible refine (HB.out _).mono ?_); rintro e w9 ⟨rfl, hx9⟩; replace hcur := Ext.trans (by first | exact hcur | exact hcur.drew | exact hcur.alloc _ | exact (hcur.alloc _).drew) hx9; have c9bG := fun o => (bG.ext hcur).cell o; have c9bH := fun o => (bH.ext hcur).cell o))
    all_goals
      replace bG := bG.ext hcur
      replace bH := bH.ext hcur
      have cG := fun o => bG.cell o
      have cH := fun o => bH.cell o
      go_wp2_with fail
      refine (HC.out _).mono ?_
      rintro e w3 ⟨rfl, hx3⟩
      go_wp2
      go_ret
      exact ⟨ret_bool H.out.symm, (hx.trans hcur).trans hx3⟩
  · have H : Hid (before g h = u) := by unfold Hid before; rw [hu, hv]; simp [huv]
    have hne : (u == v) = false := by simpa using huv
    have hne2 : (u != v) = true := by simpa using huv
    clear hu hv huv
    go_enter Tryz.func148, Tryz.ntmps148
    go_wp2_with fail
    have hcur := Ext.refl ((w.alloc (.cells #[.int .i64 g.A, .int .i64 g.B, .int .i64 g.C] 120)).alloc (.cells #[.int .i64 h.A, .int .i64 h.B, .int .i64 h.C] 120))
    go_region_held3 (fun w' => w'.cell? ⟨w.heap.size, 0, none⟩ = some (.int .i64 g.A) ∧ w'.cell? ⟨w.heap.size, 1, none⟩ = some (.int .i64 g.B) ∧ w'.cell? ⟨w.heap.size, 2, none⟩ = some (.int .i64 g.C) ∧ w'.cell? ⟨w.heap.size + 1, 0, none⟩ = some (.int .i64 h.A) ∧ w'.cell? ⟨w.heap.size + 1, 1, none⟩ = some (.int .i64 h.B) ∧ w'.cell? ⟨w.heap.size + 1, 2, none⟩ = some (.int .i64 h.C))
      (go_keep)
      (first
        | (go_at_call 166; (with_reducible refine (HA.out _).mono ?_); rintro e w9 ⟨rfl, hx9⟩; replace hcur := Ext.trans (by first | exact hcur | exact hcur.drew | exact hcur.alloc _ | exact (hcur.alloc _).drew) hx9; have c9bG := fun o => (bG.ext hcur).cell o; have c9bH := fun o => (bH.ext hcur).cell o)
        | (go_at_call 166; (with_reducible refine (HB.out _).mono ?_); rintro e w9 ⟨rfl, hx9⟩; replace hcur := Ext.trans (by first | exact hcur | exact hcur.drew | exact hcur.alloc _ | exact (hcur.alloc _).drew) hx9; have c9bG := fun o => (bG.ext hcur).cell o; have c9bH := fun o => (bH.ext hcur).cell o))
    all_goals
      replace bG := bG.ext hcur
      have cG := fun o => bG.cell o
      go_wp2_with fail
      refine (HU.out _).mono ?_
      rintro e w3 ⟨rfl, hx3⟩
      go_wp2
      go_ret
      exact ⟨ret_bool H.out.symm, (hx.trans hcur).trans hx3⟩

set_option maxHeartbeats 1000000 in
theorem sameDirection_any (g h : Half) (w : World) (hg : SmallH g) (hh : SmallH h) :
    Calls Tryz.prog 149 #[.agg #[.int .i64 g.A, .int .i64 g.B, .int .i64 g.C], .agg #[.int .i64 h.A, .int .i64 h.B, .int .i64 h.C]] w fun e w' => e = .returned (.bool (sameDir g h)) ∧ Ext w w' := by
  have hx : Ext w ((w.alloc (.cells #[.int .i64 g.A, .int .i64 g.B, .int .i64 g.C] 120)).alloc (.cells #[.int .i64 h.A, .int .i64 h.B, .int .i64 h.C] 120)) := ((Ext.refl w).alloc _).alloc _
  have bG := (Blk.new w 120 #[.int .i64 g.A, .int .i64 g.B, .int .i64 g.C]).alloc (.cells #[.int .i64 h.A, .int .i64 h.B, .int .i64 h.C] 120)
  have bH := Blk.new (w.alloc (.cells #[.int .i64 g.A, .int .i64 g.B, .int .i64 g.C] 120)) 120 #[.int .i64 h.A, .int .i64 h.B, .int .i64 h.C]
  simp only [World.size_alloc] at bH
  have Hc := fun w => cross_any g h w hg hh
  obtain ⟨d, hd⟩ : ∃ u, cross g h = u := ⟨_, rfl⟩
  obtain ⟨u, hu⟩ : ∃ u, isUpper g = u := ⟨_, rfl⟩
  obtain ⟨v, hv⟩ : ∃ u, isUpper h = u := ⟨_, rfl⟩
  have Ha := fun w => isUpper_any g w
  have Hb := fun w => isUpper_any h w
  rw [hu] at Ha
  rw [hv] at Hb
  rw [hd] at Hc
  have HA := Lib.hid Ha
  have HB := Lib.hid Hb
  have HC := Lib.hid Hc
  clear Ha Hb Hc
  have H : Hid (sameDir g h = (decide (d = 0) && (u == v))) := by unfold Hid sameDir; rw [hu, hv, hd]
  clear hu hv hd
  by_cases h0 : d = 0
  · subst h0
    have e0 : ((0 : Int) == 0) = true := rfl
    cases u <;> cases v
    all_goals
      go_enter Tryz.func149, Tryz.ntmps149
      go_wp2_with fail
      have hcur := Ext.refl ((w.alloc (.cells #[.int .i64 g.A, .int .i64 g.B, .int .i64 g.C] 120)).alloc (.cells #[.int .i64 h.A, .int .i64 h.B, .int .i64 h.C] 120))
      go_region_held3 (fun w' => w'.cell? ⟨w.heap.size, 0, none⟩ = some (.int .i64 g.A) ∧ w'.cell? ⟨w.heap.size, 1, none⟩ = some (.int .i64 g.B) ∧ w'.cell? ⟨w.heap.size, 2, none⟩ = some (.int .i64 g.C) ∧ w'.cell? ⟨w.heap.size + 1, 0, none⟩ = some (.int .i64 h.A) ∧ w'.cell? ⟨w.heap.size + 1, 1, none⟩ = some (.int .i64 h.B) ∧ w'.cell? ⟨w.heap.size + 1, 2, none⟩ = some (.int .i64 h.C))
        (go_keep)
        (first
          | (go_at_call 138; (with_reducible refine (HC.out _).mono ?_); rintro e w9 ⟨rfl, hx9⟩; replace hcur := Ext.trans (by first | exact hcur | exact hcur.drew | exact hcur.alloc _ | exact (hcur.alloc _).drew) hx9; have c9bG := fun o => (bG.ext hcur).cell o; have c9bH := fun o => (bH.ext hcur).cell o)
          | (go_at_call 166; (with_reducible refine (HA.out _).mono ?_); rintro e w9 ⟨rfl, hx9⟩; replace hcur := Ext.trans (by first | exact hcur | exact hcur.drew | exact hcur.alloc _ | exact (hcur.alloc _).drew) hx9; have c9bG := fun o => (bG.ext hcur).cell o; have c9bH := fun o => (bH.ext hcur).cell o)
          | (go_at_call 166; (with_reducible refine (HB.out _).mono ?_); rintro e w9 ⟨rfl, hx9⟩; replace hcur := Ext.trans (by first | exact hcur | exact hcur.drew | exact hcur.alloc _ | exact (hcur.alloc _).drew) hx9; have c9bG := fun o => (bG.ext hcur).cell o; have c9bH := fun o => (bH.ext hcur).cell o))
      all_goals
        go_wp2
        go_ret
        exact ⟨ret_bool H.out.symm, hx.trans hcur⟩
  · have e0 : (d == 0) = false := by simpa using h0
    have e1 : decide (d = 0) = false := by simpa using h0
    rw [e1] at H
    clear h0 e1
    have cG := fun o => bG.cell o
    have cH := fun o => bH.cell o
    go_enter Tryz.func149, Tryz.ntmps149
    go_wp2_with fail
    go_region_with ((go_at_call 138; (with_reducible refine (HC.out _).mono ?_); rintro e w1 ⟨rfl, hx1⟩))
    all_goals
      go_wp2
      go_ret
      exact ⟨ret_bool H.out.symm, hx.trans (Ext.trans (by first | exact Ext.refl _ | exact (Ext.refl _).drew) hx1)⟩

theorem size_any (h : Half) (w : World) (hh : SmallH h) :
    Calls Tryz.prog 168 #[.agg #[.int .i64 h.A, .int .i64 h.B, .int .i64 h.C]] w fun e w' => e = .returned (.int .i64 (sizeH h)) ∧ Ext w w' := by
  have hx : Ext w (w.alloc (.cells #[.int .i64 h.A, .int .i64 h.B, .int .i64 h.C] 120)) := (Ext.refl w).alloc _
  obtain ⟨a1, a2⟩ := hh.a
  obtain ⟨b1, b2⟩ := hh.b
  by_cases ha : h.A = 0
  · have ea : (h.A != 0) = false := by simpa using ha
    have H1 : Hid (sizeH h = if h.B < -h.B then -h.B else h.B) := if_neg (by simpa using ha)
    clear ha
    by_cases hb : h.B < -h.B
    · have H : Hid (sizeH h = -h.B) := by unfold Hid; rw [H1.out, if_pos hb]
      go_enter Tryz.func168, Tryz.ntmps168
      go_wp2
      go_ret
      exact ⟨ret_int H.out.symm, hx⟩
    · have H : Hid (sizeH h = h.B) := by unfold Hid; rw [H1.out, if_neg hb]
      go_enter Tryz.func168, Tryz.ntmps168
      go_wp2
      go_ret
      exact ⟨ret_int H.out.symm, hx⟩
  · have ea : (h.A != 0) = true := by simpa using ha
    have H1 : Hid (sizeH h = if h.A < -h.A then -h.A else h.A) := if_pos ha
    clear ha
    by_cases hb : h.A < -h.A
    · have H : Hid (sizeH h = -h.A) := by unfold Hid; rw [H1.out, if_pos hb]
      go_enter Tryz.func168, Tryz.ntmps168
      go_wp2
      go_ret
      exact ⟨ret_int H.out.symm, hx⟩
    · have H : Hid (sizeH h = h.A) := by unfold Hid; rw [H1.out, if_neg hb]
      go_enter Tryz.func168, Tryz.ntmps168
      go_wp2
      go_ret
      exact ⟨ret_int H.out.symm, hx⟩
theorem sizeH_bd {h : Half} (hh : SmallH h) : -50000 ≤ sizeH h ∧ sizeH h ≤ 50000 := by
  have := hh.a; have := hh.b
  unfold sizeH; split <;> split <;> omega

set_option maxHeartbeats 1000000 in
theorem leavesRoom_any (g h : Half) (w : World) (hg : SmallH g) (hh : SmallH h) :
    Calls Tryz.prog 153 #[.agg #[.int .i64 g.A, .int .i64 g.B, .int .i64 g.C], .agg #[.int .i64 h.A, .int .i64 h.B, .int .i64 h.C]] w fun e w' => e = .returned (.bool (decide (0 < room g h))) ∧ Ext w w' := by
  have hx : Ext w ((w.alloc (.cells #[.int .i64 g.A, .int .i64 g.B, .int .i64 g.C] 120)).alloc (.cells #[.int .i64 h.A, .int .i64 h.B, .int .i64 h.C] 120)) := ((Ext.refl w).alloc _).alloc _
  have bG := (Blk.new w 120 #[.int .i64 g.A, .int .i64 g.B, .int .i64 g.C]).alloc (.cells #[.int .i64 h.A, .int .i64 h.B, .int .i64 h.C] 120)
  have bH := Blk.new (w.alloc (.cells #[.int .i64 g.A, .int .i64 g.B, .int .i64 g.C] 120)) 120 #[.int .i64 h.A, .int .i64 h.B, .int .i64 h.C]
  simp only [World.size_alloc] at bH
  have HA := Lib.hid (fun w => size_any g w hg)
  have HB := Lib.hid (fun w => size_any h w hh)
  obtain ⟨p1, p2⟩ := prod_bd hg.c (sizeH_bd hh) rfl
  obtain ⟨p3, p4⟩ := prod_bd hh.c (sizeH_bd hg) rfl
  have H : Hid (decide (0 < room g h) = decide (0 < g.C * sizeH h + h.C * sizeH g)) := rfl
  have l1 : IntKind.i64.wrap (g.C * sizeH h) = g.C * sizeH h := IntWalk.i64_in _ (by omega)
  have l2 : IntKind.i64.wrap (h.C * sizeH g) = h.C * sizeH g := IntWalk.i64_in _ (by omega)
  have l3 : IntKind.i64.wrap (g.C * sizeH h + h.C * sizeH g) = g.C * sizeH h + h.C * sizeH g := IntWalk.i64_in _ (by omega)
  clear p1 p2 p3 p4
  go_enter Tryz.func153, Tryz.ntmps153
  go_wp2_with fail
  have hcur := Ext.refl ((w.alloc (.cells #[.int .i64 g.A, .int .i64 g.B, .int .i64 g.C] 120)).alloc (.cells #[.int .i64 h.A, .int .i64 h.B, .int .i64 h.C] 120))
  go_region_held3 (fun w' => w'.cell? ⟨w.heap.size, 0, none⟩ = some (.int .i64 g.A) ∧ w'.cell? ⟨w.heap.size, 1, none⟩ = some (.int .i64 g.B) ∧ w'.cell? ⟨w.heap.size, 2, none⟩ = some (.int .i64 g.C) ∧ w'.cell? ⟨w.heap.size + 1, 0, none⟩ = some (.int .i64 h.A) ∧ w'.cell? ⟨w.heap.size + 1, 1, none⟩ = some (.int .i64 h.B) ∧ w'.cell? ⟨w.heap.size + 1, 2, none⟩ = some (.int .i64 h.C))
    (go_keep)
    (first
      | (go_at_call 168; (with_reducible refine (HA.out _).mono ?_); rintro e w9 ⟨rfl, hx9⟩; replace hcur := Ext.trans (by first | exact hcur | exact hcur.drew | exact hcur.alloc _ | exact (hcur.alloc _).drew) hx9; have c9bG := fun o => (bG.ext hcur).cell o; have c9bH := fun o => (bH.ext hcur).cell o)
      | (go_at_call 168; (with_reducible refine (HB.out _).mono ?_); rintro e w9 ⟨rfl, hx9⟩; replace hcur := Ext.trans (by first | exact hcur | exact hcur.drew | exact hcur.alloc _ | exact (hcur.alloc _).drew) hx9; have c9bG := fun o => (bG.ext hcur).cell o; have c9bH := fun o => (bH.ext hcur).cell o))
  all_goals
    go_wp2
    go_ret
    exact ⟨ret_bool H.out.symm, hx.trans hcur⟩

set_option maxHeartbeats 1000000 in
theorem implSameDirection_any (g h : Half) (w : World) (hg : halfOk g = true) (hh : halfOk h = true) :
    Calls Tryz.prog 167 #[.agg #[.int .i64 g.A, .int .i64 g.B, .int .i64 g.C], .agg #[.int .i64 h.A, .int .i64 h.B, .int .i64 h.C]] w fun e w' => e = .returned (.bool (sameDir g h)) ∧ Ext w w' := by
  have hx : Ext w ((w.alloc (.cells #[.int .i64 g.A, .int .i64 g.B, .int .i64 g.C] 120)).alloc (.cells #[.int .i64 h.A, .int .i64 h.B, .int .i64 h.C] 120)) := ((Ext.refl w).alloc _).alloc _
  have bG := (Blk.new w 120 #[.int .i64 g.A, .int .i64 g.B, .int .i64 g.C]).alloc (.cells #[.int .i64 h.A, .int .i64 h.B, .int .i64 h.C] 120)
  have bH := Blk.new (w.alloc (.cells #[.int .i64 g.A, .int .i64 g.B, .int .i64 g.C] 120)) 120 #[.int .i64 h.A, .int .i64 h.B, .int .i64 h.C]
  simp only [World.size_alloc] at bH
  have sG := small_ok hg
  have sH := small_ok hh
  obtain ⟨i1, i2, i3⟩ := sG.i64
  obtain ⟨j1, j2, j3⟩ := sH.i64
  go_enter Tryz.func167, Tryz.ntmps167
  go_wp2_with fail
  refine (implHalfOk_any g.A g.B g.C _ i1 i2 i3).mono ?_
  rintro e w1 ⟨rfl, hx1⟩
  replace hx := hx.trans hx1
  replace bG := bG.ext hx1
  replace bH := bH.ext hx1
  have cbG_7 := fun o => bG.cell o
  have cbH_8 := fun o => bH.cell o
  rw [show halfOk ⟨g.A, g.B, g.C⟩ = true from hg]
  go_wp2_with fail
  refine (implHalfOk_any h.A h.B h.C _ j1 j2 j3).mono ?_
  rintro e w2 ⟨rfl, hx2⟩
  replace hx := hx.trans hx2
  replace bG := bG.ext hx2
  replace bH := bH.ext hx2
  have cbG_9 := fun o => bG.cell o
  have cbH_10 := fun o => bH.cell o
  rw [show halfOk ⟨h.A, h.B, h.C⟩ = true from hh]
  go_wp2_with fail
  refine (sameDirection_any g h _ sG sH).mono ?_
  rintro e w3 ⟨rfl, hx3⟩
  replace hx := hx.trans hx3
  replace bG := bG.ext hx3
  replace bH := bH.ext hx3
  have cbG_11 := fun o => bG.cell o
  have cbH_12 := fun o => bH.cell o
  go_wp2
  go_ret
  exact ⟨rfl, hx⟩

set_option maxHeartbeats 2000000 in
theorem implTighter_any (g h : Half) (w : World) (hg : halfOk g = true) (hh : halfOk h = true) (hs : sameDir g h = true) :
    Calls Tryz.prog 150 #[.agg #[.int .i64 g.A, .int .i64 g.B, .int .i64 g.C], .agg #[.int .i64 h.A, .int .i64 h.B, .int .i64 h.C]] w fun e w' => e = .returned (.agg #[.int .i64 (tighter g h).A, .int .i64 (tighter g h).B, .int .i64 (tighter g h).C]) ∧ Ext w w' := by
  have hx : Ext w (((w.alloc (.cells #[.int .i64 g.A, .int .i64 g.B, .int .i64 g.C] 120)).alloc (.cells #[.int .i64 h.A, .int .i64 h.B, .int .i64 h.C] 120)).alloc (.cells #[.int .i64 0, .int .i64 0, .int .i64 0] 120)) := (((Ext.refl w).alloc _).alloc _).alloc _
  have bG := ((Blk.new w 120 #[.int .i64 g.A, .int .i64 g.B, .int .i64 g.C]).alloc (.cells #[.int .i64 h.A, .int .i64 h.B, .int .i64 h.C] 120)).alloc (.cells #[.int .i64 0, .int .i64 0, .int .i64 0] 120)
  have bH := (Blk.new (w.alloc (.cells #[.int .i64 g.A, .int .i64 g.B, .int .i64 g.C] 120)) 120 #[.int .i64 h.A, .int .i64 h.B, .int .i64 h.C]).alloc (.cells #[.int .i64 0, .int .i64 0, .int .i64 0] 120)
  have b0 := Blk.new ((w.alloc (.cells #[.int .i64 g.A, .int .i64 g.B, .int .i64 g.C] 120)).alloc (.cells #[.int .i64 h.A, .int .i64 h.B, .int .i64 h.C] 120)) 120 #[.int .i64 0, .int .i64 0, .int .i64 0]
  simp only [World.size_alloc] at bH b0
  have sG := small_ok hg
  have sH := small_ok hh
  have HA := Lib.hid (fun w => size_any g w sG)
  have HB := Lib.hid (fun w => size_any h w sH)
  obtain ⟨p1, p2⟩ := prod_bd sG.c (sizeH_bd sH) rfl
  obtain ⟨p3, p4⟩ := prod_bd sH.c (sizeH_bd sG) rfl
  have HS := Lib.hid (fun w => implSameDirection_any g h w hg hh)
  rw [hs] at HS
  have l1 : IntKind.i64.wrap (g.C * sizeH h) = g.C * sizeH h := IntWalk.i64_in _ (by omega)
  have l2 : IntKind.i64.wrap (h.C * sizeH g) = h.C * sizeH g := IntWalk.i64_in _ (by omega)
  clear p1 p2 p3 p4
  clear hs hg hh sG sH
  by_cases hc : h.C * sizeH g < g.C * sizeH h
  · have H : Hid (tighter g h = h) := if_pos hc
    go_enter Tryz.func150, Tryz.ntmps150
    go_wp2_with fail
    refine (HS.out _).mono ?_
    rintro e w1 ⟨rfl, hx1⟩
    replace hx := hx.trans hx1
    replace bG := bG.ext hx1
    replace bH := bH.ext hx1
    replace b0 := b0.ext hx1
    have cbG_13 := fun o => bG.cell o
    have cbH_14 := fun o => bH.cell o
    have cb0_15 := fun o => b0.cell o
    have fb0_15 := fun o => b0.frozen o
    go_wp2_with fail
    have hcur := Ext.refl (w1)
    go_region_held3 (fun w' => w'.cell? ⟨w.heap.size, 0, none⟩ = some (.int .i64 g.A) ∧ w'.cell? ⟨w.heap.size, 1, none⟩ = some (.int .i64 g.B) ∧ w'.cell? ⟨w.heap.size, 2, none⟩ = some (.int .i64 g.C) ∧ w'.cell? ⟨w.heap.size + 1, 0, none⟩ = some (.int .i64 h.A) ∧ w'.cell? ⟨w.heap.size + 1, 1, none⟩ = some (.int .i64 h.B) ∧ w'.cell? ⟨w.heap.size + 1, 2, none⟩ = some (.int .i64 h.C))
      (go_keep)
      (first
        | (go_at_call 168; (with_reducible refine (HA.out _).mono ?_); rintro e w9 ⟨rfl, hx9⟩; replace hcur := Ext.trans (by first | exact hcur | exact hcur.drew | exact hcur.alloc _ | exact (hcur.alloc _).drew) hx9; have c9bG := fun o => (bG.ext hcur).cell o; have c9bH := fun o => (bH.ext hcur).cell o)
        | (go_at_call 168; (with_reducible refine (HB.out _).mono ?_); rintro e w9 ⟨rfl, hx9⟩; replace hcur := Ext.trans (by first | exact hcur | exact hcur.drew | exact hcur.alloc _ | exact (hcur.alloc _).drew) hx9; have c9bG := fun o => (bG.ext hcur).cell o; have c9bH := fun o => (bH.ext hcur).cell o))
    all_goals
      replace hx := hx.trans hcur
      replace bG := bG.ext hcur
      replace bH := bH.ext hcur
      replace b0 := b0.ext hcur
      have cbG_16 := fun o => bG.cell o
      have cbH_17 := fun o => bH.cell o
      have cb0_18 := fun o => b0.cell o
      have fb0_18 := fun o => b0.frozen o
      have hlt := b0.lt
      go_wp2
      have c0 := fun o => b0.cell o
      refine bodyPost_ret (v := .agg #[.int .i64 h.A, .int .i64 h.B, .int .i64 h.C]) (by simp [results, Tryz.results150, go_sem, c0]) rfl ⟨by rw [H.out], ?_⟩
      exact ((hx.setCell (by first | omega | (simp <;> omega)) _).setCell (by first | omega | (simp <;> omega)) _).setCell (by first | omega | (simp <;> omega)) _
  · have H : Hid (tighter g h = g) := if_neg hc
    go_enter Tryz.func150, Tryz.ntmps150
    go_wp2_with fail
    refine (HS.out _).mono ?_
    rintro e w1 ⟨rfl, hx1⟩
    replace hx := hx.trans hx1
    replace bG := bG.ext hx1
    replace bH := bH.ext hx1
    replace b0 := b0.ext hx1
    have cbG_19 := fun o => bG.cell o
    have cbH_20 := fun o => bH.cell o
    have cb0_21 := fun o => b0.cell o
    have fb0_21 := fun o => b0.frozen o
    go_wp2_with fail
    have hcur := Ext.refl (w1)
    go_region_held3 (fun w' => w'.cell? ⟨w.heap.size, 0, none⟩ = some (.int .i64 g.A) ∧ w'.cell? ⟨w.heap.size, 1, none⟩ = some (.int .i64 g.B) ∧ w'.cell? ⟨w.heap.size, 2, none⟩ = some (.int .i64 g.C) ∧ w'.cell? ⟨w.heap.size + 1, 0, none⟩ = some (.int .i64 h.A) ∧ w'.cell? ⟨w.heap.size + 1, 1, none⟩ = some (.int .i64 h.B) ∧ w'.cell? ⟨w.heap.size + 1, 2, none⟩ = some (.int .i64 h.C))
      (go_keep)
      (first
        | (go_at_call 168; (with_reducible refine (HA.out _).mono ?_); rintro e w9 ⟨rfl, hx9⟩; replace hcur := Ext.trans (by first | exact hcur | exact hcur.drew | exact hcur.alloc _ | exact (hcur.alloc _).drew) hx9; have c9bG := fun o => (bG.ext hcur).cell o; have c9bH := fun o => (bH.ext hcur).cell o)
        | (go_at_call 168; (with_reducible refine (HB.out _).mono ?_); rintro e w9 ⟨rfl, hx9⟩; replace hcur := Ext.trans (by first | exact hcur | exact hcur.drew | exact hcur.alloc _ | exact (hcur.alloc _).drew) hx9; have c9bG := fun o => (bG.ext hcur).cell o; have c9bH := fun o => (bH.ext hcur).cell o))
    all_goals
      replace hx := hx.trans hcur
      replace bG := bG.ext hcur
      replace bH := bH.ext hcur
      replace b0 := b0.ext hcur
      have cbG_22 := fun o => bG.cell o
      have cbH_23 := fun o => bH.cell o
      have cb0_24 := fun o => b0.cell o
      have fb0_24 := fun o => b0.frozen o
      have hlt := b0.lt
      go_wp2
      have c0 := fun o => b0.cell o
      refine bodyPost_ret (v := .agg #[.int .i64 g.A, .int .i64 g.B, .int .i64 g.C]) (by simp [results, Tryz.results150, go_sem, c0]) rfl ⟨by rw [H.out], ?_⟩
      exact ((hx.setCell (by first | omega | (simp <;> omega)) _).setCell (by first | omega | (simp <;> omega)) _).setCell (by first | omega | (simp <;> omega)) _
end Go.Proofs.YtjghabbcjpfjeaaGreatDoor
