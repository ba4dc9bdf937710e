/- Contracts of spans, and of AskOf. -/
import Derived.Test.YtfnmbpjkjajpcaaGreatDoorFbQC
import Derived.Test.YtfnmbpjkjajpcaaGreatDoorFbPz
import Derived.Test.YtfnmbpjkjajpcaaGreatDoorFbK
import Derived.Test.YtfnmbpjkjajpcaaGreatDoorFbHz
import Derived.Deep.RegionHeld3
import Derived.Test.YtfnmbpjkjajpcaaGreatDoorFbQ
import Derived.IntWalk
import Derived.Deep.RegionWith
import Derived.Deep.DrawnRows
import Derived.Deep.QuietTactic
import Derived.Laws.StructEq
namespace Go.Proofs.YtfnmbpjkjajpcaaGreatDoor
open Go.ChangeShapes Go.WideShapes Go.ChangeAt Go.RowKit
set_option linter.unusedVariables false
set_option maxHeartbeats 1000000 in
theorem implSpanOk_any (a b c d : Int) (w : World) (ha : I64 a) (hb : I64 b) (hc : I64 c) (hd : I64 d) :
    Calls Tryz.prog 301 #[.agg #[.int .i64 a, .int .i64 b, .int .i64 c, .int .i64 d]] w fun e w' => e = .returned (.bool (spanOk ⟨⟨a, b⟩, ⟨c, d⟩⟩)) ∧ Ext w w' := by
  have Ha := Lib.hid ha
  have Hb := Lib.hid hb
  have Hc := Lib.hid hc
  have Hd := Lib.hid hd
  clear ha hb hc hd
  have hx : Ext w (w.alloc (.cells #[.int .i64 a, .int .i64 b, .int .i64 c, .int .i64 d] 178)) := (Ext.refl w).alloc _
  have hB := Ext.refl (w.alloc (.cells #[.int .i64 a, .int .i64 b, .int .i64 c, .int .i64 d] 178))
  go_enter Tryz.func301, Tryz.ntmps301
  go_wp2_with fail
  refine (implRatioOk_any _ _ _ Ha.out Hb.out).mono ?_
  rintro e w1 ⟨rfl, hx1⟩
  have hB := hB.trans hx1
  have hc1 := fun o => hB.use.1 w.heap.size o (by simp <;> omega)
  by_cases h1 : ratioOk ⟨a, b⟩ = true
  · rw [h1]
    have H1 := Lib.hid h1
    clear h1
    go_wp2_with fail
    refine (implRatioOk_any _ _ _ Hc.out Hd.out).mono ?_
    rintro e w2 ⟨rfl, hx2⟩
    have hB := hB.trans hx2
    have hc2 := fun o => hB.use.1 w.heap.size o (by simp <;> omega)
    by_cases h2 : ratioOk ⟨c, d⟩ = true
    · rw [h2]
      have H2 := Lib.hid h2
      clear h2
      go_wp2_with fail
      refine (implRatioCmp_any _ _ _ _ _ Ha.out Hb.out Hc.out Hd.out).mono ?_
      rintro e w3 ⟨rfl, hx3⟩
      have H : Hid (spanOk ⟨⟨a, b⟩, ⟨c, d⟩⟩ = decide (ratioCmp ⟨a, b⟩ ⟨c, d⟩ ≤ 0)) := by unfold Hid spanOk; rw [H1.out, H2.out]; rfl
      go_wp2
      go_ret
      exact ⟨ret_bool H.out.symm, (hx.trans hB).trans hx3⟩
    · have H : Hid (spanOk ⟨⟨a, b⟩, ⟨c, d⟩⟩ = false) := by unfold Hid spanOk; simp [h2]
      rw [show ratioOk ⟨c, d⟩ = false from by simpa using h2]
      clear h2
      go_wp2
      go_ret
      exact ⟨ret_bool H.out.symm, hx.trans hB⟩
  · have H : Hid (spanOk ⟨⟨a, b⟩, ⟨c, d⟩⟩ = false) := by unfold Hid spanOk; simp [h1]
    rw [show ratioOk ⟨a, b⟩ = false from by simpa using h1]
    clear h1
    go_wp2
    go_ret
    exact ⟨ret_bool H.out.symm, hx.trans hB⟩
end Go.Proofs.YtfnmbpjkjajpcaaGreatDoor
namespace Go.Proofs.YtfnmbpjkjajpcaaGreatDoor
open Go.ChangeShapes Go.WideShapes Go.ChangeAt Go.RowKit
set_option linter.unusedVariables false
theorem isCoef_any (n : Int) (w : World) : Calls Tryz.prog 240 #[.int .i64 n] w fun e w' => e = .returned (.bool (inR n (-50000) 50000)) ∧ w = w' := by
  go_enter Tryz.func240, Tryz.ntmps240
  go_wp2_with fail
  refine (inRange_any _ _ _ _).mono ?_
  rintro e w' ⟨rfl, rfl⟩
  go_wp2
  go_ret
  exact ⟨rfl, rfl⟩
theorem halfOk_A {a b c : Int} (h : inR a (-50000) 50000 = false) : halfOk ⟨a, b, c⟩ = false := by unfold halfOk; simp only [h]; rfl
theorem halfOk_B {a b c : Int} (h : inR b (-50000) 50000 = false) : halfOk ⟨a, b, c⟩ = false := by unfold halfOk; simp only [h]; simp
theorem halfOk_C {a b c : Int} (h : inR c (-100000000) 100000000 = false) : halfOk ⟨a, b, c⟩ = false := by unfold halfOk; simp only [h]; simp
theorem halfOk_0 {c : Int} : halfOk ⟨0, 0, c⟩ = false := by unfold halfOk; simp
theorem halfOk_g {a b c : Int} (hA : inR a (-50000) 50000 = true) (hB : inR b (-50000) 50000 = true) (hC : inR c (-100000000) 100000000 = true) (hn : a ≠ 0 ∨ b ≠ 0) : halfOk ⟨a, b, c⟩ = decide (Nat.gcd (Int.gcd a b) c.natAbs = 1) := by
  unfold halfOk
  rw [hA, hB, hC, show (decide (a ≠ 0) || decide (b ≠ 0)) = true from by simpa using hn]
  rfl
set_option maxRecDepth 100000 in
set_option maxHeartbeats 1000000 in
theorem implHalfOk_any (a b c : Int) (w : World) (ha : I64 a) (hb : I64 b) (hc : I64 c) :
    Calls Tryz.prog 177 #[.agg #[.int .i64 a, .int .i64 b, .int .i64 c]] w fun e w' => e = .returned (.bool (halfOk ⟨a, b, c⟩)) ∧ Ext w w' := by
  have hx : Ext w (w.alloc (.cells #[.int .i64 a, .int .i64 b, .int .i64 c] 116)) := (Ext.refl w).alloc _
  rcases Bool.eq_false_or_eq_true (inR a (-50000) 50000) with hA | hA
  rotate_left
  · have H := Lib.hid (halfOk_A (b := b) (c := c) hA)
    go_enter Tryz.func177, Tryz.ntmps177
    go_wp2_with fail
    refine (isCoef_any _ _).mono ?_
    rintro e w' ⟨rfl, rfl⟩
    rw [hA]
    go_wp2
    go_ret
    exact ⟨ret_bool H.out.symm, hx⟩
  rcases Bool.eq_false_or_eq_true (inR b (-50000) 50000) with hB | hB
  rotate_left
  · have H := Lib.hid (halfOk_B (a := a) (c := c) hB)
    go_enter Tryz.func177, Tryz.ntmps177
    go_wp2_with fail
    refine (isCoef_any _ _).mono ?_
    rintro e w' ⟨rfl, rfl⟩
    rw [hA]
    go_wp2_with fail
    refine (isCoef_any _ _).mono ?_
    rintro e w' ⟨rfl, rfl⟩
    rw [hB]
    go_wp2
    go_ret
    exact ⟨ret_bool H.out.symm, hx⟩
  rcases Bool.eq_false_or_eq_true (inR c (-100000000) 100000000) with hC | hC
  rotate_left
  · have H := Lib.hid (halfOk_C (a := a) (b := b) hC)
    go_enter Tryz.func177, Tryz.ntmps177
    go_wp2_with fail
    refine (isCoef_any _ _).mono ?_
    rintro e w' ⟨rfl, rfl⟩
    rw [hA]
    go_wp2_with fail
    refine (isCoef_any _ _).mono ?_
    rintro e w' ⟨rfl, rfl⟩
    rw [hB]
    go_wp2_with fail
    refine (inRange_any _ _ _ _).mono ?_
    rintro e w' ⟨rfl, rfl⟩
    rw [hC]
    go_wp2
    go_ret
    exact ⟨ret_bool H.out.symm, hx⟩
  by_cases hz : a = 0 ∧ b = 0
  · obtain ⟨rfl, rfl⟩ := hz
    have H := Lib.hid (halfOk_0 (c := c))
    go_enter Tryz.func177, Tryz.ntmps177
    go_wp2_with fail
    refine (isCoef_any _ _).mono ?_
    rintro e w' ⟨rfl, rfl⟩
    rw [hA]
    go_wp2_with fail
    refine (isCoef_any _ _).mono ?_
    rintro e w' ⟨rfl, rfl⟩
    rw [hB]
    go_wp2_with fail
    refine (inRange_any _ _ _ _).mono ?_
    rintro e w' ⟨rfl, rfl⟩
    rw [hC]
    go_wp2
    go_ret
    exact ⟨ret_bool H.out.symm, hx⟩
  have HG := Lib.hid (halfOk_g hA hB hC (by omega))
  have hrow : Row ((w.alloc (.cells #[.int .i64 a, .int .i64 b, .int .i64 c] 116)).alloc (.cells #[.int .i64 a, .int .i64 b, .int .i64 c] 3)) (some ⟨w.heap.size + 1, 0, none⟩) (ints [a, b, c]) := by
    refine .inr ⟨w.heap.size + 1, 0, rfl, fun j v hj => ?_⟩
    have hb := Blk.new (w.alloc (.cells #[.int .i64 a, .int .i64 b, .int .i64 c] 116)) 3 #[.int .i64 a, .int .i64 b, .int .i64 c]
    simp only [World.size_alloc] at hb
    rw [hb.cell, Nat.zero_add]
    simpa [ints] using hj
  have HII : Hid (∀ i, (hi : i < [a, b, c].length) → I64 [a, b, c][i]) := by
    intro i hi
    match i, hi with
    | 0, _ => exact ha
    | 1, _ => exact hb
    | 2, _ => exact hc
  have HT := Lib.hid (gcdTo_three a b c)
  have hzz : (a == 0 && b == 0) = false := by simp; omega
  by_cases hz0 : a = 0
  · subst hz0
    have hz2 : (b == 0) = false := by simp; omega
    have hz3 : ¬ b = 0 := by omega
    go_enter Tryz.func177, Tryz.ntmps177
    go_wp2_with fail
    refine (isCoef_any _ _).mono ?_
    rintro e w' ⟨rfl, rfl⟩
    rw [hA]
    go_wp2_with fail
    refine (isCoef_any _ _).mono ?_
    rintro e w' ⟨rfl, rfl⟩
    rw [hB]
    go_wp2_with fail
    refine (inRange_any _ _ _ _).mono ?_
    rintro e w' ⟨rfl, rfl⟩
    rw [hC]
    go_wp2_with fail
    refine (gcdOfAll_any _ 3 _ [0, b, c] _ rfl hrow (by unfold maxLen; omega) HII.out).mono ?_
    rintro e w1 ⟨rfl, hx1⟩
    rw [HT.out]
    go_wp2
    go_ret
    refine ⟨ret_bool ?_, (hx.alloc _).trans hx1⟩
    rw [HG.out]
    rw [Bool.eq_iff_iff]
    simp
    try omega
  · have hz1 : (a == 0) = false := by simpa using hz0
    go_enter Tryz.func177, Tryz.ntmps177
    go_wp2_with fail
    refine (isCoef_any _ _).mono ?_
    rintro e w' ⟨rfl, rfl⟩
    rw [hA]
    go_wp2_with fail
    refine (isCoef_any _ _).mono ?_
    rintro e w' ⟨rfl, rfl⟩
    rw [hB]
    go_wp2_with fail
    refine (inRange_any _ _ _ _).mono ?_
    rintro e w' ⟨rfl, rfl⟩
    rw [hC]
    go_wp2_with fail
    refine (gcdOfAll_any _ 3 _ [a, b, c] _ rfl hrow (by unfold maxLen; omega) HII.out).mono ?_
    rintro e w1 ⟨rfl, hx1⟩
    rw [HT.out]
    go_wp2
    go_ret
    refine ⟨ret_bool ?_, (hx.alloc _).trans hx1⟩
    rw [HG.out]
    rw [Bool.eq_iff_iff]
    simp
    try omega
end Go.Proofs.YtfnmbpjkjajpcaaGreatDoor
namespace Go.Proofs.YtfnmbpjkjajpcaaGreatDoor
open Go.ChangeShapes Go.WideShapes Go.ChangeAt Go.RowKit
set_option linter.unusedVariables false
set_option maxRecDepth 100000
attribute [local go_sem ↓] Go.wp_at_zero Go.wp_at_succ
theorem prod_bd {a b A B C : Int} (ha : -A ≤ a ∧ a ≤ A) (hb : -B ≤ b ∧ b ≤ B) (hC : A * B = C) : -C ≤ a * b ∧ a * b ≤ C := by subst hC; exact mul_bd ha hb
theorem SmallH.i64 {h : Half} (hs : SmallH h) : I64 h.A ∧ I64 h.B ∧ I64 h.C := by
  have := hs.a; have := hs.b; have := hs.c
  unfold I64; omega
theorem ret4 {k1 k2 k3 : IntKind} {a b c a' b' c' : Int} {q q' : Bool} (h1 : a = a') (h2 : b = b') (h3 : c = c') (h4 : q = q') : Ending.returned (.tuple #[.int k1 a, .int k2 b, .int k3 c, .bool q]) = .returned (.tuple #[.int k1 a', .int k2 b', .int k3 c', .bool q']) := by rw [h1, h2, h3, h4]
theorem cross_any (g h : Half) (w : World) (hg : SmallH g) (hh : SmallH h) :
    Calls Tryz.prog 269 #[.agg #[.int .i64 g.A, .int .i64 g.B, .int .i64 g.C], .agg #[.int .i64 h.A, .int .i64 h.B, .int .i64 h.C]] w fun e w' => e = .returned (.int .i64 (cross g h)) ∧ Ext w w' := by
  obtain ⟨p1, p2⟩ := prod_bd hg.a hh.b rfl
  obtain ⟨p3, p4⟩ := prod_bd hg.b hh.a rfl
  go_enter Tryz.func269, Tryz.ntmps269
  go_wp2
  go_ret
  exact ⟨rfl, ((Ext.refl _).alloc _).alloc _⟩
theorem cross_bd {g h : Half} (hg : SmallH g) (hh : SmallH h) : -5000000000 ≤ cross g h ∧ cross g h ≤ 5000000000 := by
  obtain ⟨p1, p2⟩ := prod_bd hg.a hh.b rfl
  obtain ⟨p3, p4⟩ := prod_bd hg.b hh.a rfl
  unfold cross; omega
set_option maxHeartbeats 1000000 in
theorem crossing_any (g h : Half) (w : World) (hg : SmallH g) (hh : SmallH h) :
    Calls Tryz.prog 271 #[.agg #[.int .i64 g.A, .int .i64 g.B, .int .i64 g.C], .agg #[.int .i64 h.A, .int .i64 h.B, .int .i64 h.C]] w fun e w' => e = .returned (.tuple #[.int .i64 (ptX g h), .int .i64 (ptY g h), .int .i64 (frD g h), .bool (decide (cross g h ≠ 0))]) ∧ Ext w w' := by
  obtain ⟨p1, p2⟩ := prod_bd hg.c hh.b rfl
  obtain ⟨p3, p4⟩ := prod_bd hh.c hg.b rfl
  obtain ⟨p5, p6⟩ := prod_bd hg.a hh.c rfl
  obtain ⟨p7, p8⟩ := prod_bd hh.a hg.c rfl
  obtain ⟨q1, q2⟩ := cross_bd hg hh
  have hx : Ext w ((w.alloc (.cells #[.int .i64 g.A, .int .i64 g.B, .int .i64 g.C] 116)).alloc (.cells #[.int .i64 h.A, .int .i64 h.B, .int .i64 h.C] 116)) := ((Ext.refl w).alloc _).alloc _
  have bG := (Blk.new w 116 #[.int .i64 g.A, .int .i64 g.B, .int .i64 g.C]).alloc (.cells #[.int .i64 h.A, .int .i64 h.B, .int .i64 h.C] 116)
  have bH := Blk.new (w.alloc (.cells #[.int .i64 g.A, .int .i64 g.B, .int .i64 g.C] 116)) 116 #[.int .i64 h.A, .int .i64 h.B, .int .i64 h.C]
  simp only [World.size_alloc] at bH
  have HXn : Hid (∀ h' : cross g h < 0, ptX g h = -(g.C * h.B - h.C * g.B) ∧ ptY g h = -(g.A * h.C - h.A * g.C) ∧ frD g h = -cross g h ∧ decide (cross g h ≠ 0) = true) := fun h' => ⟨if_pos h', if_pos h', if_pos h', by simp; omega⟩
  have HXp : Hid (∀ h' : ¬ cross g h < 0, ptX g h = g.C * h.B - h.C * g.B ∧ ptY g h = g.A * h.C - h.A * g.C ∧ frD g h = cross g h) := fun h' => ⟨if_neg h', if_neg h', if_neg h'⟩
  have hC := cross_any g h ((w.alloc (.cells #[.int .i64 g.A, .int .i64 g.B, .int .i64 g.C] 116)).alloc (.cells #[.int .i64 h.A, .int .i64 h.B, .int .i64 h.C] 116)) hg hh
  obtain ⟨d, hd⟩ : ∃ d, cross g h = d := ⟨_, rfl⟩
  rw [hd] at q1 q2 hC HXn HXp
  rw [hd]
  clear hd
  rcases Int.lt_trichotomy d 0 with hn | hn | hn
  · obtain ⟨r1, r2, r3, r4⟩ := HXn.out hn
    have R := Lib.hid (ret4 (k1 := .i64) (k2 := .i64) (k3 := .i64) r1 r2 r3 r4)
    clear r1 r2 r3 r4
    go_enter Tryz.func271, Tryz.ntmps271
    go_wp2_with fail
    refine (hC).mono ?_
    rintro e w1 ⟨rfl, hx1⟩
    replace hx := hx.trans hx1
    replace bG := bG.ext hx1
    replace bH := bH.ext hx1
    have cbG_1 := fun o => bG.cell o
    have cbH_2 := fun o => bH.cell o
    clear hC
    go_wp2
    refine bodyPost_ret (v := .tuple #[.int .i64 (-(g.C * h.B - h.C * g.B)), .int .i64 (-(g.A * h.C - h.A * g.C)), .int .i64 (-d), .bool true]) (by simp [results, Tryz.results271, go_sem]) rfl ⟨R.out.symm, hx⟩
  · obtain ⟨r1, r2, r3⟩ := HXp.out (by omega)
    have R := Lib.hid (ret4 (k1 := .i64) (k2 := .i64) (k3 := .i64) r1 r2 r3 (show decide (d ≠ 0) = false by simp; omega))
    clear r1 r2 r3
    subst hn
    go_enter Tryz.func271, Tryz.ntmps271
    go_wp2_with fail
    refine (hC).mono ?_
    rintro e w1 ⟨rfl, hx1⟩
    replace hx := hx.trans hx1
    replace bG := bG.ext hx1
    replace bH := bH.ext hx1
    have cbG_3 := fun o => bG.cell o
    have cbH_4 := fun o => bH.cell o
    clear hC
    go_wp2
    refine bodyPost_ret (v := .tuple #[.int .i64 (g.C * h.B - h.C * g.B), .int .i64 (g.A * h.C - h.A * g.C), .int .i64 0, .bool false]) (by simp [results, Tryz.results271, go_sem]) rfl ⟨R.out.symm, hx⟩
  · obtain ⟨r1, r2, r3⟩ := HXp.out (by omega)
    have R := Lib.hid (ret4 (k1 := .i64) (k2 := .i64) (k3 := .i64) r1 r2 r3 (show decide (d ≠ 0) = true by simp; omega))
    clear r1 r2 r3
    have hn2 : (d != 0) = true := by simp; omega
    go_enter Tryz.func271, Tryz.ntmps271
    go_wp2_with fail
    refine (hC).mono ?_
    rintro e w1 ⟨rfl, hx1⟩
    replace hx := hx.trans hx1
    replace bG := bG.ext hx1
    replace bH := bH.ext hx1
    have cbG_5 := fun o => bG.cell o
    have cbH_6 := fun o => bH.cell o
    clear hC
    go_wp2
    refine bodyPost_ret (v := .tuple #[.int .i64 (g.C * h.B - h.C * g.B), .int .i64 (g.A * h.C - h.A * g.C), .int .i64 d, .bool true]) (by simp [results, Tryz.results271, go_sem]) rfl ⟨R.out.symm, hx⟩
theorem isUpper_any (h : Half) (w : World) :
    Calls Tryz.prog 309 #[.agg #[.int .i64 h.A, .int .i64 h.B, .int .i64 h.C]] w fun e w' => e = .returned (.bool (isUpper h)) ∧ Ext w w' := by
  have hx : Ext w (w.alloc (.cells #[.int .i64 h.A, .int .i64 h.B, .int .i64 h.C] 116)) := (Ext.refl w).alloc _
  by_cases h1 : 0 < h.B
  · have H : Hid (isUpper h = true) := (up_iff h).2 (.inl h1)
    go_enter Tryz.func309, Tryz.ntmps309
    go_wp2
    go_ret
    exact ⟨ret_bool H.out.symm, hx⟩
  by_cases h2 : h.B = 0
  · have e2 : (h.B == 0) = true := by simpa using h2
    by_cases h3 : 0 < h.A
    · have H : Hid (isUpper h = true) := (up_iff h).2 (.inr ⟨h2, h3⟩)
      clear h2
      go_enter Tryz.func309, Tryz.ntmps309
      go_wp2
      go_ret
      exact ⟨ret_bool H.out.symm, hx⟩
    · have H : Hid (isUpper h = false) := by unfold Hid; rw [Bool.eq_false_iff]; intro e; have := (up_iff h).1 e; omega
      clear h2
      go_enter Tryz.func309, Tryz.ntmps309
      go_wp2
      go_ret
      exact ⟨ret_bool H.out.symm, hx⟩
  · have e2 : (h.B == 0) = false := by simpa using h2
    have H : Hid (isUpper h = false) := by unfold Hid; rw [Bool.eq_false_iff]; intro e; have := (up_iff h).1 e; omega
    clear h2
    go_enter Tryz.func309, Tryz.ntmps309
    go_wp2
    go_ret
    exact ⟨ret_bool H.out.symm, hx⟩
set_option maxHeartbeats 1000000 in
theorem beforeAngle_any (g h : Half) (w : World) (hg : SmallH g) (hh : SmallH h) :
    Calls Tryz.prog 264 #[.agg #[.int .i64 g.A, .int .i64 g.B, .int .i64 g.C], .agg #[.int .i64 h.A, .int .i64 h.B, .int .i64 h.C]] w fun e w' => e = .returned (.bool (before g h)) ∧ Ext w w' := by
  have hx : Ext w ((w.alloc (.cells #[.int .i64 g.A, .int .i64 g.B, .int .i64 g.C] 116)).alloc (.cells #[.int .i64 h.A, .int .i64 h.B, .int .i64 h.C] 116)) := ((Ext.refl w).alloc _).alloc _
  have bG := (Blk.new w 116 #[.int .i64 g.A, .int .i64 g.B, .int .i64 g.C]).alloc (.cells #[.int .i64 h.A, .int .i64 h.B, .int .i64 h.C] 116)
  have bH := Blk.new (w.alloc (.cells #[.int .i64 g.A, .int .i64 g.B, .int .i64 g.C] 116)) 116 #[.int .i64 h.A, .int .i64 h.B, .int .i64 h.C]
  simp only [World.size_alloc] at bH
  have HC := Lib.hid (fun w => cross_any g h w hg hh)
  have HU := Lib.hid (fun w => isUpper_any g w)
  obtain ⟨u, hu⟩ : ∃ u, isUpper g = u := ⟨_, rfl⟩
  obtain ⟨v, hv⟩ : ∃ u, isUpper h = u := ⟨_, rfl⟩
  have Ha := fun w => isUpper_any g w
  have Hb := fun w => isUpper_any h w
  rw [hu] at Ha HU
  rw [hv] at Hb
  have HA := Lib.hid Ha
  have HB := Lib.hid Hb
  clear Ha Hb
  by_cases huv : u = v
  · have H : Hid (before g h = decide (0 < cross g h)) := by unfold Hid before; rw [hu, hv, huv]; simp
    clear hu hv
    subst huv
    go_enter Tryz.func264, Tryz.ntmps264
    go_wp2_with fail
    have hcur := Ext.refl ((w.alloc (.cells #[.int .i64 g.A, .int .i64 g.B, .int .i64 g.C] 116)).alloc (.cells #[.int .i64 h.A, .int .i64 h.B, .int .i64 h.C] 116))
    go_region_held3 (fun w' => w'.cell? ⟨w.heap.size, 0, none⟩ = some (.int .i64 g.A) ∧ w'.cell? ⟨w.heap.size, 1, none⟩ = some (.int .i64 g.B) ∧ w'.cell? ⟨w.heap.size, 2, none⟩ = some (.int .i64 g.C) ∧ w'.cell? ⟨w.heap.size + 1, 0, none⟩ = some (.int .i64 h.A) ∧ w'.cell? ⟨w.heap.size + 1, 1, none⟩ = some (.int .i64 h.B) ∧ w'.cell? ⟨w.heap.size + 1, 2, none⟩ = some (.int .i64 h.C))
      (go_keep)
      (first
        | (go_at_call 309; (with_reducible refine (HA.out _).mono ?_); rintro e w9 ⟨rfl, hx9⟩; replace hcur := Ext.trans (by first | exact hcur | exact hcur.drew | exact hcur.alloc _ | exact (hcur.alloc _).drew) hx9; have c9bG := fun o => (bG.ext hcur).cell o; have c9bH := fun o => (bH.ext hcur).cell o)
        | (go_at_call 309; (with_reducible refine (HB.out _).mono ?_); rintro e w9 ⟨rfl, hx9⟩; replace hcur := Ext.trans (by first | exact hcur | exact hcur.drew | exact hcur.alloc _ | exact (hcur.alloc _).drew) hx9; have c9bG := fun o => (bG.ext hcur).cell o; have c9bH := fun o => (bH.ext hcur).cell o))
    all_goals
      replace bG := bG.ext hcur
      replace bH := bH.ext hcur
      have cG := fun o => bG.cell o
      have cH := fun o => bH.cell o
      go_wp2_with fail
      refine (HC.out _).mono ?_
      rintro e w3 ⟨rfl, hx3⟩
      go_wp2
      go_ret
      exact ⟨ret_bool H.out.symm, (hx.trans hcur).trans hx3⟩
  · have H : Hid (before g h = u) := by unfold Hid before; rw [hu, hv]; simp [huv]
    have hne : (u == v) = false := by simpa using huv
    have hne2 : (u != v) = true := by simpa using huv
    clear hu hv huv
    go_enter Tryz.func264, Tryz.ntmps264
    go_wp2_with fail
    have hcur := Ext.refl ((w.alloc (.cells #[.int .i64 g.A, .int .i64 g.B, .int .i64 g.C] 116)).alloc (.cells #[.int .i64 h.A, .int .i64 h.B, .int .i64 h.C] 116))
    go_region_held3 (fun w' => w'.cell? ⟨w.heap.size, 0, none⟩ = some (.int .i64 g.A) ∧ w'.cell? ⟨w.heap.size, 1, none⟩ = some (.int .i64 g.B) ∧ w'.cell? ⟨w.heap.size, 2, none⟩ = some (.int .i64 g.C) ∧ w'.cell? ⟨w.heap.size + 1, 0, none⟩ = some (.int .i64 h.A) ∧ w'.cell? ⟨w.heap.size + 1, 1, none⟩ = some (.int .i64 h.B) ∧ w'.cell? ⟨w.heap.size + 1, 2, none⟩ = some (.int .i64 h.C))
      (go_keep)
      (first
        | (go_at_call 309; (with_reducible refine (HA.out _).mono ?_); rintro e w9 ⟨rfl, hx9⟩; replace hcur := Ext.trans (by first | exact hcur | exact hcur.drew | exact hcur.alloc _ | exact (hcur.alloc _).drew) hx9; have c9bG := fun o => (bG.ext hcur).cell o; have c9bH := fun o => (bH.ext hcur).cell o)
        | (go_at_call 309; (with_reducible refine (HB.out _).mono ?_); rintro e w9 ⟨rfl, hx9⟩; replace hcur := Ext.trans (by first | exact hcur | exact hcur.drew | exact hcur.alloc _ | exact (hcur.alloc _).drew) hx9; have c9bG := fun o => (bG.ext hcur).cell o; have c9bH := fun o => (bH.ext hcur).cell o))
    all_goals
      replace bG := bG.ext hcur
      have cG := fun o => bG.cell o
      go_wp2_with fail
      refine (HU.out _).mono ?_
      rintro e w3 ⟨rfl, hx3⟩
      go_wp2
      go_ret
      exact ⟨ret_bool H.out.symm, (hx.trans hcur).trans hx3⟩
set_option maxHeartbeats 1000000 in
theorem sameDirection_any (g h : Half) (w : World) (hg : SmallH g) (hh : SmallH h) :
    Calls Tryz.prog 265 #[.agg #[.int .i64 g.A, .int .i64 g.B, .int .i64 g.C], .agg #[.int .i64 h.A, .int .i64 h.B, .int .i64 h.C]] w fun e w' => e = .returned (.bool (sameDir g h)) ∧ Ext w w' := by
  have hx : Ext w ((w.alloc (.cells #[.int .i64 g.A, .int .i64 g.B, .int .i64 g.C] 116)).alloc (.cells #[.int .i64 h.A, .int .i64 h.B, .int .i64 h.C] 116)) := ((Ext.refl w).alloc _).alloc _
  have bG := (Blk.new w 116 #[.int .i64 g.A, .int .i64 g.B, .int .i64 g.C]).alloc (.cells #[.int .i64 h.A, .int .i64 h.B, .int .i64 h.C] 116)
  have bH := Blk.new (w.alloc (.cells #[.int .i64 g.A, .int .i64 g.B, .int .i64 g.C] 116)) 116 #[.int .i64 h.A, .int .i64 h.B, .int .i64 h.C]
  simp only [World.size_alloc] at bH
  have Hc := fun w => cross_any g h w hg hh
  obtain ⟨d, hd⟩ : ∃ u, cross g h = u := ⟨_, rfl⟩
  obtain ⟨u, hu⟩ : ∃ u, isUpper g = u := ⟨_, rfl⟩
  obtain ⟨v, hv⟩ : ∃ u, isUpper h = u := ⟨_, rfl⟩
  have Ha := fun w => isUpper_any g w
  have Hb := fun w => isUpper_any h w
  rw [hu] at Ha
  rw [hv] at Hb
  rw [hd] at Hc
  have HA := Lib.hid Ha
  have HB := Lib.hid Hb
  have HC := Lib.hid Hc
  clear Ha Hb Hc
  have H : Hid (sameDir g h = (decide (d = 0) && (u == v))) := by unfold Hid sameDir; rw [hu, hv, hd]
  clear hu hv hd
  by_cases h0 : d = 0
  · subst h0
    have e0 : ((0 : Int) == 0) = true := rfl
    cases u <;> cases v
    all_goals
      go_enter Tryz.func265, Tryz.ntmps265
      go_wp2_with fail
      have hcur := Ext.refl ((w.alloc (.cells #[.int .i64 g.A, .int .i64 g.B, .int .i64 g.C] 116)).alloc (.cells #[.int .i64 h.A, .int .i64 h.B, .int .i64 h.C] 116))
      go_region_held3 (fun w' => w'.cell? ⟨w.heap.size, 0, none⟩ = some (.int .i64 g.A) ∧ w'.cell? ⟨w.heap.size, 1, none⟩ = some (.int .i64 g.B) ∧ w'.cell? ⟨w.heap.size, 2, none⟩ = some (.int .i64 g.C) ∧ w'.cell? ⟨w.heap.size + 1, 0, none⟩ = some (.int .i64 h.A) ∧ w'.cell? ⟨w.heap.size + 1, 1, none⟩ = some (.int .i64 h.B) ∧ w'.cell? ⟨w.heap.size + 1, 2, none⟩ = some (.int .i64 h.C))
        (go_keep)
        (first
          | (go_at_call 269; (with_reducible refine (HC.out _).mono ?_); rintro e w9 ⟨rfl, hx9⟩; replace hcur := Ext.trans (by first | exact hcur | exact hcur.drew | exact hcur.alloc _ | exact (hcur.alloc _).drew) hx9; have c9bG := fun o => (bG.ext hcur).cell o; have c9bH := fun o => (bH.ext hcur).cell o)
          | (go_at_call 309; (with_reducible refine (HA.out _).mono ?_); rintro e w9 ⟨rfl, hx9⟩; replace hcur := Ext.trans (by first | exact hcur | exact hcur.drew | exact hcur.alloc _ | exact (hcur.alloc _).drew) hx9; have c9bG := fun o => (bG.ext hcur).cell o; have c9bH := fun o => (bH.ext hcur).cell o)
          | (go_at_call 309; (with_reducible refine (HB.out _).mono ?_); rintro e w9 ⟨rfl, hx9⟩; replace hcur := Ext.trans (by first | exact hcur | exact hcur.drew | exact hcur.alloc _ | exact (hcur.alloc _).drew) hx9; have c9bG := fun o => (bG.ext hcur).cell o; have c9bH := fun o => (bH.ext hcur).cell o))
      all_goals
        go_wp2
        go_ret
        exact ⟨ret_bool H.out.symm, hx.trans hcur⟩
  · have e0 : (d == 0) = false := by simpa using h0
    have e1 : decide (d = 0) = false := by simpa using h0
    rw [e1] at H
    clear h0 e1
    have cG := fun o => bG.cell o
    have cH := fun o => bH.cell o
    go_enter Tryz.func265, Tryz.ntmps265
    go_wp2_with fail
    go_region_with ((go_at_call 269; (with_reducible refine (HC.out _).mono ?_); rintro e w1 ⟨rfl, hx1⟩))
    all_goals
      go_wp2
      go_ret
      exact ⟨ret_bool H.out.symm, hx.trans (Ext.trans (by first | exact Ext.refl _ | exact (Ext.refl _).drew) hx1)⟩
theorem size_any (h : Half) (w : World) (hh : SmallH h) :
    Calls Tryz.prog 311 #[.agg #[.int .i64 h.A, .int .i64 h.B, .int .i64 h.C]] w fun e w' => e = .returned (.int .i64 (sizeH h)) ∧ Ext w w' := by
  have hx : Ext w (w.alloc (.cells #[.int .i64 h.A, .int .i64 h.B, .int .i64 h.C] 116)) := (Ext.refl w).alloc _
  obtain ⟨a1, a2⟩ := hh.a
  obtain ⟨b1, b2⟩ := hh.b
  by_cases ha : h.A = 0
  · have ea : (h.A != 0) = false := by simpa using ha
    have H1 : Hid (sizeH h = if h.B < -h.B then -h.B else h.B) := if_neg (by simpa using ha)
    clear ha
    by_cases hb : h.B < -h.B
    · have H : Hid (sizeH h = -h.B) := by unfold Hid; rw [H1.out, if_pos hb]
      go_enter Tryz.func311, Tryz.ntmps311
      go_wp2
      go_ret
      exact ⟨ret_int H.out.symm, hx⟩
    · have H : Hid (sizeH h = h.B) := by unfold Hid; rw [H1.out, if_neg hb]
      go_enter Tryz.func311, Tryz.ntmps311
      go_wp2
      go_ret
      exact ⟨ret_int H.out.symm, hx⟩
  · have ea : (h.A != 0) = true := by simpa using ha
    have H1 : Hid (sizeH h = if h.A < -h.A then -h.A else h.A) := if_pos ha
    clear ha
    by_cases hb : h.A < -h.A
    · have H : Hid (sizeH h = -h.A) := by unfold Hid; rw [H1.out, if_pos hb]
      go_enter Tryz.func311, Tryz.ntmps311
      go_wp2
      go_ret
      exact ⟨ret_int H.out.symm, hx⟩
    · have H : Hid (sizeH h = h.A) := by unfold Hid; rw [H1.out, if_neg hb]
      go_enter Tryz.func311, Tryz.ntmps311
      go_wp2
      go_ret
      exact ⟨ret_int H.out.symm, hx⟩
theorem sizeH_bd {h : Half} (hh : SmallH h) : -50000 ≤ sizeH h ∧ sizeH h ≤ 50000 := by
  have := hh.a; have := hh.b
  unfold sizeH; split <;> split <;> omega
set_option maxHeartbeats 1000000 in
theorem leavesRoom_any (g h : Half) (w : World) (hg : SmallH g) (hh : SmallH h) :
    Calls Tryz.prog 270 #[.agg #[.int .i64 g.A, .int .i64 g.B, .int .i64 g.C], .agg #[.int .i64 h.A, .int .i64 h.B, .int .i64 h.C]] w fun e w' => e = .returned (.bool (decide (0 < room g h))) ∧ Ext w w' := by
  have hx : Ext w ((w.alloc (.cells #[.int .i64 g.A, .int .i64 g.B, .int .i64 g.C] 116)).alloc (.cells #[.int .i64 h.A, .int .i64 h.B, .int .i64 h.C] 116)) := ((Ext.refl w).alloc _).alloc _
  have bG := (Blk.new w 116 #[.int .i64 g.A, .int .i64 g.B, .int .i64 g.C]).alloc (.cells #[.int .i64 h.A, .int .i64 h.B, .int .i64 h.C] 116)
  have bH := Blk.new (w.alloc (.cells #[.int .i64 g.A, .int .i64 g.B, .int .i64 g.C] 116)) 116 #[.int .i64 h.A, .int .i64 h.B, .int .i64 h.C]
  simp only [World.size_alloc] at bH
  have HA := Lib.hid (fun w => size_any g w hg)
  have HB := Lib.hid (fun w => size_any h w hh)
  obtain ⟨p1, p2⟩ := prod_bd hg.c (sizeH_bd hh) rfl
  obtain ⟨p3, p4⟩ := prod_bd hh.c (sizeH_bd hg) rfl
  have H : Hid (decide (0 < room g h) = decide (0 < g.C * sizeH h + h.C * sizeH g)) := rfl
  have l1 : IntKind.i64.wrap (g.C * sizeH h) = g.C * sizeH h := IntWalk.i64_in _ (by omega)
  have l2 : IntKind.i64.wrap (h.C * sizeH g) = h.C * sizeH g := IntWalk.i64_in _ (by omega)
  have l3 : IntKind.i64.wrap (g.C * sizeH h + h.C * sizeH g) = g.C * sizeH h + h.C * sizeH g := IntWalk.i64_in _ (by omega)
  clear p1 p2 p3 p4
  go_enter Tryz.func270, Tryz.ntmps270
  go_wp2_with fail
  have hcur := Ext.refl ((w.alloc (.cells #[.int .i64 g.A, .int .i64 g.B, .int .i64 g.C] 116)).alloc (.cells #[.int .i64 h.A, .int .i64 h.B, .int .i64 h.C] 116))
  go_region_held3 (fun w' => w'.cell? ⟨w.heap.size, 0, none⟩ = some (.int .i64 g.A) ∧ w'.cell? ⟨w.heap.size, 1, none⟩ = some (.int .i64 g.B) ∧ w'.cell? ⟨w.heap.size, 2, none⟩ = some (.int .i64 g.C) ∧ w'.cell? ⟨w.heap.size + 1, 0, none⟩ = some (.int .i64 h.A) ∧ w'.cell? ⟨w.heap.size + 1, 1, none⟩ = some (.int .i64 h.B) ∧ w'.cell? ⟨w.heap.size + 1, 2, none⟩ = some (.int .i64 h.C))
    (go_keep)
    (first
      | (go_at_call 311; (with_reducible refine (HA.out _).mono ?_); rintro e w9 ⟨rfl, hx9⟩; replace hcur := Ext.trans (by first | exact hcur | exact hcur.drew | exact hcur.alloc _ | exact (hcur.alloc _).drew) hx9; have c9bG := fun o => (bG.ext hcur).cell o; have c9bH := fun o => (bH.ext hcur).cell o)
      | (go_at_call 311; (with_reducible refine (HB.out _).mono ?_); rintro e w9 ⟨rfl, hx9⟩; replace hcur := Ext.trans (by first | exact hcur | exact hcur.drew | exact hcur.alloc _ | exact (hcur.alloc _).drew) hx9; have c9bG := fun o => (bG.ext hcur).cell o; have c9bH := fun o => (bH.ext hcur).cell o))
  all_goals
    go_wp2
    go_ret
    exact ⟨ret_bool H.out.symm, hx.trans hcur⟩
set_option maxHeartbeats 1000000 in
theorem implSameDirection_any (g h : Half) (w : World) (hg : halfOk g = true) (hh : halfOk h = true) :
    Calls Tryz.prog 310 #[.agg #[.int .i64 g.A, .int .i64 g.B, .int .i64 g.C], .agg #[.int .i64 h.A, .int .i64 h.B, .int .i64 h.C]] w fun e w' => e = .returned (.bool (sameDir g h)) ∧ Ext w w' := by
  have hx : Ext w ((w.alloc (.cells #[.int .i64 g.A, .int .i64 g.B, .int .i64 g.C] 116)).alloc (.cells #[.int .i64 h.A, .int .i64 h.B, .int .i64 h.C] 116)) := ((Ext.refl w).alloc _).alloc _
  have bG := (Blk.new w 116 #[.int .i64 g.A, .int .i64 g.B, .int .i64 g.C]).alloc (.cells #[.int .i64 h.A, .int .i64 h.B, .int .i64 h.C] 116)
  have bH := Blk.new (w.alloc (.cells #[.int .i64 g.A, .int .i64 g.B, .int .i64 g.C] 116)) 116 #[.int .i64 h.A, .int .i64 h.B, .int .i64 h.C]
  simp only [World.size_alloc] at bH
  have sG := small_ok hg
  have sH := small_ok hh
  obtain ⟨i1, i2, i3⟩ := sG.i64
  obtain ⟨j1, j2, j3⟩ := sH.i64
  go_enter Tryz.func310, Tryz.ntmps310
  go_wp2_with fail
  refine (implHalfOk_any g.A g.B g.C _ i1 i2 i3).mono ?_
  rintro e w1 ⟨rfl, hx1⟩
  replace hx := hx.trans hx1
  replace bG := bG.ext hx1
  replace bH := bH.ext hx1
  have cbG_7 := fun o => bG.cell o
  have cbH_8 := fun o => bH.cell o
  rw [show halfOk ⟨g.A, g.B, g.C⟩ = true from hg]
  go_wp2_with fail
  refine (implHalfOk_any h.A h.B h.C _ j1 j2 j3).mono ?_
  rintro e w2 ⟨rfl, hx2⟩
  replace hx := hx.trans hx2
  replace bG := bG.ext hx2
  replace bH := bH.ext hx2
  have cbG_9 := fun o => bG.cell o
  have cbH_10 := fun o => bH.cell o
  rw [show halfOk ⟨h.A, h.B, h.C⟩ = true from hh]
  go_wp2_with fail
  refine (sameDirection_any g h _ sG sH).mono ?_
  rintro e w3 ⟨rfl, hx3⟩
  replace hx := hx.trans hx3
  replace bG := bG.ext hx3
  replace bH := bH.ext hx3
  have cbG_11 := fun o => bG.cell o
  have cbH_12 := fun o => bH.cell o
  go_wp2
  go_ret
  exact ⟨rfl, hx⟩
set_option maxHeartbeats 2000000 in
theorem implTighter_any (g h : Half) (w : World) (hg : halfOk g = true) (hh : halfOk h = true) (hs : sameDir g h = true) :
    Calls Tryz.prog 266 #[.agg #[.int .i64 g.A, .int .i64 g.B, .int .i64 g.C], .agg #[.int .i64 h.A, .int .i64 h.B, .int .i64 h.C]] w fun e w' => e = .returned (.agg #[.int .i64 (tighter g h).A, .int .i64 (tighter g h).B, .int .i64 (tighter g h).C]) ∧ Ext w w' := by
  have hx : Ext w (((w.alloc (.cells #[.int .i64 g.A, .int .i64 g.B, .int .i64 g.C] 116)).alloc (.cells #[.int .i64 h.A, .int .i64 h.B, .int .i64 h.C] 116)).alloc (.cells #[.int .i64 0, .int .i64 0, .int .i64 0] 116)) := (((Ext.refl w).alloc _).alloc _).alloc _
  have bG := ((Blk.new w 116 #[.int .i64 g.A, .int .i64 g.B, .int .i64 g.C]).alloc (.cells #[.int .i64 h.A, .int .i64 h.B, .int .i64 h.C] 116)).alloc (.cells #[.int .i64 0, .int .i64 0, .int .i64 0] 116)
  have bH := (Blk.new (w.alloc (.cells #[.int .i64 g.A, .int .i64 g.B, .int .i64 g.C] 116)) 116 #[.int .i64 h.A, .int .i64 h.B, .int .i64 h.C]).alloc (.cells #[.int .i64 0, .int .i64 0, .int .i64 0] 116)
  have b0 := Blk.new ((w.alloc (.cells #[.int .i64 g.A, .int .i64 g.B, .int .i64 g.C] 116)).alloc (.cells #[.int .i64 h.A, .int .i64 h.B, .int .i64 h.C] 116)) 116 #[.int .i64 0, .int .i64 0, .int .i64 0]
  simp only [World.size_alloc] at bH b0
  have sG := small_ok hg
  have sH := small_ok hh
  have HA := Lib.hid (fun w => size_any g w sG)
  have HB := Lib.hid (fun w => size_any h w sH)
  obtain ⟨p1, p2⟩ := prod_bd sG.c (sizeH_bd sH) rfl
  obtain ⟨p3, p4⟩ := prod_bd sH.c (sizeH_bd sG) rfl
  have HS := Lib.hid (fun w => implSameDirection_any g h w hg hh)
  rw [hs] at HS
  have l1 : IntKind.i64.wrap (g.C * sizeH h) = g.C * sizeH h := IntWalk.i64_in _ (by omega)
  have l2 : IntKind.i64.wrap (h.C * sizeH g) = h.C * sizeH g := IntWalk.i64_in _ (by omega)
  clear p1 p2 p3 p4
  clear hs hg hh sG sH
  by_cases hc : h.C * sizeH g < g.C * sizeH h
  · have H : Hid (tighter g h = h) := if_pos hc
    go_enter Tryz.func266, Tryz.ntmps266
    go_wp2_with fail
    refine (HS.out _).mono ?_
    rintro e w1 ⟨rfl, hx1⟩
    replace hx := hx.trans hx1
    replace bG := bG.ext hx1
    replace bH := bH.ext hx1
    replace b0 := b0.ext hx1
    have cbG_13 := fun o => bG.cell o
    have cbH_14 := fun o => bH.cell o
    have cb0_15 := fun o => b0.cell o
    have fb0_15 := fun o => b0.frozen o
    go_wp2_with fail
    have hcur := Ext.refl (w1)
    go_region_held3 (fun w' => w'.cell? ⟨w.heap.size, 0, none⟩ = some (.int .i64 g.A) ∧ w'.cell? ⟨w.heap.size, 1, none⟩ = some (.int .i64 g.B) ∧ w'.cell? ⟨w.heap.size, 2, none⟩ = some (.int .i64 g.C) ∧ w'.cell? ⟨w.heap.size + 1, 0, none⟩ = some (.int .i64 h.A) ∧ w'.cell? ⟨w.heap.size + 1, 1, none⟩ = some (.int .i64 h.B) ∧ w'.cell? ⟨w.heap.size + 1, 2, none⟩ = some (.int .i64 h.C))
      (go_keep)
      (first
        | (go_at_call 311; (with_reducible refine (HA.out _).mono ?_); rintro e w9 ⟨rfl, hx9⟩; replace hcur := Ext.trans (by first | exact hcur | exact hcur.drew | exact hcur.alloc _ | exact (hcur.alloc _).drew) hx9; have c9bG := fun o => (bG.ext hcur).cell o; have c9bH := fun o => (bH.ext hcur).cell o)
        | (go_at_call 311; (with_reducible refine (HB.out _).mono ?_); rintro e w9 ⟨rfl, hx9⟩; replace hcur := Ext.trans (by first | exact hcur | exact hcur.drew | exact hcur.alloc _ | exact (hcur.alloc _).drew) hx9; have c9bG := fun o => (bG.ext hcur).cell o; have c9bH := fun o => (bH.ext hcur).cell o))
    all_goals
      replace hx := hx.trans hcur
      replace bG := bG.ext hcur
      replace bH := bH.ext hcur
      replace b0 := b0.ext hcur
      have cbG_16 := fun o => bG.cell o
      have cbH_17 := fun o => bH.cell o
      have cb0_18 := fun o => b0.cell o
      have fb0_18 := fun o => b0.frozen o
      have hlt := b0.lt
      go_wp2
      have c0 := fun o => b0.cell o
      refine bodyPost_ret (v := .agg #[.int .i64 h.A, .int .i64 h.B, .int .i64 h.C]) (by simp [results, Tryz.results266, go_sem, c0]) rfl ⟨by rw [H.out], ?_⟩
      exact ((hx.setCell (by first | omega | (simp <;> omega)) _).setCell (by first | omega | (simp <;> omega)) _).setCell (by first | omega | (simp <;> omega)) _
  · have H : Hid (tighter g h = g) := if_neg hc
    go_enter Tryz.func266, Tryz.ntmps266
    go_wp2_with fail
    refine (HS.out _).mono ?_
    rintro e w1 ⟨rfl, hx1⟩
    replace hx := hx.trans hx1
    replace bG := bG.ext hx1
    replace bH := bH.ext hx1
    replace b0 := b0.ext hx1
    have cbG_19 := fun o => bG.cell o
    have cbH_20 := fun o => bH.cell o
    have cb0_21 := fun o => b0.cell o
    have fb0_21 := fun o => b0.frozen o
    go_wp2_with fail
    have hcur := Ext.refl (w1)
    go_region_held3 (fun w' => w'.cell? ⟨w.heap.size, 0, none⟩ = some (.int .i64 g.A) ∧ w'.cell? ⟨w.heap.size, 1, none⟩ = some (.int .i64 g.B) ∧ w'.cell? ⟨w.heap.size, 2, none⟩ = some (.int .i64 g.C) ∧ w'.cell? ⟨w.heap.size + 1, 0, none⟩ = some (.int .i64 h.A) ∧ w'.cell? ⟨w.heap.size + 1, 1, none⟩ = some (.int .i64 h.B) ∧ w'.cell? ⟨w.heap.size + 1, 2, none⟩ = some (.int .i64 h.C))
      (go_keep)
      (first
        | (go_at_call 311; (with_reducible refine (HA.out _).mono ?_); rintro e w9 ⟨rfl, hx9⟩; replace hcur := Ext.trans (by first | exact hcur | exact hcur.drew | exact hcur.alloc _ | exact (hcur.alloc _).drew) hx9; have c9bG := fun o => (bG.ext hcur).cell o; have c9bH := fun o => (bH.ext hcur).cell o)
        | (go_at_call 311; (with_reducible refine (HB.out _).mono ?_); rintro e w9 ⟨rfl, hx9⟩; replace hcur := Ext.trans (by first | exact hcur | exact hcur.drew | exact hcur.alloc _ | exact (hcur.alloc _).drew) hx9; have c9bG := fun o => (bG.ext hcur).cell o; have c9bH := fun o => (bH.ext hcur).cell o))
    all_goals
      replace hx := hx.trans hcur
      replace bG := bG.ext hcur
      replace bH := bH.ext hcur
      replace b0 := b0.ext hcur
      have cbG_22 := fun o => bG.cell o
      have cbH_23 := fun o => bH.cell o
      have cb0_24 := fun o => b0.cell o
      have fb0_24 := fun o => b0.frozen o
      have hlt := b0.lt
      go_wp2
      have c0 := fun o => b0.cell o
      refine bodyPost_ret (v := .agg #[.int .i64 g.A, .int .i64 g.B, .int .i64 g.C]) (by simp [results, Tryz.results266, go_sem, c0]) rfl ⟨by rw [H.out], ?_⟩
      exact ((hx.setCell (by first | omega | (simp <;> omega)) _).setCell (by first | omega | (simp <;> omega)) _).setCell (by first | omega | (simp <;> omega)) _
end Go.Proofs.YtfnmbpjkjajpcaaGreatDoor
namespace Go.Proofs.YtfnmbpjkjajpcaaGreatDoor
open Go.ChangeShapes Go.WideShapes Go.ChangeAt Go.RowKit
set_option linter.unusedVariables false
set_option maxRecDepth 100000
attribute [local go_sem ↓] Go.wp_at_zero Go.wp_at_succ
end Go.Proofs.YtfnmbpjkjajpcaaGreatDoor
namespace Go.Proofs.YtfnmbpjkjajpcaaGreatDoor
open Go.ChangeShapes Go.WideShapes Go.ChangeAt Go.RowKit
set_option linter.unusedVariables false
def spotOk (s : Spot) : Bool := inR s.D 1 5000000000 && inR s.X (-(1000 * s.D)) (1000 * s.D) && inR s.Y (-(1000 * s.D)) (1000 * s.D) && decide (Nat.gcd (Int.gcd s.X s.Y) s.D.natAbs = 1)
theorem spotOk_bd {s : Spot} (h : spotOk s = true) : 1 ≤ s.D ∧ s.D ≤ 5000000000 ∧ -(1000 * s.D) ≤ s.X ∧ s.X ≤ 1000 * s.D ∧ -(1000 * s.D) ≤ s.Y ∧ s.Y ≤ 1000 * s.D := by
  simp only [spotOk, inR, Bool.and_eq_true, decide_eq_true_eq] at h
  omega
theorem spotOk_D {a b c : Int} (h : inR c 1 5000000000 = false) : spotOk ⟨a, b, c⟩ = false := by unfold spotOk; simp only [h]; rfl
theorem spotOk_X {a b c M : Int} (hM : 1000 * c = M) (h : inR a (-M) M = false) : spotOk ⟨a, b, c⟩ = false := by subst hM; unfold spotOk; simp only [h]; simp
theorem spotOk_Y {a b c M : Int} (hM : 1000 * c = M) (h : inR b (-M) M = false) : spotOk ⟨a, b, c⟩ = false := by subst hM; unfold spotOk; simp only [h]; simp
theorem spotOk_g {a b c M : Int} (hM : 1000 * c = M) (hD : inR c 1 5000000000 = true) (hX : inR a (-M) M = true) (hY : inR b (-M) M = true) : spotOk ⟨a, b, c⟩ = decide (Nat.gcd (Int.gcd a b) c.natAbs = 1) := by
  subst hM
  unfold spotOk
  rw [hD, hX, hY]
  rfl
set_option maxRecDepth 100000 in
set_option maxHeartbeats 1000000 in
theorem implSpotOk_any (a b c : Int) (w : World) (ha : I64 a) (hb : I64 b) (hc : I64 c) :
    Calls Tryz.prog 246 #[.agg #[.int .i64 a, .int .i64 b, .int .i64 c]] w fun e w' => e = .returned (.bool (spotOk ⟨a, b, c⟩)) ∧ Ext w w' := by
  have hx : Ext w (w.alloc (.cells #[.int .i64 a, .int .i64 b, .int .i64 c] 38)) := (Ext.refl w).alloc _
  rcases Bool.eq_false_or_eq_true (inR c 1 5000000000) with hD | hD
  rotate_left
  · have H := Lib.hid (spotOk_D (a := a) (b := b) hD)
    go_enter Tryz.func246, Tryz.ntmps246
    go_wp2_with fail
    refine (inRange_any _ _ _ _).mono ?_
    rintro e w' ⟨rfl, rfl⟩
    rw [hD]
    go_wp2
    go_ret
    exact ⟨ret_bool H.out.symm, hx⟩
  have hD' : 1 ≤ c ∧ c ≤ 5000000000 := by simpa [inR] using hD
  obtain ⟨hc1, hc2⟩ := hD'
  rcases Bool.eq_false_or_eq_true (inR a (-(1000 * c)) (1000 * c)) with hX | hX
  rotate_left
  · have H := Lib.hid (spotOk_X (b := b) rfl hX)
    go_enter Tryz.func246, Tryz.ntmps246
    go_wp2_with fail
    refine (inRange_any _ _ _ _).mono ?_
    rintro e w' ⟨rfl, rfl⟩
    rw [hD]
    go_wp2_with fail
    refine (inRange_any _ _ _ _).mono ?_
    rintro e w' ⟨rfl, rfl⟩
    rw [show inR a (-1000 * c) (1000 * c) = false from by rw [show -1000 * c = -(1000 * c) from by omega]; exact hX]
    go_wp2
    go_ret
    exact ⟨ret_bool H.out.symm, hx⟩
  rcases Bool.eq_false_or_eq_true (inR b (-(1000 * c)) (1000 * c)) with hY | hY
  rotate_left
  · have H := Lib.hid (spotOk_Y (a := a) rfl hY)
    go_enter Tryz.func246, Tryz.ntmps246
    go_wp2_with fail
    refine (inRange_any _ _ _ _).mono ?_
    rintro e w' ⟨rfl, rfl⟩
    rw [hD]
    go_wp2_with fail
    refine (inRange_any _ _ _ _).mono ?_
    rintro e w' ⟨rfl, rfl⟩
    rw [show inR a (-1000 * c) (1000 * c) = true from by rw [show -1000 * c = -(1000 * c) from by omega]; exact hX]
    go_wp2_with fail
    refine (inRange_any _ _ _ _).mono ?_
    rintro e w' ⟨rfl, rfl⟩
    rw [show inR b (-1000 * c) (1000 * c) = false from by rw [show -1000 * c = -(1000 * c) from by omega]; exact hY]
    go_wp2
    go_ret
    exact ⟨ret_bool H.out.symm, hx⟩
  have HG := Lib.hid (spotOk_g rfl hD hX hY)
  have hrow : Row ((w.alloc (.cells #[.int .i64 a, .int .i64 b, .int .i64 c] 38)).alloc (.cells #[.int .i64 a, .int .i64 b, .int .i64 c] 3)) (some ⟨w.heap.size + 1, 0, none⟩) (ints [a, b, c]) := by
    refine .inr ⟨w.heap.size + 1, 0, rfl, fun j v hj => ?_⟩
    have hb := Blk.new (w.alloc (.cells #[.int .i64 a, .int .i64 b, .int .i64 c] 38)) 3 #[.int .i64 a, .int .i64 b, .int .i64 c]
    simp only [World.size_alloc] at hb
    rw [hb.cell, Nat.zero_add]
    simpa [ints] using hj
  have HII : Hid (∀ i, (hi : i < [a, b, c].length) → I64 [a, b, c][i]) := by
    intro i hi
    match i, hi with
    | 0, _ => exact ha
    | 1, _ => exact hb
    | 2, _ => exact hc
  have HT := Lib.hid (gcdTo_three a b c)
  have HX := Lib.hid hX
  have HY := Lib.hid hY
  clear hX hY
  go_enter Tryz.func246, Tryz.ntmps246
  go_wp2_with fail
  refine (inRange_any _ _ _ _).mono ?_
  rintro e w' ⟨rfl, rfl⟩
  rw [hD]
  go_wp2_with fail
  refine (inRange_any _ _ _ _).mono ?_
  rintro e w' ⟨rfl, rfl⟩
  rw [show inR a (-1000 * c) (1000 * c) = true from by rw [show -1000 * c = -(1000 * c) from by omega]; exact HX.out]
  go_wp2_with fail
  refine (inRange_any _ _ _ _).mono ?_
  rintro e w' ⟨rfl, rfl⟩
  rw [show inR b (-1000 * c) (1000 * c) = true from by rw [show -1000 * c = -(1000 * c) from by omega]; exact HY.out]
  go_wp2_with fail
  refine (gcdOfAll_any _ 3 _ [a, b, c] _ rfl hrow (by unfold maxLen; omega) HII.out).mono ?_
  rintro e w1 ⟨rfl, hx1⟩
  rw [HT.out]
  go_wp2
  go_ret
  refine ⟨ret_bool ?_, (hx.alloc _).trans hx1⟩
  rw [HG.out]
  rw [Bool.eq_iff_iff]
  simp
  try omega
end Go.Proofs.YtfnmbpjkjajpcaaGreatDoor
namespace Go.Proofs.YtfnmbpjkjajpcaaGreatDoor
open Go.ChangeShapes Go.WideShapes Go.ChangeAt Go.RowKit
set_option linter.unusedVariables false
set_option maxRecDepth 100000
def spotOf (x y d : Int) : Spot × Bool := if 0 < d ∧ isLeastI x = false ∧ isLeastI y = false ∧ spotOk (lowSpot x y d) = true then (lowSpot x y d, true) else (⟨0, 0, 0⟩, false)
theorem spotOf_no {x y d : Int} (h : ¬ (0 < d ∧ isLeastI x = false ∧ isLeastI y = false ∧ spotOk (lowSpot x y d) = true)) : spotOf x y d = (⟨0, 0, 0⟩, false) := if_neg h
theorem spotOf_yes {x y d : Int} (h : 0 < d ∧ isLeastI x = false ∧ isLeastI y = false ∧ spotOk (lowSpot x y d) = true) : spotOf x y d = (lowSpot x y d, true) := if_pos h
theorem least_not {n : Int} (h : n ≠ -9223372036854775808) : isLeastI n = false := by unfold isLeastI; exact decide_eq_false h
theorem low_I64 {x y d : Int} (hd : 0 < d) (hx : I64 x) (hy : I64 y) (hdd : I64 d) : I64 (lowSpot x y d).X ∧ I64 (lowSpot x y d).Y ∧ I64 (lowSpot x y d).D := by
  have hg := gcd3_pos (x := x) (y := y) hd
  have key : ∀ n : Int, I64 n → I64 (n / (gcd3 x y d : Int)) := fun n hn => by
    unfold I64 at *
    have hg' : (1 : Int) ≤ (gcd3 x y d : Int) := by omega
    constructor
    · rcases Int.lt_or_le n 0 with h | h
      · have : n ≤ n / (gcd3 x y d : Int) := by
          rw [Int.le_ediv_iff_mul_le (by omega)]
          have := Int.mul_le_mul_of_nonpos_left (a := n) (Int.le_of_lt h) hg'
          omega
        omega
      · have := Int.ediv_nonneg h (show (0 : Int) ≤ (gcd3 x y d : Int) by omega); omega
    · rcases Int.lt_or_le n 0 with h | h
      · have := Int.ediv_neg_of_neg_of_pos h (show (0 : Int) < (gcd3 x y d : Int) by omega); omega
      · have := Int.ediv_le_self (a := n) (gcd3 x y d : Int) h; omega
  exact ⟨key x hx, key y hy, key d hdd⟩
end Go.Proofs.YtfnmbpjkjajpcaaGreatDoor
namespace Go.Proofs.YtfnmbpjkjajpcaaGreatDoor
open Go.ChangeShapes Go.WideShapes Go.ChangeAt Go.RowKit
set_option linter.unusedVariables false
set_option maxRecDepth 100000
structure PtB (x y d : Int) : Prop where
  x : -10000000000000 ≤ x ∧ x ≤ 10000000000000
  y : -10000000000000 ≤ y ∧ y ≤ 10000000000000
  d : 0 ≤ d ∧ d ≤ 5000000000
theorem inBox_bd {x y d : Int} (h : inBox x y d = true) : d ≠ 0 ∧ x ≤ 1000 * d ∧ -1000 * d ≤ x ∧ y ≤ 1000 * d ∧ -1000 * d ≤ y := by
  unfold inBox at h
  simpa only [Bool.and_eq_true, decide_eq_true_eq, and_assoc] using h
theorem low_ok {x y d : Int} (hp : PtB x y d) (hb : inBox x y d = true) : spotOf x y d = (lowSpot x y d, true) := by
  obtain ⟨h0, h1, h2, h3, h4⟩ := inBox_bd hb
  have hd := hp.d
  have hxx := hp.x
  have hyy := hp.y
  have hd1 : 0 < d := by omega
  refine spotOf_yes ⟨hd1, least_not (by omega), least_not (by omega), ?_⟩
  obtain ⟨k1, k2, k3⟩ := low_mul x y d
  have hg := gcd3_pos (x := x) (y := y) hd1
  have hD := low_pos (x := x) (y := y) hd1
  have hgc := low_gcd (x := x) (y := y) hd1
  generalize lowSpot x y d = s at *
  generalize gcd3 x y d = g at *
  have hg' : (0 : Int) < g := by omega
  have e1 : s.X ≤ 1000 * s.D := Int.le_of_mul_le_mul_right (a := (g : Int)) (by rw [k1, Int.mul_assoc, k3]; exact h1) hg'
  have e2 : -(1000 * s.D) ≤ s.X := Int.le_of_mul_le_mul_right (a := (g : Int)) (by rw [k1, Int.neg_mul, Int.mul_assoc, k3]; omega) hg'
  have e3 : s.Y ≤ 1000 * s.D := Int.le_of_mul_le_mul_right (a := (g : Int)) (by rw [k2, Int.mul_assoc, k3]; exact h3) hg'
  have e4 : -(1000 * s.D) ≤ s.Y := Int.le_of_mul_le_mul_right (a := (g : Int)) (by rw [k2, Int.neg_mul, Int.mul_assoc, k3]; omega) hg'
  have e5 : s.D ≤ d := by
    have := Int.mul_le_mul_of_nonneg_left (show (1 : Int) ≤ g by omega) (Int.le_of_lt hD)
    rw [Int.mul_one, k3] at this
    exact this
  unfold spotOk inR
  unfold gcd3 at hgc
  simp only [Bool.and_eq_true, decide_eq_true_eq]
  exact ⟨⟨⟨⟨by omega, by omega⟩, by omega, e1⟩, by omega, e3⟩, hgc⟩
def FirstIn (S : List Half) (k : Half) (m : Nat) (x y d : Int) : Prop :=
  (x = 0 ∧ y = 0 ∧ d = 0 ∧ ∀ i (hi : i < S.length), i < m → insideB S k S[i] = false) ∨
  (∃ f ∈ S, insideB S k f = true ∧ x = ptX k f ∧ y = ptY k f ∧ d = frD k f ∧ ∀ i (hi : i < S.length), i < m → insideB S k S[i] = true → lowPt k f = lowPt k S[i])
theorem FirstIn.skip {S : List Half} {k : Half} {m : Nat} {x y d : Int} (h : FirstIn S k m x y d) (hm : ∀ hi : m < S.length, insideB S k S[m] = false) : FirstIn S k (m + 1) x y d := by
  rcases h with ⟨h1, h2, h3, h4⟩ | ⟨f, hf, h1, h2, h3, h4, h5⟩
  · refine .inl ⟨h1, h2, h3, fun i hi him => ?_⟩
    by_cases e : i = m
    · subst e; exact hm hi
    · exact h4 i hi (by omega)
  · refine .inr ⟨f, hf, h1, h2, h3, h4, fun i hi him hin => ?_⟩
    by_cases e : i = m
    · subst e; rw [hm hi] at hin; cases hin
    · exact h5 i hi (by omega) hin
theorem FirstIn.zero {S : List Half} {k : Half} {m : Nat} {x y d : Int} (h : FirstIn S k m x y d) (hd : d = 0) : ∀ i (hi : i < S.length), i < m → insideB S k S[i] = false := by
  rcases h with ⟨_, _, _, h4⟩ | ⟨f, hf, h1, h2, h3, h4, h5⟩
  · exact h4
  · exfalso
    unfold insideB inBox at h1
    rw [← h4, hd] at h1
    simp at h1
theorem FirstIn.first {S : List Half} {k : Half} {m : Nat} {x y d : Int} (h : FirstIn S k m x y d) (hd : d = 0) (hi : m < S.length) (hin : insideB S k S[m] = true) : FirstIn S k (m + 1) (ptX k S[m]) (ptY k S[m]) (frD k S[m]) := by
  have h4 := h.zero hd
  refine .inr ⟨S[m], List.getElem_mem hi, hin, rfl, rfl, rfl, fun i hi' him hii => ?_⟩
  by_cases e : i = m
  · subst e; rfl
  · rw [h4 i hi' (by omega)] at hii; cases hii
theorem FirstIn.same {S : List Half} {k : Half} {m : Nat} {x y d : Int} (h : FirstIn S k m x y d) (hd : d ≠ 0) (hi : m < S.length) (hq : lowSpot x y d = lowPt k S[m]) : FirstIn S k (m + 1) x y d := by
  rcases h with ⟨_, _, h3, _⟩ | ⟨f, hf, h1, h2, h3, h4, h5⟩
  · exact absurd h3 hd
  · refine .inr ⟨f, hf, h1, h2, h3, h4, fun i hi' him hii => ?_⟩
    by_cases e : i = m
    · subst e; rw [← hq, h2, h3, h4]; rfl
    · exact h5 i hi' (by omega) hii
theorem FirstIn.yes {S : List Half} (hS : Good S) {k : Half} (hk : k ∈ S) {m : Nat} {x y d : Int} (h : FirstIn S k m x y d) (hd : d ≠ 0) (hi : m < S.length) (hin : insideB S k S[m] = true) (hq : lowSpot x y d ≠ lowPt k S[m]) : edgeSb S k = true := by
  rcases h with ⟨_, _, h3, _⟩ | ⟨f, hf, h1, h2, h3, h4, h5⟩
  · exact absurd h3 hd
  · refine edge_yes hS hk hf (List.getElem_mem hi) h1 hin (fun e => hq ?_)
    rw [← e, h2, h3, h4]; rfl
theorem FirstIn.box {S : List Half} {k : Half} {m : Nat} {x y d : Int} (h : FirstIn S k m x y d) (hd : d ≠ 0) : inBox x y d = true := by
  rcases h with ⟨_, _, h3, _⟩ | ⟨f, hf, h1, h2, h3, h4, h5⟩
  · exact absurd h3 hd
  · unfold insideB at h1
    rw [Bool.and_eq_true] at h1
    rw [h2, h3, h4]; exact h1.1
theorem ptB_of {k i : Half} (hk : SmallH k) (hi : SmallH i) : PtB (ptX k i) (ptY k i) (frD k i) := by
  obtain ⟨h1, h2, h3⟩ := pt_bd hk hi
  exact ⟨h1, h2, h3⟩
end Go.Proofs.YtfnmbpjkjajpcaaGreatDoor
