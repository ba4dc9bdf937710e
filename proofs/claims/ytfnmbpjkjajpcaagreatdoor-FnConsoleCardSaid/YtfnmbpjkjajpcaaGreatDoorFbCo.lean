/- Contracts of corners: divided, SpotOf, CrossingOf and corners of the program; l04Cross and l05Corners of the reference. -/
import Derived.Test.YtfnmbpjkjajpcaaGreatDoorFbJz
import Derived.Test.YtfnmbpjkjajpcaaGreatDoorFbAp
import Derived.Test.YtfnmbpjkjajpcaaGreatDoorFbIv
namespace Go.Proofs.YtfnmbpjkjajpcaaGreatDoor
open Go.ChangeShapes Go.WideShapes Go.ChangeAt Go.RowKit
set_option linter.unusedVariables false
set_option maxRecDepth 100000
def crossS (g h : Half) : Spot × Bool := spotOf (ptX g h) (ptY g h) (frD g h)
theorem div_same {n : Int} {g : Nat} (hg : 0 < g) (h : (g : Int) ∣ n) : (if n < 0 then -((n.natAbs / g : Nat) : Int) else ((n.natAbs / g : Nat) : Int)) = n / (g : Int) := by
  obtain ⟨k, rfl⟩ := h
  rw [Int.mul_ediv_cancel_left _ (by omega)]
  have e : ((g : Int) * k).natAbs / g = k.natAbs := by rw [Int.natAbs_mul, Int.natAbs_natCast]; exact Nat.mul_div_cancel_left _ hg
  rw [e]
  split
  · rename_i hn
    have : k < 0 := by
      rcases Int.lt_or_le k 0 with h | h
      · exact h
      · exact absurd (Int.mul_nonneg (show (0 : Int) ≤ (g : Int) by omega) h) (by omega)
    omega
  · rename_i hn
    have : 0 ≤ k := by
      rcases Int.lt_or_le k 0 with h | h
      · exact absurd (Int.mul_neg_of_pos_of_neg (show (0 : Int) < (g : Int) by omega) h) (by omega)
      · exact h
    omega
set_option maxHeartbeats 1000000 in
theorem divided_any (n : Int) (g : Nat) (w : World) (hn : I64 n) (hl : isLeastI n = false) (hg : 0 < g) (hd : (g : Int) ∣ n) :
    Calls Tryz.prog 176 #[.int .i64 n, .int .u64 (g : Int)] w fun e w' => e = .returned (.int .i64 (n / (g : Int))) ∧ Ext w w' := by
  have H := Lib.hid (div_same hg hd)
  have hn0 := hn
  unfold I64 at hn0
  have hnl : ¬ n = -9223372036854775808 := by unfold isLeastI at hl; simpa using hl
  obtain ⟨t, ht⟩ : ∃ t, n.natAbs / g = t := ⟨_, rfl⟩
  have hq1 : t ≤ n.natAbs := by rw [← ht]; exact Nat.div_le_self _ _
  have hd1 : IntKind.u64.wrap ((n.natAbs : Int) / (g : Int)) = (t : Int) := by rw [← ht]; exact quo_u64 (by omega)
  rw [ht] at H
  have hgz : ((g : Int) == 0) = false := by rw [beq_eq_false_iff_ne]; omega
  have hgz2 : ¬ (g : Int) = 0 := by omega
  have hw1 : IntKind.i64.wrap (t : Int) = (t : Int) := IntWalk.i64_in _ (by omega)
  have hw3 : IntKind.i64.wrap (-(t : Int)) = -(t : Int) := IntWalk.i64_in _ (by omega)
  have HI := Lib.hid hn
  clear ht hd hn hl
  go_enter Tryz.func176, Tryz.ntmps176
  go_wp2_with fail
  refine (magnitude_any _ _ HI.out).mono ?_
  rintro e w' ⟨rfl, rfl⟩
  by_cases s1 : n < 0
  · have H2 : Hid (-(t : Int) = n / (g : Int)) := by have := H.out; rw [if_pos s1] at this; exact this
    go_wp2
    go_ret
    exact ⟨ret_int H2.out, Ext.refl _⟩
  · have H2 : Hid ((t : Int) = n / (g : Int)) := by have := H.out; rw [if_neg s1] at this; exact this
    go_wp2
    go_ret
    exact ⟨ret_int H2.out, Ext.refl _⟩
set_option maxHeartbeats 4000000 in
theorem implSpotOf_any (x y d : Int) (w : World) (hx : I64 x) (hy : I64 y) (hd : I64 d) :
    Calls Tryz.prog 182 #[.int .i64 x, .int .i64 y, .int .i64 d] w fun e w' => e = .returned (.tuple #[.agg #[.int .i64 (spotOf x y d).1.X, .int .i64 (spotOf x y d).1.Y, .int .i64 (spotOf x y d).1.D], .bool (spotOf x y d).2]) ∧ Ext w w' := by
  have Hx := Lib.hid hx
  have Hy := Lib.hid hy
  have Hd := Lib.hid hd
  have hE : Ext w (w.alloc (.cells #[.int .i64 0, .int .i64 0, .int .i64 0] 38)) := (Ext.refl w).alloc _
  have b0 := Blk.new w 38 #[.int .i64 0, .int .i64 0, .int .i64 0]
  clear hx hy hd
  by_cases h0 : d ≤ 0
  · have H := Lib.hid (spotOf_no (x := x) (y := y) (d := d) (fun h => by omega))
    go_enter Tryz.func182, Tryz.ntmps182
    go_wp2
    have c0 := fun o => b0.cell o
    refine bodyPost_ret (v := .tuple #[.agg #[.int .i64 0, .int .i64 0, .int .i64 0], .bool false]) (by simp [results, Tryz.results182, go_sem, c0]) rfl ⟨by rw [H.out], ?_⟩
    all_goals (repeat (first | exact hE | refine Ext.alloc ?_ _ | refine Ext.setCell ?_ (by first | omega | (simp <;> omega)) _ | refine Ext.drewN ?_ _ | refine Ext.drew ?_))
  rcases Bool.eq_false_or_eq_true (isLeastI x) with hlx | hlx
  · have H := Lib.hid (spotOf_no (x := x) (y := y) (d := d) (fun h => by rw [hlx] at h; cases h.2.1))
    have HL := Lib.hid hlx
    clear hlx
    go_enter Tryz.func182, Tryz.ntmps182
    go_wp2_with fail
    refine (isLeast_any _ _ Hx.out).mono ?_
    rintro e w' ⟨rfl, rfl⟩
    rw [HL.out]
    go_wp2
    have c0 := fun o => b0.cell o
    refine bodyPost_ret (v := .tuple #[.agg #[.int .i64 0, .int .i64 0, .int .i64 0], .bool false]) (by simp [results, Tryz.results182, go_sem, c0]) rfl ⟨by rw [H.out], ?_⟩
    all_goals (repeat (first | exact hE | refine Ext.alloc ?_ _ | refine Ext.setCell ?_ (by first | omega | (simp <;> omega)) _ | refine Ext.drewN ?_ _ | refine Ext.drew ?_))
  rcases Bool.eq_false_or_eq_true (isLeastI y) with hly | hly
  · have H := Lib.hid (spotOf_no (x := x) (y := y) (d := d) (fun h => by rw [hly] at h; cases h.2.2.1))
    have HL := Lib.hid hlx
    have HL2 := Lib.hid hly
    clear hlx hly
    go_enter Tryz.func182, Tryz.ntmps182
    go_wp2_with fail
    refine (isLeast_any _ _ Hx.out).mono ?_
    rintro e w' ⟨rfl, rfl⟩
    rw [HL.out]
    go_wp2_with fail
    refine (isLeast_any _ _ Hy.out).mono ?_
    rintro e w' ⟨rfl, rfl⟩
    rw [HL2.out]
    go_wp2
    have c0 := fun o => b0.cell o
    refine bodyPost_ret (v := .tuple #[.agg #[.int .i64 0, .int .i64 0, .int .i64 0], .bool false]) (by simp [results, Tryz.results182, go_sem, c0]) rfl ⟨by rw [H.out], ?_⟩
    all_goals (repeat (first | exact hE | refine Ext.alloc ?_ _ | refine Ext.setCell ?_ (by first | omega | (simp <;> omega)) _ | refine Ext.drewN ?_ _ | refine Ext.drew ?_))
  have HL := Lib.hid hlx
  have HL2 := Lib.hid hly
  have HL3 : Hid (isLeastI d = false) := least_not (by omega)
  have hgp := gcd3_pos (x := x) (y := y) (d := d) (by omega)
  obtain ⟨v1, v2, v3⟩ := gcd3_dvd x y d
  obtain ⟨l1, l2, l3⟩ := low_I64 (x := x) (y := y) (d := d) (by omega) Hx.out Hy.out Hd.out
  have HY := Lib.hid (fun h => spotOf_yes (x := x) (y := y) (d := d) ⟨by omega, hlx, hly, h⟩)
  have HNo := Lib.hid (fun (h : spotOk (lowSpot x y d) = false) => spotOf_no (x := x) (y := y) (d := d) (fun e => by rw [h] at e; cases e.2.2.2))
  have HS := Lib.hid (fun w => implSpotOk_any (lowSpot x y d).X (lowSpot x y d).Y (lowSpot x y d).D w l1 l2 l3)
  have HG : Hid (gcdTo [x, y, d] 3 = gcd3 x y d) := gcdTo_three x y d
  have hw1 : Hid (x / (gcd3 x y d : Int) = (lowSpot x y d).X) := rfl
  have hw2 : Hid (y / (gcd3 x y d : Int) = (lowSpot x y d).Y) := rfl
  have hw3 : Hid (d / (gcd3 x y d : Int) = (lowSpot x y d).D) := rfl
  have HD1 := Lib.hid (fun w => divided_any x (gcd3 x y d) w Hx.out hlx hgp v1)
  have HD2 := Lib.hid (fun w => divided_any y (gcd3 x y d) w Hy.out hly hgp v2)
  have HD3 := Lib.hid (fun w => divided_any d (gcd3 x y d) w Hd.out HL3.out hgp v3)
  rw [hw1.out] at HD1
  rw [hw2.out] at HD2
  rw [hw3.out] at HD3
  obtain ⟨g, hg⟩ : ∃ g : Nat, gcd3 x y d = g := ⟨_, rfl⟩
  rw [hg] at HG HD1 HD2 HD3 hgp
  obtain ⟨s, hs⟩ : ∃ s, lowSpot x y d = s := ⟨_, rfl⟩
  rw [hs] at HY HNo HS HD1 HD2 HD3
  change Hid (∀ w, Calls Tryz.prog _ _ w fun e w' => e = .returned (.bool (spotOk s)) ∧ Ext w w') at HS
  clear hw1 hw2 hw3 hg hs v1 v2 v3 l1 l2 l3 hlx hly
  have hrow : Row ((w.alloc (.cells #[.int .i64 0, .int .i64 0, .int .i64 0] 38)).alloc (.cells #[.int .i64 x, .int .i64 y, .int .i64 d] 3)) (some ⟨w.heap.size + 1, 0, none⟩) (ints [x, y, d]) := by
    refine .inr ⟨w.heap.size + 1, 0, rfl, fun j v hj => ?_⟩
    have hb := Blk.new (w.alloc (.cells #[.int .i64 0, .int .i64 0, .int .i64 0] 38)) 3 #[.int .i64 x, .int .i64 y, .int .i64 d]
    simp only [World.size_alloc] at hb
    rw [hb.cell, Nat.zero_add]
    simpa [ints] using hj
  have HII : Hid (∀ i, (hi : i < [x, y, d].length) → I64 [x, y, d][i]) := by
    intro i hi
    match i, hi with
    | 0, _ => exact Hx.out
    | 1, _ => exact Hy.out
    | 2, _ => exact Hd.out
  replace hE := hE.trans ((Ext.refl (w.alloc (.cells #[.int .i64 0, .int .i64 0, .int .i64 0] 38))).alloc (.cells #[.int .i64 x, .int .i64 y, .int .i64 d] 3))
  replace b0 := b0.ext ((Ext.refl (w.alloc (.cells #[.int .i64 0, .int .i64 0, .int .i64 0] 38))).alloc (.cells #[.int .i64 x, .int .i64 y, .int .i64 d] 3))
  have cb0_1 := fun o => b0.cell o
  have fb0_1 := fun o => b0.frozen o
  go_enter Tryz.func182, Tryz.ntmps182
  go_wp2_with fail
  refine (isLeast_any _ _ Hx.out).mono ?_
  rintro e w' ⟨rfl, rfl⟩
  rw [HL.out]
  go_wp2_with fail
  refine (isLeast_any _ _ Hy.out).mono ?_
  rintro e w' ⟨rfl, rfl⟩
  rw [HL2.out]
  go_wp2_with fail
  refine (gcdOfAll_any _ 3 _ [x, y, d] _ rfl hrow (by unfold maxLen; omega) HII.out).mono ?_
  rintro e w1 ⟨rfl, hx1⟩
  replace hE := hE.trans hx1
  replace b0 := b0.ext hx1
  have cb0_2 := fun o => b0.cell o
  have fb0_2 := fun o => b0.frozen o
  rw [HG.out]
  go_wp2_with fail
  refine (HD1.out _).mono ?_
  rintro e w2 ⟨rfl, hx2⟩
  replace hE := hE.trans hx2
  replace b0 := b0.ext hx2
  have cb0_3 := fun o => b0.cell o
  have fb0_3 := fun o => b0.frozen o
  go_wp2_with fail
  refine (HD2.out _).mono ?_
  rintro e w3 ⟨rfl, hx3⟩
  replace hE := hE.trans hx3
  replace b0 := b0.ext hx3
  have cb0_4 := fun o => b0.cell o
  have fb0_4 := fun o => b0.frozen o
  go_wp2_with fail
  refine (HD3.out _).mono ?_
  rintro e w4 ⟨rfl, hx4⟩
  replace hE := hE.trans hx4
  replace b0 := b0.ext hx4
  have cb0_5 := fun o => b0.cell o
  have fb0_5 := fun o => b0.frozen o
  have b2 := Blk.new w4 38 #[.int .i64 s.X, .int .i64 s.Y, .int .i64 s.D]
  have ha4 := (Ext.refl w4).alloc (.cells #[.int .i64 s.X, .int .i64 s.Y, .int .i64 s.D] 38)
  replace hE := hE.trans ha4
  replace b0 := b0.ext ha4
  have cb0_6 := fun o => b0.cell o
  have fb0_6 := fun o => b0.frozen o
  go_wp2_with fail
  refine (HS.out _).mono ?_
  rintro e w5 ⟨rfl, hx5⟩
  replace hE := hE.trans hx5
  replace b0 := b0.ext hx5
  replace b2 := b2.ext hx5
  have cb0_7 := fun o => b0.cell o
  have fb0_7 := fun o => b0.frozen o
  have cb2_8 := fun o => b2.cell o
  have fb2_8 := fun o => b2.frozen o
  by_cases hok : spotOk s = true
  · have H := Lib.hid (HY.out hok)
    rw [hok]
    clear hok
    go_wp2
    have c0 := fun o => b0.cell o
    refine bodyPost_ret (v := .tuple #[.agg #[.int .i64 s.X, .int .i64 s.Y, .int .i64 s.D], .bool true]) (by simp [results, Tryz.results182, go_sem, c0]) rfl ⟨by rw [H.out], ?_⟩
    all_goals (repeat (first | exact hE | refine Ext.alloc ?_ _ | refine Ext.setCell ?_ (by first | omega | (simp <;> omega)) _ | refine Ext.drewN ?_ _ | refine Ext.drew ?_))
  · have hok' : spotOk s = false := by simpa using hok
    have H := Lib.hid (HNo.out hok')
    rw [hok']
    clear hok hok'
    go_wp2
    have c0 := fun o => b0.cell o
    refine bodyPost_ret (v := .tuple #[.agg #[.int .i64 0, .int .i64 0, .int .i64 0], .bool false]) (by simp [results, Tryz.results182, go_sem, c0]) rfl ⟨by rw [H.out], ?_⟩
    all_goals (repeat (first | exact hE | refine Ext.alloc ?_ _ | refine Ext.setCell ?_ (by first | omega | (simp <;> omega)) _ | refine Ext.drewN ?_ _ | refine Ext.drew ?_))
theorem pt_I64 {g h : Half} (hg : SmallH g) (hh : SmallH h) : I64 (ptX g h) ∧ I64 (ptY g h) ∧ I64 (frD g h) := by
  obtain ⟨p1, p2⟩ := prod_bd hg.c hh.b rfl
  obtain ⟨p3, p4⟩ := prod_bd hh.c hg.b rfl
  obtain ⟨p5, p6⟩ := prod_bd hg.a hh.c rfl
  obtain ⟨p7, p8⟩ := prod_bd hh.a hg.c rfl
  obtain ⟨q1, q2⟩ := cross_bd hg hh
  unfold ptX ptY frD I64
  refine ⟨?_, ?_, ?_⟩ <;> split <;> omega
theorem crossS_par {g h : Half} (hc : cross g h = 0) : crossS g h = (⟨0, 0, 0⟩, false) := by
  unfold crossS
  refine spotOf_no (fun e => ?_)
  have : frD g h = 0 := by unfold frD; rw [hc]; rfl
  omega
set_option maxHeartbeats 2000000 in
theorem implCrossingOf_any (g h : Half) (w : World) (hg : halfOk g = true) (hh : halfOk h = true) :
    Calls Tryz.prog 324 #[.agg #[.int .i64 g.A, .int .i64 g.B, .int .i64 g.C], .agg #[.int .i64 h.A, .int .i64 h.B, .int .i64 h.C]] w fun e w' => e = .returned (.tuple #[.agg #[.int .i64 (crossS g h).1.X, .int .i64 (crossS g h).1.Y, .int .i64 (crossS g h).1.D], .bool (crossS g h).2]) ∧ Ext w w' := by
  have sG := small_ok hg
  have sH := small_ok hh
  obtain ⟨i1, i2, i3⟩ := sG.i64
  obtain ⟨j1, j2, j3⟩ := sH.i64
  have hE : Ext w (((w.alloc (.cells #[.int .i64 g.A, .int .i64 g.B, .int .i64 g.C] 116)).alloc (.cells #[.int .i64 h.A, .int .i64 h.B, .int .i64 h.C] 116)).alloc (.cells #[.int .i64 0, .int .i64 0, .int .i64 0] 38)) := (((Ext.refl w).alloc _).alloc _).alloc _
  have bG := ((Blk.new w 116 #[.int .i64 g.A, .int .i64 g.B, .int .i64 g.C]).alloc (.cells #[.int .i64 h.A, .int .i64 h.B, .int .i64 h.C] 116)).alloc (.cells #[.int .i64 0, .int .i64 0, .int .i64 0] 38)
  have bH := (Blk.new (w.alloc (.cells #[.int .i64 g.A, .int .i64 g.B, .int .i64 g.C] 116)) 116 #[.int .i64 h.A, .int .i64 h.B, .int .i64 h.C]).alloc (.cells #[.int .i64 0, .int .i64 0, .int .i64 0] 38)
  have b0 := Blk.new ((w.alloc (.cells #[.int .i64 g.A, .int .i64 g.B, .int .i64 g.C] 116)).alloc (.cells #[.int .i64 h.A, .int .i64 h.B, .int .i64 h.C] 116)) 38 #[.int .i64 0, .int .i64 0, .int .i64 0]
  simp only [World.size_alloc] at bH b0
  have HG := Lib.hid (fun w => implHalfOk_any g.A g.B g.C w i1 i2 i3)
  have HH := Lib.hid (fun w => implHalfOk_any h.A h.B h.C w j1 j2 j3)
  rw [show halfOk ⟨g.A, g.B, g.C⟩ = true from hg] at HG
  rw [show halfOk ⟨h.A, h.B, h.C⟩ = true from hh] at HH
  have HC := Lib.hid (fun w => crossing_any g h w sG sH)
  obtain ⟨k1, k2, k3⟩ := pt_I64 sG sH
  have HS := Lib.hid (fun w => implSpotOf_any (ptX g h) (ptY g h) (frD g h) w k1 k2 k3)
  change Hid (∀ w, Calls Tryz.prog _ _ w fun e w' => e = .returned (.tuple #[.agg #[.int .i64 (crossS g h).1.X, .int .i64 (crossS g h).1.Y, .int .i64 (crossS g h).1.D], .bool (crossS g h).2]) ∧ Ext w w') at HS
  have HP := Lib.hid (fun hc => crossS_par (g := g) (h := h) hc)
  obtain ⟨x, hx⟩ : ∃ x, ptX g h = x := ⟨_, rfl⟩
  obtain ⟨y, hy⟩ : ∃ x, ptY g h = x := ⟨_, rfl⟩
  obtain ⟨d, hd⟩ : ∃ x, frD g h = x := ⟨_, rfl⟩
  obtain ⟨s, hs⟩ : ∃ x, crossS g h = x := ⟨_, rfl⟩
  rw [hs] at HS HP
  rw [hs]
  rw [hx, hy, hd] at HC HS
  clear hx hy hd hs i1 i2 i3 j1 j2 j3 sG sH hg hh k1 k2 k3
  by_cases hz : cross g h = 0
  · have H := Lib.hid (HP.out hz)
    rw [show decide (cross g h ≠ 0) = false by simp [hz]] at HC
    clear hz HP
    go_enter Tryz.func324, Tryz.ntmps324
    go_wp2_with fail
    refine (HG.out _).mono ?_
    rintro e w1 ⟨rfl, hx1⟩
    replace hE := hE.trans hx1
    replace bG := bG.ext hx1
    replace bH := bH.ext hx1
    replace b0 := b0.ext hx1
    have cbG_9 := fun o => bG.cell o
    have cbH_10 := fun o => bH.cell o
    have cb0_11 := fun o => b0.cell o
    have fb0_11 := fun o => b0.frozen o
    go_wp2_with fail
    refine (HH.out _).mono ?_
    rintro e w2 ⟨rfl, hx2⟩
    replace hE := hE.trans hx2
    replace bG := bG.ext hx2
    replace bH := bH.ext hx2
    replace b0 := b0.ext hx2
    have cbG_12 := fun o => bG.cell o
    have cbH_13 := fun o => bH.cell o
    have cb0_14 := fun o => b0.cell o
    have fb0_14 := fun o => b0.frozen o
    go_wp2_with fail
    refine (HC.out _).mono ?_
    rintro e w3 ⟨rfl, hx3⟩
    replace hE := hE.trans hx3
    replace bG := bG.ext hx3
    replace bH := bH.ext hx3
    replace b0 := b0.ext hx3
    have cbG_15 := fun o => bG.cell o
    have cbH_16 := fun o => bH.cell o
    have cb0_17 := fun o => b0.cell o
    have fb0_17 := fun o => b0.frozen o
    go_wp2
    have c0 := fun o => b0.cell o
    refine bodyPost_ret (v := .tuple #[.agg #[.int .i64 0, .int .i64 0, .int .i64 0], .bool false]) (by simp [results, Tryz.results324, go_sem, c0]) rfl ⟨by rw [H.out], ?_⟩
    all_goals (repeat (first | exact hE | refine Ext.alloc ?_ _ | refine Ext.setCell ?_ (by first | omega | (simp <;> omega)) _ | refine Ext.drewN ?_ _ | refine Ext.drew ?_))
  · rw [show decide (cross g h ≠ 0) = true by simp [hz]] at HC
    clear hz HP
    go_enter Tryz.func324, Tryz.ntmps324
    go_wp2_with fail
    refine (HG.out _).mono ?_
    rintro e w1 ⟨rfl, hx1⟩
    replace hE := hE.trans hx1
    replace bG := bG.ext hx1
    replace bH := bH.ext hx1
    replace b0 := b0.ext hx1
    have cbG_18 := fun o => bG.cell o
    have cbH_19 := fun o => bH.cell o
    have cb0_20 := fun o => b0.cell o
    have fb0_20 := fun o => b0.frozen o
    go_wp2_with fail
    refine (HH.out _).mono ?_
    rintro e w2 ⟨rfl, hx2⟩
    replace hE := hE.trans hx2
    replace bG := bG.ext hx2
    replace bH := bH.ext hx2
    replace b0 := b0.ext hx2
    have cbG_21 := fun o => bG.cell o
    have cbH_22 := fun o => bH.cell o
    have cb0_23 := fun o => b0.cell o
    have fb0_23 := fun o => b0.frozen o
    go_wp2_with fail
    refine (HC.out _).mono ?_
    rintro e w3 ⟨rfl, hx3⟩
    replace hE := hE.trans hx3
    replace bG := bG.ext hx3
    replace bH := bH.ext hx3
    replace b0 := b0.ext hx3
    have cbG_24 := fun o => bG.cell o
    have cbH_25 := fun o => bH.cell o
    have cb0_26 := fun o => b0.cell o
    have fb0_26 := fun o => b0.frozen o
    go_wp2_with fail
    refine (HS.out _).mono ?_
    rintro e w4 ⟨rfl, hx4⟩
    replace hE := hE.trans hx4
    replace bG := bG.ext hx4
    replace bH := bH.ext hx4
    replace b0 := b0.ext hx4
    have cbG_27 := fun o => bG.cell o
    have cbH_28 := fun o => bH.cell o
    have cb0_29 := fun o => b0.cell o
    have fb0_29 := fun o => b0.frozen o
    go_wp2
    have c0 := fun o => b0.cell o
    refine bodyPost_ret (v := .tuple #[.agg #[.int .i64 s.1.X, .int .i64 s.1.Y, .int .i64 s.1.D], .bool s.2]) (by simp [results, Tryz.results324, go_sem, c0]) rfl ⟨rfl, ?_⟩
    all_goals (repeat (first | exact hE | refine Ext.alloc ?_ _ | refine Ext.setCell ?_ (by first | omega | (simp <;> omega)) _ | refine Ext.drewN ?_ _ | refine Ext.drew ?_))
end Go.Proofs.YtfnmbpjkjajpcaaGreatDoor
