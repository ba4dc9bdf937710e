/- Contracts of HalfOf of the program and of the reference. (written by tools/mkHa.py) -/
import Derived.Test.YtfnmbpjkjajpcaaGreatDoorFbCo
import Derived.Test.YtfnmbpjkjajpcaaGreatDoorFbGz
namespace Go.Proofs.YtfnmbpjkjajpcaaGreatDoor
open Go.ChangeShapes Go.WideShapes Go.ChangeAt Go.RowKit
set_option linter.unusedVariables false
set_option maxRecDepth 100000
theorem half_no {a b c : Int} (h : isLeastI a = true ∨ isLeastI b = true ∨ isLeastI c = true ∨ (a = 0 ∧ b = 0)) : halfOfZ a b c = (⟨0, 0, 0⟩, false) := by
  unfold halfOfZ
  rw [if_neg]
  rintro ⟨⟨h1, h2, h3⟩, h4⟩
  rcases h with h | h | h | ⟨rfl, rfl⟩
  · rw [h1] at h; cases h
  · rw [h2] at h; cases h
  · rw [h3] at h; cases h
  · unfold halfOk at h4
    simp at h4
theorem half_bad {a b c : Int} (h : halfOk ⟨a / (gcd3 a b c : Int), b / (gcd3 a b c : Int), c / (gcd3 a b c : Int)⟩ = false) : halfOfZ a b c = (⟨0, 0, 0⟩, false) := by
  unfold halfOfZ
  rw [if_neg]
  rintro ⟨_, h4⟩
  rw [h] at h4
  cases h4
theorem half_yes {a b c : Int} (h1 : isLeastI a = false) (h2 : isLeastI b = false) (h3 : isLeastI c = false) (h : halfOk ⟨a / (gcd3 a b c : Int), b / (gcd3 a b c : Int), c / (gcd3 a b c : Int)⟩ = true) : halfOfZ a b c = (⟨a / (gcd3 a b c : Int), b / (gcd3 a b c : Int), c / (gcd3 a b c : Int)⟩, true) := if_pos ⟨⟨h1, h2, h3⟩, h⟩
theorem gcd3_zero {a b c : Int} (h : gcd3 a b c = 0) : a = 0 ∧ b = 0 := by
  unfold gcd3 at h
  have := Nat.eq_zero_of_gcd_eq_zero_left h
  rw [Int.gcd_eq_zero_iff] at this
  exact this
theorem div_I64 {n : Int} {g : Nat} (hg : 0 < g) (h : I64 n) : I64 (n / (g : Int)) := by
  unfold I64 at *
  have hg1 : (0 : Int) < (g : Int) := by omega
  rcases Int.lt_or_le n 0 with h0 | h0
  · have k1 : n / (g : Int) < 0 := Int.ediv_neg_of_neg_of_pos h0 hg1
    have k2 : n ≤ n / (g : Int) := by
      refine (Int.le_ediv_iff_mul_le hg1).2 ?_
      have := Int.mul_le_mul_of_nonpos_left (a := n) (Int.le_of_lt h0) (show (1 : Int) ≤ (g : Int) by omega)
      omega
    omega
  · have k1 := Int.ediv_nonneg h0 (show (0 : Int) ≤ (g : Int) by omega)
    have k2 := Int.ediv_le_self (g : Int) h0
    omega
set_option maxHeartbeats 4000000 in
theorem implHalfOf_any (a b c : Int) (w : World) (ha : I64 a) (hb : I64 b) (hc : I64 c) :
    Calls Tryz.prog 115 #[.int .i64 a, .int .i64 b, .int .i64 c] w fun e w' => e = .returned (.tuple #[.agg #[.int .i64 (halfOfZ a b c).1.A, .int .i64 (halfOfZ a b c).1.B, .int .i64 (halfOfZ a b c).1.C], .bool (halfOfZ a b c).2]) ∧ Ext w w' := by
  have Hx := Lib.hid ha
  have Hy := Lib.hid hb
  have Hd := Lib.hid hc
  have hE : Ext w (w.alloc (.cells #[.int .i64 0, .int .i64 0, .int .i64 0] 116)) := (Ext.refl w).alloc _
  have b0 := Blk.new w 116 #[.int .i64 0, .int .i64 0, .int .i64 0]
  have HG : Hid (gcdTo [a, b, c] 3 = gcd3 a b c) := gcdTo_three a b c
  obtain ⟨v1, v2, v3⟩ := gcd3_dvd a b c
  obtain ⟨pa, hpa⟩ : ∃ p, isLeastI a = p := ⟨_, rfl⟩
  obtain ⟨pb, hpb⟩ : ∃ p, isLeastI b = p := ⟨_, rfl⟩
  obtain ⟨pc, hpc⟩ : ∃ p, isLeastI c = p := ⟨_, rfl⟩
  have HA := Lib.hid hpa
  have HB := Lib.hid hpb
  have HC := Lib.hid hpc
  have HD1 := Lib.hid (fun hg w (hl : pa = false) => divided_any a (gcd3 a b c) w ha (hpa.trans hl) hg v1)
  have HD2 := Lib.hid (fun hg w (hl : pb = false) => divided_any b (gcd3 a b c) w hb (hpb.trans hl) hg v2)
  have HD3 := Lib.hid (fun hg w (hl : pc = false) => divided_any c (gcd3 a b c) w hc (hpc.trans hl) hg v3)
  have HS := Lib.hid (fun hg w => implHalfOk_any (a / (gcd3 a b c : Int)) (b / (gcd3 a b c : Int)) (c / (gcd3 a b c : Int)) w (div_I64 hg ha) (div_I64 hg hb) (div_I64 hg hc))
  have HNo := Lib.hid (@half_no a b c)
  have HBad := Lib.hid (@half_bad a b c)
  have HYes := Lib.hid (fun (h1 : pa = false) (h2 : pb = false) (h3 : pc = false) h => half_yes (hpa.trans h1) (hpb.trans h2) (hpc.trans h3) h)
  have HZ := Lib.hid (@gcd3_zero a b c)
  have IA := Lib.hid (fun w => isLeast_any a w ha)
  have IB := Lib.hid (fun w => isLeast_any b w hb)
  have IC := Lib.hid (fun w => isLeast_any c w hc)
  rw [hpa] at IA
  rw [hpb] at IB
  rw [hpc] at IC
  have hgl : gcd3 a b c ≤ 9223372036854775808 := by
    unfold gcd3
    unfold I64 at ha hb hc
    by_cases h : c = 0
    · subst h
      rw [Int.natAbs_zero, Nat.gcd_zero_right]
      by_cases h2 : b = 0
      · subst h2
        rw [Int.gcd_zero_right]
        omega
      · exact Nat.le_trans (show Int.gcd a b ≤ b.natAbs by unfold Int.gcd; exact Nat.gcd_le_right _ (by omega)) (by omega)
    · exact Nat.le_trans (Nat.gcd_le_right _ (by omega)) (by omega)
  generalize a / (gcd3 a b c : Int) = x at *
  generalize b / (gcd3 a b c : Int) = y at *
  generalize c / (gcd3 a b c : Int) = z at *
  generalize gcd3 a b c = g at *
  generalize halfOfZ a b c = R at *
  have hrow : Row ((w.alloc (.cells #[.int .i64 0, .int .i64 0, .int .i64 0] 116)).alloc (.cells #[.int .i64 a, .int .i64 b, .int .i64 c] 3)) (some ⟨w.heap.size + 1, 0, none⟩) (ints [a, b, c]) := by
    refine .inr ⟨w.heap.size + 1, 0, rfl, fun j v hj => ?_⟩
    have hb := Blk.new (w.alloc (.cells #[.int .i64 0, .int .i64 0, .int .i64 0] 116)) 3 #[.int .i64 a, .int .i64 b, .int .i64 c]
    simp only [World.size_alloc] at hb
    rw [hb.cell, Nat.zero_add]
    simpa [ints] using hj
  have HII : Hid (∀ i, (hi : i < [a, b, c].length) → I64 [a, b, c][i]) := by
    intro i hi
    match i, hi with
    | 0, _ => exact Hx.out
    | 1, _ => exact Hy.out
    | 2, _ => exact Hd.out
  clear ha hb hc hpa hpb hpc v1 v2 v3
  replace hE := hE.trans ((Ext.refl (w.alloc (.cells #[.int .i64 0, .int .i64 0, .int .i64 0] 116))).alloc (.cells #[.int .i64 a, .int .i64 b, .int .i64 c] 3))
  replace b0 := b0.ext ((Ext.refl (w.alloc (.cells #[.int .i64 0, .int .i64 0, .int .i64 0] 116))).alloc (.cells #[.int .i64 a, .int .i64 b, .int .i64 c] 3))
  have cb0_1 := fun o => b0.cell o
  have fb0_1 := fun o => b0.frozen o
  go_enter Tryz.func115, Tryz.ntmps115
  go_wp2_with fail
  refine (gcdOfAll_any _ 3 _ [a, b, c] _ rfl hrow (by unfold maxLen; omega) HII.out).mono ?_
  rintro e w1 ⟨rfl, hx1⟩
  replace hE := hE.trans hx1
  replace b0 := b0.ext hx1
  have cb0_2 := fun o => b0.cell o
  have fb0_2 := fun o => b0.frozen o
  rw [HG.out]
  by_cases hg0 : g = 0
  · have hgz : ((g : Int) == 0) = true := by rw [hg0]; rfl
    have H := Lib.hid (HNo.out (.inr (.inr (.inr (HZ.out hg0)))))
    clear hg0
    go_wp2
    have c0 := fun o => b0.cell o
    refine bodyPost_ret (v := .tuple #[.agg #[.int .i64 0, .int .i64 0, .int .i64 0], .bool false]) (by simp [results, Tryz.results115, go_sem, c0]) rfl ⟨by rw [H.out], ?_⟩
    all_goals (repeat (first | exact hE | refine Ext.alloc ?_ _ | refine Ext.setCell ?_ (by first | omega | (simp <;> omega)) _ | refine Ext.drewN ?_ _ | refine Ext.drew ?_))
  have hgp : 0 < g := by omega
  have hgz : ((g : Int) == 0) = false := by rw [beq_eq_false_iff_ne]; omega
  clear hg0
  go_wp2_with fail
  refine (IA.out _).mono ?_
  rintro e w' ⟨rfl, rfl⟩
  cases pa
  rotate_left
  · have H := Lib.hid (HNo.out (.inl HA.out))
    go_wp2
    have c0 := fun o => b0.cell o
    refine bodyPost_ret (v := .tuple #[.agg #[.int .i64 0, .int .i64 0, .int .i64 0], .bool false]) (by simp [results, Tryz.results115, go_sem, c0]) rfl ⟨by rw [H.out], ?_⟩
    all_goals (repeat (first | exact hE | refine Ext.alloc ?_ _ | refine Ext.setCell ?_ (by first | omega | (simp <;> omega)) _ | refine Ext.drewN ?_ _ | refine Ext.drew ?_))
  go_wp2_with fail
  refine (IB.out _).mono ?_
  rintro e w' ⟨rfl, rfl⟩
  cases pb
  rotate_left
  · have H := Lib.hid (HNo.out (.inr (.inl HB.out)))
    go_wp2
    have c0 := fun o => b0.cell o
    refine bodyPost_ret (v := .tuple #[.agg #[.int .i64 0, .int .i64 0, .int .i64 0], .bool false]) (by simp [results, Tryz.results115, go_sem, c0]) rfl ⟨by rw [H.out], ?_⟩
    all_goals (repeat (first | exact hE | refine Ext.alloc ?_ _ | refine Ext.setCell ?_ (by first | omega | (simp <;> omega)) _ | refine Ext.drewN ?_ _ | refine Ext.drew ?_))
  go_wp2_with fail
  refine (IC.out _).mono ?_
  rintro e w' ⟨rfl, rfl⟩
  cases pc
  rotate_left
  · have H := Lib.hid (HNo.out (.inr (.inr (.inl HC.out))))
    go_wp2
    have c0 := fun o => b0.cell o
    refine bodyPost_ret (v := .tuple #[.agg #[.int .i64 0, .int .i64 0, .int .i64 0], .bool false]) (by simp [results, Tryz.results115, go_sem, c0]) rfl ⟨by rw [H.out], ?_⟩
    all_goals (repeat (first | exact hE | refine Ext.alloc ?_ _ | refine Ext.setCell ?_ (by first | omega | (simp <;> omega)) _ | refine Ext.drewN ?_ _ | refine Ext.drew ?_))
  go_wp2_with fail
  refine (HD1.out hgp _ (by first | rfl | trivial)).mono ?_
  rintro e w2 ⟨rfl, hx2⟩
  replace hE := hE.trans hx2
  replace b0 := b0.ext hx2
  have cb0_3 := fun o => b0.cell o
  have fb0_3 := fun o => b0.frozen o
  go_wp2_with fail
  refine (HD2.out hgp _ (by first | rfl | trivial)).mono ?_
  rintro e w3 ⟨rfl, hx3⟩
  replace hE := hE.trans hx3
  replace b0 := b0.ext hx3
  have cb0_4 := fun o => b0.cell o
  have fb0_4 := fun o => b0.frozen o
  go_wp2_with fail
  refine (HD3.out hgp _ (by first | rfl | trivial)).mono ?_
  rintro e w4 ⟨rfl, hx4⟩
  replace hE := hE.trans hx4
  replace b0 := b0.ext hx4
  have cb0_5 := fun o => b0.cell o
  have fb0_5 := fun o => b0.frozen o
  have b2 := Blk.new w4 116 #[.int .i64 x, .int .i64 y, .int .i64 z]
  have ha4 := (Ext.refl w4).alloc (.cells #[.int .i64 x, .int .i64 y, .int .i64 z] 116)
  replace hE := hE.trans ha4
  replace b0 := b0.ext ha4
  have cb0_6 := fun o => b0.cell o
  have fb0_6 := fun o => b0.frozen o
  go_wp2_with fail
  refine (HS.out hgp _).mono ?_
  rintro e w5 ⟨rfl, hx5⟩
  replace hE := hE.trans hx5
  replace b0 := b0.ext hx5
  replace b2 := b2.ext hx5
  have cb0_7 := fun o => b0.cell o
  have fb0_7 := fun o => b0.frozen o
  have cb2_8 := fun o => b2.cell o
  have fb2_8 := fun o => b2.frozen o
  by_cases hok : halfOk ⟨x, y, z⟩ = true
  · have H := Lib.hid (HYes.out (by first | rfl | trivial) (by first | rfl | trivial) (by first | rfl | trivial) hok)
    rw [hok]
    clear hok
    go_wp2
    have c0 := fun o => b0.cell o
    refine bodyPost_ret (v := .tuple #[.agg #[.int .i64 x, .int .i64 y, .int .i64 z], .bool true]) (by simp [results, Tryz.results115, go_sem, c0]) rfl ⟨by rw [H.out], ?_⟩
    all_goals (repeat (first | exact hE | refine Ext.alloc ?_ _ | refine Ext.setCell ?_ (by first | omega | (simp <;> omega)) _ | refine Ext.drewN ?_ _ | refine Ext.drew ?_))
  · have hok' : halfOk ⟨x, y, z⟩ = false := by simpa using hok
    have H := Lib.hid (HBad.out hok')
    rw [hok']
    clear hok hok'
    go_wp2
    have c0 := fun o => b0.cell o
    refine bodyPost_ret (v := .tuple #[.agg #[.int .i64 0, .int .i64 0, .int .i64 0], .bool false]) (by simp [results, Tryz.results115, go_sem, c0]) rfl ⟨by rw [H.out], ?_⟩
    all_goals (repeat (first | exact hE | refine Ext.alloc ?_ _ | refine Ext.setCell ?_ (by first | omega | (simp <;> omega)) _ | refine Ext.drewN ?_ _ | refine Ext.drew ?_))
end Go.Proofs.YtfnmbpjkjajpcaaGreatDoor
