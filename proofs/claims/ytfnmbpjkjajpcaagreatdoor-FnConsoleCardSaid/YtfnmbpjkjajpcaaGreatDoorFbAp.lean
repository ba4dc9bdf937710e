/- Contracts of the program's RatioOf. -/
import Derived.Test.YtfnmbpjkjajpcaaGreatDoorFbAs
namespace Go.Proofs.YtfnmbpjkjajpcaaGreatDoor
open Go.ChangeShapes Go.WideShapes Go.ChangeAt Go.RowKit
set_option linter.unusedVariables false
theorem ratioAlt_bad {n d : Int} (h : d = 0 ∨ isLeastI n = true ∨ isLeastI d = true) : ratioOf n d = ⟨0, 0⟩ := by rw [ratioOf_alt]; unfold ratioAlt; rw [if_pos h]
theorem ratioAlt_big {n d : Int} (h : ¬ (d = 0 ∨ isLeastI n = true ∨ isLeastI d = true)) (h2 : 1000000000000000000 < n.natAbs / Int.gcd n d ∨ 1000000000000000 < d.natAbs / Int.gcd n d) : ratioOf n d = ⟨0, 0⟩ := by
  rw [ratioOf_alt]; unfold ratioAlt; rw [if_neg h, if_pos h2]
theorem ratioAlt_yes {n d : Int} (h : ¬ (d = 0 ∨ isLeastI n = true ∨ isLeastI d = true)) (h2 : ¬ (1000000000000000000 < n.natAbs / Int.gcd n d ∨ 1000000000000000 < d.natAbs / Int.gcd n d)) :
    ratioOf n d = ⟨if (decide (n < 0) != decide (d < 0)) = true then -((n.natAbs / Int.gcd n d : Nat) : Int) else ((n.natAbs / Int.gcd n d : Nat) : Int), ((d.natAbs / Int.gcd n d : Nat) : Int)⟩ := by
  rw [ratioOf_alt]; unfold ratioAlt; rw [if_neg h, if_neg h2]
theorem quo_u64 {a g : Nat} (h : a ≤ 9223372036854775808) : IntKind.u64.wrap ((a : Int) / (g : Int)) = ((a / g : Nat) : Int) := by
  rw [wrapU, ← Int.natCast_ediv]
  have := Nat.div_le_self a g
  generalize a / g = t at *
  omega
set_option maxHeartbeats 2000000 in
theorem implRatioOf_any (n d : Int) (w : World) (hn : I64 n) (hd : I64 d) :
    Calls Tryz.prog 191 #[.int .i64 n, .int .i64 d] w fun e w' => e = .returned (.agg #[.int .i64 (ratioOf n d).N, .int .i64 (ratioOf n d).D]) ∧ Ext w w' := by
  have Hn := Lib.hid hn
  have Hd := Lib.hid hd
  clear hn hd
  have hx : Ext w (w.alloc (.cells #[.int .i64 0, .int .i64 0] 139)) := (Ext.refl w).alloc _
  have b0 := Blk.new w 139 #[.int .i64 0, .int .i64 0]
  by_cases hz : d = 0
  · have H : Hid (ratioOf n d = ⟨0, 0⟩) := ratioAlt_bad (.inl hz)
    subst hz
    go_enter Tryz.func191, Tryz.ntmps191
    go_wp2
    refine bodyPost_ret (v := .agg #[.int .i64 0, .int .i64 0]) (by simp [results, Tryz.results191, go_sem]) rfl ⟨by rw [H.out], ?_⟩
    exact hx
  have hdb : (d == 0) = false := by simpa using hz
  by_cases hl1 : isLeastI n = true
  · have H : Hid (ratioOf n d = ⟨0, 0⟩) := ratioAlt_bad (.inr (.inl hl1))
    have HL := Lib.hid hl1
    clear hl1
    go_enter Tryz.func191, Tryz.ntmps191
    go_wp2_with fail
    refine (isLeast_any _ _ Hn.out).mono ?_
    rintro e w' ⟨rfl, rfl⟩
    rw [HL.out]
    go_wp2
    refine bodyPost_ret (v := .agg #[.int .i64 0, .int .i64 0]) (by simp [results, Tryz.results191, go_sem]) rfl ⟨by rw [H.out], ?_⟩
    exact hx
  by_cases hl2 : isLeastI d = true
  · have H : Hid (ratioOf n d = ⟨0, 0⟩) := ratioAlt_bad (.inr (.inr hl2))
    have HL1 : Hid (isLeastI n = false) := by simpa [Hid] using hl1
    have HL := Lib.hid hl2
    clear hl1 hl2
    go_enter Tryz.func191, Tryz.ntmps191
    go_wp2_with fail
    refine (isLeast_any _ _ Hn.out).mono ?_
    rintro e w' ⟨rfl, rfl⟩
    rw [HL1.out]
    go_wp2_with fail
    refine (isLeast_any _ _ Hd.out).mono ?_
    rintro e w' ⟨rfl, rfl⟩
    rw [HL.out]
    go_wp2
    refine bodyPost_ret (v := .agg #[.int .i64 0, .int .i64 0]) (by simp [results, Tryz.results191, go_sem]) rfl ⟨by rw [H.out], ?_⟩
    exact hx
  have hno : ¬ (d = 0 ∨ isLeastI n = true ∨ isLeastI d = true) := fun h => by rcases h with h | h | h; exact hz h; exact hl1 h; exact hl2 h
  have HN := Lib.hid hno
  have HL1 : Hid (isLeastI n = false) := by simpa [Hid] using hl1
  have HL2 : Hid (isLeastI d = false) := by simpa [Hid] using hl2
  have hgp : 0 < Int.gcd n d := Nat.pos_of_ne_zero (by intro h; rw [Int.gcd_eq_zero_iff] at h; exact hz h.2)
  have hn0 := Hn.out
  have hd0 := Hd.out
  unfold I64 at hn0 hd0
  have hnl : ¬ n = -9223372036854775808 := by simpa [isLeastI] using hl1
  have hdl : ¬ d = -9223372036854775808 := by simpa [isLeastI] using hl2
  clear hno hl1 hl2 hz
  have HG := Lib.hid (gcdTo_two n d)
  have hrow : Row ((w.alloc (.cells #[.int .i64 0, .int .i64 0] 139)).alloc (.cells #[.int .i64 n, .int .i64 d] 3)) (some ⟨w.heap.size + 1, 0, none⟩) (ints [n, d]) := by
    refine .inr ⟨w.heap.size + 1, 0, rfl, fun j v hj => ?_⟩
    have hb := Blk.new (w.alloc (.cells #[.int .i64 0, .int .i64 0] 139)) 3 #[.int .i64 n, .int .i64 d]
    simp only [World.size_alloc] at hb
    rw [hb.cell, Nat.zero_add]
    simpa [ints] using hj
  have HII : Hid (∀ i, (hi : i < [n, d].length) → I64 [n, d][i]) := by
    intro i hi
    match i, hi with
    | 0, _ => exact Hn.out
    | 1, _ => exact Hd.out
  replace hx := hx.trans ((Ext.refl (w.alloc (.cells #[.int .i64 0, .int .i64 0] 139))).alloc (.cells #[.int .i64 n, .int .i64 d] 3))
  replace b0 := b0.ext ((Ext.refl (w.alloc (.cells #[.int .i64 0, .int .i64 0] 139))).alloc (.cells #[.int .i64 n, .int .i64 d] 3))
  have cb0_1 := fun o => b0.cell o
  have fb0_1 := fun o => b0.frozen o
  go_enter Tryz.func191, Tryz.ntmps191
  go_wp2_with fail
  refine (isLeast_any _ _ Hn.out).mono ?_
  rintro e w' ⟨rfl, rfl⟩
  rw [HL1.out]
  go_wp2_with fail
  refine (isLeast_any _ _ Hd.out).mono ?_
  rintro e w' ⟨rfl, rfl⟩
  rw [HL2.out]
  go_wp2_with fail
  refine (gcdOfAll_any _ 2 _ [n, d] _ rfl hrow (by unfold maxLen; omega) HII.out).mono ?_
  rintro e w1 ⟨rfl, hx1⟩
  replace hx := hx.trans hx1
  replace b0 := b0.ext hx1
  have cb0_2 := fun o => b0.cell o
  have fb0_2 := fun o => b0.frozen o
  rw [HG.out]
  obtain ⟨t, ht⟩ : ∃ t, n.natAbs / Int.gcd n d = t := ⟨_, rfl⟩
  obtain ⟨b, hbd⟩ : ∃ b, d.natAbs / Int.gcd n d = b := ⟨_, rfl⟩
  have hq1 : t ≤ n.natAbs := by rw [← ht]; exact Nat.div_le_self _ _
  have hq2 : b ≤ d.natAbs := by rw [← hbd]; exact Nat.div_le_self _ _
  have HB' : Hid ((1000000000000000000 < t ∨ 1000000000000000 < b) → ratioOf n d = ⟨0, 0⟩) := by
    intro h; subst ht; subst hbd; exact ratioAlt_big HN.out h
  have HY' : Hid (¬ (1000000000000000000 < t ∨ 1000000000000000 < b) → ratioOf n d = ⟨if (decide (n < 0) != decide (d < 0)) = true then -(t : Int) else (t : Int), (b : Int)⟩) := by
    intro h; subst ht; subst hbd; exact ratioAlt_yes HN.out h
  have hgz : ((Int.gcd n d : Int) == 0) = false := by rw [beq_eq_false_iff_ne]; omega
  have hgz2 : ¬ (Int.gcd n d : Int) = 0 := by omega
  have hd1 : IntKind.u64.wrap ((n.natAbs : Int) / (Int.gcd n d : Int)) = (t : Int) := by rw [← ht]; exact quo_u64 (by omega)
  have hd2 : IntKind.u64.wrap ((d.natAbs : Int) / (Int.gcd n d : Int)) = (b : Int) := by rw [← hbd]; exact quo_u64 (by omega)
  clear ht hbd
  go_wp2_with fail
  go_quiet ((go_at_call 239; exact Calls.quiet_of_same ((magnitude_any _ _ (by first | exact Hn.out | exact Hd.out)).mono fun _ _ ⟨h1, h2⟩ => ⟨h1, h2.symm⟩)))
  clear hd1 hd2 hgz hgz2
  replace hx := hx.drewN nq
  replace b0 := b0.drewN nq
  generalize w1.drewN nq = w2 at *
  have c0 := fun o => b0.cell o
  have f0 := fun o => b0.frozen o
  have hlt := b0.lt
  by_cases h1 : (1000000000000000000 : Int) < (t : Int)
  · have H : Hid (ratioOf n d = ⟨0, 0⟩) := HB'.out (.inl (by omega))
    go_wp2
    refine bodyPost_ret (v := .agg #[.int .i64 0, .int .i64 0]) (by simp [results, Tryz.results191, go_sem, c0]) rfl ⟨by rw [H.out], ?_⟩
    exact (hx.setCell (by first | omega | (simp <;> omega)) _).setCell (by first | omega | (simp <;> omega)) _
  by_cases h2 : (1000000000000000 : Int) < (b : Int)
  · have H : Hid (ratioOf n d = ⟨0, 0⟩) := HB'.out (.inr (by omega))
    go_wp2
    refine bodyPost_ret (v := .agg #[.int .i64 0, .int .i64 0]) (by simp [results, Tryz.results191, go_sem, c0]) rfl ⟨by rw [H.out], ?_⟩
    exact (hx.setCell (by first | omega | (simp <;> omega)) _).setCell (by first | omega | (simp <;> omega)) _
  have H0 := HY'.out (by omega)
  have hw1 : IntKind.i64.wrap (t : Int) = (t : Int) := IntWalk.i64_in _ (by omega)
  have hw2 : IntKind.i64.wrap (b : Int) = (b : Int) := IntWalk.i64_in _ (by omega)
  have hw3 : IntKind.i64.wrap (-(t : Int)) = -(t : Int) := IntWalk.i64_in _ (by omega)
  have hd1 : decide ((1000000000000000000 : Int) < (t : Int)) = false := by simpa using h1
  have hd2 : decide ((1000000000000000 : Int) < (b : Int)) = false := by simpa using h2
  have b2 := Blk.new w2 139 #[.int .i64 (t : Int), .int .i64 (b : Int)]
  have c2 := fun o => b2.cell o
  have f2 := fun o => b2.frozen o
  by_cases s1 : n < 0 <;> by_cases s2 : d < 0
  all_goals
    rw [show decide (n < 0) = _ from by first | exact decide_eq_true s1 | exact decide_eq_false s1, show decide (d < 0) = _ from by first | exact decide_eq_true s2 | exact decide_eq_false s2] at H0
    simp only [bne_self_eq_false, Bool.true_bne, Bool.false_bne, Bool.not_false, Bool.false_eq_true, if_false, if_true] at H0
    have H := Lib.hid H0
    clear H0 h1 h2
  · go_wp2
    have bF := ((b0.set_ 0 (.int .i64 (t : Int))).set_ 1 (.int .i64 (b : Int))).alloc (.cells #[.int .i64 (t : Int), .int .i64 (b : Int)] 139)
    have cF := fun o => bF.cell o
    refine bodyPost_ret (v := .agg #[.int .i64 (t : Int), .int .i64 (b : Int)]) (by simp [results, Tryz.results191, go_sem, cF]) rfl ⟨by rw [H.out], ?_⟩
    all_goals (repeat (first | exact hx | refine Ext.alloc ?_ _ | refine Ext.setCell ?_ (by first | omega | (simp <;> omega)) _ | refine Ext.drewN ?_ _ | refine Ext.drew ?_))
  · go_wp2
    have bF := ((b0.set_ 0 (.int .i64 (-(t : Int)))).set_ 1 (.int .i64 (b : Int))).alloc (.cells #[.int .i64 (-(t : Int)), .int .i64 (b : Int)] 139)
    have cF := fun o => bF.cell o
    refine bodyPost_ret (v := .agg #[.int .i64 (-(t : Int)), .int .i64 (b : Int)]) (by simp [results, Tryz.results191, go_sem, cF]) rfl ⟨by rw [H.out], ?_⟩
    all_goals (repeat (first | exact hx | refine Ext.alloc ?_ _ | refine Ext.setCell ?_ (by first | omega | (simp <;> omega)) _ | refine Ext.drewN ?_ _ | refine Ext.drew ?_))
  · go_wp2
    have bF := ((b0.set_ 0 (.int .i64 (-(t : Int)))).set_ 1 (.int .i64 (b : Int))).alloc (.cells #[.int .i64 (-(t : Int)), .int .i64 (b : Int)] 139)
    have cF := fun o => bF.cell o
    refine bodyPost_ret (v := .agg #[.int .i64 (-(t : Int)), .int .i64 (b : Int)]) (by simp [results, Tryz.results191, go_sem, cF]) rfl ⟨by rw [H.out], ?_⟩
    all_goals (repeat (first | exact hx | refine Ext.alloc ?_ _ | refine Ext.setCell ?_ (by first | omega | (simp <;> omega)) _ | refine Ext.drewN ?_ _ | refine Ext.drew ?_))
  · go_wp2
    have bF := ((b0.set_ 0 (.int .i64 (t : Int))).set_ 1 (.int .i64 (b : Int))).alloc (.cells #[.int .i64 (t : Int), .int .i64 (b : Int)] 139)
    have cF := fun o => bF.cell o
    refine bodyPost_ret (v := .agg #[.int .i64 (t : Int), .int .i64 (b : Int)]) (by simp [results, Tryz.results191, go_sem, cF]) rfl ⟨by rw [H.out], ?_⟩
    all_goals (repeat (first | exact hx | refine Ext.alloc ?_ _ | refine Ext.setCell ?_ (by first | omega | (simp <;> omega)) _ | refine Ext.drewN ?_ _ | refine Ext.drew ?_))
end Go.Proofs.YtfnmbpjkjajpcaaGreatDoor
