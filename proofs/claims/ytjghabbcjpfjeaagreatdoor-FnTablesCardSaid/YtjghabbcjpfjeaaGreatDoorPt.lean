/- Contracts of the reference's points: l05Cross, l05Inside, l05Differ, l05IsEdge. -/
import Derived.Test.YtjghabbcjpfjeaaGreatDoorHp
import Derived.Test.YtjghabbcjpfjeaaGreatDoorSf
import Derived.Test.YtjghabbcjpfjeaaGreatDoorHz
namespace Go.Proofs.YtjghabbcjpfjeaaGreatDoor
open Go.ChangeShapes Go.WideShapes Go.ChangeAt Go.RowKit
set_option linter.unusedVariables false
set_option maxRecDepth 100000

theorem spot_ext {g h : Spot} (h1 : g.X = h.X) (h2 : g.Y = h.Y) (h3 : g.D = h.D) : g = h := by cases g; cases h; simp_all
theorem flds3 {α : Type} {l : List α} (h : l.length = 3) : ∃ a b c, l = [a, b, c] := by
  match l, h with
  | [a, b, c], _ => exact ⟨a, b, c, rfl⟩
theorem neq_spot (g h : Spot) (w : World) : (binOp .neq 30 (.agg #[.int .i64 g.X, .int .i64 g.Y, .int .i64 g.D]) (.agg #[.int .i64 h.X, .int .i64 h.Y, .int .i64 h.D])).run Tryz.prog w = .ok (.bool (decide (g ≠ h))) w := by
  have hf : (Tryz.prog.fieldsOf 30).toList.map (fun f => (decide (f.name ≠ "_"), f.type, f.offset)) = [(true, 3, 0), (true, 3, 1), (true, 3, 2)] := by kernel_rfl
  have hu : Tryz.prog.underlying 30 = some (.struct (Tryz.prog.fieldsOf 30)) := by kernel_rfl
  rw [run_neq_struct, run_equalIn_agg _ _ _ _ _ hu (by kernel_rfl)]
  generalize (Tryz.prog.fieldsOf 30).toList = fs at hf
  have hl : fs.length = 3 := by have := congrArg List.length hf; simpa using this
  obtain ⟨f0, f1, f2, rfl⟩ := flds3 hl
  · simp only [List.map_cons, List.map_nil, List.cons.injEq, Prod.mk.injEq, and_true, decide_eq_true_eq] at hf
    obtain ⟨⟨n0, t0, o0⟩, ⟨n1, t1, o1⟩, n2, t2, o2⟩ := hf
    have hI := Tryz.underlying3
    by_cases h0 : g.X = h.X
    · by_cases h1 : g.Y = h.Y
      · by_cases h2 : g.D = h.D
        · have e := spot_ext h0 h1 h2
          simp [Op.eqFields, n0, t0, o0, n1, t1, o1, n2, t2, o2, go_sem, e]
        · have e : g ≠ h := fun e => h2 (by rw [e])
          simp [Op.eqFields, n0, t0, o0, n1, t1, o1, n2, t2, o2, go_sem, h0, h1, h2, e]
      · have e : g ≠ h := fun e => h1 (by rw [e])
        simp [Op.eqFields, n0, t0, o0, n1, t1, o1, n2, t2, o2, go_sem, h0, h1, e]
    · have e : g ≠ h := fun e => h0 (by rw [e])
      simp [Op.eqFields, n0, t0, o0, n1, t1, o1, n2, t2, o2, go_sem, h0, e]

/-- the cells of a point -/
structure PtB (x y d : Int) : Prop where
  x : -10000000000000 ≤ x ∧ x ≤ 10000000000000
  y : -10000000000000 ≤ y ∧ y ≤ 10000000000000
  d : 0 ≤ d ∧ d ≤ 5000000000
set_option maxHeartbeats 2000000 in
theorem l05Cross_any (g h : Half) (w : World) (hg : SmallH g) (hh : SmallH h) :
    Calls Tryz.prog 144 #[.agg #[.int .i64 g.A, .int .i64 g.B, .int .i64 g.C], .agg #[.int .i64 h.A, .int .i64 h.B, .int .i64 h.C]] w fun e w' => e = .returned (.agg #[.int .i64 (ptX g h), .int .i64 (ptY g h), .int .i64 (frD g h)]) ∧ Ext w w' := by
  obtain ⟨p1, p2⟩ := prod_bd hg.c hh.b rfl
  obtain ⟨p3, p4⟩ := prod_bd hh.c hg.b rfl
  obtain ⟨p5, p6⟩ := prod_bd hg.a hh.c rfl
  obtain ⟨p7, p8⟩ := prod_bd hh.a hg.c rfl
  obtain ⟨p9, p10⟩ := prod_bd hg.a hh.b rfl
  obtain ⟨p11, p12⟩ := prod_bd hh.a hg.b rfl
  have hc : cross g h = g.A * h.B - h.A * g.B := by unfold cross; rw [Int.mul_comm h.A g.B]
  by_cases hn : g.A * h.B - h.A * g.B < 0
  · have R : Hid (ptX g h = -(g.C * h.B - h.C * g.B) ∧ ptY g h = -(g.A * h.C - h.A * g.C) ∧ frD g h = -(g.A * h.B - h.A * g.B)) := by
      unfold ptX ptY frD
      rw [hc]
      exact ⟨if_pos hn, if_pos hn, if_pos hn⟩
    have hn2 : g.A * h.B < h.A * g.B := by omega
    clear hc
    go_enter Tryz.func144, Tryz.ntmps144
    go_wp2
    refine bodyPost_ret (v := .agg #[.int .i64 (-(g.C * h.B - h.C * g.B)), .int .i64 (-(g.A * h.C - h.A * g.C)), .int .i64 (-(g.A * h.B - h.A * g.B))]) (by simp [results, Tryz.results144, go_sem]) rfl ⟨by rw [R.out.1, R.out.2.1, R.out.2.2], ?_⟩
    all_goals (repeat (first | exact (Ext.refl w) | refine Ext.alloc ?_ _ | refine Ext.setCell ?_ (by first | omega | (simp <;> omega)) _ | refine Ext.drewN ?_ _ | refine Ext.drew ?_))
  · have R : Hid (ptX g h = g.C * h.B - h.C * g.B ∧ ptY g h = g.A * h.C - h.A * g.C ∧ frD g h = g.A * h.B - h.A * g.B) := by
      unfold ptX ptY frD
      rw [hc]
      exact ⟨if_neg hn, if_neg hn, if_neg hn⟩
    have hn2 : ¬ g.A * h.B < h.A * g.B := by omega
    clear hc
    go_enter Tryz.func144, Tryz.ntmps144
    go_wp2
    refine bodyPost_ret (v := .agg #[.int .i64 (g.C * h.B - h.C * g.B), .int .i64 (g.A * h.C - h.A * g.C), .int .i64 (g.A * h.B - h.A * g.B)]) (by simp [results, Tryz.results144, go_sem]) rfl ⟨by rw [R.out.1, R.out.2.1, R.out.2.2], ?_⟩
    all_goals (repeat (first | exact (Ext.refl w) | refine Ext.alloc ?_ _ | refine Ext.setCell ?_ (by first | omega | (simp <;> omega)) _ | refine Ext.drewN ?_ _ | refine Ext.drew ?_))

set_option maxHeartbeats 4000000 in
theorem l05Inside_any (A : Option Addr) (n c : Nat) (S : List Half) (x y d : Int) (w : World) (hn : S.length = n) (hr : Row w A (ints (flat Half.ints S))) (hle : n ≤ maxLen) (hs : ∀ h ∈ S, SmallH h) (hp : PtB x y d) :
    Calls Tryz.prog 145 #[.slice A n c, .agg #[.int .i64 x, .int .i64 y, .int .i64 d]] w fun e w' => e = .returned (.bool (inBox x y d && S.all (inPt x y d))) ∧ Ext w w' := by
  unfold maxLen at hle
  have hx : Ext w (w.alloc (.cells #[.int .i64 x, .int .i64 y, .int .i64 d] 178)) := (Ext.refl w).alloc _
  have bP := Blk.new w 178 #[.int .i64 x, .int .i64 y, .int .i64 d]
  obtain ⟨x1, x2⟩ := hp.x
  obtain ⟨y1, y2⟩ := hp.y
  obtain ⟨d1, d2⟩ := hp.d
  have HP := Lib.hid hp
  have HSm : Hid (∀ k (hk : k < S.length), SmallH S[k]) := fun k hk => hs _ (List.getElem_mem hk)
  have HR := Lib.hid hr
  have HN := Lib.hid hn
  have Hbad : Hid (∀ _ : inBox x y d = false, (inBox x y d && S.all (inPt x y d)) = false) := fun h => by rw [h]; rfl
  have Hgood : Hid (∀ _ : inBox x y d = true, (inBox x y d && S.all (inPt x y d)) = S.all (inPt x y d)) := fun h => by rw [h]; rfl
  have Hbx : Hid (inBox x y d = (decide (d ≠ 0) && decide (x ≤ 1000 * d) && decide (-1000 * d ≤ x) && decide (y ≤ 1000 * d) && decide (-1000 * d ≤ y))) := rfl
  clear hp hs hr hn
  by_cases hd : d = 0
  · have hq := Hbad.out (by rw [Hbx.out]; simp [hd])
    have HQ := Lib.hid hq
    have e : (d == 0) = true := by simpa using hd
    clear hq hd
    go_enter Tryz.func145, Tryz.ntmps145
    go_wp2
    go_ret
    exact ⟨ret_bool HQ.out.symm, hx⟩
  have e0 : (d == 0) = false := by simpa using hd
  by_cases h1 : x ≤ 1000 * d
  rotate_left
  · have HQ := Lib.hid (Hbad.out (by rw [Hbx.out]; simp [h1]))
    clear hd
    go_enter Tryz.func145, Tryz.ntmps145
    go_wp2
    go_ret
    exact ⟨ret_bool HQ.out.symm, hx⟩
  by_cases h2 : -1000 * d ≤ x
  rotate_left
  · have HQ := Lib.hid (Hbad.out (by rw [Hbx.out, decide_eq_false h2]; simp))
    clear hd
    go_enter Tryz.func145, Tryz.ntmps145
    go_wp2
    go_ret
    exact ⟨ret_bool HQ.out.symm, hx⟩
  by_cases h3 : y ≤ 1000 * d
  rotate_left
  · have HQ := Lib.hid (Hbad.out (by rw [Hbx.out]; simp [h3]))
    clear hd
    go_enter Tryz.func145, Tryz.ntmps145
    go_wp2
    go_ret
    exact ⟨ret_bool HQ.out.symm, hx⟩
  by_cases h4 : -1000 * d ≤ y
  rotate_left
  · have HQ := Lib.hid (Hbad.out (by rw [Hbx.out, decide_eq_false h4]; simp))
    clear hd
    go_enter Tryz.func145, Tryz.ntmps145
    go_wp2
    go_ret
    exact ⟨ret_bool HQ.out.symm, hx⟩
  have HQ := Lib.hid (Hgood.out (by rw [Hbx.out, decide_eq_true h1, decide_eq_true h2, decide_eq_true h3, decide_eq_true h4]; simp [hd]))
  clear hd
  go_enter Tryz.func145, Tryz.ntmps145
  go_wp2
  go_loopw [51] (fun i wr => ∃ k : Nat, k ≤ n ∧ i = .int .i64 k ∧ Ext w wr ∧ Blk wr w.heap.size 178 #[.int .i64 x, .int .i64 y, .int .i64 d] ∧ (S.take k).all (inPt x y d) = true) (fun i _ => n - (intOf i).toNat)
  case atStart => exact ⟨0, Nat.zero_le _, rfl, hx, bP, rfl⟩
  case round =>
  obtain ⟨k, hk, rfl, hy, bQ, hall⟩ := hrel
  have Hall := Lib.hid hall
  clear hall
  by_cases hlt : k < n
  rotate_left
  · go_wp2
    go_ret
    refine ⟨ret_bool ?_, hy⟩
    rw [HQ.out]
    have := Hall.out
    rw [List.take_of_length_le (by rw [HN.out]; omega)] at this
    exact this.symm
  have hkl : k < S.length := by rw [HN.out]; exact hlt
  obtain ⟨b, off, rfl, hb, c0, c1, c2⟩ := (HR.out.ext hy).Half (k := k) hkl
  have sG := HSm.out k hkl
  have Hy : Hid (∀ _ : inPt x y d (S[k]'hkl) = true, (S.take (k + 1)).all (inPt x y d) = true) := fun hp => by rw [all_take_succ _ _ _ hkl, hp, Hall.out]; rfl
  have Hn : Hid (∀ _ : inPt x y d (S[k]'hkl) = false, S.all (inPt x y d) = false) := fun hp => all_false_at _ _ _ hkl hp
  obtain ⟨g, hg⟩ : ∃ h, S[k]'hkl = h := ⟨_, rfl⟩
  rw [hg] at c0 c1 c2 sG Hy Hn
  clear hg
  obtain ⟨p1, p2⟩ := prod_bd sG.a HP.out.x rfl
  obtain ⟨p3, p4⟩ := prod_bd sG.b HP.out.y rfl
  obtain ⟨p5, p6⟩ := prod_bd (B := 5000000000) sG.c (show -5000000000 ≤ d ∧ d ≤ 5000000000 by omega) rfl
  replace bQ := bQ.alloc (.cells #[.int .i64 g.A, .int .i64 g.B, .int .i64 g.C] 120)
  have hy2 := hy.alloc (.cells #[.int .i64 g.A, .int .i64 g.B, .int .i64 g.C] 120)
  have cQ := fun o => bQ.cell o
  by_cases hin : g.A * x + g.B * y ≤ g.C * d
  · have HY := Lib.hid (Hy.out (decide_eq_true hin))
    have hin2 : ¬ g.C * d < g.A * x + g.B * y := by omega
    go_wp2
    go_roundw
    case rel => exact ⟨k + 1, by omega, by go_num, hy2, bQ, HY.out⟩
    case measure => simp [intOf]; omega
  · have HY := Lib.hid (Hn.out (decide_eq_false hin))
    have hin2 : g.C * d < g.A * x + g.B * y := by omega
    go_wp2
    go_ret
    exact ⟨ret_bool (by rw [HQ.out, HY.out]), hy2⟩

theorem inBox_bd {x y d : Int} (h : inBox x y d = true) : d ≠ 0 ∧ x ≤ 1000 * d ∧ -1000 * d ≤ x ∧ y ≤ 1000 * d ∧ -1000 * d ≤ y := by
  unfold inBox at h
  simpa only [Bool.and_eq_true, decide_eq_true_eq, and_assoc] using h
theorem low_ok {x y d : Int} (hp : PtB x y d) (hb : inBox x y d = true) : spotOf x y d = (lowSpot x y d, true) := by
  obtain ⟨h0, h1, h2, h3, h4⟩ := inBox_bd hb
  have hd := hp.d
  have hxx := hp.x
  have hyy := hp.y
  have hd1 : 0 < d := by omega
  refine spotOf_yes ⟨hd1, least_not (by omega), least_not (by omega), ?_⟩
  obtain ⟨k1, k2, k3⟩ := low_mul x y d
  have hg := gcd3_pos (x := x) (y := y) hd1
  have hD := low_pos (x := x) (y := y) hd1
  have hgc := low_gcd (x := x) (y := y) hd1
  generalize lowSpot x y d = s at *
  generalize gcd3 x y d = g at *
  have hg' : (0 : Int) < g := by omega
  have e1 : s.X ≤ 1000 * s.D := Int.le_of_mul_le_mul_right (a := (g : Int)) (by rw [k1, Int.mul_assoc, k3]; exact h1) hg'
  have e2 : -(1000 * s.D) ≤ s.X := Int.le_of_mul_le_mul_right (a := (g : Int)) (by rw [k1, Int.neg_mul, Int.mul_assoc, k3]; omega) hg'
  have e3 : s.Y ≤ 1000 * s.D := Int.le_of_mul_le_mul_right (a := (g : Int)) (by rw [k2, Int.mul_assoc, k3]; exact h3) hg'
  have e4 : -(1000 * s.D) ≤ s.Y := Int.le_of_mul_le_mul_right (a := (g : Int)) (by rw [k2, Int.neg_mul, Int.mul_assoc, k3]; omega) hg'
  have e5 : s.D ≤ d := by
    have := Int.mul_le_mul_of_nonneg_left (show (1 : Int) ≤ g by omega) (Int.le_of_lt hD)
    rw [Int.mul_one, k3] at this
    exact this
  unfold spotOk inR
  unfold gcd3 at hgc
  simp only [Bool.and_eq_true, decide_eq_true_eq]
  exact ⟨⟨⟨⟨by omega, by omega⟩, by omega, e1⟩, by omega, e3⟩, hgc⟩
set_option maxHeartbeats 2000000 in
theorem l05Differ_any (x y d x' y' d' : Int) (w : World) (hp : PtB x y d) (hq : PtB x' y' d') (hb : inBox x y d = true) (hb' : inBox x' y' d' = true) :
    Calls Tryz.prog 146 #[.agg #[.int .i64 x, .int .i64 y, .int .i64 d], .agg #[.int .i64 x', .int .i64 y', .int .i64 d']] w fun e w' => e = .returned (.bool (decide (lowSpot x y d ≠ lowSpot x' y' d'))) ∧ Ext w w' := by
  have hE : Ext w ((w.alloc (.cells #[.int .i64 x, .int .i64 y, .int .i64 d] 178)).alloc (.cells #[.int .i64 x', .int .i64 y', .int .i64 d'] 178)) := ((Ext.refl w).alloc _).alloc _
  have bP := (Blk.new w 178 #[.int .i64 x, .int .i64 y, .int .i64 d]).alloc (.cells #[.int .i64 x', .int .i64 y', .int .i64 d'] 178)
  have bQ := Blk.new (w.alloc (.cells #[.int .i64 x, .int .i64 y, .int .i64 d] 178)) 178 #[.int .i64 x', .int .i64 y', .int .i64 d']
  simp only [World.size_alloc] at bQ
  have i64 : ∀ {x y d : Int}, PtB x y d → I64 x ∧ I64 y ∧ I64 d := fun hp => by have := hp.x; have := hp.y; have := hp.d; unfold I64; omega
  have H1 := fun w => specSpotOf_any x y d w (i64 hp).1 (i64 hp).2.1 (i64 hp).2.2
  have H2 := fun w => specSpotOf_any x' y' d' w (i64 hq).1 (i64 hq).2.1 (i64 hq).2.2
  rw [low_ok hp hb] at H1
  rw [low_ok hq hb'] at H2
  simp only at H1 H2
  obtain ⟨s, hs⟩ : ∃ s, lowSpot x y d = s := ⟨_, rfl⟩
  obtain ⟨t, ht⟩ : ∃ s, lowSpot x' y' d' = s := ⟨_, rfl⟩
  rw [hs] at H1
  rw [ht] at H2
  rw [hs, ht]
  have HA := Lib.hid H1
  have HB := Lib.hid H2
  clear H1 H2 hs ht hp hq hb hb' i64
  have hne := neq_spot s t
  go_enter Tryz.func146, Tryz.ntmps146
  go_wp2_with fail
  refine (HA.out _).mono ?_
  rintro e w1 ⟨rfl, hx1⟩
  replace hE := hE.trans hx1
  replace bP := bP.ext hx1
  replace bQ := bQ.ext hx1
  have cbP_1 := fun o => bP.cell o
  have cbQ_2 := fun o => bQ.cell o
  have bS := Blk.new w1 30 #[.int .i64 s.X, .int .i64 s.Y, .int .i64 s.D]
  have hx2 := (Ext.refl w1).alloc (.cells #[.int .i64 s.X, .int .i64 s.Y, .int .i64 s.D] 30)
  replace hE := hE.trans hx2
  replace bP := bP.ext hx2
  replace bQ := bQ.ext hx2
  have cbP_3 := fun o => bP.cell o
  have cbQ_4 := fun o => bQ.cell o
  go_wp2_with fail
  refine (HB.out _).mono ?_
  rintro e w2 ⟨rfl, hx3⟩
  replace hE := hE.trans hx3
  replace bP := bP.ext hx3
  replace bQ := bQ.ext hx3
  replace bS := bS.ext hx3
  have cbP_5 := fun o => bP.cell o
  have cbQ_6 := fun o => bQ.cell o
  have cbS_7 := fun o => bS.cell o
  have bT := Blk.new w2 30 #[.int .i64 t.X, .int .i64 t.Y, .int .i64 t.D]
  have hx4 := (Ext.refl w2).alloc (.cells #[.int .i64 t.X, .int .i64 t.Y, .int .i64 t.D] 30)
  replace hE := hE.trans hx4
  replace bP := bP.ext hx4
  replace bQ := bQ.ext hx4
  replace bS := bS.ext hx4
  have cbP_8 := fun o => bP.cell o
  have cbQ_9 := fun o => bQ.cell o
  have cbS_10 := fun o => bS.cell o
  have cT := fun o => bT.cell o
  go_wp2
  go_ret
  exact ⟨ret_bool (by simp), hE⟩

/-- the first of the crossings that lie inside, among those at the first m places -/
def FirstIn (S : List Half) (k : Half) (m : Nat) (x y d : Int) : Prop :=
  (x = 0 ∧ y = 0 ∧ d = 0 ∧ ∀ i (hi : i < S.length), i < m → insideB S k S[i] = false) ∨
  (∃ f ∈ S, insideB S k f = true ∧ x = ptX k f ∧ y = ptY k f ∧ d = frD k f ∧ ∀ i (hi : i < S.length), i < m → insideB S k S[i] = true → lowPt k f = lowPt k S[i])
theorem FirstIn.skip {S : List Half} {k : Half} {m : Nat} {x y d : Int} (h : FirstIn S k m x y d) (hm : ∀ hi : m < S.length, insideB S k S[m] = false) : FirstIn S k (m + 1) x y d := by
  rcases h with ⟨h1, h2, h3, h4⟩ | ⟨f, hf, h1, h2, h3, h4, h5⟩
  · refine .inl ⟨h1, h2, h3, fun i hi him => ?_⟩
    by_cases e : i = m
    · subst e; exact hm hi
    · exact h4 i hi (by omega)
  · refine .inr ⟨f, hf, h1, h2, h3, h4, fun i hi him hin => ?_⟩
    by_cases e : i = m
    · subst e; rw [hm hi] at hin; cases hin
    · exact h5 i hi (by omega) hin
theorem FirstIn.zero {S : List Half} {k : Half} {m : Nat} {x y d : Int} (h : FirstIn S k m x y d) (hd : d = 0) : ∀ i (hi : i < S.length), i < m → insideB S k S[i] = false := by
  rcases h with ⟨_, _, _, h4⟩ | ⟨f, hf, h1, h2, h3, h4, h5⟩
  · exact h4
  · exfalso
    unfold insideB inBox at h1
    rw [← h4, hd] at h1
    simp at h1
theorem FirstIn.first {S : List Half} {k : Half} {m : Nat} {x y d : Int} (h : FirstIn S k m x y d) (hd : d = 0) (hi : m < S.length) (hin : insideB S k S[m] = true) : FirstIn S k (m + 1) (ptX k S[m]) (ptY k S[m]) (frD k S[m]) := by
  have h4 := h.zero hd
  refine .inr ⟨S[m], List.getElem_mem hi, hin, rfl, rfl, rfl, fun i hi' him hii => ?_⟩
  by_cases e : i = m
  · subst e; rfl
  · rw [h4 i hi' (by omega)] at hii; cases hii
theorem FirstIn.same {S : List Half} {k : Half} {m : Nat} {x y d : Int} (h : FirstIn S k m x y d) (hd : d ≠ 0) (hi : m < S.length) (hq : lowSpot x y d = lowPt k S[m]) : FirstIn S k (m + 1) x y d := by
  rcases h with ⟨_, _, h3, _⟩ | ⟨f, hf, h1, h2, h3, h4, h5⟩
  · exact absurd h3 hd
  · refine .inr ⟨f, hf, h1, h2, h3, h4, fun i hi' him hii => ?_⟩
    by_cases e : i = m
    · subst e; rw [← hq, h2, h3, h4]; rfl
    · exact h5 i hi' (by omega) hii
theorem FirstIn.yes {S : List Half} (hS : Good S) {k : Half} (hk : k ∈ S) {m : Nat} {x y d : Int} (h : FirstIn S k m x y d) (hd : d ≠ 0) (hi : m < S.length) (hin : insideB S k S[m] = true) (hq : lowSpot x y d ≠ lowPt k S[m]) : edgeSb S k = true := by
  rcases h with ⟨_, _, h3, _⟩ | ⟨f, hf, h1, h2, h3, h4, h5⟩
  · exact absurd h3 hd
  · refine edge_yes hS hk hf (List.getElem_mem hi) h1 hin (fun e => hq ?_)
    rw [← e, h2, h3, h4]; rfl
theorem FirstIn.end_ {S : List Half} (hS : Good S) {k : Half} (hk : k ∈ S) {x y d : Int} (h : FirstIn S k S.length x y d) : edgeSb S k = false := by
  rcases h with ⟨_, _, _, h4⟩ | ⟨f, hf, h1, h2, h3, h4, h5⟩
  · refine edge_none hS hk (fun j hj => ?_)
    obtain ⟨i, hi, rfl⟩ := List.mem_iff_getElem.1 hj
    exact h4 i hi hi
  · refine edge_no hS hk (f := f) (fun j hj hin => ?_)
    obtain ⟨i, hi, rfl⟩ := List.mem_iff_getElem.1 hj
    exact h5 i hi hi hin
theorem FirstIn.box {S : List Half} {k : Half} {m : Nat} {x y d : Int} (h : FirstIn S k m x y d) (hd : d ≠ 0) : inBox x y d = true := by
  rcases h with ⟨_, _, h3, _⟩ | ⟨f, hf, h1, h2, h3, h4, h5⟩
  · exact absurd h3 hd
  · unfold insideB at h1
    rw [Bool.and_eq_true] at h1
    rw [h2, h3, h4]; exact h1.1
theorem ptB_of {k i : Half} (hk : SmallH k) (hi : SmallH i) : PtB (ptX k i) (ptY k i) (frD k i) := by
  obtain ⟨h1, h2, h3⟩ := pt_bd hk hi
  exact ⟨h1, h2, h3⟩
theorem insideB_box {S : List Half} {k f : Half} (h : insideB S k f = true) : inBox (ptX k f) (ptY k f) (frD k f) = true := by
  unfold insideB at h
  rw [Bool.and_eq_true] at h
  exact h.1
set_option maxHeartbeats 8000000 in
theorem l05IsEdge_any (A : Option Addr) (n c k : Nat) (S : List Half) (w : World) (hn : S.length = n) (hr : Row w A (ints (flat Half.ints S))) (hle : n ≤ 1048576) (hk : k < n) (hok : ∀ x ∈ S, halfOk x = true) (hS : Good S) :
    Calls Tryz.prog 122 #[.slice A n c, .int .i64 k] w fun e w' => e = .returned (.bool (edgeSb S (S.getD k ⟨0, 0, 0⟩))) ∧ Ext w w' := by
  have HR := Lib.hid hr
  have HN := Lib.hid hn
  have hkS : k < S.length := by omega
  have HSm : Hid (∀ i (hi : i < S.length), SmallH S[i]) := fun i hi => small_ok (hok _ (List.getElem_mem hi))
  have HSm2 : Hid (∀ h ∈ S, SmallH h) := fun h hh => small_ok (hok _ hh)
  have HGd : Hid (S.getD k ⟨0, 0, 0⟩ = S[k]'hkS) := getD_at (by omega)
  have Hyes := Lib.hid (fun m x y d (h : FirstIn S (S[k]'hkS) m x y d) hd hi hin hq => h.yes hS (List.getElem_mem hkS) hd hi hin hq)
  have Hend := Lib.hid (fun x y d (h : FirstIn S (S[k]'hkS) S.length x y d) => h.end_ hS (List.getElem_mem hkS))
  have sK := HSm.out k hkS
  have hrk := hr.Half (k := k) hkS
  obtain ⟨b, off, rfl, hb, k0, k1, k2⟩ := hrk
  obtain ⟨h, hh⟩ : ∃ h, S[k]'hkS = h := ⟨_, rfl⟩
  rw [hh] at k0 k1 k2 sK Hyes Hend HGd
  have Hh := Lib.hid hh
  have Hro : Hid (∀ w', Ext w w' → w'.cell? ⟨b, off + k * 3, none⟩ = some (.int .i64 h.A) ∧ w'.cell? ⟨b, off + k * 3 + 1, none⟩ = some (.int .i64 h.B) ∧ w'.cell? ⟨b, off + k * 3 + 2, none⟩ = some (.int .i64 h.C)) := fun w' hx => ⟨hx.cellOf k0, hx.cellOf k1, hx.cellOf k2⟩
  clear hh hr hn hok hS k0 k1 k2
  have hkl : (k : Int) < (n : Int) := by omega
  have hx0 : Ext w (w.alloc (.cells #[.int .i64 0, .int .i64 0, .int .i64 0] 178)) := (Ext.refl w).alloc _
  have bF0 := Blk.new w 178 #[.int .i64 0, .int .i64 0, .int .i64 0]
  have Hs := Lib.hid (And.intro hx0 bF0)
  clear hx0 bF0
  have HF0 : Hid (FirstIn S h 0 0 0 0) := .inl ⟨rfl, rfl, rfl, fun i hi h0 => by omega⟩
  go_enter Tryz.func122, Tryz.ntmps122
  go_wp2
  go_loopw [12] (fun i wr => ∃ (m : Nat) (x y d : Int), m ≤ n ∧ i = .int .i64 m ∧ Ext w wr ∧ Blk wr w.heap.size 178 #[.int .i64 x, .int .i64 y, .int .i64 d] ∧ FirstIn S h m x y d ∧ PtB x y d) (fun i _ => n - (intOf i).toNat)
  case atStart => exact ⟨0, 0, 0, 0, Nat.zero_le _, rfl, Hs.out.1, Hs.out.2, HF0.out, ⟨by omega, by omega, by omega⟩⟩
  case round =>
  obtain ⟨m, x, y, d, hm, rfl, hx, bF, hF, hP⟩ := hrel
  have HF := Lib.hid hF
  have HP := Lib.hid hP
  clear hF hP
  have ltF := bF.lt
  by_cases hlt : m < n
  rotate_left
  · obtain rfl : m = n := by omega
    have HE : Hid (edgeSb S h = false) := Hend.out x y d (by rw [HN.out]; exact HF.out)
    go_wp2
    go_ret
    exact ⟨ret_bool (by rw [HGd.out]; exact HE.out.symm), hx⟩
  have hml : m < S.length := by rw [HN.out]; exact hlt
  obtain ⟨b', off', hA, hb', c0, c1, c2⟩ := (HR.out.ext hx).Half (k := m) hml
  injection hA with hA
  injection hA with e1 e2
  subst e1
  subst e2
  have sG := HSm.out m hml
  obtain ⟨r0, r1, r2⟩ := Hro.out wr hx
  have Hskip := Lib.hid (fun (hm' : insideB S h (S[m]'hml) = false) => HF.out.skip (fun _ => hm'))
  have Hfirst := Lib.hid (fun hd hin => HF.out.first hd hml hin)
  have Hsame := Lib.hid (fun hd hq => HF.out.same hd hml hq)
  have Hdiff := Lib.hid (fun hd hin hq => Hyes.out m x y d HF.out hd hml hin hq)
  have Hself : Hid (∀ _ : m = k, insideB S h (S[m]'hml) = false) := fun e => by subst e; rw [Hh.out]; exact inside_self S h
  obtain ⟨g, hg⟩ : ∃ g, S[m]'hml = g := ⟨_, rfl⟩
  rw [hg] at c0 c1 c2 sG Hskip Hfirst Hsame Hdiff Hself
  clear hg
  have hx1 := hx.alloc (.cells #[.int .i64 g.A, .int .i64 g.B, .int .i64 g.C] 120)
  have bG := Blk.new wr 120 #[.int .i64 g.A, .int .i64 g.B, .int .i64 g.C]
  replace bF := bF.alloc (.cells #[.int .i64 g.A, .int .i64 g.B, .int .i64 g.C] 120)
  by_cases hmk : m = k
  · have Hq := Lib.hid (Hskip.out (Hself.out hmk))
    subst hmk
    go_wp2
    go_roundw
    case rel => exact ⟨m + 1, x, y, d, by omega, by go_num, hx1, bF, Hq.out, HP.out⟩
    case measure => simp [intOf]; omega
  have hne : ((m : Int) == (k : Int)) = false := by rw [beq_eq_false_iff_ne]; omega
  clear hmk
  obtain ⟨r0', r1', r2'⟩ := Hro.out _ hx1
  clear r0 r1 r2
  have HC := Lib.hid (fun w => l05Cross_any h g w sK sG)
  have hPt := ptB_of sK sG
  have HIb : Hid (insideB S h g = (inBox (ptX h g) (ptY h g) (frD h g) && S.all (inPt (ptX h g) (ptY h g) (frD h g)))) := rfl
  have HLp : Hid (lowPt h g = lowSpot (ptX h g) (ptY h g) (frD h g)) := rfl
  obtain ⟨px, hpx⟩ : ∃ v, ptX h g = v := ⟨_, rfl⟩
  obtain ⟨py, hpy⟩ : ∃ v, ptY h g = v := ⟨_, rfl⟩
  obtain ⟨pd, hpd⟩ : ∃ v, frD h g = v := ⟨_, rfl⟩
  rw [hpx, hpy, hpd] at HC hPt HIb HLp Hfirst
  have HPt := Lib.hid hPt
  clear hpx hpy hpd hPt
  have hcur := Ext.refl (wr.alloc (.cells #[.int .i64 g.A, .int .i64 g.B, .int .i64 g.C] 120))
  have cG := fun o => bG.cell o
  have hxs := hx.size
  have hn1 : ¬ b = wr.heap.size + 1 := by omega
  have hn2 : ¬ wr.heap.size + 1 = b := by omega
  go_wp2_with fail
  go_region_held3 (fun w' => w'.cell? ⟨b, off + k * 3, none⟩ = some (.int .i64 h.A) ∧ w'.cell? ⟨b, off + k * 3 + 1, none⟩ = some (.int .i64 h.B) ∧ w'.cell? ⟨b, off + k * 3 + 2, none⟩ = some (.int .i64 h.C) ∧ w'.cell? ⟨wr.heap.size, 0, none⟩ = some (.int .i64 g.A) ∧ w'.cell? ⟨wr.heap.size, 1, none⟩ = some (.int .i64 g.B) ∧ w'.cell? ⟨wr.heap.size, 2, none⟩ = some (.int .i64 g.C))
    (go_keep)
    ((go_at_call 144; (with_reducible refine (HC.out _).mono ?_); rintro e w9 ⟨rfl, hx9⟩; replace hcur := Ext.trans (by first | exact hcur | exact hcur.drew | exact hcur.alloc _ | exact (hcur.alloc _).drew | exact hcur.drew.alloc _) hx9; have c9 := fun o => hcur.use.1 b o (by simp; omega); have d9 := fun o => hcur.use.1 wr.heap.size o (by simp); have e9 := fun o hlt => hx9.use.1 (wr.heap.size + 1) o hlt; have f9 := fun o hlt => hx9.use.2.1 (wr.heap.size + 1) o hlt))
  · have bQ := Blk.new w9 178 #[.int .i64 px, .int .i64 py, .int .i64 pd]
    have hW := hcur.alloc (.cells #[.int .i64 px, .int .i64 py, .int .i64 pd] 178)
    clear c9 d9 e9 f9 hx9 cG r0' r1' r2' hn1 hn2 bG
    generalize w9.alloc (.cells #[.int .i64 px, .int .i64 py, .int .i64 pd] 178) = W2 at *
    generalize w9.heap.size = qb at *
    replace bF := bF.ext hW
    have hx2 := hx1.trans hW
    clear hW hcur
    have hx2s := hx2.size
    have cbF_11 := fun o => bF.cell o
    have fbF_11 := fun o => bF.frozen o
    have cbQ_12 := fun o => bQ.cell o
    go_wp2_with fail
    refine (l05Inside_any _ n c S px py pd _ HN.out (HR.out.ext hx2) (by unfold maxLen; omega) HSm2.out HPt.out).mono ?_
    rintro e w5 ⟨rfl, hx5⟩
    rw [← HIb.out]
    replace hx2 := hx2.trans hx5
    replace bF := bF.ext hx5
    replace bQ := bQ.ext hx5
    have cbF_13 := fun o => bF.cell o
    have fbF_13 := fun o => bF.frozen o
    have cbQ_14 := fun o => bQ.cell o
    have ltF2 := bF.lt
    by_cases hin : insideB S h g = true
    rotate_left
    · have hin' : insideB S h g = false := by simpa using hin
      have Hq := Lib.hid (Hskip.out hin')
      rw [hin']
      clear hin hin'
      go_wp2
      go_roundw
      case rel => exact ⟨m + 1, x, y, d, by omega, by go_num, hx2, bF, Hq.out, HP.out⟩
      case measure => simp [intOf]; omega
    rw [hin]
    by_cases hd0 : d = 0
    · have Hq := Lib.hid (Hfirst.out hd0 hin)
      have hd1 : (d == 0) = true := by simpa using hd0
      clear hin hd0
      go_wp2
      go_roundw
      case rel =>
        refine ⟨m + 1, px, py, pd, by omega, by go_num, ?_, ?_, Hq.out, HPt.out⟩
        · exact ((hx2.setCell (Nat.le_refl _) _).setCell (Nat.le_refl _) _).setCell (Nat.le_refl _) _
        · exact ((bF.set_ 0 (.int .i64 px)).set_ 1 (.int .i64 py)).set_ 2 (.int .i64 pd)
      case measure => simp [intOf]; omega
    · have hd1 : (d == 0) = false := by simpa using hd0
      have Hbx := Lib.hid (HF.out.box hd0)
      have hbx2 : inBox px py pd = true := by have := HIb.out; rw [hin] at this; have := this.symm; rw [Bool.and_eq_true] at this; exact this.1
      have HBx2 := Lib.hid hbx2
      have HSa : Hid (∀ _ : lowSpot x y d = lowSpot px py pd, FirstIn S h (m + 1) x y d) := fun e => Hsame.out hd0 (e.trans HLp.out.symm)
      have HDi : Hid (∀ _ : ¬ lowSpot x y d = lowSpot px py pd, edgeSb S h = true) := fun e => Hdiff.out hd0 hin (fun e2 => e (e2.trans HLp.out))
      clear hin hd0 hbx2
      go_wp2_with fail
      refine (l05Differ_any x y d px py pd _ HP.out HPt.out Hbx.out HBx2.out).mono ?_
      rintro e w6 ⟨rfl, hx6⟩
      replace hx2 := hx2.trans hx6
      replace bF := bF.ext hx6
      replace bQ := bQ.ext hx6
      have cbF_15 := fun o => bF.cell o
      have fbF_15 := fun o => bF.frozen o
      have cbQ_16 := fun o => bQ.cell o
      by_cases he : lowSpot x y d = lowSpot px py pd
      · have Hq := Lib.hid (HSa.out he)
        rw [decide_eq_false (fun h => h he)]
        clear he
        go_wp2
        go_roundw
        case rel => exact ⟨m + 1, x, y, d, by omega, by go_num, hx2, bF, Hq.out, HP.out⟩
        case measure => simp [intOf]; omega
      · have Hq := Lib.hid (HDi.out he)
        rw [decide_eq_true he]
        clear he
        go_wp2
        go_ret
        exact ⟨ret_bool (by rw [HGd.out]; exact Hq.out.symm), hx2⟩
  · have bQ00 : Blk ((wr.alloc (.cells #[.int .i64 g.A, .int .i64 g.B, .int .i64 g.C] 120)).alloc (.cells #[.int .i64 0, .int .i64 0, .int .i64 0] 178)) (wr.heap.size + 1) 178 #[.int .i64 0, .int .i64 0, .int .i64 0] := by simpa using Blk.new (wr.alloc (.cells #[.int .i64 g.A, .int .i64 g.B, .int .i64 g.C] 120)) 178 #[.int .i64 0, .int .i64 0, .int .i64 0]
    have bQ0 := Blk.ext (w := ((wr.alloc (.cells #[.int .i64 g.A, .int .i64 g.B, .int .i64 g.C] 120)).alloc (.cells #[.int .i64 0, .int .i64 0, .int .i64 0] 178)).drew) bQ00 hx9
    have bQ : Blk _ _ _ #[.int .i64 px, .int .i64 py, .int .i64 pd] := ((bQ0.set_ 0 (.int .i64 px)).set_ 1 (.int .i64 py)).set_ 2 (.int .i64 pd)
    have hW := ((hcur.setCell (p := ⟨wr.heap.size + 1, 0, none⟩) (by simp) (.int .i64 px)).setCell (p := ⟨wr.heap.size + 1, 1, none⟩) (by simp) (.int .i64 py)).setCell (p := ⟨wr.heap.size + 1, 2, none⟩) (by simp) (.int .i64 pd)
    clear c9 d9 e9 f9 hx9 cG r0' r1' r2' hn1 hn2 bG bQ0 bQ00
    generalize ((w9.setCell ⟨wr.heap.size + 1, 0, none⟩ (.int .i64 px)).setCell ⟨wr.heap.size + 1, 1, none⟩ (.int .i64 py)).setCell ⟨wr.heap.size + 1, 2, none⟩ (.int .i64 pd) = W2 at *
    generalize wr.heap.size + 1 = qb at *
    replace bF := bF.ext hW
    have hx2 := hx1.trans hW
    clear hW hcur
    have hx2s := hx2.size
    have cbF_17 := fun o => bF.cell o
    have fbF_17 := fun o => bF.frozen o
    have cbQ_18 := fun o => bQ.cell o
    go_wp2_with fail
    refine (l05Inside_any _ n c S px py pd _ HN.out (HR.out.ext hx2) (by unfold maxLen; omega) HSm2.out HPt.out).mono ?_
    rintro e w5 ⟨rfl, hx5⟩
    rw [← HIb.out]
    replace hx2 := hx2.trans hx5
    replace bF := bF.ext hx5
    replace bQ := bQ.ext hx5
    have cbF_19 := fun o => bF.cell o
    have fbF_19 := fun o => bF.frozen o
    have cbQ_20 := fun o => bQ.cell o
    have ltF2 := bF.lt
    by_cases hin : insideB S h g = true
    rotate_left
    · have hin' : insideB S h g = false := by simpa using hin
      have Hq := Lib.hid (Hskip.out hin')
      rw [hin']
      clear hin hin'
      go_wp2
      go_roundw
      case rel => exact ⟨m + 1, x, y, d, by omega, by go_num, hx2, bF, Hq.out, HP.out⟩
      case measure => simp [intOf]; omega
    rw [hin]
    by_cases hd0 : d = 0
    · have Hq := Lib.hid (Hfirst.out hd0 hin)
      have hd1 : (d == 0) = true := by simpa using hd0
      clear hin hd0
      go_wp2
      go_roundw
      case rel =>
        refine ⟨m + 1, px, py, pd, by omega, by go_num, ?_, ?_, Hq.out, HPt.out⟩
        · exact ((hx2.setCell (Nat.le_refl _) _).setCell (Nat.le_refl _) _).setCell (Nat.le_refl _) _
        · exact ((bF.set_ 0 (.int .i64 px)).set_ 1 (.int .i64 py)).set_ 2 (.int .i64 pd)
      case measure => simp [intOf]; omega
    · have hd1 : (d == 0) = false := by simpa using hd0
      have Hbx := Lib.hid (HF.out.box hd0)
      have hbx2 : inBox px py pd = true := by have := HIb.out; rw [hin] at this; have := this.symm; rw [Bool.and_eq_true] at this; exact this.1
      have HBx2 := Lib.hid hbx2
      have HSa : Hid (∀ _ : lowSpot x y d = lowSpot px py pd, FirstIn S h (m + 1) x y d) := fun e => Hsame.out hd0 (e.trans HLp.out.symm)
      have HDi : Hid (∀ _ : ¬ lowSpot x y d = lowSpot px py pd, edgeSb S h = true) := fun e => Hdiff.out hd0 hin (fun e2 => e (e2.trans HLp.out))
      clear hin hd0 hbx2
      go_wp2_with fail
      refine (l05Differ_any x y d px py pd _ HP.out HPt.out Hbx.out HBx2.out).mono ?_
      rintro e w6 ⟨rfl, hx6⟩
      replace hx2 := hx2.trans hx6
      replace bF := bF.ext hx6
      replace bQ := bQ.ext hx6
      have cbF_21 := fun o => bF.cell o
      have fbF_21 := fun o => bF.frozen o
      have cbQ_22 := fun o => bQ.cell o
      by_cases he : lowSpot x y d = lowSpot px py pd
      · have Hq := Lib.hid (HSa.out he)
        rw [decide_eq_false (fun h => h he)]
        clear he
        go_wp2
        go_roundw
        case rel => exact ⟨m + 1, x, y, d, by omega, by go_num, hx2, bF, Hq.out, HP.out⟩
        case measure => simp [intOf]; omega
      · have Hq := Lib.hid (HDi.out he)
        rw [decide_eq_true he]
        clear he
        go_wp2
        go_ret
        exact ⟨ret_bool (by rw [HGd.out]; exact Hq.out.symm), hx2⟩
end Go.Proofs.YtjghabbcjpfjeaaGreatDoor
