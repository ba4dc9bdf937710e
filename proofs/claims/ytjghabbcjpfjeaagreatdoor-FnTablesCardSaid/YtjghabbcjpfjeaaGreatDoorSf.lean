/- Contracts of spots made of numbers: SpotOf of the reference (and equality of spots). -/
import Derived.Test.YtjghabbcjpfjeaaGreatDoorSo
import Derived.Test.YtjghabbcjpfjeaaGreatDoorPz
import Derived.Deep.RegionHeld3
import Derived.IntWalk
import Derived.Laws.StructEq
namespace Go.Proofs.YtjghabbcjpfjeaaGreatDoor
open Go.ChangeShapes Go.WideShapes Go.ChangeAt Go.RowKit
set_option linter.unusedVariables false
set_option maxRecDepth 100000

def spotOf (x y d : Int) : Spot × Bool := if 0 < d ∧ isLeastI x = false ∧ isLeastI y = false ∧ spotOk (lowSpot x y d) = true then (lowSpot x y d, true) else (⟨0, 0, 0⟩, false)
theorem spotOf_no {x y d : Int} (h : ¬ (0 < d ∧ isLeastI x = false ∧ isLeastI y = false ∧ spotOk (lowSpot x y d) = true)) : spotOf x y d = (⟨0, 0, 0⟩, false) := if_neg h
theorem spotOf_yes {x y d : Int} (h : 0 < d ∧ isLeastI x = false ∧ isLeastI y = false ∧ spotOk (lowSpot x y d) = true) : spotOf x y d = (lowSpot x y d, true) := if_pos h
theorem least_not {n : Int} (h : n ≠ -9223372036854775808) : isLeastI n = false := by unfold isLeastI; exact decide_eq_false h
theorem gcdI_norm {a b : Int} (ha : isLeastI a = false) (hb : isLeastI b = false) : gcdI a b = (Int.gcd a b : Int) := by unfold gcdI; rw [if_neg (by rw [ha, hb]; simp)]
theorem gcdI_I64 {a b : Int} (ha : I64 a) (hb : I64 b) : I64 (gcdI a b) ∧ 0 ≤ gcdI a b ∧ gcdI a b ≤ 9223372036854775807 := by
  unfold I64 at *
  by_cases h : isLeastI a = true ∨ isLeastI b = true
  · unfold gcdI; rw [if_pos h]; omega
  · have h1 : isLeastI a = false := by simpa using fun e => h (.inl e)
    have h2 : isLeastI b = false := by simpa using fun e => h (.inr e)
    rw [gcdI_norm h1 h2]
    have e1 : a ≠ -9223372036854775808 := by rintro rfl; revert h1; decide
    have e2 : b ≠ -9223372036854775808 := by rintro rfl; revert h2; decide
    have h3 : Int.gcd a b ≤ 9223372036854775807 := by
      rcases Nat.eq_zero_or_pos a.natAbs with e | e
      · rw [Int.gcd, e, Nat.gcd_zero_left]; omega
      · exact Nat.le_trans (Nat.gcd_le_left _ e) (by omega)
    omega
theorem gcdI_3 {x y d : Int} (hx : I64 x) (hy : I64 y) (h1 : isLeastI x = false) (h2 : isLeastI y = false) (hd : isLeastI d = false) : gcdI (gcdI x y) d = (gcd3 x y d : Int) := by
  obtain ⟨_, h0, h9⟩ := gcdI_I64 hx hy
  rw [gcdI_norm (a := gcdI x y) (least_not (by omega)) hd, gcdI_norm h1 h2]
  unfold gcd3 Int.gcd
  rfl
theorem low_I64 {x y d : Int} (hd : 0 < d) (hx : I64 x) (hy : I64 y) (hdd : I64 d) : I64 (lowSpot x y d).X ∧ I64 (lowSpot x y d).Y ∧ I64 (lowSpot x y d).D := by
  have hg := gcd3_pos (x := x) (y := y) hd
  have key : ∀ n : Int, I64 n → I64 (n / (gcd3 x y d : Int)) := fun n hn => by
    unfold I64 at *
    have hg' : (1 : Int) ≤ (gcd3 x y d : Int) := by omega
    constructor
    · rcases Int.lt_or_le n 0 with h | h
      · have : n ≤ n / (gcd3 x y d : Int) := by
          rw [Int.le_ediv_iff_mul_le (by omega)]
          have := Int.mul_le_mul_of_nonpos_left (a := n) (Int.le_of_lt h) hg'
          omega
        omega
      · have := Int.ediv_nonneg h (show (0 : Int) ≤ (gcd3 x y d : Int) by omega); omega
    · rcases Int.lt_or_le n 0 with h | h
      · have := Int.ediv_neg_of_neg_of_pos h (show (0 : Int) < (gcd3 x y d : Int) by omega); omega
      · have := Int.ediv_le_self (a := n) (gcd3 x y d : Int) h; omega
  exact ⟨key x hx, key y hy, key d hdd⟩
theorem low_tdiv {x y d : Int} (hd : 0 < d) : x.tdiv (gcd3 x y d : Int) = (lowSpot x y d).X ∧ y.tdiv (gcd3 x y d : Int) = (lowSpot x y d).Y ∧ d.tdiv (gcd3 x y d : Int) = (lowSpot x y d).D := by
  obtain ⟨h1, h2, h3⟩ := gcd3_dvd x y d
  exact ⟨Int.tdiv_eq_ediv_of_dvd h1, Int.tdiv_eq_ediv_of_dvd h2, Int.tdiv_eq_ediv_of_dvd h3⟩
theorem wrap_I64 {n : Int} (h : I64 n) : IntKind.i64.wrap n = n := by rw [wrapS]; unfold I64 at h; omega

set_option maxHeartbeats 4000000 in
theorem specSpotOf_any (x y d : Int) (w : World) (hx : I64 x) (hy : I64 y) (hd : I64 d) :
    Calls Tryz.prog 165 #[.int .i64 x, .int .i64 y, .int .i64 d] w fun e w' => e = .returned (.tuple #[.agg #[.int .i64 (spotOf x y d).1.X, .int .i64 (spotOf x y d).1.Y, .int .i64 (spotOf x y d).1.D], .bool (spotOf x y d).2]) ∧ Ext w w' := by
  have hE : Ext w (w.alloc (.cells #[.int .i64 0, .int .i64 0, .int .i64 0] 30)) := (Ext.refl w).alloc _
  have b0 := Blk.new w 30 #[.int .i64 0, .int .i64 0, .int .i64 0]
  by_cases h0 : d ≤ 0
  · have H := Lib.hid (spotOf_no (x := x) (y := y) (d := d) (fun h => by omega))
    have c0 := fun o => b0.cell o
    go_enter Tryz.func165, Tryz.ntmps165
    go_wp2
    refine bodyPost_ret (v := .tuple #[.agg #[.int .i64 0, .int .i64 0, .int .i64 0], .bool false]) (by simp [results, Tryz.results165, go_sem, c0]) rfl ⟨by rw [H.out], ?_⟩
    all_goals (repeat (first | exact hE | refine Ext.alloc ?_ _ | refine Ext.setCell ?_ (by first | omega | (simp <;> omega)) _ | refine Ext.drewN ?_ _ | refine Ext.drew ?_))
  have hdl : isLeastI d = false := least_not (by omega)
  have Hx := Lib.hid hx
  have Hy := Lib.hid hy
  have Hd := Lib.hid hd
  obtain ⟨hpI, hp0, hp9⟩ := gcdI_I64 hx hy
  have HpI := Lib.hid hpI
  have G0 := Lib.hid (fun w => specGcd_any x y w hx hy)
  have G1 := Lib.hid (fun w => specGcd_any (gcdI x y) d w hpI hd)
  have G2 := Lib.hid (fun w => specGcd_any x d w hx hd)
  have G3 := Lib.hid (fun w => specGcd_any y d w hy hd)
  have hxz : ∀ n : Int, I64 n → isLeastI n = true → gcdI n d = 0 ∧ n ≠ 0 := fun n _ h => by
    refine ⟨by unfold gcdI; rw [if_pos (.inl h)], ?_⟩
    rintro rfl
    revert h
    decide
  have hxn : ∀ n : Int, I64 n → isLeastI n = false → n ≠ 0 → gcdI n d ≠ 0 := fun n _ h hn => by
    rw [gcdI_norm h hdl]
    have : 0 < Int.gcd n d := Int.gcd_pos_of_ne_zero_left d hn
    omega
  clear hx hy hpI
  rcases Bool.eq_false_or_eq_true (isLeastI x) with hlx | hlx
  · have H := Lib.hid (spotOf_no (x := x) (y := y) (d := d) (fun h => by rw [hlx] at h; cases h.2.1))
    obtain ⟨e1, e2⟩ := hxz x Hx.out hlx
    have e3 : (x != 0) = true := by simpa using e2
    rw [e1] at G2
    clear hxz hxn hlx e1 e2 hdl hd
    go_enter Tryz.func165, Tryz.ntmps165
    go_wp2_with fail
    refine (G0.out _).mono ?_
    rintro e w1 ⟨rfl, hx1⟩
    replace hE := hE.trans hx1
    replace b0 := b0.ext hx1
    have cb0_1 := fun o => b0.cell o
    have fb0_1 := fun o => b0.frozen o
    go_wp2_with fail
    refine (G1.out _).mono ?_
    rintro e w2 ⟨rfl, hx2⟩
    replace hE := hE.trans hx2
    replace b0 := b0.ext hx2
    have cb0_2 := fun o => b0.cell o
    have fb0_2 := fun o => b0.frozen o
    go_wp2_with fail
    refine (G2.out _).mono ?_
    rintro e w3 ⟨rfl, hx3⟩
    replace hE := hE.trans hx3
    replace b0 := b0.ext hx3
    have cb0_3 := fun o => b0.cell o
    have fb0_3 := fun o => b0.frozen o
    go_wp2
    have c0 := fun o => b0.cell o
    refine bodyPost_ret (v := .tuple #[.agg #[.int .i64 0, .int .i64 0, .int .i64 0], .bool false]) (by simp [results, Tryz.results165, go_sem, c0]) rfl ⟨by rw [H.out], ?_⟩
    all_goals (repeat (first | exact hE | refine Ext.alloc ?_ _ | refine Ext.setCell ?_ (by first | omega | (simp <;> omega)) _ | refine Ext.drewN ?_ _ | refine Ext.drew ?_))
  rcases Bool.eq_false_or_eq_true (isLeastI y) with hly | hly
  · have H := Lib.hid (spotOf_no (x := x) (y := y) (d := d) (fun h => by rw [hly] at h; cases h.2.2.1))
    obtain ⟨e1, e2⟩ := hxz y Hy.out hly
    have e3 : (y != 0) = true := by simpa using e2
    rw [e1] at G3
    by_cases hx0 : x = 0
    · have f3 : (x != 0) = false := by simpa using hx0
      clear hxz hxn hlx hly e1 e2 hdl hd hx0
      go_enter Tryz.func165, Tryz.ntmps165
      go_wp2_with fail
      refine (G0.out _).mono ?_
      rintro e w1 ⟨rfl, hx1⟩
      replace hE := hE.trans hx1
      replace b0 := b0.ext hx1
      have cb0_4 := fun o => b0.cell o
      have fb0_4 := fun o => b0.frozen o
      go_wp2_with fail
      refine (G1.out _).mono ?_
      rintro e w2 ⟨rfl, hx2⟩
      replace hE := hE.trans hx2
      replace b0 := b0.ext hx2
      have cb0_5 := fun o => b0.cell o
      have fb0_5 := fun o => b0.frozen o
      go_wp2_with fail
      refine (G3.out _).mono ?_
      rintro e w3 ⟨rfl, hx3⟩
      replace hE := hE.trans hx3
      replace b0 := b0.ext hx3
      have cb0_6 := fun o => b0.cell o
      have fb0_6 := fun o => b0.frozen o
      go_wp2
      have c0 := fun o => b0.cell o
      refine bodyPost_ret (v := .tuple #[.agg #[.int .i64 0, .int .i64 0, .int .i64 0], .bool false]) (by simp [results, Tryz.results165, go_sem, c0]) rfl ⟨by rw [H.out], ?_⟩
      all_goals (repeat (first | exact hE | refine Ext.alloc ?_ _ | refine Ext.setCell ?_ (by first | omega | (simp <;> omega)) _ | refine Ext.drewN ?_ _ | refine Ext.drew ?_))
    · have f3 : (x != 0) = true := by simpa using hx0
      have f4 : (gcdI x d == 0) = false := by simpa using hxn x Hx.out hlx hx0
      clear hxz hxn hlx hly e1 e2 hdl hd hx0
      go_enter Tryz.func165, Tryz.ntmps165
      go_wp2_with fail
      refine (G0.out _).mono ?_
      rintro e w1 ⟨rfl, hx1⟩
      replace hE := hE.trans hx1
      replace b0 := b0.ext hx1
      have cb0_7 := fun o => b0.cell o
      have fb0_7 := fun o => b0.frozen o
      go_wp2_with fail
      refine (G1.out _).mono ?_
      rintro e w2 ⟨rfl, hx2⟩
      replace hE := hE.trans hx2
      replace b0 := b0.ext hx2
      have cb0_8 := fun o => b0.cell o
      have fb0_8 := fun o => b0.frozen o
      go_wp2_with fail
      refine (G2.out _).mono ?_
      rintro e w3 ⟨rfl, hx3⟩
      replace hE := hE.trans hx3
      replace b0 := b0.ext hx3
      have cb0_9 := fun o => b0.cell o
      have fb0_9 := fun o => b0.frozen o
      go_wp2_with fail
      refine (G3.out _).mono ?_
      rintro e w4 ⟨rfl, hx4⟩
      replace hE := hE.trans hx4
      replace b0 := b0.ext hx4
      have cb0_10 := fun o => b0.cell o
      have fb0_10 := fun o => b0.frozen o
      go_wp2
      have c0 := fun o => b0.cell o
      refine bodyPost_ret (v := .tuple #[.agg #[.int .i64 0, .int .i64 0, .int .i64 0], .bool false]) (by simp [results, Tryz.results165, go_sem, c0]) rfl ⟨by rw [H.out], ?_⟩
      all_goals (repeat (first | exact hE | refine Ext.alloc ?_ _ | refine Ext.setCell ?_ (by first | omega | (simp <;> omega)) _ | refine Ext.drewN ?_ _ | refine Ext.drew ?_))
  have hg3 := gcdI_3 Hx.out Hy.out hlx hly hdl
  rw [hg3] at G1
  have hgp := gcd3_pos (x := x) (y := y) (d := d) (by omega)
  obtain ⟨t1, t2, t3⟩ := low_tdiv (x := x) (y := y) (d := d) (by omega)
  obtain ⟨l1, l2, l3⟩ := low_I64 (x := x) (y := y) (d := d) (by omega) Hx.out Hy.out Hd.out
  have w1 : IntKind.i64.wrap (x.tdiv (gcd3 x y d : Int)) = (lowSpot x y d).X := by rw [t1]; exact wrap_I64 l1
  have w2 : IntKind.i64.wrap (y.tdiv (gcd3 x y d : Int)) = (lowSpot x y d).Y := by rw [t2]; exact wrap_I64 l2
  have w3 : IntKind.i64.wrap (d.tdiv (gcd3 x y d : Int)) = (lowSpot x y d).D := by rw [t3]; exact wrap_I64 l3
  have HY := Lib.hid (fun h => spotOf_yes (x := x) (y := y) (d := d) ⟨by omega, hlx, hly, h⟩)
  have HNo := Lib.hid (fun (h : spotOk (lowSpot x y d) = false) => spotOf_no (x := x) (y := y) (d := d) (fun e => by rw [h] at e; cases e.2.2.2))
  have HS := Lib.hid (fun w => specSpotOk_any (lowSpot x y d).X (lowSpot x y d).Y (lowSpot x y d).D w l1 l2 l3)
  have fx : Hid (∀ _ : x ≠ 0, (gcdI x d == 0) = false) := fun hn => by simpa using hxn x Hx.out hlx hn
  have fy : Hid (∀ _ : y ≠ 0, (gcdI y d == 0) = false) := fun hn => by simpa using hxn y Hy.out hly hn
  have HG3 := Lib.hid hg3
  have hgp2 : (0 : Int) < (gcd3 x y d : Int) := by omega
  obtain ⟨g, hg⟩ : ∃ g : Int, (gcd3 x y d : Int) = g := ⟨_, rfl⟩
  rw [hg] at G1 w1 w2 w3 hgp2
  have hgz : (g == 0) = false := by rw [beq_eq_false_iff_ne]; omega
  have hgz2 : ¬ g = 0 := by omega
  obtain ⟨s, hs⟩ : ∃ s, lowSpot x y d = s := ⟨_, rfl⟩
  rw [hs] at w1 w2 w3 HY HNo HS
  change Hid (∀ w, Calls Tryz.prog _ _ w fun e w' => e = .returned (.bool (spotOk s)) ∧ Ext w w') at HS
  clear hxz hxn hlx hly hdl hd hg3 t1 t2 t3 l1 l2 l3 hg hs hgp
  by_cases hx0 : x = 0
  · have f3 : (x != 0) = false := by simpa using hx0
    clear hx0
    by_cases hy0 : y = 0
    · have f4 : (y != 0) = false := by simpa using hy0
      clear hy0
      go_enter Tryz.func165, Tryz.ntmps165
      go_wp2_with fail
      refine (G0.out _).mono ?_
      rintro e w1 ⟨rfl, hx1⟩
      replace hE := hE.trans hx1
      replace b0 := b0.ext hx1
      have cb0_11 := fun o => b0.cell o
      have fb0_11 := fun o => b0.frozen o
      go_wp2_with fail
      refine (G1.out _).mono ?_
      rintro e w2 ⟨rfl, hx2⟩
      replace hE := hE.trans hx2
      replace b0 := b0.ext hx2
      have cb0_12 := fun o => b0.cell o
      have fb0_12 := fun o => b0.frozen o
      go_wp2_with fail
      go_region_held3 (fun w' => w'.cell? ⟨w.heap.size, 0, none⟩ = some (.int .i64 0)) (go_keep) (fail)
      have b2 : Blk (w2.alloc (.cells #[.int .i64 s.X, .int .i64 s.Y, .int .i64 s.D] 30)).drew w2.heap.size 30 #[.int .i64 s.X, .int .i64 s.Y, .int .i64 s.D] := Blk.new w2 30 #[.int .i64 s.X, .int .i64 s.Y, .int .i64 s.D]
      have hx2 : Ext w2 (w2.alloc (.cells #[.int .i64 s.X, .int .i64 s.Y, .int .i64 s.D] 30)).drew := ((Ext.refl w2).alloc _).drew
      have hlt := b0.lt
      generalize (w2.alloc (.cells #[.int .i64 s.X, .int .i64 s.Y, .int .i64 s.D] 30)).drew = w8 at *
      replace hE := hE.trans hx2
      replace b0 := b0.ext hx2
      have cb0_13 := fun o => b0.cell o
      have fb0_13 := fun o => b0.frozen o
      have c2 := fun o => b2.cell o
      go_wp2_with fail
      refine (HS.out _).mono ?_
      rintro e w9 ⟨rfl, hx9⟩
      replace hE := hE.trans hx9
      replace b0 := b0.ext hx9
      have cb0_14 := fun o => b0.cell o
      have fb0_14 := fun o => b0.frozen o
      replace b2 := b2.ext hx9
      clear c2
      have c2 := fun o => b2.cell o
      have c0 := fun o => b0.cell o
      by_cases hok : spotOk s = true
      · have H := Lib.hid (HY.out hok)
        rw [hok]
        clear hok
        go_wp2
        refine bodyPost_ret (v := .tuple #[.agg #[.int .i64 s.X, .int .i64 s.Y, .int .i64 s.D], .bool true]) (by simp [results, Tryz.results165, go_sem, c0]) rfl ⟨by rw [H.out], ?_⟩
        all_goals (repeat (first | exact hE | refine Ext.alloc ?_ _ | refine Ext.setCell ?_ (by first | omega | (simp <;> omega)) _ | refine Ext.drewN ?_ _ | refine Ext.drew ?_))
      · have hok' : spotOk s = false := by simpa using hok
        have H := Lib.hid (HNo.out hok')
        rw [hok']
        clear hok hok'
        go_wp2
        refine bodyPost_ret (v := .tuple #[.agg #[.int .i64 0, .int .i64 0, .int .i64 0], .bool false]) (by simp [results, Tryz.results165, go_sem, c0]) rfl ⟨by rw [H.out], ?_⟩
        all_goals (repeat (first | exact hE | refine Ext.alloc ?_ _ | refine Ext.setCell ?_ (by first | omega | (simp <;> omega)) _ | refine Ext.drewN ?_ _ | refine Ext.drew ?_))
    · have f4 : (y != 0) = true := by simpa using hy0
      have f5 := fy.out hy0
      clear hy0
      go_enter Tryz.func165, Tryz.ntmps165
      go_wp2_with fail
      refine (G0.out _).mono ?_
      rintro e w1 ⟨rfl, hx1⟩
      replace hE := hE.trans hx1
      replace b0 := b0.ext hx1
      have cb0_15 := fun o => b0.cell o
      have fb0_15 := fun o => b0.frozen o
      go_wp2_with fail
      refine (G1.out _).mono ?_
      rintro e w2 ⟨rfl, hx2⟩
      replace hE := hE.trans hx2
      replace b0 := b0.ext hx2
      have cb0_16 := fun o => b0.cell o
      have fb0_16 := fun o => b0.frozen o
      go_wp2_with fail
      refine (G3.out _).mono ?_
      rintro e w3 ⟨rfl, hx3⟩
      replace hE := hE.trans hx3
      replace b0 := b0.ext hx3
      have cb0_17 := fun o => b0.cell o
      have fb0_17 := fun o => b0.frozen o
      go_wp2_with fail
      go_region_held3 (fun w' => w'.cell? ⟨w.heap.size, 0, none⟩ = some (.int .i64 0)) (go_keep) (fail)
      have b2 : Blk (w3.alloc (.cells #[.int .i64 s.X, .int .i64 s.Y, .int .i64 s.D] 30)).drew w3.heap.size 30 #[.int .i64 s.X, .int .i64 s.Y, .int .i64 s.D] := Blk.new w3 30 #[.int .i64 s.X, .int .i64 s.Y, .int .i64 s.D]
      have hx2 : Ext w3 (w3.alloc (.cells #[.int .i64 s.X, .int .i64 s.Y, .int .i64 s.D] 30)).drew := ((Ext.refl w3).alloc _).drew
      have hlt := b0.lt
      generalize (w3.alloc (.cells #[.int .i64 s.X, .int .i64 s.Y, .int .i64 s.D] 30)).drew = w8 at *
      replace hE := hE.trans hx2
      replace b0 := b0.ext hx2
      have cb0_18 := fun o => b0.cell o
      have fb0_18 := fun o => b0.frozen o
      have c2 := fun o => b2.cell o
      go_wp2_with fail
      refine (HS.out _).mono ?_
      rintro e w9 ⟨rfl, hx9⟩
      replace hE := hE.trans hx9
      replace b0 := b0.ext hx9
      have cb0_19 := fun o => b0.cell o
      have fb0_19 := fun o => b0.frozen o
      replace b2 := b2.ext hx9
      clear c2
      have c2 := fun o => b2.cell o
      have c0 := fun o => b0.cell o
      by_cases hok : spotOk s = true
      · have H := Lib.hid (HY.out hok)
        rw [hok]
        clear hok
        go_wp2
        refine bodyPost_ret (v := .tuple #[.agg #[.int .i64 s.X, .int .i64 s.Y, .int .i64 s.D], .bool true]) (by simp [results, Tryz.results165, go_sem, c0]) rfl ⟨by rw [H.out], ?_⟩
        all_goals (repeat (first | exact hE | refine Ext.alloc ?_ _ | refine Ext.setCell ?_ (by first | omega | (simp <;> omega)) _ | refine Ext.drewN ?_ _ | refine Ext.drew ?_))
      · have hok' : spotOk s = false := by simpa using hok
        have H := Lib.hid (HNo.out hok')
        rw [hok']
        clear hok hok'
        go_wp2
        refine bodyPost_ret (v := .tuple #[.agg #[.int .i64 0, .int .i64 0, .int .i64 0], .bool false]) (by simp [results, Tryz.results165, go_sem, c0]) rfl ⟨by rw [H.out], ?_⟩
        all_goals (repeat (first | exact hE | refine Ext.alloc ?_ _ | refine Ext.setCell ?_ (by first | omega | (simp <;> omega)) _ | refine Ext.drewN ?_ _ | refine Ext.drew ?_))
  · have f3 : (x != 0) = true := by simpa using hx0
    have f6 := fx.out hx0
    clear hx0
    by_cases hy0 : y = 0
    · have f4 : (y != 0) = false := by simpa using hy0
      clear hy0
      go_enter Tryz.func165, Tryz.ntmps165
      go_wp2_with fail
      refine (G0.out _).mono ?_
      rintro e w1 ⟨rfl, hx1⟩
      replace hE := hE.trans hx1
      replace b0 := b0.ext hx1
      have cb0_20 := fun o => b0.cell o
      have fb0_20 := fun o => b0.frozen o
      go_wp2_with fail
      refine (G1.out _).mono ?_
      rintro e w2 ⟨rfl, hx2⟩
      replace hE := hE.trans hx2
      replace b0 := b0.ext hx2
      have cb0_21 := fun o => b0.cell o
      have fb0_21 := fun o => b0.frozen o
      go_wp2_with fail
      refine (G2.out _).mono ?_
      rintro e w3 ⟨rfl, hx3⟩
      replace hE := hE.trans hx3
      replace b0 := b0.ext hx3
      have cb0_22 := fun o => b0.cell o
      have fb0_22 := fun o => b0.frozen o
      go_wp2_with fail
      go_region_held3 (fun w' => w'.cell? ⟨w.heap.size, 0, none⟩ = some (.int .i64 0)) (go_keep) (fail)
      have b2 : Blk (w3.alloc (.cells #[.int .i64 s.X, .int .i64 s.Y, .int .i64 s.D] 30)).drew w3.heap.size 30 #[.int .i64 s.X, .int .i64 s.Y, .int .i64 s.D] := Blk.new w3 30 #[.int .i64 s.X, .int .i64 s.Y, .int .i64 s.D]
      have hx2 : Ext w3 (w3.alloc (.cells #[.int .i64 s.X, .int .i64 s.Y, .int .i64 s.D] 30)).drew := ((Ext.refl w3).alloc _).drew
      have hlt := b0.lt
      generalize (w3.alloc (.cells #[.int .i64 s.X, .int .i64 s.Y, .int .i64 s.D] 30)).drew = w8 at *
      replace hE := hE.trans hx2
      replace b0 := b0.ext hx2
      have cb0_23 := fun o => b0.cell o
      have fb0_23 := fun o => b0.frozen o
      have c2 := fun o => b2.cell o
      go_wp2_with fail
      refine (HS.out _).mono ?_
      rintro e w9 ⟨rfl, hx9⟩
      replace hE := hE.trans hx9
      replace b0 := b0.ext hx9
      have cb0_24 := fun o => b0.cell o
      have fb0_24 := fun o => b0.frozen o
      replace b2 := b2.ext hx9
      clear c2
      have c2 := fun o => b2.cell o
      have c0 := fun o => b0.cell o
      by_cases hok : spotOk s = true
      · have H := Lib.hid (HY.out hok)
        rw [hok]
        clear hok
        go_wp2
        refine bodyPost_ret (v := .tuple #[.agg #[.int .i64 s.X, .int .i64 s.Y, .int .i64 s.D], .bool true]) (by simp [results, Tryz.results165, go_sem, c0]) rfl ⟨by rw [H.out], ?_⟩
        all_goals (repeat (first | exact hE | refine Ext.alloc ?_ _ | refine Ext.setCell ?_ (by first | omega | (simp <;> omega)) _ | refine Ext.drewN ?_ _ | refine Ext.drew ?_))
      · have hok' : spotOk s = false := by simpa using hok
        have H := Lib.hid (HNo.out hok')
        rw [hok']
        clear hok hok'
        go_wp2
        refine bodyPost_ret (v := .tuple #[.agg #[.int .i64 0, .int .i64 0, .int .i64 0], .bool false]) (by simp [results, Tryz.results165, go_sem, c0]) rfl ⟨by rw [H.out], ?_⟩
        all_goals (repeat (first | exact hE | refine Ext.alloc ?_ _ | refine Ext.setCell ?_ (by first | omega | (simp <;> omega)) _ | refine Ext.drewN ?_ _ | refine Ext.drew ?_))
    · have f4 : (y != 0) = true := by simpa using hy0
      have f5 := fy.out hy0
      clear hy0
      go_enter Tryz.func165, Tryz.ntmps165
      go_wp2_with fail
      refine (G0.out _).mono ?_
      rintro e w1 ⟨rfl, hx1⟩
      replace hE := hE.trans hx1
      replace b0 := b0.ext hx1
      have cb0_25 := fun o => b0.cell o
      have fb0_25 := fun o => b0.frozen o
      go_wp2_with fail
      refine (G1.out _).mono ?_
      rintro e w2 ⟨rfl, hx2⟩
      replace hE := hE.trans hx2
      replace b0 := b0.ext hx2
      have cb0_26 := fun o => b0.cell o
      have fb0_26 := fun o => b0.frozen o
      go_wp2_with fail
      refine (G2.out _).mono ?_
      rintro e w3 ⟨rfl, hx3⟩
      replace hE := hE.trans hx3
      replace b0 := b0.ext hx3
      have cb0_27 := fun o => b0.cell o
      have fb0_27 := fun o => b0.frozen o
      go_wp2_with fail
      refine (G3.out _).mono ?_
      rintro e w4 ⟨rfl, hx4⟩
      replace hE := hE.trans hx4
      replace b0 := b0.ext hx4
      have cb0_28 := fun o => b0.cell o
      have fb0_28 := fun o => b0.frozen o
      go_wp2_with fail
      go_region_held3 (fun w' => w'.cell? ⟨w.heap.size, 0, none⟩ = some (.int .i64 0)) (go_keep) (fail)
      have b2 : Blk (w4.alloc (.cells #[.int .i64 s.X, .int .i64 s.Y, .int .i64 s.D] 30)).drew w4.heap.size 30 #[.int .i64 s.X, .int .i64 s.Y, .int .i64 s.D] := Blk.new w4 30 #[.int .i64 s.X, .int .i64 s.Y, .int .i64 s.D]
      have hx2 : Ext w4 (w4.alloc (.cells #[.int .i64 s.X, .int .i64 s.Y, .int .i64 s.D] 30)).drew := ((Ext.refl w4).alloc _).drew
      have hlt := b0.lt
      generalize (w4.alloc (.cells #[.int .i64 s.X, .int .i64 s.Y, .int .i64 s.D] 30)).drew = w8 at *
      replace hE := hE.trans hx2
      replace b0 := b0.ext hx2
      have cb0_29 := fun o => b0.cell o
      have fb0_29 := fun o => b0.frozen o
      have c2 := fun o => b2.cell o
      go_wp2_with fail
      refine (HS.out _).mono ?_
      rintro e w9 ⟨rfl, hx9⟩
      replace hE := hE.trans hx9
      replace b0 := b0.ext hx9
      have cb0_30 := fun o => b0.cell o
      have fb0_30 := fun o => b0.frozen o
      replace b2 := b2.ext hx9
      clear c2
      have c2 := fun o => b2.cell o
      have c0 := fun o => b0.cell o
      by_cases hok : spotOk s = true
      · have H := Lib.hid (HY.out hok)
        rw [hok]
        clear hok
        go_wp2
        refine bodyPost_ret (v := .tuple #[.agg #[.int .i64 s.X, .int .i64 s.Y, .int .i64 s.D], .bool true]) (by simp [results, Tryz.results165, go_sem, c0]) rfl ⟨by rw [H.out], ?_⟩
        all_goals (repeat (first | exact hE | refine Ext.alloc ?_ _ | refine Ext.setCell ?_ (by first | omega | (simp <;> omega)) _ | refine Ext.drewN ?_ _ | refine Ext.drew ?_))
      · have hok' : spotOk s = false := by simpa using hok
        have H := Lib.hid (HNo.out hok')
        rw [hok']
        clear hok hok'
        go_wp2
        refine bodyPost_ret (v := .tuple #[.agg #[.int .i64 0, .int .i64 0, .int .i64 0], .bool false]) (by simp [results, Tryz.results165, go_sem, c0]) rfl ⟨by rw [H.out], ?_⟩
        all_goals (repeat (first | exact hE | refine Ext.alloc ?_ _ | refine Ext.setCell ?_ (by first | omega | (simp <;> omega)) _ | refine Ext.drewN ?_ _ | refine Ext.drew ?_))
end Go.Proofs.YtjghabbcjpfjeaaGreatDoor
