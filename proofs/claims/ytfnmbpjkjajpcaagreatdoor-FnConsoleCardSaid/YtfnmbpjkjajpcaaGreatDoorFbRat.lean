/- Contracts of fractions: RatioOf, RatioMin, RatioMax, whole; CheapestInput. -/
import Derived.Test.YtfnmbpjkjajpcaaGreatDoorFbJz
import Derived.Test.YtfnmbpjkjajpcaaGreatDoorFbPz
import Derived.Deep.RegionHeld3
namespace Go.Proofs.YtfnmbpjkjajpcaaGreatDoor
open Go.ChangeShapes Go.WideShapes Go.ChangeAt Go.RowKit
set_option linter.unusedVariables false
set_option maxHeartbeats 1000000 in
theorem implRatioMin_any (a b c d : Int) (w : World) (ha : I64 a) (hb : I64 b) (hc : I64 c) (hd : I64 d) :
    Calls Tryz.prog 329 #[.agg #[.int .i64 a, .int .i64 b], .agg #[.int .i64 c, .int .i64 d]] w fun e w' => e = .returned (.agg #[.int .i64 (ratioMin ⟨a, b⟩ ⟨c, d⟩).N, .int .i64 (ratioMin ⟨a, b⟩ ⟨c, d⟩).D]) ∧ Ext w w' := by
  have Ha := Lib.hid ha
  have Hb := Lib.hid hb
  have Hc := Lib.hid hc
  have Hd := Lib.hid hd
  clear ha hb hc hd
  have hx : Ext w (((w.alloc (.cells #[.int .i64 a, .int .i64 b] 139)).alloc (.cells #[.int .i64 c, .int .i64 d] 139)).alloc (.cells #[.int .i64 0, .int .i64 0] 139)) := (((Ext.refl w).alloc _).alloc _).alloc _
  have b0 := ((Blk.new w 139 #[.int .i64 a, .int .i64 b]).alloc (.cells #[.int .i64 c, .int .i64 d] 139)).alloc (.cells #[.int .i64 0, .int .i64 0] 139)
  have b1 := (Blk.new (w.alloc (.cells #[.int .i64 a, .int .i64 b] 139)) 139 #[.int .i64 c, .int .i64 d]).alloc (.cells #[.int .i64 0, .int .i64 0] 139)
  have b2 := Blk.new ((w.alloc (.cells #[.int .i64 a, .int .i64 b] 139)).alloc (.cells #[.int .i64 c, .int .i64 d] 139)) 139 #[.int .i64 0, .int .i64 0]
  simp only [World.size_alloc] at b1 b2
  go_enter Tryz.func329, Tryz.ntmps329
  go_wp2_with fail
  refine (implRatioOk_any _ _ _ Ha.out Hb.out).mono ?_
  rintro e w1 ⟨rfl, hx1⟩
  replace b0 := b0.ext hx1
  replace b1 := b1.ext hx1
  replace b2 := b2.ext hx1
  replace hx := hx.trans hx1
  have c0 := fun o => b0.cell o
  have c1 := fun o => b1.cell o
  have c2 := fun o => b2.cell o
  have f2 := fun o => b2.frozen o
  by_cases h1 : ratioOk ⟨a, b⟩ = true
  rotate_left
  · have H : Hid (ratioMin ⟨a, b⟩ ⟨c, d⟩ = ⟨0, 0⟩) := by unfold Hid ratioMin; simp [h1]
    rw [show ratioOk ⟨a, b⟩ = false from by simpa using h1]
    clear h1
    go_wp2
    refine bodyPost_ret (v := .agg #[.int .i64 0, .int .i64 0]) (by simp [results, Tryz.results329, go_sem, c2]) rfl ⟨by rw [H.out], ?_⟩
    exact (hx.setCell (by simp <;> omega) _).setCell (by simp <;> omega) _
  rw [h1]
  have H1 := Lib.hid h1
  clear h1
  go_wp2_with fail
  refine (implRatioOk_any _ _ _ Hc.out Hd.out).mono ?_
  rintro e w2 ⟨rfl, hx2⟩
  clear c0 c1 c2 f2
  replace b0 := b0.ext hx2
  replace b1 := b1.ext hx2
  replace b2 := b2.ext hx2
  replace hx := hx.trans hx2
  have c0 := fun o => b0.cell o
  have c1 := fun o => b1.cell o
  have c2 := fun o => b2.cell o
  have f2 := fun o => b2.frozen o
  by_cases h2 : ratioOk ⟨c, d⟩ = true
  rotate_left
  · have H : Hid (ratioMin ⟨a, b⟩ ⟨c, d⟩ = ⟨0, 0⟩) := by unfold Hid ratioMin; simp [h2]
    rw [show ratioOk ⟨c, d⟩ = false from by simpa using h2]
    clear h2
    go_wp2
    refine bodyPost_ret (v := .agg #[.int .i64 0, .int .i64 0]) (by simp [results, Tryz.results329, go_sem, c2]) rfl ⟨by rw [H.out], ?_⟩
    exact (hx.setCell (by simp <;> omega) _).setCell (by simp <;> omega) _
  rw [h2]
  have H2 := Lib.hid h2
  clear h2
  go_wp2_with fail
  refine (implRatioCmp_any _ _ _ _ _ Ha.out Hb.out Hc.out Hd.out).mono ?_
  rintro e w3 ⟨rfl, hx3⟩
  clear c0 c1 c2 f2
  replace b0 := b0.ext hx3
  replace b1 := b1.ext hx3
  replace b2 := b2.ext hx3
  replace hx := hx.trans hx3
  have c0 := fun o => b0.cell o
  have c1 := fun o => b1.cell o
  have c2 := fun o => b2.cell o
  have f2 := fun o => b2.frozen o
  by_cases h3 : ratioCmp ⟨a, b⟩ ⟨c, d⟩ ≤ 0
  · have H : Hid (ratioMin ⟨a, b⟩ ⟨c, d⟩ = ⟨a, b⟩) := by unfold Hid ratioMin; rw [H1.out, H2.out]; simp only [Bool.and_self, if_true]; rw [if_pos h3]
    go_wp2
    refine bodyPost_ret (v := .agg #[.int .i64 a, .int .i64 b]) (by simp [results, Tryz.results329, go_sem, c2]) rfl ⟨by rw [H.out], ?_⟩
    exact (hx.setCell (by simp <;> omega) _).setCell (by simp <;> omega) _
  · have H : Hid (ratioMin ⟨a, b⟩ ⟨c, d⟩ = ⟨c, d⟩) := by unfold Hid ratioMin; rw [H1.out, H2.out]; simp only [Bool.and_self, if_true]; rw [if_neg h3]
    go_wp2
    refine bodyPost_ret (v := .agg #[.int .i64 c, .int .i64 d]) (by simp [results, Tryz.results329, go_sem, c2]) rfl ⟨by rw [H.out], ?_⟩
    exact (hx.setCell (by simp <;> omega) _).setCell (by simp <;> omega) _
set_option maxHeartbeats 1000000 in
theorem implRatioMax_any (a b c d : Int) (w : World) (ha : I64 a) (hb : I64 b) (hc : I64 c) (hd : I64 d) :
    Calls Tryz.prog 330 #[.agg #[.int .i64 a, .int .i64 b], .agg #[.int .i64 c, .int .i64 d]] w fun e w' => e = .returned (.agg #[.int .i64 (ratioMax ⟨a, b⟩ ⟨c, d⟩).N, .int .i64 (ratioMax ⟨a, b⟩ ⟨c, d⟩).D]) ∧ Ext w w' := by
  have Ha := Lib.hid ha
  have Hb := Lib.hid hb
  have Hc := Lib.hid hc
  have Hd := Lib.hid hd
  clear ha hb hc hd
  have hx : Ext w (((w.alloc (.cells #[.int .i64 a, .int .i64 b] 139)).alloc (.cells #[.int .i64 c, .int .i64 d] 139)).alloc (.cells #[.int .i64 0, .int .i64 0] 139)) := (((Ext.refl w).alloc _).alloc _).alloc _
  have b0 := ((Blk.new w 139 #[.int .i64 a, .int .i64 b]).alloc (.cells #[.int .i64 c, .int .i64 d] 139)).alloc (.cells #[.int .i64 0, .int .i64 0] 139)
  have b1 := (Blk.new (w.alloc (.cells #[.int .i64 a, .int .i64 b] 139)) 139 #[.int .i64 c, .int .i64 d]).alloc (.cells #[.int .i64 0, .int .i64 0] 139)
  have b2 := Blk.new ((w.alloc (.cells #[.int .i64 a, .int .i64 b] 139)).alloc (.cells #[.int .i64 c, .int .i64 d] 139)) 139 #[.int .i64 0, .int .i64 0]
  simp only [World.size_alloc] at b1 b2
  go_enter Tryz.func330, Tryz.ntmps330
  go_wp2_with fail
  refine (implRatioOk_any _ _ _ Ha.out Hb.out).mono ?_
  rintro e w1 ⟨rfl, hx1⟩
  replace b0 := b0.ext hx1
  replace b1 := b1.ext hx1
  replace b2 := b2.ext hx1
  replace hx := hx.trans hx1
  have c0 := fun o => b0.cell o
  have c1 := fun o => b1.cell o
  have c2 := fun o => b2.cell o
  have f2 := fun o => b2.frozen o
  by_cases h1 : ratioOk ⟨a, b⟩ = true
  rotate_left
  · have H : Hid (ratioMax ⟨a, b⟩ ⟨c, d⟩ = ⟨0, 0⟩) := by unfold Hid ratioMax; simp [h1]
    rw [show ratioOk ⟨a, b⟩ = false from by simpa using h1]
    clear h1
    go_wp2
    refine bodyPost_ret (v := .agg #[.int .i64 0, .int .i64 0]) (by simp [results, Tryz.results330, go_sem, c2]) rfl ⟨by rw [H.out], ?_⟩
    exact (hx.setCell (by simp <;> omega) _).setCell (by simp <;> omega) _
  rw [h1]
  have H1 := Lib.hid h1
  clear h1
  go_wp2_with fail
  refine (implRatioOk_any _ _ _ Hc.out Hd.out).mono ?_
  rintro e w2 ⟨rfl, hx2⟩
  clear c0 c1 c2 f2
  replace b0 := b0.ext hx2
  replace b1 := b1.ext hx2
  replace b2 := b2.ext hx2
  replace hx := hx.trans hx2
  have c0 := fun o => b0.cell o
  have c1 := fun o => b1.cell o
  have c2 := fun o => b2.cell o
  have f2 := fun o => b2.frozen o
  by_cases h2 : ratioOk ⟨c, d⟩ = true
  rotate_left
  · have H : Hid (ratioMax ⟨a, b⟩ ⟨c, d⟩ = ⟨0, 0⟩) := by unfold Hid ratioMax; simp [h2]
    rw [show ratioOk ⟨c, d⟩ = false from by simpa using h2]
    clear h2
    go_wp2
    refine bodyPost_ret (v := .agg #[.int .i64 0, .int .i64 0]) (by simp [results, Tryz.results330, go_sem, c2]) rfl ⟨by rw [H.out], ?_⟩
    exact (hx.setCell (by simp <;> omega) _).setCell (by simp <;> omega) _
  rw [h2]
  have H2 := Lib.hid h2
  clear h2
  go_wp2_with fail
  refine (implRatioCmp_any _ _ _ _ _ Ha.out Hb.out Hc.out Hd.out).mono ?_
  rintro e w3 ⟨rfl, hx3⟩
  clear c0 c1 c2 f2
  replace b0 := b0.ext hx3
  replace b1 := b1.ext hx3
  replace b2 := b2.ext hx3
  replace hx := hx.trans hx3
  have c0 := fun o => b0.cell o
  have c1 := fun o => b1.cell o
  have c2 := fun o => b2.cell o
  have f2 := fun o => b2.frozen o
  by_cases h3 : ratioCmp ⟨a, b⟩ ⟨c, d⟩ ≥ 0
  · have H : Hid (ratioMax ⟨a, b⟩ ⟨c, d⟩ = ⟨a, b⟩) := by unfold Hid ratioMax; rw [H1.out, H2.out]; simp only [Bool.and_self, if_true]; rw [if_pos h3]
    go_wp2
    refine bodyPost_ret (v := .agg #[.int .i64 a, .int .i64 b]) (by simp [results, Tryz.results330, go_sem, c2]) rfl ⟨by rw [H.out], ?_⟩
    exact (hx.setCell (by simp <;> omega) _).setCell (by simp <;> omega) _
  · have H : Hid (ratioMax ⟨a, b⟩ ⟨c, d⟩ = ⟨c, d⟩) := by unfold Hid ratioMax; rw [H1.out, H2.out]; simp only [Bool.and_self, if_true]; rw [if_neg h3]
    go_wp2
    refine bodyPost_ret (v := .agg #[.int .i64 c, .int .i64 d]) (by simp [results, Tryz.results330, go_sem, c2]) rfl ⟨by rw [H.out], ?_⟩
    exact (hx.setCell (by simp <;> omega) _).setCell (by simp <;> omega) _
theorem whole_any (n : Int) (w : World) :
    Calls Tryz.prog 326 #[.int .i64 n] w fun e w' => e = .returned (.agg #[.int .i64 n, .int .i64 1]) ∧ Ext w w' := by
  go_enter Tryz.func326, Tryz.ntmps326
  go_wp2
  refine bodyPost_ret (v := .agg #[.int .i64 n, .int .i64 1]) (by simp [results, Tryz.results326, go_sem]) rfl ⟨rfl, ?_⟩
  exact (Ext.refl w).alloc _
end Go.Proofs.YtfnmbpjkjajpcaaGreatDoor
