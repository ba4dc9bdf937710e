/- Contracts of fractions: RatioOf, RatioMin, RatioMax, whole; CheapestInput. -/
import Derived.Test.YtbbdipfioopfmaaGreatSp
import Derived.Test.YtbbdipfioopfmaaGreatPz
import Derived.Deep.RegionHeld3
namespace Go.Proofs.YtbbdipfioopfmaaGreat
open Go.ChangeShapes Go.WideShapes Go.ChangeAt Go.RowKit
set_option linter.unusedVariables false

set_option maxHeartbeats 1000000 in
theorem implRatioMin_any (a b c d : Int) (w : World) (ha : I64 a) (hb : I64 b) (hc : I64 c) (hd : I64 d) :
    Calls Tryz.prog 93 #[.agg #[.int .i64 a, .int .i64 b], .agg #[.int .i64 c, .int .i64 d]] w fun e w' => e = .returned (.agg #[.int .i64 (ratioMin ⟨a, b⟩ ⟨c, d⟩).N, .int .i64 (ratioMin ⟨a, b⟩ ⟨c, d⟩).D]) ∧ Ext w w' := by
  have Ha := Lib.hid ha
  have Hb := Lib.hid hb
  have Hc := Lib.hid hc
  have Hd := Lib.hid hd
  clear ha hb hc hd
  have hx : Ext w (((w.alloc (.cells #[.int .i64 a, .int .i64 b] 74)).alloc (.cells #[.int .i64 c, .int .i64 d] 74)).alloc (.cells #[.int .i64 0, .int .i64 0] 74)) := (((Ext.refl w).alloc _).alloc _).alloc _
  have b0 := ((Blk.new w 74 #[.int .i64 a, .int .i64 b]).alloc (.cells #[.int .i64 c, .int .i64 d] 74)).alloc (.cells #[.int .i64 0, .int .i64 0] 74)
  have b1 := (Blk.new (w.alloc (.cells #[.int .i64 a, .int .i64 b] 74)) 74 #[.int .i64 c, .int .i64 d]).alloc (.cells #[.int .i64 0, .int .i64 0] 74)
  have b2 := Blk.new ((w.alloc (.cells #[.int .i64 a, .int .i64 b] 74)).alloc (.cells #[.int .i64 c, .int .i64 d] 74)) 74 #[.int .i64 0, .int .i64 0]
  simp only [World.size_alloc] at b1 b2
  go_enter Tryz.func93, Tryz.ntmps93
  go_wp2_with fail
  refine (implRatioOk_any _ _ _ Ha.out Hb.out).mono ?_
  rintro e w1 ⟨rfl, hx1⟩
  replace b0 := b0.ext hx1
  replace b1 := b1.ext hx1
  replace b2 := b2.ext hx1
  replace hx := hx.trans hx1
  have c0 := fun o => b0.cell o
  have c1 := fun o => b1.cell o
  have c2 := fun o => b2.cell o
  have f2 := fun o => b2.frozen o
  by_cases h1 : ratioOk ⟨a, b⟩ = true
  rotate_left
  · have H : Hid (ratioMin ⟨a, b⟩ ⟨c, d⟩ = ⟨0, 0⟩) := by unfold Hid ratioMin; simp [h1]
    rw [show ratioOk ⟨a, b⟩ = false from by simpa using h1]
    clear h1
    go_wp2
    refine bodyPost_ret (v := .agg #[.int .i64 0, .int .i64 0]) (by simp [results, Tryz.results93, go_sem, c2]) rfl ⟨by rw [H.out], ?_⟩
    exact (hx.setCell (by simp <;> omega) _).setCell (by simp <;> omega) _
  rw [h1]
  have H1 := Lib.hid h1
  clear h1
  go_wp2_with fail
  refine (implRatioOk_any _ _ _ Hc.out Hd.out).mono ?_
  rintro e w2 ⟨rfl, hx2⟩
  clear c0 c1 c2 f2
  replace b0 := b0.ext hx2
  replace b1 := b1.ext hx2
  replace b2 := b2.ext hx2
  replace hx := hx.trans hx2
  have c0 := fun o => b0.cell o
  have c1 := fun o => b1.cell o
  have c2 := fun o => b2.cell o
  have f2 := fun o => b2.frozen o
  by_cases h2 : ratioOk ⟨c, d⟩ = true
  rotate_left
  · have H : Hid (ratioMin ⟨a, b⟩ ⟨c, d⟩ = ⟨0, 0⟩) := by unfold Hid ratioMin; simp [h2]
    rw [show ratioOk ⟨c, d⟩ = false from by simpa using h2]
    clear h2
    go_wp2
    refine bodyPost_ret (v := .agg #[.int .i64 0, .int .i64 0]) (by simp [results, Tryz.results93, go_sem, c2]) rfl ⟨by rw [H.out], ?_⟩
    exact (hx.setCell (by simp <;> omega) _).setCell (by simp <;> omega) _
  rw [h2]
  have H2 := Lib.hid h2
  clear h2
  go_wp2_with fail
  refine (implRatioCmp_any _ _ _ _ _ Ha.out Hb.out Hc.out Hd.out).mono ?_
  rintro e w3 ⟨rfl, hx3⟩
  clear c0 c1 c2 f2
  replace b0 := b0.ext hx3
  replace b1 := b1.ext hx3
  replace b2 := b2.ext hx3
  replace hx := hx.trans hx3
  have c0 := fun o => b0.cell o
  have c1 := fun o => b1.cell o
  have c2 := fun o => b2.cell o
  have f2 := fun o => b2.frozen o
  by_cases h3 : ratioCmp ⟨a, b⟩ ⟨c, d⟩ ≤ 0
  · have H : Hid (ratioMin ⟨a, b⟩ ⟨c, d⟩ = ⟨a, b⟩) := by unfold Hid ratioMin; rw [H1.out, H2.out]; simp only [Bool.and_self, if_true]; rw [if_pos h3]
    go_wp2
    refine bodyPost_ret (v := .agg #[.int .i64 a, .int .i64 b]) (by simp [results, Tryz.results93, go_sem, c2]) rfl ⟨by rw [H.out], ?_⟩
    exact (hx.setCell (by simp <;> omega) _).setCell (by simp <;> omega) _
  · have H : Hid (ratioMin ⟨a, b⟩ ⟨c, d⟩ = ⟨c, d⟩) := by unfold Hid ratioMin; rw [H1.out, H2.out]; simp only [Bool.and_self, if_true]; rw [if_neg h3]
    go_wp2
    refine bodyPost_ret (v := .agg #[.int .i64 c, .int .i64 d]) (by simp [results, Tryz.results93, go_sem, c2]) rfl ⟨by rw [H.out], ?_⟩
    exact (hx.setCell (by simp <;> omega) _).setCell (by simp <;> omega) _

set_option maxHeartbeats 1000000 in
theorem implRatioMax_any (a b c d : Int) (w : World) (ha : I64 a) (hb : I64 b) (hc : I64 c) (hd : I64 d) :
    Calls Tryz.prog 95 #[.agg #[.int .i64 a, .int .i64 b], .agg #[.int .i64 c, .int .i64 d]] w fun e w' => e = .returned (.agg #[.int .i64 (ratioMax ⟨a, b⟩ ⟨c, d⟩).N, .int .i64 (ratioMax ⟨a, b⟩ ⟨c, d⟩).D]) ∧ Ext w w' := by
  have Ha := Lib.hid ha
  have Hb := Lib.hid hb
  have Hc := Lib.hid hc
  have Hd := Lib.hid hd
  clear ha hb hc hd
  have hx : Ext w (((w.alloc (.cells #[.int .i64 a, .int .i64 b] 74)).alloc (.cells #[.int .i64 c, .int .i64 d] 74)).alloc (.cells #[.int .i64 0, .int .i64 0] 74)) := (((Ext.refl w).alloc _).alloc _).alloc _
  have b0 := ((Blk.new w 74 #[.int .i64 a, .int .i64 b]).alloc (.cells #[.int .i64 c, .int .i64 d] 74)).alloc (.cells #[.int .i64 0, .int .i64 0] 74)
  have b1 := (Blk.new (w.alloc (.cells #[.int .i64 a, .int .i64 b] 74)) 74 #[.int .i64 c, .int .i64 d]).alloc (.cells #[.int .i64 0, .int .i64 0] 74)
  have b2 := Blk.new ((w.alloc (.cells #[.int .i64 a, .int .i64 b] 74)).alloc (.cells #[.int .i64 c, .int .i64 d] 74)) 74 #[.int .i64 0, .int .i64 0]
  simp only [World.size_alloc] at b1 b2
  go_enter Tryz.func95, Tryz.ntmps95
  go_wp2_with fail
  refine (implRatioOk_any _ _ _ Ha.out Hb.out).mono ?_
  rintro e w1 ⟨rfl, hx1⟩
  replace b0 := b0.ext hx1
  replace b1 := b1.ext hx1
  replace b2 := b2.ext hx1
  replace hx := hx.trans hx1
  have c0 := fun o => b0.cell o
  have c1 := fun o => b1.cell o
  have c2 := fun o => b2.cell o
  have f2 := fun o => b2.frozen o
  by_cases h1 : ratioOk ⟨a, b⟩ = true
  rotate_left
  · have H : Hid (ratioMax ⟨a, b⟩ ⟨c, d⟩ = ⟨0, 0⟩) := by unfold Hid ratioMax; simp [h1]
    rw [show ratioOk ⟨a, b⟩ = false from by simpa using h1]
    clear h1
    go_wp2
    refine bodyPost_ret (v := .agg #[.int .i64 0, .int .i64 0]) (by simp [results, Tryz.results95, go_sem, c2]) rfl ⟨by rw [H.out], ?_⟩
    exact (hx.setCell (by simp <;> omega) _).setCell (by simp <;> omega) _
  rw [h1]
  have H1 := Lib.hid h1
  clear h1
  go_wp2_with fail
  refine (implRatioOk_any _ _ _ Hc.out Hd.out).mono ?_
  rintro e w2 ⟨rfl, hx2⟩
  clear c0 c1 c2 f2
  replace b0 := b0.ext hx2
  replace b1 := b1.ext hx2
  replace b2 := b2.ext hx2
  replace hx := hx.trans hx2
  have c0 := fun o => b0.cell o
  have c1 := fun o => b1.cell o
  have c2 := fun o => b2.cell o
  have f2 := fun o => b2.frozen o
  by_cases h2 : ratioOk ⟨c, d⟩ = true
  rotate_left
  · have H : Hid (ratioMax ⟨a, b⟩ ⟨c, d⟩ = ⟨0, 0⟩) := by unfold Hid ratioMax; simp [h2]
    rw [show ratioOk ⟨c, d⟩ = false from by simpa using h2]
    clear h2
    go_wp2
    refine bodyPost_ret (v := .agg #[.int .i64 0, .int .i64 0]) (by simp [results, Tryz.results95, go_sem, c2]) rfl ⟨by rw [H.out], ?_⟩
    exact (hx.setCell (by simp <;> omega) _).setCell (by simp <;> omega) _
  rw [h2]
  have H2 := Lib.hid h2
  clear h2
  go_wp2_with fail
  refine (implRatioCmp_any _ _ _ _ _ Ha.out Hb.out Hc.out Hd.out).mono ?_
  rintro e w3 ⟨rfl, hx3⟩
  clear c0 c1 c2 f2
  replace b0 := b0.ext hx3
  replace b1 := b1.ext hx3
  replace b2 := b2.ext hx3
  replace hx := hx.trans hx3
  have c0 := fun o => b0.cell o
  have c1 := fun o => b1.cell o
  have c2 := fun o => b2.cell o
  have f2 := fun o => b2.frozen o
  by_cases h3 : ratioCmp ⟨a, b⟩ ⟨c, d⟩ ≥ 0
  · have H : Hid (ratioMax ⟨a, b⟩ ⟨c, d⟩ = ⟨a, b⟩) := by unfold Hid ratioMax; rw [H1.out, H2.out]; simp only [Bool.and_self, if_true]; rw [if_pos h3]
    go_wp2
    refine bodyPost_ret (v := .agg #[.int .i64 a, .int .i64 b]) (by simp [results, Tryz.results95, go_sem, c2]) rfl ⟨by rw [H.out], ?_⟩
    exact (hx.setCell (by simp <;> omega) _).setCell (by simp <;> omega) _
  · have H : Hid (ratioMax ⟨a, b⟩ ⟨c, d⟩ = ⟨c, d⟩) := by unfold Hid ratioMax; rw [H1.out, H2.out]; simp only [Bool.and_self, if_true]; rw [if_neg h3]
    go_wp2
    refine bodyPost_ret (v := .agg #[.int .i64 c, .int .i64 d]) (by simp [results, Tryz.results95, go_sem, c2]) rfl ⟨by rw [H.out], ?_⟩
    exact (hx.setCell (by simp <;> omega) _).setCell (by simp <;> omega) _

set_option maxHeartbeats 1000000 in
theorem specRatioMin_any (a b c d : Int) (w : World) (ha : I64 a) (hb : I64 b) (hc : I64 c) (hd : I64 d) :
    Calls Tryz.prog 80 #[.agg #[.int .i64 a, .int .i64 b], .agg #[.int .i64 c, .int .i64 d]] w fun e w' => e = .returned (.agg #[.int .i64 (ratioMin ⟨a, b⟩ ⟨c, d⟩).N, .int .i64 (ratioMin ⟨a, b⟩ ⟨c, d⟩).D]) ∧ Ext w w' := by
  have Ha := Lib.hid ha
  have Hb := Lib.hid hb
  have Hc := Lib.hid hc
  have Hd := Lib.hid hd
  clear ha hb hc hd
  have hx : Ext w (((w.alloc (.cells #[.int .i64 a, .int .i64 b] 74)).alloc (.cells #[.int .i64 c, .int .i64 d] 74)).alloc (.cells #[.int .i64 0, .int .i64 0] 74)) := (((Ext.refl w).alloc _).alloc _).alloc _
  have b0 := ((Blk.new w 74 #[.int .i64 a, .int .i64 b]).alloc (.cells #[.int .i64 c, .int .i64 d] 74)).alloc (.cells #[.int .i64 0, .int .i64 0] 74)
  have b1 := (Blk.new (w.alloc (.cells #[.int .i64 a, .int .i64 b] 74)) 74 #[.int .i64 c, .int .i64 d]).alloc (.cells #[.int .i64 0, .int .i64 0] 74)
  have b2 := Blk.new ((w.alloc (.cells #[.int .i64 a, .int .i64 b] 74)).alloc (.cells #[.int .i64 c, .int .i64 d] 74)) 74 #[.int .i64 0, .int .i64 0]
  simp only [World.size_alloc] at b1 b2
  go_enter Tryz.func80, Tryz.ntmps80
  go_wp2_with fail
  refine (specRatioOk_any _ _ _ Ha.out Hb.out).mono ?_
  rintro e w1 ⟨rfl, hx1⟩
  replace b0 := b0.ext hx1
  replace b1 := b1.ext hx1
  replace b2 := b2.ext hx1
  replace hx := hx.trans hx1
  have c0 := fun o => b0.cell o
  have c1 := fun o => b1.cell o
  have c2 := fun o => b2.cell o
  have f2 := fun o => b2.frozen o
  by_cases h1 : ratioOk ⟨a, b⟩ = true
  rotate_left
  · have H : Hid (ratioMin ⟨a, b⟩ ⟨c, d⟩ = ⟨0, 0⟩) := by unfold Hid ratioMin; simp [h1]
    rw [show ratioOk ⟨a, b⟩ = false from by simpa using h1]
    clear h1
    go_wp2
    refine bodyPost_ret (v := .agg #[.int .i64 0, .int .i64 0]) (by simp [results, Tryz.results80, go_sem, c2]) rfl ⟨by rw [H.out], ?_⟩
    exact (hx.setCell (by simp <;> omega) _).setCell (by simp <;> omega) _
  rw [h1]
  have H1 := Lib.hid h1
  clear h1
  go_wp2_with fail
  refine (specRatioOk_any _ _ _ Hc.out Hd.out).mono ?_
  rintro e w2 ⟨rfl, hx2⟩
  clear c0 c1 c2 f2
  replace b0 := b0.ext hx2
  replace b1 := b1.ext hx2
  replace b2 := b2.ext hx2
  replace hx := hx.trans hx2
  have c0 := fun o => b0.cell o
  have c1 := fun o => b1.cell o
  have c2 := fun o => b2.cell o
  have f2 := fun o => b2.frozen o
  by_cases h2 : ratioOk ⟨c, d⟩ = true
  rotate_left
  · have H : Hid (ratioMin ⟨a, b⟩ ⟨c, d⟩ = ⟨0, 0⟩) := by unfold Hid ratioMin; simp [h2]
    rw [show ratioOk ⟨c, d⟩ = false from by simpa using h2]
    clear h2
    go_wp2
    refine bodyPost_ret (v := .agg #[.int .i64 0, .int .i64 0]) (by simp [results, Tryz.results80, go_sem, c2]) rfl ⟨by rw [H.out], ?_⟩
    exact (hx.setCell (by simp <;> omega) _).setCell (by simp <;> omega) _
  rw [h2]
  have H2 := Lib.hid h2
  clear h2
  go_wp2_with fail
  refine (specRatioCmp_any _ _ _ _ _ Ha.out Hb.out Hc.out Hd.out).mono ?_
  rintro e w3 ⟨rfl, hx3⟩
  clear c0 c1 c2 f2
  replace b0 := b0.ext hx3
  replace b1 := b1.ext hx3
  replace b2 := b2.ext hx3
  replace hx := hx.trans hx3
  have c0 := fun o => b0.cell o
  have c1 := fun o => b1.cell o
  have c2 := fun o => b2.cell o
  have f2 := fun o => b2.frozen o
  by_cases h3 : ratioCmp ⟨a, b⟩ ⟨c, d⟩ ≤ 0
  · have H : Hid (ratioMin ⟨a, b⟩ ⟨c, d⟩ = ⟨a, b⟩) := by unfold Hid ratioMin; rw [H1.out, H2.out]; simp only [Bool.and_self, if_true]; rw [if_pos h3]
    go_wp2
    refine bodyPost_ret (v := .agg #[.int .i64 a, .int .i64 b]) (by simp [results, Tryz.results80, go_sem, c2]) rfl ⟨by rw [H.out], ?_⟩
    exact (hx.setCell (by simp <;> omega) _).setCell (by simp <;> omega) _
  · have H : Hid (ratioMin ⟨a, b⟩ ⟨c, d⟩ = ⟨c, d⟩) := by unfold Hid ratioMin; rw [H1.out, H2.out]; simp only [Bool.and_self, if_true]; rw [if_neg h3]
    go_wp2
    refine bodyPost_ret (v := .agg #[.int .i64 c, .int .i64 d]) (by simp [results, Tryz.results80, go_sem, c2]) rfl ⟨by rw [H.out], ?_⟩
    exact (hx.setCell (by simp <;> omega) _).setCell (by simp <;> omega) _

set_option maxHeartbeats 1000000 in
theorem specRatioMax_any (a b c d : Int) (w : World) (ha : I64 a) (hb : I64 b) (hc : I64 c) (hd : I64 d) :
    Calls Tryz.prog 81 #[.agg #[.int .i64 a, .int .i64 b], .agg #[.int .i64 c, .int .i64 d]] w fun e w' => e = .returned (.agg #[.int .i64 (ratioMax ⟨a, b⟩ ⟨c, d⟩).N, .int .i64 (ratioMax ⟨a, b⟩ ⟨c, d⟩).D]) ∧ Ext w w' := by
  have Ha := Lib.hid ha
  have Hb := Lib.hid hb
  have Hc := Lib.hid hc
  have Hd := Lib.hid hd
  clear ha hb hc hd
  have hx : Ext w (((w.alloc (.cells #[.int .i64 a, .int .i64 b] 74)).alloc (.cells #[.int .i64 c, .int .i64 d] 74)).alloc (.cells #[.int .i64 0, .int .i64 0] 74)) := (((Ext.refl w).alloc _).alloc _).alloc _
  have b0 := ((Blk.new w 74 #[.int .i64 a, .int .i64 b]).alloc (.cells #[.int .i64 c, .int .i64 d] 74)).alloc (.cells #[.int .i64 0, .int .i64 0] 74)
  have b1 := (Blk.new (w.alloc (.cells #[.int .i64 a, .int .i64 b] 74)) 74 #[.int .i64 c, .int .i64 d]).alloc (.cells #[.int .i64 0, .int .i64 0] 74)
  have b2 := Blk.new ((w.alloc (.cells #[.int .i64 a, .int .i64 b] 74)).alloc (.cells #[.int .i64 c, .int .i64 d] 74)) 74 #[.int .i64 0, .int .i64 0]
  simp only [World.size_alloc] at b1 b2
  go_enter Tryz.func81, Tryz.ntmps81
  go_wp2_with fail
  refine (specRatioOk_any _ _ _ Ha.out Hb.out).mono ?_
  rintro e w1 ⟨rfl, hx1⟩
  replace b0 := b0.ext hx1
  replace b1 := b1.ext hx1
  replace b2 := b2.ext hx1
  replace hx := hx.trans hx1
  have c0 := fun o => b0.cell o
  have c1 := fun o => b1.cell o
  have c2 := fun o => b2.cell o
  have f2 := fun o => b2.frozen o
  by_cases h1 : ratioOk ⟨a, b⟩ = true
  rotate_left
  · have H : Hid (ratioMax ⟨a, b⟩ ⟨c, d⟩ = ⟨0, 0⟩) := by unfold Hid ratioMax; simp [h1]
    rw [show ratioOk ⟨a, b⟩ = false from by simpa using h1]
    clear h1
    go_wp2
    refine bodyPost_ret (v := .agg #[.int .i64 0, .int .i64 0]) (by simp [results, Tryz.results81, go_sem, c2]) rfl ⟨by rw [H.out], ?_⟩
    exact (hx.setCell (by simp <;> omega) _).setCell (by simp <;> omega) _
  rw [h1]
  have H1 := Lib.hid h1
  clear h1
  go_wp2_with fail
  refine (specRatioOk_any _ _ _ Hc.out Hd.out).mono ?_
  rintro e w2 ⟨rfl, hx2⟩
  clear c0 c1 c2 f2
  replace b0 := b0.ext hx2
  replace b1 := b1.ext hx2
  replace b2 := b2.ext hx2
  replace hx := hx.trans hx2
  have c0 := fun o => b0.cell o
  have c1 := fun o => b1.cell o
  have c2 := fun o => b2.cell o
  have f2 := fun o => b2.frozen o
  by_cases h2 : ratioOk ⟨c, d⟩ = true
  rotate_left
  · have H : Hid (ratioMax ⟨a, b⟩ ⟨c, d⟩ = ⟨0, 0⟩) := by unfold Hid ratioMax; simp [h2]
    rw [show ratioOk ⟨c, d⟩ = false from by simpa using h2]
    clear h2
    go_wp2
    refine bodyPost_ret (v := .agg #[.int .i64 0, .int .i64 0]) (by simp [results, Tryz.results81, go_sem, c2]) rfl ⟨by rw [H.out], ?_⟩
    exact (hx.setCell (by simp <;> omega) _).setCell (by simp <;> omega) _
  rw [h2]
  have H2 := Lib.hid h2
  clear h2
  go_wp2_with fail
  refine (specRatioCmp_any _ _ _ _ _ Ha.out Hb.out Hc.out Hd.out).mono ?_
  rintro e w3 ⟨rfl, hx3⟩
  clear c0 c1 c2 f2
  replace b0 := b0.ext hx3
  replace b1 := b1.ext hx3
  replace b2 := b2.ext hx3
  replace hx := hx.trans hx3
  have c0 := fun o => b0.cell o
  have c1 := fun o => b1.cell o
  have c2 := fun o => b2.cell o
  have f2 := fun o => b2.frozen o
  by_cases h3 : ratioCmp ⟨a, b⟩ ⟨c, d⟩ ≥ 0
  · have H : Hid (ratioMax ⟨a, b⟩ ⟨c, d⟩ = ⟨a, b⟩) := by unfold Hid ratioMax; rw [H1.out, H2.out]; simp only [Bool.and_self, if_true]; rw [if_pos h3]
    go_wp2
    refine bodyPost_ret (v := .agg #[.int .i64 a, .int .i64 b]) (by simp [results, Tryz.results81, go_sem, c2]) rfl ⟨by rw [H.out], ?_⟩
    exact (hx.setCell (by simp <;> omega) _).setCell (by simp <;> omega) _
  · have H : Hid (ratioMax ⟨a, b⟩ ⟨c, d⟩ = ⟨c, d⟩) := by unfold Hid ratioMax; rw [H1.out, H2.out]; simp only [Bool.and_self, if_true]; rw [if_neg h3]
    go_wp2
    refine bodyPost_ret (v := .agg #[.int .i64 c, .int .i64 d]) (by simp [results, Tryz.results81, go_sem, c2]) rfl ⟨by rw [H.out], ?_⟩
    exact (hx.setCell (by simp <;> omega) _).setCell (by simp <;> omega) _

theorem whole_any (n : Int) (w : World) :
    Calls Tryz.prog 90 #[.int .i64 n] w fun e w' => e = .returned (.agg #[.int .i64 n, .int .i64 1]) ∧ Ext w w' := by
  go_enter Tryz.func90, Tryz.ntmps90
  go_wp2
  refine bodyPost_ret (v := .agg #[.int .i64 n, .int .i64 1]) (by simp [results, Tryz.results90, go_sem]) rfl ⟨rfl, ?_⟩
  exact (Ext.refl w).alloc _

theorem gcdI_bd {n d : Int} (hn : I64 n) (hd : I64 d) (h : gcdI n d ≠ 0) : 0 < gcdI n d ∧ gcdI n d ≤ 9223372036854775807 ∧ -9223372036854775807 ≤ n ∧ n ≤ 9223372036854775807 ∧ -9223372036854775807 ≤ d ∧ d ≤ 9223372036854775807 := by
  unfold I64 at hn hd
  unfold gcdI at h ⊢
  split at h
  · exact absurd rfl h
  · rename_i hl
    rw [if_neg hl]
    simp only [isLeastI, decide_eq_true_eq, not_or] at hl
    have h1 : Int.gcd n d ≤ 9223372036854775807 := by
      rcases Nat.eq_zero_or_pos n.natAbs with e | e
      · rw [Int.gcd, e, Nat.gcd_zero_left]; omega
      · exact Nat.le_trans (Nat.gcd_le_left _ e) (by omega)
    omega
set_option maxHeartbeats 1000000 in
theorem specRatioOf_any (n d : Int) (w : World) (hn : I64 n) (hd : I64 d) :
    Calls Tryz.prog 76 #[.int .i64 n, .int .i64 d] w fun e w' => e = .returned (.agg #[.int .i64 (ratioOf n d).N, .int .i64 (ratioOf n d).D]) ∧ Ext w w' := by
  have Hn := Lib.hid hn
  have Hd := Lib.hid hd
  clear hn hd
  have hx : Ext w (w.alloc (.cells #[.int .i64 0, .int .i64 0] 74)) := (Ext.refl w).alloc _
  have b0 := Blk.new w 74 #[.int .i64 0, .int .i64 0]
  go_enter Tryz.func76, Tryz.ntmps76
  go_wp2_with fail
  refine (specGcd_any _ _ _ Hn.out Hd.out).mono ?_
  rintro e w1 ⟨rfl, hx1⟩
  replace b0 := b0.ext hx1
  replace hx := hx.trans hx1
  have c0 := fun o => b0.cell o
  have f0 := fun o => b0.frozen o
  by_cases hg : gcdI n d = 0
  · have H : Hid (ratioOf n d = ⟨0, 0⟩) := by unfold Hid ratioOf; rw [if_pos (.inl hg)]
    rw [hg]
    clear hg
    go_wp2
    refine bodyPost_ret (v := .agg #[.int .i64 0, .int .i64 0]) (by simp [results, Tryz.results76, go_sem, c0]) rfl ⟨by rw [H.out], ?_⟩
    exact (hx.setCell (by first | omega | (simp <;> omega)) _).setCell (by first | omega | (simp <;> omega)) _
  by_cases hz : d = 0
  · have H : Hid (ratioOf n d = ⟨0, 0⟩) := by unfold Hid ratioOf; rw [if_pos (.inr hz)]
    have hgb : (gcdI n d == 0) = false := by simpa using hg
    subst hz
    go_wp2
    refine bodyPost_ret (v := .agg #[.int .i64 0, .int .i64 0]) (by simp [results, Tryz.results76, go_sem, c0]) rfl ⟨by rw [H.out], ?_⟩
    exact (hx.setCell (by first | omega | (simp <;> omega)) _).setCell (by first | omega | (simp <;> omega)) _
  have hgb : (gcdI n d == 0) = false := by simpa using hg
  have hdb : (d == 0) = false := by simpa using hz
  obtain ⟨hg0, hg1, hn1, hn2, hd1, hd2⟩ := gcdI_bd Hn.out Hd.out hg
  have HA : Hid (∀ s : Int, gcdS n d = s → ratioOk (ratioMk n d s) = true → ratioOf n d = ratioMk n d s) := by
    intro s h1 h2; unfold ratioOf; rw [if_neg (by simp [hg, hz]), h1, if_pos h2]
  have HB : Hid (∀ s : Int, gcdS n d = s → ¬ ratioOk (ratioMk n d s) = true → ratioOf n d = ⟨0, 0⟩) := by
    intro s h1 h2; unfold ratioOf; rw [if_neg (by simp [hg, hz]), h1, if_neg h2]
  by_cases hs : d < 0
  · have hS : Hid (gcdS n d = -gcdI n d) := by unfold Hid gcdS; rw [if_pos hs]
    have hnb : (-gcdI n d == 0) = false := by simpa using hg
    have hsz : ¬ (-gcdI n d = 0) := by omega
    have hsn : -gcdI n d < 0 := by omega
    have hr1 := tdiv_range_abs (a := n) (b := -gcdI n d) hn1 hn2
    have hr2 := tdiv_range_abs (a := d) (b := -gcdI n d) hd1 hd2
    go_wp2_with fail
    generalize hsv : -gcdI n d = s at *
    clear hsv
    have hw1 : IntKind.i64.wrap (n.tdiv s) = n.tdiv s := by rw [wrapS]; omega
    have hw2 : IntKind.i64.wrap (d.tdiv s) = d.tdiv s := by rw [wrapS]; omega
    go_region_held3 (fun w' => w'.cell? ⟨w.heap.size, 0, none⟩ = some (.int .i64 0)) (go_keep) (fail)
    have hq1 : I64 (n.tdiv s) := ⟨by omega, by omega⟩
    have hq2 : I64 (d.tdiv s) := ⟨by omega, by omega⟩
    have hA := Hid.out HA s hS.out
    have hB := Hid.out HB s hS.out
    have HA := Lib.hid hA
    have HB := Lib.hid hB
    clear hA hB hr1 hr2 hw1 hw2
    generalize hqn : n.tdiv s = q at *
    generalize hqd : d.tdiv s = r at *
    have HM : Hid (ratioMk n d s = ⟨q, r⟩) := by unfold Hid ratioMk; rw [hqn, hqd]
    clear hqn hqd
    have b2 : Blk (w1.alloc (.cells #[.int .i64 q, .int .i64 r] 74)).drew w1.heap.size 74 #[.int .i64 q, .int .i64 r] := Blk.new w1 74 #[.int .i64 q, .int .i64 r]
    have hx2 : Ext w1 (w1.alloc (.cells #[.int .i64 q, .int .i64 r] 74)).drew := ((Ext.refl w1).alloc _).drew
    have hlt := b0.lt
    generalize (w1.alloc (.cells #[.int .i64 q, .int .i64 r] 74)).drew = w2 at *
    replace b0 := b0.ext hx2
    replace hx := hx.trans hx2
    clear c0 f0
    have c0 := fun o => b0.cell o
    have c2 := fun o => b2.cell o
    have f0 := fun o => b0.frozen o
    go_wp2_with fail
    refine (specRatioOk_any _ _ _ hq1 hq2).mono ?_
    rintro e w3 ⟨rfl, hx3⟩
    replace b0 := b0.ext hx3
    replace b2 := b2.ext hx3
    replace hx := hx.trans hx3
    clear c0 f0 c2
    have c0 := fun o => b0.cell o
    have c2 := fun o => b2.cell o
    have f0 := fun o => b0.frozen o
    by_cases hok : ratioOk ⟨q, r⟩ = true
    · have H : Hid (ratioOf n d = ⟨q, r⟩) := by unfold Hid; rw [HA.out (by rw [HM.out]; exact hok), HM.out]
      rw [hok]
      clear hok
      go_wp2
      refine bodyPost_ret (v := .agg #[.int .i64 q, .int .i64 r]) (by simp [results, Tryz.results76, go_sem, c0]) rfl ⟨by rw [H.out], ?_⟩
      exact (hx.setCell (by first | omega | (simp <;> omega)) _).setCell (by first | omega | (simp <;> omega)) _
    · have H : Hid (ratioOf n d = ⟨0, 0⟩) := HB.out (by rw [HM.out]; exact hok)
      rw [show ratioOk ⟨q, r⟩ = false from by simpa using hok]
      clear hok
      go_wp2
      refine bodyPost_ret (v := .agg #[.int .i64 0, .int .i64 0]) (by simp [results, Tryz.results76, go_sem, c0]) rfl ⟨by rw [H.out], ?_⟩
      exact (hx.setCell (by first | omega | (simp <;> omega)) _).setCell (by first | omega | (simp <;> omega)) _
  · have hS : Hid (gcdS n d = gcdI n d) := by unfold Hid gcdS; rw [if_neg hs]
    have hnb : (gcdI n d == 0) = false := by simpa using hg
    have hr1 := tdiv_range_abs (a := n) (b := gcdI n d) hn1 hn2
    have hr2 := tdiv_range_abs (a := d) (b := gcdI n d) hd1 hd2
    go_wp2_with fail
    generalize hsv : gcdI n d = s at *
    clear hsv
    have hw1 : IntKind.i64.wrap (n.tdiv s) = n.tdiv s := by rw [wrapS]; omega
    have hw2 : IntKind.i64.wrap (d.tdiv s) = d.tdiv s := by rw [wrapS]; omega
    go_region_held3 (fun w' => w'.cell? ⟨w.heap.size, 0, none⟩ = some (.int .i64 0)) (go_keep) (fail)
    have hq1 : I64 (n.tdiv s) := ⟨by omega, by omega⟩
    have hq2 : I64 (d.tdiv s) := ⟨by omega, by omega⟩
    have hA := Hid.out HA s hS.out
    have hB := Hid.out HB s hS.out
    have HA := Lib.hid hA
    have HB := Lib.hid hB
    clear hA hB hr1 hr2 hw1 hw2
    generalize hqn : n.tdiv s = q at *
    generalize hqd : d.tdiv s = r at *
    have HM : Hid (ratioMk n d s = ⟨q, r⟩) := by unfold Hid ratioMk; rw [hqn, hqd]
    clear hqn hqd
    have b2 : Blk (w1.alloc (.cells #[.int .i64 q, .int .i64 r] 74)).drew w1.heap.size 74 #[.int .i64 q, .int .i64 r] := Blk.new w1 74 #[.int .i64 q, .int .i64 r]
    have hx2 : Ext w1 (w1.alloc (.cells #[.int .i64 q, .int .i64 r] 74)).drew := ((Ext.refl w1).alloc _).drew
    have hlt := b0.lt
    generalize (w1.alloc (.cells #[.int .i64 q, .int .i64 r] 74)).drew = w2 at *
    replace b0 := b0.ext hx2
    replace hx := hx.trans hx2
    clear c0 f0
    have c0 := fun o => b0.cell o
    have c2 := fun o => b2.cell o
    have f0 := fun o => b0.frozen o
    go_wp2_with fail
    refine (specRatioOk_any _ _ _ hq1 hq2).mono ?_
    rintro e w3 ⟨rfl, hx3⟩
    replace b0 := b0.ext hx3
    replace b2 := b2.ext hx3
    replace hx := hx.trans hx3
    clear c0 f0 c2
    have c0 := fun o => b0.cell o
    have c2 := fun o => b2.cell o
    have f0 := fun o => b0.frozen o
    by_cases hok : ratioOk ⟨q, r⟩ = true
    · have H : Hid (ratioOf n d = ⟨q, r⟩) := by unfold Hid; rw [HA.out (by rw [HM.out]; exact hok), HM.out]
      rw [hok]
      clear hok
      go_wp2
      refine bodyPost_ret (v := .agg #[.int .i64 q, .int .i64 r]) (by simp [results, Tryz.results76, go_sem, c0]) rfl ⟨by rw [H.out], ?_⟩
      exact (hx.setCell (by first | omega | (simp <;> omega)) _).setCell (by first | omega | (simp <;> omega)) _
    · have H : Hid (ratioOf n d = ⟨0, 0⟩) := HB.out (by rw [HM.out]; exact hok)
      rw [show ratioOk ⟨q, r⟩ = false from by simpa using hok]
      clear hok
      go_wp2
      refine bodyPost_ret (v := .agg #[.int .i64 0, .int .i64 0]) (by simp [results, Tryz.results76, go_sem, c0]) rfl ⟨by rw [H.out], ?_⟩
      exact (hx.setCell (by first | omega | (simp <;> omega)) _).setCell (by first | omega | (simp <;> omega)) _

end Go.Proofs.YtbbdipfioopfmaaGreat
