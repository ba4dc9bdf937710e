/- Contracts of spans, and of AskOf. -/
import Derived.Test.YtbbkahnfnjlajaaDoorQC
import Derived.Test.YtbbkahnfnjlajaaDoorPz
import Derived.Test.YtbbkahnfnjlajaaDoorK
import Derived.Test.YtbbkahnfnjlajaaDoorHz
import Derived.Deep.RegionHeld3
namespace Go.Proofs.YtbbkahnfnjlajaaDoor
open Go.ChangeShapes Go.WideShapes Go.ChangeAt Go.RowKit
set_option linter.unusedVariables false

set_option maxHeartbeats 1000000 in
theorem implSpanOk_any (a b c d : Int) (w : World) (ha : I64 a) (hb : I64 b) (hc : I64 c) (hd : I64 d) :
    Calls Tryd.prog 73 #[.agg #[.int .i64 a, .int .i64 b, .int .i64 c, .int .i64 d]] w fun e w' => e = .returned (.bool (spanOk ⟨⟨a, b⟩, ⟨c, d⟩⟩)) ∧ Ext w w' := by
  have Ha := Lib.hid ha
  have Hb := Lib.hid hb
  have Hc := Lib.hid hc
  have Hd := Lib.hid hd
  clear ha hb hc hd
  have hx : Ext w (w.alloc (.cells #[.int .i64 a, .int .i64 b, .int .i64 c, .int .i64 d] 74)) := (Ext.refl w).alloc _
  have hB := Ext.refl (w.alloc (.cells #[.int .i64 a, .int .i64 b, .int .i64 c, .int .i64 d] 74))
  go_enter Tryd.func73, Tryd.ntmps73
  go_wp2_with fail
  refine (implRatioOk_any _ _ _ Ha.out Hb.out).mono ?_
  rintro e w1 ⟨rfl, hx1⟩
  have hB := hB.trans hx1
  have hc1 := fun o => hB.use.1 w.heap.size o (by simp <;> omega)
  by_cases h1 : ratioOk ⟨a, b⟩ = true
  · rw [h1]
    have H1 := Lib.hid h1
    clear h1
    go_wp2_with fail
    refine (implRatioOk_any _ _ _ Hc.out Hd.out).mono ?_
    rintro e w2 ⟨rfl, hx2⟩
    have hB := hB.trans hx2
    have hc2 := fun o => hB.use.1 w.heap.size o (by simp <;> omega)
    by_cases h2 : ratioOk ⟨c, d⟩ = true
    · rw [h2]
      have H2 := Lib.hid h2
      clear h2
      go_wp2_with fail
      refine (implRatioCmp_any _ _ _ _ _ Ha.out Hb.out Hc.out Hd.out).mono ?_
      rintro e w3 ⟨rfl, hx3⟩
      have H : Hid (spanOk ⟨⟨a, b⟩, ⟨c, d⟩⟩ = decide (ratioCmp ⟨a, b⟩ ⟨c, d⟩ ≤ 0)) := by unfold Hid spanOk; rw [H1.out, H2.out]; rfl
      go_wp2
      go_ret
      exact ⟨ret_bool H.out.symm, (hx.trans hB).trans hx3⟩
    · have H : Hid (spanOk ⟨⟨a, b⟩, ⟨c, d⟩⟩ = false) := by unfold Hid spanOk; simp [h2]
      rw [show ratioOk ⟨c, d⟩ = false from by simpa using h2]
      clear h2
      go_wp2
      go_ret
      exact ⟨ret_bool H.out.symm, hx.trans hB⟩
  · have H : Hid (spanOk ⟨⟨a, b⟩, ⟨c, d⟩⟩ = false) := by unfold Hid spanOk; simp [h1]
    rw [show ratioOk ⟨a, b⟩ = false from by simpa using h1]
    clear h1
    go_wp2
    go_ret
    exact ⟨ret_bool H.out.symm, hx.trans hB⟩

set_option maxHeartbeats 1000000 in
theorem specSpanOk_any (a b c d : Int) (w : World) (ha : I64 a) (hb : I64 b) (hc : I64 c) (hd : I64 d) :
    Calls Tryd.prog 70 #[.agg #[.int .i64 a, .int .i64 b, .int .i64 c, .int .i64 d]] w fun e w' => e = .returned (.bool (spanOk ⟨⟨a, b⟩, ⟨c, d⟩⟩)) ∧ Ext w w' := by
  have Ha := Lib.hid ha
  have Hb := Lib.hid hb
  have Hc := Lib.hid hc
  have Hd := Lib.hid hd
  clear ha hb hc hd
  have hx : Ext w (w.alloc (.cells #[.int .i64 a, .int .i64 b, .int .i64 c, .int .i64 d] 74)) := (Ext.refl w).alloc _
  have hB := Ext.refl (w.alloc (.cells #[.int .i64 a, .int .i64 b, .int .i64 c, .int .i64 d] 74))
  go_enter Tryd.func70, Tryd.ntmps70
  go_wp2_with fail
  refine (specRatioOk_any _ _ _ Ha.out Hb.out).mono ?_
  rintro e w1 ⟨rfl, hx1⟩
  have hB := hB.trans hx1
  have hc1 := fun o => hB.use.1 w.heap.size o (by simp <;> omega)
  by_cases h1 : ratioOk ⟨a, b⟩ = true
  · rw [h1]
    have H1 := Lib.hid h1
    clear h1
    go_wp2_with fail
    refine (specRatioOk_any _ _ _ Hc.out Hd.out).mono ?_
    rintro e w2 ⟨rfl, hx2⟩
    have hB := hB.trans hx2
    have hc2 := fun o => hB.use.1 w.heap.size o (by simp <;> omega)
    by_cases h2 : ratioOk ⟨c, d⟩ = true
    · rw [h2]
      have H2 := Lib.hid h2
      clear h2
      go_wp2_with fail
      refine (specRatioCmp_any _ _ _ _ _ Ha.out Hb.out Hc.out Hd.out).mono ?_
      rintro e w3 ⟨rfl, hx3⟩
      have H : Hid (spanOk ⟨⟨a, b⟩, ⟨c, d⟩⟩ = decide (ratioCmp ⟨a, b⟩ ⟨c, d⟩ ≤ 0)) := by unfold Hid spanOk; rw [H1.out, H2.out]; rfl
      go_wp2
      go_ret
      exact ⟨ret_bool H.out.symm, (hx.trans hB).trans hx3⟩
    · have H : Hid (spanOk ⟨⟨a, b⟩, ⟨c, d⟩⟩ = false) := by unfold Hid spanOk; simp [h2]
      rw [show ratioOk ⟨c, d⟩ = false from by simpa using h2]
      clear h2
      go_wp2
      go_ret
      exact ⟨ret_bool H.out.symm, hx.trans hB⟩
  · have H : Hid (spanOk ⟨⟨a, b⟩, ⟨c, d⟩⟩ = false) := by unfold Hid spanOk; simp [h1]
    rw [show ratioOk ⟨a, b⟩ = false from by simpa using h1]
    clear h1
    go_wp2
    go_ret
    exact ⟨ret_bool H.out.symm, hx.trans hB⟩

set_option maxHeartbeats 400000 in
theorem toSpan_any (a b c d : Int) (w : World) :
    Calls Tryd.prog 39 #[.agg #[.int .i64 a, .int .i64 b, .int .i64 c, .int .i64 d]] w fun e w' => e = .returned (.agg #[.int .i64 a, .int .i64 b, .int .i64 c, .int .i64 d]) ∧ Ext w w' := by
  have hx0 : Ext w (((w.alloc (.cells #[.int .i64 a, .int .i64 b, .int .i64 c, .int .i64 d] 70)).alloc (.cells #[.int .i64 0, .int .i64 0, .int .i64 0, .int .i64 0] 74)).alloc (.cells #[.int .i64 0, .int .i64 0, .int .i64 0, .int .i64 0] 74)) := (((Ext.refl w).alloc _).alloc _).alloc _
  have b0 := ((Blk.new w 70 #[.int .i64 a, .int .i64 b, .int .i64 c, .int .i64 d]).alloc (.cells #[.int .i64 0, .int .i64 0, .int .i64 0, .int .i64 0] 74)).alloc (.cells #[.int .i64 0, .int .i64 0, .int .i64 0, .int .i64 0] 74)
  have b1 := (Blk.new (w.alloc (.cells #[.int .i64 a, .int .i64 b, .int .i64 c, .int .i64 d] 70)) 74 #[.int .i64 0, .int .i64 0, .int .i64 0, .int .i64 0]).alloc (.cells #[.int .i64 0, .int .i64 0, .int .i64 0, .int .i64 0] 74)
  have b2 := Blk.new ((w.alloc (.cells #[.int .i64 a, .int .i64 b, .int .i64 c, .int .i64 d] 70)).alloc (.cells #[.int .i64 0, .int .i64 0, .int .i64 0, .int .i64 0] 74)) 74 #[.int .i64 0, .int .i64 0, .int .i64 0, .int .i64 0]
  simp only [World.size_alloc] at b1 b2
  go_enter Tryd.func39, Tryd.ntmps39
  go_wp2_with fail
  refine (toRatio_any _ _ _).mono ?_
  rintro e w1 ⟨rfl, hx1⟩
  replace b0 := b0.ext hx1
  replace b1 := b1.ext hx1
  replace b2 := b2.ext hx1
  have c0 := fun o => b0.cell o
  have c1 := fun o => b1.cell o
  have c2 := fun o => b2.cell o
  have f2 := fun o => b2.frozen o
  have hl := b2.lt
  go_wp2_with fail
  refine (toRatio_any _ _ _).mono ?_
  rintro e w2 ⟨rfl, hx2⟩
  replace b0 := ((b0.far (by simp <;> omega) _).far (by simp <;> omega) _).ext hx2
  replace b1 := ((b1.far (by simp <;> omega) _).far (by simp <;> omega) _).ext hx2
  replace b2 := ((b2.set_ 0 _).set_ 1 _).ext hx2
  clear c0 c1 c2 f2
  have c0 := fun o => b0.cell o
  have c1 := fun o => b1.cell o
  have c2 := fun o => b2.cell o
  have f1 := fun o => b1.frozen o
  have f2 := fun o => b2.frozen o
  go_wp2
  refine bodyPost_ret (v := .agg #[.int .i64 a, .int .i64 b, .int .i64 c, .int .i64 d]) (by simp [results, Tryd.results39, go_sem, c1]) rfl ⟨rfl, ?_⟩
  exact ((((((((hx0.trans hx1).setCell (by simp <;> omega) _).setCell (by simp <;> omega) _).trans hx2).setCell (by simp <;> omega) _).setCell (by simp <;> omega) _).setCell (by simp <;> omega) _).setCell (by simp <;> omega) _).setCell (by simp <;> omega) _ |>.setCell (by simp <;> omega) _



end Go.Proofs.YtbbkahnfnjlajaaDoor
