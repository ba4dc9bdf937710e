/- Contracts of inputs and spans of the program: RatioOf, isDriven, WholeInputs, InSpan, PickInput. -/
import Derived.Test.YtfnmbpjkjajpcaaGreatDoorFbRat
import Derived.Test.YtfnmbpjkjajpcaaGreatDoorFbPz
import Derived.Deep.RegionHeld3
import Derived.IntWalk
namespace Go.Proofs.YtfnmbpjkjajpcaaGreatDoor
open Go.ChangeShapes Go.WideShapes Go.ChangeAt Go.RowKit
set_option linter.unusedVariables false
set_option maxHeartbeats 1000000 in
theorem inSpan_any (a b c d n m : Int) (w : World) (ha : I64 a) (hb : I64 b) (hc : I64 c) (hd : I64 d) (hn : I64 n) (hm : I64 m) :
    Calls Tryz.prog 305 #[.agg #[.int .i64 a, .int .i64 b, .int .i64 c, .int .i64 d], .agg #[.int .i64 n, .int .i64 m]] w fun e w' => e = .returned (.bool (inSpan ⟨⟨a, b⟩, ⟨c, d⟩⟩ ⟨n, m⟩)) ∧ Ext w w' := by
  have hy : Ext w ((w.alloc (.cells #[.int .i64 a, .int .i64 b, .int .i64 c, .int .i64 d] 178)).alloc (.cells #[.int .i64 n, .int .i64 m] 139)) := ((Ext.refl w).alloc _).alloc _
  have hB : Ext (w.alloc (.cells #[.int .i64 a, .int .i64 b, .int .i64 c, .int .i64 d] 178)) ((w.alloc (.cells #[.int .i64 a, .int .i64 b, .int .i64 c, .int .i64 d] 178)).alloc (.cells #[.int .i64 n, .int .i64 m] 139)) := (Ext.refl _).alloc _
  have hC := Ext.refl ((w.alloc (.cells #[.int .i64 a, .int .i64 b, .int .i64 c, .int .i64 d] 178)).alloc (.cells #[.int .i64 n, .int .i64 m] 139))
  go_enter Tryz.func305, Tryz.ntmps305
  go_wp2_with fail
  refine (implSpanOk_any _ _ _ _ _ ha hb hc hd).mono ?_
  rintro e w1 ⟨rfl, hx1⟩
  replace hy := hy.trans hx1
  replace hB := hB.trans hx1
  replace hC := hC.trans hx1
  have chB_2 := fun o => hB.use.1 (w.heap.size) o (by simp <;> omega)
  have chC_3 := fun o => hC.use.1 (w.heap.size + 1) o (by simp <;> omega)
  by_cases h1 : spanOk ⟨⟨a, b⟩, ⟨c, d⟩⟩ = true
  · have H1 := Lib.hid h1
    rw [h1]
    clear h1
    go_wp2_with fail
    refine (implRatioOk_any _ _ _ hn hm).mono ?_
    rintro e w2 ⟨rfl, hx2⟩
    replace hy := hy.trans hx2
    replace hB := hB.trans hx2
    replace hC := hC.trans hx2
    have chB_4 := fun o => hB.use.1 (w.heap.size) o (by simp <;> omega)
    have chC_5 := fun o => hC.use.1 (w.heap.size + 1) o (by simp <;> omega)
    by_cases h2 : ratioOk ⟨n, m⟩ = true
    · have H2 := Lib.hid h2
      rw [h2]
      clear h2
      go_wp2_with fail
      refine (implRatioCmp_any _ _ _ _ _ ha hb hn hm).mono ?_
      rintro e w3 ⟨rfl, hx3⟩
      replace hy := hy.trans hx3
      replace hB := hB.trans hx3
      replace hC := hC.trans hx3
      have chB_6 := fun o => hB.use.1 (w.heap.size) o (by simp <;> omega)
      have chC_7 := fun o => hC.use.1 (w.heap.size + 1) o (by simp <;> omega)
      by_cases h3 : ratioCmp ⟨a, b⟩ ⟨n, m⟩ ≤ 0
      · have h3' : decide (ratioCmp ⟨a, b⟩ ⟨n, m⟩ ≤ 0) = true := by simpa using h3
        go_wp2_with fail
        refine (implRatioCmp_any _ _ _ _ _ hn hm hc hd).mono ?_
        rintro e w4 ⟨rfl, hx4⟩
        replace hy := hy.trans hx4
        replace hB := hB.trans hx4
        replace hC := hC.trans hx4
        have chB_8 := fun o => hB.use.1 (w.heap.size) o (by simp <;> omega)
        have chC_9 := fun o => hC.use.1 (w.heap.size + 1) o (by simp <;> omega)
        go_wp2
        go_ret
        exact ⟨ret_bool (by unfold inSpan; rw [H1.out, H2.out, h3']; rfl), hy⟩
      · have h3' : decide (ratioCmp ⟨a, b⟩ ⟨n, m⟩ ≤ 0) = false := by simpa using h3
        clear h3
        go_wp2
        go_ret
        exact ⟨ret_bool (by unfold inSpan; rw [h3']; simp), hy⟩
    · have h2' : ratioOk ⟨n, m⟩ = false := by simpa using h2
      clear h2
      rw [h2']
      go_wp2
      go_ret
      exact ⟨ret_bool (by unfold inSpan; rw [h2']; simp), hy⟩
  · have h1' : spanOk ⟨⟨a, b⟩, ⟨c, d⟩⟩ = false := by simpa using h1
    clear h1
    rw [h1']
    go_wp2
    go_ret
    exact ⟨ret_bool (by unfold inSpan; rw [h1']; simp), hy⟩
end Go.Proofs.YtfnmbpjkjajpcaaGreatDoor
