/- Contracts of spans, and of AskOf. -/
import Derived.Test.YtjghabbcjpfjeaaGreatDoorQC
import Derived.Test.YtjghabbcjpfjeaaGreatDoorPz
import Derived.Test.YtjghabbcjpfjeaaGreatDoorK
import Derived.Test.YtjghabbcjpfjeaaGreatDoorHz
import Derived.Deep.RegionHeld3
namespace Go.Proofs.YtjghabbcjpfjeaaGreatDoor
open Go.ChangeShapes Go.WideShapes Go.ChangeAt Go.RowKit
set_option linter.unusedVariables false

set_option maxHeartbeats 1000000 in
theorem implSpanOk_any (a b c d : Int) (w : World) (ha : I64 a) (hb : I64 b) (hc : I64 c) (hd : I64 d) :
    Calls Tryz.prog 46 #[.agg #[.int .i64 a, .int .i64 b, .int .i64 c, .int .i64 d]] w fun e w' => e = .returned (.bool (spanOk ⟨⟨a, b⟩, ⟨c, d⟩⟩)) ∧ Ext w w' := by
  have Ha := Lib.hid ha
  have Hb := Lib.hid hb
  have Hc := Lib.hid hc
  have Hd := Lib.hid hd
  clear ha hb hc hd
  have hx : Ext w (w.alloc (.cells #[.int .i64 a, .int .i64 b, .int .i64 c, .int .i64 d] 46)) := (Ext.refl w).alloc _
  have hB := Ext.refl (w.alloc (.cells #[.int .i64 a, .int .i64 b, .int .i64 c, .int .i64 d] 46))
  go_enter Tryz.func46, Tryz.ntmps46
  go_wp2_with fail
  refine (implRatioOk_any _ _ _ Ha.out Hb.out).mono ?_
  rintro e w1 ⟨rfl, hx1⟩
  have hB := hB.trans hx1
  have hc1 := fun o => hB.use.1 w.heap.size o (by simp <;> omega)
  by_cases h1 : ratioOk ⟨a, b⟩ = true
  · rw [h1]
    have H1 := Lib.hid h1
    clear h1
    go_wp2_with fail
    refine (implRatioOk_any _ _ _ Hc.out Hd.out).mono ?_
    rintro e w2 ⟨rfl, hx2⟩
    have hB := hB.trans hx2
    have hc2 := fun o => hB.use.1 w.heap.size o (by simp <;> omega)
    by_cases h2 : ratioOk ⟨c, d⟩ = true
    · rw [h2]
      have H2 := Lib.hid h2
      clear h2
      go_wp2_with fail
      refine (implRatioCmp_any _ _ _ _ _ Ha.out Hb.out Hc.out Hd.out).mono ?_
      rintro e w3 ⟨rfl, hx3⟩
      have H : Hid (spanOk ⟨⟨a, b⟩, ⟨c, d⟩⟩ = decide (ratioCmp ⟨a, b⟩ ⟨c, d⟩ ≤ 0)) := by unfold Hid spanOk; rw [H1.out, H2.out]; rfl
      go_wp2
      go_ret
      exact ⟨ret_bool H.out.symm, (hx.trans hB).trans hx3⟩
    · have H : Hid (spanOk ⟨⟨a, b⟩, ⟨c, d⟩⟩ = false) := by unfold Hid spanOk; simp [h2]
      rw [show ratioOk ⟨c, d⟩ = false from by simpa using h2]
      clear h2
      go_wp2
      go_ret
      exact ⟨ret_bool H.out.symm, hx.trans hB⟩
  · have H : Hid (spanOk ⟨⟨a, b⟩, ⟨c, d⟩⟩ = false) := by unfold Hid spanOk; simp [h1]
    rw [show ratioOk ⟨a, b⟩ = false from by simpa using h1]
    clear h1
    go_wp2
    go_ret
    exact ⟨ret_bool H.out.symm, hx.trans hB⟩





end Go.Proofs.YtjghabbcjpfjeaaGreatDoor
