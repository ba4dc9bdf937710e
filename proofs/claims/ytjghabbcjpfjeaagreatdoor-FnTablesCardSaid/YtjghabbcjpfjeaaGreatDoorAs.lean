/- Contracts of inputs and spans of the program: RatioOf, isDriven, WholeInputs, InSpan, PickInput. -/
import Derived.Test.YtjghabbcjpfjeaaGreatDoorRat
import Derived.Test.YtjghabbcjpfjeaaGreatDoorPz
import Derived.Deep.RegionHeld3
import Derived.IntWalk
namespace Go.Proofs.YtjghabbcjpfjeaaGreatDoor
open Go.ChangeShapes Go.WideShapes Go.ChangeAt Go.RowKit
set_option linter.unusedVariables false

set_option maxHeartbeats 1000000 in
theorem isDriven_any (a b : Int) (w : World) (ha : I64 a) (hb : I64 b) :
    Calls Tryz.prog 47 #[.agg #[.int .i64 a, .int .i64 b]] w fun e w' => e = .returned (.bool (isDriven ⟨a, b⟩)) ∧ Ext w w' := by
  have hy : Ext w (w.alloc (.cells #[.int .i64 a, .int .i64 b] 44)) := (Ext.refl w).alloc _
  have hB := Ext.refl (w.alloc (.cells #[.int .i64 a, .int .i64 b] 44))
  go_enter Tryz.func47, Tryz.ntmps47
  go_wp2_with fail
  refine (implRatioOk_any _ _ _ ha hb).mono ?_
  rintro e w1 ⟨rfl, hx1⟩
  replace hy := hy.trans hx1
  replace hB := hB.trans hx1
  have chB_1 := fun o => hB.use.1 (w.heap.size) o (by simp <;> omega)
  by_cases h1 : ratioOk ⟨a, b⟩ = true
  · have hbd := ratioOk_bd h1
    simp only at hbd
    obtain ⟨d1, d2, _, _⟩ := hbd
    have H : Hid (isDriven ⟨a, b⟩ = inR a (-1000 * b) (1000 * b)) := by unfold Hid isDriven; rw [h1]; rfl
    rw [h1]
    clear h1
    have q1 : IntKind.i64.wrap (-1000 * b) = -1000 * b := IntWalk.i64_in _ (by omega)
    have q2 : IntKind.i64.wrap (1000 * b) = 1000 * b := IntWalk.i64_in _ (by omega)
    go_wp2_with fail
    refine (inRange_any _ _ _ _).mono ?_
    rintro e w' ⟨rfl, rfl⟩
    go_wp2
    go_ret
    exact ⟨ret_bool H.out.symm, hy⟩
  · have H : Hid (isDriven ⟨a, b⟩ = false) := by unfold Hid isDriven; simp [h1]
    rw [show ratioOk ⟨a, b⟩ = false from by simpa using h1]
    clear h1
    go_wp2
    go_ret
    exact ⟨ret_bool H.out.symm, hy⟩

set_option maxHeartbeats 1000000 in
theorem inSpan_any (a b c d n m : Int) (w : World) (ha : I64 a) (hb : I64 b) (hc : I64 c) (hd : I64 d) (hn : I64 n) (hm : I64 m) :
    Calls Tryz.prog 13 #[.agg #[.int .i64 a, .int .i64 b, .int .i64 c, .int .i64 d], .agg #[.int .i64 n, .int .i64 m]] w fun e w' => e = .returned (.bool (inSpan ⟨⟨a, b⟩, ⟨c, d⟩⟩ ⟨n, m⟩)) ∧ Ext w w' := by
  have hy : Ext w ((w.alloc (.cells #[.int .i64 a, .int .i64 b, .int .i64 c, .int .i64 d] 46)).alloc (.cells #[.int .i64 n, .int .i64 m] 44)) := ((Ext.refl w).alloc _).alloc _
  have hB : Ext (w.alloc (.cells #[.int .i64 a, .int .i64 b, .int .i64 c, .int .i64 d] 46)) ((w.alloc (.cells #[.int .i64 a, .int .i64 b, .int .i64 c, .int .i64 d] 46)).alloc (.cells #[.int .i64 n, .int .i64 m] 44)) := (Ext.refl _).alloc _
  have hC := Ext.refl ((w.alloc (.cells #[.int .i64 a, .int .i64 b, .int .i64 c, .int .i64 d] 46)).alloc (.cells #[.int .i64 n, .int .i64 m] 44))
  go_enter Tryz.func13, Tryz.ntmps13
  go_wp2_with fail
  refine (implSpanOk_any _ _ _ _ _ ha hb hc hd).mono ?_
  rintro e w1 ⟨rfl, hx1⟩
  replace hy := hy.trans hx1
  replace hB := hB.trans hx1
  replace hC := hC.trans hx1
  have chB_2 := fun o => hB.use.1 (w.heap.size) o (by simp <;> omega)
  have chC_3 := fun o => hC.use.1 (w.heap.size + 1) o (by simp <;> omega)
  by_cases h1 : spanOk ⟨⟨a, b⟩, ⟨c, d⟩⟩ = true
  · have H1 := Lib.hid h1
    rw [h1]
    clear h1
    go_wp2_with fail
    refine (implRatioOk_any _ _ _ hn hm).mono ?_
    rintro e w2 ⟨rfl, hx2⟩
    replace hy := hy.trans hx2
    replace hB := hB.trans hx2
    replace hC := hC.trans hx2
    have chB_4 := fun o => hB.use.1 (w.heap.size) o (by simp <;> omega)
    have chC_5 := fun o => hC.use.1 (w.heap.size + 1) o (by simp <;> omega)
    by_cases h2 : ratioOk ⟨n, m⟩ = true
    · have H2 := Lib.hid h2
      rw [h2]
      clear h2
      go_wp2_with fail
      refine (implRatioCmp_any _ _ _ _ _ ha hb hn hm).mono ?_
      rintro e w3 ⟨rfl, hx3⟩
      replace hy := hy.trans hx3
      replace hB := hB.trans hx3
      replace hC := hC.trans hx3
      have chB_6 := fun o => hB.use.1 (w.heap.size) o (by simp <;> omega)
      have chC_7 := fun o => hC.use.1 (w.heap.size + 1) o (by simp <;> omega)
      by_cases h3 : ratioCmp ⟨a, b⟩ ⟨n, m⟩ ≤ 0
      · have h3' : decide (ratioCmp ⟨a, b⟩ ⟨n, m⟩ ≤ 0) = true := by simpa using h3
        go_wp2_with fail
        refine (implRatioCmp_any _ _ _ _ _ hn hm hc hd).mono ?_
        rintro e w4 ⟨rfl, hx4⟩
        replace hy := hy.trans hx4
        replace hB := hB.trans hx4
        replace hC := hC.trans hx4
        have chB_8 := fun o => hB.use.1 (w.heap.size) o (by simp <;> omega)
        have chC_9 := fun o => hC.use.1 (w.heap.size + 1) o (by simp <;> omega)
        go_wp2
        go_ret
        exact ⟨ret_bool (by unfold inSpan; rw [H1.out, H2.out, h3']; rfl), hy⟩
      · have h3' : decide (ratioCmp ⟨a, b⟩ ⟨n, m⟩ ≤ 0) = false := by simpa using h3
        clear h3
        go_wp2
        go_ret
        exact ⟨ret_bool (by unfold inSpan; rw [h3']; simp), hy⟩
    · have h2' : ratioOk ⟨n, m⟩ = false := by simpa using h2
      clear h2
      rw [h2']
      go_wp2
      go_ret
      exact ⟨ret_bool (by unfold inSpan; rw [h2']; simp), hy⟩
  · have h1' : spanOk ⟨⟨a, b⟩, ⟨c, d⟩⟩ = false := by simpa using h1
    clear h1
    rw [h1']
    go_wp2
    go_ret
    exact ⟨ret_bool (by unfold inSpan; rw [h1']; simp), hy⟩

set_option maxHeartbeats 1000000 in
theorem wholeInputs_any (a b c d : Int) (w : World) (ha : I64 a) (hb : I64 b) (hc : I64 c) (hd : I64 d) :
    Calls Tryz.prog 12 #[.agg #[.int .i64 a, .int .i64 b, .int .i64 c, .int .i64 d]] w fun e w' => e = .returned (.int .i64 (wholeInputs ⟨⟨a, b⟩, ⟨c, d⟩⟩)) ∧ Ext w w' := by
  have hy : Ext w (w.alloc (.cells #[.int .i64 a, .int .i64 b, .int .i64 c, .int .i64 d] 46)) := (Ext.refl w).alloc _
  have hB := Ext.refl (w.alloc (.cells #[.int .i64 a, .int .i64 b, .int .i64 c, .int .i64 d] 46))
  go_enter Tryz.func12, Tryz.ntmps12
  go_wp2_with fail
  refine (implSpanOk_any _ _ _ _ _ ha hb hc hd).mono ?_
  rintro e w1 ⟨rfl, hx1⟩
  replace hy := hy.trans hx1
  replace hB := hB.trans hx1
  have chB_10 := fun o => hB.use.1 (w.heap.size) o (by simp <;> omega)
  by_cases h1 : spanOk ⟨⟨a, b⟩, ⟨c, d⟩⟩ = true
  · have H1 := Lib.hid h1
    rw [h1]
    clear h1
    go_wp2_with fail
    refine (isDriven_any _ _ _ ha hb).mono ?_
    rintro e w2 ⟨rfl, hx2⟩
    replace hy := hy.trans hx2
    replace hB := hB.trans hx2
    have chB_11 := fun o => hB.use.1 (w.heap.size) o (by simp <;> omega)
    by_cases h2 : isDriven ⟨a, b⟩ = true
    · have H2 := Lib.hid h2
      rw [h2]
      clear h2
      go_wp2_with fail
      refine (isDriven_any _ _ _ hc hd).mono ?_
      rintro e w3 ⟨rfl, hx3⟩
      replace hy := hy.trans hx3
      replace hB := hB.trans hx3
      have chB_12 := fun o => hB.use.1 (w.heap.size) o (by simp <;> omega)
      by_cases h3 : isDriven ⟨c, d⟩ = true
      · have H3 := Lib.hid h3
        rw [h3]
        clear h3
        have q1 := ratioFloor_bd ⟨c, d⟩
        have q2 := ratioCeil_bd ⟨a, b⟩
        have q3 : IntKind.i64.wrap (ratioFloor ⟨c, d⟩ - ratioCeil ⟨a, b⟩) = ratioFloor ⟨c, d⟩ - ratioCeil ⟨a, b⟩ := IntWalk.i64_in _ (by omega)
        have q4 : IntKind.i64.wrap (ratioFloor ⟨c, d⟩ - ratioCeil ⟨a, b⟩ + 1) = ratioFloor ⟨c, d⟩ - ratioCeil ⟨a, b⟩ + 1 := IntWalk.i64_in _ (by omega)
        have hE := Ext.refl w3
        go_wp2_with fail
        go_region_held3 (fun w' => w'.cell? ⟨w.heap.size, 0, none⟩ = some (.int .i64 a) ∧ w'.cell? ⟨w.heap.size, 1, none⟩ = some (.int .i64 b) ∧ w'.cell? ⟨w.heap.size, 2, none⟩ = some (.int .i64 c) ∧ w'.cell? ⟨w.heap.size, 3, none⟩ = some (.int .i64 d))
          (go_keep)
          (first
            | (go_at_call 48; refine (implRatioFloor_any _ _ _ hc hd).mono ?_; rintro e w4 ⟨rfl, hx4⟩; replace hB := Ext.trans (by first | exact hB | exact hB.drew) hx4; replace hy := Ext.trans (by first | exact hy | exact hy.drew) hx4; have c4 := fun o => hB.use.1 (w.heap.size) o (by simp <;> omega))
            | (go_at_call 49; refine (implRatioCeil_any _ _ _ ha hb).mono ?_; rintro e w4 ⟨rfl, hx4⟩; replace hB := Ext.trans (by first | exact hB | exact hB.drew) hx4; replace hy := Ext.trans (by first | exact hy | exact hy.drew) hx4; have c4 := fun o => hB.use.1 (w.heap.size) o (by simp <;> omega)))
        go_wp2
        all_goals
          go_ret
          exact ⟨ret_int (by unfold wholeInputs; rw [if_pos ⟨H1.out, H2.out, H3.out⟩]; simp only; split <;> omega), hy⟩
      · have h3' : isDriven ⟨c, d⟩ = false := by simpa using h3
        clear h3
        rw [h3']
        go_wp2
        go_ret
        exact ⟨ret_int (by unfold wholeInputs; rw [if_neg (fun h => by rw [h3'] at h; simp at h)]), hy⟩
    · have h2' : isDriven ⟨a, b⟩ = false := by simpa using h2
      clear h2
      rw [h2']
      go_wp2
      go_ret
      exact ⟨ret_int (by unfold wholeInputs; rw [if_neg (fun h => by rw [h2'] at h; simp at h)]), hy⟩
  · have h1' : spanOk ⟨⟨a, b⟩, ⟨c, d⟩⟩ = false := by simpa using h1
    clear h1
    rw [h1']
    go_wp2
    go_ret
    exact ⟨ret_int (by unfold wholeInputs; rw [if_neg (fun h => by rw [h1'] at h; simp at h)]), hy⟩
end Go.Proofs.YtjghabbcjpfjeaaGreatDoor
