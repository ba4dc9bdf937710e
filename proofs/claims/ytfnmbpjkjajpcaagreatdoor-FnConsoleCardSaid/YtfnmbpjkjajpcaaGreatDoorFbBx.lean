/- Contracts of BoxRegion of the program and of the reference. -/
import Derived.Test.YtfnmbpjkjajpcaaGreatDoorFbBz
import Derived.Test.YtfnmbpjkjajpcaaGreatDoorFbJz
import Derived.Test.YtfnmbpjkjajpcaaGreatDoorFbDz
namespace Go.Proofs.YtfnmbpjkjajpcaaGreatDoor
open Go.ChangeShapes Go.WideShapes Go.ChangeAt Go.RowKit
set_option linter.unusedVariables false
set_option maxRecDepth 100000
theorem box_I {x0 y0 x1 y1 : Int} (h1 : boundB x0 x1 = true) (h2 : boundB y0 y1 = true) : HalvesI (boxHs x0 y0 x1 y1) := by
  unfold boundB at h1 h2
  simp only [Bool.and_eq_true, decide_eq_true_eq] at h1 h2
  intro h hh z hz
  simp only [boxHs, List.mem_cons, List.not_mem_nil, or_false] at hh
  unfold I64
  rcases hh with rfl | rfl | rfl | rfl <;> simp only [Half.ints, List.mem_cons, List.not_mem_nil, or_false] at hz <;> omega
theorem areBounds_any (a b : Int) (w : World) : Calls Tryz.prog 68 #[.int .i64 a, .int .i64 b] w fun e w' => e = .returned (.bool (boundB a b)) ∧ w = w' := by
  have H : Hid (boundB a b = (decide (-1000 ≤ a) && decide (a < b) && decide (b ≤ 1000))) := rfl
  go_enter Tryz.func68, Tryz.ntmps68
  by_cases h1 : -1000 ≤ a
  · by_cases h2 : a < b
    · go_wp2
      go_ret
      exact ⟨ret_bool (by rw [H.out, decide_eq_true h1, decide_eq_true h2]; rfl), rfl⟩
    · go_wp2
      go_ret
      exact ⟨ret_bool (by rw [H.out, decide_eq_true h1, decide_eq_false (by omega)]; rfl), rfl⟩
  · go_wp2
    go_ret
    exact ⟨ret_bool (by rw [H.out, decide_eq_false (by omega)]; rfl), rfl⟩
theorem boxR_no {x0 y0 x1 y1 : Int} (h : ¬ (boundB x0 x1 = true ∧ boundB y0 y1 = true)) : boxR x0 y0 x1 y1 = ([], false) := if_neg h
theorem boxR_yes {x0 y0 x1 y1 : Int} (h1 : boundB x0 x1 = true) (h2 : boundB y0 y1 = true) : boxR x0 y0 x1 y1 = fromR (boxHs x0 y0 x1 y1) := by
  rw [box_from h1 h2]; exact if_pos ⟨h1, h2⟩
set_option maxHeartbeats 2000000 in
theorem implBoxRegion_any (x0 y0 x1 y1 : Int) (w : World) :
    Calls Tryz.prog 31 #[.int .i64 x0, .int .i64 y0, .int .i64 x1, .int .i64 y1] w (RegMade (boxR x0 y0 x1 y1) w) := by
  have hx : Ext w (w.alloc (.cells #[.slice none 0 0] 34)) := (Ext.refl w).alloc _
  have b0 := Blk.new w 34 #[.slice none 0 0]
  have HX := Lib.hid (areBounds_any x0 x1)
  have HY := Lib.hid (areBounds_any y0 y1)
  obtain ⟨p, hp⟩ : ∃ p, boundB x0 x1 = p := ⟨_, rfl⟩
  obtain ⟨q, hq⟩ : ∃ q, boundB y0 y1 = q := ⟨_, rfl⟩
  rw [hp] at HX
  rw [hq] at HY
  have HP := Lib.hid hp
  have HQ := Lib.hid hq
  clear hp hq
  have c0 := fun o => b0.cell o
  have f0 := fun o => b0.frozen o
  cases p
  · have H := Lib.hid (boxR_no (x0 := x0) (x1 := x1) (y0 := y0) (y1 := y1) (fun e => by rw [HP.out] at e; cases e.1))
    go_enter Tryz.func31, Tryz.ntmps31
    go_wp2_with fail
    refine (HX.out _).mono ?_
    rintro e w' ⟨rfl, rfl⟩
    go_wp2
    refine bodyPost_ret (v := .tuple #[.agg #[.slice none 0 0], .bool false]) (by simp [results, Tryz.results31, go_sem, c0]) rfl ?_
    exact RegMade.nil false H.out rfl (by repeat (first | (with_reducible exact hx) | refine Ext.setCell ?_ (by first | omega | (simp <;> omega)) _))
  cases q
  · have H := Lib.hid (boxR_no (x0 := x0) (x1 := x1) (y0 := y0) (y1 := y1) (fun e => by rw [HQ.out] at e; cases e.2))
    go_enter Tryz.func31, Tryz.ntmps31
    go_wp2_with fail
    refine (HX.out _).mono ?_
    rintro e w' ⟨rfl, rfl⟩
    go_wp2_with fail
    refine (HY.out _).mono ?_
    rintro e w' ⟨rfl, rfl⟩
    go_wp2
    refine bodyPost_ret (v := .tuple #[.agg #[.slice none 0 0], .bool false]) (by simp [results, Tryz.results31, go_sem, c0]) rfl ?_
    exact RegMade.nil false H.out rfl (by repeat (first | (with_reducible exact hx) | refine Ext.setCell ?_ (by first | omega | (simp <;> omega)) _))
  have hb := HP.out
  have hb2 := HQ.out
  unfold boundB at hb hb2
  simp only [Bool.and_eq_true, decide_eq_true_eq] at hb hb2
  have H := Lib.hid (boxR_yes HP.out HQ.out)
  have HI := Lib.hid (box_I HP.out HQ.out)
  go_enter Tryz.func31, Tryz.ntmps31
  go_wp2_with fail
  refine (HX.out _).mono ?_
  rintro e w' ⟨rfl, rfl⟩
  go_wp2_with fail
  refine (HY.out _).mono ?_
  rintro e w' ⟨rfl, rfl⟩
  go_wp2_with fail
  have bB := Blk.new (w.alloc (.cells #[.slice none 0 0] 34)) 116 #[.int .i64 1, .int .i64 0, .int .i64 x1, .int .i64 0, .int .i64 1, .int .i64 y1, .int .i64 (-1), .int .i64 0, .int .i64 (-x0), .int .i64 0, .int .i64 (-1), .int .i64 (-y0)]
  simp only [World.size_alloc] at bB
  have hrow : Row ((w.alloc (.cells #[.slice none 0 0] 34)).alloc (.cells #[.int .i64 1, .int .i64 0, .int .i64 x1, .int .i64 0, .int .i64 1, .int .i64 y1, .int .i64 (-1), .int .i64 0, .int .i64 (-x0), .int .i64 0, .int .i64 (-1), .int .i64 (-y0)] 116)) (some ⟨w.heap.size + 1, 0, none⟩) (ints (flat Half.ints (boxHs x0 y0 x1 y1))) := .inr ⟨_, 0, rfl, fun j v hj => by rw [bB.cell, Nat.zero_add]; simpa [ints, flat, boxHs, Half.ints] using hj⟩
  refine (implRegionFrom_any _ 4 4 (boxHs x0 y0 x1 y1) _ rfl hrow HI.out (by unfold maxLen; omega) (by omega)).mono ?_
  rintro e w3 ⟨A, c, n, rfl, hn, hx3, hown⟩
  replace hx := (hx.alloc (.cells #[.int .i64 1, .int .i64 0, .int .i64 x1, .int .i64 0, .int .i64 1, .int .i64 y1, .int .i64 (-1), .int .i64 0, .int .i64 (-x0), .int .i64 0, .int .i64 (-1), .int .i64 (-y0)] 116)).trans hx3
  have b1 := (b0.alloc (.cells #[.int .i64 1, .int .i64 0, .int .i64 x1, .int .i64 0, .int .i64 1, .int .i64 y1, .int .i64 (-1), .int .i64 0, .int .i64 (-x0), .int .i64 0, .int .i64 (-1), .int .i64 (-y0)] 116)).ext hx3
  clear c0 f0
  have c0 := fun o => b1.cell o
  have f0 := fun o => b1.frozen o
  rw [← H.out] at hn hown ⊢
  generalize boxR x0 y0 x1 y1 = r at *
  subst hn
  go_wp2
  have bF := b1.set_ 0 (.slice A r.1.length c)
  have cF := fun o => bF.cell o
  refine bodyPost_ret (v := .tuple #[.agg #[.slice A r.1.length c], .bool r.2]) (by simp [results, Tryz.results31, go_sem, cF]) rfl ?_
  exact ⟨A, c, _, rfl, rfl, hx.setCell (by first | omega | (simp <;> omega)) _, own_base (own_far hown (by simp <;> omega) _) (by simp <;> omega)⟩
end Go.Proofs.YtfnmbpjkjajpcaaGreatDoor
