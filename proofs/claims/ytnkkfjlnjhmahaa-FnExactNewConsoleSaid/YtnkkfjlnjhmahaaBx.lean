/- Contracts of BoxRegion of the program and of the reference. -/
import Derived.Test.YtnkkfjlnjhmahaaRk
import Derived.Test.YtnkkfjlnjhmahaaHf
import Derived.Test.YtnkkfjlnjhmahaaGeoB
namespace Go.Proofs.Ytnkkfjlnjhmahaa
open Go.ChangeShapes Go.WideShapes Go.ChangeAt Go.RowKit
set_option linter.unusedVariables false
set_option maxRecDepth 100000

theorem box_I {x0 y0 x1 y1 : Int} (h1 : boundB x0 x1 = true) (h2 : boundB y0 y1 = true) : HalvesI (boxHs x0 y0 x1 y1) := by
  unfold boundB at h1 h2
  simp only [Bool.and_eq_true, decide_eq_true_eq] at h1 h2
  intro h hh z hz
  simp only [boxHs, List.mem_cons, List.not_mem_nil, or_false] at hh
  unfold I64
  rcases hh with rfl | rfl | rfl | rfl <;> simp only [Half.ints, List.mem_cons, List.not_mem_nil, or_false] at hz <;> omega
theorem areBounds_any (a b : Int) (w : World) : Calls Try.prog 45 #[.int .i64 a, .int .i64 b] w fun e w' => e = .returned (.bool (boundB a b)) ∧ w = w' := by
  have H : Hid (boundB a b = (decide (-1000 ≤ a) && decide (a < b) && decide (b ≤ 1000))) := rfl
  go_enter Try.func45, Try.ntmps45
  by_cases h1 : -1000 ≤ a
  · by_cases h2 : a < b
    · go_wp2
      go_ret
      exact ⟨ret_bool (by rw [H.out, decide_eq_true h1, decide_eq_true h2]; rfl), rfl⟩
    · go_wp2
      go_ret
      exact ⟨ret_bool (by rw [H.out, decide_eq_true h1, decide_eq_false (by omega)]; rfl), rfl⟩
  · go_wp2
    go_ret
    exact ⟨ret_bool (by rw [H.out, decide_eq_false (by omega)]; rfl), rfl⟩
theorem boxR_no {x0 y0 x1 y1 : Int} (h : ¬ (boundB x0 x1 = true ∧ boundB y0 y1 = true)) : boxR x0 y0 x1 y1 = ([], false) := if_neg h
theorem boxR_yes {x0 y0 x1 y1 : Int} (h1 : boundB x0 x1 = true) (h2 : boundB y0 y1 = true) : boxR x0 y0 x1 y1 = fromR (boxHs x0 y0 x1 y1) := by
  rw [box_from h1 h2]; exact if_pos ⟨h1, h2⟩
set_option maxHeartbeats 2000000 in
theorem implBoxRegion_any (x0 y0 x1 y1 : Int) (w : World) :
    Calls Try.prog 17 #[.int .i64 x0, .int .i64 y0, .int .i64 x1, .int .i64 y1] w (RegMade (boxR x0 y0 x1 y1) w) := by
  have hx : Ext w (w.alloc (.cells #[.slice none 0 0] 25)) := (Ext.refl w).alloc _
  have b0 := Blk.new w 25 #[.slice none 0 0]
  have HX := Lib.hid (areBounds_any x0 x1)
  have HY := Lib.hid (areBounds_any y0 y1)
  obtain ⟨p, hp⟩ : ∃ p, boundB x0 x1 = p := ⟨_, rfl⟩
  obtain ⟨q, hq⟩ : ∃ q, boundB y0 y1 = q := ⟨_, rfl⟩
  rw [hp] at HX
  rw [hq] at HY
  have HP := Lib.hid hp
  have HQ := Lib.hid hq
  clear hp hq
  have c0 := fun o => b0.cell o
  have f0 := fun o => b0.frozen o
  cases p
  · have H := Lib.hid (boxR_no (x0 := x0) (x1 := x1) (y0 := y0) (y1 := y1) (fun e => by rw [HP.out] at e; cases e.1))
    go_enter Try.func17, Try.ntmps17
    go_wp2_with fail
    refine (HX.out _).mono ?_
    rintro e w' ⟨rfl, rfl⟩
    go_wp2
    refine bodyPost_ret (v := .tuple #[.agg #[.slice none 0 0], .bool false]) (by simp [results, Try.results17, go_sem, c0]) rfl ?_
    exact RegMade.nil false H.out rfl (by repeat (first | (with_reducible exact hx) | refine Ext.setCell ?_ (by first | omega | (simp <;> omega)) _))
  cases q
  · have H := Lib.hid (boxR_no (x0 := x0) (x1 := x1) (y0 := y0) (y1 := y1) (fun e => by rw [HQ.out] at e; cases e.2))
    go_enter Try.func17, Try.ntmps17
    go_wp2_with fail
    refine (HX.out _).mono ?_
    rintro e w' ⟨rfl, rfl⟩
    go_wp2_with fail
    refine (HY.out _).mono ?_
    rintro e w' ⟨rfl, rfl⟩
    go_wp2
    refine bodyPost_ret (v := .tuple #[.agg #[.slice none 0 0], .bool false]) (by simp [results, Try.results17, go_sem, c0]) rfl ?_
    exact RegMade.nil false H.out rfl (by repeat (first | (with_reducible exact hx) | refine Ext.setCell ?_ (by first | omega | (simp <;> omega)) _))
  have hb := HP.out
  have hb2 := HQ.out
  unfold boundB at hb hb2
  simp only [Bool.and_eq_true, decide_eq_true_eq] at hb hb2
  have H := Lib.hid (boxR_yes HP.out HQ.out)
  have HI := Lib.hid (box_I HP.out HQ.out)
  go_enter Try.func17, Try.ntmps17
  go_wp2_with fail
  refine (HX.out _).mono ?_
  rintro e w' ⟨rfl, rfl⟩
  go_wp2_with fail
  refine (HY.out _).mono ?_
  rintro e w' ⟨rfl, rfl⟩
  go_wp2_with fail
  have bB := Blk.new (w.alloc (.cells #[.slice none 0 0] 25)) 74 #[.int .i64 1, .int .i64 0, .int .i64 x1, .int .i64 0, .int .i64 1, .int .i64 y1, .int .i64 (-1), .int .i64 0, .int .i64 (-x0), .int .i64 0, .int .i64 (-1), .int .i64 (-y0)]
  simp only [World.size_alloc] at bB
  have hrow : Row ((w.alloc (.cells #[.slice none 0 0] 25)).alloc (.cells #[.int .i64 1, .int .i64 0, .int .i64 x1, .int .i64 0, .int .i64 1, .int .i64 y1, .int .i64 (-1), .int .i64 0, .int .i64 (-x0), .int .i64 0, .int .i64 (-1), .int .i64 (-y0)] 74)) (some ⟨w.heap.size + 1, 0, none⟩) (ints (flat Half.ints (boxHs x0 y0 x1 y1))) := .inr ⟨_, 0, rfl, fun j v hj => by rw [bB.cell, Nat.zero_add]; simpa [ints, flat, boxHs, Half.ints] using hj⟩
  refine (implRegionFrom_any _ 4 4 (boxHs x0 y0 x1 y1) _ rfl hrow HI.out (by unfold maxLen; omega) (by omega)).mono ?_
  rintro e w3 ⟨A, c, n, rfl, hn, hx3, hown⟩
  replace hx := (hx.alloc (.cells #[.int .i64 1, .int .i64 0, .int .i64 x1, .int .i64 0, .int .i64 1, .int .i64 y1, .int .i64 (-1), .int .i64 0, .int .i64 (-x0), .int .i64 0, .int .i64 (-1), .int .i64 (-y0)] 74)).trans hx3
  have b1 := (b0.alloc (.cells #[.int .i64 1, .int .i64 0, .int .i64 x1, .int .i64 0, .int .i64 1, .int .i64 y1, .int .i64 (-1), .int .i64 0, .int .i64 (-x0), .int .i64 0, .int .i64 (-1), .int .i64 (-y0)] 74)).ext hx3
  clear c0 f0
  have c0 := fun o => b1.cell o
  have f0 := fun o => b1.frozen o
  rw [← H.out] at hn hown ⊢
  generalize boxR x0 y0 x1 y1 = r at *
  subst hn
  go_wp2
  have bF := b1.set_ 0 (.slice A r.1.length c)
  have cF := fun o => bF.cell o
  refine bodyPost_ret (v := .tuple #[.agg #[.slice A r.1.length c], .bool r.2]) (by simp [results, Try.results17, go_sem, cF]) rfl ?_
  exact ⟨A, c, _, rfl, rfl, hx.setCell (by first | omega | (simp <;> omega)) _, own_base (own_far hown (by simp <;> omega) _) (by simp <;> omega)⟩
theorem bound_in (a b : Int) : boundB a b = (inR a (-1000) 1000 && inR b (a + 1) 1000) := by
  rw [Bool.eq_iff_iff]
  unfold boundB inR
  simp only [Bool.and_eq_true, decide_eq_true_eq]
  omega
theorem boxS_no {x0 y0 x1 y1 : Int} (h : ¬ (boundB x0 x1 = true ∧ boundB y0 y1 = true)) : boxR x0 y0 x1 y1 = ([], false) := if_neg h
theorem boxS_yes {x0 y0 x1 y1 : Int} (h1 : boundB x0 x1 = true) (h2 : boundB y0 y1 = true) : boxR x0 y0 x1 y1 = (madeOf (boxHs x0 y0 x1 y1), true) := if_pos ⟨h1, h2⟩
set_option maxHeartbeats 4000000 in
theorem specBoxRegion_any (x0 y0 x1 y1 : Int) (w : World) :
    Calls Try.prog 16 #[.int .i64 x0, .int .i64 y0, .int .i64 x1, .int .i64 y1] w (RegMade (boxR x0 y0 x1 y1) w) := by
  have hx : Ext w (w.alloc (.cells #[.slice none 0 0] 25)) := (Ext.refl w).alloc _
  have b0 := Blk.new w 25 #[.slice none 0 0]
  have c0 := fun o => b0.cell o
  have f0 := fun o => b0.frozen o
  have fin : ∀ h : boxR x0 y0 x1 y1 = ([], false), RegMade (boxR x0 y0 x1 y1) w (.returned (.tuple #[.agg #[.slice none 0 0], .bool false])) (w.alloc (.cells #[.slice none 0 0] 25)) := fun h => RegMade.nil false h rfl hx
  have HF := Lib.hid fin
  clear fin
  by_cases h1 : inR x0 (-1000) 1000 = true
  rotate_left
  · have hf : inR x0 (-1000) 1000 = false := by simpa using h1
    have H := Lib.hid (boxS_no (x0 := x0) (x1 := x1) (y0 := y0) (y1 := y1) (fun e => by have := e.1; rw [bound_in, hf] at this; cases this))
    clear h1
    go_enter Try.func16, Try.ntmps16
    go_wp2_with fail
    refine (l01In_is hf _).mono ?_
    rintro e w' ⟨rfl, rfl⟩
    go_wp2
    refine bodyPost_ret (v := .tuple #[.agg #[.slice none 0 0], .bool false]) (by simp [results, Try.results16, go_sem, c0]) rfl ?_
    exact HF.out H.out
  have H1 := Lib.hid h1
  have hb1 := h1
  unfold inR at hb1
  simp only [Bool.and_eq_true, decide_eq_true_eq] at hb1
  clear h1
  by_cases h2 : inR x1 (x0 + 1) 1000 = true
  rotate_left
  · have hf : inR x1 (x0 + 1) 1000 = false := by simpa using h2
    have H := Lib.hid (boxS_no (x0 := x0) (x1 := x1) (y0 := y0) (y1 := y1) (fun e => by have := e.1; rw [bound_in, hf] at this; simp at this))
    clear h2
    go_enter Try.func16, Try.ntmps16
    go_wp2_with fail
    refine (l01In_is H1.out _).mono ?_
    rintro e w' ⟨rfl, rfl⟩
    go_wp2_with fail
    refine (l01In_is hf _).mono ?_
    rintro e w' ⟨rfl, rfl⟩
    go_wp2
    refine bodyPost_ret (v := .tuple #[.agg #[.slice none 0 0], .bool false]) (by simp [results, Try.results16, go_sem, c0]) rfl ?_
    exact HF.out H.out
  have H2 := Lib.hid h2
  clear h2
  by_cases h3 : inR y0 (-1000) 1000 = true
  rotate_left
  · have hf : inR y0 (-1000) 1000 = false := by simpa using h3
    have H := Lib.hid (boxS_no (x0 := x0) (x1 := x1) (y0 := y0) (y1 := y1) (fun e => by have := e.2; rw [bound_in, hf] at this; cases this))
    clear h3
    go_enter Try.func16, Try.ntmps16
    go_wp2_with fail
    refine (l01In_is H1.out _).mono ?_
    rintro e w' ⟨rfl, rfl⟩
    go_wp2_with fail
    refine (l01In_is H2.out _).mono ?_
    rintro e w' ⟨rfl, rfl⟩
    go_wp2_with fail
    refine (l01In_is hf _).mono ?_
    rintro e w' ⟨rfl, rfl⟩
    go_wp2
    refine bodyPost_ret (v := .tuple #[.agg #[.slice none 0 0], .bool false]) (by simp [results, Try.results16, go_sem, c0]) rfl ?_
    exact HF.out H.out
  have H3 := Lib.hid h3
  have hb3 := h3
  unfold inR at hb3
  simp only [Bool.and_eq_true, decide_eq_true_eq] at hb3
  clear h3
  by_cases h4 : inR y1 (y0 + 1) 1000 = true
  rotate_left
  · have hf : inR y1 (y0 + 1) 1000 = false := by simpa using h4
    have H := Lib.hid (boxS_no (x0 := x0) (x1 := x1) (y0 := y0) (y1 := y1) (fun e => by have := e.2; rw [bound_in, hf] at this; simp at this))
    clear h4
    go_enter Try.func16, Try.ntmps16
    go_wp2_with fail
    refine (l01In_is H1.out _).mono ?_
    rintro e w' ⟨rfl, rfl⟩
    go_wp2_with fail
    refine (l01In_is H2.out _).mono ?_
    rintro e w' ⟨rfl, rfl⟩
    go_wp2_with fail
    refine (l01In_is H3.out _).mono ?_
    rintro e w' ⟨rfl, rfl⟩
    go_wp2_with fail
    refine (l01In_is hf _).mono ?_
    rintro e w' ⟨rfl, rfl⟩
    go_wp2
    refine bodyPost_ret (v := .tuple #[.agg #[.slice none 0 0], .bool false]) (by simp [results, Try.results16, go_sem, c0]) rfl ?_
    exact HF.out H.out
  have H4 := Lib.hid h4
  clear h4
  have hB1 : boundB x0 x1 = true := by rw [bound_in, H1.out, H2.out]; rfl
  have hB2 : boundB y0 y1 = true := by rw [bound_in, H3.out, H4.out]; rfl
  have H := Lib.hid (boxS_yes hB1 hB2)
  have HA := Lib.hid (box_all hB1 hB2)
  clear hB1 hB2
  go_enter Try.func16, Try.ntmps16
  go_wp2_with fail
  refine (l01In_is H1.out _).mono ?_
  rintro e w' ⟨rfl, rfl⟩
  go_wp2_with fail
  refine (l01In_is H2.out _).mono ?_
  rintro e w' ⟨rfl, rfl⟩
  go_wp2_with fail
  refine (l01In_is H3.out _).mono ?_
  rintro e w' ⟨rfl, rfl⟩
  go_wp2_with fail
  refine (l01In_is H4.out _).mono ?_
  rintro e w' ⟨rfl, rfl⟩
  go_wp2_with fail
  have bB := Blk.new (w.alloc (.cells #[.slice none 0 0] 25)) 74 #[.int .i64 1, .int .i64 0, .int .i64 x1, .int .i64 0, .int .i64 1, .int .i64 y1, .int .i64 (-1), .int .i64 0, .int .i64 (-x0), .int .i64 0, .int .i64 (-1), .int .i64 (-y0)]
  simp only [World.size_alloc] at bB
  have hrow : Row ((w.alloc (.cells #[.slice none 0 0] 25)).alloc (.cells #[.int .i64 1, .int .i64 0, .int .i64 x1, .int .i64 0, .int .i64 1, .int .i64 y1, .int .i64 (-1), .int .i64 0, .int .i64 (-x0), .int .i64 0, .int .i64 (-1), .int .i64 (-y0)] 74)) (some ⟨w.heap.size + 1, 0, none⟩) (ints (flat Half.ints (boxHs x0 y0 x1 y1))) := .inr ⟨_, 0, rfl, fun j v hj => by rw [bB.cell, Nat.zero_add]; simpa [ints, flat, boxHs, Half.ints] using hj⟩
  refine (l05Make_any _ 4 4 (boxHs x0 y0 x1 y1) _ rfl hrow (fun h => by cases h) (by omega) HA.out).mono ?_
  rintro e w3 ⟨A, c, n, rfl, hn, hx3, hown⟩
  have hx9 := (hx.alloc (.cells #[.int .i64 1, .int .i64 0, .int .i64 x1, .int .i64 0, .int .i64 1, .int .i64 y1, .int .i64 (-1), .int .i64 0, .int .i64 (-x0), .int .i64 0, .int .i64 (-1), .int .i64 (-y0)] 74)).trans hx3
  have b1 := (b0.alloc (.cells #[.int .i64 1, .int .i64 0, .int .i64 x1, .int .i64 0, .int .i64 1, .int .i64 y1, .int .i64 (-1), .int .i64 0, .int .i64 (-x0), .int .i64 0, .int .i64 (-1), .int .i64 (-y0)] 74)).ext hx3
  clear c0 f0
  have c0 := fun o => b1.cell o
  have f0 := fun o => b1.frozen o
  rw [H.out]
  generalize madeOf (boxHs x0 y0 x1 y1) = r at *
  subst hn
  go_wp2
  have bF := b1.set_ 0 (.slice A r.length c)
  have cF := fun o => bF.cell o
  refine bodyPost_ret (v := .tuple #[.agg #[.slice A r.length c], .bool true]) (by simp [results, Try.results16, go_sem, cF]) rfl ?_
  have hlt : w.heap.size < ((w.alloc (.cells #[.slice none 0 0] 25)).alloc (.cells #[.int .i64 1, .int .i64 0, .int .i64 x1, .int .i64 0, .int .i64 1, .int .i64 y1, .int .i64 (-1), .int .i64 0, .int .i64 (-x0), .int .i64 0, .int .i64 (-1), .int .i64 (-y0)] 74)).heap.size := by simp only [World.size_alloc]; omega
  have hown2 := own_far (p := ⟨w.heap.size, 0, none⟩) hown hlt (.slice A r.length c)
  try rw [H.out]
  exact ⟨A, c, _, rfl, rfl, hx9.setCell (by first | omega | (simp <;> omega)) _, own_base hown2 (Nat.le_of_lt hlt)⟩
end Go.Proofs.Ytnkkfjlnjhmahaa
