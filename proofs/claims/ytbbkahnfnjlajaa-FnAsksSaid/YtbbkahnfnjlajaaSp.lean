/- Contracts of spans, and of AskOf. -/
import Derived.Test.YtbbkahnfnjlajaaQC
import Derived.Test.YtbbkahnfnjlajaaPlainS
import Derived.Test.YtbbkahnfnjlajaaK
import Derived.Test.YtbbkahnfnjlajaaHRatio
import Derived.Deep.RegionHeld3
namespace Go.Proofs.Ytbbkahnfnjlajaa
open Go.ChangeShapes Go.WideShapes Go.ChangeAt Go.RowKit
set_option linter.unusedVariables false

set_option maxHeartbeats 1000000 in
theorem implSpanOk_any (a b c d : Int) (w : World) (ha : I64 a) (hb : I64 b) (hc : I64 c) (hd : I64 d) :
    Calls Try.prog 18 #[.agg #[.int .i64 a, .int .i64 b, .int .i64 c, .int .i64 d]] w fun e w' => e = .returned (.bool (spanOk ⟨⟨a, b⟩, ⟨c, d⟩⟩)) ∧ Ext w w' := by
  have Ha := Lib.hid ha
  have Hb := Lib.hid hb
  have Hc := Lib.hid hc
  have Hd := Lib.hid hd
  clear ha hb hc hd
  have hx : Ext w (w.alloc (.cells #[.int .i64 a, .int .i64 b, .int .i64 c, .int .i64 d] 29)) := (Ext.refl w).alloc _
  have hB := Ext.refl (w.alloc (.cells #[.int .i64 a, .int .i64 b, .int .i64 c, .int .i64 d] 29))
  go_enter Try.func18, Try.ntmps18
  go_wp2_with fail
  refine (implRatioOk_any _ _ _ Ha.out Hb.out).mono ?_
  rintro e w1 ⟨rfl, hx1⟩
  have hB := hB.trans hx1
  have hc1 := fun o => hB.use.1 w.heap.size o (by simp <;> omega)
  by_cases h1 : ratioOk ⟨a, b⟩ = true
  · rw [h1]
    have H1 := Lib.hid h1
    clear h1
    go_wp2_with fail
    refine (implRatioOk_any _ _ _ Hc.out Hd.out).mono ?_
    rintro e w2 ⟨rfl, hx2⟩
    have hB := hB.trans hx2
    have hc2 := fun o => hB.use.1 w.heap.size o (by simp <;> omega)
    by_cases h2 : ratioOk ⟨c, d⟩ = true
    · rw [h2]
      have H2 := Lib.hid h2
      clear h2
      go_wp2_with fail
      refine (implRatioCmp_any _ _ _ _ _ Ha.out Hb.out Hc.out Hd.out).mono ?_
      rintro e w3 ⟨rfl, hx3⟩
      have H : Hid (spanOk ⟨⟨a, b⟩, ⟨c, d⟩⟩ = decide (ratioCmp ⟨a, b⟩ ⟨c, d⟩ ≤ 0)) := by unfold Hid spanOk; rw [H1.out, H2.out]; rfl
      go_wp2
      go_ret
      exact ⟨ret_bool H.out.symm, (hx.trans hB).trans hx3⟩
    · have H : Hid (spanOk ⟨⟨a, b⟩, ⟨c, d⟩⟩ = false) := by unfold Hid spanOk; simp [h2]
      rw [show ratioOk ⟨c, d⟩ = false from by simpa using h2]
      clear h2
      go_wp2
      go_ret
      exact ⟨ret_bool H.out.symm, hx.trans hB⟩
  · have H : Hid (spanOk ⟨⟨a, b⟩, ⟨c, d⟩⟩ = false) := by unfold Hid spanOk; simp [h1]
    rw [show ratioOk ⟨a, b⟩ = false from by simpa using h1]
    clear h1
    go_wp2
    go_ret
    exact ⟨ret_bool H.out.symm, hx.trans hB⟩

set_option maxHeartbeats 1000000 in
theorem specSpanOk_any (a b c d : Int) (w : World) (ha : I64 a) (hb : I64 b) (hc : I64 c) (hd : I64 d) :
    Calls Try.prog 41 #[.agg #[.int .i64 a, .int .i64 b, .int .i64 c, .int .i64 d]] w fun e w' => e = .returned (.bool (spanOk ⟨⟨a, b⟩, ⟨c, d⟩⟩)) ∧ Ext w w' := by
  have Ha := Lib.hid ha
  have Hb := Lib.hid hb
  have Hc := Lib.hid hc
  have Hd := Lib.hid hd
  clear ha hb hc hd
  have hx : Ext w (w.alloc (.cells #[.int .i64 a, .int .i64 b, .int .i64 c, .int .i64 d] 29)) := (Ext.refl w).alloc _
  have hB := Ext.refl (w.alloc (.cells #[.int .i64 a, .int .i64 b, .int .i64 c, .int .i64 d] 29))
  go_enter Try.func41, Try.ntmps41
  go_wp2_with fail
  refine (specRatioOk_any _ _ _ Ha.out Hb.out).mono ?_
  rintro e w1 ⟨rfl, hx1⟩
  have hB := hB.trans hx1
  have hc1 := fun o => hB.use.1 w.heap.size o (by simp <;> omega)
  by_cases h1 : ratioOk ⟨a, b⟩ = true
  · rw [h1]
    have H1 := Lib.hid h1
    clear h1
    go_wp2_with fail
    refine (specRatioOk_any _ _ _ Hc.out Hd.out).mono ?_
    rintro e w2 ⟨rfl, hx2⟩
    have hB := hB.trans hx2
    have hc2 := fun o => hB.use.1 w.heap.size o (by simp <;> omega)
    by_cases h2 : ratioOk ⟨c, d⟩ = true
    · rw [h2]
      have H2 := Lib.hid h2
      clear h2
      go_wp2_with fail
      refine (specRatioCmp_any _ _ _ _ _ Ha.out Hb.out Hc.out Hd.out).mono ?_
      rintro e w3 ⟨rfl, hx3⟩
      have H : Hid (spanOk ⟨⟨a, b⟩, ⟨c, d⟩⟩ = decide (ratioCmp ⟨a, b⟩ ⟨c, d⟩ ≤ 0)) := by unfold Hid spanOk; rw [H1.out, H2.out]; rfl
      go_wp2
      go_ret
      exact ⟨ret_bool H.out.symm, (hx.trans hB).trans hx3⟩
    · have H : Hid (spanOk ⟨⟨a, b⟩, ⟨c, d⟩⟩ = false) := by unfold Hid spanOk; simp [h2]
      rw [show ratioOk ⟨c, d⟩ = false from by simpa using h2]
      clear h2
      go_wp2
      go_ret
      exact ⟨ret_bool H.out.symm, hx.trans hB⟩
  · have H : Hid (spanOk ⟨⟨a, b⟩, ⟨c, d⟩⟩ = false) := by unfold Hid spanOk; simp [h1]
    rw [show ratioOk ⟨a, b⟩ = false from by simpa using h1]
    clear h1
    go_wp2
    go_ret
    exact ⟨ret_bool H.out.symm, hx.trans hB⟩

set_option maxHeartbeats 400000 in
theorem toSpan_any (a b c d : Int) (w : World) :
    Calls Try.prog 10 #[.agg #[.int .i64 a, .int .i64 b, .int .i64 c, .int .i64 d]] w fun e w' => e = .returned (.agg #[.int .i64 a, .int .i64 b, .int .i64 c, .int .i64 d]) ∧ Ext w w' := by
  have hx0 : Ext w (((w.alloc (.cells #[.int .i64 a, .int .i64 b, .int .i64 c, .int .i64 d] 25)).alloc (.cells #[.int .i64 0, .int .i64 0, .int .i64 0, .int .i64 0] 29)).alloc (.cells #[.int .i64 0, .int .i64 0, .int .i64 0, .int .i64 0] 29)) := (((Ext.refl w).alloc _).alloc _).alloc _
  have b0 := ((Blk.new w 25 #[.int .i64 a, .int .i64 b, .int .i64 c, .int .i64 d]).alloc (.cells #[.int .i64 0, .int .i64 0, .int .i64 0, .int .i64 0] 29)).alloc (.cells #[.int .i64 0, .int .i64 0, .int .i64 0, .int .i64 0] 29)
  have b1 := (Blk.new (w.alloc (.cells #[.int .i64 a, .int .i64 b, .int .i64 c, .int .i64 d] 25)) 29 #[.int .i64 0, .int .i64 0, .int .i64 0, .int .i64 0]).alloc (.cells #[.int .i64 0, .int .i64 0, .int .i64 0, .int .i64 0] 29)
  have b2 := Blk.new ((w.alloc (.cells #[.int .i64 a, .int .i64 b, .int .i64 c, .int .i64 d] 25)).alloc (.cells #[.int .i64 0, .int .i64 0, .int .i64 0, .int .i64 0] 29)) 29 #[.int .i64 0, .int .i64 0, .int .i64 0, .int .i64 0]
  simp only [World.size_alloc] at b1 b2
  go_enter Try.func10, Try.ntmps10
  go_wp2_with fail
  refine (toRatio_any _ _ _).mono ?_
  rintro e w1 ⟨rfl, hx1⟩
  replace b0 := b0.ext hx1
  replace b1 := b1.ext hx1
  replace b2 := b2.ext hx1
  have c0 := fun o => b0.cell o
  have c1 := fun o => b1.cell o
  have c2 := fun o => b2.cell o
  have f2 := fun o => b2.frozen o
  have hl := b2.lt
  go_wp2_with fail
  refine (toRatio_any _ _ _).mono ?_
  rintro e w2 ⟨rfl, hx2⟩
  replace b0 := ((b0.far (by simp <;> omega) _).far (by simp <;> omega) _).ext hx2
  replace b1 := ((b1.far (by simp <;> omega) _).far (by simp <;> omega) _).ext hx2
  replace b2 := ((b2.set_ 0 _).set_ 1 _).ext hx2
  clear c0 c1 c2 f2
  have c0 := fun o => b0.cell o
  have c1 := fun o => b1.cell o
  have c2 := fun o => b2.cell o
  have f1 := fun o => b1.frozen o
  have f2 := fun o => b2.frozen o
  go_wp2
  refine bodyPost_ret (v := .agg #[.int .i64 a, .int .i64 b, .int .i64 c, .int .i64 d]) (by simp [results, Try.results10, go_sem, c1]) rfl ⟨rfl, ?_⟩
  exact ((((((((hx0.trans hx1).setCell (by simp <;> omega) _).setCell (by simp <;> omega) _).trans hx2).setCell (by simp <;> omega) _).setCell (by simp <;> omega) _).setCell (by simp <;> omega) _).setCell (by simp <;> omega) _).setCell (by simp <;> omega) _ |>.setCell (by simp <;> omega) _

theorem l02Clamp_any (n lo hi : Int) (w : World) :
    Calls Try.prog 50 #[.int .i64 n, .int .i64 lo, .int .i64 hi] w fun e w' => e = .returned (.int .i64 (clampI lo hi n)) ∧ w = w' := by
  have H : Hid (clampI lo hi n = max lo (min hi n)) := by unfold Hid clampI; split <;> split <;> omega
  go_enter Try.func50, Try.ntmps50
  go_wp2
  all_goals go_ret
  all_goals exact ⟨ret_int (by rw [H.out]; omega), rfl⟩

set_option maxHeartbeats 2000000 in
theorem specAskOf_any (a b c d wish rank : Int) (w : World) (ha : I64 a) (hb : I64 b) (hc : I64 c) (hd : I64 d) :
    Calls Try.prog 13 #[.agg #[.int .i64 a, .int .i64 b, .int .i64 c, .int .i64 d], .int .i64 wish, .int .i64 rank] w fun e w' =>
      e = .returned (.tuple #[.agg #[.int .i64 (askOf ⟨⟨a, b⟩, ⟨c, d⟩⟩ wish rank).1.Low, .int .i64 (askOf ⟨⟨a, b⟩, ⟨c, d⟩⟩ wish rank).1.High, .int .i64 (askOf ⟨⟨a, b⟩, ⟨c, d⟩⟩ wish rank).1.Wish, .int .i64 (askOf ⟨⟨a, b⟩, ⟨c, d⟩⟩ wish rank).1.Rank], .bool (askOf ⟨⟨a, b⟩, ⟨c, d⟩⟩ wish rank).2]) ∧ Ext w w' := by
  have Ha := Lib.hid ha
  have Hb := Lib.hid hb
  have Hc := Lib.hid hc
  have Hd := Lib.hid hd
  clear ha hb hc hd
  have hx : Ext w ((w.alloc (.cells #[.int .i64 a, .int .i64 b, .int .i64 c, .int .i64 d] 29)).alloc (.cells #[.int .i64 0, .int .i64 0, .int .i64 0, .int .i64 0] 34)) := ((Ext.refl w).alloc _).alloc _
  have hB := Ext.refl ((w.alloc (.cells #[.int .i64 a, .int .i64 b, .int .i64 c, .int .i64 d] 29)).alloc (.cells #[.int .i64 0, .int .i64 0, .int .i64 0, .int .i64 0] 34))
  have b1 := Blk.new (w.alloc (.cells #[.int .i64 a, .int .i64 b, .int .i64 c, .int .i64 d] 29)) 34 #[.int .i64 0, .int .i64 0, .int .i64 0, .int .i64 0]
  have b0 := (Blk.new w 29 #[.int .i64 a, .int .i64 b, .int .i64 c, .int .i64 d]).alloc (.cells #[.int .i64 0, .int .i64 0, .int .i64 0, .int .i64 0] 34)
  simp only [World.size_alloc] at b1
  go_enter Try.func13, Try.ntmps13
  go_wp2_with fail
  refine (specRatioCeil_any _ _ _ Ha.out Hb.out).mono ?_
  rintro e w1 ⟨rfl, hx1⟩
  replace b0 := b0.ext hx1
  replace b1 := b1.ext hx1
  replace hx := hx.trans hx1
  have c0 := fun o => b0.cell o
  have c1 := fun o => b1.cell o
  have f1 := fun o => b1.frozen o
  go_wp2_with fail
  refine (specRatioFloor_any _ _ _ Hc.out Hd.out).mono ?_
  rintro e w2 ⟨rfl, hx2⟩
  clear c0 c1 f1
  replace b0 := b0.ext hx2
  replace b1 := b1.ext hx2
  replace hx := hx.trans hx2
  have c0 := fun o => b0.cell o
  have c1 := fun o => b1.cell o
  have f1 := fun o => b1.frozen o
  go_wp2_with fail
  refine (specSpanOk_any _ _ _ _ _ Ha.out Hb.out Hc.out Hd.out).mono ?_
  rintro e w3 ⟨rfl, hx3⟩
  clear c0 c1 f1
  replace b0 := b0.ext hx3
  replace b1 := b1.ext hx3
  replace hx := hx.trans hx3
  have c0 := fun o => b0.cell o
  have c1 := fun o => b1.cell o
  have f1 := fun o => b1.frozen o
  have Hmade := Lib.hid (askMade_ok ⟨⟨a, b⟩, ⟨c, d⟩⟩ wish rank)
  have HW : Hid (∀ x y : Int, askMade ⟨⟨a, b⟩, ⟨c, d⟩⟩ wish rank = ⟨ratioCeil ⟨a, b⟩, ratioFloor ⟨c, d⟩, clampI (ratioCeil ⟨a, b⟩) (ratioFloor ⟨c, d⟩) wish, rank⟩) := fun _ _ => rfl
  by_cases hsp : spanOk ⟨⟨a, b⟩, ⟨c, d⟩⟩ = true
  · rw [hsp]
    by_cases hao : askOk (askMade ⟨⟨a, b⟩, ⟨c, d⟩⟩ wish rank) = true
    · have H := Lib.hid (askOf_good hsp hao)
      have hp := Hmade.out
      rw [hao] at hp
      simp only [Bool.true_eq, Bool.and_eq_true, decide_eq_true_eq] at hp
      obtain ⟨⟨⟨h1, h2⟩, h3⟩, h4⟩ := hp
      clear hsp hao
      go_wp2_with (first
        | (go_at_call 49; refine (l01In_any _ _ _ _).mono ?_; rintro e w' ⟨rfl, rfl⟩)
        | (go_at_call 50; refine (l02Clamp_any _ _ _ _).mono ?_; rintro e w' ⟨rfl, rfl⟩))
      refine bodyPost_ret (v := .tuple #[.agg #[.int .i64 (ratioCeil ⟨a, b⟩), .int .i64 (ratioFloor ⟨c, d⟩), .int .i64 (clampI (ratioCeil ⟨a, b⟩) (ratioFloor ⟨c, d⟩) wish), .int .i64 rank], .bool true]) (by simp [results, Try.results13, go_sem, c1]) rfl ⟨by rw [H.out]; rfl, ?_⟩
      repeat (first | exact hx | refine Ext.setCell ?_ (by simp <;> omega) _)
    · have H := Lib.hid (askOf_bad (w := ⟨⟨a, b⟩, ⟨c, d⟩⟩) (wish := wish) (rank := rank) (fun h => hao h.2))
      have hp := Hmade.out
      rw [show askOk (askMade ⟨⟨a, b⟩, ⟨c, d⟩⟩ wish rank) = false from by simpa using hao] at hp
      have Hp := Lib.hid hp
      clear hp hsp hao
      go_wp2_with (go_at_call 49; refine (l01In_any _ _ _ _).mono ?_; rintro e w' ⟨rfl, rfl⟩)
      all_goals first
        | (refine bodyPost_ret (v := .tuple #[.agg #[.int .i64 0, .int .i64 0, .int .i64 0, .int .i64 0], .bool false]) (by simp [results, Try.results13, go_sem, c1]) rfl ⟨by rw [H.out], ?_⟩
           repeat (first | exact hx | refine Ext.setCell ?_ (by simp <;> omega) _))
        | (exfalso; have hp := Hp.out; simp_all)
  · have H := Lib.hid (askOf_bad (w := ⟨⟨a, b⟩, ⟨c, d⟩⟩) (wish := wish) (rank := rank) (fun h => hsp h.1))
    rw [show spanOk ⟨⟨a, b⟩, ⟨c, d⟩⟩ = false from by simpa using hsp]
    clear hsp
    go_wp2
    refine bodyPost_ret (v := .tuple #[.agg #[.int .i64 0, .int .i64 0, .int .i64 0, .int .i64 0], .bool false]) (by simp [results, Try.results13, go_sem, c1]) rfl ⟨by rw [H.out], ?_⟩
    repeat (first | exact hx | refine Ext.setCell ?_ (by simp <;> omega) _)

set_option maxHeartbeats 2000000 in
theorem implAskOf_any (a b c d wish rank : Int) (w : World) (ha : I64 a) (hb : I64 b) (hc : I64 c) (hd : I64 d) :
    Calls Try.prog 14 #[.agg #[.int .i64 a, .int .i64 b, .int .i64 c, .int .i64 d], .int .i64 wish, .int .i64 rank] w fun e w' =>
      e = .returned (.tuple #[.agg #[.int .i64 (askOf ⟨⟨a, b⟩, ⟨c, d⟩⟩ wish rank).1.Low, .int .i64 (askOf ⟨⟨a, b⟩, ⟨c, d⟩⟩ wish rank).1.High, .int .i64 (askOf ⟨⟨a, b⟩, ⟨c, d⟩⟩ wish rank).1.Wish, .int .i64 (askOf ⟨⟨a, b⟩, ⟨c, d⟩⟩ wish rank).1.Rank], .bool (askOf ⟨⟨a, b⟩, ⟨c, d⟩⟩ wish rank).2]) ∧ Ext w w' := by
  have Ha := Lib.hid ha
  have Hb := Lib.hid hb
  have Hc := Lib.hid hc
  have Hd := Lib.hid hd
  clear ha hb hc hd
  have hx : Ext w ((w.alloc (.cells #[.int .i64 a, .int .i64 b, .int .i64 c, .int .i64 d] 29)).alloc (.cells #[.int .i64 0, .int .i64 0, .int .i64 0, .int .i64 0] 34)) := ((Ext.refl w).alloc _).alloc _
  have hB := Ext.refl ((w.alloc (.cells #[.int .i64 a, .int .i64 b, .int .i64 c, .int .i64 d] 29)).alloc (.cells #[.int .i64 0, .int .i64 0, .int .i64 0, .int .i64 0] 34))
  have b1 := Blk.new (w.alloc (.cells #[.int .i64 a, .int .i64 b, .int .i64 c, .int .i64 d] 29)) 34 #[.int .i64 0, .int .i64 0, .int .i64 0, .int .i64 0]
  have b0 := (Blk.new w 29 #[.int .i64 a, .int .i64 b, .int .i64 c, .int .i64 d]).alloc (.cells #[.int .i64 0, .int .i64 0, .int .i64 0, .int .i64 0] 34)
  simp only [World.size_alloc] at b1
  go_enter Try.func14, Try.ntmps14
  go_wp2_with fail
  refine (implSpanOk_any _ _ _ _ _ Ha.out Hb.out Hc.out Hd.out).mono ?_
  rintro e w1 ⟨rfl, hx1⟩
  replace b0 := b0.ext hx1
  replace b1 := b1.ext hx1
  replace hx := hx.trans hx1
  have c0 := fun o => b0.cell o
  have c1 := fun o => b1.cell o
  have f1 := fun o => b1.frozen o
  by_cases hsp : spanOk ⟨⟨a, b⟩, ⟨c, d⟩⟩ = true
  · rw [hsp]
    have Hsp := Lib.hid hsp
    clear hsp
    go_wp2_with fail
    go_region_held3 (fun w' => w'.cell? ⟨w.heap.size, 0, none⟩ = some (.int .i64 a) ∧ w'.cell? ⟨w.heap.size, 1, none⟩ = some (.int .i64 b) ∧ w'.cell? ⟨w.heap.size, 2, none⟩ = some (.int .i64 c) ∧ w'.cell? ⟨w.heap.size, 3, none⟩ = some (.int .i64 d))
      (go_keep)
      (first
        | (go_at_call 51; refine (implRatioCeil_any _ _ _ Ha.out Hb.out).mono ?_; rintro e w2 ⟨rfl, hx2⟩; have hx2 : Ext w1 w2 := (by first | exact hx2 | exact (Ext.refl w1).drew.trans hx2); have b0 := b0.ext hx2; have b1 := b1.ext hx2; have hx := hx.trans hx2; have c0 := fun o => b0.cell o; have c1 := fun o => b1.cell o; have f1 := fun o => b1.frozen o)
        | (go_at_call 52; refine (implRatioFloor_any _ _ _ Hc.out Hd.out).mono ?_; rintro e w3 ⟨rfl, hx3⟩; have hx3 : Ext w2 w3 := (by first | exact hx3 | exact (Ext.refl w2).drew.trans hx3); have b0 := b0.ext hx3; have b1 := b1.ext hx3; have hx := hx.trans hx3; have c0 := fun o => b0.cell o; have c1 := fun o => b1.cell o; have f1 := fun o => b1.frozen o))
    have t1' := True.intro
    have t2' := True.intro
    by_cases t1 : wish < ratioFloor ⟨c, d⟩
    · by_cases t2 : ratioCeil ⟨a, b⟩ < wish
      · have HK : Hid (askMade ⟨⟨a, b⟩, ⟨c, d⟩⟩ wish rank = ⟨ratioCeil ⟨a, b⟩, ratioFloor ⟨c, d⟩, wish, rank⟩) := by unfold Hid askMade clampI; simp [t1, t2]
        clear t1' t2'
        go_wp2_with fail
        have hz3 := hx.size
        refine (implAskOk_any _ _ _ _ _).mono ?_
        rintro e w4 ⟨rfl, hx4⟩
        have bm := (Blk.new w3 34 #[.int .i64 (ratioCeil ⟨a, b⟩), .int .i64 (ratioFloor ⟨c, d⟩), .int .i64 (wish), .int .i64 rank]).ext hx4
        have cm := fun o => bm.cell o
        have hx5 := (hx.alloc (.cells #[.int .i64 (ratioCeil ⟨a, b⟩), .int .i64 (ratioFloor ⟨c, d⟩), .int .i64 (wish), .int .i64 rank] 34)).trans hx4
        have b5 := (b1.alloc (.cells #[.int .i64 (ratioCeil ⟨a, b⟩), .int .i64 (ratioFloor ⟨c, d⟩), .int .i64 (wish), .int .i64 rank] 34)).ext hx4
        have c5 := fun o => b5.cell o
        have f5 := fun o => b5.frozen o
        have hl5 := b1.lt
        by_cases hao : askOk ⟨ratioCeil ⟨a, b⟩, ratioFloor ⟨c, d⟩, wish, rank⟩ = true
        · have H := Lib.hid (askOf_good (wish := wish) (rank := rank) Hsp.out (by rw [HK.out]; exact hao))
          rw [hao]
          clear hao t1 t2
          go_wp2
          refine bodyPost_ret (v := .tuple #[.agg #[.int .i64 (ratioCeil ⟨a, b⟩), .int .i64 (ratioFloor ⟨c, d⟩), .int .i64 (wish), .int .i64 rank], .bool true]) (by simp [results, Try.results14, go_sem, c5]) rfl ⟨by rw [H.out, HK.out], ?_⟩
          exact (((hx5.setCell (by simp <;> omega) _).setCell (by simp <;> omega) _).setCell (by simp <;> omega) _).setCell (by simp <;> omega) _
        · have H := Lib.hid (askOf_bad (w := ⟨⟨a, b⟩, ⟨c, d⟩⟩) (wish := wish) (rank := rank) (fun h => hao (by rw [← HK.out]; exact h.2)))
          rw [show askOk ⟨ratioCeil ⟨a, b⟩, ratioFloor ⟨c, d⟩, wish, rank⟩ = false from by simpa using hao]
          clear hao t1 t2
          go_wp2
          refine bodyPost_ret (v := .tuple #[.agg #[.int .i64 0, .int .i64 0, .int .i64 0, .int .i64 0], .bool false]) (by simp [results, Try.results14, go_sem, c5]) rfl ⟨by rw [H.out], ?_⟩
          exact (((hx5.setCell (by simp <;> omega) _).setCell (by simp <;> omega) _).setCell (by simp <;> omega) _).setCell (by simp <;> omega) _
      · have HK : Hid (askMade ⟨⟨a, b⟩, ⟨c, d⟩⟩ wish rank = ⟨ratioCeil ⟨a, b⟩, ratioFloor ⟨c, d⟩, ratioCeil ⟨a, b⟩, rank⟩) := by unfold Hid askMade clampI; simp [t1, t2]
        clear t1' t2'
        go_wp2_with fail
        have hz3 := hx.size
        refine (implAskOk_any _ _ _ _ _).mono ?_
        rintro e w4 ⟨rfl, hx4⟩
        have bm := (Blk.new w3 34 #[.int .i64 (ratioCeil ⟨a, b⟩), .int .i64 (ratioFloor ⟨c, d⟩), .int .i64 (ratioCeil ⟨a, b⟩), .int .i64 rank]).ext hx4
        have cm := fun o => bm.cell o
        have hx5 := (hx.alloc (.cells #[.int .i64 (ratioCeil ⟨a, b⟩), .int .i64 (ratioFloor ⟨c, d⟩), .int .i64 (ratioCeil ⟨a, b⟩), .int .i64 rank] 34)).trans hx4
        have b5 := (b1.alloc (.cells #[.int .i64 (ratioCeil ⟨a, b⟩), .int .i64 (ratioFloor ⟨c, d⟩), .int .i64 (ratioCeil ⟨a, b⟩), .int .i64 rank] 34)).ext hx4
        have c5 := fun o => b5.cell o
        have f5 := fun o => b5.frozen o
        have hl5 := b1.lt
        by_cases hao : askOk ⟨ratioCeil ⟨a, b⟩, ratioFloor ⟨c, d⟩, ratioCeil ⟨a, b⟩, rank⟩ = true
        · have H := Lib.hid (askOf_good (wish := wish) (rank := rank) Hsp.out (by rw [HK.out]; exact hao))
          rw [hao]
          clear hao t1 t2
          go_wp2
          refine bodyPost_ret (v := .tuple #[.agg #[.int .i64 (ratioCeil ⟨a, b⟩), .int .i64 (ratioFloor ⟨c, d⟩), .int .i64 (ratioCeil ⟨a, b⟩), .int .i64 rank], .bool true]) (by simp [results, Try.results14, go_sem, c5]) rfl ⟨by rw [H.out, HK.out], ?_⟩
          exact (((hx5.setCell (by simp <;> omega) _).setCell (by simp <;> omega) _).setCell (by simp <;> omega) _).setCell (by simp <;> omega) _
        · have H := Lib.hid (askOf_bad (w := ⟨⟨a, b⟩, ⟨c, d⟩⟩) (wish := wish) (rank := rank) (fun h => hao (by rw [← HK.out]; exact h.2)))
          rw [show askOk ⟨ratioCeil ⟨a, b⟩, ratioFloor ⟨c, d⟩, ratioCeil ⟨a, b⟩, rank⟩ = false from by simpa using hao]
          clear hao t1 t2
          go_wp2
          refine bodyPost_ret (v := .tuple #[.agg #[.int .i64 0, .int .i64 0, .int .i64 0, .int .i64 0], .bool false]) (by simp [results, Try.results14, go_sem, c5]) rfl ⟨by rw [H.out], ?_⟩
          exact (((hx5.setCell (by simp <;> omega) _).setCell (by simp <;> omega) _).setCell (by simp <;> omega) _).setCell (by simp <;> omega) _
    · by_cases t2 : ratioCeil ⟨a, b⟩ < ratioFloor ⟨c, d⟩
      · have HK : Hid (askMade ⟨⟨a, b⟩, ⟨c, d⟩⟩ wish rank = ⟨ratioCeil ⟨a, b⟩, ratioFloor ⟨c, d⟩, ratioFloor ⟨c, d⟩, rank⟩) := by unfold Hid askMade clampI; simp [t1, t2]
        clear t1' t2'
        go_wp2_with fail
        have hz3 := hx.size
        refine (implAskOk_any _ _ _ _ _).mono ?_
        rintro e w4 ⟨rfl, hx4⟩
        have bm := (Blk.new w3 34 #[.int .i64 (ratioCeil ⟨a, b⟩), .int .i64 (ratioFloor ⟨c, d⟩), .int .i64 (ratioFloor ⟨c, d⟩), .int .i64 rank]).ext hx4
        have cm := fun o => bm.cell o
        have hx5 := (hx.alloc (.cells #[.int .i64 (ratioCeil ⟨a, b⟩), .int .i64 (ratioFloor ⟨c, d⟩), .int .i64 (ratioFloor ⟨c, d⟩), .int .i64 rank] 34)).trans hx4
        have b5 := (b1.alloc (.cells #[.int .i64 (ratioCeil ⟨a, b⟩), .int .i64 (ratioFloor ⟨c, d⟩), .int .i64 (ratioFloor ⟨c, d⟩), .int .i64 rank] 34)).ext hx4
        have c5 := fun o => b5.cell o
        have f5 := fun o => b5.frozen o
        have hl5 := b1.lt
        by_cases hao : askOk ⟨ratioCeil ⟨a, b⟩, ratioFloor ⟨c, d⟩, ratioFloor ⟨c, d⟩, rank⟩ = true
        · have H := Lib.hid (askOf_good (wish := wish) (rank := rank) Hsp.out (by rw [HK.out]; exact hao))
          rw [hao]
          clear hao t1 t2
          go_wp2
          refine bodyPost_ret (v := .tuple #[.agg #[.int .i64 (ratioCeil ⟨a, b⟩), .int .i64 (ratioFloor ⟨c, d⟩), .int .i64 (ratioFloor ⟨c, d⟩), .int .i64 rank], .bool true]) (by simp [results, Try.results14, go_sem, c5]) rfl ⟨by rw [H.out, HK.out], ?_⟩
          exact (((hx5.setCell (by simp <;> omega) _).setCell (by simp <;> omega) _).setCell (by simp <;> omega) _).setCell (by simp <;> omega) _
        · have H := Lib.hid (askOf_bad (w := ⟨⟨a, b⟩, ⟨c, d⟩⟩) (wish := wish) (rank := rank) (fun h => hao (by rw [← HK.out]; exact h.2)))
          rw [show askOk ⟨ratioCeil ⟨a, b⟩, ratioFloor ⟨c, d⟩, ratioFloor ⟨c, d⟩, rank⟩ = false from by simpa using hao]
          clear hao t1 t2
          go_wp2
          refine bodyPost_ret (v := .tuple #[.agg #[.int .i64 0, .int .i64 0, .int .i64 0, .int .i64 0], .bool false]) (by simp [results, Try.results14, go_sem, c5]) rfl ⟨by rw [H.out], ?_⟩
          exact (((hx5.setCell (by simp <;> omega) _).setCell (by simp <;> omega) _).setCell (by simp <;> omega) _).setCell (by simp <;> omega) _
      · have HK : Hid (askMade ⟨⟨a, b⟩, ⟨c, d⟩⟩ wish rank = ⟨ratioCeil ⟨a, b⟩, ratioFloor ⟨c, d⟩, ratioCeil ⟨a, b⟩, rank⟩) := by unfold Hid askMade clampI; simp [t1, t2]
        clear t1' t2'
        go_wp2_with fail
        have hz3 := hx.size
        refine (implAskOk_any _ _ _ _ _).mono ?_
        rintro e w4 ⟨rfl, hx4⟩
        have bm := (Blk.new w3 34 #[.int .i64 (ratioCeil ⟨a, b⟩), .int .i64 (ratioFloor ⟨c, d⟩), .int .i64 (ratioCeil ⟨a, b⟩), .int .i64 rank]).ext hx4
        have cm := fun o => bm.cell o
        have hx5 := (hx.alloc (.cells #[.int .i64 (ratioCeil ⟨a, b⟩), .int .i64 (ratioFloor ⟨c, d⟩), .int .i64 (ratioCeil ⟨a, b⟩), .int .i64 rank] 34)).trans hx4
        have b5 := (b1.alloc (.cells #[.int .i64 (ratioCeil ⟨a, b⟩), .int .i64 (ratioFloor ⟨c, d⟩), .int .i64 (ratioCeil ⟨a, b⟩), .int .i64 rank] 34)).ext hx4
        have c5 := fun o => b5.cell o
        have f5 := fun o => b5.frozen o
        have hl5 := b1.lt
        by_cases hao : askOk ⟨ratioCeil ⟨a, b⟩, ratioFloor ⟨c, d⟩, ratioCeil ⟨a, b⟩, rank⟩ = true
        · have H := Lib.hid (askOf_good (wish := wish) (rank := rank) Hsp.out (by rw [HK.out]; exact hao))
          rw [hao]
          clear hao t1 t2
          go_wp2
          refine bodyPost_ret (v := .tuple #[.agg #[.int .i64 (ratioCeil ⟨a, b⟩), .int .i64 (ratioFloor ⟨c, d⟩), .int .i64 (ratioCeil ⟨a, b⟩), .int .i64 rank], .bool true]) (by simp [results, Try.results14, go_sem, c5]) rfl ⟨by rw [H.out, HK.out], ?_⟩
          exact (((hx5.setCell (by simp <;> omega) _).setCell (by simp <;> omega) _).setCell (by simp <;> omega) _).setCell (by simp <;> omega) _
        · have H := Lib.hid (askOf_bad (w := ⟨⟨a, b⟩, ⟨c, d⟩⟩) (wish := wish) (rank := rank) (fun h => hao (by rw [← HK.out]; exact h.2)))
          rw [show askOk ⟨ratioCeil ⟨a, b⟩, ratioFloor ⟨c, d⟩, ratioCeil ⟨a, b⟩, rank⟩ = false from by simpa using hao]
          clear hao t1 t2
          go_wp2
          refine bodyPost_ret (v := .tuple #[.agg #[.int .i64 0, .int .i64 0, .int .i64 0, .int .i64 0], .bool false]) (by simp [results, Try.results14, go_sem, c5]) rfl ⟨by rw [H.out], ?_⟩
          exact (((hx5.setCell (by simp <;> omega) _).setCell (by simp <;> omega) _).setCell (by simp <;> omega) _).setCell (by simp <;> omega) _
  · have H := Lib.hid (askOf_bad (w := ⟨⟨a, b⟩, ⟨c, d⟩⟩) (wish := wish) (rank := rank) (fun h => hsp h.1))
    rw [show spanOk ⟨⟨a, b⟩, ⟨c, d⟩⟩ = false from by simpa using hsp]
    clear hsp
    go_wp2
    refine bodyPost_ret (v := .tuple #[.agg #[.int .i64 0, .int .i64 0, .int .i64 0, .int .i64 0], .bool false]) (by simp [results, Try.results14, go_sem, c1]) rfl ⟨by rw [H.out], ?_⟩
    repeat (first | exact hx | refine Ext.setCell ?_ (by simp <;> omega) _)
end Go.Proofs.Ytbbkahnfnjlajaa
