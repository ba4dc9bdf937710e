/- Contracts of CheapestInput. -/
import Derived.Test.YtbbkahnfnjlajaaRat
namespace Go.Proofs.Ytbbkahnfnjlajaa
open Go.ChangeShapes Go.WideShapes Go.ChangeAt Go.RowKit
set_option linter.unusedVariables false

theorem ratioMax_I64 {r s : Ratio} (h1 : I64 r.N) (h2 : I64 r.D) (h3 : I64 s.N) (h4 : I64 s.D) : I64 (ratioMax r s).N ∧ I64 (ratioMax r s).D := by
  unfold ratioMax
  split
  · split
    · exact ⟨h1, h2⟩
    · exact ⟨h3, h4⟩
  · exact ⟨by simp [I64], by simp [I64]⟩

set_option maxHeartbeats 1000000 in
theorem specCheapest_any (a b c d : Int) (w : World) (ha : I64 a) (hb : I64 b) (hc : I64 c) (hd : I64 d) :
    Calls Try.prog 9 #[.agg #[.int .i64 a, .int .i64 b, .int .i64 c, .int .i64 d]] w fun e w' => e = .returned (.agg #[.int .i64 (cheapest ⟨⟨a, b⟩, ⟨c, d⟩⟩).N, .int .i64 (cheapest ⟨⟨a, b⟩, ⟨c, d⟩⟩).D]) ∧ Ext w w' := by
  have Ha := Lib.hid ha
  have Hb := Lib.hid hb
  have Hc := Lib.hid hc
  have Hd := Lib.hid hd
  have Hm := Lib.hid (ratioMax_I64 (r := ⟨a, b⟩) (s := ⟨0, 1⟩) ha hb (by simp [I64]) (by simp [I64]))
  clear ha hb hc hd
  have hx : Ext w ((w.alloc (.cells #[.int .i64 a, .int .i64 b, .int .i64 c, .int .i64 d] 29)).alloc (.cells #[.int .i64 0, .int .i64 0] 26)) := ((Ext.refl w).alloc _).alloc _
  have b0 := (Blk.new w 29 #[.int .i64 a, .int .i64 b, .int .i64 c, .int .i64 d]).alloc (.cells #[.int .i64 0, .int .i64 0] 26)
  have b1 := Blk.new (w.alloc (.cells #[.int .i64 a, .int .i64 b, .int .i64 c, .int .i64 d] 29)) 26 #[.int .i64 0, .int .i64 0]
  simp only [World.size_alloc] at b1
  go_enter Try.func9, Try.ntmps9
  go_wp2_with fail
  refine (specSpanOk_any _ _ _ _ _ Ha.out Hb.out Hc.out Hd.out).mono ?_
  rintro e w1 ⟨rfl, hx1⟩
  replace b0 := b0.ext hx1
  replace b1 := b1.ext hx1
  replace hx := hx.trans hx1
  have c0 := fun o => b0.cell o
  have c1 := fun o => b1.cell o
  have f1 := fun o => b1.frozen o
  by_cases hsp : spanOk ⟨⟨a, b⟩, ⟨c, d⟩⟩ = true
  · have H : Hid (cheapest ⟨⟨a, b⟩, ⟨c, d⟩⟩ = ratioMin ⟨c, d⟩ (ratioMax ⟨a, b⟩ ⟨0, 1⟩)) := by unfold Hid cheapest; rw [if_pos hsp, ratioOf_01]
    rw [hsp]
    clear hsp
    go_wp2_with fail
    go_region_held3 (fun w' => w'.cell? ⟨w.heap.size, 0, none⟩ = some (.int .i64 a) ∧ w'.cell? ⟨w.heap.size, 1, none⟩ = some (.int .i64 b) ∧ w'.cell? ⟨w.heap.size, 2, none⟩ = some (.int .i64 c) ∧ w'.cell? ⟨w.heap.size, 3, none⟩ = some (.int .i64 d))
      (go_keep)
      (first
        | (go_at_call 44; refine (specRatioOf_any _ _ _ (by simp [I64]) (by simp [I64])).mono ?_; rw [ratioOf_01]; rintro e w2 ⟨rfl, hx2⟩; have hx2 : Ext w1 w2 := (by first | exact hx2 | exact (Ext.refl w1).drew.trans hx2); have b0 := b0.ext hx2; have b1 := b1.ext hx2; have hx := hx.trans hx2; have c0 := fun o => b0.cell o; have c1 := fun o => b1.cell o; have f1 := fun o => b1.frozen o)
        | (go_at_call 43; refine (specRatioMax_any _ _ _ _ _ Ha.out Hb.out (by simp [I64]) (by simp [I64])).mono ?_; rintro e w3 ⟨rfl, hx3⟩; have hx3 : Ext w2 w3 := (by first | exact hx3 | exact (Ext.refl w2).drew.trans hx3); have b0 := b0.ext hx3; have b1 := b1.ext hx3; have hx := hx.trans hx3; have c0 := fun o => b0.cell o; have c1 := fun o => b1.cell o; have f1 := fun o => b1.frozen o)
        | (go_at_call 42; refine (specRatioMin_any _ _ _ _ _ Hc.out Hd.out Hm.out.1 Hm.out.2).mono ?_; rintro e w4 ⟨rfl, hx4⟩; have hx4 : Ext w3 w4 := (by first | exact hx4 | exact (Ext.refl w3).drew.trans hx4); have b0 := b0.ext hx4; have b1 := b1.ext hx4; have hx := hx.trans hx4; have c0 := fun o => b0.cell o; have c1 := fun o => b1.cell o; have f1 := fun o => b1.frozen o))
    go_wp2
    refine bodyPost_ret (v := .agg #[.int .i64 (ratioMin ⟨c, d⟩ (ratioMax ⟨a, b⟩ ⟨0, 1⟩)).N, .int .i64 (ratioMin ⟨c, d⟩ (ratioMax ⟨a, b⟩ ⟨0, 1⟩)).D]) (by simp [results, Try.results9, go_sem, c1]) rfl ⟨by rw [H.out], ?_⟩
    exact (hx.setCell (by first | omega | (simp <;> omega)) _).setCell (by first | omega | (simp <;> omega)) _
  · have H : Hid (cheapest ⟨⟨a, b⟩, ⟨c, d⟩⟩ = ⟨0, 0⟩) := by unfold Hid cheapest; rw [if_neg hsp]
    rw [show spanOk ⟨⟨a, b⟩, ⟨c, d⟩⟩ = false from by simpa using hsp]
    clear hsp
    go_wp2
    refine bodyPost_ret (v := .agg #[.int .i64 0, .int .i64 0]) (by simp [results, Try.results9, go_sem, c1]) rfl ⟨by rw [H.out], ?_⟩
    exact (hx.setCell (by first | omega | (simp <;> omega)) _).setCell (by first | omega | (simp <;> omega)) _

set_option maxHeartbeats 1000000 in
theorem implCheapest_any (a b c d : Int) (w : World) (ha : I64 a) (hb : I64 b) (hc : I64 c) (hd : I64 d) :
    Calls Try.prog 11 #[.agg #[.int .i64 a, .int .i64 b, .int .i64 c, .int .i64 d]] w fun e w' => e = .returned (.agg #[.int .i64 (cheapest ⟨⟨a, b⟩, ⟨c, d⟩⟩).N, .int .i64 (cheapest ⟨⟨a, b⟩, ⟨c, d⟩⟩).D]) ∧ Ext w w' := by
  have Ha := Lib.hid ha
  have Hb := Lib.hid hb
  have Hc := Lib.hid hc
  have Hd := Lib.hid hd
  clear ha hb hc hd
  have hx : Ext w ((w.alloc (.cells #[.int .i64 a, .int .i64 b, .int .i64 c, .int .i64 d] 29)).alloc (.cells #[.int .i64 0, .int .i64 0] 26)) := ((Ext.refl w).alloc _).alloc _
  have b0 := (Blk.new w 29 #[.int .i64 a, .int .i64 b, .int .i64 c, .int .i64 d]).alloc (.cells #[.int .i64 0, .int .i64 0] 26)
  have b1 := Blk.new (w.alloc (.cells #[.int .i64 a, .int .i64 b, .int .i64 c, .int .i64 d] 29)) 26 #[.int .i64 0, .int .i64 0]
  simp only [World.size_alloc] at b1
  go_enter Try.func11, Try.ntmps11
  go_wp2_with fail
  refine (implSpanOk_any _ _ _ _ _ Ha.out Hb.out Hc.out Hd.out).mono ?_
  rintro e w1 ⟨rfl, hx1⟩
  replace b0 := b0.ext hx1
  replace b1 := b1.ext hx1
  replace hx := hx.trans hx1
  have c0 := fun o => b0.cell o
  have c1 := fun o => b1.cell o
  have f1 := fun o => b1.frozen o
  by_cases hsp : spanOk ⟨⟨a, b⟩, ⟨c, d⟩⟩ = true
  · have HC := Lib.hid (cheapest_ok hsp)
    rw [hsp]
    clear hsp
    by_cases h1 : 0 < a
    · have H : Hid (cheapest ⟨⟨a, b⟩, ⟨c, d⟩⟩ = ⟨a, b⟩) := by unfold Hid; rw [HC.out, if_pos h1]
      go_wp2
      refine bodyPost_ret (v := .agg #[.int .i64 a, .int .i64 b]) (by simp [results, Try.results11, go_sem, c1]) rfl ⟨by rw [H.out], ?_⟩
      exact (hx.setCell (by first | omega | (simp <;> omega)) _).setCell (by first | omega | (simp <;> omega)) _
    by_cases h2 : c < 0
    · have H : Hid (cheapest ⟨⟨a, b⟩, ⟨c, d⟩⟩ = ⟨c, d⟩) := by unfold Hid; rw [HC.out, if_neg h1, if_pos h2]
      go_wp2
      refine bodyPost_ret (v := .agg #[.int .i64 c, .int .i64 d]) (by simp [results, Try.results11, go_sem, c1]) rfl ⟨by rw [H.out], ?_⟩
      exact (hx.setCell (by first | omega | (simp <;> omega)) _).setCell (by first | omega | (simp <;> omega)) _
    · have H : Hid (cheapest ⟨⟨a, b⟩, ⟨c, d⟩⟩ = ⟨0, 1⟩) := by unfold Hid; rw [HC.out, if_neg h1, if_neg h2]
      go_wp2_with fail
      refine (whole_any _ _).mono ?_
      rintro e w2 ⟨rfl, hx2⟩
      replace b0 := b0.ext hx2
      replace b1 := b1.ext hx2
      replace hx := hx.trans hx2
      clear c0 c1 f1
      have c1 := fun o => b1.cell o
      have f1 := fun o => b1.frozen o
      go_wp2
      refine bodyPost_ret (v := .agg #[.int .i64 0, .int .i64 1]) (by simp [results, Try.results11, go_sem, c1]) rfl ⟨by rw [H.out], ?_⟩
      exact (hx.setCell (by first | omega | (simp <;> omega)) _).setCell (by first | omega | (simp <;> omega)) _
  · have H : Hid (cheapest ⟨⟨a, b⟩, ⟨c, d⟩⟩ = ⟨0, 0⟩) := by unfold Hid cheapest; rw [if_neg hsp]
    rw [show spanOk ⟨⟨a, b⟩, ⟨c, d⟩⟩ = false from by simpa using hsp]
    clear hsp
    go_wp2
    refine bodyPost_ret (v := .agg #[.int .i64 0, .int .i64 0]) (by simp [results, Try.results11, go_sem, c1]) rfl ⟨by rw [H.out], ?_⟩
    exact (hx.setCell (by first | omega | (simp <;> omega)) _).setCell (by first | omega | (simp <;> omega)) _
end Go.Proofs.Ytbbkahnfnjlajaa
