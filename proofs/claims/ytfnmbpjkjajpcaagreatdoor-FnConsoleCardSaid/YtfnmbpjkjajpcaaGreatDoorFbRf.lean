/- Contract of robustOf of the program. (written by tools/mkRo3.py) -/
import Derived.Test.YtfnmbpjkjajpcaaGreatDoorFbRz
namespace Go.Proofs.YtfnmbpjkjajpcaaGreatDoor
open Go.ChangeShapes Go.WideShapes Go.ChangeAt Go.RowKit
set_option linter.unusedVariables false
set_option maxRecDepth 100000
def robR (ps ws : List Half) : List Half × Bool := ((erodeR ps ws).1, (erodeR ps ws).2 && !decide ((erodeR ps ws).1 = []))
set_option maxHeartbeats 4000000 in
theorem implRobustOf_ok (r : Room) (A0 A6 A7 : Option Addr) (c0 c6 c7 : Nat) (A : Option Addr) (n c : Nat) (ps : List Half) (w : World) (hv : RoomV r) (ha : RoomHere w r A0 A6 A7 c0 c6 c7) (hn : ps.length = n) (hr : Row w A (ints (flat Half.ints ps))) (hpk : regOk ps = true) :
    Calls Tryz.prog 299 #[.agg #[.slice A0 r.Map.length c0, .int .i64 r.Div, .int .i64 r.Bx, .int .i64 r.By, .int .i64 r.Low, .int .i64 r.High, .slice A6 r.Noise.length c6, .slice A7 r.Limits.length c7], .agg #[.slice A n c]] w (RegMade (robR ps r.Noise) w) := by
  have hx : Ext w (((w.alloc (.cells #[.slice A0 r.Map.length c0, .int .i64 r.Div, .int .i64 r.Bx, .int .i64 r.By, .int .i64 r.Low, .int .i64 r.High, .slice A6 r.Noise.length c6, .slice A7 r.Limits.length c7] 36)).alloc (.cells #[.slice A n c] 34)).alloc (.cells #[.slice none 0 0] 34)) := (((Ext.refl w).alloc _).alloc _).alloc _
  have bM := ((Blk.new w 36 #[.slice A0 r.Map.length c0, .int .i64 r.Div, .int .i64 r.Bx, .int .i64 r.By, .int .i64 r.Low, .int .i64 r.High, .slice A6 r.Noise.length c6, .slice A7 r.Limits.length c7]).alloc (.cells #[.slice A n c] 34)).alloc (.cells #[.slice none 0 0] 34)
  have bP := (Blk.new (w.alloc (.cells #[.slice A0 r.Map.length c0, .int .i64 r.Div, .int .i64 r.Bx, .int .i64 r.By, .int .i64 r.Low, .int .i64 r.High, .slice A6 r.Noise.length c6, .slice A7 r.Limits.length c7] 36)) 34 #[.slice A n c]).alloc (.cells #[.slice none 0 0] 34)
  have bR := Blk.new ((w.alloc (.cells #[.slice A0 r.Map.length c0, .int .i64 r.Div, .int .i64 r.Bx, .int .i64 r.By, .int .i64 r.Low, .int .i64 r.High, .slice A6 r.Noise.length c6, .slice A7 r.Limits.length c7] 36)).alloc (.cells #[.slice A n c] 34)) 34 #[.slice none 0 0]
  simp only [World.size_alloc] at bP bR
  have hle : n ≤ 40 := by have := regOk_len hpk; omega
  have HV := Lib.hid (fun w => implIsVoid_any A n c w (by unfold maxLen; omega))
  have HRb := Lib.hid (fun w ha hr => implRobustPart_ok r A0 A6 A7 c0 c6 c7 A n c ps w hv ha hn hr hpk)
  have HR := Lib.hid hr
  have HA := Lib.hid ha
  have HQ : Hid (robR ps r.Noise = ((erodeR ps r.Noise).1, (erodeR ps r.Noise).2 && !decide ((erodeR ps r.Noise).1 = []))) := rfl
  have HZ : Hid (n = 0 → robR ps r.Noise = ([], false)) := by
    intro e
    have : ps = [] := List.length_eq_zero_iff.1 (hn.trans e)
    rw [this]
    rfl
  have HLen : Hid ((erodeR ps r.Noise).1.length ≤ 40) := regOk_len (erodeR_ok ps r.Noise)
  clear hv ha hn hr hpk
  have cbM_1 := fun o => bM.cell o
  have cbP_2 := fun o => bP.cell o
  have cbR_3 := fun o => bR.cell o
  have fbR_3 := fun o => bR.frozen o
  go_enter Tryz.func299, Tryz.ntmps299
  go_wp2_with fail
  refine (HV.out _).mono ?_
  rintro e w1 ⟨rfl, hx1⟩
  replace hx := hx.trans hx1
  replace bM := bM.ext hx1
  replace bP := bP.ext hx1
  replace bR := bR.ext hx1
  have cbM_4 := fun o => bM.cell o
  have cbP_5 := fun o => bP.cell o
  have cbR_6 := fun o => bR.cell o
  have fbR_6 := fun o => bR.frozen o
  by_cases h0 : n = 0
  · have hb : decide (n = 0) = true := decide_eq_true h0
    have H := Lib.hid (HZ.out h0)
    rw [hb]
    clear h0 hb
    go_wp2
    have bF := bR.set_ 0 (.slice none 0 0)
    have cF := fun o => bF.cell o
    refine bodyPost_ret (v := .tuple #[.agg #[.slice none 0 0], .bool false]) (by simp [results, Tryz.results299, go_sem, cF]) rfl ?_
    exact RegMade.nil false H.out rfl (hx.setCell (by simp only; omega) _)
  have hb : decide (n = 0) = false := decide_eq_false h0
  rw [hb]
  clear h0 hb HZ
  go_wp2_with fail
  refine (HRb.out _ (HA.out.ext hx) (HR.out.ext hx)).mono ?_
  rintro e w2 ⟨A4, c4, n4, rfl, hn4, hx2, hown⟩
  subst hn4
  generalize erodeR ps r.Noise = q at *
  obtain ⟨E, ok⟩ := q
  dsimp only at HQ HLen hown ⊢
  have hq := bR.lt
  replace hx := hx.trans hx2
  replace bR := bR.ext hx2
  have hq2 := bR.lt
  have bV := Blk.new w2 34 #[.slice A4 E.length c4]
  have hA2 := (Ext.refl w2).alloc (.cells #[.slice A4 E.length c4] 34)
  replace hx := hx.trans hA2
  replace bR := bR.ext hA2
  replace hown := own_ext hown hA2
  have cV := fun o => bV.cell o
  have cQ := fun o => bR.cell o
  have fQ := fun o => bR.frozen o
  have HV2 := Lib.hid (fun w => implIsVoid_any A4 E.length c4 w (by have := HLen.out; unfold maxLen; omega))
  have hde : (decide (E.length = 0)) = decide (E = []) := by
    rw [decide_eq_decide]
    exact List.length_eq_zero_iff
  rw [hde] at HV2
  have n1 : ¬ w2.heap.size = w.heap.size + 1 + 1 := by omega
  have n2 : ¬ w.heap.size + 1 + 1 = w2.heap.size := by omega
  have hVs : w.heap.size + 1 + 1 < (w2.alloc (.cells #[.slice A4 E.length c4] 34)).heap.size := by simp only [World.size_alloc]; omega
  cases ok
  · go_wp2_with fail
    generalize w2.alloc (.cells #[.slice A4 E.length c4] 34) = V at *
    generalize w2.heap.size = vb at *
    go_region
    all_goals
      have hcur := Ext.refl V
      have bF := bR.set_ 0 (.slice A4 E.length c4)
      have cF := fun o => bF.cell o
      have hEf := hx
      have ho := hown
      clear cQ fQ
      go_wp2
      refine bodyPost_ret (v := .tuple #[.agg #[.slice A4 E.length c4], .bool false]) (by simp [results, Tryz.results299, go_sem, cF]) rfl ?_
      rw [HQ.out]
      exact ⟨A4, c4, _, rfl, rfl, by first | exact hEf.setCell (by simp only; omega) _ | exact (hEf.setCell (by simp only; omega) _).drew, own_base (by first | exact own_far ho (by first | omega | (simp only [World.size_alloc]; omega)) _ | exact own_ext (own_far ho (by first | omega | (simp only [World.size_alloc]; omega)) _) (Ext.refl _).drew) (by first | omega | (simp only [World.size_alloc]; omega))⟩
  · go_wp2_with fail
    generalize w2.alloc (.cells #[.slice A4 E.length c4] 34) = V at *
    generalize w2.heap.size = vb at *
    have hcur := Ext.refl (V)
    go_region_held3 (fun w' => w'.cell? ⟨vb, 0, none⟩ = some (.slice A4 E.length c4))
      (go_keep)
      (first
        | (go_at_call 179; (with_reducible refine (HV2.out _).mono ?_); rintro e w9 ⟨rfl, hx9⟩; replace hcur := Ext.trans (by first | exact hcur | exact hcur.drew | exact hcur.alloc _ | exact (hcur.alloc _).drew) hx9; have c9bV := fun o => (bV.ext hcur).cell o; (have l9 := fun o => (bR.ext hcur).cell o; have m9 := fun o => (bR.ext hcur).frozen o)))
    all_goals
      have bF := (bR.ext hcur).set_ 0 (.slice A4 E.length c4)
      have cF := fun o => bF.cell o
      have hEf := hx.trans hcur
      have ho := own_ext hown hcur
      clear cQ fQ
      go_wp2
      refine bodyPost_ret (v := .tuple #[.agg #[.slice A4 E.length c4], .bool (!decide (E = []))]) (by simp [results, Tryz.results299, go_sem, cF]) rfl ?_
      rw [HQ.out]
      exact ⟨A4, c4, _, rfl, rfl, by first | exact hEf.setCell (by simp only; omega) _ | exact (hEf.setCell (by simp only; omega) _).drew, own_base (by first | exact own_far ho (by first | omega | (simp only [World.size_alloc]; omega)) _ | exact own_ext (own_far ho (by first | omega | (simp only [World.size_alloc]; omega)) _) (Ext.refl _).drew) (by first | omega | (simp only [World.size_alloc]; omega))⟩
end Go.Proofs.YtfnmbpjkjajpcaaGreatDoor
