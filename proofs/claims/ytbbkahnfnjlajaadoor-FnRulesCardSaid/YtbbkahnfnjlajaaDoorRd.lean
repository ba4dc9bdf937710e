/- What the drawing functions of rules and series return: valid ones. -/
import Derived.Test.YtbbkahnfnjlajaaDoorDm
import Derived.Test.YtbbkahnfnjlajaaDoorPlU
import Derived.Test.YtbbkahnfnjlajaaDoorJ
import Derived.Test.YtbbkahnfnjlajaaDoorMix
import Derived.Test.YtbbkahnfnjlajaaDoorAd
namespace Go.Proofs.YtbbkahnfnjlajaaDoor
open Go.ChangeShapes Go.WideShapes Go.ChangeAt Go.RowKit
set_option linter.unusedVariables false
set_option maxRecDepth 100000

def RuleDrawn (w0 : World) (g : Nat) (A : Option Addr) (n c : Nat) (w : World) (e : Ending) (w' : World) : Prop :=
  ∃ u : Rule, e = .returned (.agg #[.int .i64 u.Low, .int .i64 u.High, .int .i64 u.Step, .int .i64 u.Window, .int .i64 u.Drift]) ∧ ruleOk u = true ∧ Cur w0 w' g A n c
set_option maxHeartbeats 4000000 in
theorem l19Rule_any (w0 : World) (g : Nat) (A : Option Addr) (n c : Nat) (bs : List Int) (w : World) (hn : bs.length = n) (hr : Row w0 A (u8s bs)) (hle : n ≤ 1048576) (hc : Cur w0 w g A n c) :
    Calls Tryd.prog 46 #[.pointer (some ⟨g, 0, none⟩)] w (RuleDrawn w0 g A n c w) := by
  have hc0 := hc.fwd ((Ext.refl w).alloc (.cells #[.int .i64 0, .int .i64 0, .int .i64 0, .int .i64 0, .int .i64 0] 24))
  have b0 := Blk.new w 24 #[.int .i64 0, .int .i64 0, .int .i64 0, .int .i64 0, .int .i64 0]
  have hgl := hc.lt
  have hw0 := hc.ext.size
  have HRw := Lib.hid hr
  have HNb := Lib.hid hn
  clear hr hn
  go_enter Tryd.func46, Tryd.ntmps46
  go_wp2_with fail
  refine (l01Below_any _ _ _ _ _ bs _ _ HNb.out HRw.out hle hc0 (by simp [I64])).mono ?_
  rintro e w1 ⟨⟨x1, rfl, hx1, hy1, _⟩, hc1, ho1⟩
  replace hy1 := hy1 (by omega)
  replace b0 := b0.only ho1 (by omega)
  go_wp2_with fail
  refine (l01Below_any _ _ _ _ _ bs _ _ HNb.out HRw.out hle hc1 (by simp [I64])).mono ?_
  rintro e w2 ⟨⟨x2, rfl, hx2, hy2, _⟩, hc2, ho2⟩
  replace hy2 := hy2 (by omega)
  replace b0 := b0.only ho2 (by omega)
  go_wp2_with fail
  refine (l01Below_any _ _ _ _ _ bs _ _ HNb.out HRw.out hle hc2 (by simp [I64])).mono ?_
  rintro e w3 ⟨⟨x3, rfl, hx3, hy3, _⟩, hc3, ho3⟩
  replace hy3 := hy3 (by omega)
  replace b0 := b0.only ho3 (by omega)
  go_wp2_with fail
  refine (l01Below_any _ _ _ _ _ bs _ _ HNb.out HRw.out hle hc3 (by simp [I64])).mono ?_
  rintro e w4 ⟨⟨x4, rfl, hx4, hy4, _⟩, hc4, ho4⟩
  replace hy4 := hy4 (by omega)
  replace b0 := b0.only ho4 (by omega)
  go_wp2_with fail
  refine (l01Below_any _ _ _ _ _ bs _ _ HNb.out HRw.out hle hc4 (by simp [I64])).mono ?_
  rintro e w5 ⟨⟨x5, rfl, hx5, hy5, _⟩, hc5, ho5⟩
  replace hy5 := hy5 (by omega)
  replace b0 := b0.only ho5 (by omega)
  have c0 := fun o => b0.cell o
  have f0 := fun o => b0.frozen o
  have hok : Hid (ruleOk ⟨150 + x1, 150 + x1 + 20 + x2, 3 + x3, 1 + x4, 10 + x5⟩ = true) := ruleOk_of (by simp only; omega)
  go_wp2
  have bF := ((((b0.set_ 0 (.int .i64 (150 + x1))).set_ 1 (.int .i64 (150 + x1 + 20 + x2))).set_ 2 (.int .i64 (3 + x3))).set_ 3 (.int .i64 (1 + x4))).set_ 4 (.int .i64 (10 + x5))
  have cF := fun o => bF.cell o
  refine bodyPost_ret (v := .agg #[.int .i64 (150 + x1), .int .i64 (150 + x1 + 20 + x2), .int .i64 (3 + x3), .int .i64 (1 + x4), .int .i64 (10 + x5)]) (by simp [results, Tryd.results46, go_sem, cF]) rfl ⟨⟨150 + x1, 150 + x1 + 20 + x2, 3 + x3, 1 + x4, 10 + x5⟩, rfl, hok.out, ?_⟩
  obtain ⟨he, hle', i, k, hi, hk, hb⟩ := hc5
  exact ⟨(((((he.setCell (by simp <;> omega) _).setCell (by simp <;> omega) _).setCell (by simp <;> omega) _).setCell (by simp <;> omega) _).setCell (by simp <;> omega) _), hle', i, k, hi, hk, (((((hb.far (by simp <;> omega) _).far (by simp <;> omega) _).far (by simp <;> omega) _).far (by simp <;> omega) _).far (by simp <;> omega) _)⟩
set_option maxHeartbeats 1000000 in
theorem makeRule_any (A : Option Addr) (n c : Nat) (bs : List Int) (m : Int) (w : World) (hn : bs.length = n) (hr : Row w A (u8s bs)) (hle : n ≤ 1048576) (hm : I64 m) :
    Calls Tryd.prog 9 #[.slice A n c, .int .i64 m] w fun e w' => ∃ u : Rule, e = .returned (.agg #[.int .i64 u.Low, .int .i64 u.High, .int .i64 u.Step, .int .i64 u.Window, .int .i64 u.Drift]) ∧ ruleOk u = true ∧ Ext w w' := by
  have hx0 : Ext w (w.alloc (.cells #[.int .i64 0, .int .i64 0, .int .i64 0, .int .i64 0, .int .i64 0] 24)) := (Ext.refl w).alloc _
  have b0 := Blk.new w 24 #[.int .i64 0, .int .i64 0, .int .i64 0, .int .i64 0, .int .i64 0]
  have hr0 := hr.ext hx0
  go_enter Tryd.func9, Tryd.ntmps9
  go_wp2_with fail
  refine (l26New_any _ _ _ bs _ _ hn hr0 hle hm).mono ?_
  rintro e w1 ⟨g, rfl, hc1⟩
  have hg1 := hc1.le
  replace b0 := b0.ext hc1.ext
  have hl0 := b0.lt
  simp only [World.size_alloc] at hg1
  go_wp2_with fail
  refine (l19Rule_any _ _ _ _ _ bs _ hn hr0 hle hc1).mono ?_
  rintro e w2 ⟨u, rfl, hok, hc2⟩
  have hx2 := hx0.trans hc2.ext
  replace b0 : Blk w2 w.heap.size 24 #[.int .i64 0, .int .i64 0, .int .i64 0, .int .i64 0, .int .i64 0] := (Blk.new w 24 #[.int .i64 0, .int .i64 0, .int .i64 0, .int .i64 0, .int .i64 0]).ext hc2.ext
  have c0 := fun o => b0.cell o
  have f0 := fun o => b0.frozen o
  go_wp2
  have bF := ((((b0.set_ 0 (.int .i64 u.Low)).set_ 1 (.int .i64 u.High)).set_ 2 (.int .i64 u.Step)).set_ 3 (.int .i64 u.Window)).set_ 4 (.int .i64 u.Drift)
  have cF := fun o => bF.cell o
  refine bodyPost_ret (v := .agg #[.int .i64 u.Low, .int .i64 u.High, .int .i64 u.Step, .int .i64 u.Window, .int .i64 u.Drift]) (by simp [results, Tryd.results9, go_sem, cF]) rfl ⟨u, rfl, hok, ?_⟩
  exact (((((hx2.setCell (by simp) _).setCell (by simp) _).setCell (by simp) _).setCell (by simp) _).setCell (by simp) _)
set_option maxHeartbeats 4000000 in
theorem l19Series_any (w0 : World) (g : Nat) (A : Option Addr) (n c : Nat) (bs : List Int) (w : World) (hn : bs.length = n) (hr : Row w0 A (u8s bs)) (hle : n ≤ 1048576) (hc : Cur w0 w g A n c) :
    Calls Tryd.prog 48 #[.pointer (some ⟨g, 0, none⟩)] w fun e w' => ∃ b d l, e = .returned (.slice (some ⟨b, 0, none⟩) (l : List Int).length d) ∧ seriesOk l = true ∧ w'.ownsRow w.heap.size 3 1 (.slice (some ⟨b, 0, none⟩) l.length d) l.length (ints l) ∧ Cur w0 w' g A n c := by
  obtain ⟨i0, hi0, hz0, hz1, hz2⟩ := info_parts int_info
  have hgl := hc.lt
  have hw0 := hc.ext.size
  have hc0 := hc.fwd ((Ext.refl w).alloc (.cells #[] 3))
  have hlit : (w.alloc (.cells #[] 3)).ownsRow w.heap.size 3 1 (.slice (some ⟨w.heap.size, 0, none⟩) 0 0) 0 (ints []) := World.ownsRow_lit w #[] 0 (Nat.le_refl _) (by unfold maxLen; omega) rfl
  have HRw := Lib.hid hr
  have HNb := Lib.hid hn
  clear hr hn
  have HStep : Hid (∀ (v : Value) (m : Nat) (xs : List Value) (wa wb : World), wa.ownsRow w.heap.size 3 1 v m xs → Only (some g) wa wb → wb.ownsRow w.heap.size 3 1 v m xs) := fun v m xs wa wb ha hb => own_only ha hb (fun q hq e => by injection hq with hq; subst hq; have := (ha.lt _ e).1; omega)
  go_enter Tryd.func48, Tryd.ntmps48
  go_wp2_with fail
  refine (l01Below_any _ _ _ _ _ bs _ _ HNb.out HRw.out hle hc0 (by simp [I64])).mono ?_
  rintro e w1 ⟨⟨x, rfl, hx0, hx1, _⟩, hc1, ho1⟩
  replace hx1 := hx1 (by omega)
  have hown1 := HStep.out _ _ _ _ _ hlit ho1
  go_wp2_with fail
  refine (l01Below_any _ _ _ _ _ bs _ _ HNb.out HRw.out hle hc1 (by simp [I64])).mono ?_
  rintro e w2 ⟨⟨y, rfl, hy0, hy1, _⟩, hc2, ho2⟩
  replace hy1 := hy1 (by omega)
  have hown2 := HStep.out _ _ _ _ _ hown1 ho2
  have hsz2 : w.heap.size ≤ w2.heap.size := by have := ho1.size; have := ho2.size; simp at *; omega
  obtain ⟨t, rfl⟩ := Int.eq_ofNat_of_zero_le hy0
  clear hc0 hc1 hlit hown1 ho1 ho2
  go_wp2
  go_loopw [3, 4, 5] (fun v a i wr => ∃ (k : Nat) (xs : List Int) (z : Int), i = .int .i64 k ∧ a = .int .i64 z ∧ xs.length + k ≤ 19 ∧ (190 - 6 * (xs.length : Int) ≤ z ∧ z ≤ 199 + 6 * (xs.length : Int)) ∧ (∀ x ∈ xs, -1000 ≤ x ∧ x ≤ 1000) ∧ w.heap.size ≤ wr.heap.size ∧ (∃ b, Value.ownBlock v = some b) ∧ Cur w0 wr g A n c ∧ wr.ownsRow w.heap.size 3 1 v xs.length (ints xs)) (fun _ _ i _ => (intOf i).toNat)
  case atStart => exact ⟨t, [], 190 + x, rfl, rfl, by simp; omega, by simp; omega, (fun x hx => by cases hx), hsz2, ⟨_, rfl⟩, hc2, hown2⟩
  case round =>
  obtain ⟨k, xs, z, rfl, rfl, hlen, hz, hall, hws, hsome, hcr, hown⟩ := hrel
  have HSome := Lib.hid hsome
  clear hsome
  have Hall := Lib.hid hall
  clear hall hc2 hown2 hsz2
  by_cases hk : 0 < k
  rotate_left
  · obtain rfl : k = 0 := by omega
    obtain ⟨B, d, rfl⟩ := own_form hown
    obtain ⟨b, rfl⟩ : ∃ b, B = some ⟨b, 0, none⟩ := by
      rcases hown.2 with ⟨hv, _⟩ | ⟨b, cap, cur, hv, _⟩
      · obtain ⟨q, hq⟩ := HSome.out
        injection hv with h1
        subst h1
        cases hq
      · injection hv with h1
        exact ⟨b, h1⟩
    have hok : seriesOk xs = true := by
      unfold seriesOk allMeasure
      simp only [Bool.and_eq_true, decide_eq_true_eq, List.all_eq_true]
      refine ⟨fun x hx => ?_, by omega⟩
      have := Hall.out x hx
      simp [inR]; omega
    go_wp2
    go_ret
    exact ⟨b, d, xs, rfl, hok, hown, hcr⟩
  have hki : (0 : Int) < (k : Int) := by omega
  obtain ⟨m, hm⟩ : ∃ m, xs.length = m := ⟨_, rfl⟩
  rw [hm] at hlen hown hz
  have Hm := Lib.hid hm
  have HownL := Lib.hid (fun q hq => (hown.lt q hq).1)
  clear hm
  go_wp2_with (at_builtin; go_must (refine wpList_append_own _ rfl _ _ 26 rfl w.heap.size 3 i0 (.int .i64 0) 1 8 Tryd.underlying26 hi0 hz0 hz1 hz2 rfl (by decide) _ _ _ rfl (hown.alloc _) ⟨wr.heap.size, 0, none⟩ 1 1 [.int .i64 z] rfl rfl (cell_one_new _ _ _) (by simp [Value.oneCell']) (by unfold maxLen; omega) (by omega) (by simp; omega) ?_); intro v' w6 hown' hgrow _)
  have hc6 : Cur w0 w6 g A n c := (hcr.fwd ((Ext.refl wr).alloc _)).grown hgrow (fun q hq => by have := HownL.out q hq; omega)
  have hws6 : w.heap.size ≤ w6.heap.size := by have := hgrow.size; simp at this; omega
  go_wp2_with fail
  refine (l01Below_any _ _ _ _ _ bs _ _ HNb.out HRw.out hle hc6 (by simp [I64])).mono ?_
  rintro e w7 ⟨⟨y, rfl, hy0, hy1, _⟩, hc7, ho7⟩
  replace hy1 := hy1 (by omega)
  have hown7 := HStep.out _ _ _ _ _ hown' ho7
  have hws7 := Nat.le_trans hws6 ho7.size
  go_wp2
  go_roundw
  case rel =>
    refine ⟨k - 1, xs ++ [z], z + y - 6, ?_, rfl, by rw [List.length_append, Hm.out]; simp; omega, by rw [List.length_append, Hm.out]; simp; omega, fun q hq => ?_, hws7, ?_, hc7, ?_⟩
    · rw [show ((k - 1 : Nat) : Int) = (k : Int) - 1 by omega]
    · rcases List.mem_append.1 hq with h | h
      · exact Hall.out q h
      · rw [List.mem_singleton] at h; omega
    · rcases hown7.2 with ⟨_, h⟩ | ⟨b, cap, cur, hv, _⟩
      · omega
      · rw [hv]; exact ⟨b, rfl⟩
    · rw [ints_append, List.length_append, Hm.out]
      exact hown7
  case measure => simp [intOf]; omega
theorem makeSeries_any (A : Option Addr) (n c : Nat) (bs : List Int) (m : Int) (w : World) (hn : bs.length = n) (hr : Row w A (u8s bs)) (hle : n ≤ 1048576) (hm : I64 m) :
    Calls Tryd.prog 10 #[.slice A n c, .int .i64 m] w fun e w' => ∃ b d l, e = .returned (.slice (some ⟨b, 0, none⟩) (l : List Int).length d) ∧ seriesOk l = true ∧ Mine w' w.heap.size w'.heap.size 3 1 (.slice (some ⟨b, 0, none⟩) l.length d) l.length (ints l) ∧ Ext w w' := by
  go_enter Tryd.func10, Tryd.ntmps10
  go_wp2_with fail
  refine (l26New_any _ _ _ bs _ _ hn hr hle hm).mono ?_
  rintro e w1 ⟨g, rfl, hc1⟩
  go_wp2_with fail
  refine (l19Series_any _ _ _ _ _ bs _ hn hr hle hc1).mono ?_
  rintro e w2 ⟨B, d, l, rfl, hok, hown, hc2⟩
  go_wp2
  go_ret
  exact ⟨B, d, l, rfl, hok, Mine.of_own (own_base hown hc1.ext.size), hc2.ext⟩
end Go.Proofs.YtbbkahnfnjlajaaDoor
