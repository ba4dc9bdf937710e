/- Contracts of texts of half planes: FormatHalf of the program and of the reference. -/
import Derived.Test.YtlgkfjhbimffiaaGreatDoorHf
import Derived.Test.YtlgkfjhbimffiaaGreatDoorJn
namespace Go.Proofs.YtlgkfjhbimffiaaGreatDoor
open Go.ChangeShapes Go.WideShapes Go.ChangeAt Go.RowKit
set_option linter.unusedVariables false

def halfT (h : Half) : List UInt8 := if halfOk h = true then joinT [h.A, h.B, h.C] else []
theorem joinT_three (a b c : Int) : joinT [a, b, c] = numT a ++ [32] ++ numT b ++ [32] ++ numT c := by
  simp [joinT, Lib.join_cons, Lib.joinTail, List.append_assoc]
theorem halfT_len (h : Half) : (halfT h).length ≤ 195 := by
  unfold halfT
  split
  · rename_i hh
    obtain ⟨h1, h2, h3, h4, h5, h6⟩ : -50000 ≤ h.A ∧ h.A ≤ 50000 ∧ -50000 ≤ h.B ∧ h.B ≤ 50000 ∧ -100000000 ≤ h.C ∧ h.C ≤ 100000000 := by
      simp only [halfOk, inR, Bool.and_eq_true, decide_eq_true_eq] at hh
      omega
    have a := numT_len (n := h.A) (by omega) (by omega)
    have b := numT_len (n := h.B) (by omega) (by omega)
    have c := numT_len (n := h.C) (by omega) (by omega)
    rw [joinT_three]
    simp only [List.length_append, List.length_cons, List.length_nil]
    omega
  · simp

set_option maxHeartbeats 1000000 in
theorem implFormatHalf_any (a b c : Int) (w : World) (ha : I64 a) (hb : I64 b) (hc : I64 c) (ht : Tab w) :
    Calls Tryz.prog 77 #[.agg #[.int .i64 a, .int .i64 b, .int .i64 c]] w fun e w' => e = .returned (.string (txt (halfT ⟨a, b, c⟩))) ∧ Ext w w' := by
  have hx : Ext w (w.alloc (.cells #[.int .i64 a, .int .i64 b, .int .i64 c] 69)) := (Ext.refl w).alloc _
  have bR := Blk.new w 69 #[.int .i64 a, .int .i64 b, .int .i64 c]
  have HII : Hid (∀ i, (hi : i < [a, b, c].length) → I64 [a, b, c][i]) := by
    intro i hi
    match i, hi with
    | 0, _ => exact ha
    | 1, _ => exact hb
    | 2, _ => exact hc
  go_enter Tryz.func77, Tryz.ntmps77
  go_wp2_with fail
  refine (implHalfOk_any _ _ _ _ ha hb hc).mono ?_
  rintro e w1 ⟨rfl, hx1⟩
  replace hx := hx.trans hx1
  replace bR := bR.ext hx1
  have cbR_1 := fun o => bR.cell o
  by_cases h1 : halfOk ⟨a, b, c⟩ = true
  · have H : Hid (halfT ⟨a, b, c⟩ = joinT [a, b, c]) := by unfold Hid halfT; rw [if_pos h1]
    rw [h1]
    clear h1
    have hrow : Row (w1.alloc (.cells #[.int .i64 a, .int .i64 b, .int .i64 c] 3)) (some ⟨w1.heap.size, 0, none⟩) (ints [a, b, c]) := by
      refine .inr ⟨w1.heap.size, 0, rfl, fun j v hj => ?_⟩
      have hb := Blk.new w1 3 #[.int .i64 a, .int .i64 b, .int .i64 c]
      rw [hb.cell, Nat.zero_add]
      simpa [ints] using hj
    have HT := ht.ext (hx.alloc (.cells #[.int .i64 a, .int .i64 b, .int .i64 c] 3))
    go_wp2_with fail
    refine (joinInts_any _ 3 _ [a, b, c] _ rfl hrow (by omega) HII.out HT).mono ?_
    rintro e w2 ⟨rfl, hx2⟩
    go_wp2
    go_ret
    exact ⟨ret_txt (by rw [H.out]), (hx.alloc _).trans hx2⟩
  · have h1' : halfOk ⟨a, b, c⟩ = false := by simpa using h1
    have H : Hid (halfT ⟨a, b, c⟩ = []) := by unfold Hid halfT; rw [if_neg h1]
    rw [h1']
    clear h1 h1'
    go_wp2
    go_ret
    exact ⟨ret_txt (by rw [H.out]; rfl), hx⟩

set_option maxHeartbeats 1000000 in
theorem specFormatHalf_any (a b c : Int) (w : World) (ha : I64 a) (hb : I64 b) (hc : I64 c) :
    Calls Tryz.prog 72 #[.agg #[.int .i64 a, .int .i64 b, .int .i64 c]] w fun e w' => e = .returned (.string (txt (halfT ⟨a, b, c⟩))) ∧ Ext w w' := by
  have hx : Ext w (w.alloc (.cells #[.int .i64 a, .int .i64 b, .int .i64 c] 69)) := (Ext.refl w).alloc _
  have bR := Blk.new w 69 #[.int .i64 a, .int .i64 b, .int .i64 c]
  have s1 := sz1 ha
  have s2 := sz1 hb
  have s3 := sz1 hc
  go_enter Tryz.func72, Tryz.ntmps72
  go_wp2_with fail
  refine (specHalfOk_any _ _ _ _ ha hb hc).mono ?_
  rintro e w1 ⟨rfl, hx1⟩
  replace hx := hx.trans hx1
  replace bR := bR.ext hx1
  have cbR_2 := fun o => bR.cell o
  by_cases h1 : halfOk ⟨a, b, c⟩ = true
  · have H : Hid (txt (numT a) ++ txt [32] ++ txt (numT b) ++ txt [32] ++ txt (numT c) = txt (halfT ⟨a, b, c⟩)) := by unfold Hid halfT; rw [if_pos h1, joinT_three, txt_append, txt_append, txt_append, txt_append]
    rw [h1]
    clear h1
    obtain ⟨ta, hta⟩ : ∃ t, txt (numT a) = t := ⟨_, rfl⟩
    obtain ⟨tb, htb⟩ : ∃ t, txt (numT b) = t := ⟨_, rfl⟩
    obtain ⟨tc, htc⟩ : ∃ t, txt (numT c) = t := ⟨_, rfl⟩
    have Ha := Lib.hid hta
    have Hb := Lib.hid htb
    have Hc := Lib.hid htc
    rw [hta] at s1 H
    rw [htb] at s2 H
    rw [htc] at s3 H
    clear hta htb htc
    have sp : (⟨#[32]⟩ : ByteArray).size = 1 := rfl
    have sq : (txt [32]).size = 1 := rfl
    obtain ⟨t1, ht1⟩ : ∃ t, ta ++ txt [32] = t := ⟨_, rfl⟩
    have z1 : t1.size ≤ 65 := by rw [← ht1, ByteArray.size_append]; omega
    have a1 := add_txt (a := ta) (b := ⟨#[32]⟩) (c := t1) ht1 (by omega)
    rw [ht1] at H
    obtain ⟨t2, ht2⟩ : ∃ t, t1 ++ tb = t := ⟨_, rfl⟩
    have z2 : t2.size ≤ 129 := by rw [← ht2, ByteArray.size_append]; omega
    have a2 := add_txt (a := t1) (b := tb) (c := t2) ht2 (by omega)
    rw [ht2] at H
    obtain ⟨t3, ht3⟩ : ∃ t, t2 ++ txt [32] = t := ⟨_, rfl⟩
    have z3 : t3.size ≤ 130 := by rw [← ht3, ByteArray.size_append]; omega
    have a3 := add_txt (a := t2) (b := ⟨#[32]⟩) (c := t3) ht3 (by omega)
    rw [ht3] at H
    have a4 := add_txt (a := t3) (b := tc) (c := txt (halfT ⟨a, b, c⟩)) H.out (by omega)
    clear ht1 ht2 ht3 H sp sq
    go_wp2_with fail
    have hcur := Ext.refl (w1)
    go_region_held3 (fun w' => w'.cell? ⟨w.heap.size, 0, none⟩ = some (.int .i64 a) ∧ w'.cell? ⟨w.heap.size, 1, none⟩ = some (.int .i64 b) ∧ w'.cell? ⟨w.heap.size, 2, none⟩ = some (.int .i64 c))
      (go_keep)
      (first
        | (go_at_call 39; (with_reducible refine (specFormatInt_any _ _ (by assumption)).mono ?_); rintro e w9 ⟨rfl, hx9⟩; replace hcur := Ext.trans (by first | exact hcur | exact hcur.drew | exact hcur.alloc _ | exact (hcur.alloc _).drew) hx9; have c9bR := fun o => (bR.ext hcur).cell o; (first | rw [Ha.out] | rw [Hb.out] | rw [Hc.out])))
    go_wp2
    go_ret
    exact ⟨rfl, hx.trans hcur⟩
  · have h1' : halfOk ⟨a, b, c⟩ = false := by simpa using h1
    have H : Hid (halfT ⟨a, b, c⟩ = []) := by unfold Hid halfT; rw [if_neg h1]
    rw [h1']
    clear h1 h1'
    go_wp2
    go_ret
    exact ⟨ret_txt (by rw [H.out]; rfl), hx⟩
end Go.Proofs.YtlgkfjhbimffiaaGreatDoor
