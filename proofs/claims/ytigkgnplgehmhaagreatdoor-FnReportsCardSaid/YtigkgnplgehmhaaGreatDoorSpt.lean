/- Contracts of texts of spots: FormatSpot of the program and of the reference. -/
import Derived.Test.YtigkgnplgehmhaaGreatDoorSo
import Derived.Test.YtigkgnplgehmhaaGreatDoorFm
import Derived.Test.YtigkgnplgehmhaaGreatDoorAp
import Derived.Test.YtigkgnplgehmhaaGreatDoorRat
namespace Go.Proofs.YtigkgnplgehmhaaGreatDoor
open Go.ChangeShapes Go.WideShapes Go.ChangeAt Go.RowKit
set_option linter.unusedVariables false
set_option maxRecDepth 100000

def spotT (s : Spot) : List UInt8 := if spotOk s = true then ratioT (ratioOf s.X s.D) ++ [44] ++ ratioT (ratioOf s.Y s.D) else []
theorem spotT_len (s : Spot) : (spotT s).length ≤ 259 := by
  unfold spotT
  split
  · have h1 := ratioT_len (ratioOf s.X s.D)
    have h2 := ratioT_len (ratioOf s.Y s.D)
    simp only [List.length_append, List.length_cons, List.length_nil]
    omega
  · simp
theorem ratioOf_small {x d : Int} (hx : -5000000000000 ≤ x ∧ x ≤ 5000000000000) (hd : 1 ≤ d ∧ d ≤ 5000000000) : I64 (ratioOf x d).N ∧ I64 (ratioOf x d).D := by
  obtain ⟨h1, h2, h3, h4, h5⟩ := ratioOf_good (n := x) (d := d) (by omega) hd.1 (by omega)
  unfold I64
  omega
set_option maxHeartbeats 2000000 in
theorem implFormatSpot_any (a b c : Int) (w : World) (ha : I64 a) (hb : I64 b) (hc : I64 c) (ht : Tab w) :
    Calls Tryz.prog 24 #[.agg #[.int .i64 a, .int .i64 b, .int .i64 c]] w fun e w' => e = .returned (.string (txt (spotT ⟨a, b, c⟩))) ∧ Ext w w' := by
  have hx : Ext w (w.alloc (.cells #[.int .i64 a, .int .i64 b, .int .i64 c] 40)) := (Ext.refl w).alloc _
  have bR := Blk.new w 40 #[.int .i64 a, .int .i64 b, .int .i64 c]
  go_enter Tryz.func24, Tryz.ntmps24
  go_wp2_with fail
  refine (implSpotOk_any _ _ _ _ ha hb hc).mono ?_
  rintro e w1 ⟨rfl, hx1⟩
  replace hx := hx.trans hx1
  replace bR := bR.ext hx1
  have cbR_1 := fun o => bR.cell o
  by_cases h1 : spotOk ⟨a, b, c⟩ = true
  · have H : Hid (txt (ratioT (ratioOf a c)) ++ txt [44] ++ txt (ratioT (ratioOf b c)) = txt (spotT ⟨a, b, c⟩)) := by unfold Hid spotT; rw [if_pos h1, txt_append, txt_append]
    have hbd := spotOk_bd h1
    change 1 ≤ c ∧ c ≤ 5000000000 ∧ -(1000 * c) ≤ a ∧ a ≤ 1000 * c ∧ -(1000 * c) ≤ b ∧ b ≤ 1000 * c at hbd
    obtain ⟨q1, q2, q3, q4, q5, q6⟩ := hbd
    obtain ⟨IxN, IxD⟩ := ratioOf_small (x := a) (d := c) (by omega) (by omega)
    obtain ⟨IyN, IyD⟩ := ratioOf_small (x := b) (d := c) (by omega) (by omega)
    rw [h1]
    clear h1 q1 q2 q3 q4 q5 q6
    have s1 : (txt (ratioT (ratioOf a c))).size ≤ 129 := by rw [txt_size]; exact ratioT_len _
    have s2 : (txt (ratioT (ratioOf b c))).size ≤ 129 := by rw [txt_size]; exact ratioT_len _
    obtain ⟨ta, hta⟩ : ∃ t, txt (ratioT (ratioOf a c)) = t := ⟨_, rfl⟩
    obtain ⟨tb, htb⟩ : ∃ t, txt (ratioT (ratioOf b c)) = t := ⟨_, rfl⟩
    have Ha : Hid (txt (ratioT ⟨(ratioOf a c).N, (ratioOf a c).D⟩) = ta) := hta
    have Hb : Hid (txt (ratioT ⟨(ratioOf b c).N, (ratioOf b c).D⟩) = tb) := htb
    rw [hta] at s1 H
    rw [htb] at s2 H
    clear hta htb
    have sp : (⟨#[44]⟩ : ByteArray).size = 1 := rfl
    have sq : (txt [44]).size = 1 := rfl
    obtain ⟨t1, ht1⟩ : ∃ t, ta ++ txt [44] = t := ⟨_, rfl⟩
    have z1 : t1.size ≤ 130 := by rw [← ht1, ByteArray.size_append]; omega
    have a1 := add_txt (a := ta) (b := ⟨#[44]⟩) (c := t1) ht1 (by omega)
    rw [ht1] at H
    have a2 := add_txt (a := t1) (b := tb) (c := txt (spotT ⟨a, b, c⟩)) H.out (by omega)
    clear ht1 H sp sq
    have HT := ht.ext hx
    go_wp2_with fail
    have hcur := Ext.refl (w1)
    go_region_held3 (fun w' => w'.cell? ⟨w.heap.size, 0, none⟩ = some (.int .i64 a) ∧ w'.cell? ⟨w.heap.size, 1, none⟩ = some (.int .i64 b) ∧ w'.cell? ⟨w.heap.size, 2, none⟩ = some (.int .i64 c))
      (go_keep)
      (first
        | (go_at_call 60; (with_reducible refine (implRatioOf_any _ _ _ (by assumption) (by assumption)).mono ?_); rintro e w9 ⟨rfl, hx9⟩; replace hcur := Ext.trans (by first | exact hcur | exact hcur.drew | exact hcur.alloc _ | exact (hcur.alloc _).drew) hx9; have c9bR := fun o => (bR.ext hcur).cell o; have t9 := Tab.ext HT hcur)
        | (go_at_call 59; (with_reducible refine (implFormatRatio_any _ _ _ (by assumption) (by assumption) (by first | exact HT.drew | exact t9 | exact HT)).mono ?_); rintro e w9 ⟨rfl, hx9⟩; replace hcur := Ext.trans (by first | exact hcur | exact hcur.drew | exact hcur.alloc _ | exact (hcur.alloc _).drew) hx9; have c9bR := fun o => (bR.ext hcur).cell o; have t9 := Tab.ext HT hcur; (first | rw [Ha.out] | rw [Hb.out])))
    go_wp2
    go_ret
    exact ⟨rfl, hx.trans hcur⟩
  · have h1' : spotOk ⟨a, b, c⟩ = false := by simpa using h1
    have H : Hid (spotT ⟨a, b, c⟩ = []) := by unfold Hid spotT; rw [if_neg h1]
    rw [h1']
    clear h1 h1'
    go_wp2
    go_ret
    exact ⟨ret_txt (by rw [H.out]; rfl), hx⟩

set_option maxHeartbeats 2000000 in
theorem specFormatSpot_any (a b c : Int) (w : World) (ha : I64 a) (hb : I64 b) (hc : I64 c) :
    Calls Tryz.prog 34 #[.agg #[.int .i64 a, .int .i64 b, .int .i64 c]] w fun e w' => e = .returned (.string (txt (spotT ⟨a, b, c⟩))) ∧ Ext w w' := by
  have hx : Ext w (w.alloc (.cells #[.int .i64 a, .int .i64 b, .int .i64 c] 40)) := (Ext.refl w).alloc _
  have bR := Blk.new w 40 #[.int .i64 a, .int .i64 b, .int .i64 c]
  go_enter Tryz.func34, Tryz.ntmps34
  go_wp2_with fail
  refine (specSpotOk_any _ _ _ _ ha hb hc).mono ?_
  rintro e w1 ⟨rfl, hx1⟩
  replace hx := hx.trans hx1
  replace bR := bR.ext hx1
  have cbR_2 := fun o => bR.cell o
  by_cases h1 : spotOk ⟨a, b, c⟩ = true
  · have H : Hid (txt (ratioT (ratioOf a c)) ++ txt [44] ++ txt (ratioT (ratioOf b c)) = txt (spotT ⟨a, b, c⟩)) := by unfold Hid spotT; rw [if_pos h1, txt_append, txt_append]
    have hbd := spotOk_bd h1
    change 1 ≤ c ∧ c ≤ 5000000000 ∧ -(1000 * c) ≤ a ∧ a ≤ 1000 * c ∧ -(1000 * c) ≤ b ∧ b ≤ 1000 * c at hbd
    obtain ⟨q1, q2, q3, q4, q5, q6⟩ := hbd
    obtain ⟨IxN, IxD⟩ := ratioOf_small (x := a) (d := c) (by omega) (by omega)
    obtain ⟨IyN, IyD⟩ := ratioOf_small (x := b) (d := c) (by omega) (by omega)
    rw [h1]
    clear h1 q1 q2 q3 q4 q5 q6
    have s1 : (txt (ratioT (ratioOf a c))).size ≤ 129 := by rw [txt_size]; exact ratioT_len _
    have s2 : (txt (ratioT (ratioOf b c))).size ≤ 129 := by rw [txt_size]; exact ratioT_len _
    obtain ⟨ta, hta⟩ : ∃ t, txt (ratioT (ratioOf a c)) = t := ⟨_, rfl⟩
    obtain ⟨tb, htb⟩ : ∃ t, txt (ratioT (ratioOf b c)) = t := ⟨_, rfl⟩
    have Ha : Hid (txt (ratioT ⟨(ratioOf a c).N, (ratioOf a c).D⟩) = ta) := hta
    have Hb : Hid (txt (ratioT ⟨(ratioOf b c).N, (ratioOf b c).D⟩) = tb) := htb
    rw [hta] at s1 H
    rw [htb] at s2 H
    clear hta htb
    have sp : (⟨#[44]⟩ : ByteArray).size = 1 := rfl
    have sq : (txt [44]).size = 1 := rfl
    obtain ⟨t1, ht1⟩ : ∃ t, ta ++ txt [44] = t := ⟨_, rfl⟩
    have z1 : t1.size ≤ 130 := by rw [← ht1, ByteArray.size_append]; omega
    have a1 := add_txt (a := ta) (b := ⟨#[44]⟩) (c := t1) ht1 (by omega)
    rw [ht1] at H
    have a2 := add_txt (a := t1) (b := tb) (c := txt (spotT ⟨a, b, c⟩)) H.out (by omega)
    clear ht1 H sp sq
    go_wp2_with fail
    have hcur := Ext.refl (w1)
    go_region_held3 (fun w' => w'.cell? ⟨w.heap.size, 0, none⟩ = some (.int .i64 a) ∧ w'.cell? ⟨w.heap.size, 1, none⟩ = some (.int .i64 b) ∧ w'.cell? ⟨w.heap.size, 2, none⟩ = some (.int .i64 c))
      (go_keep)
      (first
        | (go_at_call 75; (with_reducible refine (specRatioOf_any _ _ _ (by assumption) (by assumption)).mono ?_); rintro e w9 ⟨rfl, hx9⟩; replace hcur := Ext.trans (by first | exact hcur | exact hcur.drew | exact hcur.alloc _ | exact (hcur.alloc _).drew) hx9; have c9bR := fun o => (bR.ext hcur).cell o)
        | (go_at_call 74; (with_reducible refine (specFormatRatio_any _ _ _ (by assumption) (by assumption)).mono ?_); rintro e w9 ⟨rfl, hx9⟩; replace hcur := Ext.trans (by first | exact hcur | exact hcur.drew | exact hcur.alloc _ | exact (hcur.alloc _).drew) hx9; have c9bR := fun o => (bR.ext hcur).cell o; (first | rw [Ha.out] | rw [Hb.out])))
    go_wp2
    go_ret
    exact ⟨rfl, hx.trans hcur⟩
  · have h1' : spotOk ⟨a, b, c⟩ = false := by simpa using h1
    have H : Hid (spotT ⟨a, b, c⟩ = []) := by unfold Hid spotT; rw [if_neg h1]
    rw [h1']
    clear h1 h1'
    go_wp2
    go_ret
    exact ⟨ret_txt (by rw [H.out]; rfl), hx⟩

end Go.Proofs.YtigkgnplgehmhaaGreatDoor
