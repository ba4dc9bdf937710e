/- Contracts of texts of numbers: FormatInt of the program, FormatRatio, FormatSpan. -/
import Derived.Test.YtigkgnplgehmhaaGreatDoorTx
import Derived.Test.YtigkgnplgehmhaaGreatDoorSp
import Derived.Test.YtigkgnplgehmhaaGreatDoorShelf
namespace Go.Proofs.YtigkgnplgehmhaaGreatDoor
open Go.ChangeShapes Go.WideShapes Go.ChangeAt Go.RowKit
set_option linter.unusedVariables false

/-- the library's table of powers lies as the program's text lays it -/
def Tab (w : World) : Prop := Lib.TabIs Tryz.prog w "internal/strconv.uint64pow10" .u64 Lib.pow10Tab
theorem gTab : Tryz.prog.globalNamed "internal/strconv.uint64pow10" = some 0 := by kernel_rfl
theorem Tab.ext {w w' : World} (h : Tab w) (hx : Ext w w') : Tab w' := by
  unfold Tab Lib.TabIs World.var? at h ⊢
  rw [gTab] at h ⊢
  simp only [Option.bind_some] at h ⊢
  have hlt : 0 < w.heap.size := by
    rcases Nat.lt_or_ge 0 w.heap.size with h' | h'
    · exact h'
    · rw [Array.getElem?_eq_none h'] at h; cases h
  rw [hx.block _ hlt]
  exact h
theorem Tab.drew {w : World} (h : Tab w) : Tab w.drew := h

theorem add_txt {a b c : ByteArray} (h : a ++ b = c) (hs : a.size + b.size ≤ 9223372036854775807) (w : World) : (Op.stringOp .add a b).run Tryz.prog w = .ok (.string c) w := by
  rw [← h]; exact run_string_add_sum w a b hs
theorem ret_txt {a b : ByteArray} (h : a = b) : Ending.returned (.string a) = .returned (.string b) := by rw [h]
theorem ext_grow (w : World) (k : Nat) (os : Array Obj) : Ext w (Sort.grow (w.drewN k) os) :=
  ⟨rfl, rfl, rfl, by simp [Sort.grow, World.drewN], fun i hi => by simp [Sort.grow, World.drewN, Array.getElem?_append_left hi]⟩
theorem implFormatInt_any (n : Int) (w : World) (hn : I64 n) (ht : Tab w) :
    Calls Tryz.prog 25 #[.int .i64 n] w fun e w' => e = .returned (.string (txt (numT n))) ∧ Ext w w' := by
  unfold I64 at hn
  go_enter Tryz.func25, Tryz.ntmps25
  go_wp2_with fail
  refine (Tryz.strconv_Itoa n hn.1 hn.2 _ ht).mono ?_
  rintro e w1 ⟨rfl, k, os, rfl⟩
  go_wp2
  go_ret
  exact ⟨rfl, ext_grow _ _ _⟩

def ratioT (r : Ratio) : List UInt8 := if ratioOk r = true then (if r.D = 1 then numT r.N else numT r.N ++ [47] ++ numT r.D) else []
theorem ratioT_len (r : Ratio) : (ratioT r).length ≤ 129 := by
  unfold ratioT
  split
  · rename_i h
    obtain ⟨h1, h2, h3, h4⟩ := ratioOk_bd h
    have a := numT_len (n := r.N) (by omega) (by omega)
    have b := numT_len (n := r.D) (by omega) (by omega)
    split
    · omega
    · simp only [List.length_append, List.length_cons, List.length_nil]; omega
  · simp
def spanT (w : Span) : List UInt8 := if spanOk w = true then ratioT w.Low ++ [46, 46] ++ ratioT w.High else []

theorem sz1 {n : Int} (hn : I64 n) : (txt (numT n)).size ≤ 64 := by rw [txt_size]; exact numT_len hn.1 hn.2

set_option maxHeartbeats 1000000 in
theorem implFormatRatio_any (a b : Int) (w : World) (ha : I64 a) (hb : I64 b) (ht : Tab w) :
    Calls Tryz.prog 59 #[.agg #[.int .i64 a, .int .i64 b]] w fun e w' => e = .returned (.string (txt (ratioT ⟨a, b⟩))) ∧ Ext w w' := by
  have hx : Ext w (w.alloc (.cells #[.int .i64 a, .int .i64 b] 55)) := (Ext.refl w).alloc _
  have bR := Blk.new w 55 #[.int .i64 a, .int .i64 b]
  have HT := ht.ext hx
  have s1 := sz1 ha
  have s2 := sz1 hb
  go_enter Tryz.func59, Tryz.ntmps59
  go_wp2_with fail
  refine (implRatioOk_any _ _ _ ha hb).mono ?_
  rintro e w1 ⟨rfl, hx1⟩
  replace hx := hx.trans hx1
  replace bR := bR.ext hx1
  have cbR_1 := fun o => bR.cell o
  by_cases h1 : ratioOk ⟨a, b⟩ = true
  · have H1 := Lib.hid h1
    rw [h1]
    clear h1
    replace HT := ht.ext hx
    by_cases hd : b = 1
    · have hbd : (b == 1) = true := by simpa using hd
      have H : Hid (ratioT ⟨a, b⟩ = numT a) := by unfold Hid ratioT; rw [if_pos H1.out, if_pos hd]
      clear hd
      go_wp2_with fail
      refine (implFormatInt_any _ _ ha HT).mono ?_
      rintro e w2 ⟨rfl, hx2⟩
      replace hx := hx.trans hx2
      replace bR := bR.ext hx2
      have cbR_2 := fun o => bR.cell o
      go_wp2
      go_ret
      exact ⟨ret_txt (by rw [H.out]), hx⟩
    · have hbd : (b == 1) = false := by simpa using hd
      have H : Hid (txt (numT a) ++ txt [47] ++ txt (numT b) = txt (ratioT ⟨a, b⟩)) := by unfold Hid ratioT; rw [if_pos H1.out, if_neg hd, txt_append, txt_append]
      clear hd
      obtain ⟨ta, hta⟩ : ∃ t, txt (numT a) = t := ⟨_, rfl⟩
      obtain ⟨tb, htb⟩ : ∃ t, txt (numT b) = t := ⟨_, rfl⟩
      have Ha := Lib.hid hta
      have Hb := Lib.hid htb
      rw [hta] at s1 H
      rw [htb] at s2 H
      clear hta htb
      obtain ⟨t1, ht1⟩ : ∃ t, ta ++ txt [47] = t := ⟨_, rfl⟩
      have s3 : t1.size ≤ 65 := by rw [← ht1, ByteArray.size_append, txt_size]; simp; omega
      have a1 := add_txt (a := ta) (b := ⟨#[47]⟩) (c := t1) ht1 (by have : (⟨#[47]⟩ : ByteArray).size = 1 := rfl; omega)
      rw [ht1] at H
      have a2 := add_txt (a := t1) (b := tb) (c := txt (ratioT ⟨a, b⟩)) H.out (by omega)
      clear ht1 H
      go_wp2_with fail
      have hcur := Ext.refl (w1)
      go_region_held3 (fun w' => w'.cell? ⟨w.heap.size, 0, none⟩ = some (.int .i64 a) ∧ w'.cell? ⟨w.heap.size, 1, none⟩ = some (.int .i64 b))
        (go_keep)
        (first
          | (go_at_call 25; (with_reducible refine (implFormatInt_any _ _ (by assumption) (by first | exact HT.drew | exact t9)).mono ?_); rintro e w9 ⟨rfl, hx9⟩; replace hcur := Ext.trans (by first | exact hcur | exact hcur.drew | exact hcur.alloc _ | exact (hcur.alloc _).drew) hx9; have c9bR := fun o => (bR.ext hcur).cell o; have t9 := Tab.ext HT hcur; (first | rw [Ha.out] | rw [Hb.out])))
      go_wp2
      go_ret
      exact ⟨rfl, by first | exact hx.trans hcur⟩
  · have h1' : ratioOk ⟨a, b⟩ = false := by simpa using h1
    have H : Hid (ratioT ⟨a, b⟩ = []) := by unfold Hid ratioT; rw [if_neg h1]
    rw [h1']
    clear h1 h1'
    go_wp2
    go_ret
    exact ⟨ret_txt (by rw [H.out]; rfl), hx⟩

set_option maxHeartbeats 1000000 in
theorem specFormatRatio_any (a b : Int) (w : World) (ha : I64 a) (hb : I64 b) :
    Calls Tryz.prog 74 #[.agg #[.int .i64 a, .int .i64 b]] w fun e w' => e = .returned (.string (txt (ratioT ⟨a, b⟩))) ∧ Ext w w' := by
  have hx : Ext w (w.alloc (.cells #[.int .i64 a, .int .i64 b] 55)) := (Ext.refl w).alloc _
  have bR := Blk.new w 55 #[.int .i64 a, .int .i64 b]
  have s1 := sz1 ha
  have s2 := sz1 hb
  go_enter Tryz.func74, Tryz.ntmps74
  go_wp2_with fail
  refine (specRatioOk_any _ _ _ ha hb).mono ?_
  rintro e w1 ⟨rfl, hx1⟩
  replace hx := hx.trans hx1
  replace bR := bR.ext hx1
  have cbR_3 := fun o => bR.cell o
  by_cases h1 : ratioOk ⟨a, b⟩ = true
  · have H1 := Lib.hid h1
    rw [h1]
    clear h1
    by_cases hd : b = 1
    · have hbd : (b == 1) = true := by simpa using hd
      have H : Hid (ratioT ⟨a, b⟩ = numT a) := by unfold Hid ratioT; rw [if_pos H1.out, if_pos hd]
      clear hd
      go_wp2_with fail
      refine (specFormatInt_any _ _ ha).mono ?_
      rintro e w2 ⟨rfl, hx2⟩
      replace hx := hx.trans hx2
      replace bR := bR.ext hx2
      have cbR_4 := fun o => bR.cell o
      go_wp2
      go_ret
      exact ⟨ret_txt (by rw [H.out]), hx⟩
    · have hbd : (b == 1) = false := by simpa using hd
      have H : Hid (txt (numT a) ++ txt [47] ++ txt (numT b) = txt (ratioT ⟨a, b⟩)) := by unfold Hid ratioT; rw [if_pos H1.out, if_neg hd, txt_append, txt_append]
      clear hd
      obtain ⟨ta, hta⟩ : ∃ t, txt (numT a) = t := ⟨_, rfl⟩
      obtain ⟨tb, htb⟩ : ∃ t, txt (numT b) = t := ⟨_, rfl⟩
      have Ha := Lib.hid hta
      have Hb := Lib.hid htb
      rw [hta] at s1 H
      rw [htb] at s2 H
      clear hta htb
      obtain ⟨t1, ht1⟩ : ∃ t, ta ++ txt [47] = t := ⟨_, rfl⟩
      have s3 : t1.size ≤ 65 := by rw [← ht1, ByteArray.size_append, txt_size]; simp; omega
      have a1 := add_txt (a := ta) (b := ⟨#[47]⟩) (c := t1) ht1 (by have : (⟨#[47]⟩ : ByteArray).size = 1 := rfl; omega)
      rw [ht1] at H
      have a2 := add_txt (a := t1) (b := tb) (c := txt (ratioT ⟨a, b⟩)) H.out (by omega)
      clear ht1 H
      go_wp2_with fail
      have hcur := Ext.refl (w1)
      go_region_held3 (fun w' => w'.cell? ⟨w.heap.size, 0, none⟩ = some (.int .i64 a) ∧ w'.cell? ⟨w.heap.size, 1, none⟩ = some (.int .i64 b))
        (go_keep)
        (first
          | (go_at_call 45; (with_reducible refine (specFormatInt_any _ _ (by assumption)).mono ?_); rintro e w9 ⟨rfl, hx9⟩; replace hcur := Ext.trans (by first | exact hcur | exact hcur.drew | exact hcur.alloc _ | exact (hcur.alloc _).drew) hx9; have c9bR := fun o => (bR.ext hcur).cell o; (first | rw [Ha.out] | rw [Hb.out])))
      go_wp2
      go_ret
      exact ⟨rfl, by first | exact hx.trans hcur⟩
  · have h1' : ratioOk ⟨a, b⟩ = false := by simpa using h1
    have H : Hid (ratioT ⟨a, b⟩ = []) := by unfold Hid ratioT; rw [if_neg h1]
    rw [h1']
    clear h1 h1'
    go_wp2
    go_ret
    exact ⟨ret_txt (by rw [H.out]; rfl), hx⟩

theorem sz2 (r : Ratio) : (txt (ratioT r)).size ≤ 129 := by rw [txt_size]; exact ratioT_len r
set_option maxHeartbeats 1000000 in
theorem implFormatSpan_any (a b c d : Int) (w : World) (ha : I64 a) (hb : I64 b) (hc : I64 c) (hd : I64 d) (ht : Tab w) :
    Calls Tryz.prog 41 #[.agg #[.int .i64 a, .int .i64 b, .int .i64 c, .int .i64 d]] w fun e w' => e = .returned (.string (txt (spanT ⟨⟨a, b⟩, ⟨c, d⟩⟩))) ∧ Ext w w' := by
  have hx : Ext w (w.alloc (.cells #[.int .i64 a, .int .i64 b, .int .i64 c, .int .i64 d] 57)) := (Ext.refl w).alloc _
  have bR := Blk.new w 57 #[.int .i64 a, .int .i64 b, .int .i64 c, .int .i64 d]
  go_enter Tryz.func41, Tryz.ntmps41
  go_wp2_with fail
  refine (implSpanOk_any _ _ _ _ _ ha hb hc hd).mono ?_
  rintro e w1 ⟨rfl, hx1⟩
  replace hx := hx.trans hx1
  replace bR := bR.ext hx1
  have cbR_5 := fun o => bR.cell o
  by_cases h1 : spanOk ⟨⟨a, b⟩, ⟨c, d⟩⟩ = true
  · have HT := ht.ext hx
    have s1 := sz2 ⟨a, b⟩
    have s2 := sz2 ⟨c, d⟩
    have H : txt (ratioT ⟨a, b⟩) ++ txt [46, 46] ++ txt (ratioT ⟨c, d⟩) = txt (spanT ⟨⟨a, b⟩, ⟨c, d⟩⟩) := by unfold spanT; rw [if_pos h1, txt_append, txt_append]
    rw [h1]
    clear h1
    obtain ⟨ta, hta⟩ : ∃ t, txt (ratioT ⟨a, b⟩) = t := ⟨_, rfl⟩
    obtain ⟨tb, htb⟩ : ∃ t, txt (ratioT ⟨c, d⟩) = t := ⟨_, rfl⟩
    have Ha := Lib.hid hta
    have Hb := Lib.hid htb
    rw [hta] at s1 H
    rw [htb] at s2 H
    clear hta htb
    obtain ⟨t1, ht1⟩ : ∃ t, ta ++ txt [46, 46] = t := ⟨_, rfl⟩
    have s3 : t1.size ≤ 131 := by rw [← ht1, ByteArray.size_append, txt_size]; simp; omega
    have a1 := add_txt (a := ta) (b := ⟨#[46, 46]⟩) (c := t1) ht1 (by have : (⟨#[46, 46]⟩ : ByteArray).size = 2 := rfl; omega)
    rw [ht1] at H
    have a2 := add_txt (a := t1) (b := tb) (c := txt (spanT ⟨⟨a, b⟩, ⟨c, d⟩⟩)) H (by omega)
    clear ht1 H
    go_wp2_with fail
    have hcur := Ext.refl (w1)
    go_region_held3 (fun w' => w'.cell? ⟨w.heap.size, 0, none⟩ = some (.int .i64 a) ∧ w'.cell? ⟨w.heap.size, 1, none⟩ = some (.int .i64 b) ∧ w'.cell? ⟨w.heap.size, 2, none⟩ = some (.int .i64 c) ∧ w'.cell? ⟨w.heap.size, 3, none⟩ = some (.int .i64 d))
      (go_keep)
      (first
        | (go_at_call 59; (with_reducible refine (implFormatRatio_any _ _ _ (by assumption) (by assumption) (by first | exact HT.drew | exact t9)).mono ?_); rintro e w9 ⟨rfl, hx9⟩; replace hcur := Ext.trans (by first | exact hcur | exact hcur.drew | exact hcur.alloc _ | exact (hcur.alloc _).drew) hx9; have c9bR := fun o => (bR.ext hcur).cell o; have t9 := Tab.ext HT hcur; (first | rw [Ha.out] | rw [Hb.out])))
    go_wp2
    go_ret
    exact ⟨rfl, hx.trans hcur⟩
  · have h1' : spanOk ⟨⟨a, b⟩, ⟨c, d⟩⟩ = false := by simpa using h1
    have H : Hid (spanT ⟨⟨a, b⟩, ⟨c, d⟩⟩ = []) := by unfold Hid spanT; rw [if_neg h1]
    rw [h1']
    clear h1 h1'
    go_wp2
    go_ret
    exact ⟨ret_txt (by rw [H.out]; rfl), hx⟩

set_option maxHeartbeats 1000000 in
theorem specFormatSpan_any (a b c d : Int) (w : World) (ha : I64 a) (hb : I64 b) (hc : I64 c) (hd : I64 d) :
    Calls Tryz.prog 35 #[.agg #[.int .i64 a, .int .i64 b, .int .i64 c, .int .i64 d]] w fun e w' => e = .returned (.string (txt (spanT ⟨⟨a, b⟩, ⟨c, d⟩⟩))) ∧ Ext w w' := by
  have hx : Ext w (w.alloc (.cells #[.int .i64 a, .int .i64 b, .int .i64 c, .int .i64 d] 57)) := (Ext.refl w).alloc _
  have bR := Blk.new w 57 #[.int .i64 a, .int .i64 b, .int .i64 c, .int .i64 d]
  go_enter Tryz.func35, Tryz.ntmps35
  go_wp2_with fail
  refine (specSpanOk_any _ _ _ _ _ ha hb hc hd).mono ?_
  rintro e w1 ⟨rfl, hx1⟩
  replace hx := hx.trans hx1
  replace bR := bR.ext hx1
  have cbR_6 := fun o => bR.cell o
  by_cases h1 : spanOk ⟨⟨a, b⟩, ⟨c, d⟩⟩ = true
  · have s1 := sz2 ⟨a, b⟩
    have s2 := sz2 ⟨c, d⟩
    have H : txt (ratioT ⟨a, b⟩) ++ txt [46, 46] ++ txt (ratioT ⟨c, d⟩) = txt (spanT ⟨⟨a, b⟩, ⟨c, d⟩⟩) := by unfold spanT; rw [if_pos h1, txt_append, txt_append]
    rw [h1]
    clear h1
    obtain ⟨ta, hta⟩ : ∃ t, txt (ratioT ⟨a, b⟩) = t := ⟨_, rfl⟩
    obtain ⟨tb, htb⟩ : ∃ t, txt (ratioT ⟨c, d⟩) = t := ⟨_, rfl⟩
    have Ha := Lib.hid hta
    have Hb := Lib.hid htb
    rw [hta] at s1 H
    rw [htb] at s2 H
    clear hta htb
    obtain ⟨t1, ht1⟩ : ∃ t, ta ++ txt [46, 46] = t := ⟨_, rfl⟩
    have s3 : t1.size ≤ 131 := by rw [← ht1, ByteArray.size_append, txt_size]; simp; omega
    have a1 := add_txt (a := ta) (b := ⟨#[46, 46]⟩) (c := t1) ht1 (by have : (⟨#[46, 46]⟩ : ByteArray).size = 2 := rfl; omega)
    rw [ht1] at H
    have a2 := add_txt (a := t1) (b := tb) (c := txt (spanT ⟨⟨a, b⟩, ⟨c, d⟩⟩)) H (by omega)
    clear ht1 H
    go_wp2_with fail
    have hcur := Ext.refl (w1)
    go_region_held3 (fun w' => w'.cell? ⟨w.heap.size, 0, none⟩ = some (.int .i64 a) ∧ w'.cell? ⟨w.heap.size, 1, none⟩ = some (.int .i64 b) ∧ w'.cell? ⟨w.heap.size, 2, none⟩ = some (.int .i64 c) ∧ w'.cell? ⟨w.heap.size, 3, none⟩ = some (.int .i64 d))
      (go_keep)
      (first
        | (go_at_call 74; (with_reducible refine (specFormatRatio_any _ _ _ (by assumption) (by assumption)).mono ?_); rintro e w9 ⟨rfl, hx9⟩; replace hcur := Ext.trans (by first | exact hcur | exact hcur.drew | exact hcur.alloc _ | exact (hcur.alloc _).drew) hx9; have c9bR := fun o => (bR.ext hcur).cell o; (first | rw [Ha.out] | rw [Hb.out])))
    go_wp2
    go_ret
    exact ⟨rfl, hx.trans hcur⟩
  · have h1' : spanOk ⟨⟨a, b⟩, ⟨c, d⟩⟩ = false := by simpa using h1
    have H : Hid (spanT ⟨⟨a, b⟩, ⟨c, d⟩⟩ = []) := by unfold Hid spanT; rw [if_neg h1]
    rw [h1']
    clear h1 h1'
    go_wp2
    go_ret
    exact ⟨ret_txt (by rw [H.out]; rfl), hx⟩
end Go.Proofs.YtigkgnplgehmhaaGreatDoor
