/- Contracts of the lines of corners: corners, CornersOf, CornerLine of the program; l05Corners, CornerLine of the reference. (written by tools/mkCl.py) -/
import Derived.Test.YtigkgnplgehmhaaGreatDoorCo
import Derived.Test.YtigkgnplgehmhaaGreatDoorHz
import Derived.Test.YtigkgnplgehmhaaGreatDoorSpt
import Derived.Test.YtigkgnplgehmhaaGreatDoorMix
import Derived.StillTailTactics
import Derived.Test.YtigkgnplgehmhaaGreatDoorCn
import Derived.Test.YtigkgnplgehmhaaGreatDoorJn
import Derived.Test.YtigkgnplgehmhaaGreatDoorSs
namespace Go.Proofs.YtigkgnplgehmhaaGreatDoor
open Go.ChangeShapes Go.WideShapes Go.ChangeAt Go.RowKit
set_option linter.unusedVariables false
set_option maxRecDepth 100000

def spotTs (l : List Spot) : List (List UInt8) := l.map spotT
def cornerT (hs : List Half) : List UInt8 := if hs = [] then [118, 111, 105, 100] else if regOk hs = true then Lib.join (spotTs (cornersL hs)) [32] else []
theorem cornerT_void {hs : List Half} (h : hs = []) : cornerT hs = [118, 111, 105, 100] := if_pos h
theorem cornerT_bad {hs : List Half} (h : hs ≠ []) (hk : regOk hs = false) : cornerT hs = [] := by unfold cornerT; rw [if_neg h, if_neg (by rw [hk]; simp)]
theorem cornerT_ok {hs : List Half} (h : hs ≠ []) (hk : regOk hs = true) : cornerT hs = Lib.join (spotTs (cornersL hs)) [32] := by unfold cornerT; rw [if_neg h, if_pos hk]
theorem spotTs_len (l : List Spot) : (spotTs l).length = l.length := by simp [spotTs]
theorem spotTs_succ {l : List Spot} {k : Nat} (h : k < l.length) : (spotTs l).take (k + 1) = (spotTs l).take k ++ [spotT l[k]] := by
  rw [List.take_succ_eq_append_getElem (by rw [spotTs_len]; exact h)]; simp [spotTs]
theorem spotTs_bd {l : List Spot} (h : l.length ≤ 40) (k : Nat) : (Lib.join ((spotTs l).take k) [32]).length ≤ 140737488355328 := by
  have h1 := join_len_le ((spotTs l).take k) [32] 259 (fun t ht => by
    obtain ⟨s, _, rfl⟩ := List.mem_map.1 (List.mem_of_mem_take ht); exact spotT_len s)
  have h2 : ((spotTs l).take k).length * (259 + 1) ≤ 40 * (259 + 1) := Nat.mul_le_mul_right _ (by rw [List.length_take, spotTs_len]; omega)
  exact Nat.le_trans h1 (by simp only [List.length_cons, List.length_nil]; omega)
theorem corner_all {hs : List Half} (h : hs.all halfOk = true) (k : Nat) (hk : k < (cornersL hs).length) : I64 (cornersL hs)[k].X ∧ I64 (cornersL hs)[k].Y ∧ I64 (cornersL hs)[k].D := by
  have hk' : k < hs.length := by rw [cornersL_len] at hk; exact hk
  have e : (cornersL hs)[k] = cornerAt hs k := by simp [cornersL, cornersTo]
  rw [e]; exact corner_I64 h hk'

theorem implCornersOf_any (A : Option Addr) (n c : Nat) (hs : List Half) (w : World) (hn : hs.length = n) (hr : Row w A (ints (flat Half.ints hs))) (hI : HalvesI hs) (hle : n ≤ maxLen) :
    Calls Tryz.prog 63 #[.agg #[.slice A n c]] w (SpotsMade (if regOk hs = true then cornersL hs else []) w) := by
  have hx : Ext w (w.alloc (.cells #[.slice A n c] 35)) := (Ext.refl w).alloc _
  have bR := Blk.new w 35 #[.slice A n c]
  have HR := Lib.hid hr
  have HO := Lib.hid (fun w hr => implRegionOk_any A n c hs w hn hr hI hle)
  have HC := Lib.hid (fun w hr (h : regOk hs = true) => corners_any A n c hs w hn hr (regOk_all h) (by have := regOk_len h; omega))
  clear hr hI hn
  by_cases hok : regOk hs = true
  · have HOk := Lib.hid hok
    have HC2 := Lib.hid (fun w hr => HC.out w hr hok)
    rw [if_pos hok]
    clear hok HC
    go_enter Tryz.func63, Tryz.ntmps63
    go_wp2_with fail
    refine (HO.out _ (HR.out.ext hx)).mono ?_
    rintro e w1 ⟨rfl, hx1⟩
    replace hx := hx.trans hx1
    replace bR := bR.ext hx1
    have cbR_1 := fun o => bR.cell o
    rw [HOk.out]
    go_wp2_with fail
    refine (HC2.out _ (HR.out.ext hx)).mono ?_
    rintro e w2 ⟨A2, c2, m, rfl, hm, hx2, hown2⟩
    have HM := Lib.hid hm
    have hxs := hx.size
    have HW := Lib.hid hown2
    clear hm hown2
    go_wp2
    go_ret
    exact ⟨A2, c2, m, rfl, HM.out, hx.trans hx2, own_base HW.out hxs⟩
  · have HOk : Hid (regOk hs = false) := by simpa [Hid] using hok
    rw [if_neg hok]
    clear hok
    go_enter Tryz.func63, Tryz.ntmps63
    go_wp2_with fail
    refine (HO.out _ (HR.out.ext hx)).mono ?_
    rintro e w1 ⟨rfl, hx1⟩
    replace hx := hx.trans hx1
    replace bR := bR.ext hx1
    have cbR_2 := fun o => bR.cell o
    rw [HOk.out]
    go_wp2
    go_ret
    exact ⟨none, 0, 0, rfl, rfl, hx, World.ownsRow_nil _ _ _ _⟩
set_option maxHeartbeats 4000000 in
theorem implCornerLine_any (A : Option Addr) (n c : Nat) (hs : List Half) (w : World) (hn : hs.length = n) (hr : Row w A (ints (flat Half.ints hs))) (hI : HalvesI hs) (hle : n ≤ maxLen) (ht : Tab w) :
    Calls Tryz.prog 26 #[.agg #[.slice A n c]] w fun e w' => e = .returned (.string (txt (cornerT hs))) ∧ Ext w w' := by
  obtain ⟨i0, hi0, hz0, hz1, hz2⟩ := info_parts str_info
  have hx : Ext w (w.alloc (.cells #[.slice A n c] 35)) := (Ext.refl w).alloc _
  have bR := Blk.new w 35 #[.slice A n c]
  have HR := Lib.hid hr
  have HV := Lib.hid (fun w => implIsVoid_any A n c w hle)
  have HO := Lib.hid (fun w hr => implCornersOf_any A n c hs w hn hr hI hle)
  have Hv : Hid (∀ _ : n = 0, cornerT hs = [118, 111, 105, 100]) := fun h0 => cornerT_void (List.eq_nil_of_length_eq_zero (by omega))
  have Hb : Hid (∀ _ : n ≠ 0, regOk hs = false → cornerT hs = []) := fun h0 h => cornerT_bad (fun e => h0 (by rw [← hn, e]; rfl)) h
  have Hg : Hid (∀ _ : n ≠ 0, regOk hs = true → cornerT hs = Lib.join (spotTs (cornersL hs)) [32] ∧ (cornersL hs).length ≤ 40) := fun h0 h => ⟨cornerT_ok (fun e => h0 (by rw [← hn, e]; rfl)) h, by rw [cornersL_len]; exact regOk_len h⟩
  have HI2 := Lib.hid (fun h => corner_all (hs := hs) (regOk_all h))
  have HT0 := Lib.hid ht
  clear hr ht hI hn
  by_cases h0 : n = 0
  · have HQ := Lib.hid (Hv.out h0)
    have hE : (decide (n = 0)) = true := decide_eq_true h0
    clear h0
    go_enter Tryz.func26, Tryz.ntmps26
    go_wp2_with fail
    refine (HV.out _).mono ?_
    rintro e w1 ⟨rfl, hx1⟩
    replace hx := hx.trans hx1
    replace bR := bR.ext hx1
    have cbR_3 := fun o => bR.cell o
    rw [hE]
    clear hE
    go_wp2
    go_ret
    exact ⟨ret_txt (by rw [HQ.out]; rfl), hx⟩
  have hE : (decide (n = 0)) = false := decide_eq_false h0
  have Hb2 := Lib.hid (Hb.out h0)
  have Hg2 := Lib.hid (Hg.out h0)
  obtain ⟨L, hL⟩ : ∃ L, (if regOk hs = true then cornersL hs else []) = L := ⟨_, rfl⟩
  have HLI : Hid (∀ k (hk : k < L.length), I64 L[k].X ∧ I64 L[k].Y ∧ I64 L[k].D) := by
    rw [← hL]
    intro k hk
    by_cases h : regOk hs = true
    · simp only [h, if_true] at hk ⊢; exact HI2.out h k hk
    · simp [h] at hk
  have HQ : Hid (Lib.join (spotTs L) [32] = cornerT hs ∧ L.length ≤ 40) := by
    rw [← hL]
    by_cases h : regOk hs = true
    · rw [if_pos h]; exact ⟨(Hg2.out h).1.symm, (Hg2.out h).2⟩
    · rw [if_neg h, Hb2.out (by simpa using h)]; exact ⟨rfl, by simp⟩
  rw [hL] at HO
  clear hL h0 Hb2 Hg2 Hb Hg Hv HI2
  go_enter Tryz.func26, Tryz.ntmps26
  go_wp2_with fail
  refine (HV.out _).mono ?_
  rintro e w1 ⟨rfl, hx1⟩
  replace hx := hx.trans hx1
  replace bR := bR.ext hx1
  have cbR_4 := fun o => bR.cell o
  rw [hE]
  clear hE
  go_wp2_with fail
  refine (HO.out _ (HR.out.ext hx)).mono ?_
  rintro e w2 ⟨A2, c2, m, rfl, hm, hx2, hown2⟩
  replace hx := hx.trans hx2
  replace bR := bR.ext hx2
  have cbR_5 := fun o => bR.cell o
  have HM := Lib.hid hm
  have h40 : m ≤ 40 := by rw [hm]; exact HQ.out.2
  have hrow2 := Lib.hid (Row.of_own hown2)
  clear hm hown2
  have hRlt := bR.lt
  go_wp2
  go_loopw [3, 11] (fun v i wr => ∃ k : Nat, k ≤ m ∧ i = .int .i64 k ∧ Ext w2 wr ∧ wr.ownsRow w2.heap.size 9 1 v k (strs ((spotTs L).take k))) (fun _ i _ => m - (intOf i).toNat)
  case atStart => exact ⟨0, Nat.zero_le _, rfl, Ext.refl _, World.ownsRow_nil _ _ _ _⟩
  case round =>
  obtain ⟨k, hk, rfl, hy, hown⟩ := hrel
  have hsz := hy.size
  have hxs := hx.size
  by_cases hlt : k < m
  · have hkl : k < L.length := by rw [← HM.out]; exact hlt
    obtain ⟨b, off, rfl, hb, c0, c1, c2⟩ := (hrow2.out.ext hy).Spot (k := k) hkl
    obtain ⟨i1, i2, i3⟩ := HLI.out k hkl
    have Hk := Lib.hid (spotTs_succ (l := L) (k := k) hkl)
    obtain ⟨h, hh⟩ : ∃ h, L[k]'hkl = h := ⟨_, rfl⟩
    rw [hh] at c0 c1 c2 i1 i2 i3 Hk
    clear hh
    have hlt2 : (k : Int) < (m : Int) := by omega
    have hy1 := hy.alloc (.cells #[.int .i64 h.X, .int .i64 h.Y, .int .i64 h.D] 40)
    have hTk := HT0.out.ext ((hx.trans hy).alloc (.cells #[.int .i64 h.X, .int .i64 h.Y, .int .i64 h.D] 40))
    go_wp2_with fail
    refine (implFormatSpot_any h.X h.Y h.D _ i1 i2 i3 hTk).mono ?_
    rintro e w5 ⟨rfl, hx5⟩
    replace hown := own_ext (hown.alloc _) hx5
    have hy5 := hy1.trans hx5
    have hsz5 := hy5.size
    change Hid ((spotTs L).take (k + 1) = (spotTs L).take k ++ [spotT ⟨h.X, h.Y, h.D⟩]) at Hk
    obtain ⟨t, htt⟩ : ∃ t, spotT ⟨h.X, h.Y, h.D⟩ = t := ⟨_, rfl⟩
    rw [htt] at Hk ⊢
    clear htt
    go_wp2_with (at_builtin; go_must (refine wpList_append_own _ rfl _ _ 45 rfl w2.heap.size 9 i0 (.string ByteArray.empty) 1 16 Tryz.underlying45 hi0 hz0 hz1 hz2 rfl (by decide) _ _ _ rfl (hown.alloc _) ⟨w5.heap.size, 0, none⟩ 1 1 [.string (txt t)] rfl rfl (cell_one_new _ _ _) (by simp [Value.oneCell']) (by unfold maxLen; omega) (by omega) (by simp; omega) ?_); intro v' w6 hown' hgrow _)
    have hy6 : Ext w2 w6 := (hy5.alloc _).grown hgrow (fun g hg => (hown.lt g hg).1)
    go_roundw
    case rel => exact ⟨k + 1, by omega, by go_num, hy6, by rw [Hk.out, strs_append]; exact hown'⟩
    case measure => simp [intOf]; omega
  · obtain rfl : k = m := by omega
    obtain ⟨A', c', rfl⟩ := own_form hown
    have hrow := Row.of_own hown
    have hcap := own_cap hown
    have Hlen : Hid (((spotTs L).take k).length = k) := by unfold Hid; rw [List.length_take, spotTs_len, ← HM.out]; omega
    have HE : Hid (Lib.join ((spotTs L).take k) [32] = cornerT hs) := by unfold Hid; rw [← HQ.out.1, List.take_of_length_le (by rw [spotTs_len, ← HM.out]; exact Nat.le_refl _)]
    have Hlb := Lib.hid (spotTs_bd HQ.out.2 k)
    go_wp2_with fail
    refine (implJoin_any _ _ _ ((spotTs L).take k) _ _ Hlen.out hrow hcap (by omega) Hlb.out).mono ?_
    rintro e w5 ⟨rfl, hx5⟩
    go_wp2
    go_ret
    exact ⟨ret_txt (by rw [← HE.out]), (hx.trans hy).trans hx5⟩
set_option maxHeartbeats 4000000 in
theorem specCornerLine_any (A : Option Addr) (n c : Nat) (hs : List Half) (w : World) (hn : hs.length = n) (hr : Row w A (ints (flat Half.ints hs))) (hA : A = none → n = 0 ∧ c = 0) (hI : HalvesI hs) (hle : n ≤ maxLen) :
    Calls Tryz.prog 46 #[.agg #[.slice A n c]] w fun e w' => e = .returned (.string (txt (cornerT hs))) ∧ Ext w w' := by
  obtain ⟨i0, hi0, hz0, hz1, hz2⟩ := info_parts str_info
  have hx : Ext w (w.alloc (.cells #[.slice A n c] 35)) := (Ext.refl w).alloc _
  have bR := Blk.new w 35 #[.slice A n c]
  have HR := Lib.hid hr
  have HV := Lib.hid (fun w => specIsVoid_any A n c w hle)
  have HO := Lib.hid (fun w hr => specRegionOk_any A n c hs w hn hr hA hI hle)
  have HCo := Lib.hid (fun w hr (h : regOk hs = true) => l05Corners_any A n c hs w hn hr (regOk_all h) (by have := regOk_len h; omega))
  have Hv : Hid (∀ _ : n = 0, cornerT hs = [118, 111, 105, 100] ∧ regOk hs = true) := fun h0 => by
    have e := List.eq_nil_of_length_eq_zero (show hs.length = 0 by omega)
    exact ⟨cornerT_void e, by rw [e]; rfl⟩
  have Hb : Hid (∀ _ : n ≠ 0, regOk hs = false → cornerT hs = []) := fun h0 h => cornerT_bad (fun e => h0 (by rw [← hn, e]; rfl)) h
  have Hg : Hid (∀ _ : n ≠ 0, regOk hs = true → cornerT hs = Lib.join (spotTs (cornersL hs)) [32] ∧ (cornersL hs).length ≤ 40) := fun h0 h => ⟨cornerT_ok (fun e => h0 (by rw [← hn, e]; rfl)) h, by rw [cornersL_len]; exact regOk_len h⟩
  have HI2 := Lib.hid (fun h => corner_all (hs := hs) (regOk_all h))
  clear hr hI hn hA
  by_cases h0 : n = 0
  · have HQ := Lib.hid (Hv.out h0)
    have hE : (decide (n = 0)) = true := decide_eq_true h0
    clear h0
    go_enter Tryz.func46, Tryz.ntmps46
    go_wp2_with fail
    refine (HO.out _ (HR.out.ext hx)).mono ?_
    rintro e w1 ⟨rfl, hx1⟩
    replace hx := hx.trans hx1
    replace bR := bR.ext hx1
    have cbR_6 := fun o => bR.cell o
    rw [HQ.out.2]
    go_wp2_with fail
    refine (HV.out _).mono ?_
    rintro e w2 ⟨rfl, hx2⟩
    replace hx := hx.trans hx2
    replace bR := bR.ext hx2
    have cbR_7 := fun o => bR.cell o
    rw [hE]
    clear hE
    go_wp2
    go_ret
    exact ⟨ret_txt (by rw [HQ.out.1]; rfl), hx⟩
  have hE : (decide (n = 0)) = false := decide_eq_false h0
  have Hb2 := Lib.hid (Hb.out h0)
  have Hg2 := Lib.hid (Hg.out h0)
  by_cases hok : regOk hs = true
  rotate_left
  · have hok' : regOk hs = false := by simpa using hok
    have HQ := Lib.hid (Hb2.out hok')
    clear hok h0
    go_enter Tryz.func46, Tryz.ntmps46
    go_wp2_with fail
    refine (HO.out _ (HR.out.ext hx)).mono ?_
    rintro e w1 ⟨rfl, hx1⟩
    replace hx := hx.trans hx1
    replace bR := bR.ext hx1
    have cbR_8 := fun o => bR.cell o
    rw [hok']
    clear hok' hE
    go_wp2
    go_ret
    exact ⟨ret_txt (by rw [HQ.out]; rfl), hx⟩
  have HQ := Lib.hid (Hg2.out hok)
  have HLI := Lib.hid (HI2.out hok)
  have HOk := Lib.hid hok
  obtain ⟨L, hL⟩ : ∃ L, cornersL hs = L := ⟨_, rfl⟩
  have HC2 := Lib.hid (fun w hr => HCo.out w hr hok)
  rw [hL] at HQ HLI HC2
  clear hL h0 Hb2 Hg2 Hb Hg Hv HI2 hok HCo
  go_enter Tryz.func46, Tryz.ntmps46
  go_wp2_with fail
  refine (HO.out _ (HR.out.ext hx)).mono ?_
  rintro e w1 ⟨rfl, hx1⟩
  replace hx := hx.trans hx1
  replace bR := bR.ext hx1
  have cbR_9 := fun o => bR.cell o
  rw [HOk.out]
  go_wp2_with fail
  refine (HV.out _).mono ?_
  rintro e w7 ⟨rfl, hx7⟩
  replace hx := hx.trans hx7
  replace bR := bR.ext hx7
  have cbR_10 := fun o => bR.cell o
  rw [hE]
  clear hE
  have cR9 := fun o => (bR.alloc (.cells #[] 9)).cell o
  go_wp2_with fail
  refine (HC2.out _ (HR.out.ext (hx.alloc (.cells #[] 9)))).mono ?_
  rintro e w2 ⟨A2, c2, m, rfl, hm, hx2, hown2⟩
  simp only [World.size_alloc] at hown2
  have HM := Lib.hid hm
  have h40 : m ≤ 40 := by rw [hm]; exact HQ.out.2
  clear hm
  have th : Mine w2 (w7.heap.size + 1) w2.heap.size 40 3 (.slice A2 m c2) m (ints (flat Spot.ints L)) := ⟨hown2, fun g hg => (hown2.lt g hg).2⟩
  clear hown2
  have hlit : (w7.alloc (.cells #[] 9)).ownsRow w7.heap.size 9 1 (.slice (some ⟨w7.heap.size, 0, none⟩) 0 0) 0 (strs []) := World.ownsRow_lit w7 #[] 0 (Nat.le_refl _) (by unfold maxLen; omega) rfl
  have hs0 := hx2.size
  rw [World.size_alloc] at hs0
  have hx1 := ((Ext.refl w7).alloc (.cells #[] 9)).trans hx2
  go_wp2
  go_loopw [3, 15] (fun v i wr => ∃ (k : Nat), k ≤ m ∧ i = .int .i64 k ∧ Ext w7 wr ∧ w2.heap.size ≤ wr.heap.size ∧ Mine wr (w7.heap.size + 1) w2.heap.size 40 3 (.slice A2 m c2) m (ints (flat Spot.ints L)) ∧ (∀ g, Value.ownBlock v = some g → g < w7.heap.size + 1 ∨ w2.heap.size ≤ g) ∧ wr.ownsRow w7.heap.size 9 1 v k (strs ((spotTs L).take k))) (fun _ i _ => m - (intOf i).toNat)
  case atStart => exact ⟨0, Nat.zero_le _, rfl, hx1, Nat.le_refl _, th, fun g hg => Or.inl (by simp [Value.ownBlock] at hg; omega), own_ext hlit hx2⟩
  case round =>
  obtain ⟨k, hk, rfl, hy, hgt, thr, hblk, hown⟩ := hrel
  have HBk := Lib.hid hblk
  clear hblk
  have HRs := Lib.hid thr.row
  have hsz := hy.size
  by_cases hlt : k < m
  · have hkl : k < L.length := by rw [← HM.out]; exact hlt
    obtain ⟨b, off, hA2, hb, c0, c1, c2⟩ := HRs.out.Spot (k := k) hkl
    subst hA2
    obtain ⟨i1, i2, i3⟩ := HLI.out k hkl
    have Hk := Lib.hid (spotTs_succ (l := L) (k := k) hkl)
    obtain ⟨h, hh⟩ : ∃ h, L[k]'hkl = h := ⟨_, rfl⟩
    rw [hh] at c0 c1 c2 i1 i2 i3 Hk
    clear hh
    have hlt2 : (k : Int) < (m : Int) := by omega
    have hy1 := hy.alloc (.cells #[.int .i64 h.X, .int .i64 h.Y, .int .i64 h.D] 40)
    go_wp2_with fail
    refine (specFormatSpot_any h.X h.Y h.D _ i1 i2 i3).mono ?_
    rintro e w5 ⟨rfl, hx5⟩
    replace hown := own_ext (hown.alloc (.cells #[.int .i64 h.X, .int .i64 h.Y, .int .i64 h.D] 40)) hx5
    replace thr := (thr.ext ((Ext.refl wr).alloc (.cells #[.int .i64 h.X, .int .i64 h.Y, .int .i64 h.D] 40))).ext hx5
    have hy5 := hy1.trans hx5
    have hsz5 := hy5.size
    have hx5s := hx5.size
    simp only [World.size_alloc] at hx5s
    change Hid ((spotTs L).take (k + 1) = (spotTs L).take k ++ [spotT ⟨h.X, h.Y, h.D⟩]) at Hk
    obtain ⟨t, htt⟩ : ∃ t, spotT ⟨h.X, h.Y, h.D⟩ = t := ⟨_, rfl⟩
    rw [htt] at Hk ⊢
    clear htt
    go_wp2_with (at_builtin; go_must (refine wpList_append_own_at _ rfl _ _ 45 rfl w7.heap.size 9 i0 (.string ByteArray.empty) 1 16 Tryz.underlying45 hi0 hz0 hz1 hz2 rfl (by decide) _ _ _ rfl (hown.alloc _) ⟨w5.heap.size, 0, none⟩ 1 1 [.string (txt t)] rfl rfl (cell_one_new _ _ _) (by simp [Value.oneCell']) (by unfold maxLen; omega) (by omega) (by simp; omega) ?_); intro v' w6 hown' hgrow _ hat)
    have hy6 : Ext w7 w6 := (hy5.alloc _).grown hgrow (fun g hg => (hown.lt g hg).1)
    go_roundw
    case rel => exact ⟨k + 1, by omega, by go_num, hy6, by have := hgrow.size; simp at this; omega, (thr.ext ((Ext.refl _).alloc _)).grown hgrow HBk.out, (by intro g hg; rcases hat with h | h <;> rw [h] at hg; exact HBk.out g hg; (injection hg with hg; subst hg; simp; omega)), by rw [Hk.out, strs_append]; exact hown'⟩
    case measure => simp [intOf]; omega
  · obtain rfl : k = m := by omega
    obtain ⟨A', c', rfl⟩ := own_form hown
    have hrow := Row.of_own hown
    have Hlen : Hid (((spotTs L).take k).length = k) := by unfold Hid; rw [List.length_take, spotTs_len, ← HM.out]; omega
    have HE : Hid (Lib.join ((spotTs L).take k) [32] = cornerT hs) := by unfold Hid; rw [HQ.out.1, List.take_of_length_le (by rw [spotTs_len, ← HM.out]; exact Nat.le_refl _)]
    have Hlb := Lib.hid (spotTs_bd HQ.out.2 k)
    go_wp2_with fail
    refine (specJoin_any _ _ _ ((spotTs L).take k) _ _ Hlen.out hrow (by omega) Hlb.out).mono ?_
    rintro e w5 ⟨rfl, hx5⟩
    go_wp2
    go_ret
    exact ⟨ret_txt (by rw [← HE.out]), (hx.trans hy).trans hx5⟩
end Go.Proofs.YtigkgnplgehmhaaGreatDoor
