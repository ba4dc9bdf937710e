/- Contracts of FormatRoom of the program and of the reference. (written by tools/mkRm.py) -/
import Derived.Test.YtlgkfjhbimffiaaGreatDoorRo
import Derived.Test.YtlgkfjhbimffiaaGreatDoorMn
import Derived.Test.YtlgkfjhbimffiaaGreatDoorJ
import Derived.StillTailTactics
import Derived.Deep.AppendLies
namespace Go.Proofs.YtlgkfjhbimffiaaGreatDoor
open Go.ChangeShapes Go.WideShapes Go.ChangeAt Go.RowKit
set_option linter.unusedVariables false
set_option maxRecDepth 100000

def numsR (r : Room) : List Int := r.Map ++ [r.Div, r.Bx, r.By, r.Low, r.High]
def roomT (r : Room) : List UInt8 := if roomOk r = true then joinT (numsR r) ++ [124] ++ regionT r.Noise ++ [124] ++ regionT r.Limits else []
theorem roomOk_map {r : Room} (h : roomOk r = true) : ∃ a b c d, r.Map = [a, b, c, d] := by
  unfold roomOk at h
  simp only [Bool.and_eq_true] at h
  obtain ⟨a, b, c, d, hM, _⟩ := isMapB_4 h.1.1.1.1.1.1
  exact ⟨a, b, c, d, hM⟩
theorem numsR_I {r : Room} (hI : roomFI r) : ∀ z ∈ numsR r, I64 z := by
  intro z hz
  unfold numsR at hz
  rcases List.mem_append.1 hz with h | h
  · exact hI.1 z h
  · simp only [List.mem_cons, List.not_mem_nil, or_false] at h
    rcases h with rfl | rfl | rfl | rfl | rfl
    · exact hI.2.1
    · exact hI.2.2.1
    · exact hI.2.2.2.1
    · exact hI.2.2.2.2.1
    · exact hI.2.2.2.2.2.1
theorem roomT_parts {r : Room} (h : roomOk r = true) : txt (joinT (numsR r)) ++ ⟨#[124]⟩ ++ txt (regionT r.Noise) ++ ⟨#[124]⟩ ++ txt (regionT r.Limits) = txt (roomT r) := by
  have e : (⟨#[124]⟩ : ByteArray) = txt [124] := rfl
  unfold roomT
  rw [if_pos h, e, txt_append, txt_append, txt_append, txt_append]

set_option maxHeartbeats 4000000 in
theorem implFormatRoom_any (r : Room) (A0 A6 A7 : Option Addr) (c0 c6 c7 : Nat) (w : World) (ha : RoomAt w r A0 A6 A7) (hI : roomFI r) (hl : RoomL r) (ht : Tab w) :
    Calls Tryz.prog 15 #[.agg #[.slice A0 r.Map.length c0, .int .i64 r.Div, .int .i64 r.Bx, .int .i64 r.By, .int .i64 r.Low, .int .i64 r.High, .slice A6 r.Noise.length c6, .slice A7 r.Limits.length c7]] w fun e w' => e = .returned (.string (txt (roomT r))) ∧ Ext w w' := by
  have hx : Ext w (w.alloc (.cells #[.slice A0 r.Map.length c0, .int .i64 r.Div, .int .i64 r.Bx, .int .i64 r.By, .int .i64 r.Low, .int .i64 r.High, .slice A6 r.Noise.length c6, .slice A7 r.Limits.length c7] 39)) := (Ext.refl w).alloc _
  have bR := Blk.new w 39 #[.slice A0 r.Map.length c0, .int .i64 r.Div, .int .i64 r.Bx, .int .i64 r.By, .int .i64 r.Low, .int .i64 r.High, .slice A6 r.Noise.length c6, .slice A7 r.Limits.length c7]
  have HA := Lib.hid ha
  have HI := Lib.hid hI
  have HL := Lib.hid hl
  have HT0 := Lib.hid ht
  have HO := Lib.hid (fun w ha => implRoomOk_any r A0 A6 A7 c0 c6 c7 w ha hI hl)
  have H6 := Lib.hid (fun w h ht => implFormatRegion_any A6 r.Noise.length c6 r.Noise w rfl h hI.2.2.2.2.2.2.1 hl.p ht)
  have H7 := Lib.hid (fun w h ht => implFormatRegion_any A7 r.Limits.length c7 r.Limits w rfl h hI.2.2.2.2.2.2.2 hl.q ht)
  clear ha hI hl ht
  by_cases hok : roomOk r = true
  rotate_left
  · have hok' : roomOk r = false := by simpa using hok
    have HQ : Hid (roomT r = []) := if_neg hok
    clear hok
    have cR := fun o => bR.cell o
    go_enter Tryz.func15, Tryz.ntmps15
    go_wp2_with fail
    refine (HO.out _ (HA.out.ext hx)).mono ?_
    rintro e w1 ⟨rfl, hx1⟩
    replace hx := hx.trans hx1
    replace bR := bR.ext hx1
    have cbR_1 := fun o => bR.cell o
    rw [hok']
    clear hok'
    go_wp2
    go_ret
    exact ⟨ret_txt (by rw [HQ.out]; rfl), hx⟩
  obtain ⟨a, b, c', d, hM⟩ := roomOk_map hok
  have H := Lib.hid (roomT_parts hok)
  have HOk := Lib.hid hok
  clear hok
  have hjl : (joinT (numsR r)).length ≤ 1000 := by
    have h1 := joinT_len (xs := numsR r) (fun i hi => numsR_I HI.out _ (List.getElem_mem hi))
    have h2 : (numsR r).length = 9 := by unfold numsR; rw [hM]; rfl
    omega
  have s1 : (txt (joinT (numsR r))).size ≤ 1000 := by rw [txt_size]; exact hjl
  have s2 : (txt (regionT r.Noise)).size ≤ 7840 := by rw [txt_size]; exact regionT_len _
  have s3 : (txt (regionT r.Limits)).size ≤ 7840 := by rw [txt_size]; exact regionT_len _
  have sp : (⟨#[124]⟩ : ByteArray).size = 1 := rfl
  obtain ⟨tj, hj⟩ : ∃ t, txt (joinT (numsR r)) = t := ⟨_, rfl⟩
  obtain ⟨tn, hn⟩ : ∃ t, txt (regionT r.Noise) = t := ⟨_, rfl⟩
  obtain ⟨tl, hl⟩ : ∃ t, txt (regionT r.Limits) = t := ⟨_, rfl⟩
  have HJ := Lib.hid hj
  rw [hj] at s1 H
  rw [hn] at s2 H H6
  rw [hl] at s3 H H7
  clear hj hn hl hjl
  obtain ⟨t1, ht1⟩ : ∃ t, tj ++ ⟨#[124]⟩ = t := ⟨_, rfl⟩
  have z1 : t1.size ≤ 1001 := by rw [← ht1, ByteArray.size_append]; omega
  have a1 := add_txt (a := tj) (b := ⟨#[124]⟩) (c := t1) ht1 (by omega)
  rw [ht1] at H
  obtain ⟨t2, ht2⟩ : ∃ t, t1 ++ tn = t := ⟨_, rfl⟩
  have z2 : t2.size ≤ 8841 := by rw [← ht2, ByteArray.size_append]; omega
  have a2 := add_txt (a := t1) (b := tn) (c := t2) ht2 (by omega)
  rw [ht2] at H
  obtain ⟨t3, ht3⟩ : ∃ t, t2 ++ ⟨#[124]⟩ = t := ⟨_, rfl⟩
  have z3 : t3.size ≤ 8842 := by rw [← ht3, ByteArray.size_append]; omega
  have a3 := add_txt (a := t2) (b := ⟨#[124]⟩) (c := t3) ht3 (by omega)
  rw [ht3] at H
  have a4 := add_txt (a := t3) (b := tl) (c := txt (roomT r)) H.out (by omega)
  clear ht1 ht2 ht3 H sp
  have HM := Lib.hid hM
  clear hM
  have cR := fun o => bR.cell o
  go_enter Tryz.func15, Tryz.ntmps15
  go_wp2_with fail
  refine (HO.out _ (HA.out.ext hx)).mono ?_
  rintro e w1 ⟨rfl, hx1⟩
  replace hx := hx.trans hx1
  replace bR := bR.ext hx1
  have cbR_2 := fun o => bR.cell o
  rw [HOk.out]
  have hr0 := (HA.out.ext hx).m
  rw [HM.out] at hr0
  obtain ⟨g, off, hA0, hg, hcell⟩ := hr0.at_ (ints_ne (k := 0) (by simp))
  subst hA0
  have k0 := hcell 0 (.int .i64 a) rfl
  have k1 := hcell 1 (.int .i64 b) rfl
  have k2 := hcell 2 (.int .i64 c') rfl
  have k3 := hcell 3 (.int .i64 d) rfl
  rw [Nat.add_zero] at k0
  have h4 : r.Map.length = 4 := by rw [HM.out]; rfl
  have h40 : (0 : Int) < (r.Map.length : Int) := by omega
  have h41 : (1 : Int) < (r.Map.length : Int) := by omega
  have h42 : (2 : Int) < (r.Map.length : Int) := by omega
  have h43 : (3 : Int) < (r.Map.length : Int) := by omega
  have h50 : 0 < r.Map.length := by omega
  have h51 : 1 < r.Map.length := by omega
  have h52 : 2 < r.Map.length := by omega
  have h53 : 3 < r.Map.length := by omega
  clear hcell hr0 h4
  have hNl : (numsR r).length = 9 := by unfold numsR; rw [HM.out]; rfl
  have hx1d := hx.drew
  have hrow : Row (w1.drew.alloc (.cells #[.int .i64 a, .int .i64 b, .int .i64 c', .int .i64 d, .int .i64 r.Div, .int .i64 r.Bx, .int .i64 r.By, .int .i64 r.Low, .int .i64 r.High] 3)) (some ⟨w1.heap.size, 0, none⟩) (ints (numsR r)) := by
    have bN := Blk.new w1.drew 3 #[.int .i64 a, .int .i64 b, .int .i64 c', .int .i64 d, .int .i64 r.Div, .int .i64 r.Bx, .int .i64 r.By, .int .i64 r.Low, .int .i64 r.High]
    refine .inr ⟨w1.heap.size, 0, rfl, fun j v hj => ?_⟩
    have := bN.cell j
    rw [Nat.zero_add]
    refine Eq.trans this ?_
    unfold numsR at hj
    rw [HM.out] at hj
    simpa [ints] using hj
  have hU := (Ext.refl w1).drew.alloc (.cells #[.int .i64 a, .int .i64 b, .int .i64 c', .int .i64 d, .int .i64 r.Div, .int .i64 r.Bx, .int .i64 r.By, .int .i64 r.Low, .int .i64 r.High] 3)
  have HTU := HT0.out.ext (hx.trans hU)
  have HJI := Lib.hid (joinInts_any _ 9 9 (numsR r) _ hNl hrow (by omega) (fun i hi => numsR_I HI.out _ (List.getElem_mem hi)) HTU)
  rw [HJ.out] at HJI
  clear hrow HTU hNl hx1d
  have cR1 := fun o => bR.cell o
  go_wp2_with fail
  go_region_held3 (fun w' => w'.cell? ⟨w.heap.size, 0, none⟩ = some (.slice (some ⟨g, off, none⟩) r.Map.length c0) ∧ w'.cell? ⟨w.heap.size, 1, none⟩ = some (.int .i64 r.Div) ∧ w'.cell? ⟨w.heap.size, 2, none⟩ = some (.int .i64 r.Bx) ∧ w'.cell? ⟨w.heap.size, 3, none⟩ = some (.int .i64 r.By) ∧ w'.cell? ⟨w.heap.size, 4, none⟩ = some (.int .i64 r.Low) ∧ w'.cell? ⟨w.heap.size, 5, none⟩ = some (.int .i64 r.High) ∧ w'.cell? ⟨g, off, none⟩ = some (.int .i64 a) ∧ w'.cell? ⟨g, off + 1, none⟩ = some (.int .i64 b) ∧ w'.cell? ⟨g, off + 2, none⟩ = some (.int .i64 c') ∧ w'.cell? ⟨g, off + 3, none⟩ = some (.int .i64 d))
    (go_keep)
    ((go_at_call 43; refine HJI.out.mono ?_; rintro e w3 ⟨rfl, hx3⟩; have hx9 := hU.trans hx3; have d0 := hx9.cellOf k0; have d1 := hx9.cellOf k1; have d2 := hx9.cellOf k2; have d3 := hx9.cellOf k3; have c93 := fun o => (bR.ext hx9).cell o))
  clear d0 d1 d2 d3 c93 k0 k1 k2 k3 h40 h41 h42 h43 h50 h51 h52 h53 cR1
  replace bR := bR.ext hx9
  replace hx := hx.trans hx9
  have cW := fun (p : After w3) o => (bR.ext p.h).cell o
  go_wp2_with fail
  refine wp_region_after (by kernel_rfl) (by kernel_rfl) ?_
  repeat (go_big_quiet_step ((go_at_call 44; first | (with_reducible exact Calls.after_of (H6.out _ (HA.out.ext (hx.trans (After.h _))).p (HT0.out.ext (hx.trans (After.h _))))) | (with_reducible exact Calls.after_of (H7.out _ (HA.out.ext (hx.trans (After.h _))).q (HT0.out.ext (hx.trans (After.h _))))))))
  refine wpQuiet_nil ?_
  rintro _ ⟨⟨V, hV⟩, rfl⟩
  go_wp2
  go_ret
  exact ⟨rfl, hx.trans hV⟩
set_option maxHeartbeats 8000000 in
theorem specFormatRoom_any (r : Room) (A0 A6 A7 : Option Addr) (c0 c6 c7 : Nat) (w : World) (ha : RoomAt w r A0 A6 A7) (hN6 : A6 = none → r.Noise.length = 0 ∧ c6 = 0) (hN7 : A7 = none → r.Limits.length = 0 ∧ c7 = 0) (hI : roomFI r) (hl : RoomL r) :
    Calls Tryz.prog 13 #[.agg #[.slice A0 r.Map.length c0, .int .i64 r.Div, .int .i64 r.Bx, .int .i64 r.By, .int .i64 r.Low, .int .i64 r.High, .slice A6 r.Noise.length c6, .slice A7 r.Limits.length c7]] w fun e w' => e = .returned (.string (txt (roomT r))) ∧ Ext w w' := by
  have hx : Ext w (w.alloc (.cells #[.slice A0 r.Map.length c0, .int .i64 r.Div, .int .i64 r.Bx, .int .i64 r.By, .int .i64 r.Low, .int .i64 r.High, .slice A6 r.Noise.length c6, .slice A7 r.Limits.length c7] 39)) := (Ext.refl w).alloc _
  have bR := Blk.new w 39 #[.slice A0 r.Map.length c0, .int .i64 r.Div, .int .i64 r.Bx, .int .i64 r.By, .int .i64 r.Low, .int .i64 r.High, .slice A6 r.Noise.length c6, .slice A7 r.Limits.length c7]
  have HA := Lib.hid ha
  have HI := Lib.hid hI
  have HL := Lib.hid hl
  obtain ⟨i0, hi0, hz0, hz1, hz2⟩ := info_parts int_info
  obtain ⟨s0, si0, sz0, sz1, sz2⟩ := info_parts str_info
  have HO := Lib.hid (fun w ha => specRoomOk_any r A0 A6 A7 c0 c6 c7 w ha hN6 hN7 hI hl)
  have H6 := Lib.hid (fun w h => specFormatRegion_any A6 r.Noise.length c6 r.Noise w rfl h hN6 hI.2.2.2.2.2.2.1 hl.p)
  have H7 := Lib.hid (fun w h => specFormatRegion_any A7 r.Limits.length c7 r.Limits w rfl h hN7 hI.2.2.2.2.2.2.2 hl.q)
  clear ha hI hl hN6 hN7
  by_cases hok : roomOk r = true
  rotate_left
  · have hok' : roomOk r = false := by simpa using hok
    have HQ : Hid (roomT r = []) := if_neg hok
    clear hok
    have cR := fun o => bR.cell o
    go_enter Tryz.func13, Tryz.ntmps13
    go_wp2_with fail
    refine (HO.out _ (HA.out.ext hx)).mono ?_
    rintro e w1 ⟨rfl, hx1⟩
    replace hx := hx.trans hx1
    replace bR := bR.ext hx1
    have cbR_3 := fun o => bR.cell o
    rw [hok']
    clear hok'
    go_wp2
    go_ret
    exact ⟨ret_txt (by rw [HQ.out]; rfl), hx⟩
  obtain ⟨a, b, c', d, hM⟩ := roomOk_map hok
  have H := Lib.hid (roomT_parts hok)
  have HOk := Lib.hid hok
  clear hok
  have hjl : (joinT (numsR r)).length ≤ 1000 := by
    have h1 := joinT_len (xs := numsR r) (fun i hi => numsR_I HI.out _ (List.getElem_mem hi))
    have h2 : (numsR r).length = 9 := by unfold numsR; rw [hM]; rfl
    omega
  have s1 : (txt (joinT (numsR r))).size ≤ 1000 := by rw [txt_size]; exact hjl
  have s2 : (txt (regionT r.Noise)).size ≤ 7840 := by rw [txt_size]; exact regionT_len _
  have s3 : (txt (regionT r.Limits)).size ≤ 7840 := by rw [txt_size]; exact regionT_len _
  have sp : (⟨#[124]⟩ : ByteArray).size = 1 := rfl
  obtain ⟨tj, hj⟩ : ∃ t, txt (joinT (numsR r)) = t := ⟨_, rfl⟩
  obtain ⟨tn, hn⟩ : ∃ t, txt (regionT r.Noise) = t := ⟨_, rfl⟩
  obtain ⟨tl, hl⟩ : ∃ t, txt (regionT r.Limits) = t := ⟨_, rfl⟩
  have HJ := Lib.hid hj
  rw [hj] at s1 H
  rw [hn] at s2 H H6
  rw [hl] at s3 H H7
  clear hj hn hl hjl
  obtain ⟨t1, ht1⟩ : ∃ t, tj ++ ⟨#[124]⟩ = t := ⟨_, rfl⟩
  have z1 : t1.size ≤ 1001 := by rw [← ht1, ByteArray.size_append]; omega
  have a1 := add_txt (a := tj) (b := ⟨#[124]⟩) (c := t1) ht1 (by omega)
  rw [ht1] at H
  obtain ⟨t2, ht2⟩ : ∃ t, t1 ++ tn = t := ⟨_, rfl⟩
  have z2 : t2.size ≤ 8841 := by rw [← ht2, ByteArray.size_append]; omega
  have a2 := add_txt (a := t1) (b := tn) (c := t2) ht2 (by omega)
  rw [ht2] at H
  obtain ⟨t3, ht3⟩ : ∃ t, t2 ++ ⟨#[124]⟩ = t := ⟨_, rfl⟩
  have z3 : t3.size ≤ 8842 := by rw [← ht3, ByteArray.size_append]; omega
  have a3 := add_txt (a := t2) (b := ⟨#[124]⟩) (c := t3) ht3 (by omega)
  rw [ht3] at H
  have a4 := add_txt (a := t3) (b := tl) (c := txt (roomT r)) H.out (by omega)
  clear ht1 ht2 ht3 H sp
  have HM := Lib.hid hM
  clear hM
  have cR := fun o => bR.cell o
  go_enter Tryz.func13, Tryz.ntmps13
  go_wp2_with fail
  refine (HO.out _ (HA.out.ext hx)).mono ?_
  rintro e w1 ⟨rfl, hx1⟩
  replace hx := hx.trans hx1
  replace bR := bR.ext hx1
  have cbR_4 := fun o => bR.cell o
  rw [HOk.out]
  have h4' : Hid (r.Map.length = 4) := by rw [Hid, HM.out]; rfl
  have h4 : r.Map.length ≤ 4 ∧ 4 ≤ r.Map.length := by rw [h4'.out]; omega
  have hlit : (w1.alloc (.cells #[] 9)).ownsRow w1.heap.size 9 1 (.slice (some ⟨w1.heap.size, 0, none⟩) 0 0) 0 (strs []) := World.ownsRow_lit w1 #[] 0 (Nat.le_refl _) (by unfold maxLen; omega) rfl
  have bR1 := bR
  have hx10 := hx
  have hV1 : w1.heap.size < (w1.alloc (.cells #[] 9)).heap.size := by simp
  have hVs : (w1.alloc (.cells #[] 9)).heap.size = w1.heap.size + 1 := by simp
  have hxV := (Ext.refl w1).alloc (.cells #[] 9)
  replace hx := hx.trans hxV
  replace bR := bR.ext hxV
  go_wp2_with fail
  obtain ⟨V, hV⟩ : ∃ V, w1.alloc (.cells #[] 9) = V := ⟨_, rfl⟩
  rw [hV] at hlit hV1 hVs hx bR hxV
  have hr0 := (HA.out.ext hx).m
  obtain ⟨g, off, hA0, hg, hcell⟩ := hr0.at_ (ints_ne (k := 0) (by omega))
  subst hA0
  have hmap := hr0.src
  have cV := fun o => bR.cell o
  have hrb := hx.size
  have hbl := bR.lt
  try simp only [World.size_alloc] at hbl
  have hwl : w.heap.size < w1.heap.size := by have := hx1.size; simp at this; omega
  try rw [hV]
  have L1 : (V.alloc (.cells #[] 3)).ownsRow V.heap.size 3 1 (.slice (some ⟨V.heap.size, 0, none⟩) 0 0) 0 [] := World.ownsRow_lit V #[] 0 (Nat.le_refl _) (by unfold maxLen; omega) rfl
  have L2 := L1.alloc (.cells #[.int .i64 r.Div, .int .i64 r.Bx, .int .i64 r.By, .int .i64 r.Low, .int .i64 r.High] 3)
  have L3 : ((V.alloc (.cells #[.int .i64 r.Div, .int .i64 r.Bx, .int .i64 r.By, .int .i64 r.Low, .int .i64 r.High] 3)).alloc (.cells #[] 3)).ownsRow V.heap.size 3 1 (.slice (some ⟨V.heap.size + 1, 0, none⟩) 0 0) 0 [] := by simpa using World.ownsRow_lit (base := V.heap.size) (e := 3) (size := 1) (V.alloc (.cells #[.int .i64 r.Div, .int .i64 r.Bx, .int .i64 r.By, .int .i64 r.Low, .int .i64 r.High] 3)) #[] 0 (by simp) (by unfold maxLen; omega) rfl
  have D1 := own_ext L1 (Ext.refl _).drew
  have D2 := own_ext L2 (Ext.refl _).drew
  have D3 := own_ext L3 (Ext.refl _).drew
  have X1 := (Ext.refl V).alloc (.cells #[] 3)
  have X2 := X1.alloc (.cells #[.int .i64 r.Div, .int .i64 r.Bx, .int .i64 r.By, .int .i64 r.Low, .int .i64 r.High] 3)
  have X3 := ((Ext.refl V).alloc (.cells #[.int .i64 r.Div, .int .i64 r.Bx, .int .i64 r.By, .int .i64 r.Low, .int .i64 r.High] 3)).alloc (.cells #[] 3)
  have Y1 := X1.drew
  have Y2 := X2.drew
  have Y3 := X3.drew
  have B2 : Blk ((V.alloc (.cells #[] 3)).alloc (.cells #[.int .i64 r.Div, .int .i64 r.Bx, .int .i64 r.By, .int .i64 r.Low, .int .i64 r.High] 3)) (V.heap.size + 1) 3 #[.int .i64 r.Div, .int .i64 r.Bx, .int .i64 r.By, .int .i64 r.Low, .int .i64 r.High] := by simpa using Blk.new (V.alloc (.cells #[] 3)) 3 #[.int .i64 r.Div, .int .i64 r.Bx, .int .i64 r.By, .int .i64 r.Low, .int .i64 r.High]
  have B3 : Blk ((V.alloc (.cells #[.int .i64 r.Div, .int .i64 r.Bx, .int .i64 r.By, .int .i64 r.Low, .int .i64 r.High] 3)).alloc (.cells #[] 3)) V.heap.size 3 #[.int .i64 r.Div, .int .i64 r.Bx, .int .i64 r.By, .int .i64 r.Low, .int .i64 r.High] := (Blk.new V 3 #[.int .i64 r.Div, .int .i64 r.Bx, .int .i64 r.By, .int .i64 r.Low, .int .i64 r.High]).alloc _
  have E2 := B2.ext (Ext.refl _).drew
  have E3 := B3.ext (Ext.refl _).drew
  have hm1 : ∀ cw, Ext V cw → ∀ j u, (ints r.Map)[j]? = some u → cw.cell? ((⟨g, off, none⟩ : Addr).add j) = some u := fun cw h j u hj => h.cellOf (hmap j u hj)
  have HM1 := Lib.hid hm1
  have HL1 := Lib.hid L1
  have HL2 := Lib.hid L2
  have HL3 := Lib.hid L3
  have HD1 := Lib.hid D1
  have HD2 := Lib.hid D2
  have HD3 := Lib.hid D3
  clear hm1 hmap hcell hr0 L1 L2 L3 D1 D2 D3
  have HVs := Lib.hid hVs
  clear hVs
  go_region_held3 (fun w' => w'.cell? ⟨w.heap.size, 0, none⟩ = some (.slice (some ⟨g, off, none⟩) r.Map.length c0) ∧ w'.cell? ⟨w.heap.size, 1, none⟩ = some (.int .i64 r.Div) ∧ w'.cell? ⟨w.heap.size, 2, none⟩ = some (.int .i64 r.Bx) ∧ w'.cell? ⟨w.heap.size, 3, none⟩ = some (.int .i64 r.By) ∧ w'.cell? ⟨w.heap.size, 4, none⟩ = some (.int .i64 r.Low) ∧ w'.cell? ⟨w.heap.size, 5, none⟩ = some (.int .i64 r.High))
    (go_keep)
    (first
      | (refine step_append_lies _ (by rfl) (.tmp 10) (.tmp 12) 33 (by rfl) V.heap.size 3 i0 (.int .i64 0) 1 8 Tryz.underlying33 hi0 hz0 hz1 hz2 rfl (by omega) (.slice (some ⟨V.heap.size, 0, none⟩) 0 0) 0 [] (by rfl) (by first | exact HL1.out | exact HD1.out) ⟨g, off, none⟩ r.Map.length c0 (ints r.Map) (by rfl) (by rw [ints_length, Nat.mul_one]) (HM1.out _ (by first | exact X1 | exact Y1)) (oneCell_ints _) (by omega) (by unfold maxLen; omega) (by omega) (by first | exact X1.size | exact Y1.size) _ rfl ?_; intro gg1 cap1 wz1 hown1 hgrow1 hat1 hlt1; simp only [Nat.zero_add, List.nil_append] at hown1; have hcur1 : Ext V wz1 := Ext.grown (by first | exact X1 | exact Y1) hgrow1 (fun k hk => by simp [Value.ownBlock] at hk; omega); have hsz1 := hcur1.size; have c91 := fun o => (bR.ext hcur1).cell o)
      | (refine step_append_lies _ (by rfl) (.tmp 10) (.tmp 12) 33 (by rfl) V.heap.size 3 i0 (.int .i64 0) 1 8 Tryz.underlying33 hi0 hz0 hz1 hz2 rfl (by omega) (.slice (some ⟨V.heap.size, 0, none⟩) 0 0) 0 [] (by rfl) (by first | exact HL2.out | exact HD2.out) ⟨g, off, none⟩ r.Map.length c0 (ints r.Map) (by rfl) (by rw [ints_length, Nat.mul_one]) (HM1.out _ (by first | exact X2 | exact Y2)) (oneCell_ints _) (by omega) (by unfold maxLen; omega) (by omega) (by first | exact X2.size | exact Y2.size) _ rfl ?_; intro gg1 cap1 wz1 hown1 hgrow1 hat1 hlt1; have hB : Blk wz1 (V.heap.size + 1) 3 #[.int .i64 r.Div, .int .i64 r.Bx, .int .i64 r.By, .int .i64 r.Low, .int .i64 r.High] := (hgrow1.block (V.heap.size + 1) (by first | exact B2.lt | exact E2.lt) (by intro hk; simp [Value.ownBlock] at hk <;> omega)).trans (by first | exact B2 | exact E2); have hcur1 : Ext V wz1 := Ext.grown (by first | exact X2 | exact Y2) hgrow1 (fun k hk => by simp [Value.ownBlock] at hk; omega); have hsz1 := hcur1.size; have c91 := fun o => (bR.ext hcur1).cell o)
      | (refine step_append_lies _ (by rfl) (.tmp 10) (.tmp 12) 33 (by rfl) V.heap.size 3 i0 (.int .i64 0) 1 8 Tryz.underlying33 hi0 hz0 hz1 hz2 rfl (by omega) (.slice (some ⟨V.heap.size + 1, 0, none⟩) 0 0) 0 [] (by rfl) (by first | exact HL3.out | exact HD3.out) ⟨g, off, none⟩ r.Map.length c0 (ints r.Map) (by rfl) (by rw [ints_length, Nat.mul_one]) (HM1.out _ (by first | exact X3 | exact Y3)) (oneCell_ints _) (by omega) (by unfold maxLen; omega) (by omega) (by first | exact X3.size | exact Y3.size) _ rfl ?_; intro gg1 cap1 wz1 hown1 hgrow1 hat1 hlt1; have hB : Blk wz1 V.heap.size 3 #[.int .i64 r.Div, .int .i64 r.Bx, .int .i64 r.By, .int .i64 r.Low, .int .i64 r.High] := (hgrow1.block V.heap.size (by first | exact B3.lt | exact E3.lt) (by intro hk; simp [Value.ownBlock] at hk <;> omega)).trans (by first | exact B3 | exact E3); have hcur1 : Ext V wz1 := Ext.grown (by first | exact X3 | exact Y3) hgrow1 (fun k hk => by simp [Value.ownBlock] at hk; omega); have hsz1 := hcur1.size; have c91 := fun o => (bR.ext hcur1).cell o)
      | (refine step_append_lies _ (by rfl) (.tmp 13) (.tmp 24) 33 (by rfl) V.heap.size 3 i0 (.int .i64 0) 1 8 Tryz.underlying33 hi0 hz0 hz1 hz2 rfl (by omega) (.slice (some ⟨gg1, 0, none⟩) (0 + r.Map.length) cap1) (0 + r.Map.length) ([] ++ ints r.Map) (by rfl) (by exact hown1) ⟨_, 0, none⟩ 5 5 (#[.int .i64 r.Div, .int .i64 r.Bx, .int .i64 r.By, .int .i64 r.Low, .int .i64 r.High]).toList (by rfl) rfl (World.news_of_block (cs := #[.int .i64 r.Div, .int .i64 r.Bx, .int .i64 r.By, .int .i64 r.Low, .int .i64 r.High]) (t := 3) (fr := (0, 0)) hB) (by simp [Value.oneCell']) (by omega) (by unfold maxLen; omega) (by omega) (by omega) _ rfl ?_; intro gg2 cap2 wz2 hown2 hgrow2 hat2 hlt2; have hcur2 : Ext V wz2 := Ext.grown hcur1 hgrow2 (fun k hk => by have := (hown1.lt _ hk).1; omega); have c92 := fun o => (bR.ext hcur2).cell o)
      | (refine step_append_lies _ (by rfl) (.tmp 13) (.tmp 24) 33 (by rfl) V.heap.size 3 i0 (.int .i64 0) 1 8 Tryz.underlying33 hi0 hz0 hz1 hz2 rfl (by omega) (.slice (some ⟨gg1, 0, none⟩) r.Map.length cap1) r.Map.length (ints r.Map) (by rfl) (hown1.alloc _) ⟨wz1.heap.size, 0, none⟩ 5 5 (#[.int .i64 r.Div, .int .i64 r.Bx, .int .i64 r.By, .int .i64 r.Low, .int .i64 r.High]).toList (by rfl) rfl (World.news_of_block (cs := #[.int .i64 r.Div, .int .i64 r.Bx, .int .i64 r.By, .int .i64 r.Low, .int .i64 r.High]) (t := 3) (fr := (0, 0)) (Blk.new wz1 3 #[.int .i64 r.Div, .int .i64 r.Bx, .int .i64 r.By, .int .i64 r.Low, .int .i64 r.High])) (by simp [Value.oneCell']) (by omega) (by unfold maxLen; omega) (by omega) (by simp; omega) _ rfl ?_; intro gg2 cap2 wz2 hown2 hgrow2 hat2 hlt2; have hcur2 : Ext V wz2 := Ext.grown (hcur1.alloc _) hgrow2 (fun k hk => by have := (hown1.lt _ hk).1; omega); have c92 := fun o => (bR.ext hcur2).cell o))
  all_goals
    clear hgrow1 hgrow2 hown1 hat1 hat2 hlt1 hlt2 hcur1 hsz1 X1 X2 X3 Y1 Y2 Y3 B2 B3 E2 E3 c91 c92
    try clear hB
    simp only [Nat.zero_add, List.nil_append] at hown2 ⊢
    obtain ⟨m, hm⟩ : ∃ m, r.Map.length + 5 = m := ⟨_, rfl⟩
    have hmI : (r.Map.length : Int) + 5 = (m : Int) := by omega
    have Hm9 : Hid (m = 9) := by unfold Hid; omega
    rw [hm] at hown2
    simp only [hm, hmI]
    have hnum : ints r.Map ++ (#[.int .i64 r.Div, .int .i64 r.Bx, .int .i64 r.By, .int .i64 r.Low, .int .i64 r.High]).toList = ints (numsR r) := by unfold numsR; rw [ints_append]; rfl
    rw [hnum] at hown2
    clear hnum hm hmI
    have HNI : Hid (∀ i (hi : i < (numsR r).length), I64 (numsR r)[i]) := fun i hi => numsR_I HI.out _ (List.getElem_mem hi)
    have HNl : Hid ((numsR r).length = m) := by unfold Hid numsR; rw [List.length_append, h4'.out, Hm9.out]; rfl
    have hm9 : m ≤ 9 := by rw [Hm9.out]; omega
    have th : Mine wz2 (w1.heap.size + 1) wz2.heap.size 3 1 (.slice (some ⟨gg2, 0, none⟩) m cap2) m (ints (numsR r)) := ⟨by rw [← HVs.out]; exact hown2, fun g hg => (hown2.lt g hg).2⟩
    have hlit2 := own_ext hlit hcur2
    have hs0 := hcur2.size
    rw [HVs.out] at hs0
    have hy0 := hxV.trans hcur2
    clear hown2 hlit hcur2 cV hbl hrb h4 hx bR hV1
    go_wp2
    go_loopw [3, 27] (fun v i wr => ∃ (k : Nat), k ≤ m ∧ i = .int .i64 k ∧ Ext w1 wr ∧ wz2.heap.size ≤ wr.heap.size ∧ Mine wr (w1.heap.size + 1) wz2.heap.size 3 1 (.slice (some ⟨gg2, 0, none⟩) m cap2) m (ints (numsR r)) ∧ (∀ g, Value.ownBlock v = some g → g < w1.heap.size + 1 ∨ wz2.heap.size ≤ g) ∧ wr.ownsRow w1.heap.size 9 1 v k (strs (numsTo (numsR r) k))) (fun _ i _ => m - (intOf i).toNat)
    case atStart => exact ⟨0, Nat.zero_le _, rfl, hy0, Nat.le_refl _, th, fun g hg => Or.inl (by simp [Value.ownBlock] at hg; omega), hlit2⟩
    case round =>
    obtain ⟨k, hk, rfl, hy, hgt, thr, hblk, hown⟩ := hrel
    have HBk := Lib.hid hblk
    clear hblk
    have HRs := Lib.hid thr.row
    have hsz := hy.size
    by_cases hlt : k < m
    · have hkl : k < (numsR r).length := by rw [HNl.out]; exact hlt
      obtain ⟨b', off', hA2, hb, hc0⟩ := HRs.out.int (k := k) hkl
      injection hA2 with hA2
      injection hA2 with q1 q2
      subst q1 q2
      have hIk := HNI.out k hkl
      have Hk := Lib.hid (numsTo_succ (xs := numsR r) (k := k) hkl)
      obtain ⟨z, hz⟩ : ∃ z, (numsR r)[k]'hkl = z := ⟨_, rfl⟩
      rw [hz] at hc0 hIk Hk
      rw [Nat.zero_add] at hc0
      clear hz
      have hlt2 : (k : Int) < (m : Int) := by omega
      go_wp2_with fail
      refine (specFormatInt_any z _ hIk).mono ?_
      rintro e w5 ⟨rfl, hx5⟩
      replace hown := own_ext hown hx5
      replace thr := thr.ext hx5
      have hy5 := hy.trans hx5
      have hsz5 := hx5.size
      obtain ⟨t, htt⟩ : ∃ t, numT z = t := ⟨_, rfl⟩
      rw [htt] at Hk ⊢
      clear htt
      go_wp2_with (at_builtin; go_must (refine wpList_append_own_at _ rfl _ _ 52 rfl w1.heap.size 9 s0 (.string ByteArray.empty) 1 16 Tryz.underlying52 si0 sz0 sz1 sz2 rfl (by decide) _ _ _ rfl (hown.alloc _) ⟨w5.heap.size, 0, none⟩ 1 1 [.string (txt t)] rfl rfl (cell_one_new _ _ _) (by simp [Value.oneCell']) (by unfold maxLen; omega) (by omega) (by simp; omega) ?_); intro v' w6 hown' hgrow _ hat)
      have hy6 : Ext w1 w6 := (hy5.alloc _).grown hgrow (fun g hg => (hown.lt g hg).1)
      go_roundw
      case rel => exact ⟨k + 1, by omega, by go_num, hy6, by have := hgrow.size; simp at this; omega, (thr.ext ((Ext.refl _).alloc _)).grown hgrow HBk.out, (by intro g hg; rcases hat with h | h <;> rw [h] at hg; exact HBk.out g hg; (injection hg with hg; subst hg; simp; omega)), by rw [Hk.out, strs_append]; exact hown'⟩
      case measure => simp [intOf]; omega
    · obtain rfl : k = m := by omega
      obtain ⟨A', c', rfl⟩ := own_form hown
      have hrow := Row.of_own hown
      have Hlen : Hid ((numsTo (numsR r) k).length = k) := numsTo_len (by rw [HNl.out]; exact Nat.le_refl _)
      have HE : Hid (Lib.join (numsTo (numsR r) k) [32] = joinT (numsR r)) := by
        unfold Hid joinT
        have := numsTo_all (numsR r)
        rw [HNl.out] at this
        rw [this]
      have Hlb : Hid ((Lib.join (numsTo (numsR r) k) [32]).length ≤ 140737488355328) := by
        rw [Hid, HE.out]
        have h1 := joinT_len (xs := numsR r) HNI.out
        rw [HNl.out] at h1
        omega
      have HJn := Lib.hid (fun w hr => specJoin_any A' k c' (numsTo (numsR r) k) ⟨#[32]⟩ w Hlen.out hr (by omega) Hlb.out)
      change Hid (∀ w, Row w A' (strs (numsTo (numsR r) k)) → Calls Tryz.prog _ _ w fun e w' => e = .returned (.string (txt (Lib.join (numsTo (numsR r) k) [32]))) ∧ Ext w w') at HJn
      rw [HE.out, HJ.out] at HJn
      have bRk := bR1.ext hy
      have hxk := hx10.trans hy
      have cW := fun (p : After wr) o => (bRk.ext p.h).cell o
      go_wp2_with fail
      refine wp_region_after (by kernel_rfl) (by kernel_rfl) ?_
      repeat (go_big_quiet_step ((first
        | (go_at_call 30; exact Calls.after_of (HJn.out _ (hrow.ext (After.h _))))
        | (go_at_call 40; first | (with_reducible exact Calls.after_of (H6.out _ (HA.out.ext (hxk.trans (After.h _))).p)) | (with_reducible exact Calls.after_of (H7.out _ (HA.out.ext (hxk.trans (After.h _))).q))))))
      refine wpQuiet_nil ?_
      rintro _ ⟨⟨V9, hV9⟩, rfl⟩
      go_wp2
      go_ret
      exact ⟨rfl, hxk.trans hV9⟩
theorem AggAt.room {w : World} {lo hi c0 c6 c7 : Nat} {r : Room} {A0 A6 A7 : Option Addr} (h : AggAt w (roomF r) [.slice A0 r.Map.length c0, .int .i64 r.Div, .int .i64 r.Bx, .int .i64 r.By, .int .i64 r.Low, .int .i64 r.High, .slice A6 r.Noise.length c6, .slice A7 r.Limits.length c7] lo hi) :
    RoomAt w r A0 A6 A7 ∧ (A6 = none → r.Noise.length = 0 ∧ c6 = 0) ∧ (A7 = none → r.Limits.length = 0 ∧ c7 = 0) := by
  obtain ⟨B0, d0, t0, _, hv, q0, _, t1, h1, t2, h2, t3, h3, t4, h4, t5, h5, B6, d6, t6, _, h6, q6, _, B7, d7, t7, _, h7, q7, _⟩ := h
  obtain ⟨e0, rfl⟩ := List.cons.inj hv
  injection e0 with a0 _ b0
  subst a0 b0
  obtain ⟨_, rfl⟩ := List.cons.inj h1
  obtain ⟨_, rfl⟩ := List.cons.inj h2
  obtain ⟨_, rfl⟩ := List.cons.inj h3
  obtain ⟨_, rfl⟩ := List.cons.inj h4
  obtain ⟨_, rfl⟩ := List.cons.inj h5
  obtain ⟨e6, rfl⟩ := List.cons.inj h6
  injection e6 with a6 _ b6
  subst a6 b6
  obtain ⟨e7, _⟩ := List.cons.inj h7
  injection e7 with a7 _ b7
  subst a7 b7
  exact ⟨⟨q0.row, q6.row, q7.row⟩, q6.none, q7.none⟩
end Go.Proofs.YtlgkfjhbimffiaaGreatDoor
