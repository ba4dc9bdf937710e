/- Contracts of FormatRoom of the program and of the reference. (written by tools/mkRm.py) -/
import Derived.Test.YtlfepobnmmkcmaaGreatDoorRo
import Derived.Test.YtlfepobnmmkcmaaGreatDoorMn
import Derived.Test.YtlfepobnmmkcmaaGreatDoorDz
import Derived.Test.YtlfepobnmmkcmaaGreatDoorTz
import Derived.StillTailTactics
import Derived.Deep.AppendLies
namespace Go.Proofs.YtlfepobnmmkcmaaGreatDoor
open Go.ChangeShapes Go.WideShapes Go.ChangeAt Go.RowKit
set_option linter.unusedVariables false
set_option maxRecDepth 100000

def numsR (r : Room) : List Int := r.Map ++ [r.Div, r.Bx, r.By, r.Low, r.High]
def roomT (r : Room) : List UInt8 := if roomOk r = true then joinT (numsR r) ++ [124] ++ regionT r.Noise ++ [124] ++ regionT r.Limits else []
theorem roomOk_map {r : Room} (h : roomOk r = true) : ∃ a b c d, r.Map = [a, b, c, d] := by
  unfold roomOk at h
  simp only [Bool.and_eq_true] at h
  obtain ⟨a, b, c, d, hM, _⟩ := isMapB_4 h.1.1.1.1.1.1
  exact ⟨a, b, c, d, hM⟩
theorem numsR_I {r : Room} (hI : roomFI r) : ∀ z ∈ numsR r, I64 z := by
  intro z hz
  unfold numsR at hz
  rcases List.mem_append.1 hz with h | h
  · exact hI.1 z h
  · simp only [List.mem_cons, List.not_mem_nil, or_false] at h
    rcases h with rfl | rfl | rfl | rfl | rfl
    · exact hI.2.1
    · exact hI.2.2.1
    · exact hI.2.2.2.1
    · exact hI.2.2.2.2.1
    · exact hI.2.2.2.2.2.1
theorem roomT_parts {r : Room} (h : roomOk r = true) : txt (joinT (numsR r)) ++ ⟨#[124]⟩ ++ txt (regionT r.Noise) ++ ⟨#[124]⟩ ++ txt (regionT r.Limits) = txt (roomT r) := by
  have e : (⟨#[124]⟩ : ByteArray) = txt [124] := rfl
  unfold roomT
  rw [if_pos h, e, txt_append, txt_append, txt_append, txt_append]

set_option maxHeartbeats 4000000 in
theorem implFormatRoom_any (r : Room) (A0 A6 A7 : Option Addr) (c0 c6 c7 : Nat) (w : World) (ha : RoomAt w r A0 A6 A7) (hI : roomFI r) (hl : RoomL r) (ht : Tab w) :
    Calls Tryz.prog 43 #[.agg #[.slice A0 r.Map.length c0, .int .i64 r.Div, .int .i64 r.Bx, .int .i64 r.By, .int .i64 r.Low, .int .i64 r.High, .slice A6 r.Noise.length c6, .slice A7 r.Limits.length c7]] w fun e w' => e = .returned (.string (txt (roomT r))) ∧ Ext w w' := by
  have hx : Ext w (w.alloc (.cells #[.slice A0 r.Map.length c0, .int .i64 r.Div, .int .i64 r.Bx, .int .i64 r.By, .int .i64 r.Low, .int .i64 r.High, .slice A6 r.Noise.length c6, .slice A7 r.Limits.length c7] 28)) := (Ext.refl w).alloc _
  have bR := Blk.new w 28 #[.slice A0 r.Map.length c0, .int .i64 r.Div, .int .i64 r.Bx, .int .i64 r.By, .int .i64 r.Low, .int .i64 r.High, .slice A6 r.Noise.length c6, .slice A7 r.Limits.length c7]
  have HA := Lib.hid ha
  have HI := Lib.hid hI
  have HL := Lib.hid hl
  have HT0 := Lib.hid ht
  have HO := Lib.hid (fun w ha => implRoomOk_any r A0 A6 A7 c0 c6 c7 w ha hI hl)
  have H6 := Lib.hid (fun w h ht => implFormatRegion_any A6 r.Noise.length c6 r.Noise w rfl h hI.2.2.2.2.2.2.1 hl.p ht)
  have H7 := Lib.hid (fun w h ht => implFormatRegion_any A7 r.Limits.length c7 r.Limits w rfl h hI.2.2.2.2.2.2.2 hl.q ht)
  clear ha hI hl ht
  by_cases hok : roomOk r = true
  rotate_left
  · have hok' : roomOk r = false := by simpa using hok
    have HQ : Hid (roomT r = []) := if_neg hok
    clear hok
    have cR := fun o => bR.cell o
    go_enter Tryz.func43, Tryz.ntmps43
    go_wp2_with fail
    refine (HO.out _ (HA.out.ext hx)).mono ?_
    rintro e w1 ⟨rfl, hx1⟩
    replace hx := hx.trans hx1
    replace bR := bR.ext hx1
    have cbR_1 := fun o => bR.cell o
    rw [hok']
    clear hok'
    go_wp2
    go_ret
    exact ⟨ret_txt (by rw [HQ.out]; rfl), hx⟩
  obtain ⟨a, b, c', d, hM⟩ := roomOk_map hok
  have H := Lib.hid (roomT_parts hok)
  have HOk := Lib.hid hok
  clear hok
  have hjl : (joinT (numsR r)).length ≤ 1000 := by
    have h1 := joinT_len (xs := numsR r) (fun i hi => numsR_I HI.out _ (List.getElem_mem hi))
    have h2 : (numsR r).length = 9 := by unfold numsR; rw [hM]; rfl
    omega
  have s1 : (txt (joinT (numsR r))).size ≤ 1000 := by rw [txt_size]; exact hjl
  have s2 : (txt (regionT r.Noise)).size ≤ 7840 := by rw [txt_size]; exact regionT_len _
  have s3 : (txt (regionT r.Limits)).size ≤ 7840 := by rw [txt_size]; exact regionT_len _
  have sp : (⟨#[124]⟩ : ByteArray).size = 1 := rfl
  obtain ⟨tj, hj⟩ : ∃ t, txt (joinT (numsR r)) = t := ⟨_, rfl⟩
  obtain ⟨tn, hn⟩ : ∃ t, txt (regionT r.Noise) = t := ⟨_, rfl⟩
  obtain ⟨tl, hl⟩ : ∃ t, txt (regionT r.Limits) = t := ⟨_, rfl⟩
  have HJ := Lib.hid hj
  rw [hj] at s1 H
  rw [hn] at s2 H H6
  rw [hl] at s3 H H7
  clear hj hn hl hjl
  obtain ⟨t1, ht1⟩ : ∃ t, tj ++ ⟨#[124]⟩ = t := ⟨_, rfl⟩
  have z1 : t1.size ≤ 1001 := by rw [← ht1, ByteArray.size_append]; omega
  have a1 := add_txt (a := tj) (b := ⟨#[124]⟩) (c := t1) ht1 (by omega)
  rw [ht1] at H
  obtain ⟨t2, ht2⟩ : ∃ t, t1 ++ tn = t := ⟨_, rfl⟩
  have z2 : t2.size ≤ 8841 := by rw [← ht2, ByteArray.size_append]; omega
  have a2 := add_txt (a := t1) (b := tn) (c := t2) ht2 (by omega)
  rw [ht2] at H
  obtain ⟨t3, ht3⟩ : ∃ t, t2 ++ ⟨#[124]⟩ = t := ⟨_, rfl⟩
  have z3 : t3.size ≤ 8842 := by rw [← ht3, ByteArray.size_append]; omega
  have a3 := add_txt (a := t2) (b := ⟨#[124]⟩) (c := t3) ht3 (by omega)
  rw [ht3] at H
  have a4 := add_txt (a := t3) (b := tl) (c := txt (roomT r)) H.out (by omega)
  clear ht1 ht2 ht3 H sp
  have HM := Lib.hid hM
  clear hM
  have cR := fun o => bR.cell o
  go_enter Tryz.func43, Tryz.ntmps43
  go_wp2_with fail
  refine (HO.out _ (HA.out.ext hx)).mono ?_
  rintro e w1 ⟨rfl, hx1⟩
  replace hx := hx.trans hx1
  replace bR := bR.ext hx1
  have cbR_2 := fun o => bR.cell o
  rw [HOk.out]
  have hr0 := (HA.out.ext hx).m
  rw [HM.out] at hr0
  obtain ⟨g, off, hA0, hg, hcell⟩ := hr0.at_ (ints_ne (k := 0) (by simp))
  subst hA0
  have k0 := hcell 0 (.int .i64 a) rfl
  have k1 := hcell 1 (.int .i64 b) rfl
  have k2 := hcell 2 (.int .i64 c') rfl
  have k3 := hcell 3 (.int .i64 d) rfl
  rw [Nat.add_zero] at k0
  have h4 : r.Map.length = 4 := by rw [HM.out]; rfl
  have h40 : (0 : Int) < (r.Map.length : Int) := by omega
  have h41 : (1 : Int) < (r.Map.length : Int) := by omega
  have h42 : (2 : Int) < (r.Map.length : Int) := by omega
  have h43 : (3 : Int) < (r.Map.length : Int) := by omega
  have h50 : 0 < r.Map.length := by omega
  have h51 : 1 < r.Map.length := by omega
  have h52 : 2 < r.Map.length := by omega
  have h53 : 3 < r.Map.length := by omega
  clear hcell hr0 h4
  have hNl : (numsR r).length = 9 := by unfold numsR; rw [HM.out]; rfl
  have hx1d := hx.drew
  have hrow : Row (w1.drew.alloc (.cells #[.int .i64 a, .int .i64 b, .int .i64 c', .int .i64 d, .int .i64 r.Div, .int .i64 r.Bx, .int .i64 r.By, .int .i64 r.Low, .int .i64 r.High] 3)) (some ⟨w1.heap.size, 0, none⟩) (ints (numsR r)) := by
    have bN := Blk.new w1.drew 3 #[.int .i64 a, .int .i64 b, .int .i64 c', .int .i64 d, .int .i64 r.Div, .int .i64 r.Bx, .int .i64 r.By, .int .i64 r.Low, .int .i64 r.High]
    refine .inr ⟨w1.heap.size, 0, rfl, fun j v hj => ?_⟩
    have := bN.cell j
    rw [Nat.zero_add]
    refine Eq.trans this ?_
    unfold numsR at hj
    rw [HM.out] at hj
    simpa [ints] using hj
  have hU := (Ext.refl w1).drew.alloc (.cells #[.int .i64 a, .int .i64 b, .int .i64 c', .int .i64 d, .int .i64 r.Div, .int .i64 r.Bx, .int .i64 r.By, .int .i64 r.Low, .int .i64 r.High] 3)
  have HTU := HT0.out.ext (hx.trans hU)
  have HJI := Lib.hid (joinInts_any _ 9 9 (numsR r) _ hNl hrow (by omega) (fun i hi => numsR_I HI.out _ (List.getElem_mem hi)) HTU)
  rw [HJ.out] at HJI
  clear hrow HTU hNl hx1d
  have cR1 := fun o => bR.cell o
  go_wp2_with fail
  go_region_held3 (fun w' => w'.cell? ⟨w.heap.size, 0, none⟩ = some (.slice (some ⟨g, off, none⟩) r.Map.length c0) ∧ w'.cell? ⟨w.heap.size, 1, none⟩ = some (.int .i64 r.Div) ∧ w'.cell? ⟨w.heap.size, 2, none⟩ = some (.int .i64 r.Bx) ∧ w'.cell? ⟨w.heap.size, 3, none⟩ = some (.int .i64 r.By) ∧ w'.cell? ⟨w.heap.size, 4, none⟩ = some (.int .i64 r.Low) ∧ w'.cell? ⟨w.heap.size, 5, none⟩ = some (.int .i64 r.High) ∧ w'.cell? ⟨g, off, none⟩ = some (.int .i64 a) ∧ w'.cell? ⟨g, off + 1, none⟩ = some (.int .i64 b) ∧ w'.cell? ⟨g, off + 2, none⟩ = some (.int .i64 c') ∧ w'.cell? ⟨g, off + 3, none⟩ = some (.int .i64 d))
    (go_keep)
    ((go_at_call 94; refine HJI.out.mono ?_; rintro e w3 ⟨rfl, hx3⟩; have hx9 := hU.trans hx3; have d0 := hx9.cellOf k0; have d1 := hx9.cellOf k1; have d2 := hx9.cellOf k2; have d3 := hx9.cellOf k3; have c93 := fun o => (bR.ext hx9).cell o))
  clear d0 d1 d2 d3 c93 k0 k1 k2 k3 h40 h41 h42 h43 h50 h51 h52 h53 cR1
  replace bR := bR.ext hx9
  replace hx := hx.trans hx9
  have cW := fun (p : After w3) o => (bR.ext p.h).cell o
  go_wp2_with fail
  refine wp_region_after (by kernel_rfl) (by kernel_rfl) ?_
  repeat (go_big_quiet_step ((go_at_call 39; first | (with_reducible exact Calls.after_of (H6.out _ (HA.out.ext (hx.trans (After.h _))).p (HT0.out.ext (hx.trans (After.h _))))) | (with_reducible exact Calls.after_of (H7.out _ (HA.out.ext (hx.trans (After.h _))).q (HT0.out.ext (hx.trans (After.h _))))))))
  refine wpQuiet_nil ?_
  rintro _ ⟨⟨V, hV⟩, rfl⟩
  go_wp2
  go_ret
  exact ⟨rfl, hx.trans hV⟩
end Go.Proofs.YtlfepobnmmkcmaaGreatDoor
