/- Contracts of orNone, setRoom, setState, spanText, roundsText of the program's console. -/
import Derived.Test.YtfnmbpjkjajpcaaGreatDoorFbYz
import Derived.Test.YtfnmbpjkjajpcaaGreatDoorFbKz
import Derived.StillTailTactics
import Derived.Deep.CutRange
import Derived.Test.YtfnmbpjkjajpcaaGreatDoorFbXz
namespace Go.Proofs.YtfnmbpjkjajpcaaGreatDoor
open Go.ChangeShapes Go.WideShapes Go.ChangeAt Go.RowKit
set_option linter.unusedVariables false
set_option maxRecDepth 100000
set_option maxHeartbeats 1000000 in
theorem orNone_any (L : List UInt8) (w : World) : Calls Tryz.prog 119 #[.string (txt L)] w fun e w' => e = .returned (.string (txt (orN L))) ∧ w = w' := by
  by_cases h : L = []
  · subst h
    have q1 : (txt []).toList = [] := by rw [ByteArray.toList_eq, txt_list]
    have q2 : (txt []).toList.isEmpty = true := by rw [q1]; rfl
    go_enter Tryz.func119, Tryz.ntmps119
    go_wp2
    go_ret
    exact ⟨rfl, rfl⟩
  · have q1 : ¬ (txt L).toList = [] := by rw [ByteArray.toList_eq, txt_list]; exact h
    have q2 : (txt L).toList.isEmpty = false := by
      rw [ByteArray.toList_eq, txt_list]
      cases L
      · exact absurd rfl h
      · rfl
    have H : Hid (orN L = L) := if_neg h
    clear h
    go_enter Tryz.func119, Tryz.ntmps119
    go_wp2
    go_ret
    exact ⟨by rw [H.out]; rfl, rfl⟩
section
variable {w : World} {B lo : Nat} {c : Console} {R W : List Value} {a : Value} {rs ps qs : List (Nat × Nat)}
theorem conL_11 (R : List Value) (s : Spot) (W : List Value) (a : Value) : (R ++ spotL s) ++ W ++ [a] = conL R s W a := by unfold conL; rw [List.append_assoc, List.append_assoc]
theorem noL_cell : ∀ v ∈ noL, v.oneCell' = true := by decide
set_option maxHeartbeats 4000000 in
theorem setRoom_any (r : Room) (R' : List Value) (x y : Nat) (ok : Bool) (h : Con w B c lo R W a rs ps qs) (hr : AggIn w (roomF r) R' x y) (hg : ∀ p ∈ rs ++ (ps ++ qs), p.2 ≤ x) (hB : B < x) (hy : y ≤ w.heap.size) (hFI : roomFI r) (hL : RoomL r) :
    Calls Tryz.prog 117 #[.pointer (some ⟨B, 0, none⟩), .agg R'.toArray, .bool ok] w (Did B (setR c r ok) lo w) := by
  have HIn := Lib.hid hr
  obtain ⟨rs', hr, har, hrb⟩ := hr
  obtain ⟨A0, A6, A7, c0, c6, c7, rfl, H⟩ := room_sep hr
  have HO := Lib.hid (fun w h => implRoomOk_any r A0 A6 A7 c0 c6 c7 w h hFI hL)
  have HH := Lib.hid H.here.at_
  have hlt := h.blk.lt
  have hx : Ext w (w.alloc (.cells #[.slice A0 r.Map.length c0, .int .i64 r.Div, .int .i64 r.Bx, .int .i64 r.By, .int .i64 r.Low, .int .i64 r.High, .slice A6 r.Noise.length c6, .slice A7 r.Limits.length c7] 36)) := (Ext.refl w).alloc _
  have bM := Blk.new w 36 #[.slice A0 r.Map.length c0, .int .i64 r.Div, .int .i64 r.Bx, .int .i64 r.By, .int .i64 r.Low, .int .i64 r.High, .slice A6 r.Noise.length c6, .slice A7 r.Limits.length c7]
  have HC := Lib.hid h
  have HNo : Hid (setR c r false = (c, noneT)) := by unfold Hid setR; rw [if_neg (fun q => by cases q.1)]
  have HBad : Hid (roomOk r = false → setR c r true = (c, noneT)) := fun q => by unfold setR; rw [if_neg (fun q2 => by rw [q] at q2; cases q2.2)]
  have HYes : Hid (roomOk r = true → setR c r true = (⟨r, c.State, noWatch, c.Asks⟩, okT)) := fun q => by unfold setR; rw [if_pos ⟨rfl, q⟩]
  clear hr har hrb H hFI hL h
  have cbM_1 := fun o => bM.cell o
  cases ok
  · go_enter Tryz.func117, Tryz.ntmps117
    go_wp2
    go_ret
    rw [HNo.out]
    exact ⟨rfl, (HC.out.ext hx).at_, Touch.of_ext hx⟩
  go_enter Tryz.func117, Tryz.ntmps117
  go_wp2_with fail
  refine (HO.out _ (HH.out.ext hx)).mono ?_
  rintro e w1 ⟨rfl, hx1⟩
  replace hx := hx.trans hx1
  replace bM := bM.ext hx1
  have cbM_2 := fun o => bM.cell o
  by_cases k1 : roomOk r = true
  rotate_left
  · have k1' : roomOk r = false := by simpa using k1
    have H := Lib.hid (HBad.out k1')
    rw [k1']
    clear k1 k1'
    go_wp2
    go_ret
    rw [H.out]
    exact ⟨rfl, (HC.out.ext hx).at_, Touch.of_ext hx⟩
  have H := Lib.hid (HYes.out k1)
  rw [k1]
  clear k1
  have h1 := HC.out.ext hx
  have hB0 := h1.b0
  have hlR := h1.lenR
  have hlW := h1.lenW
  have hB1 : (w1.setRow B ([] ++ ([.slice A0 r.Map.length c0, .int .i64 r.Div, .int .i64 r.Bx, .int .i64 r.By, .int .i64 r.Low, .int .i64 r.High, .slice A6 r.Noise.length c6, .slice A7 r.Limits.length c7] : List Value) ++ (spotL c.State ++ (W ++ [a]))).toArray).heap[B]? = some (.cells ((([.slice A0 r.Map.length c0, .int .i64 r.Div, .int .i64 r.Bx, .int .i64 r.By, .int .i64 r.Low, .int .i64 r.High, .slice A6 r.Noise.length c6, .slice A7 r.Limits.length c7] : List Value) ++ spotL c.State) ++ W ++ [a]).toArray 43 (0, 0)) := by
    rw [conL_11]
    exact (show Blk w1 B _ _ from hB0).setRow _
  have HF := Lib.hid h1
  clear h1
  go_wp2_with (first
    | (refine wpList_store_seg (P := Tryz.prog) rfl 36 _ _ rfl B 0 rfl 43 [] R ([.slice A0 r.Map.length c0, .int .i64 r.Div, .int .i64 r.Bx, .int .i64 r.By, .int .i64 r.Low, .int .i64 r.High, .slice A6 r.Noise.length c6, .slice A7 r.Limits.length c7] : List Value) (spotL c.State ++ (W ++ [a])) rfl hB0 rfl (by kernel_rfl) hlR (by simp [Value.oneCell']) ?_)
    | (refine wpList_store_seg (P := Tryz.prog) rfl 40 _ _ rfl B 11 rfl 43 (([.slice A0 r.Map.length c0, .int .i64 r.Div, .int .i64 r.Bx, .int .i64 r.By, .int .i64 r.Low, .int .i64 r.High, .slice A6 r.Noise.length c6, .slice A7 r.Limits.length c7] : List Value) ++ spotL c.State) W noL [a] rfl hB1 rfl (by kernel_rfl) hlW noL_cell ?_))
  go_ret
  rw [H.out]
  have hT : Touch B (B + 1) w1 ((w1.setRow B ([] ++ ([.slice A0 r.Map.length c0, .int .i64 r.Div, .int .i64 r.Bx, .int .i64 r.By, .int .i64 r.Low, .int .i64 r.High, .slice A6 r.Noise.length c6, .slice A7 r.Limits.length c7] : List Value) ++ (spotL c.State ++ (W ++ [a]))).toArray).setRow B ((([.slice A0 r.Map.length c0, .int .i64 r.Div, .int .i64 r.Bx, .int .i64 r.By, .int .i64 r.Low, .int .i64 r.High, .slice A6 r.Noise.length c6, .slice A7 r.Limits.length c7] : List Value) ++ spotL c.State) ++ noL ++ [a]).toArray) := ((Touch.refl B (B + 1) w1).setRow (Nat.le_refl _) (by omega) _).setRow (Nat.le_refl _) (by omega) _
  refine ⟨rfl, ?_, (Touch.of_ext hx).trans hT⟩
  refine HF.out.newRoom hT (R' := ([.slice A0 r.Map.length c0, .int .i64 r.Div, .int .i64 r.Bx, .int .i64 r.By, .int .i64 r.Low, .int .i64 r.High, .slice A6 r.Noise.length c6, .slice A7 r.Limits.length c7] : List Value)) ((HIn.out.ext hx).touch hT (.inr hB)) hg hB (Nat.le_trans hy (Nat.le_trans hx.size hT.size)) ?_
  rw [← conL_11]
  exact (show Blk _ B _ _ from hB1).setRow _
end
end Go.Proofs.YtfnmbpjkjajpcaaGreatDoor
namespace Go.Proofs.YtfnmbpjkjajpcaaGreatDoor
open Go.ChangeShapes Go.WideShapes Go.ChangeAt Go.RowKit
set_option linter.unusedVariables false
set_option maxRecDepth 100000
section
variable {w : World} {B lo : Nat} {c : Console} {R W : List Value} {a : Value} {rs ps qs : List (Nat × Nat)}
theorem span_no (h : (keptReg c.Room).2 = false) : spanC c = noneT := by unfold spanC; rw [if_neg (by rw [h]; simp)]
theorem span_yes (h : (keptReg c.Room).2 = true) : spanC c = orN (spanLineT c.Room (keptReg c.Room).1 c.State) := by unfold spanC; rw [if_pos h]
set_option maxHeartbeats 4000000 in
theorem spanText_any (h : Con w B c lo R W a rs ps qs) (hk : ConOk c) (ht : Tab w) : Calls Tryz.prog 121 #[.pointer (some ⟨B, 0, none⟩)] w fun e w' => e = .returned (.string (txt (spanC c))) ∧ Ext w w' := by
  have hFI := hk.room
  have hL := big_room hk.roomL
  obtain ⟨A0, A6, A7, c0, c6, c7, rfl, H⟩ := room_sep h.room
  have HKp := Lib.hid (fun w ha => implKeptRegion_any c.Room A0 A6 A7 c0 c6 c7 w ha hFI hL)
  have HSp := Lib.hid (fun A n cc ps w ha hn hr hA hI hle ht => implSpanLine_any c.Room A0 A6 A7 c0 c6 c7 A n cc ps c.State w ha hFI hL hn hr hA hI hle hk.state ht)
  have HH := Lib.hid H.here
  have HC := Lib.hid h
  have HT := Lib.hid ht
  have HNo := Lib.hid (fun h => span_no (c := c) h)
  have HYes := Lib.hid (fun h => span_yes (c := c) h)
  have HOk := Lib.hid (keptReg_ok c.Room)
  obtain ⟨d0, d1, d2, d3, d4, d5, d6, d7⟩ := h.cells8
  have hlt := h.blk.lt
  clear hFI hL H h ht hk
  go_enter Tryz.func121, Tryz.ntmps121
  go_wp2_with fail
  refine (HKp.out _ HH.out).mono ?_
  rintro e w1 ⟨A1, c1, n1, rfl, hn1, hx1, hown1⟩
  clear d0 d1 d2 d3 d4 d5 d6 d7
  generalize keptReg c.Room = K at *
  obtain ⟨reg, ok⟩ := K
  dsimp only at *
  subst hn1
  have bE := Blk.new w1 34 #[.slice A1 reg.length c1]
  have ha1 := hx1.alloc (.cells #[.slice A1 reg.length c1] 34)
  have cE := fun o => bE.cell o
  cases ok
  · have H := Lib.hid (HNo.out rfl)
    go_wp2
    go_ret
    rw [H.out]
    exact ⟨rfl, ha1⟩
  have H := Lib.hid (HYes.out rfl)
  have h2 := HC.out.ext ha1
  obtain ⟨d0, d1, d2, d3, d4, d5, d6, d7⟩ := h2.cells8
  obtain ⟨s0, s1, s2⟩ := h2.cell8
  have m1 := Mine.of_own (own_ext hown1 ((Ext.refl w1).alloc (.cells #[.slice A1 reg.length c1] 34)))
  have HM := Lib.hid m1
  clear h2 hown1 m1
  have q0 : ¬ B = w1.heap.size := by have := hx1.size; omega
  go_wp2_with fail
  generalize w1.alloc (.cells #[.slice A1 reg.length c1] 34) = w2 at *
  go_still_tail 9, (by kernel_rfl)
  change wpList _ _ _ _ _ w2.drew
  have hxd := (Ext.refl w2).drew
  generalize w2.drew = w3 at hxd ⊢
  go_wp2_with fail
  refine (HSp.out A1 reg.length c1 reg _ (HH.out.ext (ha1.trans hxd)) rfl (HM.out.row.ext hxd) HM.out.none (halves_I (regOk_all HOk.out)) (by have := regOk_len HOk.out; unfold maxLen; omega) (HT.out.ext (ha1.trans hxd))).mono ?_
  rintro e w4 ⟨rfl, hx4⟩
  go_wp2_with fail
  refine (orNone_any _ _).mono ?_
  rintro e w' ⟨rfl, rfl⟩
  go_wp2
  go_ret
  rw [H.out]
  exact ⟨rfl, (ha1.trans hxd).trans hx4⟩
end
end Go.Proofs.YtfnmbpjkjajpcaaGreatDoor
namespace Go.Proofs.YtfnmbpjkjajpcaaGreatDoor
open Go.ChangeShapes Go.WideShapes Go.ChangeAt Go.RowKit
set_option linter.unusedVariables false
set_option maxRecDepth 100000
theorem blk10 {w : World} {g : Nat} {v0 v1 v2 v3 v4 v5 v6 v7 v8 v9 : Value} (hb : Blk w g 40 #[.slice none 0 0, .int .i64 0, .int .i64 0, .int .i64 0, .int .i64 0, .int .i64 0, .slice none 0 0, .slice none 0 0, .slice none 0 0, .slice none 0 0]) : Blk ((((((((((w.setCell ⟨g, 0, none⟩ v0).setCell ⟨g, 1, none⟩ v1).setCell ⟨g, 2, none⟩ v2).setCell ⟨g, 3, none⟩ v3).setCell ⟨g, 4, none⟩ v4).setCell ⟨g, 5, none⟩ v5).setCell ⟨g, 6, none⟩ v6).setCell ⟨g, 7, none⟩ v7).setCell ⟨g, 8, none⟩ v8).setCell ⟨g, 9, none⟩ v9) g 40 #[v0, v1, v2, v3, v4, v5, v6, v7, v8, v9] := by
  have h0 : Blk (w.setCell ⟨g, 0, none⟩ v0) g 40 #[v0, .int .i64 0, .int .i64 0, .int .i64 0, .int .i64 0, .int .i64 0, .slice none 0 0, .slice none 0 0, .slice none 0 0, .slice none 0 0] := hb.set_ 0 v0
  have h1 : Blk ((w.setCell ⟨g, 0, none⟩ v0).setCell ⟨g, 1, none⟩ v1) g 40 #[v0, v1, .int .i64 0, .int .i64 0, .int .i64 0, .int .i64 0, .slice none 0 0, .slice none 0 0, .slice none 0 0, .slice none 0 0] := h0.set_ 1 v1
  have h2 : Blk (((w.setCell ⟨g, 0, none⟩ v0).setCell ⟨g, 1, none⟩ v1).setCell ⟨g, 2, none⟩ v2) g 40 #[v0, v1, v2, .int .i64 0, .int .i64 0, .int .i64 0, .slice none 0 0, .slice none 0 0, .slice none 0 0, .slice none 0 0] := h1.set_ 2 v2
  have h3 : Blk ((((w.setCell ⟨g, 0, none⟩ v0).setCell ⟨g, 1, none⟩ v1).setCell ⟨g, 2, none⟩ v2).setCell ⟨g, 3, none⟩ v3) g 40 #[v0, v1, v2, v3, .int .i64 0, .int .i64 0, .slice none 0 0, .slice none 0 0, .slice none 0 0, .slice none 0 0] := h2.set_ 3 v3
  have h4 : Blk (((((w.setCell ⟨g, 0, none⟩ v0).setCell ⟨g, 1, none⟩ v1).setCell ⟨g, 2, none⟩ v2).setCell ⟨g, 3, none⟩ v3).setCell ⟨g, 4, none⟩ v4) g 40 #[v0, v1, v2, v3, v4, .int .i64 0, .slice none 0 0, .slice none 0 0, .slice none 0 0, .slice none 0 0] := h3.set_ 4 v4
  have h5 : Blk ((((((w.setCell ⟨g, 0, none⟩ v0).setCell ⟨g, 1, none⟩ v1).setCell ⟨g, 2, none⟩ v2).setCell ⟨g, 3, none⟩ v3).setCell ⟨g, 4, none⟩ v4).setCell ⟨g, 5, none⟩ v5) g 40 #[v0, v1, v2, v3, v4, v5, .slice none 0 0, .slice none 0 0, .slice none 0 0, .slice none 0 0] := h4.set_ 5 v5
  have h6 : Blk (((((((w.setCell ⟨g, 0, none⟩ v0).setCell ⟨g, 1, none⟩ v1).setCell ⟨g, 2, none⟩ v2).setCell ⟨g, 3, none⟩ v3).setCell ⟨g, 4, none⟩ v4).setCell ⟨g, 5, none⟩ v5).setCell ⟨g, 6, none⟩ v6) g 40 #[v0, v1, v2, v3, v4, v5, v6, .slice none 0 0, .slice none 0 0, .slice none 0 0] := h5.set_ 6 v6
  have h7 : Blk ((((((((w.setCell ⟨g, 0, none⟩ v0).setCell ⟨g, 1, none⟩ v1).setCell ⟨g, 2, none⟩ v2).setCell ⟨g, 3, none⟩ v3).setCell ⟨g, 4, none⟩ v4).setCell ⟨g, 5, none⟩ v5).setCell ⟨g, 6, none⟩ v6).setCell ⟨g, 7, none⟩ v7) g 40 #[v0, v1, v2, v3, v4, v5, v6, v7, .slice none 0 0, .slice none 0 0] := h6.set_ 7 v7
  have h8 : Blk (((((((((w.setCell ⟨g, 0, none⟩ v0).setCell ⟨g, 1, none⟩ v1).setCell ⟨g, 2, none⟩ v2).setCell ⟨g, 3, none⟩ v3).setCell ⟨g, 4, none⟩ v4).setCell ⟨g, 5, none⟩ v5).setCell ⟨g, 6, none⟩ v6).setCell ⟨g, 7, none⟩ v7).setCell ⟨g, 8, none⟩ v8) g 40 #[v0, v1, v2, v3, v4, v5, v6, v7, v8, .slice none 0 0] := h7.set_ 8 v8
  have h9 : Blk ((((((((((w.setCell ⟨g, 0, none⟩ v0).setCell ⟨g, 1, none⟩ v1).setCell ⟨g, 2, none⟩ v2).setCell ⟨g, 3, none⟩ v3).setCell ⟨g, 4, none⟩ v4).setCell ⟨g, 5, none⟩ v5).setCell ⟨g, 6, none⟩ v6).setCell ⟨g, 7, none⟩ v7).setCell ⟨g, 8, none⟩ v8).setCell ⟨g, 9, none⟩ v9) g 40 #[v0, v1, v2, v3, v4, v5, v6, v7, v8, v9] := h8.set_ 9 v9
  exact h9
def WatchCut (x : Watch) (ok : Bool) (V : World) (o p : Value) (wx : World) : Prop := ∃ (g a b : Nat) (v0 v1 v2 v3 v4 v5 v6 v7 v8 v9 : Value), p = .pointer (some ⟨g, 0, none⟩) ∧ o = .bool ok ∧ V.heap.size ≤ g ∧ Ext V wx ∧ Blk wx g 40 #[v0, v1, v2, v3, v4, v5, v6, v7, v8, v9] ∧ AggIn wx (watchF x) [v0, v1, v2, v3, v4, v5, v6, v7, v8, v9] a b ∧ V.heap.size ≤ a ∧ b ≤ wx.heap.size
theorem ext10 {w V : World} {g : Nat} (h : Ext w V) (hg : w.heap.size ≤ g) (v0 v1 v2 v3 v4 v5 v6 v7 v8 v9 : Value) : Ext w ((((((((((V.setCell ⟨g, 0, none⟩ v0).setCell ⟨g, 1, none⟩ v1).setCell ⟨g, 2, none⟩ v2).setCell ⟨g, 3, none⟩ v3).setCell ⟨g, 4, none⟩ v4).setCell ⟨g, 5, none⟩ v5).setCell ⟨g, 6, none⟩ v6).setCell ⟨g, 7, none⟩ v7).setCell ⟨g, 8, none⟩ v8).setCell ⟨g, 9, none⟩ v9) :=
  ((((((((((h.setCell (p := ⟨g, 0, none⟩) hg v0).setCell (p := ⟨g, 1, none⟩) hg v1).setCell (p := ⟨g, 2, none⟩) hg v2).setCell (p := ⟨g, 3, none⟩) hg v3).setCell (p := ⟨g, 4, none⟩) hg v4).setCell (p := ⟨g, 5, none⟩) hg v5).setCell (p := ⟨g, 6, none⟩) hg v6).setCell (p := ⟨g, 7, none⟩) hg v7).setCell (p := ⟨g, 8, none⟩) hg v8).setCell (p := ⟨g, 9, none⟩) hg v9)
theorem touch10 (w : World) (g : Nat) (v0 v1 v2 v3 v4 v5 v6 v7 v8 v9 : Value) : Touch g (g + 1) w ((((((((((w.setCell ⟨g, 0, none⟩ v0).setCell ⟨g, 1, none⟩ v1).setCell ⟨g, 2, none⟩ v2).setCell ⟨g, 3, none⟩ v3).setCell ⟨g, 4, none⟩ v4).setCell ⟨g, 5, none⟩ v5).setCell ⟨g, 6, none⟩ v6).setCell ⟨g, 7, none⟩ v7).setCell ⟨g, 8, none⟩ v8).setCell ⟨g, 9, none⟩ v9) :=
  (((((((((((Touch.refl g (g + 1) _).setCell (Nat.le_refl _) (Nat.lt_succ_self _) v0).setCell (Nat.le_refl _) (Nat.lt_succ_self _) v1).setCell (Nat.le_refl _) (Nat.lt_succ_self _) v2).setCell (Nat.le_refl _) (Nat.lt_succ_self _) v3).setCell (Nat.le_refl _) (Nat.lt_succ_self _) v4).setCell (Nat.le_refl _) (Nat.lt_succ_self _) v5).setCell (Nat.le_refl _) (Nat.lt_succ_self _) v6).setCell (Nat.le_refl _) (Nat.lt_succ_self _) v7).setCell (Nat.le_refl _) (Nat.lt_succ_self _) v8).setCell (Nat.le_refl _) (Nat.lt_succ_self _) v9)
theorem WatchCut.new {x : Watch} {ok : Bool} {V w : World} {a : Nat} {v0 v1 v2 v3 v4 v5 v6 v7 v8 v9 : Value} (h : Ext V w) (m : AggIn w (watchF x) [v0, v1, v2, v3, v4, v5, v6, v7, v8, v9] a w.heap.size) (ha : V.heap.size ≤ a) : WatchCut x ok V (.bool ok) (.pointer (some ⟨w.heap.size, 0, none⟩)) (w.alloc (.cells #[v0, v1, v2, v3, v4, v5, v6, v7, v8, v9] 40)) :=
  ⟨_, a, w.heap.size, v0, v1, v2, v3, v4, v5, v6, v7, v8, v9, rfl, rfl, h.size, h.alloc _, Blk.new w _ _, m.ext ((Ext.refl w).alloc _), ha, by simp⟩
theorem WatchCut.old {x : Watch} {ok : Bool} {V w : World} {a g : Nat} {v0 v1 v2 v3 v4 v5 v6 v7 v8 v9 : Value} (h : Ext V w) (hg : V.heap.size ≤ g) (hb : Blk w g 40 #[.slice none 0 0, .int .i64 0, .int .i64 0, .int .i64 0, .int .i64 0, .int .i64 0, .slice none 0 0, .slice none 0 0, .slice none 0 0, .slice none 0 0]) (m : AggIn w (watchF x) [v0, v1, v2, v3, v4, v5, v6, v7, v8, v9] a w.heap.size) (ha : g < a) : WatchCut x ok V (.bool ok) (.pointer (some ⟨g, 0, none⟩)) ((((((((((w.setCell ⟨g, 0, none⟩ v0).setCell ⟨g, 1, none⟩ v1).setCell ⟨g, 2, none⟩ v2).setCell ⟨g, 3, none⟩ v3).setCell ⟨g, 4, none⟩ v4).setCell ⟨g, 5, none⟩ v5).setCell ⟨g, 6, none⟩ v6).setCell ⟨g, 7, none⟩ v7).setCell ⟨g, 8, none⟩ v8).setCell ⟨g, 9, none⟩ v9) :=
  ⟨g, a, w.heap.size, v0, v1, v2, v3, v4, v5, v6, v7, v8, v9, rfl, rfl, hg, ext10 h hg v0 v1 v2 v3 v4 v5 v6 v7 v8 v9, blk10 hb, m.touch (touch10 w g v0 v1 v2 v3 v4 v5 v6 v7 v8 v9) (.inr ha), by omega, (touch10 w g v0 v1 v2 v3 v4 v5 v6 v7 v8 v9).size⟩
section
variable {w : World} {B lo : Nat} {c : Console} {R W : List Value} {a : Value} {rs ps qs : List (Nat × Nat)}
theorem watchC_no (h : (keptReg c.Room).2 = false ∨ (freshW c.Room (keptReg c.Room).1).2 = false) : watchC c = (c, noneT) := by
  unfold watchC
  rw [if_neg]
  rintro ⟨p, q⟩
  rcases h with h | h
  · rw [h] at p; cases p
  · rw [h] at q; cases q
theorem watchC_yes (h : (keptReg c.Room).2 = true) (h2 : (freshW c.Room (keptReg c.Room).1).2 = true) : watchC c = (⟨c.Room, c.State, (freshW c.Room (keptReg c.Room).1).1, c.Asks⟩, okT) := by
  unfold watchC
  rw [if_pos ⟨h, h2⟩]
set_option maxHeartbeats 8000000 in
theorem watch_any (h : Con w B c lo R W a rs ps qs) (hk : ConOk c) : Calls Tryz.prog 124 #[.pointer (some ⟨B, 0, none⟩)] w (Did B (watchC c) lo w) := by
  have hFI := hk.room
  have hb := hk.roomL
  have hL := big_room hk.roomL
  obtain ⟨A0, A6, A7, c0, c6, c7, rfl, H⟩ := room_sep h.room
  have HKp := Lib.hid (fun w ha => implKeptRegion_any c.Room A0 A6 A7 c0 c6 c7 w ha hFI hL)
  have HNw := Lib.hid (fun A n cc ps w ha hn hr hA hI hle => implWatchNew_any c.Room A0 A6 A7 c0 c6 c7 A n cc ps w ha hFI hb hn hr hA hI hle)
  have HH := Lib.hid H
  have HC := Lib.hid h
  have HNo := Lib.hid (fun h => watchC_no (c := c) h)
  have HYes := Lib.hid (fun h h2 => watchC_yes (c := c) h h2)
  have HOk := Lib.hid (keptReg_ok c.Room)
  obtain ⟨d0, d1, d2, d3, d4, d5, d6, d7⟩ := h.cells8
  have hlt := h.blk.lt
  clear hFI hL hb H h hk
  go_enter Tryz.func124, Tryz.ntmps124
  go_wp2_with fail
  refine (HKp.out _ HH.out.here).mono ?_
  rintro e w1 ⟨A1, c1, n1, rfl, hn1, hx1, hown1⟩
  clear d0 d1 d2 d3 d4 d5 d6 d7
  generalize keptReg c.Room = K at *
  obtain ⟨reg, ok⟩ := K
  dsimp only at *
  subst hn1
  have bE := Blk.new w1 34 #[.slice A1 reg.length c1]
  have ha1 := hx1.alloc (.cells #[.slice A1 reg.length c1] 34)
  have cE := fun o => bE.cell o
  cases ok
  · have H := Lib.hid (HNo.out (.inl rfl))
    go_wp2
    go_ret
    rw [H.out]
    exact ⟨rfl, (HC.out.ext ha1).at_, Touch.of_ext ha1⟩
  have h2 := HC.out.ext ha1
  obtain ⟨d0, d1, d2, d3, d4, d5, d6, d7⟩ := h2.cells8
  have m1 := Mine.of_own (own_ext hown1 ((Ext.refl w1).alloc (.cells #[.slice A1 reg.length c1] 34)))
  have HM := Lib.hid m1
  clear h2 hown1 m1
  have q0 : ¬ B = w1.heap.size := by have := hx1.size; omega
  have hle1 := hx1.size
  go_upto_region 4 with fail
  have hw2 : (w1.alloc (.cells #[.slice A1 reg.length c1] 34)).heap.size = w1.heap.size + 1 := by simp
  generalize w1.alloc (.cells #[.slice A1 reg.length c1] 34) = w2 at *
  have HNo2 := Lib.hid (fun h => HNo.out (.inr h))
  have HYes2 := Lib.hid (fun h => HYes.out (by first | rfl | trivial) h)
  have HNw2 := Lib.hid (fun w ha hr => HNw.out A1 reg.length c1 reg w ha rfl hr HM.out.none (halves_I (regOk_all HOk.out)) (by have := regOk_len HOk.out; omega))
  generalize freshW c.Room reg = FW at *
  obtain ⟨xw, okw⟩ := FW
  dsimp only at *
  have hBw : B < w2.heap.size := by omega
  have hw1 : w1.heap.size < w2.heap.size := by omega
  clear hw2
  go_cut [4, 5] from 16 to 24 (fun o p wx => WatchCut xw okw w2 o p wx)
  case first =>
    have hcur := Ext.refl w2
    have nb1 : ¬ B = w2.heap.size := by omega
    have nb2 : ¬ w2.heap.size = B := by omega
    have nb3 : ¬ w1.heap.size = w2.heap.size := by omega
    have nb4 : ¬ w2.heap.size = w1.heap.size := by omega
    go_region_held3 (fun w' => w'.cell? ⟨B, 0, none⟩ = some (.slice A0 c.Room.Map.length c0) ∧ w'.cell? ⟨B, 1, none⟩ = some (.int .i64 c.Room.Div) ∧ w'.cell? ⟨B, 2, none⟩ = some (.int .i64 c.Room.Bx) ∧ w'.cell? ⟨B, 3, none⟩ = some (.int .i64 c.Room.By) ∧ w'.cell? ⟨B, 4, none⟩ = some (.int .i64 c.Room.Low) ∧ w'.cell? ⟨B, 5, none⟩ = some (.int .i64 c.Room.High) ∧ w'.cell? ⟨B, 6, none⟩ = some (.slice A6 c.Room.Noise.length c6) ∧ w'.cell? ⟨B, 7, none⟩ = some (.slice A7 c.Room.Limits.length c7) ∧ w'.cell? ⟨w1.heap.size, 0, none⟩ = some (.slice A1 reg.length c1))
      (go_keep)
      (first
        | (go_at_call 189; (with_reducible refine (HNw2.out _ (by exact HH.out.ext (ha1.trans (by first | exact hcur | exact hcur.drew | exact hcur.alloc _ | exact hcur.drew.alloc _ | exact (hcur.alloc _).drew))) (by exact HM.out.row.ext (by first | exact hcur | exact hcur.drew | exact hcur.alloc _ | exact hcur.drew.alloc _ | exact (hcur.alloc _).drew))).mono ?_); rintro e w4 ⟨us, rfl, m4, hx4⟩; obtain ⟨B0, B6, B7, B8, B9, f0, f6, f7, f8, f9, rfl, -⟩ := watch_sep (Exists.choose_spec m4).1; (first | have hx8 := (Ext.refl _).drew.trans hx4 | have hx8 := hx4); replace hcur := Ext.trans (by first | exact hcur | exact hcur.drew | exact hcur.alloc _ | exact hcur.drew.alloc _ | exact (hcur.alloc _).drew) hx4; have z4 := hx4.size; have y4 := hcur.size; have na1 : ¬ B = w4.heap.size := (by omega); have na2 : ¬ w4.heap.size = B := (by omega); have na3 : ¬ w1.heap.size = w4.heap.size := (by omega); have na4 : ¬ w4.heap.size = w1.heap.size := (by omega); (try simp only [World.size_drew, World.size_alloc] at m4 z4); have h4 := HC.out.ext (ha1.trans hcur); obtain ⟨g0, g1, g2, g3, g4, g5, g6, g7⟩ := h4.cells8; have gE := fun o => (bE.ext hcur).cell o; (first | (have gA : Blk w4 w2.heap.size 40 #[.slice none 0 0, .int .i64 0, .int .i64 0, .int .i64 0, .int .i64 0, .int .i64 0, .slice none 0 0, .slice none 0 0, .slice none 0 0, .slice none 0 0] := (Blk.new w2 _ _).ext hx8; have gAc := fun o => gA.cell o; have gAf := fun o => gA.frozen o; have gAl := gA.lt) | skip)))
    all_goals
      go_wp2_with fail
      go_meet
      case rel => first | (with_reducible exact WatchCut.new hcur m4 (by omega)) | (with_reducible exact WatchCut.old hcur (Nat.le_refl _) gA m4 (by omega))
  case rest =>
  obtain ⟨wA, rfl⟩ : ∃ W, W = wc := ⟨_, rfl⟩
  obtain ⟨g, x, y, v0, v1, v2, v3, v4, v5, v6, v7, v8, v9, rfl, rfl, hg, hxC, bG, mG, hxa, hyb⟩ := hcut
  have cG := fun o => bG.cell o
  have hE := ha1.trans hxC
  clear d0 d1 d2 d3 d4 d5 d6 d7 cE
  cases okw
  · have H := Lib.hid (HNo2.out rfl)
    go_wp2
    go_ret
    rw [H.out]
    exact ⟨rfl, (HC.out.ext hE).at_, Touch.of_ext hE⟩
  have H := Lib.hid (HYes2.out rfl)
  have h3 := HC.out.ext hE
  have hB1 := h3.b11
  have hlW := h3.lenW
  have hl8 := h3.p11
  have H3 := Lib.hid h3
  have hc1 := mG.cell
  clear h3
  go_wp2_with (refine wpList_store_seg (P := Tryz.prog) rfl 40 _ _ rfl B 11 rfl 43 _ W [v0, v1, v2, v3, v4, v5, v6, v7, v8, v9] [a] rfl hB1 hl8 (by kernel_rfl) hlW hc1 ?_)
  go_ret
  rw [H.out]
  have hT := (Touch.refl B (B + 1) wA).setRow (Nat.le_refl _) (by omega) ((([.slice A0 c.Room.Map.length c0, .int .i64 c.Room.Div, .int .i64 c.Room.Bx, .int .i64 c.Room.By, .int .i64 c.Room.Low, .int .i64 c.Room.High, .slice A6 c.Room.Noise.length c6, .slice A7 c.Room.Limits.length c7] : List Value) ++ spotL c.State) ++ [v0, v1, v2, v3, v4, v5, v6, v7, v8, v9] ++ [a]).toArray
  have hs2 := ha1.size
  refine ⟨rfl, ?_, (Touch.of_ext hE).trans hT⟩
  refine HC.out.newWatch ((Touch.of_ext hE).trans hT) (mG.touch hT (.inr (by omega))) (by omega) (Nat.le_trans hyb hT.size) ?_
  rw [← conL_11]
  exact (show Blk _ B _ _ from hB1).setRow _
end
end Go.Proofs.YtfnmbpjkjajpcaaGreatDoor
namespace Go.Proofs.YtfnmbpjkjajpcaaGreatDoor
open Go.ChangeShapes Go.WideShapes Go.ChangeAt Go.RowKit
set_option linter.unusedVariables false
set_option maxRecDepth 100000
def JudgeCut (x : Watch) (u : Ratio) (V : World) (p q : Value) (wx : World) : Prop := ∃ (g k a b : Nat) (v0 v1 v2 v3 v4 v5 v6 v7 v8 v9 : Value), p = .pointer (some ⟨g, 0, none⟩) ∧ q = .pointer (some ⟨k, 0, none⟩) ∧ V.heap.size ≤ g ∧ V.heap.size ≤ k ∧ Ext V wx ∧ Blk wx g 40 #[v0, v1, v2, v3, v4, v5, v6, v7, v8, v9] ∧ Blk wx k 139 #[.int .i64 u.N, .int .i64 u.D] ∧ AggIn wx (watchF x) [v0, v1, v2, v3, v4, v5, v6, v7, v8, v9] a b ∧ V.heap.size ≤ a ∧ b ≤ wx.heap.size
section
variable {x : Watch} {u : Ratio} {V w : World} {a g k : Nat} {v0 v1 v2 v3 v4 v5 v6 v7 v8 v9 : Value}
theorem ext2 {V w : World} {k : Nat} (h : Ext V w) (hk : V.heap.size ≤ k) (p q : Value) : Ext V ((w.setCell ⟨k, 0, none⟩ p).setCell ⟨k, 1, none⟩ q) := (h.setCell (p := ⟨k, 0, none⟩) hk _).setCell (p := ⟨k, 1, none⟩) hk _
theorem touch2 (w : World) (k : Nat) (p q : Value) : Touch k (k + 1) w ((w.setCell ⟨k, 0, none⟩ p).setCell ⟨k, 1, none⟩ q) := ((Touch.refl k (k + 1) w).setCell (Nat.le_refl _) (Nat.lt_succ_self _) p).setCell (Nat.le_refl _) (Nat.lt_succ_self _) q
theorem blk2 (hb : Blk w k 139 #[.int .i64 0, .int .i64 0]) (p q : Value) : Blk ((w.setCell ⟨k, 0, none⟩ p).setCell ⟨k, 1, none⟩ q) k 139 #[p, q] := by
  have h0 : Blk (w.setCell ⟨k, 0, none⟩ p) k 139 #[p, .int .i64 0] := hb.set_ 0 p
  exact h0.set_ 1 q
theorem JudgeCut.nn (h : Ext V w) (m : AggIn w (watchF x) [v0, v1, v2, v3, v4, v5, v6, v7, v8, v9] a w.heap.size) (ha : V.heap.size ≤ a) : JudgeCut x u V (.pointer (some ⟨w.heap.size, 0, none⟩)) (.pointer (some ⟨w.heap.size + 1, 0, none⟩)) ((w.alloc (.cells #[v0, v1, v2, v3, v4, v5, v6, v7, v8, v9] 40)).alloc (.cells #[.int .i64 u.N, .int .i64 u.D] 139)) :=
  ⟨_, _, a, w.heap.size, v0, v1, v2, v3, v4, v5, v6, v7, v8, v9, rfl, rfl, h.size, Nat.le_succ_of_le h.size, (h.alloc _).alloc _, (Blk.new w _ _).alloc _, (by simpa only [World.size_alloc] using Blk.new (w.alloc (.cells #[v0, v1, v2, v3, v4, v5, v6, v7, v8, v9] 40)) 139 #[.int .i64 u.N, .int .i64 u.D]), (m.ext ((Ext.refl w).alloc _)).ext ((Ext.refl _).alloc _), ha, by simp; omega⟩
theorem JudgeCut.nn' (h : Ext V w) (m : AggIn w (watchF x) [v0, v1, v2, v3, v4, v5, v6, v7, v8, v9] a w.heap.size) (ha : V.heap.size ≤ a) : JudgeCut x u V (.pointer (some ⟨w.heap.size + 1, 0, none⟩)) (.pointer (some ⟨w.heap.size, 0, none⟩)) ((w.alloc (.cells #[.int .i64 u.N, .int .i64 u.D] 139)).alloc (.cells #[v0, v1, v2, v3, v4, v5, v6, v7, v8, v9] 40)) :=
  ⟨_, _, a, w.heap.size, v0, v1, v2, v3, v4, v5, v6, v7, v8, v9, rfl, rfl, Nat.le_succ_of_le h.size, h.size, (h.alloc _).alloc _, (by simpa only [World.size_alloc] using Blk.new (w.alloc (.cells #[.int .i64 u.N, .int .i64 u.D] 139)) 40 #[v0, v1, v2, v3, v4, v5, v6, v7, v8, v9]), (Blk.new w _ _).alloc _, (m.ext ((Ext.refl w).alloc _)).ext ((Ext.refl _).alloc _), ha, by simp; omega⟩
set_option maxHeartbeats 400000 in
theorem JudgeCut.on (h : Ext V w) (hg : V.heap.size ≤ g) (hb : Blk w g 40 #[.slice none 0 0, .int .i64 0, .int .i64 0, .int .i64 0, .int .i64 0, .int .i64 0, .slice none 0 0, .slice none 0 0, .slice none 0 0, .slice none 0 0]) (m : AggIn w (watchF x) [v0, v1, v2, v3, v4, v5, v6, v7, v8, v9] a w.heap.size) (ha : V.heap.size ≤ a) (hga : g < a) : JudgeCut x u V (.pointer (some ⟨g, 0, none⟩)) (.pointer (some ⟨w.heap.size, 0, none⟩)) (((((((((((w.setCell ⟨g, 0, none⟩ v0).setCell ⟨g, 1, none⟩ v1).setCell ⟨g, 2, none⟩ v2).setCell ⟨g, 3, none⟩ v3).setCell ⟨g, 4, none⟩ v4).setCell ⟨g, 5, none⟩ v5).setCell ⟨g, 6, none⟩ v6).setCell ⟨g, 7, none⟩ v7).setCell ⟨g, 8, none⟩ v8).setCell ⟨g, 9, none⟩ v9).alloc (.cells #[.int .i64 u.N, .int .i64 u.D] 139)) :=
  ⟨g, w.heap.size, a, w.heap.size, v0, v1, v2, v3, v4, v5, v6, v7, v8, v9, rfl, rfl, hg, h.size, (ext10 h hg v0 v1 v2 v3 v4 v5 v6 v7 v8 v9).alloc _, (blk10 hb).alloc _, (by simpa using Blk.new ((((((((((w.setCell ⟨g, 0, none⟩ v0).setCell ⟨g, 1, none⟩ v1).setCell ⟨g, 2, none⟩ v2).setCell ⟨g, 3, none⟩ v3).setCell ⟨g, 4, none⟩ v4).setCell ⟨g, 5, none⟩ v5).setCell ⟨g, 6, none⟩ v6).setCell ⟨g, 7, none⟩ v7).setCell ⟨g, 8, none⟩ v8).setCell ⟨g, 9, none⟩ v9) 139 #[.int .i64 u.N, .int .i64 u.D]), (m.touch (touch10 w g v0 v1 v2 v3 v4 v5 v6 v7 v8 v9) (.inr hga)).ext ((Ext.refl _).alloc _), ha, by simp⟩
set_option maxHeartbeats 400000 in
theorem JudgeCut.no (h : Ext V w) (hk : V.heap.size ≤ k) (hb : Blk w k 139 #[.int .i64 0, .int .i64 0]) (m : AggIn w (watchF x) [v0, v1, v2, v3, v4, v5, v6, v7, v8, v9] a w.heap.size) (ha : V.heap.size ≤ a) (hka : k < a) : JudgeCut x u V (.pointer (some ⟨w.heap.size, 0, none⟩)) (.pointer (some ⟨k, 0, none⟩)) (((w.setCell ⟨k, 0, none⟩ (.int .i64 u.N)).setCell ⟨k, 1, none⟩ (.int .i64 u.D)).alloc (.cells #[v0, v1, v2, v3, v4, v5, v6, v7, v8, v9] 40)) :=
  ⟨w.heap.size, k, a, w.heap.size, v0, v1, v2, v3, v4, v5, v6, v7, v8, v9, rfl, rfl, h.size, hk, (ext2 h hk (.int .i64 u.N) (.int .i64 u.D)).alloc _, (by simpa using Blk.new ((w.setCell ⟨k, 0, none⟩ (.int .i64 u.N)).setCell ⟨k, 1, none⟩ (.int .i64 u.D)) 40 #[v0, v1, v2, v3, v4, v5, v6, v7, v8, v9]), (blk2 hb (.int .i64 u.N) (.int .i64 u.D)).alloc _, (m.touch (touch2 w k (.int .i64 u.N) (.int .i64 u.D)) (.inr hka)).ext ((Ext.refl _).alloc _), ha, by simp⟩
set_option maxHeartbeats 400000 in
theorem JudgeCut.oo (h : Ext V w) (hg : V.heap.size ≤ g) (hk : V.heap.size ≤ k) (hne : g ≠ k) (hb : Blk w g 40 #[.slice none 0 0, .int .i64 0, .int .i64 0, .int .i64 0, .int .i64 0, .int .i64 0, .slice none 0 0, .slice none 0 0, .slice none 0 0, .slice none 0 0]) (hc : Blk w k 139 #[.int .i64 0, .int .i64 0]) (m : AggIn w (watchF x) [v0, v1, v2, v3, v4, v5, v6, v7, v8, v9] a w.heap.size) (ha : V.heap.size ≤ a) (hga : g < a) (hka : k < a) : JudgeCut x u V (.pointer (some ⟨g, 0, none⟩)) (.pointer (some ⟨k, 0, none⟩)) ((((((((((((w.setCell ⟨g, 0, none⟩ v0).setCell ⟨g, 1, none⟩ v1).setCell ⟨g, 2, none⟩ v2).setCell ⟨g, 3, none⟩ v3).setCell ⟨g, 4, none⟩ v4).setCell ⟨g, 5, none⟩ v5).setCell ⟨g, 6, none⟩ v6).setCell ⟨g, 7, none⟩ v7).setCell ⟨g, 8, none⟩ v8).setCell ⟨g, 9, none⟩ v9).setCell ⟨k, 0, none⟩ (.int .i64 u.N)).setCell ⟨k, 1, none⟩ (.int .i64 u.D)) :=
  ⟨g, k, a, w.heap.size, v0, v1, v2, v3, v4, v5, v6, v7, v8, v9, rfl, rfl, hg, hk, ext2 (ext10 h hg v0 v1 v2 v3 v4 v5 v6 v7 v8 v9) hk (.int .i64 u.N) (.int .i64 u.D), ((blk10 hb).far (p := ⟨k, 0, none⟩) hne _).far (p := ⟨k, 1, none⟩) hne _, blk2 (hc.touch (touch10 w g v0 v1 v2 v3 v4 v5 v6 v7 v8 v9) (by omega)) (.int .i64 u.N) (.int .i64 u.D), (m.touch (touch10 w g v0 v1 v2 v3 v4 v5 v6 v7 v8 v9) (.inr hga)).touch (touch2 ((((((((((w.setCell ⟨g, 0, none⟩ v0).setCell ⟨g, 1, none⟩ v1).setCell ⟨g, 2, none⟩ v2).setCell ⟨g, 3, none⟩ v3).setCell ⟨g, 4, none⟩ v4).setCell ⟨g, 5, none⟩ v5).setCell ⟨g, 6, none⟩ v6).setCell ⟨g, 7, none⟩ v7).setCell ⟨g, 8, none⟩ v8).setCell ⟨g, 9, none⟩ v9) k (.int .i64 u.N) (.int .i64 u.D)) (.inr hka), ha, by simp⟩
set_option maxHeartbeats 400000 in
theorem JudgeCut.oo' (h : Ext V w) (hg : V.heap.size ≤ g) (hk : V.heap.size ≤ k) (hne : g ≠ k) (hb : Blk w g 40 #[.slice none 0 0, .int .i64 0, .int .i64 0, .int .i64 0, .int .i64 0, .int .i64 0, .slice none 0 0, .slice none 0 0, .slice none 0 0, .slice none 0 0]) (hc : Blk w k 139 #[.int .i64 0, .int .i64 0]) (m : AggIn w (watchF x) [v0, v1, v2, v3, v4, v5, v6, v7, v8, v9] a w.heap.size) (ha : V.heap.size ≤ a) (hga : g < a) (hka : k < a) : JudgeCut x u V (.pointer (some ⟨g, 0, none⟩)) (.pointer (some ⟨k, 0, none⟩)) ((((((((((((w.setCell ⟨k, 0, none⟩ (.int .i64 u.N)).setCell ⟨k, 1, none⟩ (.int .i64 u.D)).setCell ⟨g, 0, none⟩ v0).setCell ⟨g, 1, none⟩ v1).setCell ⟨g, 2, none⟩ v2).setCell ⟨g, 3, none⟩ v3).setCell ⟨g, 4, none⟩ v4).setCell ⟨g, 5, none⟩ v5).setCell ⟨g, 6, none⟩ v6).setCell ⟨g, 7, none⟩ v7).setCell ⟨g, 8, none⟩ v8).setCell ⟨g, 9, none⟩ v9) :=
  ⟨g, k, a, w.heap.size, v0, v1, v2, v3, v4, v5, v6, v7, v8, v9, rfl, rfl, hg, hk, ext10 (ext2 h hk (.int .i64 u.N) (.int .i64 u.D)) hg v0 v1 v2 v3 v4 v5 v6 v7 v8 v9, blk10 (hb.touch (touch2 w k (.int .i64 u.N) (.int .i64 u.D)) (by omega)), (blk2 hc (.int .i64 u.N) (.int .i64 u.D)).touch (touch10 ((w.setCell ⟨k, 0, none⟩ (.int .i64 u.N)).setCell ⟨k, 1, none⟩ (.int .i64 u.D)) g v0 v1 v2 v3 v4 v5 v6 v7 v8 v9) (by omega), (m.touch (touch2 w k (.int .i64 u.N) (.int .i64 u.D)) (.inr hka)).touch (touch10 ((w.setCell ⟨k, 0, none⟩ (.int .i64 u.N)).setCell ⟨k, 1, none⟩ (.int .i64 u.D)) g v0 v1 v2 v3 v4 v5 v6 v7 v8 v9) (.inr hga), ha, Nat.le_trans (touch2 w k (.int .i64 u.N) (.int .i64 u.D)).size (touch10 ((w.setCell ⟨k, 0, none⟩ (.int .i64 u.N)).setCell ⟨k, 1, none⟩ (.int .i64 u.D)) g v0 v1 v2 v3 v4 v5 v6 v7 v8 v9).size⟩
end
theorem row_two {w : World} {A : Option Addr} {n0 n1 : Int} (h : Row w A (ints [n0, n1])) : ∃ g o, A = some ⟨g, o, none⟩ ∧ g < w.heap.size ∧ w.cell? ⟨g, o, none⟩ = some (.int .i64 n0) ∧ w.cell? ⟨g, o + 1, none⟩ = some (.int .i64 n1) := by
  obtain ⟨g, o, e, hg, h0⟩ := h.int (k := 0) (by simp)
  obtain ⟨g', o', e', hg', h1⟩ := h.int (k := 1) (by simp)
  rw [e] at e'
  cases e'
  exact ⟨g, o, e, hg, h0, h1⟩
theorem Tab.touch {w w' : World} {B : Nat} (h : Tab w) (k : Touch B (B + 1) w w') (hg : 0 < B) : Tab w' := by
  unfold Tab Lib.TabIs World.var? at h ⊢
  rw [gTab] at h ⊢
  simp only [Option.bind_some] at h ⊢
  have hlt : 0 < w.heap.size := by
    rcases Nat.lt_or_ge 0 w.heap.size with q | q
    · exact q
    · rw [Array.getElem?_eq_none q] at h
      cases h
  rw [k.block _ hlt (.inl hg)]
  exact h
section
variable {w : World} {B lo : Nat} {c : Console} {R W : List Value} {a : Value} {rs ps qs : List (Nat × Nat)}
set_option maxHeartbeats 16000000 in
theorem judge_any (A : Option Addr) (cn : Nat) (n0 n1 : Int) (h : Con w B c lo R W a rs ps qs) (hk : ConOk c) (ht : Tab w) (hr : Row w A (ints [n0, n1])) (hi0 : I64 n0) (hi1 : I64 n1) (hgl : 0 < lo) : Calls Tryz.prog 125 #[.pointer (some ⟨B, 0, none⟩), .slice A 2 cn] w (Did B (judgeC c n0 n1) lo w) := by
  obtain ⟨gn, on, rfl, hgn, hr0, hr1⟩ := row_two hr
  obtain ⟨A0, A6, A7, A8, A9, c0, c6, c7, c8, c9, rfl, H⟩ := watch_sep h.watch
  have HRo := Lib.hid (fun w => implRatioOf_any n0 n1 w hi0 hi1)
  obtain ⟨u1, u2⟩ := ratioOf_in n0 n1
  have HD : Hid (judgeC c n0 n1 = (⟨c.Room, c.State, (stepW c.Watch c.State (ratioOf n0 n1)).1, c.Asks⟩, if ratioOk (stepW c.Watch c.State (ratioOf n0 n1)).2 = true then ratioT (stepW c.Watch c.State (ratioOf n0 n1)).2 else lostT)) := rfl
  generalize ratioOf n0 n1 = u0 at *
  have HSt := Lib.hid (fun w h => implWatchStep_any c.Watch A0 A6 A7 A8 A9 c0 c6 c7 c8 c9 c.State u0 w h hk.watch ⟨hk.watchL.1, hk.watchL.2.1, hk.watchL.2.2.1⟩ hk.watchL.2.2.2.1 hk.watchL.2.2.2.2 hk.state.1 hk.state.2.1 hk.state.2.2 u1 u2)
  have hJI := judge_I (x := c.Watch) (s := c.State) u1 u2
  have hSI : I64 (stepW c.Watch c.State u0).2.N ∧ I64 (stepW c.Watch c.State u0).2.D := by unfold stepW; exact hJI
  have HSI := Lib.hid hSI
  have HH := Lib.hid H
  have HC := Lib.hid h
  have HT := Lib.hid ht
  have HN : Hid (∀ V, Ext w V → V.cell? ⟨gn, on, none⟩ = some (.int .i64 n0) ∧ V.cell? ⟨gn, on + 1, none⟩ = some (.int .i64 n1)) := fun V hV => ⟨hV.cellOf hr0, hV.cellOf hr1⟩
  obtain ⟨d0, d1, d2, d3, d4, d5, d6, d7, d8, d9⟩ := h.cells10
  obtain ⟨s0, s1, s2⟩ := h.cell8
  have hlt := h.blk.lt
  generalize stepW c.Watch c.State u0 = SW at *
  obtain ⟨xs, ur⟩ := SW
  dsimp only at *
  clear H h ht hk hr hi0 hi1 u1 u2 hJI hSI
  go_enter Tryz.func125, Tryz.ntmps125
  go_upto_region 1 with fail
  go_cut [5, 6] from 7 to 25 (fun p q wx => JudgeCut xs ur w p q wx)
  case first =>
    have hcur := Ext.refl w
    have := (show ¬ B = w.heap.size by omega)
    have := (show ¬ w.heap.size = B by omega)
    have := (show ¬ B = w.heap.size + 1 by omega)
    have := (show ¬ w.heap.size + 1 = B by omega)
    have := (show ¬ gn = w.heap.size by omega)
    have := (show ¬ w.heap.size = gn by omega)
    have := (show ¬ gn = w.heap.size + 1 by omega)
    have := (show ¬ w.heap.size + 1 = gn by omega)
    go_region_held3 (fun w' => w'.cell? ⟨B, 11, none⟩ = some (.slice A0 c.Watch.Room.Map.length c0) ∧ w'.cell? ⟨B, 12, none⟩ = some (.int .i64 c.Watch.Room.Div) ∧ w'.cell? ⟨B, 13, none⟩ = some (.int .i64 c.Watch.Room.Bx) ∧ w'.cell? ⟨B, 14, none⟩ = some (.int .i64 c.Watch.Room.By) ∧ w'.cell? ⟨B, 15, none⟩ = some (.int .i64 c.Watch.Room.Low) ∧ w'.cell? ⟨B, 16, none⟩ = some (.int .i64 c.Watch.Room.High) ∧ w'.cell? ⟨B, 17, none⟩ = some (.slice A6 c.Watch.Room.Noise.length c6) ∧ w'.cell? ⟨B, 18, none⟩ = some (.slice A7 c.Watch.Room.Limits.length c7) ∧ w'.cell? ⟨B, 19, none⟩ = some (.slice A8 c.Watch.Region.length c8) ∧ w'.cell? ⟨B, 20, none⟩ = some (.slice A9 c.Watch.Log.length c9) ∧ w'.cell? ⟨B, 8, none⟩ = some (.int .i64 c.State.X) ∧ w'.cell? ⟨B, 9, none⟩ = some (.int .i64 c.State.Y) ∧ w'.cell? ⟨B, 10, none⟩ = some (.int .i64 c.State.D) ∧ w'.cell? ⟨gn, on, none⟩ = some (.int .i64 n0) ∧ w'.cell? ⟨gn, on + 1, none⟩ = some (.int .i64 n1))
      (go_keep)
      (first
        | (go_at_call 191; (with_reducible refine (HRo.out _).mono ?_); rintro e wq ⟨rfl, hxN⟩; (first | have hx8 := (Ext.refl _).drew.trans hxN | have hx8 := hxN); replace hcur := Ext.trans (by first | exact hcur | exact hcur.drew | exact hcur.alloc _ | exact hcur.drew.alloc _ | exact (hcur.alloc _).drew | exact (hcur.alloc _).alloc _ | exact ((hcur.alloc _).alloc _).drew | exact (hcur.drew.alloc _).alloc _) hxN; have h5 := HC.out.ext hcur; obtain ⟨g0, g1, g2, g3, g4, g5, g6, g7, g8, g9⟩ := h5.cells10; obtain ⟨t0, t1, t2⟩ := h5.cell8; obtain ⟨r0, r1⟩ := HN.out _ hcur; have zc := hcur.size; have := (show ¬ B = wq.heap.size by omega); have := (show ¬ wq.heap.size = B by omega); have := (show ¬ B = wq.heap.size + 1 by omega); have := (show ¬ wq.heap.size + 1 = B by omega); have := (show ¬ gn = wq.heap.size by omega); have := (show ¬ wq.heap.size = gn by omega); have := (show ¬ gn = wq.heap.size + 1 by omega); have := (show ¬ wq.heap.size + 1 = gn by omega); (first | (have gA : Blk wq w.heap.size 40 #[.slice none 0 0, .int .i64 0, .int .i64 0, .int .i64 0, .int .i64 0, .int .i64 0, .slice none 0 0, .slice none 0 0, .slice none 0 0, .slice none 0 0] := ((Blk.new w 40 #[.slice none 0 0, .int .i64 0, .int .i64 0, .int .i64 0, .int .i64 0, .int .i64 0, .slice none 0 0, .slice none 0 0, .slice none 0 0, .slice none 0 0]).alloc _).ext hx8; have gK : Blk wq (w.heap.size + 1) 139 #[.int .i64 0, .int .i64 0] := (show Blk ((w.alloc (.cells #[.slice none 0 0, .int .i64 0, .int .i64 0, .int .i64 0, .int .i64 0, .int .i64 0, .slice none 0 0, .slice none 0 0, .slice none 0 0, .slice none 0 0] 40)).alloc (.cells #[.int .i64 0, .int .i64 0] 139)) (w.heap.size + 1) 139 #[.int .i64 0, .int .i64 0] by simpa only [World.size_alloc] using Blk.new (w.alloc (.cells #[.slice none 0 0, .int .i64 0, .int .i64 0, .int .i64 0, .int .i64 0, .int .i64 0, .slice none 0 0, .slice none 0 0, .slice none 0 0, .slice none 0 0] 40)) 139 #[.int .i64 0, .int .i64 0]).ext hx8; have gAc := fun o => gA.cell o; have gAf := fun o => gA.frozen o; have gAl := gA.lt; have gKc := fun o => gK.cell o; have gKf := fun o => gK.frozen o; have gKl := gK.lt) | (have gK : Blk wq w.heap.size 139 #[.int .i64 0, .int .i64 0] := ((Blk.new w 139 #[.int .i64 0, .int .i64 0]).alloc _).ext hx8; have gA : Blk wq (w.heap.size + 1) 40 #[.slice none 0 0, .int .i64 0, .int .i64 0, .int .i64 0, .int .i64 0, .int .i64 0, .slice none 0 0, .slice none 0 0, .slice none 0 0, .slice none 0 0] := (show Blk ((w.alloc (.cells #[.int .i64 0, .int .i64 0] 139)).alloc (.cells #[.slice none 0 0, .int .i64 0, .int .i64 0, .int .i64 0, .int .i64 0, .int .i64 0, .slice none 0 0, .slice none 0 0, .slice none 0 0, .slice none 0 0] 40)) (w.heap.size + 1) 40 #[.slice none 0 0, .int .i64 0, .int .i64 0, .int .i64 0, .int .i64 0, .int .i64 0, .slice none 0 0, .slice none 0 0, .slice none 0 0, .slice none 0 0] by simpa only [World.size_alloc] using Blk.new (w.alloc (.cells #[.int .i64 0, .int .i64 0] 139)) 40 #[.slice none 0 0, .int .i64 0, .int .i64 0, .int .i64 0, .int .i64 0, .int .i64 0, .slice none 0 0, .slice none 0 0, .slice none 0 0, .slice none 0 0]).ext hx8; have gAc := fun o => gA.cell o; have gAf := fun o => gA.frozen o; have gAl := gA.lt; have gKc := fun o => gK.cell o; have gKf := fun o => gK.frozen o; have gKl := gK.lt) | (have gA : Blk wq w.heap.size 40 #[.slice none 0 0, .int .i64 0, .int .i64 0, .int .i64 0, .int .i64 0, .int .i64 0, .slice none 0 0, .slice none 0 0, .slice none 0 0, .slice none 0 0] := (Blk.new w 40 #[.slice none 0 0, .int .i64 0, .int .i64 0, .int .i64 0, .int .i64 0, .int .i64 0, .slice none 0 0, .slice none 0 0, .slice none 0 0, .slice none 0 0]).ext hx8; have gAc := fun o => gA.cell o; have gAf := fun o => gA.frozen o; have gAl := gA.lt) | (have gK : Blk wq w.heap.size 139 #[.int .i64 0, .int .i64 0] := (Blk.new w 139 #[.int .i64 0, .int .i64 0]).ext hx8; have gKc := fun o => gK.cell o; have gKf := fun o => gK.frozen o; have gKl := gK.lt) | skip))
        | (go_at_call 190; (with_reducible refine (HSt.out _ (by exact HH.out.ext (by first | exact hcur | exact hcur.drew | exact hcur.alloc _ | exact hcur.drew.alloc _ | exact (hcur.alloc _).drew | exact (hcur.alloc _).alloc _ | exact ((hcur.alloc _).alloc _).drew | exact (hcur.drew.alloc _).alloc _))).mono ?_); rintro e w4 ⟨us, rfl, m4, hxN⟩; obtain ⟨B0, B6, B7, B8, B9, f0, f6, f7, f8, f9, rfl, -⟩ := watch_sep (Exists.choose_spec m4).1; (first | have hx8 := (Ext.refl _).drew.trans hxN | have hx8 := hxN); have z4 := hxN.size; (try simp only [World.size_alloc] at m4 z4); replace hcur := Ext.trans (by first | exact hcur | exact hcur.drew | exact hcur.alloc _ | exact hcur.drew.alloc _ | exact (hcur.alloc _).drew | exact (hcur.alloc _).alloc _ | exact ((hcur.alloc _).alloc _).drew | exact (hcur.drew.alloc _).alloc _) hxN; have hq4 : Ext wq w4 := (by first | exact hx8 | exact ((Ext.refl wq).alloc _).trans hx8 | exact (((Ext.refl wq).alloc _).alloc _).trans hx8); have zq := hq4.size; (try (replace gA := gA.ext hq4; have gAc4 := fun o => gA.cell o; have gAf4 := fun o => gA.frozen o; have gAl4 := gA.lt)); (try (replace gK := gK.ext hq4; have gKc4 := fun o => gK.cell o; have gKf4 := fun o => gK.frozen o; have gKl4 := gK.lt)); have h5 := HC.out.ext hcur; obtain ⟨g0, g1, g2, g3, g4, g5, g6, g7, g8, g9⟩ := h5.cells10; obtain ⟨t0, t1, t2⟩ := h5.cell8; obtain ⟨r0, r1⟩ := HN.out _ hcur; have zc := hcur.size; have := (show ¬ B = w4.heap.size by omega); have := (show ¬ w4.heap.size = B by omega); have := (show ¬ B = w4.heap.size + 1 by omega); have := (show ¬ w4.heap.size + 1 = B by omega); have := (show ¬ gn = w4.heap.size by omega); have := (show ¬ w4.heap.size = gn by omega); have := (show ¬ gn = w4.heap.size + 1 by omega); have := (show ¬ w4.heap.size + 1 = gn by omega); (first | (have gA : Blk w4 wq.heap.size 40 #[.slice none 0 0, .int .i64 0, .int .i64 0, .int .i64 0, .int .i64 0, .int .i64 0, .slice none 0 0, .slice none 0 0, .slice none 0 0, .slice none 0 0] := ((Blk.new wq 40 #[.slice none 0 0, .int .i64 0, .int .i64 0, .int .i64 0, .int .i64 0, .int .i64 0, .slice none 0 0, .slice none 0 0, .slice none 0 0, .slice none 0 0]).alloc _).ext hx8; have gK : Blk w4 (wq.heap.size + 1) 139 #[.int .i64 0, .int .i64 0] := (show Blk ((wq.alloc (.cells #[.slice none 0 0, .int .i64 0, .int .i64 0, .int .i64 0, .int .i64 0, .int .i64 0, .slice none 0 0, .slice none 0 0, .slice none 0 0, .slice none 0 0] 40)).alloc (.cells #[.int .i64 0, .int .i64 0] 139)) (wq.heap.size + 1) 139 #[.int .i64 0, .int .i64 0] by simpa only [World.size_alloc] using Blk.new (wq.alloc (.cells #[.slice none 0 0, .int .i64 0, .int .i64 0, .int .i64 0, .int .i64 0, .int .i64 0, .slice none 0 0, .slice none 0 0, .slice none 0 0, .slice none 0 0] 40)) 139 #[.int .i64 0, .int .i64 0]).ext hx8; have gAc := fun o => gA.cell o; have gAf := fun o => gA.frozen o; have gAl := gA.lt; have gKc := fun o => gK.cell o; have gKf := fun o => gK.frozen o; have gKl := gK.lt) | (have gK : Blk w4 wq.heap.size 139 #[.int .i64 0, .int .i64 0] := ((Blk.new wq 139 #[.int .i64 0, .int .i64 0]).alloc _).ext hx8; have gA : Blk w4 (wq.heap.size + 1) 40 #[.slice none 0 0, .int .i64 0, .int .i64 0, .int .i64 0, .int .i64 0, .int .i64 0, .slice none 0 0, .slice none 0 0, .slice none 0 0, .slice none 0 0] := (show Blk ((wq.alloc (.cells #[.int .i64 0, .int .i64 0] 139)).alloc (.cells #[.slice none 0 0, .int .i64 0, .int .i64 0, .int .i64 0, .int .i64 0, .int .i64 0, .slice none 0 0, .slice none 0 0, .slice none 0 0, .slice none 0 0] 40)) (wq.heap.size + 1) 40 #[.slice none 0 0, .int .i64 0, .int .i64 0, .int .i64 0, .int .i64 0, .int .i64 0, .slice none 0 0, .slice none 0 0, .slice none 0 0, .slice none 0 0] by simpa only [World.size_alloc] using Blk.new (wq.alloc (.cells #[.int .i64 0, .int .i64 0] 139)) 40 #[.slice none 0 0, .int .i64 0, .int .i64 0, .int .i64 0, .int .i64 0, .int .i64 0, .slice none 0 0, .slice none 0 0, .slice none 0 0, .slice none 0 0]).ext hx8; have gAc := fun o => gA.cell o; have gAf := fun o => gA.frozen o; have gAl := gA.lt; have gKc := fun o => gK.cell o; have gKf := fun o => gK.frozen o; have gKl := gK.lt) | (have gA : Blk w4 wq.heap.size 40 #[.slice none 0 0, .int .i64 0, .int .i64 0, .int .i64 0, .int .i64 0, .int .i64 0, .slice none 0 0, .slice none 0 0, .slice none 0 0, .slice none 0 0] := (Blk.new wq 40 #[.slice none 0 0, .int .i64 0, .int .i64 0, .int .i64 0, .int .i64 0, .int .i64 0, .slice none 0 0, .slice none 0 0, .slice none 0 0, .slice none 0 0]).ext hx8; have gAc := fun o => gA.cell o; have gAf := fun o => gA.frozen o; have gAl := gA.lt) | (have gK : Blk w4 wq.heap.size 139 #[.int .i64 0, .int .i64 0] := (Blk.new wq 139 #[.int .i64 0, .int .i64 0]).ext hx8; have gKc := fun o => gK.cell o; have gKf := fun o => gK.frozen o; have gKl := gK.lt) | skip); (try have nw1 := (show ¬ w.heap.size = wq.heap.size by omega)); (try have nw2 := (show ¬ wq.heap.size = w.heap.size by omega))))
    all_goals
      go_wp2_with fail
      go_meet
      case rel => first | (with_reducible exact JudgeCut.nn hcur m4 (by omega)) | (with_reducible exact JudgeCut.nn' hcur m4 (by omega)) | (with_reducible exact JudgeCut.on hcur (by omega) gA m4 (by omega) (by omega)) | (with_reducible exact JudgeCut.no hcur (by omega) gK m4 (by omega) (by omega)) | (with_reducible exact JudgeCut.oo hcur (by omega) (by omega) (by omega) gA gK m4 (by omega) (by omega) (by omega)) | (with_reducible exact JudgeCut.oo' hcur (by omega) (by omega) (by omega) gA gK m4 (by omega) (by omega) (by omega))
  case rest =>
  obtain ⟨wA, rfl⟩ : ∃ W, W = wc := ⟨_, rfl⟩
  obtain ⟨g, k, x, y, v0, v1, v2, v3, v4, v5, v6, v7, v8, v9, rfl, rfl, hg, hk, hE, bG, bK, mG, hxa, hyb⟩ := hcut
  clear d0 d1 d2 d3 d4 d5 d6 d7 d8 d9 s0 s1 s2
  obtain ⟨i1, i2⟩ := HSI.out
  have hlow := HC.out.low
  have h3 := HC.out.ext hE
  have hB1 := h3.b11
  have hl8 := h3.p11
  have hc1 := mG.cell
  have hT : Touch B (B + 1) wA (wA.setRow B (R ++ (spotL c.State ++ [v0, v1, v2, v3, v4, v5, v6, v7, v8, v9, a])).toArray) := (Touch.refl B (B + 1) wA).setRow (Nat.le_refl _) (by omega) _
  have bK2 := bK.setRow_far (k := B) (by omega) (R ++ (spotL c.State ++ [v0, v1, v2, v3, v4, v5, v6, v7, v8, v9, a])).toArray
  have cK := fun o => bK.cell o
  have cG := fun o => bG.cell o
  have cK2 := fun o => bK2.cell o
  have H6 : Hid (ConAt (wA.setRow B (R ++ (spotL c.State ++ [v0, v1, v2, v3, v4, v5, v6, v7, v8, v9, a])).toArray) B ⟨c.Room, c.State, xs, c.Asks⟩ lo) := by
    refine HC.out.newWatch ((Touch.of_ext hE).trans hT) (mG.touch hT (.inr (by omega))) hxa (Nat.le_trans hyb hT.size) ?_
    exact (show Blk _ B _ _ from hB1).setRow _
  have HT2 := Lib.hid ((HT.out.ext hE).touch hT (Nat.lt_of_lt_of_le hgl hlow))
  have HTT := Lib.hid ((Touch.of_ext hE).trans hT)
  clear h3 hg hk hxa hyb
  go_wp2_with (refine wpList_store_seg (P := Tryz.prog) rfl 40 _ _ rfl B 11 rfl 43 _ [.slice A0 c.Watch.Room.Map.length c0, .int .i64 c.Watch.Room.Div, .int .i64 c.Watch.Room.Bx, .int .i64 c.Watch.Room.By, .int .i64 c.Watch.Room.Low, .int .i64 c.Watch.Room.High, .slice A6 c.Watch.Room.Noise.length c6, .slice A7 c.Watch.Room.Limits.length c7, .slice A8 c.Watch.Region.length c8, .slice A9 c.Watch.Log.length c9] [v0, v1, v2, v3, v4, v5, v6, v7, v8, v9] [a] rfl hB1 hl8 (by kernel_rfl) rfl hc1 ?_)
  refine (implRatioOk_any ur.N ur.D _ i1 i2).mono ?_
  rintro e w5 ⟨rfl, hx5⟩
  have cK5 := fun o => (bK2.ext hx5).cell o
  generalize wA.setRow B (R ++ (spotL c.State ++ [v0, v1, v2, v3, v4, v5, v6, v7, v8, v9, a])).toArray = wB at *
  by_cases k1 : ratioOk ⟨ur.N, ur.D⟩ = true
  · have H := Lib.hid (HD.out.trans (by rw [if_pos k1]))
    rw [k1]
    clear k1
    go_wp2_with fail
    refine (implFormatRatio_any ur.N ur.D _ i1 i2 (HT2.out.ext hx5)).mono ?_
    rintro e w6 ⟨rfl, hx6⟩
    go_wp2
    go_ret
    rw [H.out]
    exact ⟨rfl, H6.out.ext (hx5.trans hx6), HTT.out.trans (Touch.of_ext (hx5.trans hx6))⟩
  have k1' : ratioOk ⟨ur.N, ur.D⟩ = false := by simpa using k1
  have H := Lib.hid (HD.out.trans (by rw [if_neg k1]))
  rw [k1']
  clear k1 k1'
  go_wp2
  go_ret
  rw [H.out]
  exact ⟨rfl, H6.out.ext hx5, HTT.out.trans (Touch.of_ext hx5)⟩
end
end Go.Proofs.YtfnmbpjkjajpcaaGreatDoor
namespace Go.Proofs.YtfnmbpjkjajpcaaGreatDoor
open Go.ChangeShapes Go.WideShapes Go.ChangeAt Go.RowKit
set_option linter.unusedVariables false
set_option maxRecDepth 100000
def SpotCut (x : Spot) (ok : Bool) (V : World) (p o : Value) (wx : World) : Prop := ∃ g : Nat, p = .pointer (some ⟨g, 0, none⟩) ∧ o = .bool ok ∧ V.heap.size ≤ g ∧ Ext V wx ∧ Blk wx g 38 #[.int .i64 x.X, .int .i64 x.Y, .int .i64 x.D]
theorem SpotCut.new {x : Spot} {ok : Bool} {V w : World} (h : Ext V w) : SpotCut x ok V (.pointer (some ⟨w.heap.size, 0, none⟩)) (.bool ok) (w.alloc (.cells #[.int .i64 x.X, .int .i64 x.Y, .int .i64 x.D] 38)) := ⟨_, rfl, rfl, h.size, h.alloc _, Blk.new w _ _⟩
theorem SpotCut.old {x : Spot} {ok : Bool} {V w : World} {g : Nat} (h : Ext V w) (hg : V.heap.size ≤ g) (hb : Blk w g 38 #[.int .i64 0, .int .i64 0, .int .i64 0]) : SpotCut x ok V (.pointer (some ⟨g, 0, none⟩)) (.bool ok) (((w.setCell ⟨g, 0, none⟩ (.int .i64 x.X)).setCell ⟨g, 1, none⟩ (.int .i64 x.Y)).setCell ⟨g, 2, none⟩ (.int .i64 x.D)) :=
  ⟨g, rfl, rfl, hg, ((h.setCell (p := ⟨g, 0, none⟩) hg _).setCell (p := ⟨g, 1, none⟩) hg _).setCell (p := ⟨g, 2, none⟩) hg _, ((hb.set_ 0 (.int .i64 x.X)).set_ 1 (.int .i64 x.Y)).set_ 2 (.int .i64 x.D)⟩
theorem row_three {w : World} {A : Option Addr} {n0 n1 n2 : Int} (h : Row w A (ints [n0, n1, n2])) : ∃ g o, A = some ⟨g, o, none⟩ ∧ g < w.heap.size ∧ w.cell? ⟨g, o, none⟩ = some (.int .i64 n0) ∧ w.cell? ⟨g, o + 1, none⟩ = some (.int .i64 n1) ∧ w.cell? ⟨g, o + 2, none⟩ = some (.int .i64 n2) := by
  obtain ⟨g, o, e, hg, h0⟩ := h.int (k := 0) (by simp)
  obtain ⟨g', o', e', hg', h1⟩ := h.int (k := 1) (by simp)
  obtain ⟨g'', o'', e'', hg'', h2⟩ := h.int (k := 2) (by simp)
  rw [e] at e' e''
  cases e'
  cases e''
  exact ⟨g, o, e, hg, h0, h1, h2⟩
section
variable {w : World} {B lo : Nat} {c : Console} {R W : List Value} {a : Value} {rs ps qs : List (Nat × Nat)}
set_option maxHeartbeats 8000000 in
theorem setState_any (A : Option Addr) (cn : Nat) (n0 n1 n2 : Int) (h : Con w B c lo R W a rs ps qs) (hr : Row w A (ints [n0, n1, n2])) (hi0 : I64 n0) (hi1 : I64 n1) (hi2 : I64 n2) : Calls Tryz.prog 118 #[.pointer (some ⟨B, 0, none⟩), .slice A 3 cn] w (Did B (stateC c (spotOf n0 n1 n2)) lo w) := by
  obtain ⟨gn, on, rfl, hgn, hr0, hr1, hr2⟩ := row_three hr
  have HS := Lib.hid (fun w => implSpotOf_any n0 n1 n2 w hi0 hi1 hi2)
  have HD : Hid (stateC c (spotOf n0 n1 n2) = if (spotOf n0 n1 n2).2 = true then (⟨c.Room, (spotOf n0 n1 n2).1, c.Watch, c.Asks⟩, okT) else (c, noneT)) := rfl
  have HC := Lib.hid h
  have HN : Hid (∀ V, Ext w V → V.cell? ⟨gn, on, none⟩ = some (.int .i64 n0) ∧ V.cell? ⟨gn, on + 1, none⟩ = some (.int .i64 n1) ∧ V.cell? ⟨gn, on + 2, none⟩ = some (.int .i64 n2)) := fun V hV => ⟨hV.cellOf hr0, hV.cellOf hr1, hV.cellOf hr2⟩
  have hlt := h.blk.lt
  generalize stateC c (spotOf n0 n1 n2) = X at *
  generalize spotOf n0 n1 n2 = SO at *
  obtain ⟨sx, ok⟩ := SO
  dsimp only at *
  clear h hr hi0 hi1 hi2
  go_enter Tryz.func118, Tryz.ntmps118
  go_upto_region 1 with fail
  go_cut [5, 6] from 7 to 19 (fun p o wx => SpotCut sx ok w p o wx)
  case first =>
    have hcur := Ext.refl w
    have nb1 : ¬ gn = w.heap.size := by omega
    have nb2 : ¬ w.heap.size = gn := by omega
    go_region_held3 (fun w' => w'.cell? ⟨gn, on, none⟩ = some (.int .i64 n0) ∧ w'.cell? ⟨gn, on + 1, none⟩ = some (.int .i64 n1) ∧ w'.cell? ⟨gn, on + 2, none⟩ = some (.int .i64 n2))
      (go_keep)
      (first
        | (go_at_call 182; (with_reducible refine (HS.out _).mono ?_); rintro e w4 ⟨rfl, hx4⟩; (first | have hx8 := (Ext.refl _).drew.trans hx4 | have hx8 := hx4); replace hcur := Ext.trans (by first | exact hcur | exact hcur.drew | exact hcur.alloc _ | exact hcur.drew.alloc _ | exact (hcur.alloc _).drew) hx4; have y4 := hcur.size; have na1 : ¬ gn = w4.heap.size := (by omega); have na2 : ¬ w4.heap.size = gn := (by omega); obtain ⟨g0, g1, g2⟩ := HN.out _ hcur; (first | (have gA : Blk w4 w.heap.size 38 #[.int .i64 0, .int .i64 0, .int .i64 0] := (Blk.new w _ _).ext hx8; have gAc := fun o => gA.cell o; have gAf := fun o => gA.frozen o; have gAl := gA.lt) | skip)))
    all_goals
      go_wp2_with fail
      go_meet
      case rel => first | (with_reducible exact SpotCut.new hcur) | (with_reducible exact SpotCut.old hcur (Nat.le_refl _) gA)
  case rest =>
  obtain ⟨wA, rfl⟩ : ∃ W, W = wc := ⟨_, rfl⟩
  obtain ⟨g, rfl, rfl, hg, hE, bG⟩ := hcut
  have cG := fun o => bG.cell o
  cases ok
  · have H := Lib.hid (HD.out.trans (if_neg (by simp)))
    go_wp2
    go_ret
    rw [H.out]
    exact ⟨rfl, (HC.out.ext hE).at_, Touch.of_ext hE⟩
  have H := Lib.hid (HD.out.trans (if_pos rfl))
  have h3 := HC.out.ext hE
  have hB1 := h3.b8
  have hlR := h3.lenR
  clear h3
  go_wp2_with (refine wpList_store_seg (P := Tryz.prog) rfl 38 _ _ rfl B 8 rfl 43 R (spotL c.State) (spotL sx) (W ++ [a]) rfl hB1 hlR (by kernel_rfl) rfl (by simp [spotL, Value.oneCell']) ?_)
  go_ret
  rw [H.out]
  have hT := (Touch.refl B (B + 1) wA).setRow (Nat.le_refl _) (by omega) (R ++ (spotL sx ++ (W ++ [a]))).toArray
  refine ⟨rfl, ?_, (Touch.of_ext hE).trans hT⟩
  refine HC.out.newState (s := sx) ((Touch.of_ext hE).trans hT) ?_
  exact (show Blk _ B _ _ from hB1).setRow _
end
end Go.Proofs.YtfnmbpjkjajpcaaGreatDoor
namespace Go.Proofs.YtfnmbpjkjajpcaaGreatDoor
open Go.ChangeShapes Go.WideShapes Go.ChangeAt Go.RowKit
set_option linter.unusedVariables false
set_option maxRecDepth 100000
section
variable {w : World} {B lo : Nat} {c : Console} {R W : List Value} {a : Value} {rs ps qs : List (Nat × Nat)}
theorem rounds_no {r : Room} {k : Int} (h : (runQ r k).ok = false) : roundsC r k = noneT := by
  unfold roundsC
  rw [if_neg]
  rintro ⟨q1, q2⟩
  unfold runQ at h
  rw [if_pos q1, q2] at h
  cases h
theorem rounds_yes {r : Room} {k : Int} (h : (runQ r k).ok = true) : roundsC r k = orN (cornerT (runQ r k).reg) := by
  unfold roundsC
  unfold runQ at h ⊢
  split at h
  · rename_i q
    rw [if_pos ⟨q, h⟩, if_pos q]
  · cases h
theorem ratioT_bad {x : Ratio} (h : ratioOk x = false) : ratioT x = [] := by unfold ratioT; rw [if_neg (by rw [h]; simp)]
theorem lossR_snd (r : Room) (k : Nat) (h : (lossR r k).2 = false) : ratioT (lossR r k).1 = [] := by
  unfold lossR at h ⊢
  split at h
  · rename_i q
    rw [if_pos q]
    exact ratioT_bad h
  · rename_i q
    rw [if_neg q]
    rfl
theorem loss_no {r : Room} {k : Int} (h : (lossV r k).2 = false) : lossC r k = noneT := by
  unfold lossC
  unfold lossV at h
  split
  · rename_i q
    rw [if_pos q] at h
    rw [lossR_snd r _ h]
    rfl
  · rfl
theorem loss_yes {r : Room} {k : Int} (h : (lossV r k).2 = true) : lossC r k = orN (ratioT (lossV r k).1) := by
  unfold lossC
  unfold lossV at h ⊢
  split at h
  · rename_i q
    rw [if_pos q, if_pos q]
  · cases h
theorem lossV_I (r : Room) (k : Int) : I64 (lossV r k).1.N ∧ I64 (lossV r k).1.D := by
  rw [loss_eq]
  unfold lossW
  split
  · exact lossTo_I _ _ _
  · unfold I64; simp
set_option maxHeartbeats 4000000 in
theorem roundsText_any (k : Int) (h : Con w B c lo R W a rs ps qs) (hk : ConOk c) (ht : Tab w) : Calls Tryz.prog 122 #[.pointer (some ⟨B, 0, none⟩), .int .i64 k] w fun e w' => e = .returned (.string (txt (roundsC c.Room k))) ∧ Ext w w' := by
  have hFI := hk.room
  have hL := big_room hk.roomL
  obtain ⟨A0, A6, A7, c0, c6, c7, rfl, H⟩ := room_sep h.room
  have HKp := Lib.hid (fun w ha => implRunRounds_all c.Room A0 A6 A7 c0 c6 c7 k w ha hFI hL)
  have HCo := Lib.hid (fun A n cc ps w hn hr hI hle ht => implCornerLine_any A n cc ps w hn hr hI hle ht)
  have HH := Lib.hid H.here
  have HT := Lib.hid ht
  have HNo := Lib.hid (fun h => rounds_no (r := c.Room) (k := k) h)
  have HYes := Lib.hid (fun h => rounds_yes (r := c.Room) (k := k) h)
  have HOk := Lib.hid (runQ_ok c.Room k)
  obtain ⟨d0, d1, d2, d3, d4, d5, d6, d7⟩ := h.cells8
  clear hFI hL H h ht hk
  go_enter Tryz.func122, Tryz.ntmps122
  go_wp2_with fail
  refine (HKp.out _ HH.out).mono ?_
  rintro e w1 ⟨A1, c1, n1, rfl, hn1, hx1, hown1⟩
  clear d0 d1 d2 d3 d4 d5 d6 d7
  generalize runQ c.Room k = K at *
  obtain ⟨reg, kn, st, ok⟩ := K
  dsimp only at *
  subst hn1
  have bE := Blk.new w1 134 #[.slice A1 reg.length c1, .int .i64 (kn : Int), .bool st]
  have ha1 := hx1.alloc (.cells #[.slice A1 reg.length c1, .int .i64 (kn : Int), .bool st] 134)
  have cE := fun o => bE.cell o
  cases ok
  · have H := Lib.hid (HNo.out rfl)
    go_wp2
    go_ret
    rw [H.out]
    exact ⟨rfl, ha1⟩
  have H := Lib.hid (HYes.out rfl)
  have m1 := Mine.of_own (own_ext hown1 ((Ext.refl w1).alloc (.cells #[.slice A1 reg.length c1, .int .i64 (kn : Int), .bool st] 134)))
  have HM := Lib.hid m1
  clear hown1 m1
  go_wp2_with fail
  refine (HCo.out A1 reg.length c1 reg _ rfl HM.out.row (halves_I (regOk_all HOk.out)) (by have := regOk_len HOk.out; unfold maxLen; omega) (HT.out.ext ha1)).mono ?_
  rintro e w4 ⟨rfl, hx4⟩
  go_wp2_with fail
  refine (orNone_any _ _).mono ?_
  rintro e w' ⟨rfl, rfl⟩
  go_wp2
  go_ret
  rw [H.out]
  exact ⟨rfl, ha1.trans hx4⟩
set_option maxHeartbeats 4000000 in
theorem lossText_any (k : Int) (h : Con w B c lo R W a rs ps qs) (hk : ConOk c) (ht : Tab w) : Calls Tryz.prog 123 #[.pointer (some ⟨B, 0, none⟩), .int .i64 k] w fun e w' => e = .returned (.string (txt (lossC c.Room k))) ∧ Ext w w' := by
  have hFI := hk.room
  have hL := big_room hk.roomL
  obtain ⟨A0, A6, A7, c0, c6, c7, rfl, H⟩ := room_sep h.room
  have HKp := Lib.hid (fun w ha => implLossOf_any c.Room A0 A6 A7 c0 c6 c7 k w ha hFI hL)
  have HH := Lib.hid H.here
  have HT := Lib.hid ht
  have HNo := Lib.hid (fun h => loss_no (r := c.Room) (k := k) h)
  have HYes := Lib.hid (fun h => loss_yes (r := c.Room) (k := k) h)
  obtain ⟨i1, i2⟩ := lossV_I c.Room k
  obtain ⟨d0, d1, d2, d3, d4, d5, d6, d7⟩ := h.cells8
  clear hFI hL H h ht hk
  go_enter Tryz.func123, Tryz.ntmps123
  go_wp2_with fail
  refine (HKp.out _ HH.out).mono ?_
  rintro e w1 ⟨rfl, hx1⟩
  clear d0 d1 d2 d3 d4 d5 d6 d7
  generalize lossV c.Room k = K at *
  obtain ⟨⟨rn, rd⟩, ok⟩ := K
  dsimp only at *
  have bE := Blk.new w1 139 #[.int .i64 rn, .int .i64 rd]
  have ha1 := hx1.alloc (.cells #[.int .i64 rn, .int .i64 rd] 139)
  have cE := fun o => bE.cell o
  cases ok
  · have H := Lib.hid (HNo.out rfl)
    go_wp2
    go_ret
    rw [H.out]
    exact ⟨rfl, ha1⟩
  have H := Lib.hid (HYes.out rfl)
  go_wp2_with fail
  refine (implFormatRatio_any rn rd _ i1 i2 (HT.out.ext ha1)).mono ?_
  rintro e w4 ⟨rfl, hx4⟩
  go_wp2_with fail
  refine (orNone_any _ _).mono ?_
  rintro e w' ⟨rfl, rfl⟩
  go_wp2
  go_ret
  rw [H.out]
  exact ⟨rfl, ha1.trans hx4⟩
end
end Go.Proofs.YtfnmbpjkjajpcaaGreatDoor
