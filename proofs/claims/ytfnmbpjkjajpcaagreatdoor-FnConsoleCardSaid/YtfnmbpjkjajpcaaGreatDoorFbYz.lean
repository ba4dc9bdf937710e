/- Contracts of copies of rooms of the program. -/
import Derived.Test.YtfnmbpjkjajpcaaGreatDoorFbLz
import Derived.Test.YtfnmbpjkjajpcaaGreatDoorFbRz
import Derived.Test.YtfnmbpjkjajpcaaGreatDoorFbCz
import Derived.Test.YtfnmbpjkjajpcaaGreatDoorFbKz
import Derived.Test.YtfnmbpjkjajpcaaGreatDoorFbNz
import Derived.Test.YtfnmbpjkjajpcaaGreatDoorFbWi
import Derived.Test.YtfnmbpjkjajpcaaGreatDoorFbBz
import Derived.Test.YtfnmbpjkjajpcaaGreatDoorFbAz
import Derived.Test.YtfnmbpjkjajpcaaGreatDoorFbAs
namespace Go.Proofs.YtfnmbpjkjajpcaaGreatDoor
open Go.ChangeShapes Go.WideShapes Go.ChangeAt Go.RowKit
set_option linter.unusedVariables false
set_option maxRecDepth 100000
theorem intK_info : (Tryz.prog.info? 3).map (fun i => (i.zero, i.size, i.bytes)) = some (some (.int .i64 0), 1, 8) := by kernel_rfl
set_option maxHeartbeats 2000000 in
theorem cloneI_any (A : Option Addr) (n c : Nat) (zs : List Int) (w : World) (hn : zs.length = n) (hr : Row w A (ints zs)) (hA : A = none → n = 0 ∧ c = 0) (hle : n ≤ 1048576) :
    Calls Tryz.prog 114 #[.slice A n c] w fun e w' => ∃ A' c', e = .returned (.slice A' n c') ∧ Mine w' w.heap.size w'.heap.size 3 1 (.slice A' n c') n (ints zs) ∧ Ext w w' := by
  obtain ⟨i0, hi0, hz0, hz1, hz2⟩ := info_parts intK_info
  rcases A with _ | ⟨b, off, z⟩
  · obtain ⟨rfl, rfl⟩ := hA rfl
    have hnil : zs = [] := List.length_eq_zero_iff.1 hn
    subst hnil
    have q : ∀ (w : World) (a : Option Addr) (n c n' c' : Nat), (binOp .eql 31 (.slice a n c) (.slice none n' c')).run Tryz.prog w = .ok (.bool a.isNone) w := fun w a n c n' c' => Lib.run_eql_slice_nil w _ _ a n c n' c' Tryz.underlying31
    clear hr hA hn
    go_enter Tryz.func114, Tryz.ntmps114
    go_wp2
    go_ret
    exact ⟨none, 0, rfl, Mine.of_own (World.ownsRow_nil _ _ _ _), Ext.refl w⟩
  have q : ∀ (w : World) (a : Option Addr) (n c n' c' : Nat), (binOp .eql 31 (.slice a n c) (.slice none n' c')).run Tryz.prog w = .ok (.bool a.isNone) w := fun w a n c n' c' => Lib.run_eql_slice_nil w _ _ a n c n' c' Tryz.underlying31
  have hxa : Ext w (w.alloc (.cells #[] 3)) := (Ext.refl w).alloc _
  have hlit : (w.alloc (.cells #[] 3)).ownsRow w.heap.size 3 1 (.slice (some ⟨w.heap.size, 0, none⟩) 0 0) 0 [] := by
    simpa using World.ownsRow_lit (base := w.heap.size) (e := 3) (size := 1) w #[] 0 (Nat.le_refl _) (by unfold maxLen; omega) rfl
  have hca := hr.ext hxa
  have hfl : (ints zs).length = n * 1 := by rw [ints_length, hn, Nat.mul_one]
  have HN := Lib.hid hn
  clear hr hA hn
  go_enter Tryz.func114, Tryz.ntmps114
  go_wp2_with (at_builtin; go_must (refine wpList_append_src rfl _ _ 31 rfl w.heap.size 3 i0 (.int .i64 0) 1 8 Tryz.underlying31 hi0 hz0 hz1 hz2 rfl (by decide) _ _ _ rfl hlit (some ⟨b, off, z⟩) n c (ints zs) rfl (by rintro ⟨⟩) hfl hca (oneCell_ints _) (by unfold maxLen; omega) (by omega) (by simp) ?_); intro v1 w1 hown1 hgrow1; obtain ⟨A1, c1, rfl⟩ := own_form hown1)
  have hx1 : Ext w w1 := hxa.grown hgrow1 (fun g e => (World.ownsRow.lt hlit _ e).1)
  simp only [Nat.zero_add, List.nil_append] at hown1
  go_wp2
  go_ret
  exact ⟨A1, c1, rfl, Mine.of_own hown1, hx1⟩
structure RoomAll (w : World) (r : Room) (A0 A6 A7 : Option Addr) (c0 c6 c7 : Nat) : Prop where
  here : RoomHere w r A0 A6 A7 c0 c6 c7
  n0 : A0 = none → r.Map.length = 0 ∧ c0 = 0
theorem room_sep {w : World} {r : Room} {us : List Value} {rs : List (Nat × Nat)} (h : AggSep w (roomF r) us rs) : ∃ A0 A6 A7 c0 c6 c7, us = [.slice A0 r.Map.length c0, .int .i64 r.Div, .int .i64 r.Bx, .int .i64 r.By, .int .i64 r.Low, .int .i64 r.High, .slice A6 r.Noise.length c6, .slice A7 r.Limits.length c7] ∧ RoomAll w r A0 A6 A7 c0 c6 c7 := by
  obtain ⟨A0, c0, _, a0, b0, _, rfl, rfl, o0, l0, _, rfl, _, rfl, _, rfl, _, rfl, _, rfl, A6, c6, _, a6, b6, _, rfl, rfl, o6, l6, A7, c7, _, a7, b7, _, rfl, rfl, o7, l7, rfl, rfl⟩ := h
  exact ⟨A0, A6, A7, c0, c6, c7, rfl, ⟨⟨o0.row, o6.row, o7.row⟩, o6.none, o7.none⟩, o0.none⟩
theorem room_sep_mk {w' : World} {r : Room} {A0 A6 A7 : Option Addr} {c0 c6 c7 a0 b0 a6 b6 a7 b7 : Nat} (o0 : Mine w' a0 b0 3 1 (.slice A0 r.Map.length c0) r.Map.length (ints r.Map)) (o6 : Mine w' a6 b6 116 3 (.slice A6 r.Noise.length c6) r.Noise.length (ints (flat Half.ints r.Noise)))
    (o7 : Mine w' a7 b7 116 3 (.slice A7 r.Limits.length c7) r.Limits.length (ints (flat Half.ints r.Limits))) (l0 : a0 ≤ b0) (l6 : a6 ≤ b6) (l7 : a7 ≤ b7) :
    AggSep w' (roomF r) [.slice A0 r.Map.length c0, .int .i64 r.Div, .int .i64 r.Bx, .int .i64 r.By, .int .i64 r.Low, .int .i64 r.High, .slice A6 r.Noise.length c6, .slice A7 r.Limits.length c7] [(a0, b0), (a6, b6), (a7, b7)] :=
  ⟨_, _, _, _, _, _, rfl, rfl, o0, l0, _, rfl, _, rfl, _, rfl, _, rfl, _, rfl, _, _, _, _, _, _, rfl, rfl, o6, l6, _, _, _, _, _, _, rfl, rfl, o7, l7, rfl, rfl⟩
set_option maxHeartbeats 8000000 in
theorem implCopyRoom_any (r : Room) (A0 A6 A7 : Option Addr) (c0 c6 c7 : Nat) (w : World) (h : RoomAll w r A0 A6 A7 c0 c6 c7) (b0 : r.Map.length ≤ 1048576) (b6 : r.Noise.length ≤ 1048576) (b7 : r.Limits.length ≤ 1048576) :
    Calls Tryz.prog 70 #[.agg #[.slice A0 r.Map.length c0, .int .i64 r.Div, .int .i64 r.Bx, .int .i64 r.By, .int .i64 r.Low, .int .i64 r.High, .slice A6 r.Noise.length c6, .slice A7 r.Limits.length c7]] w (AggNew (roomF r) w) := by
  have HC := Lib.hid (fun w hr => cloneI_any A0 r.Map.length c0 r.Map w rfl hr h.n0 b0)
  have HP := Lib.hid (fun w hr => implCopyRegion_any A6 r.Noise.length c6 r.Noise w rfl hr h.here.n6 b6)
  have HQ := Lib.hid (fun w hr => implCopyRegion_any A7 r.Limits.length c7 r.Limits w rfl hr h.here.n7 b7)
  have HA := Lib.hid h.here.at_
  have hy : Ext w ((w.alloc (.cells #[.slice A0 r.Map.length c0, .int .i64 r.Div, .int .i64 r.Bx, .int .i64 r.By, .int .i64 r.Low, .int .i64 r.High, .slice A6 r.Noise.length c6, .slice A7 r.Limits.length c7] 36)).alloc (.cells #[.slice none 0 0, .int .i64 0, .int .i64 0, .int .i64 0, .int .i64 0, .int .i64 0, .slice none 0 0, .slice none 0 0] 36)) := ((Ext.refl w).alloc _).alloc _
  have bP := (Blk.new w 36 #[.slice A0 r.Map.length c0, .int .i64 r.Div, .int .i64 r.Bx, .int .i64 r.By, .int .i64 r.Low, .int .i64 r.High, .slice A6 r.Noise.length c6, .slice A7 r.Limits.length c7]).alloc (.cells #[.slice none 0 0, .int .i64 0, .int .i64 0, .int .i64 0, .int .i64 0, .int .i64 0, .slice none 0 0, .slice none 0 0] 36)
  have bO := Blk.new (w.alloc (.cells #[.slice A0 r.Map.length c0, .int .i64 r.Div, .int .i64 r.Bx, .int .i64 r.By, .int .i64 r.Low, .int .i64 r.High, .slice A6 r.Noise.length c6, .slice A7 r.Limits.length c7] 36)) 36 #[.slice none 0 0, .int .i64 0, .int .i64 0, .int .i64 0, .int .i64 0, .int .i64 0, .slice none 0 0, .slice none 0 0]
  simp only [World.size_alloc] at bO
  clear h
  have cP := fun o => bP.cell o
  have fP := fun o => bP.frozen o
  have cO := fun o => bO.cell o
  have fO := fun o => bO.frozen o
  go_enter Tryz.func70, Tryz.ntmps70
  go_wp2_with fail
  refine (HC.out _ (HA.out.m.ext hy)).mono ?_
  rintro e w1 ⟨A1, c1, rfl, o0, hx1⟩
  have hz1 := hx1.size
  simp only [World.size_alloc] at hz1
  try simp only [World.size_alloc] at o0
  replace hy := hy.trans hx1
  replace bP := bP.ext hx1
  replace bO := bO.ext hx1
  clear cP fP cO fO
  have cP1 := fun o => bP.cell o
  have fP1 := fun o => bP.frozen o
  have cO1 := fun o => bO.cell o
  have fO1 := fun o => bO.frozen o
  go_wp2_with fail
  have hy2 := hy.setCell (p := ⟨w.heap.size, 0, none⟩) (by simp only; omega) (.slice A1 r.Map.length c1)
  refine (HP.out _ (HA.out.p.ext hy2)).mono ?_
  rintro e w2 ⟨A2, c2, n2, rfl, hn2, hx2, ow2⟩
  subst n2
  have o6 := Mine.of_own ow2
  have hz2 := hx2.size
  simp only [World.size_setCell] at hz2 o6
  replace hy := hy2.trans hx2
  replace bP := (bP.set_ 0 (.slice A1 r.Map.length c1)).ext hx2
  replace bO := (bO.far (p := ⟨w.heap.size, 0, none⟩) (by simp only; omega) (.slice A1 r.Map.length c1)).ext hx2
  replace o0 := (o0.setB (p := ⟨w.heap.size, 0, none⟩) (.inl (by simp only; omega)) (.slice A1 r.Map.length c1)).ext hx2
  clear cP1 fP1 cO1 fO1 ow2 hy2
  have cP2 := fun o => bP.cell o
  have fP2 := fun o => bP.frozen o
  have cO2 := fun o => bO.cell o
  have fO2 := fun o => bO.frozen o
  go_wp2_with fail
  have hy3 := hy.setCell (p := ⟨w.heap.size, 6, none⟩) (by simp only; omega) (.slice A2 r.Noise.length c2)
  refine (HQ.out _ (HA.out.q.ext hy3)).mono ?_
  rintro e w3 ⟨A3, c3, n3, rfl, hn3, hx3, ow3⟩
  subst n3
  have o7 := Mine.of_own ow3
  have hz3 := hx3.size
  simp only [World.size_setCell] at hz3 o7
  replace hy := hy3.trans hx3
  replace bP := (bP.set_ 6 (.slice A2 r.Noise.length c2)).ext hx3
  replace bO := (bO.far (p := ⟨w.heap.size, 6, none⟩) (by simp only; omega) (.slice A2 r.Noise.length c2)).ext hx3
  replace o0 := (o0.setB (p := ⟨w.heap.size, 6, none⟩) (.inl (by simp only; omega)) (.slice A2 r.Noise.length c2)).ext hx3
  replace o6 := (o6.setB (p := ⟨w.heap.size, 6, none⟩) (.inl (by simp only; omega)) (.slice A2 r.Noise.length c2)).ext hx3
  clear cP2 fP2 cO2 fO2 ow3 hy3
  have cP3 := fun o => bP.cell o
  have fP3 := fun o => bP.frozen o
  have cO3 := fun o => bO.cell o
  have fO3 := fun o => bO.frozen o
  go_wp2
  refine bodyPost_ret (v := .agg #[.slice A1 r.Map.length c1, .int .i64 r.Div, .int .i64 r.Bx, .int .i64 r.By, .int .i64 r.Low, .int .i64 r.High, .slice A2 r.Noise.length c2, .slice A3 r.Limits.length c3]) (by simp [results, Tryz.results70, go_sem, cO3]) rfl ?_
  have q : AggIn w3 (roomF r) _ (w.heap.size + 2) w3.heap.size := ⟨_, room_sep_mk o0 o6 o7 (by omega) (by omega) (by omega), ⟨forall_mem2 (.inl (by simp only; omega)) (.inl (by simp only; omega)), forall_mem1 (.inl (by simp only; omega)), (fun _ h => by cases h), True.intro⟩, forall_mem3 (by simp only; omega) (by simp only; omega) (by simp only; omega)⟩
  have T : ∀ V, Touch w.heap.size (w.heap.size + 2) w3 V → AggNew (roomF r) w (.returned (.agg #[.slice A1 r.Map.length c1, .int .i64 r.Div, .int .i64 r.Bx, .int .i64 r.By, .int .i64 r.Low, .int .i64 r.High, .slice A2 r.Noise.length c2, .slice A3 r.Limits.length c3])) V :=
    fun V T => ⟨_, rfl, (q.touch T (.inr (by omega))).wide (by omega) T.size, hy.touch T (Nat.le_refl _)⟩
  refine T _ ?_
  repeat (first | (with_reducible exact Touch.refl _ _ _) | refine Touch.setCell ?_ (by simp only; omega) (by simp only; omega) _)
end Go.Proofs.YtfnmbpjkjajpcaaGreatDoor
namespace Go.Proofs.YtfnmbpjkjajpcaaGreatDoor
open Go.ChangeShapes Go.WideShapes Go.ChangeAt Go.RowKit
set_option linter.unusedVariables false
set_option maxRecDepth 100000
theorem big_room {r : Room} (h : Big r.Map.length ∧ Big r.Noise.length ∧ Big r.Limits.length) : RoomL r := by
  obtain ⟨h1, h2, h3⟩ := h
  unfold Big at h1 h2 h3
  constructor <;> (unfold maxLen; omega)
section
variable {r : Room} {R : List Value} {rs : List (Nat × Nat)} {w : World}
end
end Go.Proofs.YtfnmbpjkjajpcaaGreatDoor
namespace Go.Proofs.YtfnmbpjkjajpcaaGreatDoor
open Go.ChangeShapes Go.WideShapes Go.ChangeAt Go.RowKit
set_option linter.unusedVariables false
set_option maxRecDepth 100000
set_option maxHeartbeats 8000000 in
theorem implIsKept_any (r : Room) (A0 A6 A7 : Option Addr) (c0 c6 c7 : Nat) (A : Option Addr) (n c : Nat) (ps : List Half) (w : World) (ha : RoomHere w r A0 A6 A7 c0 c6 c7) (hFI : roomFI r) (hRL : RoomL r)
    (hn : ps.length = n) (hr : Row w A (ints (flat Half.ints ps))) (hA : A = none → n = 0 ∧ c = 0) (hI : HalvesI ps) (hle : n ≤ maxLen) :
    Calls Tryz.prog 254 #[.agg #[.slice A0 r.Map.length c0, .int .i64 r.Div, .int .i64 r.Bx, .int .i64 r.By, .int .i64 r.Low, .int .i64 r.High, .slice A6 r.Noise.length c6, .slice A7 r.Limits.length c7], .agg #[.slice A n c]] w fun e w' => e = .returned (.bool (isKeptR r ps)) ∧ Ext w w' := by
  have HRo := Lib.hid (fun w h => implRoomOk_any r A0 A6 A7 c0 c6 c7 w h hFI hRL)
  have HO := Lib.hid (fun w hr => implRegionOk_any A n c ps w hn hr hI hle)
  have HW := Lib.hid (fun w hr hp hr' hq => implWithin_ok A n c ps A7 r.Limits.length c7 r.Limits w hn hr hp rfl hr' hq)
  have HPre := Lib.hid (fun w hv ha hr hpk => implPre_ok r A0 A6 A7 c0 c6 c7 A n c ps w hv ha hn hr hA hpk)
  have HW2 := Lib.hid (fun A' n' c' qs w hr hp hn' hr' hq => implWithin_ok A n c ps A' n' c' qs w hn hr hp hn' hr' hq)
  have HPk : Hid (regOk (preR r ps).1 = true) := preR_ok r ps
  have HV := Lib.hid (fun h => room_valid (r := r) h)
  have HD : Hid (isKeptR r ps = (roomOk r && regOk ps && withinR ps r.Limits && (preR r ps).2 && withinR ps (preR r ps).1)) := rfl
  have HR := Lib.hid hr
  have HAA := Lib.hid ha
  have hx : Ext w ((w.alloc (.cells #[.slice A0 r.Map.length c0, .int .i64 r.Div, .int .i64 r.Bx, .int .i64 r.By, .int .i64 r.Low, .int .i64 r.High, .slice A6 r.Noise.length c6, .slice A7 r.Limits.length c7] 36)).alloc (.cells #[.slice A n c] 34)) := ((Ext.refl w).alloc _).alloc _
  have bM := (Blk.new w 36 #[.slice A0 r.Map.length c0, .int .i64 r.Div, .int .i64 r.Bx, .int .i64 r.By, .int .i64 r.Low, .int .i64 r.High, .slice A6 r.Noise.length c6, .slice A7 r.Limits.length c7]).alloc (.cells #[.slice A n c] 34)
  have bP := Blk.new (w.alloc (.cells #[.slice A0 r.Map.length c0, .int .i64 r.Div, .int .i64 r.Bx, .int .i64 r.By, .int .i64 r.Low, .int .i64 r.High, .slice A6 r.Noise.length c6, .slice A7 r.Limits.length c7] 36)) 34 #[.slice A n c]
  simp only [World.size_alloc] at bP
  clear ha hFI hRL hn hr hA hI hle
  generalize isKeptR r ps = IK at *
  have cbM_1 := fun o => bM.cell o
  have cbP_2 := fun o => bP.cell o
  go_enter Tryz.func254, Tryz.ntmps254
  go_wp2_with fail
  refine (HRo.out _ (HAA.out.ext hx).at_).mono ?_
  rintro e w1 ⟨rfl, hx1⟩
  replace hx := hx.trans hx1
  replace bM := bM.ext hx1
  replace bP := bP.ext hx1
  have cbM_3 := fun o => bM.cell o
  have cbP_4 := fun o => bP.cell o
  by_cases h1 : roomOk r = true
  rotate_left
  · have h1' : roomOk r = false := by simpa using h1
    have H : Hid (IK = false) := by rw [Hid, HD.out, h1']; rfl
    rw [h1']
    clear h1 h1'
    go_wp2
    go_ret
    exact ⟨ret_bool H.out.symm, hx⟩
  have H1 := Lib.hid h1
  rw [h1]
  clear h1
  go_wp2_with fail
  refine (HO.out _ (HR.out.ext hx)).mono ?_
  rintro e w2 ⟨rfl, hx2⟩
  replace hx := hx.trans hx2
  replace bM := bM.ext hx2
  replace bP := bP.ext hx2
  have cbM_5 := fun o => bM.cell o
  have cbP_6 := fun o => bP.cell o
  by_cases h2 : regOk ps = true
  rotate_left
  · have h2' : regOk ps = false := by simpa using h2
    have H : Hid (IK = false) := by rw [Hid, HD.out, H1.out, h2']; rfl
    rw [h2']
    clear h2 h2'
    go_wp2
    go_ret
    exact ⟨ret_bool H.out.symm, hx⟩
  have H2 := Lib.hid h2
  rw [h2]
  clear h2
  have hv := HV.out H1.out
  have HVV := Lib.hid hv
  clear hv
  go_wp2_with fail
  refine (HW.out _ (HR.out.ext hx) H2.out (HAA.out.ext hx).at_.q HVV.out.limits).mono ?_
  rintro e w3 ⟨rfl, hx3⟩
  replace hx := hx.trans hx3
  replace bM := bM.ext hx3
  replace bP := bP.ext hx3
  have cbM_7 := fun o => bM.cell o
  have cbP_8 := fun o => bP.cell o
  by_cases h3 : withinR ps r.Limits = true
  rotate_left
  · have h3' : withinR ps r.Limits = false := by simpa using h3
    have H : Hid (IK = false) := by rw [Hid, HD.out, H1.out, H2.out, h3']; rfl
    rw [h3']
    clear h3 h3'
    go_wp2
    go_ret
    exact ⟨ret_bool H.out.symm, hx⟩
  have H3 := Lib.hid h3
  rw [h3]
  clear h3
  go_wp2_with fail
  refine (HPre.out _ HVV.out (HAA.out.ext hx) (HR.out.ext hx) H2.out).mono ?_
  rintro e w4 ⟨A4, c4, n4, rfl, hn4, hx4, hown4⟩
  replace hx := hx.trans hx4
  replace bM := bM.ext hx4
  replace bP := bP.ext hx4
  have cbM_9 := fun o => bM.cell o
  have cbP_10 := fun o => bP.cell o
  generalize preR r ps = PR at *
  obtain ⟨Q, ok⟩ := PR
  dsimp only at *
  subst hn4
  have bE := Blk.new w4 34 #[.slice A4 Q.length c4]
  have ha4 := (Ext.refl w4).alloc (.cells #[.slice A4 Q.length c4] 34)
  replace hx := hx.trans ha4
  replace bM := bM.ext ha4
  replace bP := bP.ext ha4
  have cbM_11 := fun o => bM.cell o
  have cbP_12 := fun o => bP.cell o
  replace hown4 := own_ext hown4 ha4
  have cE := fun o => bE.cell o
  cases ok
  · have H : Hid (IK = false) := by rw [Hid, HD.out, H1.out, H2.out, H3.out]; rfl
    go_wp2
    go_ret
    exact ⟨ret_bool H.out.symm, hx⟩
  have H : Hid (IK = withinR ps Q) := by rw [Hid, HD.out, H1.out, H2.out, H3.out]; rfl
  go_wp2_with fail
  refine (HW2.out A4 Q.length c4 Q _ (HR.out.ext hx) H2.out rfl (Row.of_own hown4) HPk.out).mono ?_
  rintro e w5 ⟨rfl, hx5⟩
  replace hx := hx.trans hx5
  replace bM := bM.ext hx5
  replace bP := bP.ext hx5
  replace bE := bE.ext hx5
  have cbM_13 := fun o => bM.cell o
  have cbP_14 := fun o => bP.cell o
  have cbE_15 := fun o => bE.cell o
  obtain ⟨b, hb⟩ : ∃ b, withinR ps Q = b := ⟨_, rfl⟩
  have HF := Lib.hid (H.out.trans hb)
  rw [hb]
  clear hb H
  cases b
  all_goals
    go_wp2
    go_ret
    exact ⟨ret_bool HF.out.symm, hx⟩
end Go.Proofs.YtfnmbpjkjajpcaaGreatDoor
namespace Go.Proofs.YtfnmbpjkjajpcaaGreatDoor
open Go.ChangeShapes Go.WideShapes Go.ChangeAt Go.RowKit
set_option linter.unusedVariables false
set_option maxRecDepth 100000
structure WatchAll (w : World) (x : Watch) (A0 A6 A7 A8 A9 : Option Addr) (c0 c6 c7 c8 c9 : Nat) : Prop where
  room : RoomAll w x.Room A0 A6 A7 c0 c6 c7
  reg : Row w A8 (ints (flat Half.ints x.Region))
  n8 : A8 = none → x.Region.length = 0 ∧ c8 = 0
  log : Row w A9 (ints x.Log)
  n9 : A9 = none → x.Log.length = 0 ∧ c9 = 0
theorem RoomAll.ext {w w' : World} {r : Room} {A0 A6 A7 : Option Addr} {c0 c6 c7 : Nat} (h : RoomAll w r A0 A6 A7 c0 c6 c7) (hx : Ext w w') : RoomAll w' r A0 A6 A7 c0 c6 c7 := ⟨h.here.ext hx, h.n0⟩
theorem WatchAll.ext {w w' : World} {x : Watch} {A0 A6 A7 A8 A9 : Option Addr} {c0 c6 c7 c8 c9 : Nat} (h : WatchAll w x A0 A6 A7 A8 A9 c0 c6 c7 c8 c9) (hx : Ext w w') : WatchAll w' x A0 A6 A7 A8 A9 c0 c6 c7 c8 c9 :=
  ⟨h.room.ext hx, h.reg.ext hx, h.n8, h.log.ext hx, h.n9⟩
theorem watch_sep {w : World} {x : Watch} {us : List Value} {rs : List (Nat × Nat)} (h : AggSep w (watchF x) us rs) : ∃ A0 A6 A7 A8 A9 c0 c6 c7 c8 c9, us = [.slice A0 x.Room.Map.length c0, .int .i64 x.Room.Div, .int .i64 x.Room.Bx, .int .i64 x.Room.By, .int .i64 x.Room.Low, .int .i64 x.Room.High, .slice A6 x.Room.Noise.length c6, .slice A7 x.Room.Limits.length c7, .slice A8 x.Region.length c8, .slice A9 x.Log.length c9] ∧ WatchAll w x A0 A6 A7 A8 A9 c0 c6 c7 c8 c9 := by
  obtain ⟨A0, c0, _, a0, b0, _, rfl, rfl, o0, l0, _, rfl, _, rfl, _, rfl, _, rfl, _, rfl, A6, c6, _, a6, b6, _, rfl, rfl, o6, l6, A7, c7, _, a7, b7, _, rfl, rfl, o7, l7, A8, c8, _, a8, b8, _, rfl, rfl, o8, l8, A9, c9, _, a9, b9, _, rfl, rfl, o9, l9, rfl, rfl⟩ := h
  exact ⟨A0, A6, A7, A8, A9, c0, c6, c7, c8, c9, rfl, ⟨⟨⟨⟨o0.row, o6.row, o7.row⟩, o6.none, o7.none⟩, o0.none⟩, o8.row, o8.none, o9.row, o9.none⟩⟩
def okTo (l : List Int) (k : Nat) : Bool := (l.take k).all fun v => inR v 1 3
theorem okTo_next {l : List Int} {k : Nat} (h : k < l.length) (h0 : okTo l k = true) (h1 : inR l[k] 1 3 = true) : okTo l (k + 1) = true := by
  unfold okTo at h0 ⊢
  rw [take_next h, List.all_append, h0]
  simp [h1]
theorem okTo_no {l : List Int} {k : Nat} (h : k < l.length) (h1 : inR l[k] 1 3 = false) : l.all (fun v => inR v 1 3) = false := by
  rw [List.all_eq_false]
  exact ⟨_, List.getElem_mem h, by simp [h1]⟩
theorem okTo_all (l : List Int) : okTo l l.length = l.all fun v => inR v 1 3 := by unfold okTo; rw [List.take_length]
theorem watchOk_eq (x : Watch) : watchOkR x = (decide (x.Log.length ≤ 40) && x.Log.all (fun v => inR v 1 3) && !decide (x.Region = []) && isKeptR x.Room x.Region) := rfl
set_option maxHeartbeats 8000000 in
theorem implWatchOk_any (x : Watch) (A0 A6 A7 A8 A9 : Option Addr) (c0 c6 c7 c8 c9 : Nat) (w : World) (h : WatchAll w x A0 A6 A7 A8 A9 c0 c6 c7 c8 c9) (hFI : watchFI x) (hRL : RoomL x.Room) (h8 : x.Region.length ≤ maxLen) (h9 : x.Log.length ≤ maxLen) :
    Calls Tryz.prog 304 #[.agg #[.slice A0 x.Room.Map.length c0, .int .i64 x.Room.Div, .int .i64 x.Room.Bx, .int .i64 x.Room.By, .int .i64 x.Room.Low, .int .i64 x.Room.High, .slice A6 x.Room.Noise.length c6, .slice A7 x.Room.Limits.length c7, .slice A8 x.Region.length c8, .slice A9 x.Log.length c9]] w fun e w' => e = .returned (.bool (watchOkR x)) ∧ Ext w w' := by
  have HV := Lib.hid (fun w => implIsVoid_any A8 x.Region.length c8 w h8)
  obtain ⟨f0, f1, f2, f3, f4, f5, f6, f7, f8, f9⟩ := hFI
  have HK := Lib.hid (fun w ha hr => implIsKept_any x.Room A0 A6 A7 c0 c6 c7 A8 x.Region.length c8 x.Region w ha ⟨f0, f1, f2, f3, f4, f5, f6, f7⟩ hRL rfl hr h.n8 f8 h8)
  have HD := Lib.hid (watchOk_eq x)
  have HA := Lib.hid h
  have hx : Ext w (w.alloc (.cells #[.slice A0 x.Room.Map.length c0, .int .i64 x.Room.Div, .int .i64 x.Room.Bx, .int .i64 x.Room.By, .int .i64 x.Room.Low, .int .i64 x.Room.High, .slice A6 x.Room.Noise.length c6, .slice A7 x.Room.Limits.length c7, .slice A8 x.Region.length c8, .slice A9 x.Log.length c9] 40)) := (Ext.refl w).alloc _
  have bM := Blk.new w 40 #[.slice A0 x.Room.Map.length c0, .int .i64 x.Room.Div, .int .i64 x.Room.Bx, .int .i64 x.Room.By, .int .i64 x.Room.Low, .int .i64 x.Room.High, .slice A6 x.Room.Noise.length c6, .slice A7 x.Room.Limits.length c7, .slice A8 x.Region.length c8, .slice A9 x.Log.length c9]
  have HE : Hid (decide (x.Region.length = 0) = decide (x.Region = [])) := by
    rw [Hid]
    by_cases q : x.Region = []
    · rw [decide_eq_true q, q]; rfl
    · rw [decide_eq_false q, decide_eq_false (fun e => q (List.length_eq_zero_iff.1 e))]
  have HYes := Lib.hid (okTo_all x.Log)
  have HNo := Lib.hid (fun k hk h1 => okTo_no (l := x.Log) (k := k) hk h1)
  have HNx := Lib.hid (fun k hk h0 h1 => okTo_next (l := x.Log) (k := k) hk h0 h1)
  obtain ⟨n, hn⟩ : ∃ n, x.Log.length = n := ⟨_, rfl⟩
  have HN := Lib.hid hn
  rw [HN.out] at h9
  have HLog := Lib.hid (fun w hx => (HA.out.log.ext (w' := w) hx))
  generalize watchOkR x = WO at *
  rw [hn] at HD HYes bM hx ⊢
  have cM := fun o => bM.cell o
  clear h hRL hn h8 f0 f1 f2 f3 f4 f5 f6 f7 f8 f9
  go_enter Tryz.func304, Tryz.ntmps304
  by_cases h40 : (40 : Int) < (n : Int)
  · have hb : decide ((40 : Int) < (n : Int)) = true := decide_eq_true h40
    have H : Hid (WO = false) := by rw [Hid, HD.out, decide_eq_false (by omega : ¬ n ≤ 40)]; rfl
    go_wp2
    go_ret
    exact ⟨ret_bool H.out.symm, hx⟩
  have hb : decide ((40 : Int) < (n : Int)) = false := decide_eq_false h40
  have H40 : Hid (decide (n ≤ 40) = true) := decide_eq_true (by omega)
  go_wp2
  go_loop [12] (fun i => ∃ k : Nat, k ≤ n ∧ i = .int .i64 k ∧ Hid (okTo x.Log k = true)) (fun i => n - (intOf i).toNat)
  case atStart => exact ⟨0, Nat.zero_le _, rfl, rfl⟩
  case round =>
  obtain ⟨k, hk, rfl, HPre⟩ := hrel
  by_cases hlt : k < n
  · have hlt2 : (k : Int) < (n : Int) := by omega
    have hkl : k < x.Log.length := by rw [HN.out]; exact hlt
    obtain ⟨b, off, rfl, hb1, hc⟩ := (HLog.out _ hx).int (k := k) hkl
    have HNk := Lib.hid (HNo.out k hkl)
    have HXk := Lib.hid (HNx.out k hkl HPre.out)
    obtain ⟨z, hz⟩ : ∃ z, x.Log[k]'hkl = z := ⟨_, rfl⟩
    rw [hz] at hc HNk HXk
    clear hz
    by_cases hi : inR z 1 3 = true
    · have H1 := Lib.hid (HXk.out hi)
      have HIn := Lib.hid (fun w => inRange_any z 1 3 w)
      rw [hi] at HIn
      clear hi HXk HNk
      go_wp2_with fail
      refine (HIn.out _).mono ?_
      rintro e w' ⟨rfl, rfl⟩
      go_wp2
      go_round
      case rel => exact ⟨k + 1, by omega, by go_num, H1⟩
      case measure => simp [intOf]; omega
    · have hi' : inR z 1 3 = false := by simpa using hi
      have H1 : Hid (WO = false) := by rw [Hid, HD.out, H40.out, HNk.out hi']; rfl
      have HIn := Lib.hid (fun w => inRange_any z 1 3 w)
      rw [hi'] at HIn
      clear hi hi' HXk HNk
      go_wp2_with fail
      refine (HIn.out _).mono ?_
      rintro e w' ⟨rfl, rfl⟩
      go_wp2
      go_ret
      exact ⟨ret_bool H1.out.symm, hx⟩
  · obtain rfl : k = n := by omega
    have HL : Hid (x.Log.all (fun v => inR v 1 3) = true) := by rw [Hid, ← HYes.out]; exact HPre.out
    have hbk := bM
    go_wp2_with fail
    refine (HV.out _).mono ?_
    rintro e w1 ⟨rfl, hx1⟩
    replace hx := hx.trans hx1
    replace bM := bM.ext hx1
    have cbM_16 := fun o => bM.cell o
    by_cases hv : x.Region.length = 0
    · have hv2 : decide (x.Region.length = 0) = true := decide_eq_true hv
      have H : Hid (WO = false) := by rw [Hid, HD.out, H40.out, HL.out, ← HE.out, hv2]; rfl
      rw [hv2]
      clear hv hv2
      go_wp2
      go_ret
      exact ⟨ret_bool H.out.symm, hx⟩
    have hv2 : decide (x.Region.length = 0) = false := decide_eq_false hv
    have H : Hid (WO = isKeptR x.Room x.Region) := by rw [Hid, HD.out, H40.out, HL.out, ← HE.out, hv2]; rfl
    rw [hv2]
    clear hv hv2
    go_wp2_with fail
    refine (HK.out _ (HA.out.ext hx).room.here (HA.out.ext hx).reg).mono ?_
    rintro e w2 ⟨rfl, hx2⟩
    replace hx := hx.trans hx2
    replace bM := bM.ext hx2
    have cbM_17 := fun o => bM.cell o
    obtain ⟨b, hb⟩ : ∃ b, isKeptR x.Room x.Region = b := ⟨_, rfl⟩
    have HF := Lib.hid (H.out.trans hb)
    rw [hb]
    clear hb H
    cases b
    all_goals
      go_wp2
      go_ret
      exact ⟨ret_bool HF.out.symm, hx⟩
end Go.Proofs.YtfnmbpjkjajpcaaGreatDoor
namespace Go.Proofs.YtfnmbpjkjajpcaaGreatDoor
open Go.ChangeShapes Go.WideShapes Go.ChangeAt Go.RowKit
set_option linter.unusedVariables false
set_option maxRecDepth 100000
theorem ratio_I2 {u : Ratio} (h : ratioOk u = true) : I64 u.N ∧ I64 u.D := by
  have := ratioOk_bd h
  unfold I64
  omega
theorem span_I2 {w : Span} (h : spanOk w = true) : (I64 w.Low.N ∧ I64 w.Low.D) ∧ (I64 w.High.N ∧ I64 w.High.D) := by
  unfold spanOk at h
  simp only [Bool.and_eq_true] at h
  exact ⟨ratio_I2 h.1.1, ratio_I2 h.1.2⟩
theorem judge_bad {x : Watch} {s : Spot} {u : Ratio} (h : watchOkR x = false) : judgeW x s u = (⟨0, 0⟩, 3) := by
  unfold judgeW
  rw [if_neg (fun q => by rw [h] at q; cases q.1)]
theorem judge_no {x : Watch} {s : Spot} {u : Ratio} (h : (admW x.Room x.Region s).2 = false) : judgeW x s u = (⟨0, 0⟩, 3) := by
  unfold judgeW
  rw [if_neg (fun q => by rw [h] at q; cases q.2)]
theorem judge_in {x : Watch} {s : Spot} {u : Ratio} (h : watchOkR x = true) (h1 : (admW x.Room x.Region s).2 = true) (h2 : inSpan (admW x.Room x.Region s).1 u = true) : judgeW x s u = (u, 1) := by
  unfold judgeW
  rw [if_pos ⟨h, h1⟩, if_pos h2]
theorem judge_low {x : Watch} {s : Spot} {u : Ratio} (h : watchOkR x = true) (h1 : (admW x.Room x.Region s).2 = true) (h2 : inSpan (admW x.Room x.Region s).1 u = false) (h3 : ratioOk u = false ∨ ratioCmp u (admW x.Room x.Region s).1.Low < 0) : judgeW x s u = ((admW x.Room x.Region s).1.Low, 2) := by
  unfold judgeW
  rw [if_pos ⟨h, h1⟩, if_neg (by rw [h2]; simp), if_pos h3]
theorem judge_high {x : Watch} {s : Spot} {u : Ratio} (h : watchOkR x = true) (h1 : (admW x.Room x.Region s).2 = true) (h2 : inSpan (admW x.Room x.Region s).1 u = false) (h3 : ratioOk u = true) (h4 : ¬ ratioCmp u (admW x.Room x.Region s).1.Low < 0) : judgeW x s u = ((admW x.Room x.Region s).1.High, 2) := by
  unfold judgeW
  rw [if_pos ⟨h, h1⟩, if_neg (by rw [h2]; simp), if_neg (fun q => by rcases q with q | q; rw [h3] at q; cases q; exact h4 q)]
theorem watchOk_room {x : Watch} (h : watchOkR x = true) : RoomV x.Room ∧ regOk x.Region = true := by
  rw [watchOk_eq] at h
  simp only [Bool.and_eq_true] at h
  have h2 := h.2
  unfold isKeptR at h2
  simp only [Bool.and_eq_true] at h2
  exact ⟨room_valid h2.1.1.1.1, h2.1.1.1.2⟩
set_option maxHeartbeats 8000000 in
theorem implAdmitAt_bad (r : Room) (A0 A6 A7 : Option Addr) (c0 c6 c7 : Nat) (A : Option Addr) (n c : Nat) (ps : List Half) (s : Spot) (w : World) (hv : RoomV r) (ha : RoomHere w r A0 A6 A7 c0 c6 c7) (hn : ps.length = n) (hr : Row w A (ints (flat Half.ints ps))) (hA : A = none → n = 0 ∧ c = 0) (hpk : regOk ps = true) (hsk : spotOk s = false) (s1 : I64 s.X) (s2 : I64 s.Y) (s3 : I64 s.D) :
    Calls Tryz.prog 250 #[.agg #[.slice A0 r.Map.length c0, .int .i64 r.Div, .int .i64 r.Bx, .int .i64 r.By, .int .i64 r.Low, .int .i64 r.High, .slice A6 r.Noise.length c6, .slice A7 r.Limits.length c7], .agg #[.slice A n c], .agg #[.int .i64 s.X, .int .i64 s.Y, .int .i64 s.D]] w (SpanMade (zeroSpan, false) w) := by
  have HRo := Lib.hid (fun w ha hr => implRobustOf_ok r A0 A6 A7 c0 c6 c7 A n c ps w hv ha hn hr hpk)
  have HSk := Lib.hid (fun w => implSpotOk_any s.X s.Y s.D w s1 s2 s3)
  have hsk' : spotOk ⟨s.X, s.Y, s.D⟩ = false := hsk
  rw [hsk'] at HSk
  have hx : Ext w ((((w.alloc (.cells #[.slice A0 r.Map.length c0, .int .i64 r.Div, .int .i64 r.Bx, .int .i64 r.By, .int .i64 r.Low, .int .i64 r.High, .slice A6 r.Noise.length c6, .slice A7 r.Limits.length c7] 36)).alloc (.cells #[.slice A n c] 34)).alloc (.cells #[.int .i64 s.X, .int .i64 s.Y, .int .i64 s.D] 38)).alloc (.cells #[.int .i64 0, .int .i64 0, .int .i64 0, .int .i64 0] 178)) := (((((Ext.refl w).alloc _).alloc _).alloc _).alloc _)
  have bM := ((((Blk.new w 36 #[.slice A0 r.Map.length c0, .int .i64 r.Div, .int .i64 r.Bx, .int .i64 r.By, .int .i64 r.Low, .int .i64 r.High, .slice A6 r.Noise.length c6, .slice A7 r.Limits.length c7]).alloc (.cells #[.slice A n c] 34)).alloc (.cells #[.int .i64 s.X, .int .i64 s.Y, .int .i64 s.D] 38)).alloc (.cells #[.int .i64 0, .int .i64 0, .int .i64 0, .int .i64 0] 178))
  have bP := (((Blk.new (w.alloc (.cells #[.slice A0 r.Map.length c0, .int .i64 r.Div, .int .i64 r.Bx, .int .i64 r.By, .int .i64 r.Low, .int .i64 r.High, .slice A6 r.Noise.length c6, .slice A7 r.Limits.length c7] 36)) 34 #[.slice A n c]).alloc (.cells #[.int .i64 s.X, .int .i64 s.Y, .int .i64 s.D] 38)).alloc (.cells #[.int .i64 0, .int .i64 0, .int .i64 0, .int .i64 0] 178))
  have bS := ((Blk.new ((w.alloc (.cells #[.slice A0 r.Map.length c0, .int .i64 r.Div, .int .i64 r.Bx, .int .i64 r.By, .int .i64 r.Low, .int .i64 r.High, .slice A6 r.Noise.length c6, .slice A7 r.Limits.length c7] 36)).alloc (.cells #[.slice A n c] 34)) 38 #[.int .i64 s.X, .int .i64 s.Y, .int .i64 s.D]).alloc (.cells #[.int .i64 0, .int .i64 0, .int .i64 0, .int .i64 0] 178))
  have bR := (Blk.new (((w.alloc (.cells #[.slice A0 r.Map.length c0, .int .i64 r.Div, .int .i64 r.Bx, .int .i64 r.By, .int .i64 r.Low, .int .i64 r.High, .slice A6 r.Noise.length c6, .slice A7 r.Limits.length c7] 36)).alloc (.cells #[.slice A n c] 34)).alloc (.cells #[.int .i64 s.X, .int .i64 s.Y, .int .i64 s.D] 38)) 178 #[.int .i64 0, .int .i64 0, .int .i64 0, .int .i64 0])
  simp only [World.size_alloc] at bP bS bR
  have HR := Lib.hid hr
  have HA := Lib.hid ha
  clear hv ha hn hr hpk hA s1 s2 s3 hsk hsk'
  generalize robR ps r.Noise = RR at *
  have cbM_18 := fun o => bM.cell o
  have cbP_19 := fun o => bP.cell o
  have cbS_20 := fun o => bS.cell o
  have cbR_21 := fun o => bR.cell o
  have fbR_21 := fun o => bR.frozen o
  go_enter Tryz.func250, Tryz.ntmps250
  go_wp2_with fail
  refine (HRo.out _ (HA.out.ext hx) (HR.out.ext hx)).mono ?_
  rintro e w1 ⟨A1, c1, n1, rfl, hn1, hx1, hown1⟩
  replace hx := hx.trans hx1
  replace bM := bM.ext hx1
  replace bP := bP.ext hx1
  replace bS := bS.ext hx1
  replace bR := bR.ext hx1
  have cbM_22 := fun o => bM.cell o
  have cbP_23 := fun o => bP.cell o
  have cbS_24 := fun o => bS.cell o
  have cbR_25 := fun o => bR.cell o
  have fbR_25 := fun o => bR.frozen o
  have hs1 := bR.lt
  obtain ⟨E, ok⟩ := RR
  dsimp only at *
  subst hn1
  have bE := Blk.new w1 34 #[.slice A1 E.length c1]
  have hx0 := hx
  have bR0 := bR
  have ha1 := (Ext.refl w1).alloc (.cells #[.slice A1 E.length c1] 34)
  replace hx := hx.trans ha1
  replace bM := bM.ext ha1
  replace bP := bP.ext ha1
  replace bS := bS.ext ha1
  replace bR := bR.ext ha1
  have cbM_26 := fun o => bM.cell o
  have cbP_27 := fun o => bP.cell o
  have cbS_28 := fun o => bS.cell o
  have cbR_29 := fun o => bR.cell o
  have fbR_29 := fun o => bR.frozen o
  have cE := fun o => bE.cell o
  cases ok
  · go_wp2
    have bF := ((((bR0.set_ 0 (.int .i64 0)).set_ 1 (.int .i64 0)).set_ 2 (.int .i64 0)).set_ 3 (.int .i64 0)).alloc (.cells #[.slice A1 E.length c1] 34)
    have cF := fun o => bF.cell o
    refine bodyPost_ret (v := .tuple #[.agg #[.int .i64 0, .int .i64 0, .int .i64 0, .int .i64 0], .bool false]) (by simp [results, Tryz.results250, go_sem, cF]) rfl ?_
    exact ⟨rfl, (ext_set4 hx0 (by omega) _ _ _ _).alloc _⟩
  go_wp2_with fail
  refine (HSk.out _).mono ?_
  rintro e w2 ⟨rfl, hx2⟩
  replace hx := hx.trans hx2
  replace bM := bM.ext hx2
  replace bP := bP.ext hx2
  replace bS := bS.ext hx2
  replace bR := bR.ext hx2
  replace bE := bE.ext hx2
  have cbM_30 := fun o => bM.cell o
  have cbP_31 := fun o => bP.cell o
  have cbS_32 := fun o => bS.cell o
  have cbR_33 := fun o => bR.cell o
  have fbR_33 := fun o => bR.frozen o
  have cbE_34 := fun o => bE.cell o
  go_wp2
  have bF := (((bR.set_ 0 (.int .i64 0)).set_ 1 (.int .i64 0)).set_ 2 (.int .i64 0)).set_ 3 (.int .i64 0)
  have cF := fun o => bF.cell o
  refine bodyPost_ret (v := .tuple #[.agg #[.int .i64 0, .int .i64 0, .int .i64 0, .int .i64 0], .bool false]) (by simp [results, Tryz.results250, go_sem, cF]) rfl ?_
  exact ⟨rfl, ext_set4 hx (by omega) _ _ _ _⟩
theorem implAdmitAt_any (r : Room) (A0 A6 A7 : Option Addr) (c0 c6 c7 : Nat) (A : Option Addr) (n c : Nat) (ps : List Half) (s : Spot) (w : World) (hv : RoomV r) (ha : RoomHere w r A0 A6 A7 c0 c6 c7) (hn : ps.length = n) (hr : Row w A (ints (flat Half.ints ps))) (hA : A = none → n = 0 ∧ c = 0) (hpk : regOk ps = true) (s1 : I64 s.X) (s2 : I64 s.Y) (s3 : I64 s.D) :
    Calls Tryz.prog 250 #[.agg #[.slice A0 r.Map.length c0, .int .i64 r.Div, .int .i64 r.Bx, .int .i64 r.By, .int .i64 r.Low, .int .i64 r.High, .slice A6 r.Noise.length c6, .slice A7 r.Limits.length c7], .agg #[.slice A n c], .agg #[.int .i64 s.X, .int .i64 s.Y, .int .i64 s.D]] w (SpanMade (admW r ps s) w) := by
  unfold admW
  by_cases h : spotOk s = true
  · rw [if_pos h]
    exact implAdmitAt_ok r A0 A6 A7 c0 c6 c7 A n c ps s w hv ha hn hr hA hpk h
  · rw [if_neg h]
    exact implAdmitAt_bad r A0 A6 A7 c0 c6 c7 A n c ps s w hv ha hn hr hA hpk (by simpa using h) s1 s2 s3
theorem admW_span {r : Room} {ps : List Half} {s : Spot} (h : (admW r ps s).2 = true) : spanOk (admW r ps s).1 = true := by
  unfold admW at h ⊢
  split at h
  · rename_i q
    rw [if_pos q]
    exact admAt_span h
  · cases h
def JudgeMade (x : Ratio × Int) (w : World) (e : Ending) (w' : World) : Prop := e = .returned (.tuple #[.agg #[.int .i64 x.1.N, .int .i64 x.1.D], .int .i64 x.2]) ∧ Ext w w'
set_option maxHeartbeats 16000000 in
theorem implJudge_any (x : Watch) (A0 A6 A7 A8 A9 : Option Addr) (c0 c6 c7 c8 c9 : Nat) (s : Spot) (u : Ratio) (w : World) (h : WatchAll w x A0 A6 A7 A8 A9 c0 c6 c7 c8 c9) (hFI : watchFI x) (hRL : RoomL x.Room) (h8 : x.Region.length ≤ maxLen) (h9 : x.Log.length ≤ maxLen) (s1 : I64 s.X) (s2 : I64 s.Y) (s3 : I64 s.D) (u1 : I64 u.N) (u2 : I64 u.D) :
    Calls Tryz.prog 255 #[.agg #[.slice A0 x.Room.Map.length c0, .int .i64 x.Room.Div, .int .i64 x.Room.Bx, .int .i64 x.Room.By, .int .i64 x.Room.Low, .int .i64 x.Room.High, .slice A6 x.Room.Noise.length c6, .slice A7 x.Room.Limits.length c7, .slice A8 x.Region.length c8, .slice A9 x.Log.length c9], .agg #[.int .i64 s.X, .int .i64 s.Y, .int .i64 s.D], .agg #[.int .i64 u.N, .int .i64 u.D]] w (JudgeMade (judgeW x s u) w) := by
  have HW := Lib.hid (fun w h => implWatchOk_any x A0 A6 A7 A8 A9 c0 c6 c7 c8 c9 w h hFI hRL h8 h9)
  have HAd := Lib.hid (fun w hv ha hr hpk => implAdmitAt_any x.Room A0 A6 A7 c0 c6 c7 A8 x.Region.length c8 x.Region s w hv ha rfl hr h.n8 hpk s1 s2 s3)
  have HBad := Lib.hid (fun h => judge_bad (x := x) (s := s) (u := u) h)
  have HNoA := Lib.hid (fun h => judge_no (x := x) (s := s) (u := u) h)
  have HIn := Lib.hid (fun h h1 h2 => judge_in (x := x) (s := s) (u := u) h h1 h2)
  have HLow := Lib.hid (fun h h1 h2 h3 => judge_low (x := x) (s := s) (u := u) h h1 h2 h3)
  have HHigh := Lib.hid (fun h h1 h2 h3 h4 => judge_high (x := x) (s := s) (u := u) h h1 h2 h3 h4)
  have HOk := Lib.hid (fun h => watchOk_room (x := x) h)
  have HSp := Lib.hid (fun h => admW_span (r := x.Room) (ps := x.Region) (s := s) h)
  have HSk := Lib.hid (fun a b c d ha hb hc hd w => inSpan_any a b c d u.N u.D w ha hb hc hd u1 u2)
  have HRk := Lib.hid (fun w => implRatioOk_any u.N u.D w u1 u2)
  have HCm := Lib.hid (fun a b ha hb w => implRatioCmp_any u.N u.D a b w u1 u2 ha hb)
  have HA := Lib.hid h
  have hx : Ext w ((((w.alloc (.cells #[.slice A0 x.Room.Map.length c0, .int .i64 x.Room.Div, .int .i64 x.Room.Bx, .int .i64 x.Room.By, .int .i64 x.Room.Low, .int .i64 x.Room.High, .slice A6 x.Room.Noise.length c6, .slice A7 x.Room.Limits.length c7, .slice A8 x.Region.length c8, .slice A9 x.Log.length c9] 40)).alloc (.cells #[.int .i64 s.X, .int .i64 s.Y, .int .i64 s.D] 38)).alloc (.cells #[.int .i64 u.N, .int .i64 u.D] 139)).alloc (.cells #[.int .i64 0, .int .i64 0] 139)) := (((((Ext.refl w).alloc _).alloc _).alloc _).alloc _)
  have bM := ((((Blk.new w 40 #[.slice A0 x.Room.Map.length c0, .int .i64 x.Room.Div, .int .i64 x.Room.Bx, .int .i64 x.Room.By, .int .i64 x.Room.Low, .int .i64 x.Room.High, .slice A6 x.Room.Noise.length c6, .slice A7 x.Room.Limits.length c7, .slice A8 x.Region.length c8, .slice A9 x.Log.length c9]).alloc (.cells #[.int .i64 s.X, .int .i64 s.Y, .int .i64 s.D] 38)).alloc (.cells #[.int .i64 u.N, .int .i64 u.D] 139)).alloc (.cells #[.int .i64 0, .int .i64 0] 139))
  have bS := (((Blk.new (w.alloc (.cells #[.slice A0 x.Room.Map.length c0, .int .i64 x.Room.Div, .int .i64 x.Room.Bx, .int .i64 x.Room.By, .int .i64 x.Room.Low, .int .i64 x.Room.High, .slice A6 x.Room.Noise.length c6, .slice A7 x.Room.Limits.length c7, .slice A8 x.Region.length c8, .slice A9 x.Log.length c9] 40)) 38 #[.int .i64 s.X, .int .i64 s.Y, .int .i64 s.D]).alloc (.cells #[.int .i64 u.N, .int .i64 u.D] 139)).alloc (.cells #[.int .i64 0, .int .i64 0] 139))
  have bU := ((Blk.new ((w.alloc (.cells #[.slice A0 x.Room.Map.length c0, .int .i64 x.Room.Div, .int .i64 x.Room.Bx, .int .i64 x.Room.By, .int .i64 x.Room.Low, .int .i64 x.Room.High, .slice A6 x.Room.Noise.length c6, .slice A7 x.Room.Limits.length c7, .slice A8 x.Region.length c8, .slice A9 x.Log.length c9] 40)).alloc (.cells #[.int .i64 s.X, .int .i64 s.Y, .int .i64 s.D] 38)) 139 #[.int .i64 u.N, .int .i64 u.D]).alloc (.cells #[.int .i64 0, .int .i64 0] 139))
  have bR := (Blk.new (((w.alloc (.cells #[.slice A0 x.Room.Map.length c0, .int .i64 x.Room.Div, .int .i64 x.Room.Bx, .int .i64 x.Room.By, .int .i64 x.Room.Low, .int .i64 x.Room.High, .slice A6 x.Room.Noise.length c6, .slice A7 x.Room.Limits.length c7, .slice A8 x.Region.length c8, .slice A9 x.Log.length c9] 40)).alloc (.cells #[.int .i64 s.X, .int .i64 s.Y, .int .i64 s.D] 38)).alloc (.cells #[.int .i64 u.N, .int .i64 u.D] 139)) 139 #[.int .i64 0, .int .i64 0])
  simp only [World.size_alloc] at bS bU bR
  clear h hFI hRL h8 h9 s1 s2 s3 u1 u2
  generalize judgeW x s u = J at *
  have cbM_35 := fun o => bM.cell o
  have cbS_36 := fun o => bS.cell o
  have cbU_37 := fun o => bU.cell o
  have cbR_38 := fun o => bR.cell o
  have fbR_38 := fun o => bR.frozen o
  go_enter Tryz.func255, Tryz.ntmps255
  go_wp2_with fail
  refine (HW.out _ (HA.out.ext hx)).mono ?_
  rintro e w1 ⟨rfl, hx1⟩
  replace hx := hx.trans hx1
  replace bM := bM.ext hx1
  replace bS := bS.ext hx1
  replace bU := bU.ext hx1
  replace bR := bR.ext hx1
  have cbM_39 := fun o => bM.cell o
  have cbS_40 := fun o => bS.cell o
  have cbU_41 := fun o => bU.cell o
  have cbR_42 := fun o => bR.cell o
  have fbR_42 := fun o => bR.frozen o
  have hs1 := bR.lt
  by_cases k1 : watchOkR x = true
  rotate_left
  · have k1' : watchOkR x = false := by simpa using k1
    have H := Lib.hid (HBad.out k1')
    rw [k1']
    clear k1 k1'
    go_wp2
    have bF := (bR.set_ 0 (.int .i64 0)).set_ 1 (.int .i64 0)
    have cF := fun o => bF.cell o
    refine bodyPost_ret (v := .tuple #[.agg #[.int .i64 0, .int .i64 0], .int .i64 3]) (by simp [results, Tryz.results255, go_sem, cF]) rfl ?_
    exact ⟨by rw [H.out], ext_put2 hx (by omega) _ _⟩
  have K1 := Lib.hid k1
  rw [k1]
  clear k1
  go_wp2_with fail
  refine (HAd.out _ (HOk.out K1.out).1 (HA.out.ext hx).room.here (HA.out.ext hx).reg (HOk.out K1.out).2).mono ?_
  rintro e w2 ⟨rfl, hx2⟩
  replace hx := hx.trans hx2
  replace bM := bM.ext hx2
  replace bS := bS.ext hx2
  replace bU := bU.ext hx2
  replace bR := bR.ext hx2
  have cbM_43 := fun o => bM.cell o
  have cbS_44 := fun o => bS.cell o
  have cbU_45 := fun o => bU.cell o
  have cbR_46 := fun o => bR.cell o
  have fbR_46 := fun o => bR.frozen o
  have hs2 := bR.lt
  generalize admW x.Room x.Region s = AD at *
  obtain ⟨⟨⟨ln, ld⟩, ⟨hn_, hd_⟩⟩, ok⟩ := AD
  dsimp only at *
  have bE := Blk.new w2 178 #[.int .i64 ln, .int .i64 ld, .int .i64 hn_, .int .i64 hd_]
  have hx0 := hx
  have bR0 := bR
  have ha2 := (Ext.refl w2).alloc (.cells #[.int .i64 ln, .int .i64 ld, .int .i64 hn_, .int .i64 hd_] 178)
  replace hx := hx.trans ha2
  replace bM := bM.ext ha2
  replace bS := bS.ext ha2
  replace bU := bU.ext ha2
  replace bR := bR.ext ha2
  have cbM_47 := fun o => bM.cell o
  have cbS_48 := fun o => bS.cell o
  have cbU_49 := fun o => bU.cell o
  have cbR_50 := fun o => bR.cell o
  have fbR_50 := fun o => bR.frozen o
  have cE := fun o => bE.cell o
  cases ok
  · have H := Lib.hid (HNoA.out (by first | rfl | trivial))
    go_wp2
    have bF := ((bR0.set_ 0 (.int .i64 0)).set_ 1 (.int .i64 0)).alloc (.cells #[.int .i64 ln, .int .i64 ld, .int .i64 hn_, .int .i64 hd_] 178)
    have cF := fun o => bF.cell o
    refine bodyPost_ret (v := .tuple #[.agg #[.int .i64 0, .int .i64 0], .int .i64 3]) (by simp [results, Tryz.results255, go_sem, cF]) rfl ?_
    exact ⟨by rw [H.out], (ext_put2 hx0 (by omega) _ _).alloc _⟩
  obtain ⟨⟨l1, l2⟩, l3, l4⟩ := span_I2 (HSp.out (by first | rfl | trivial))
  dsimp only at l1 l2 l3 l4
  go_wp2_with fail
  refine (HSk.out ln ld hn_ hd_ l1 l2 l3 l4 _).mono ?_
  rintro e w3 ⟨rfl, hx3⟩
  replace hx := hx.trans hx3
  replace bM := bM.ext hx3
  replace bS := bS.ext hx3
  replace bU := bU.ext hx3
  replace bR := bR.ext hx3
  replace bE := bE.ext hx3
  have cbM_51 := fun o => bM.cell o
  have cbS_52 := fun o => bS.cell o
  have cbU_53 := fun o => bU.cell o
  have cbR_54 := fun o => bR.cell o
  have fbR_54 := fun o => bR.frozen o
  have cbE_55 := fun o => bE.cell o
  have hs3 := bR.lt
  by_cases k2 : inSpan ⟨⟨ln, ld⟩, ⟨hn_, hd_⟩⟩ ⟨u.N, u.D⟩ = true
  · have H := Lib.hid (HIn.out K1.out (by first | rfl | trivial) k2)
    rw [k2]
    clear k2
    go_wp2
    have bF := (bR.set_ 0 (.int .i64 u.N)).set_ 1 (.int .i64 u.D)
    have cF := fun o => bF.cell o
    refine bodyPost_ret (v := .tuple #[.agg #[.int .i64 u.N, .int .i64 u.D], .int .i64 1]) (by simp [results, Tryz.results255, go_sem, cF]) rfl ?_
    exact ⟨by rw [H.out], ext_put2 hx (by omega) _ _⟩
  have k2' : inSpan ⟨⟨ln, ld⟩, ⟨hn_, hd_⟩⟩ ⟨u.N, u.D⟩ = false := by simpa using k2
  have K2 := Lib.hid k2'
  rw [k2']
  clear k2 k2'
  go_wp2_with fail
  refine (HRk.out _).mono ?_
  rintro e w4 ⟨rfl, hx4⟩
  replace hx := hx.trans hx4
  replace bM := bM.ext hx4
  replace bS := bS.ext hx4
  replace bU := bU.ext hx4
  replace bR := bR.ext hx4
  replace bE := bE.ext hx4
  have cbM_56 := fun o => bM.cell o
  have cbS_57 := fun o => bS.cell o
  have cbU_58 := fun o => bU.cell o
  have cbR_59 := fun o => bR.cell o
  have fbR_59 := fun o => bR.frozen o
  have cbE_60 := fun o => bE.cell o
  have hs4 := bR.lt
  by_cases k3 : ratioOk ⟨u.N, u.D⟩ = true
  rotate_left
  · have k3' : ratioOk ⟨u.N, u.D⟩ = false := by simpa using k3
    have H := Lib.hid (HLow.out K1.out (by first | rfl | trivial) K2.out (.inl k3'))
    rw [k3']
    clear k3 k3'
    go_wp2
    have bF := (bR.set_ 0 (.int .i64 ln)).set_ 1 (.int .i64 ld)
    have cF := fun o => bF.cell o
    refine bodyPost_ret (v := .tuple #[.agg #[.int .i64 ln, .int .i64 ld], .int .i64 2]) (by simp [results, Tryz.results255, go_sem, cF]) rfl ?_
    exact ⟨by rw [H.out], ext_put2 hx (by omega) _ _⟩
  have K3 := Lib.hid k3
  rw [k3]
  clear k3
  go_wp2_with fail
  refine (HCm.out ln ld l1 l2 _).mono ?_
  rintro e w5 ⟨rfl, hx5⟩
  replace hx := hx.trans hx5
  replace bM := bM.ext hx5
  replace bS := bS.ext hx5
  replace bU := bU.ext hx5
  replace bR := bR.ext hx5
  replace bE := bE.ext hx5
  have cbM_61 := fun o => bM.cell o
  have cbS_62 := fun o => bS.cell o
  have cbU_63 := fun o => bU.cell o
  have cbR_64 := fun o => bR.cell o
  have fbR_64 := fun o => bR.frozen o
  have cbE_65 := fun o => bE.cell o
  have hs5 := bR.lt
  by_cases k4 : ratioCmp ⟨u.N, u.D⟩ ⟨ln, ld⟩ < 0
  · have H := Lib.hid (HLow.out K1.out (by first | rfl | trivial) K2.out (.inr k4))
    obtain ⟨z, hz⟩ : ∃ z, ratioCmp ⟨u.N, u.D⟩ ⟨ln, ld⟩ = z := ⟨_, rfl⟩
    rw [hz] at k4 ⊢
    have k4' : decide (z < 0) = true := decide_eq_true k4
    clear hz
    go_wp2
    have bF := (bR.set_ 0 (.int .i64 ln)).set_ 1 (.int .i64 ld)
    have cF := fun o => bF.cell o
    refine bodyPost_ret (v := .tuple #[.agg #[.int .i64 ln, .int .i64 ld], .int .i64 2]) (by simp [results, Tryz.results255, go_sem, cF]) rfl ?_
    exact ⟨by rw [H.out], ext_put2 hx (by omega) _ _⟩
  have H := Lib.hid (HHigh.out K1.out (by first | rfl | trivial) K2.out K3.out (by first | exact k4 | exact Int.not_lt.1 k4))
  obtain ⟨z, hz⟩ : ∃ z, ratioCmp ⟨u.N, u.D⟩ ⟨ln, ld⟩ = z := ⟨_, rfl⟩
  rw [hz] at k4 ⊢
  have k4' : decide (z < 0) = false := decide_eq_false k4
  clear hz
  go_wp2
  have bF := (bR.set_ 0 (.int .i64 hn_)).set_ 1 (.int .i64 hd_)
  have cF := fun o => bF.cell o
  refine bodyPost_ret (v := .tuple #[.agg #[.int .i64 hn_, .int .i64 hd_], .int .i64 2]) (by simp [results, Tryz.results255, go_sem, cF]) rfl ?_
  exact ⟨by rw [H.out], ext_put2 hx (by omega) _ _⟩
end Go.Proofs.YtfnmbpjkjajpcaaGreatDoor
namespace Go.Proofs.YtfnmbpjkjajpcaaGreatDoor
open Go.ChangeShapes Go.WideShapes Go.ChangeAt Go.RowKit
set_option linter.unusedVariables false
set_option maxRecDepth 100000
theorem watch_in {w : World} {x : Watch} {R : List Value} {v8 v9 : Value} {a b c d e f L H : Nat} (h1 : AggIn w (roomF x.Room) R a b) (h2 : AggIn w [halfF x.Region] [v8] c d) (h3 : AggIn w [intF x.Log] [v9] e f)
    (d1 : b ≤ c ∨ d ≤ a) (d2 : b ≤ e ∨ f ≤ a) (d3 : d ≤ e ∨ f ≤ c) (l1 : L ≤ a ∧ L ≤ c ∧ L ≤ e) (u1 : b ≤ H ∧ d ≤ H ∧ f ≤ H) : AggIn w (watchF x) (R ++ [v8, v9]) L H := by
  obtain ⟨rs, p1, p2, p3⟩ := h1
  obtain ⟨qs, q1, q2, q3⟩ := h2
  obtain ⟨ss, s1, s2, s3⟩ := h3
  refine ⟨rs ++ (qs ++ ss), p1.append (q1.append s1), p2.append (q2.append s2 ?_) ?_, ?_⟩
  · intro p hp q hq
    have := q3 p hp
    have := s3 q hq
    omega
  · intro p hp q hq
    have := p3 p hp
    rcases List.mem_append.1 hq with hq | hq
    · have := q3 q hq; omega
    · have := s3 q hq; omega
  · intro p hp
    rcases List.mem_append.1 hp with hp | hp
    · have := p3 p hp; omega
    rcases List.mem_append.1 hp with hp | hp
    · have := q3 p hp; omega
    · have := s3 p hp; omega
theorem watch_fin {w W V V' : World} {x : Watch} {R : List Value} {v8 v9 : Value} {a b c d e f g : Nat} (hx : Ext w W) (hcur : Ext W V) (h1 : AggIn V (roomF x.Room) R a b) (h2 : AggIn V [halfF x.Region] [v8] c d) (h3 : AggIn V [intF x.Log] [v9] e f)
    (d1 : b ≤ c ∨ d ≤ a) (d2 : b ≤ e ∨ f ≤ a) (d3 : d ≤ e ∨ f ≤ c) (l : g + 1 ≤ a ∧ g + 1 ≤ c ∧ g + 1 ≤ e) (u : b ≤ V.heap.size ∧ d ≤ V.heap.size ∧ f ≤ V.heap.size) (hg : w.heap.size ≤ g) (T : Touch g (g + 1) V V') : AggNew (watchF x) w (.returned (.agg (R ++ [v8, v9]).toArray)) V' :=
  ⟨_, rfl, ((watch_in h1 h2 h3 d1 d2 d3 (L := g + 1) (H := V.heap.size) l u).touch T (.inr (Nat.le_refl _))).wide (by omega) T.size, (hx.trans hcur).touch T hg⟩
theorem RegOne.agg {hs : List Half} {w w' : World} {e : Ending} (h : RegOne hs w e w') : ∃ A c, e = .returned (.agg #[.slice A hs.length c]) ∧ AggIn w' [halfF hs] [.slice A hs.length c] w.heap.size w'.heap.size ∧ Ext w w' := by
  obtain ⟨A, c, n, rfl, hn, hx, ho⟩ := h
  subst hn
  exact ⟨A, c, rfl, AggIn.one (Mine.of_own ho) hx.size, hx⟩
set_option maxHeartbeats 32000000 in
theorem implCopyWatch_any (x : Watch) (A0 A6 A7 A8 A9 : Option Addr) (c0 c6 c7 c8 c9 : Nat) (w : World) (h : WatchAll w x A0 A6 A7 A8 A9 c0 c6 c7 c8 c9) (b0 : Big x.Room.Map.length ∧ Big x.Room.Noise.length ∧ Big x.Room.Limits.length) (b8 : Big x.Region.length) (b9 : Big x.Log.length) :
    Calls Tryz.prog 71 #[.agg #[.slice A0 x.Room.Map.length c0, .int .i64 x.Room.Div, .int .i64 x.Room.Bx, .int .i64 x.Room.By, .int .i64 x.Room.Low, .int .i64 x.Room.High, .slice A6 x.Room.Noise.length c6, .slice A7 x.Room.Limits.length c7, .slice A8 x.Region.length c8, .slice A9 x.Log.length c9]] w (AggNew (watchF x) w) := by
  have HC := Lib.hid (fun w hr => cloneI_any A9 x.Log.length c9 x.Log w rfl hr h.n9 b9)
  have HP := Lib.hid (fun w hr => implCopyRegion_any A8 x.Region.length c8 x.Region w rfl hr h.n8 b8)
  have HM := Lib.hid (fun w h => implCopyRoom_any x.Room A0 A6 A7 c0 c6 c7 w h b0.1 b0.2.1 b0.2.2)
  have HA := Lib.hid h
  have hx : Ext w ((w.alloc (.cells #[.slice A0 x.Room.Map.length c0, .int .i64 x.Room.Div, .int .i64 x.Room.Bx, .int .i64 x.Room.By, .int .i64 x.Room.Low, .int .i64 x.Room.High, .slice A6 x.Room.Noise.length c6, .slice A7 x.Room.Limits.length c7, .slice A8 x.Region.length c8, .slice A9 x.Log.length c9] 40)).alloc (.cells #[.slice none 0 0, .int .i64 0, .int .i64 0, .int .i64 0, .int .i64 0, .int .i64 0, .slice none 0 0, .slice none 0 0, .slice none 0 0, .slice none 0 0] 40)) := (((Ext.refl w).alloc _).alloc _)
  have bM := ((Blk.new w 40 #[.slice A0 x.Room.Map.length c0, .int .i64 x.Room.Div, .int .i64 x.Room.Bx, .int .i64 x.Room.By, .int .i64 x.Room.Low, .int .i64 x.Room.High, .slice A6 x.Room.Noise.length c6, .slice A7 x.Room.Limits.length c7, .slice A8 x.Region.length c8, .slice A9 x.Log.length c9]).alloc (.cells #[.slice none 0 0, .int .i64 0, .int .i64 0, .int .i64 0, .int .i64 0, .int .i64 0, .slice none 0 0, .slice none 0 0, .slice none 0 0, .slice none 0 0] 40))
  have bO := (Blk.new (w.alloc (.cells #[.slice A0 x.Room.Map.length c0, .int .i64 x.Room.Div, .int .i64 x.Room.Bx, .int .i64 x.Room.By, .int .i64 x.Room.Low, .int .i64 x.Room.High, .slice A6 x.Room.Noise.length c6, .slice A7 x.Room.Limits.length c7, .slice A8 x.Region.length c8, .slice A9 x.Log.length c9] 40)) 40 #[.slice none 0 0, .int .i64 0, .int .i64 0, .int .i64 0, .int .i64 0, .int .i64 0, .slice none 0 0, .slice none 0 0, .slice none 0 0, .slice none 0 0])
  simp only [World.size_alloc] at bO
  clear h b0 b8 b9
  go_enter Tryz.func71, Tryz.ntmps71
  go_wp2_with fail
  generalize ((w.alloc (.cells #[.slice A0 x.Room.Map.length c0, .int .i64 x.Room.Div, .int .i64 x.Room.Bx, .int .i64 x.Room.By, .int .i64 x.Room.Low, .int .i64 x.Room.High, .slice A6 x.Room.Noise.length c6, .slice A7 x.Room.Limits.length c7, .slice A8 x.Region.length c8, .slice A9 x.Log.length c9] 40)).alloc (.cells #[.slice none 0 0, .int .i64 0, .int .i64 0, .int .i64 0, .int .i64 0, .int .i64 0, .slice none 0 0, .slice none 0 0, .slice none 0 0, .slice none 0 0] 40)) = W at *
  have hcur := Ext.refl W
  have hsW := hx.size
  have lM := bM.lt
  have lO := bO.lt
  have cM := fun o => bM.cell o
  have fO := fun o => bO.frozen o
  go_region_held3 (fun w' => w'.cell? ⟨w.heap.size, 0, none⟩ = some (.slice A0 x.Room.Map.length c0) ∧ w'.cell? ⟨w.heap.size, 1, none⟩ = some (.int .i64 x.Room.Div) ∧ w'.cell? ⟨w.heap.size, 2, none⟩ = some (.int .i64 x.Room.Bx) ∧ w'.cell? ⟨w.heap.size, 3, none⟩ = some (.int .i64 x.Room.By) ∧ w'.cell? ⟨w.heap.size, 4, none⟩ = some (.int .i64 x.Room.Low) ∧ w'.cell? ⟨w.heap.size, 5, none⟩ = some (.int .i64 x.Room.High) ∧ w'.cell? ⟨w.heap.size, 6, none⟩ = some (.slice A6 x.Room.Noise.length c6) ∧ w'.cell? ⟨w.heap.size, 7, none⟩ = some (.slice A7 x.Room.Limits.length c7) ∧ w'.cell? ⟨w.heap.size, 8, none⟩ = some (.slice A8 x.Region.length c8) ∧ w'.cell? ⟨w.heap.size, 9, none⟩ = some (.slice A9 x.Log.length c9))
    (go_keep)
    (first
      | (go_at_call 70; (with_reducible refine (HM.out _ (by exact HA.out.room.ext (hx.trans (by first | exact hcur | exact hcur.drew)))).mono ?_); rintro e wR ⟨usR, rfl, mR, hxN⟩; replace hcur := Ext.trans (by first | exact hcur | exact hcur.drew) hxN; (try replace mG := mG.ext hxN); (try replace mL := mL.ext hxN); have zR := hxN.size; (try simp only [World.size_drew] at mR zR); obtain ⟨B0, B6, B7, d0, d6, d7, rfl, -⟩ := room_sep (Exists.choose_spec mR).1; have cM9 := fun o => (bM.ext hcur).cell o; have cO9 := fun o => (bO.ext hcur).cell o; have fO9 := fun o => (bO.ext hcur).frozen o; have zcur := hcur.size)
      | (go_at_call 136; (with_reducible refine (HP.out _ (by exact HA.out.reg.ext (hx.trans (by first | exact hcur | exact hcur.drew)))).mono ?_); rintro e wG hG; obtain ⟨B8, d8, rfl, mG, hxN⟩ := hG.agg; replace hcur := Ext.trans (by first | exact hcur | exact hcur.drew) hxN; (try replace mR := mR.ext hxN); (try replace mL := mL.ext hxN); have zG := hxN.size; (try simp only [World.size_drew] at mG zG); have cM9 := fun o => (bM.ext hcur).cell o; have cO9 := fun o => (bO.ext hcur).cell o; have fO9 := fun o => (bO.ext hcur).frozen o; have zcur := hcur.size)
      | (go_at_call 114; (with_reducible refine (HC.out _ (by exact HA.out.log.ext (hx.trans (by first | exact hcur | exact hcur.drew)))).mono ?_); rintro e wL ⟨B9, d9, rfl, mL0, hxN⟩; replace hcur := Ext.trans (by first | exact hcur | exact hcur.drew) hxN; have mL := AggIn.one mL0 hxN.size; clear mL0; (try replace mR := mR.ext hxN); (try replace mG := mG.ext hxN); have zL := hxN.size; (try simp only [World.size_drew] at mL zL); have cM9 := fun o => (bM.ext hcur).cell o; have cO9 := fun o => (bO.ext hcur).cell o; have fO9 := fun o => (bO.ext hcur).frozen o; have zcur := hcur.size))
  all_goals
    go_wp2
    have bF := (((((((((((bO.ext hcur).set_ 0 (.slice B0 x.Room.Map.length d0)).set_ 1 (.int .i64 x.Room.Div)).set_ 2 (.int .i64 x.Room.Bx)).set_ 3 (.int .i64 x.Room.By)).set_ 4 (.int .i64 x.Room.Low)).set_ 5 (.int .i64 x.Room.High)).set_ 6 (.slice B6 x.Room.Noise.length d6)).set_ 7 (.slice B7 x.Room.Limits.length d7)).set_ 8 (.slice B8 x.Region.length d8)).set_ 9 (.slice B9 x.Log.length d9))
    have cF := fun o => bF.cell o
    clear cM fO cM9 fO9 cO9
    refine bodyPost_ret (v := .agg #[.slice B0 x.Room.Map.length d0, .int .i64 x.Room.Div, .int .i64 x.Room.Bx, .int .i64 x.Room.By, .int .i64 x.Room.Low, .int .i64 x.Room.High, .slice B6 x.Room.Noise.length d6, .slice B7 x.Room.Limits.length d7, .slice B8 x.Region.length d8, .slice B9 x.Log.length d9]) (by simp [results, Tryz.results71, go_sem, cF]) rfl ?_
    refine watch_fin hx hcur mR mG mL (by omega) (by omega) (by omega) (g := w.heap.size + 1) (by omega) (by omega) (by omega) ?_
    repeat (first | (with_reducible exact Touch.refl _ _ _) | refine Touch.setCell ?_ (by simp only; omega) (by simp only; omega) _ | (with_reducible exact Touch.of_ext (Ext.refl _).drew))
end Go.Proofs.YtfnmbpjkjajpcaaGreatDoor
namespace Go.Proofs.YtfnmbpjkjajpcaaGreatDoor
open Go.ChangeShapes Go.WideShapes Go.ChangeAt Go.RowKit
set_option linter.unusedVariables false
set_option maxRecDepth 100000
def WatchMade (x : Watch × Bool) (w : World) (e : Ending) (w' : World) : Prop := ∃ us, e = .returned (.tuple #[.agg us.toArray, .bool x.2]) ∧ AggIn w' (watchF x.1) us w.heap.size w'.heap.size ∧ Ext w w'
theorem noSep0 (w : World) (g : Nat) : AggIn w (watchF noWatch) noL g g :=
  ⟨_, noSep w g, gg_apart g, fun p hp => by simp at hp; subst hp; exact ⟨Nat.le_refl _, Nat.le_refl _⟩⟩
theorem WatchMade.no {x : Watch × Bool} {w V V' : World} {g : Nat} (h : x = (noWatch, false)) (hx : Ext w V) (T : Touch w.heap.size (g + 1) V V') : WatchMade x w (.returned (.tuple #[.agg #[.slice none 0 0, .int .i64 0, .int .i64 0, .int .i64 0, .int .i64 0, .int .i64 0, .slice none 0 0, .slice none 0 0, .slice none 0 0, .slice none 0 0], .bool false])) V' := by
  subst h
  have hy := hx.touch T (Nat.le_refl _)
  exact ⟨noL, rfl, (noSep0 V' w.heap.size).wide (Nat.le_refl _) hy.size, hy⟩
theorem freshW_no {r : Room} {ps : List Half} (h : ps.length = 0 ∨ isKeptR r ps = false) : freshW r ps = (noWatch, false) := by
  unfold freshW
  rw [if_neg]
  rintro ⟨a, b⟩
  rcases h with h | h
  · exact a (List.length_eq_zero_iff.1 h)
  · rw [h] at b; cases b
theorem freshW_yes {r : Room} {ps : List Half} (h : ps.length ≠ 0) (h2 : isKeptR r ps = true) : freshW r ps = (⟨r, ps, []⟩, true) := by
  unfold freshW
  rw [if_pos ⟨fun e => h (by rw [e]; rfl), h2⟩]
theorem new_fin {w W V V' : World} {r : Room} {ps : List Half} {R : List Value} {v8 : Value} {a b c d g : Nat} (hx : Ext w W) (hcur : Ext W V) (h1 : AggIn V (roomF r) R a b) (h2 : AggIn V [halfF ps] [v8] c d)
    (d1 : b ≤ c ∨ d ≤ a) (l : g + 1 ≤ a ∧ g + 1 ≤ c) (u : b ≤ V.heap.size ∧ d ≤ V.heap.size) (hgV : g < V.heap.size) (hg : w.heap.size ≤ g) (T : Touch g (g + 1) V V') {x : Watch × Bool} (hxx : x = (⟨r, ps, []⟩, true)) : WatchMade x w (.returned (.tuple #[.agg (R ++ [v8, .slice none 0 0]).toArray, .bool true])) V' := by
  subst hxx
  have h3 : AggIn V [intF []] [.slice none 0 0] V.heap.size V.heap.size := AggIn.one (Mine.nil _ _ _ _ _) (Nat.le_refl _)
  exact ⟨_, rfl, ((watch_in (x := ⟨r, ps, []⟩) h1 h2 h3 d1 (.inl u.1) (.inl u.2) (L := g + 1) (H := V.heap.size) ⟨l.1, l.2, by have := hgV; omega⟩ ⟨u.1, u.2, Nat.le_refl _⟩).touch T (.inr (by omega))).wide (by omega) T.size, (hx.trans hcur).touch T hg⟩
set_option maxHeartbeats 16000000 in
theorem implWatchNew_any (r : Room) (A0 A6 A7 : Option Addr) (c0 c6 c7 : Nat) (A : Option Addr) (n c : Nat) (ps : List Half) (w : World) (ha : RoomAll w r A0 A6 A7 c0 c6 c7) (hFI : roomFI r) (hb : Big r.Map.length ∧ Big r.Noise.length ∧ Big r.Limits.length)
    (hn : ps.length = n) (hr : Row w A (ints (flat Half.ints ps))) (hA : A = none → n = 0 ∧ c = 0) (hI : HalvesI ps) (hle : n ≤ 1048576) :
    Calls Tryz.prog 189 #[.agg #[.slice A0 r.Map.length c0, .int .i64 r.Div, .int .i64 r.Bx, .int .i64 r.By, .int .i64 r.Low, .int .i64 r.High, .slice A6 r.Noise.length c6, .slice A7 r.Limits.length c7], .agg #[.slice A n c]] w (WatchMade (freshW r ps) w) := by
  subst n
  have hL := big_room hb
  have HV := Lib.hid (fun w => implIsVoid_any A ps.length c w (by unfold maxLen; omega))
  have HK := Lib.hid (fun w ha hr => implIsKept_any r A0 A6 A7 c0 c6 c7 A ps.length c ps w ha hFI hL rfl hr hA hI (by unfold maxLen; omega))
  have HP := Lib.hid (fun w hr => implCopyRegion_any A ps.length c ps w rfl hr hA hle)
  have HM := Lib.hid (fun w h => implCopyRoom_any r A0 A6 A7 c0 c6 c7 w h hb.1 hb.2.1 hb.2.2)
  have HNo := Lib.hid (fun q => freshW_no (r := r) (ps := ps) q)
  have HYe := Lib.hid (fun q q2 => freshW_yes (r := r) (ps := ps) q q2)
  have HA := Lib.hid ha
  have HR := Lib.hid hr
  have hx : Ext w (((w.alloc (.cells #[.slice A0 r.Map.length c0, .int .i64 r.Div, .int .i64 r.Bx, .int .i64 r.By, .int .i64 r.Low, .int .i64 r.High, .slice A6 r.Noise.length c6, .slice A7 r.Limits.length c7] 36)).alloc (.cells #[.slice A ps.length c] 34)).alloc (.cells #[.slice none 0 0, .int .i64 0, .int .i64 0, .int .i64 0, .int .i64 0, .int .i64 0, .slice none 0 0, .slice none 0 0, .slice none 0 0, .slice none 0 0] 40)) := ((((Ext.refl w).alloc _).alloc _).alloc _)
  have bM := (((Blk.new w 36 #[.slice A0 r.Map.length c0, .int .i64 r.Div, .int .i64 r.Bx, .int .i64 r.By, .int .i64 r.Low, .int .i64 r.High, .slice A6 r.Noise.length c6, .slice A7 r.Limits.length c7]).alloc (.cells #[.slice A ps.length c] 34)).alloc (.cells #[.slice none 0 0, .int .i64 0, .int .i64 0, .int .i64 0, .int .i64 0, .int .i64 0, .slice none 0 0, .slice none 0 0, .slice none 0 0, .slice none 0 0] 40))
  have bP := ((Blk.new (w.alloc (.cells #[.slice A0 r.Map.length c0, .int .i64 r.Div, .int .i64 r.Bx, .int .i64 r.By, .int .i64 r.Low, .int .i64 r.High, .slice A6 r.Noise.length c6, .slice A7 r.Limits.length c7] 36)) 34 #[.slice A ps.length c]).alloc (.cells #[.slice none 0 0, .int .i64 0, .int .i64 0, .int .i64 0, .int .i64 0, .int .i64 0, .slice none 0 0, .slice none 0 0, .slice none 0 0, .slice none 0 0] 40))
  have bO := (Blk.new ((w.alloc (.cells #[.slice A0 r.Map.length c0, .int .i64 r.Div, .int .i64 r.Bx, .int .i64 r.By, .int .i64 r.Low, .int .i64 r.High, .slice A6 r.Noise.length c6, .slice A7 r.Limits.length c7] 36)).alloc (.cells #[.slice A ps.length c] 34)) 40 #[.slice none 0 0, .int .i64 0, .int .i64 0, .int .i64 0, .int .i64 0, .int .i64 0, .slice none 0 0, .slice none 0 0, .slice none 0 0, .slice none 0 0])
  simp only [World.size_alloc] at bP bO
  clear ha hFI hb hr hA hI hle hL
  generalize freshW r ps = FW at *
  have cbM_66 := fun o => bM.cell o
  have cbP_67 := fun o => bP.cell o
  have cbO_68 := fun o => bO.cell o
  have fbO_68 := fun o => bO.frozen o
  go_enter Tryz.func189, Tryz.ntmps189
  go_wp2_with fail
  refine (HV.out _).mono ?_
  rintro e w1 ⟨rfl, hx1⟩
  replace hx := hx.trans hx1
  replace bM := bM.ext hx1
  replace bP := bP.ext hx1
  replace bO := bO.ext hx1
  have cbM_69 := fun o => bM.cell o
  have cbP_70 := fun o => bP.cell o
  have cbO_71 := fun o => bO.cell o
  have fbO_71 := fun o => bO.frozen o
  have hs1 := bO.lt
  by_cases k1 : ps.length = 0
  · have k1' : decide (ps.length = 0) = true := decide_eq_true k1
    have H := Lib.hid (HNo.out (.inl k1))
    rw [k1']
    clear k1 k1'
    go_wp2
    have bF := ((((((((((bO.set_ 0 (.slice none 0 0)).set_ 1 (.int .i64 0)).set_ 2 (.int .i64 0)).set_ 3 (.int .i64 0)).set_ 4 (.int .i64 0)).set_ 5 (.int .i64 0)).set_ 6 (.slice none 0 0)).set_ 7 (.slice none 0 0)).set_ 8 (.slice none 0 0)).set_ 9 (.slice none 0 0))
    have cF := fun o => bF.cell o
    refine bodyPost_ret (v := .tuple #[.agg #[.slice none 0 0, .int .i64 0, .int .i64 0, .int .i64 0, .int .i64 0, .int .i64 0, .slice none 0 0, .slice none 0 0, .slice none 0 0, .slice none 0 0], .bool false]) (by simp [results, Tryz.results189, go_sem, cF]) rfl ?_
    refine WatchMade.no (g := w.heap.size + 1 + 1) H.out hx ?_
    repeat (first | (with_reducible exact Touch.refl _ _ _) | refine Touch.setCell ?_ (by simp only; omega) (by simp only; omega) _)
  have k1' : decide (ps.length = 0) = false := decide_eq_false k1
  have K1 := Lib.hid k1
  rw [k1']
  clear k1 k1'
  go_wp2_with fail
  refine (HK.out _ (HA.out.ext hx).here (HR.out.ext hx)).mono ?_
  rintro e w2 ⟨rfl, hx2⟩
  replace hx := hx.trans hx2
  replace bM := bM.ext hx2
  replace bP := bP.ext hx2
  replace bO := bO.ext hx2
  have cbM_72 := fun o => bM.cell o
  have cbP_73 := fun o => bP.cell o
  have cbO_74 := fun o => bO.cell o
  have fbO_74 := fun o => bO.frozen o
  have hs2 := bO.lt
  by_cases k2 : isKeptR r ps = true
  rotate_left
  · have k2' : isKeptR r ps = false := by simpa using k2
    have H := Lib.hid (HNo.out (.inr k2'))
    rw [k2']
    clear k2 k2'
    go_wp2
    have bF := ((((((((((bO.set_ 0 (.slice none 0 0)).set_ 1 (.int .i64 0)).set_ 2 (.int .i64 0)).set_ 3 (.int .i64 0)).set_ 4 (.int .i64 0)).set_ 5 (.int .i64 0)).set_ 6 (.slice none 0 0)).set_ 7 (.slice none 0 0)).set_ 8 (.slice none 0 0)).set_ 9 (.slice none 0 0))
    have cF := fun o => bF.cell o
    refine bodyPost_ret (v := .tuple #[.agg #[.slice none 0 0, .int .i64 0, .int .i64 0, .int .i64 0, .int .i64 0, .int .i64 0, .slice none 0 0, .slice none 0 0, .slice none 0 0, .slice none 0 0], .bool false]) (by simp [results, Tryz.results189, go_sem, cF]) rfl ?_
    refine WatchMade.no (g := w.heap.size + 1 + 1) H.out hx ?_
    repeat (first | (with_reducible exact Touch.refl _ _ _) | refine Touch.setCell ?_ (by simp only; omega) (by simp only; omega) _)
  have H := Lib.hid (HYe.out K1.out k2)
  rw [k2]
  clear k2
  go_wp2_with fail
  have hcur := Ext.refl w2
  have ne1 : ¬ w.heap.size = w.heap.size + 1 + 1 := by omega
  have ne2 : ¬ w.heap.size + 1 + 1 = w.heap.size := by omega
  have ne3 : ¬ w.heap.size + 1 = w.heap.size + 1 + 1 := by omega
  have ne4 : ¬ w.heap.size + 1 + 1 = w.heap.size + 1 := by omega
  go_region_held3 (fun w' => w'.cell? ⟨w.heap.size, 0, none⟩ = some (.slice A0 r.Map.length c0) ∧ w'.cell? ⟨w.heap.size, 1, none⟩ = some (.int .i64 r.Div) ∧ w'.cell? ⟨w.heap.size, 2, none⟩ = some (.int .i64 r.Bx) ∧ w'.cell? ⟨w.heap.size, 3, none⟩ = some (.int .i64 r.By) ∧ w'.cell? ⟨w.heap.size, 4, none⟩ = some (.int .i64 r.Low) ∧ w'.cell? ⟨w.heap.size, 5, none⟩ = some (.int .i64 r.High) ∧ w'.cell? ⟨w.heap.size, 6, none⟩ = some (.slice A6 r.Noise.length c6) ∧ w'.cell? ⟨w.heap.size, 7, none⟩ = some (.slice A7 r.Limits.length c7) ∧ w'.cell? ⟨w.heap.size + 1, 0, none⟩ = some (.slice A ps.length c))
    (go_keep)
    (first
      | (go_at_call 70; (with_reducible refine (HM.out _ (by exact HA.out.ext (hx.trans (by first | exact hcur | exact hcur.drew)))).mono ?_); rintro e wR ⟨usR, rfl, mR, hxN⟩; replace hcur := Ext.trans (by first | exact hcur | exact hcur.drew) hxN; (try replace mG := mG.ext hxN); have zR := hxN.size; (try simp only [World.size_drew] at mR zR); obtain ⟨B0, B6, B7, d0, d6, d7, rfl, -⟩ := room_sep (Exists.choose_spec mR).1; have cM9 := fun o => (bM.ext hcur).cell o; have cP9 := fun o => (bP.ext hcur).cell o; have cO9 := fun o => (bO.ext hcur).cell o; have fO9 := fun o => (bO.ext hcur).frozen o; have zcur := hcur.size)
      | (go_at_call 136; (with_reducible refine (HP.out _ (by exact HR.out.ext (hx.trans (by first | exact hcur | exact hcur.drew)))).mono ?_); rintro e wG hG; obtain ⟨B8, d8, rfl, mG, hxN⟩ := hG.agg; replace hcur := Ext.trans (by first | exact hcur | exact hcur.drew) hxN; (try replace mR := mR.ext hxN); have zG := hxN.size; (try simp only [World.size_drew] at mG zG); have cM9 := fun o => (bM.ext hcur).cell o; have cP9 := fun o => (bP.ext hcur).cell o; have cO9 := fun o => (bO.ext hcur).cell o; have fO9 := fun o => (bO.ext hcur).frozen o; have zcur := hcur.size))
  all_goals
    go_wp2
    have bF := (((((((((((bO.ext hcur).set_ 0 (.slice B0 r.Map.length d0)).set_ 1 (.int .i64 r.Div)).set_ 2 (.int .i64 r.Bx)).set_ 3 (.int .i64 r.By)).set_ 4 (.int .i64 r.Low)).set_ 5 (.int .i64 r.High)).set_ 6 (.slice B6 r.Noise.length d6)).set_ 7 (.slice B7 r.Limits.length d7)).set_ 8 (.slice B8 ps.length d8)).set_ 9 (.slice none 0 0))
    have cF := fun o => bF.cell o
    clear cM9 fO9 cO9 cP9
    refine bodyPost_ret (v := .tuple #[.agg #[.slice B0 r.Map.length d0, .int .i64 r.Div, .int .i64 r.Bx, .int .i64 r.By, .int .i64 r.Low, .int .i64 r.High, .slice B6 r.Noise.length d6, .slice B7 r.Limits.length d7, .slice B8 ps.length d8, .slice none 0 0], .bool true]) (by simp [results, Tryz.results189, go_sem, cF]) rfl ?_
    refine new_fin hx hcur mR mG (by omega) (g := w.heap.size + 1 + 1) (by omega) (by omega) (by omega) (by omega) ?_ H.out
    repeat (first | (with_reducible exact Touch.refl _ _ _) | refine Touch.setCell ?_ (by simp only; omega) (by simp only; omega) _ | (with_reducible exact Touch.of_ext (Ext.refl _).drew))
end Go.Proofs.YtfnmbpjkjajpcaaGreatDoor
namespace Go.Proofs.YtfnmbpjkjajpcaaGreatDoor
open Go.ChangeShapes Go.WideShapes Go.ChangeAt Go.RowKit
set_option linter.unusedVariables false
set_option maxRecDepth 100000
def StepMade (z : Watch × Ratio) (w : World) (e : Ending) (w' : World) : Prop := ∃ us, e = .returned (.tuple #[.agg us.toArray, .agg #[.int .i64 z.2.N, .int .i64 z.2.D]]) ∧ AggIn w' (watchF z.1) us w.heap.size w'.heap.size ∧ Ext w w'
theorem step_full {x : Watch} {s : Spot} {u : Ratio} (h : ¬ x.Log.length < 40) : stepW x s u = (x, (judgeW x s u).1) := by unfold stepW; rw [if_neg h]
theorem step_more {x : Watch} {s : Spot} {u : Ratio} (h : x.Log.length < 40) : stepW x s u = (⟨x.Room, x.Region, x.Log ++ [(judgeW x s u).2]⟩, (judgeW x s u).1) := by unfold stepW; rw [if_pos h]
theorem judge_I {x : Watch} {s : Spot} {u : Ratio} (u1 : I64 u.N) (u2 : I64 u.D) : I64 (judgeW x s u).1.N ∧ I64 (judgeW x s u).1.D := by
  unfold judgeW
  split
  · rename_i q
    obtain ⟨⟨l1, l2⟩, l3, l4⟩ := span_I2 (admW_span q.2)
    split
    · exact ⟨u1, u2⟩
    split
    · exact ⟨l1, l2⟩
    · exact ⟨l3, l4⟩
  · unfold I64; simp
theorem AggIn.relog {w w' : World} {x : Watch} {lo hi : Nat} {v0 v1 v2 v3 v4 v5 v6 v7 v8 : Value} {A : Option Addr} {c : Nat} (h : AggIn w (watchF x) [v0, v1, v2, v3, v4, v5, v6, v7, v8, .slice A x.Log.length c] lo hi) (hh : hi ≤ w.heap.size) {L : List Int} {g cap base n : Nat}
    (hn : n = L.length) (hg : w.grownBy w' (Value.slice A x.Log.length c).ownBlock) (ho : w'.ownsRow base 3 1 (.slice (some ⟨g, 0, none⟩) n cap) n (ints L)) (hat : (Value.slice A x.Log.length c).ownBlock = some g ∨ g = w.heap.size) (hlt : g < w'.heap.size) (hlo : lo ≤ w.heap.size) {w'' : World} (T2 : Touch hi w.heap.size w' w'') :
    AggIn w'' (watchF ⟨x.Room, x.Region, L⟩) [v0, v1, v2, v3, v4, v5, v6, v7, v8, .slice (some ⟨g, 0, none⟩) n cap] lo w''.heap.size := by
  subst hn
  obtain ⟨rs, h1, h2, h3⟩ := h
  obtain ⟨p1, p2, r1, r2, e1, rfl, q1, q2⟩ := AggSep.split (fs := roomF x.Room ++ [halfF x.Region]) (gs := [intF x.Log]) h1
  have hl := q1.len
  have hp : p1 = [v0, v1, v2, v3, v4, v5, v6, v7, v8] := by
    have := congrArg (List.take 9) e1
    rw [List.take_left' (by rw [hl]; rfl)] at this
    exact this.symm
  rw [hp] at e1 q1
  obtain ⟨A', c', r, a, b, rr, e2, e3, hm, hab, _, e4⟩ := q2
  rw [e4] at e3
  rw [e2] at e1
  have e5 : Value.slice A x.Log.length c = Value.slice A' x.Log.length c' := by
    have := congrArg (fun l => l[9]?) e1
    simpa using this
  injection e5 with e6 _ e7
  subst e6 e7
  have hin := h3 (a, b) (List.mem_append_right _ (by rw [e3]; exact List.mem_cons_self ..))
  have hd : ∀ p ∈ r1, p.2 ≤ a ∨ b ≤ p.1 := by
    have : ∀ {xs : List (Nat × Nat)}, Apart (xs ++ r2) → ∀ p ∈ xs, p.2 ≤ a ∨ b ≤ p.1 := by
      intro xs
      induction xs with
      | nil => intro _ p hp; cases hp
      | cons y xs ih =>
        intro h p hp
        rcases List.mem_cons.1 hp with rfl | hp
        · exact h.1 (a, b) (List.mem_append_right _ (by rw [e3]; exact List.mem_cons_self ..))
        · exact ih h.2 p hp
    exact this h2
  have T : Touch a b w w' := Touch.of_only hg fun k hk => ⟨(hm.at_ hk).1, (hm.at_ hk).2.1⟩
  have hnew : Mine w' g (g + 1) 3 1 (.slice (some ⟨g, 0, none⟩) L.length cap) L.length (ints L) := by
    refine ⟨⟨ho.1, ?_⟩, fun k hk => by simp [Value.ownBlock] at hk; omega⟩
    rcases ho.2 with ⟨hv, _⟩ | ⟨k, cap2, cur, hv, _, rest⟩
    · cases hv
    · have hk : k = g := by injection hv with hv _ _; injection hv with hv; injection hv with hv _ _; exact hv.symm
      subst hk
      exact .inr ⟨k, cap2, cur, hv, Nat.le_refl _, rest⟩
  have hgr : ∀ p ∈ r1, p.2 ≤ g ∨ g + 1 ≤ p.1 := by
    intro p hp
    rcases hat with hat | hat
    · have := hm.at_ hat
      have := hd p hp
      omega
    · have := (h3 p (List.mem_append_left _ hp)).2
      omega
  have hsT := T2.size
  have hnew2 := hnew.touch T2 (by rcases hat with hat | hat; (have := hm.at_ hat; left; omega); (right; omega))
  refine ⟨r1 ++ [(g, g + 1)], ((q1.touch T hd).touch T2 (fun q hq => .inl (h3 q (List.mem_append_left _ hq)).2)).append ⟨_, _, [], g, g + 1, [], rfl, rfl, hnew2, Nat.le_succ _, rfl, rfl⟩, h2.left.append ⟨fun _ hq => (by cases hq), True.intro⟩ fun p hp q hq => ?_, fun p hp => ?_⟩
  · rw [List.mem_singleton] at hq
    subst hq
    exact hgr p hp
  · have hs := T.size
    rcases List.mem_append.1 hp with hp | hp
    · have := h3 p (List.mem_append_left _ hp); omega
    · rw [List.mem_singleton] at hp
      subst hp
      simp only
      rcases hat with hat | hat
      · have := hm.at_ hat; omega
      · omega
theorem watch_log {w : World} {x : Watch} {lo hi : Nat} {v0 v1 v2 v3 v4 v5 v6 v7 v8 : Value} {A : Option Addr} {c : Nat} (h : AggIn w (watchF x) [v0, v1, v2, v3, v4, v5, v6, v7, v8, .slice A x.Log.length c] lo hi) : ∃ a b, Mine w a b 3 1 (.slice A x.Log.length c) x.Log.length (ints x.Log) ∧ lo ≤ a ∧ b ≤ hi ∧ a ≤ b := by
  obtain ⟨rs, ⟨A0, c0, _, a0, b0, _, e0, rfl, o0, l0, _, e1, _, e2, _, e3, _, e4, _, e5, A6, c6, _, a6, b6, _, e6, rfl, o6, l6, A7, c7, _, a7, b7, _, e7, rfl, o7, l7, A8, c8, _, a8, b8, _, e8, rfl, o8, l8, A9, c9, _, a9, b9, _, e9, rfl, o9, l9, e10, e11⟩, _, hb⟩ := h
  obtain ⟨_, rfl⟩ := List.cons.inj e0
  obtain ⟨_, rfl⟩ := List.cons.inj e1
  obtain ⟨_, rfl⟩ := List.cons.inj e2
  obtain ⟨_, rfl⟩ := List.cons.inj e3
  obtain ⟨_, rfl⟩ := List.cons.inj e4
  obtain ⟨_, rfl⟩ := List.cons.inj e5
  obtain ⟨_, rfl⟩ := List.cons.inj e6
  obtain ⟨_, rfl⟩ := List.cons.inj e7
  obtain ⟨_, rfl⟩ := List.cons.inj e8
  obtain ⟨f9, rfl⟩ := List.cons.inj e9
  obtain ⟨rfl, -, rfl⟩ := Value.slice.inj f9
  have := hb (a9, b9) (by simp)
  exact ⟨a9, b9, o9, this.1, this.2, l9⟩
theorem own_eq3 {w : World} {base : Nat} {e : TypeId} {s n : Nat} {v : Value} {xs ys : List Value} (h : w.ownsRow base e s v n xs) (e' : xs = ys) : w.ownsRow base e s v n ys := e' ▸ h
theorem Touch.drew {lo hi : Nat} {a b : World} (h : Touch lo hi a b) : Touch lo hi a b.drew := ⟨h.os, h.tape, h.output, h.size, h.block⟩
theorem step_fin {w V V' : World} {z : Watch × Ratio} {us : List Value} {a b g : Nat} (hx : Ext w V) (m : AggIn V (watchF z.1) us a b) (hg : g ≤ a) (hb : b ≤ V.heap.size) (hw : w.heap.size ≤ a) (T : Touch w.heap.size g V V') : StepMade z w (.returned (.tuple #[.agg us.toArray, .agg #[.int .i64 z.2.N, .int .i64 z.2.D]])) V' :=
  ⟨us, rfl, (m.touch T (.inr hg)).wide hw (Nat.le_trans hb T.size), hx.touch T (Nat.le_refl _)⟩
set_option maxHeartbeats 16000000 in
theorem implWatchStep_any (x : Watch) (A0 A6 A7 A8 A9 : Option Addr) (c0 c6 c7 c8 c9 : Nat) (s : Spot) (u : Ratio) (w : World) (h : WatchAll w x A0 A6 A7 A8 A9 c0 c6 c7 c8 c9) (hFI : watchFI x) (b0 : Big x.Room.Map.length ∧ Big x.Room.Noise.length ∧ Big x.Room.Limits.length) (b8 : Big x.Region.length) (b9 : Big x.Log.length) (s1 : I64 s.X) (s2 : I64 s.Y) (s3 : I64 s.D) (u1 : I64 u.N) (u2 : I64 u.D) :
    Calls Tryz.prog 190 #[.agg #[.slice A0 x.Room.Map.length c0, .int .i64 x.Room.Div, .int .i64 x.Room.Bx, .int .i64 x.Room.By, .int .i64 x.Room.Low, .int .i64 x.Room.High, .slice A6 x.Room.Noise.length c6, .slice A7 x.Room.Limits.length c7, .slice A8 x.Region.length c8, .slice A9 x.Log.length c9], .agg #[.int .i64 s.X, .int .i64 s.Y, .int .i64 s.D], .agg #[.int .i64 u.N, .int .i64 u.D]] w (StepMade (stepW x s u) w) := by
  obtain ⟨i0, hi0, hz0, hz1, hz2⟩ := info_parts intK_info
  have HJ := Lib.hid (fun w h => implJudge_any x A0 A6 A7 A8 A9 c0 c6 c7 c8 c9 s u w h hFI (big_room b0) (by unfold Big at b8; unfold maxLen; omega) (by unfold Big at b9; unfold maxLen; omega) s1 s2 s3 u1 u2)
  have HCp := Lib.hid (fun w h => implCopyWatch_any x A0 A6 A7 A8 A9 c0 c6 c7 c8 c9 w h b0 b8 b9)
  have HFull := Lib.hid (fun h => step_full (x := x) (s := s) (u := u) h)
  have HMore := Lib.hid (fun h => step_more (x := x) (s := s) (u := u) h)
  have HA := Lib.hid h
  have hb9 : x.Log.length ≤ 1048576 := b9
  have hx : Ext w (((((w.alloc (.cells #[.slice A0 x.Room.Map.length c0, .int .i64 x.Room.Div, .int .i64 x.Room.Bx, .int .i64 x.Room.By, .int .i64 x.Room.Low, .int .i64 x.Room.High, .slice A6 x.Room.Noise.length c6, .slice A7 x.Room.Limits.length c7, .slice A8 x.Region.length c8, .slice A9 x.Log.length c9] 40)).alloc (.cells #[.int .i64 s.X, .int .i64 s.Y, .int .i64 s.D] 38)).alloc (.cells #[.int .i64 u.N, .int .i64 u.D] 139)).alloc (.cells #[.slice none 0 0, .int .i64 0, .int .i64 0, .int .i64 0, .int .i64 0, .int .i64 0, .slice none 0 0, .slice none 0 0, .slice none 0 0, .slice none 0 0] 40)).alloc (.cells #[.int .i64 0, .int .i64 0] 139)) := ((((((Ext.refl w).alloc _).alloc _).alloc _).alloc _).alloc _)
  have bM := (((((Blk.new w 40 #[.slice A0 x.Room.Map.length c0, .int .i64 x.Room.Div, .int .i64 x.Room.Bx, .int .i64 x.Room.By, .int .i64 x.Room.Low, .int .i64 x.Room.High, .slice A6 x.Room.Noise.length c6, .slice A7 x.Room.Limits.length c7, .slice A8 x.Region.length c8, .slice A9 x.Log.length c9]).alloc (.cells #[.int .i64 s.X, .int .i64 s.Y, .int .i64 s.D] 38)).alloc (.cells #[.int .i64 u.N, .int .i64 u.D] 139)).alloc (.cells #[.slice none 0 0, .int .i64 0, .int .i64 0, .int .i64 0, .int .i64 0, .int .i64 0, .slice none 0 0, .slice none 0 0, .slice none 0 0, .slice none 0 0] 40)).alloc (.cells #[.int .i64 0, .int .i64 0] 139))
  have bS := ((((Blk.new (w.alloc (.cells #[.slice A0 x.Room.Map.length c0, .int .i64 x.Room.Div, .int .i64 x.Room.Bx, .int .i64 x.Room.By, .int .i64 x.Room.Low, .int .i64 x.Room.High, .slice A6 x.Room.Noise.length c6, .slice A7 x.Room.Limits.length c7, .slice A8 x.Region.length c8, .slice A9 x.Log.length c9] 40)) 38 #[.int .i64 s.X, .int .i64 s.Y, .int .i64 s.D]).alloc (.cells #[.int .i64 u.N, .int .i64 u.D] 139)).alloc (.cells #[.slice none 0 0, .int .i64 0, .int .i64 0, .int .i64 0, .int .i64 0, .int .i64 0, .slice none 0 0, .slice none 0 0, .slice none 0 0, .slice none 0 0] 40)).alloc (.cells #[.int .i64 0, .int .i64 0] 139))
  have bU := (((Blk.new ((w.alloc (.cells #[.slice A0 x.Room.Map.length c0, .int .i64 x.Room.Div, .int .i64 x.Room.Bx, .int .i64 x.Room.By, .int .i64 x.Room.Low, .int .i64 x.Room.High, .slice A6 x.Room.Noise.length c6, .slice A7 x.Room.Limits.length c7, .slice A8 x.Region.length c8, .slice A9 x.Log.length c9] 40)).alloc (.cells #[.int .i64 s.X, .int .i64 s.Y, .int .i64 s.D] 38)) 139 #[.int .i64 u.N, .int .i64 u.D]).alloc (.cells #[.slice none 0 0, .int .i64 0, .int .i64 0, .int .i64 0, .int .i64 0, .int .i64 0, .slice none 0 0, .slice none 0 0, .slice none 0 0, .slice none 0 0] 40)).alloc (.cells #[.int .i64 0, .int .i64 0] 139))
  have bO := ((Blk.new (((w.alloc (.cells #[.slice A0 x.Room.Map.length c0, .int .i64 x.Room.Div, .int .i64 x.Room.Bx, .int .i64 x.Room.By, .int .i64 x.Room.Low, .int .i64 x.Room.High, .slice A6 x.Room.Noise.length c6, .slice A7 x.Room.Limits.length c7, .slice A8 x.Region.length c8, .slice A9 x.Log.length c9] 40)).alloc (.cells #[.int .i64 s.X, .int .i64 s.Y, .int .i64 s.D] 38)).alloc (.cells #[.int .i64 u.N, .int .i64 u.D] 139)) 40 #[.slice none 0 0, .int .i64 0, .int .i64 0, .int .i64 0, .int .i64 0, .int .i64 0, .slice none 0 0, .slice none 0 0, .slice none 0 0, .slice none 0 0]).alloc (.cells #[.int .i64 0, .int .i64 0] 139))
  have bR := (Blk.new ((((w.alloc (.cells #[.slice A0 x.Room.Map.length c0, .int .i64 x.Room.Div, .int .i64 x.Room.Bx, .int .i64 x.Room.By, .int .i64 x.Room.Low, .int .i64 x.Room.High, .slice A6 x.Room.Noise.length c6, .slice A7 x.Room.Limits.length c7, .slice A8 x.Region.length c8, .slice A9 x.Log.length c9] 40)).alloc (.cells #[.int .i64 s.X, .int .i64 s.Y, .int .i64 s.D] 38)).alloc (.cells #[.int .i64 u.N, .int .i64 u.D] 139)).alloc (.cells #[.slice none 0 0, .int .i64 0, .int .i64 0, .int .i64 0, .int .i64 0, .int .i64 0, .slice none 0 0, .slice none 0 0, .slice none 0 0, .slice none 0 0] 40)) 139 #[.int .i64 0, .int .i64 0])
  simp only [World.size_alloc] at bS bU bO bR
  clear h hFI b0 b8 b9 s1 s2 s3 u1 u2
  generalize judgeW x s u = J at *
  obtain ⟨⟨jn, jd⟩, jv⟩ := J
  dsimp only at *
  generalize stepW x s u = SW at *
  have cbM_75 := fun o => bM.cell o
  have cbS_76 := fun o => bS.cell o
  have cbU_77 := fun o => bU.cell o
  have cbO_78 := fun o => bO.cell o
  have fbO_78 := fun o => bO.frozen o
  have cbR_79 := fun o => bR.cell o
  have fbR_79 := fun o => bR.frozen o
  go_enter Tryz.func190, Tryz.ntmps190
  go_wp2_with fail
  refine (HCp.out _ (HA.out.ext hx)).mono ?_
  rintro e w1 ⟨us, rfl, m1, hx1⟩
  replace hx := hx.trans hx1
  replace bM := bM.ext hx1
  replace bS := bS.ext hx1
  replace bU := bU.ext hx1
  replace bO := bO.ext hx1
  replace bR := bR.ext hx1
  have cbM_80 := fun o => bM.cell o
  have cbS_81 := fun o => bS.cell o
  have cbU_82 := fun o => bU.cell o
  have cbO_83 := fun o => bO.cell o
  have fbO_83 := fun o => bO.frozen o
  have cbR_84 := fun o => bR.cell o
  have fbR_84 := fun o => bR.frozen o
  obtain ⟨B0, B6, B7, B8, B9, d0, d6, d7, d8, d9, rfl, HB⟩ := watch_sep (Exists.choose_spec m1).1
  have hs1 := bR.lt
  have hlo1 : w.heap.size + 5 ≤ w1.heap.size := by have := hx1.size; simp only [World.size_alloc] at this; omega
  have bT := Blk.new w1 40 #[.slice B0 x.Room.Map.length d0, .int .i64 x.Room.Div, .int .i64 x.Room.Bx, .int .i64 x.Room.By, .int .i64 x.Room.Low, .int .i64 x.Room.High, .slice B6 x.Room.Noise.length d6, .slice B7 x.Room.Limits.length d7, .slice B8 x.Region.length d8, .slice B9 x.Log.length d9]
  have m1 := m1
  simp only [World.size_alloc] at m1
  have ha1 := (Ext.refl w1).alloc (.cells #[.slice B0 x.Room.Map.length d0, .int .i64 x.Room.Div, .int .i64 x.Room.Bx, .int .i64 x.Room.By, .int .i64 x.Room.Low, .int .i64 x.Room.High, .slice B6 x.Room.Noise.length d6, .slice B7 x.Room.Limits.length d7, .slice B8 x.Region.length d8, .slice B9 x.Log.length d9] 40)
  replace hx := hx.trans ha1
  replace bM := bM.ext ha1
  replace bS := bS.ext ha1
  replace bU := bU.ext ha1
  replace bO := bO.ext ha1
  replace bR := bR.ext ha1
  have cbM_85 := fun o => bM.cell o
  have cbS_86 := fun o => bS.cell o
  have cbU_87 := fun o => bU.cell o
  have cbO_88 := fun o => bO.cell o
  have fbO_88 := fun o => bO.frozen o
  have cbR_89 := fun o => bR.cell o
  have fbR_89 := fun o => bR.frozen o
  replace m1 := m1.ext ha1
  have cT := fun o => bT.cell o
  have fT := fun o => bT.frozen o
  go_wp2_with fail
  refine (HJ.out _ (HA.out.ext hx)).mono ?_
  rintro e w2 ⟨rfl, hx2⟩
  replace hx := hx.trans hx2
  replace bM := bM.ext hx2
  replace bS := bS.ext hx2
  replace bU := bU.ext hx2
  replace bO := bO.ext hx2
  replace bR := bR.ext hx2
  replace bT := bT.ext hx2
  have cbM_90 := fun o => bM.cell o
  have cbS_91 := fun o => bS.cell o
  have cbU_92 := fun o => bU.cell o
  have cbO_93 := fun o => bO.cell o
  have fbO_93 := fun o => bO.frozen o
  have cbR_94 := fun o => bR.cell o
  have fbR_94 := fun o => bR.frozen o
  have cbT_95 := fun o => bT.cell o
  have fbT_95 := fun o => bT.frozen o
  replace m1 := m1.ext hx2
  have bX := Blk.new w2 139 #[.int .i64 jn, .int .i64 jd]
  have hs2 := bT.lt
  have bO2 := bO
  have bR2 := bR
  have hx2_ := hx
  have m12 := m1
  have ha2 := (Ext.refl w2).alloc (.cells #[.int .i64 jn, .int .i64 jd] 139)
  replace hx := hx.trans ha2
  replace bM := bM.ext ha2
  replace bS := bS.ext ha2
  replace bU := bU.ext ha2
  replace bO := bO.ext ha2
  replace bR := bR.ext ha2
  replace bT := bT.ext ha2
  have cbM_96 := fun o => bM.cell o
  have cbS_97 := fun o => bS.cell o
  have cbU_98 := fun o => bU.cell o
  have cbO_99 := fun o => bO.cell o
  have fbO_99 := fun o => bO.frozen o
  have cbR_100 := fun o => bR.cell o
  have fbR_100 := fun o => bR.frozen o
  have cbT_101 := fun o => bT.cell o
  have fbT_101 := fun o => bT.frozen o
  replace m1 := m1.ext ha2
  have cX := fun o => bX.cell o
  dsimp only
  have nO1 : ¬ w.heap.size + 1 + 1 + 1 = w.heap.size + 1 + 1 + 1 + 1 := by omega
  have nO2 : ¬ w.heap.size + 1 + 1 + 1 + 1 = w.heap.size + 1 + 1 + 1 := by omega
  have lR := bR.lt
  have lO := bO.lt
  have lX := bX.lt
  have lT := bT.lt
  have nT1 : ¬ w1.heap.size = w.heap.size + 1 + 1 + 1 := by omega
  have nT2 : ¬ w1.heap.size = w.heap.size + 1 + 1 + 1 + 1 := by omega
  have nT3 : ¬ w2.heap.size = w.heap.size + 1 + 1 + 1 := by omega
  have nT4 : ¬ w2.heap.size = w.heap.size + 1 + 1 + 1 + 1 := by omega
  by_cases hl : x.Log.length < 40
  rotate_left
  · have H := Lib.hid (HFull.out hl)
    have hl1 : ¬ (x.Log.length : Int) < 40 := by omega
    have hl2 : decide ((x.Log.length : Int) < 40) = false := decide_eq_false hl1
    clear hl
    clear bM bS bU
    have cO2 := fun o => bO2.cell o
    have cR2 := fun o => bR2.cell o
    have cO3 := fun o => bO.cell o
    have cR3 := fun o => bR.cell o
    go_wp2_with fail
    go_region
    all_goals
      go_wp2
      refine bodyPost_ret (v := .tuple #[.agg #[.slice B0 x.Room.Map.length d0, .int .i64 x.Room.Div, .int .i64 x.Room.Bx, .int .i64 x.Room.By, .int .i64 x.Room.Low, .int .i64 x.Room.High, .slice B6 x.Room.Noise.length d6, .slice B7 x.Room.Limits.length d7, .slice B8 x.Region.length d8, .slice B9 x.Log.length d9], .agg #[.int .i64 jn, .int .i64 jd]]) (by simp [results, Tryz.results190, go_sem, cO3, cR3]) rfl ?_
      rw [H.out]
      refine step_fin (z := (x, ⟨jn, jd⟩)) (us := [.slice B0 x.Room.Map.length d0, .int .i64 x.Room.Div, .int .i64 x.Room.Bx, .int .i64 x.Room.By, .int .i64 x.Room.Low, .int .i64 x.Room.High, .slice B6 x.Room.Noise.length d6, .slice B7 x.Room.Limits.length d7, .slice B8 x.Region.length d8, .slice B9 x.Log.length d9]) hx m1 (g := w.heap.size + 5) (by omega) (by omega) (by omega) ?_
      refine Touch.drew ?_
      repeat (first | (with_reducible exact Touch.refl _ _ _) | refine Touch.setCell ?_ (by simp only; omega) (by simp only; omega) _)
  have H := Lib.hid (HMore.out hl)
  have hl1 : (x.Log.length : Int) < 40 := by omega
  have hl2 : decide ((x.Log.length : Int) < 40) = true := decide_eq_true hl1
  clear bO2 bR2 hx2_ m12 bM bS bU
  obtain ⟨a9, b9, o9, k1, k2, k3⟩ := watch_log m1
  have m5 := m1.ext ((Ext.refl (w2.alloc (.cells #[.int .i64 jn, .int .i64 jd] 139))).alloc (.cells #[.int .i64 jv] 3))
  have hx5 := hx.alloc (.cells #[.int .i64 jv] 3)
  have bJ : Blk ((w2.alloc (.cells #[.int .i64 jn, .int .i64 jd] 139)).alloc (.cells #[.int .i64 jv] 3)) (w2.heap.size + 1) 3 #[.int .i64 jv] := by simpa only [World.size_alloc] using Blk.new (w2.alloc (.cells #[.int .i64 jn, .int .i64 jd] 139)) 3 #[.int .i64 jv]
  have hs5 : ((w2.alloc (.cells #[.int .i64 jn, .int .i64 jd] 139)).alloc (.cells #[.int .i64 jv] 3)).heap.size = w2.heap.size + 1 + 1 := by simp
  have HS5 := Lib.hid hs5
  clear hs5
  go_wp2_with (at_builtin; go_must (refine wpList_append_lies (P := Tryz.prog) _ rfl _ _ 31 rfl a9 3 i0 (.int .i64 0) 1 8 Tryz.underlying31 hi0 hz0 hz1 hz2 rfl (by decide) _ _ _ rfl (own_ext o9.1 ((Ext.refl (w2.alloc (.cells #[.int .i64 jn, .int .i64 jd] 139))).alloc (.cells #[.int .i64 jv] 3))) ⟨w2.heap.size + 1, 0, none⟩ 1 1 [.int .i64 jv] rfl rfl (row_add (fun j v hj => by rw [bJ.cell, Nat.zero_add]; simpa using hj)) (by simp [Value.oneCell']) (by omega) (by unfold maxLen; omega) (by omega) (by have := HS5.out; omega) _ rfl ?_); intro g9 cap9 w4 hown hgrow hat hlt; have TT : Touch a9 b9 _ w4 := Touch.of_only hgrow (fun k hk => ⟨(o9.at_ hk).1, (o9.at_ hk).2.1⟩); have zT := TT.size; have bT4 := (bT.alloc (.cells #[.int .i64 jv] 3)).touch TT (.inr (by omega)); have bO4 := (bO.alloc (.cells #[.int .i64 jv] 3)).touch TT (.inl (by omega)); have bR4 := (bR.alloc (.cells #[.int .i64 jv] 3)).touch TT (.inl (by omega)); have bX4 := (bX.alloc (.cells #[.int .i64 jv] 3)).touch TT (.inr (by omega)); have cT4 := fun o => bT4.cell o; have fT4 := fun o => bT4.frozen o; have cO4 := fun o => bO4.cell o; have fO4 := fun o => bO4.frozen o; have cR4 := fun o => bR4.cell o; have fR4 := fun o => bR4.frozen o; have cX4 := fun o => bX4.cell o)
  have hx6 : Ext w (w4.setCell ⟨w1.heap.size, 9, none⟩ (.slice (some ⟨g9, 0, none⟩) (x.Log.length + 1) cap9)) := (hx5.touch TT (by omega)).setCell (by simp only; omega) _
  have m6 := AggIn.relog m5 (by have := HS5.out; omega) (L := x.Log ++ [jv]) (by simp) hgrow (own_eq3 hown (by simp [ints])) hat hlt (by have := HS5.out; omega) (w'' := w4.setCell ⟨w1.heap.size, 9, none⟩ (.slice (some ⟨g9, 0, none⟩) (x.Log.length + 1) cap9)) ((Touch.refl _ _ w4).setCell (by simp only; omega) (by have := HS5.out; simp only; omega) _)
  go_region
  all_goals
    go_wp2
    refine bodyPost_ret (v := .tuple #[.agg #[.slice B0 x.Room.Map.length d0, .int .i64 x.Room.Div, .int .i64 x.Room.Bx, .int .i64 x.Room.By, .int .i64 x.Room.Low, .int .i64 x.Room.High, .slice B6 x.Room.Noise.length d6, .slice B7 x.Room.Limits.length d7, .slice B8 x.Region.length d8, .slice (some ⟨g9, 0, none⟩) (x.Log.length + 1) cap9], .agg #[.int .i64 jn, .int .i64 jd]]) (by simp [results, Tryz.results190, go_sem, cO4, cR4]) rfl ?_
    rw [H.out]
    refine step_fin (z := (⟨x.Room, x.Region, x.Log ++ [jv]⟩, ⟨jn, jd⟩)) (us := [.slice B0 x.Room.Map.length d0, .int .i64 x.Room.Div, .int .i64 x.Room.Bx, .int .i64 x.Room.By, .int .i64 x.Room.Low, .int .i64 x.Room.High, .slice B6 x.Room.Noise.length d6, .slice B7 x.Room.Limits.length d7, .slice B8 x.Region.length d8, .slice (some ⟨g9, 0, none⟩) (x.Log.length + 1) cap9]) hx6 m6 (g := w.heap.size + 5) (by omega) (Nat.le_refl _) (by omega) ?_
    refine Touch.drew ?_
    repeat (first | (with_reducible exact Touch.refl _ _ _) | refine Touch.setCell ?_ (by simp only; omega) (by simp only; omega) _)
end Go.Proofs.YtfnmbpjkjajpcaaGreatDoor
