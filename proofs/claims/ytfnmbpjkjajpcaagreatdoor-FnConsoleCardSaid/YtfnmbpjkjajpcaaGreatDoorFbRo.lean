/- Contracts of rooms: RoomOk of the program and of the reference. (written by tools/mkRo.py) -/
import Derived.Test.YtfnmbpjkjajpcaaGreatDoorFbIv
import Derived.Test.YtfnmbpjkjajpcaaGreatDoorFbBz
import Derived.Test.YtfnmbpjkjajpcaaGreatDoorFbMz
import Derived.Test.YtfnmbpjkjajpcaaGreatDoorFbHz
namespace Go.Proofs.YtfnmbpjkjajpcaaGreatDoor
open Go.ChangeShapes Go.WideShapes Go.ChangeAt Go.RowKit
set_option linter.unusedVariables false
set_option maxRecDepth 100000
def isMapB (m : List Int) (q : Int) : Bool := decide (m.length = 4) && inR q 1 20 && m.all fun n => inR n (-20) 20
def detM (m : List Int) : Int := m.getD 0 0 * m.getD 3 0 - m.getD 1 0 * m.getD 2 0
def roomOk (r : Room) : Bool := isMapB r.Map r.Div && decide (detM r.Map ≠ 0) && inR r.Bx (-100) 100 && inR r.By (-100) 100 && (inR r.Low (-1000) 1000 && inR r.High r.Low 1000) && (regOk r.Noise && regOk r.Limits) && (!decide (r.Noise.length = 0) && !decide (r.Limits.length = 0))
theorem isMapB_4 {m : List Int} {q : Int} (h : isMapB m q = true) : ∃ a b c d, m = [a, b, c, d] ∧ inR a (-20) 20 = true ∧ inR b (-20) 20 = true ∧ inR c (-20) 20 = true ∧ inR d (-20) 20 = true := by
  unfold isMapB at h
  simp only [Bool.and_eq_true, decide_eq_true_eq] at h
  obtain ⟨⟨h1, _⟩, h2⟩ := h
  match m, h1 with
  | [a, b, c, d], _ =>
    simp only [List.all_cons, List.all_nil, Bool.and_true, Bool.and_eq_true] at h2
    exact ⟨a, b, c, d, rfl, h2.1, h2.2.1, h2.2.2.1, h2.2.2.2⟩
theorem inR_bd {n a b : Int} (h : inR n a b = true) : a ≤ n ∧ n ≤ b := by unfold inR at h; simpa using h
set_option maxHeartbeats 1000000 in
theorem isMap_any (A : Option Addr) (n c : Nat) (m : List Int) (q : Int) (w : World) (hn : m.length = n) (hr : Row w A (ints m)) (hle : n ≤ maxLen) :
    Calls Tryz.prog 295 #[.slice A n c, .int .i64 q] w fun e w' => e = .returned (.bool (isMapB m q)) ∧ w = w' := by
  unfold maxLen at hle
  by_cases h4 : n = 4
  rotate_left
  · have H : Hid (isMapB m q = false) := by unfold Hid isMapB; rw [hn, decide_eq_false h4]; rfl
    have h5 : ¬ (n : Int) = 4 := by omega
    have h6 : ((n : Int) != 4) = true := by simpa using h5
    clear h4
    go_enter Tryz.func295, Tryz.ntmps295
    go_wp2
    go_ret
    exact ⟨ret_bool H.out.symm, rfl⟩
  have H : Hid (isMapB m q = (inR q 1 20 && m.all fun n => inR n (-20) 20)) := by unfold Hid isMapB; rw [hn, decide_eq_true h4]; rfl
  have h6 : ((n : Int) != 4) = false := by rw [h4]; rfl
  have HL : Hid (m.length = 4) := hn.trans h4
  obtain ⟨v, hv⟩ : ∃ v, inR q 1 20 = v := ⟨_, rfl⟩
  rw [hv] at H
  have HR := Lib.hid hr
  have HN := Lib.hid hn
  have H4 : Hid (n = 4) := h4
  clear hr hn h4
  go_enter Tryz.func295, Tryz.ntmps295
  go_wp2_with fail
  refine (inRange_any _ _ _ _).mono ?_
  rintro e w' ⟨rfl, rfl⟩
  rw [hv]
  clear hv
  cases v
  · go_wp2
    go_ret
    exact ⟨ret_bool H.out.symm, rfl⟩
  go_wp2
  go_loop [17] (fun i => ∃ k : Nat, k ≤ n ∧ i = .int .i64 k ∧ (m.take k).all (fun n => inR n (-20) 20) = true) (fun i => n - (intOf i).toNat)
  case atStart => exact ⟨0, Nat.zero_le _, rfl, rfl⟩
  case round =>
  obtain ⟨k, hk, rfl, hall⟩ := hrel
  have Hall := Lib.hid hall
  clear hall
  by_cases hlt : k < n
  rotate_left
  · go_wp2
    go_ret
    refine ⟨ret_bool ?_, rfl⟩
    have := Hall.out
    rw [List.take_of_length_le (by rw [HN.out]; omega)] at this
    rw [H.out, this]
    rfl
  have hkl : k < m.length := by rw [HN.out]; exact hlt
  obtain ⟨b, off, rfl, hb, hc⟩ := HR.out.int (k := k) hkl
  have Hy : Hid (∀ _ : inR (m[k]'hkl) (-20) 20 = true, (m.take (k + 1)).all (fun n => inR n (-20) 20) = true) := fun hp => by rw [all_take_succ _ _ _ hkl, hp, Hall.out]; rfl
  have Hn : Hid (∀ _ : inR (m[k]'hkl) (-20) 20 = false, m.all (fun n => inR n (-20) 20) = false) := fun hp => all_false_at _ _ _ hkl hp
  obtain ⟨z, hz⟩ : ∃ z, m[k]'hkl = z := ⟨_, rfl⟩
  rw [hz] at hc Hy Hn
  clear hz
  obtain ⟨u, hu⟩ : ∃ u, inR z (-20) 20 = u := ⟨_, rfl⟩
  rw [hu] at Hy Hn
  go_wp2_with fail
  refine (inRange_any _ _ _ _).mono ?_
  rintro e w' ⟨rfl, rfl⟩
  rw [hu]
  clear hu
  cases u
  · go_wp2
    go_ret
    exact ⟨ret_bool (by rw [H.out, Hn.out (by first | rfl | trivial)]; rfl), rfl⟩
  · go_wp2
    go_round
    case rel => exact ⟨k + 1, by omega, by go_num, Hy.out (by first | rfl | trivial)⟩
    case measure => simp [intOf]; omega
set_option maxHeartbeats 1000000 in
theorem isTurnable_any (A : Option Addr) (n c : Nat) (m : List Int) (q : Int) (w : World) (hn : m.length = n) (hr : Row w A (ints m)) (hle : n ≤ maxLen) :
    Calls Tryz.prog 243 #[.slice A n c, .int .i64 q] w fun e w' => e = .returned (.bool (isMapB m q && decide (detM m ≠ 0))) ∧ Ext w w' := by
  have HR := Lib.hid hr
  have HM := Lib.hid (fun w h => isMap_any A n c m q w hn h hle)
  obtain ⟨v, hv⟩ : ∃ v, isMapB m q = v := ⟨_, rfl⟩
  rw [hv] at HM
  rw [hv]
  cases v
  · clear hv hn hr
    go_enter Tryz.func243, Tryz.ntmps243
    go_wp2_with fail
    go_quiet ((go_at_call 295; exact Calls.quiet_of_same ((HM.out _ (by exact HR.out)).mono fun _ _ ⟨h1, h2⟩ => ⟨h1, h2.symm⟩)))
    go_wp2
    go_ret
    exact ⟨rfl, (Ext.refl w).drewN _⟩
  obtain ⟨a, b, c', d, rfl, ha, hb, hc, hd⟩ := isMapB_4 hv
  obtain ⟨g, off, rfl, hg, hcell⟩ := hr.at_ (ints_ne (k := 0) (by simp))
  have k0 := hcell 0 (.int .i64 a) rfl
  have k1 := hcell 1 (.int .i64 b) rfl
  have k2 := hcell 2 (.int .i64 c') rfl
  have k3 := hcell 3 (.int .i64 d) rfl
  rw [Nat.add_zero] at k0
  obtain rfl : n = 4 := hn.symm
  have HB1 := inR_bd ha
  have HB2 := inR_bd hb
  have HB3 := inR_bd hc
  have HB4 := inR_bd hd
  obtain ⟨p1, p2⟩ := prod_bd (A := 20) (B := 20) (C := 400) HB1 HB4 rfl
  obtain ⟨p3, p4⟩ := prod_bd (A := 20) (B := 20) (C := 400) HB2 HB3 rfl
  have w1 : IntKind.i64.wrap (a * d) = a * d := IntWalk.i64_in _ (by omega)
  have w2 : IntKind.i64.wrap (b * c') = b * c' := IntWalk.i64_in _ (by omega)
  have w3 : IntKind.i64.wrap (a * d - b * c') = a * d - b * c' := IntWalk.i64_in _ (by omega)
  have HD : Hid (detM [a, b, c', d] = a * d - b * c') := rfl
  clear hcell hv hr hn ha hb hc hd HB1 HB2 HB3 HB4
  by_cases hz : a * d - b * c' = 0
  · have H : Hid ((true && decide (detM [a, b, c', d] ≠ 0)) = false) := by unfold Hid; rw [HD.out]; simp [hz]
    have hz2 : ((a * d - b * c') != 0) = false := by simpa using hz
    clear hz p1 p2 p3 p4
    go_enter Tryz.func243, Tryz.ntmps243
    go_wp2_with fail
    go_quiet ((go_at_call 295; exact Calls.quiet_of_same ((HM.out _ (by exact HR.out)).mono fun _ _ ⟨h1, h2⟩ => ⟨h1, h2.symm⟩)))
    go_wp2
    go_ret
    exact ⟨ret_bool H.out.symm, (Ext.refl w).drewN _⟩
  · have H : Hid ((true && decide (detM [a, b, c', d] ≠ 0)) = true) := by unfold Hid; rw [HD.out]; simp [hz]
    have hz2 : ((a * d - b * c') != 0) = true := by simpa using hz
    clear hz p1 p2 p3 p4
    go_enter Tryz.func243, Tryz.ntmps243
    go_wp2_with fail
    go_quiet ((go_at_call 295; exact Calls.quiet_of_same ((HM.out _ (by exact HR.out)).mono fun _ _ ⟨h1, h2⟩ => ⟨h1, h2.symm⟩)))
    go_wp2
    go_ret
    exact ⟨ret_bool H.out.symm, (Ext.refl w).drewN _⟩
theorem isDrive_any (n : Int) (w : World) : Calls Tryz.prog 244 #[.int .i64 n] w fun e w' => e = .returned (.bool (inR n (-100) 100)) ∧ w = w' := by
  go_enter Tryz.func244, Tryz.ntmps244
  go_wp2_with fail
  refine (inRange_any _ _ _ _).mono ?_
  rintro e w' ⟨rfl, rfl⟩
  go_wp2
  go_ret
  exact ⟨rfl, rfl⟩
theorem isRange_any (a b : Int) (w : World) : Calls Tryz.prog 245 #[.int .i64 a, .int .i64 b] w fun e w' => e = .returned (.bool (inR a (-1000) 1000 && inR b a 1000)) ∧ w = w' := by
  by_cases h1 : -1000 ≤ a
  · by_cases h2 : a ≤ b
    · by_cases h3 : b ≤ 1000
      · have H : Hid ((inR a (-1000) 1000 && inR b a 1000) = true) := by unfold Hid inR; simp; omega
        go_enter Tryz.func245, Tryz.ntmps245
        go_wp2
        go_ret
        exact ⟨ret_bool H.out.symm, rfl⟩
      · have H : Hid ((inR a (-1000) 1000 && inR b a 1000) = false) := by unfold Hid inR; simp; omega
        go_enter Tryz.func245, Tryz.ntmps245
        go_wp2
        go_ret
        exact ⟨ret_bool H.out.symm, rfl⟩
    · have H : Hid ((inR a (-1000) 1000 && inR b a 1000) = false) := by unfold Hid inR; simp; omega
      go_enter Tryz.func245, Tryz.ntmps245
      go_wp2
      go_ret
      exact ⟨ret_bool H.out.symm, rfl⟩
  · have H : Hid ((inR a (-1000) 1000 && inR b a 1000) = false) := by unfold Hid inR; simp; omega
    go_enter Tryz.func245, Tryz.ntmps245
    go_wp2
    go_ret
    exact ⟨ret_bool H.out.symm, rfl⟩
structure RoomAt (w : World) (r : Room) (A0 A6 A7 : Option Addr) : Prop where
  m : Row w A0 (ints r.Map)
  p : Row w A6 (ints (flat Half.ints r.Noise))
  q : Row w A7 (ints (flat Half.ints r.Limits))
theorem RoomAt.ext {w w' : World} {r : Room} {A0 A6 A7 : Option Addr} (h : RoomAt w r A0 A6 A7) (hx : Ext w w') : RoomAt w' r A0 A6 A7 := ⟨h.m.ext hx, h.p.ext hx, h.q.ext hx⟩
structure RoomL (r : Room) : Prop where
  m : r.Map.length ≤ maxLen
  p : r.Noise.length ≤ maxLen
  q : r.Limits.length ≤ maxLen
set_option maxHeartbeats 2000000 in
theorem implRoomOk_any (r : Room) (A0 A6 A7 : Option Addr) (c0 c6 c7 : Nat) (w : World) (ha : RoomAt w r A0 A6 A7) (hI : roomFI r) (hl : RoomL r) :
    Calls Tryz.prog 181 #[.agg #[.slice A0 r.Map.length c0, .int .i64 r.Div, .int .i64 r.Bx, .int .i64 r.By, .int .i64 r.Low, .int .i64 r.High, .slice A6 r.Noise.length c6, .slice A7 r.Limits.length c7]] w fun e w' => e = .returned (.bool (roomOk r)) ∧ Ext w w' := by
  have hx : Ext w (w.alloc (.cells #[.slice A0 r.Map.length c0, .int .i64 r.Div, .int .i64 r.Bx, .int .i64 r.By, .int .i64 r.Low, .int .i64 r.High, .slice A6 r.Noise.length c6, .slice A7 r.Limits.length c7] 36)) := (Ext.refl w).alloc _
  have bR := Blk.new w 36 #[.slice A0 r.Map.length c0, .int .i64 r.Div, .int .i64 r.Bx, .int .i64 r.By, .int .i64 r.Low, .int .i64 r.High, .slice A6 r.Noise.length c6, .slice A7 r.Limits.length c7]
  have HA := Lib.hid ha
  have HI := Lib.hid hI
  have HL := Lib.hid hl
  have H1 := Lib.hid (isTurnable_any A0 r.Map.length c0 r.Map r.Div _ rfl (ha.ext hx).m hl.m)
  have H5 := Lib.hid (fun w h => implRegionOk_any A6 r.Noise.length c6 r.Noise w rfl h hI.2.2.2.2.2.2.1 hl.p)
  have H6 := Lib.hid (fun w h => implRegionOk_any A7 r.Limits.length c7 r.Limits w rfl h hI.2.2.2.2.2.2.2 hl.q)
  have H7 := Lib.hid (fun w => implIsVoid_any A6 r.Noise.length c6 w hl.p)
  have H8 := Lib.hid (fun w => implIsVoid_any A7 r.Limits.length c7 w hl.q)
  have H2 := Lib.hid (fun w => isDrive_any r.Bx w)
  have H3 := Lib.hid (fun w => isDrive_any r.By w)
  have H4 := Lib.hid (fun w => isRange_any r.Low r.High w)
  have H : Hid (roomOk r = ((isMapB r.Map r.Div && decide (detM r.Map ≠ 0)) && inR r.Bx (-100) 100 && inR r.By (-100) 100 && (inR r.Low (-1000) 1000 && inR r.High r.Low 1000) && (regOk r.Noise && regOk r.Limits) && (!decide (r.Noise.length = 0) && !decide (r.Limits.length = 0)))) := rfl
  obtain ⟨v1, hv⟩ : ∃ v, (isMapB r.Map r.Div && decide (detM r.Map ≠ 0)) = v := ⟨_, rfl⟩
  rw [hv] at H H1; clear hv
  obtain ⟨v2, hv⟩ : ∃ v, inR r.Bx (-100) 100 = v := ⟨_, rfl⟩
  rw [hv] at H H2; clear hv
  obtain ⟨v3, hv⟩ : ∃ v, inR r.By (-100) 100 = v := ⟨_, rfl⟩
  rw [hv] at H H3; clear hv
  obtain ⟨v4, hv⟩ : ∃ v, (inR r.Low (-1000) 1000 && inR r.High r.Low 1000) = v := ⟨_, rfl⟩
  rw [hv] at H H4; clear hv
  obtain ⟨v5, hv⟩ : ∃ v, regOk r.Noise = v := ⟨_, rfl⟩
  rw [hv] at H H5; clear hv
  obtain ⟨v6, hv⟩ : ∃ v, regOk r.Limits = v := ⟨_, rfl⟩
  rw [hv] at H H6; clear hv
  obtain ⟨v7, hv⟩ : ∃ v, decide (r.Noise.length = 0) = v := ⟨_, rfl⟩
  rw [hv] at H H7; clear hv
  obtain ⟨v8, hv⟩ : ∃ v, decide (r.Limits.length = 0) = v := ⟨_, rfl⟩
  rw [hv] at H H8; clear hv
  clear ha hI hl
  go_enter Tryz.func181, Tryz.ntmps181
  go_wp2_with fail
  refine (H1.out).mono ?_
  rintro e w1 ⟨rfl, hx1⟩
  replace hx := hx.trans hx1
  replace bR := bR.ext hx1
  have cbR_1 := fun o => bR.cell o
  cases v1
  · go_wp2
    go_ret
    exact ⟨ret_bool (by rw [H.out]; rfl), hx⟩
  go_wp2_with fail
  refine (H2.out _).mono ?_
  rintro e w' ⟨rfl, rfl⟩
  cases v2
  · go_wp2
    go_ret
    exact ⟨ret_bool (by rw [H.out]; rfl), hx⟩
  go_wp2_with fail
  refine (H3.out _).mono ?_
  rintro e w' ⟨rfl, rfl⟩
  cases v3
  · go_wp2
    go_ret
    exact ⟨ret_bool (by rw [H.out]; rfl), hx⟩
  go_wp2_with fail
  refine (H4.out _).mono ?_
  rintro e w' ⟨rfl, rfl⟩
  cases v4
  · go_wp2
    go_ret
    exact ⟨ret_bool (by rw [H.out]; rfl), hx⟩
  go_wp2_with fail
  refine (H7.out _).mono ?_
  rintro e w2 ⟨rfl, hx2⟩
  replace hx := hx.trans hx2
  replace bR := bR.ext hx2
  have cbR_2 := fun o => bR.cell o
  cases v7
  rotate_left
  · go_wp2
    go_ret
    exact ⟨ret_bool (by rw [H.out]; simp), hx⟩
  go_wp2_with fail
  refine (H8.out _).mono ?_
  rintro e w3 ⟨rfl, hx3⟩
  replace hx := hx.trans hx3
  replace bR := bR.ext hx3
  have cbR_3 := fun o => bR.cell o
  cases v8
  rotate_left
  · go_wp2
    go_ret
    exact ⟨ret_bool (by rw [H.out]; simp), hx⟩
  go_wp2_with fail
  refine (H5.out _ (HA.out.ext hx).p).mono ?_
  rintro e w4 ⟨rfl, hx4⟩
  replace hx := hx.trans hx4
  replace bR := bR.ext hx4
  have cbR_4 := fun o => bR.cell o
  cases v5
  · go_wp2
    go_ret
    exact ⟨ret_bool (by rw [H.out]; simp), hx⟩
  go_wp2_with fail
  refine (H6.out _ (HA.out.ext hx).q).mono ?_
  rintro e w5 ⟨rfl, hx5⟩
  replace hx := hx.trans hx5
  replace bR := bR.ext hx5
  have cbR_5 := fun o => bR.cell o
  cases v6
  · go_wp2
    go_ret
    exact ⟨ret_bool (by rw [H.out]; simp), hx⟩
  go_wp2
  go_ret
  exact ⟨ret_bool (by rw [H.out]; rfl), hx⟩
end Go.Proofs.YtfnmbpjkjajpcaaGreatDoor
