/- Contracts of SpanLine of both. (written by tools/mkAa.py) -/
import Derived.Test.YtigkgnplgehmhaaGreatDoorAa
import Derived.Test.YtigkgnplgehmhaaGreatDoorSpt
import Derived.Test.YtigkgnplgehmhaaGreatDoorFm
import Derived.Test.YtigkgnplgehmhaaGreatDoorHz
namespace Go.Proofs.YtigkgnplgehmhaaGreatDoor
open Go.ChangeShapes Go.WideShapes Go.ChangeAt Go.RowKit
set_option linter.unusedVariables false
set_option maxRecDepth 100000

def spanLineT (r : Room) (ps : List Half) (s : Spot) : List UInt8 :=
  if roomOk r = true ∧ regOk ps = true ∧ spotOk s = true then (if (admAtR r ps s).2 = true then spotT s ++ [32] ++ spanT (admAtR r ps s).1 else spotT s ++ [32, 108, 111, 115, 116]) else []
theorem spanLine_no {r : Room} {ps : List Half} {s : Spot} (h : ¬ (roomOk r = true ∧ regOk ps = true ∧ spotOk s = true)) : spanLineT r ps s = [] := if_neg h
theorem spanLine_lost {r : Room} {ps : List Half} {s : Spot} (h : roomOk r = true ∧ regOk ps = true ∧ spotOk s = true) (h2 : (admAtR r ps s).2 = false) : spanLineT r ps s = spotT s ++ [32, 108, 111, 115, 116] := by
  unfold spanLineT; rw [if_pos h, h2]; rfl
theorem spanLine_yes {r : Room} {ps : List Half} {s : Spot} (h : roomOk r = true ∧ regOk ps = true ∧ spotOk s = true) (h2 : (admAtR r ps s).2 = true) : spanLineT r ps s = spotT s ++ [32] ++ spanT (admAtR r ps s).1 := by
  unfold spanLineT; rw [if_pos h, if_pos h2]
theorem spanT_len (w : Span) : (spanT w).length ≤ 260 := by
  unfold spanT
  split
  · have a := ratioT_len w.Low
    have b := ratioT_len w.High
    simp only [List.length_append, List.length_cons, List.length_nil]
    omega
  · simp
set_option maxHeartbeats 16000000 in
theorem implSpanLine_any (r : Room) (A0 A6 A7 : Option Addr) (c0 c6 c7 : Nat) (A : Option Addr) (n c : Nat) (ps : List Half) (s : Spot) (w : World) (ha : RoomHere w r A0 A6 A7 c0 c6 c7) (hFI : roomFI r) (hRL : RoomL r) (hn : ps.length = n) (hr : Row w A (ints (flat Half.ints ps))) (hA : A = none → n = 0 ∧ c = 0) (hI : HalvesI ps) (hle : n ≤ maxLen) (hs : I64 s.X ∧ I64 s.Y ∧ I64 s.D) (ht : Tab w) :
    Calls Tryz.prog 12 #[.agg #[.slice A0 r.Map.length c0, .int .i64 r.Div, .int .i64 r.Bx, .int .i64 r.By, .int .i64 r.Low, .int .i64 r.High, .slice A6 r.Noise.length c6, .slice A7 r.Limits.length c7], .agg #[.slice A n c], .agg #[.int .i64 s.X, .int .i64 s.Y, .int .i64 s.D]] w fun e w' => e = .returned (.string (txt (spanLineT r ps s))) ∧ Ext w w' := by
  have HRo := Lib.hid (fun w h => implRoomOk_any r A0 A6 A7 c0 c6 c7 w h hFI hRL)
  have HO := Lib.hid (fun w hr => implRegionOk_any A n c ps w hn hr hI hle)
  have HSk := Lib.hid (fun w => implSpotOk_any s.X s.Y s.D w hs.1 hs.2.1 hs.2.2)
  have HFs := Lib.hid (fun w ht => implFormatSpot_any s.X s.Y s.D w hs.1 hs.2.1 hs.2.2 ht)
  have HFp := Lib.hid (fun a b c d w ha hb hc hd ht => implFormatSpan_any a b c d w ha hb hc hd ht)
  have es : (⟨s.X, s.Y, s.D⟩ : Spot) = s := rfl
  rw [es] at HSk HFs
  have HAd := Lib.hid (fun (h1 : roomOk r = true) (h2 : regOk ps = true) (h3 : spotOk s = true) w ha hr => implAdmitAt_ok r A0 A6 A7 c0 c6 c7 A n c ps s w (room_valid h1) ha hn hr hA h2 h3)
  have HSpan : Hid ((admAtR r ps s).2 = true → spanOk (admAtR r ps s).1 = true) := fun h => admAt_span h
  have HNo := Lib.hid (fun h => spanLine_no (r := r) (ps := ps) (s := s) h)
  have HLost := Lib.hid (fun h h2 => spanLine_lost (r := r) (ps := ps) (s := s) h h2)
  have HYes := Lib.hid (fun h h2 => spanLine_yes (r := r) (ps := ps) (s := s) h h2)
  obtain ⟨v1, hv1⟩ : ∃ v, roomOk r = v := ⟨_, rfl⟩
  obtain ⟨v2, hv2⟩ : ∃ v, regOk ps = v := ⟨_, rfl⟩
  obtain ⟨v3, hv3⟩ : ∃ v, spotOk s = v := ⟨_, rfl⟩
  rw [hv1] at HRo HAd HNo HLost HYes
  rw [hv2] at HO HAd HNo HLost HYes
  rw [hv3] at HSk HAd HNo HLost HYes
  have HT := Lib.hid ht
  clear ht
  have HR := Lib.hid hr
  have HA := Lib.hid ha
  have sz : (txt (spotT s)).size ≤ 259 := by rw [txt_size]; exact spotT_len s
  have sz2 : (txt (spanT (admAtR r ps s).1)).size ≤ 260 := by rw [txt_size]; exact spanT_len _
  have hx : Ext w (((w.alloc (.cells #[.slice A0 r.Map.length c0, .int .i64 r.Div, .int .i64 r.Bx, .int .i64 r.By, .int .i64 r.Low, .int .i64 r.High, .slice A6 r.Noise.length c6, .slice A7 r.Limits.length c7] 37)).alloc (.cells #[.slice A n c] 35)).alloc (.cells #[.int .i64 s.X, .int .i64 s.Y, .int .i64 s.D] 40)) := (((Ext.refl w).alloc _).alloc _).alloc _
  have bM := ((Blk.new w 37 #[.slice A0 r.Map.length c0, .int .i64 r.Div, .int .i64 r.Bx, .int .i64 r.By, .int .i64 r.Low, .int .i64 r.High, .slice A6 r.Noise.length c6, .slice A7 r.Limits.length c7]).alloc (.cells #[.slice A n c] 35)).alloc (.cells #[.int .i64 s.X, .int .i64 s.Y, .int .i64 s.D] 40)
  have bP := (Blk.new (w.alloc (.cells #[.slice A0 r.Map.length c0, .int .i64 r.Div, .int .i64 r.Bx, .int .i64 r.By, .int .i64 r.Low, .int .i64 r.High, .slice A6 r.Noise.length c6, .slice A7 r.Limits.length c7] 37)) 35 #[.slice A n c]).alloc (.cells #[.int .i64 s.X, .int .i64 s.Y, .int .i64 s.D] 40)
  have bS := Blk.new ((w.alloc (.cells #[.slice A0 r.Map.length c0, .int .i64 r.Div, .int .i64 r.Bx, .int .i64 r.By, .int .i64 r.Low, .int .i64 r.High, .slice A6 r.Noise.length c6, .slice A7 r.Limits.length c7] 37)).alloc (.cells #[.slice A n c] 35)) 40 #[.int .i64 s.X, .int .i64 s.Y, .int .i64 s.D]
  simp only [World.size_alloc] at bP bS
  generalize spanLineT r ps s = LT at *
  generalize admAtR r ps s = AR at *
  obtain ⟨ts, hts⟩ : ∃ t, txt (spotT s) = t := ⟨_, rfl⟩
  rw [hts] at HFs sz
  have HTs := Lib.hid hts
  clear ha hFI hRL hn hr hA hI hle hs hv1 hv2 hv3 hts es
  have cbM_1 := fun o => bM.cell o
  have cbP_2 := fun o => bP.cell o
  have cbS_3 := fun o => bS.cell o
  go_enter Tryz.func12, Tryz.ntmps12
  go_wp2_with fail
  refine (HSk.out _).mono ?_
  rintro e w1 ⟨rfl, hx1⟩
  replace hx := hx.trans hx1
  replace bM := bM.ext hx1
  replace bP := bP.ext hx1
  replace bS := bS.ext hx1
  have cbM_4 := fun o => bM.cell o
  have cbP_5 := fun o => bP.cell o
  have cbS_6 := fun o => bS.cell o
  cases v3
  · have H := Lib.hid (HNo.out (fun h => by cases h.2.2))
    go_wp2
    go_ret
    exact ⟨ret_txt (by rw [H.out]; rfl), hx⟩
  go_wp2_with fail
  refine (HRo.out _ (HA.out.ext hx).at_).mono ?_
  rintro e w2 ⟨rfl, hx2⟩
  replace hx := hx.trans hx2
  replace bM := bM.ext hx2
  replace bP := bP.ext hx2
  replace bS := bS.ext hx2
  have cbM_7 := fun o => bM.cell o
  have cbP_8 := fun o => bP.cell o
  have cbS_9 := fun o => bS.cell o
  cases v1
  · have H := Lib.hid (HNo.out (fun h => by cases h.1))
    go_wp2
    go_ret
    exact ⟨ret_txt (by rw [H.out]; rfl), hx⟩
  go_wp2_with fail
  refine (HO.out _ (HR.out.ext hx)).mono ?_
  rintro e w3 ⟨rfl, hx3⟩
  replace hx := hx.trans hx3
  replace bM := bM.ext hx3
  replace bP := bP.ext hx3
  replace bS := bS.ext hx3
  have cbM_10 := fun o => bM.cell o
  have cbP_11 := fun o => bP.cell o
  have cbS_12 := fun o => bS.cell o
  cases v2
  · have H := Lib.hid (HNo.out (fun h => by cases h.2.1))
    go_wp2
    go_ret
    exact ⟨ret_txt (by rw [H.out]; rfl), hx⟩
  have HAdm := Lib.hid (fun w ha hr => HAd.out (by first | rfl | trivial) (by first | rfl | trivial) (by first | rfl | trivial) w ha hr)
  have HL2 := Lib.hid (fun h2 => HLost.out ⟨by first | rfl | trivial, by first | rfl | trivial, by first | rfl | trivial⟩ h2)
  have HY2 := Lib.hid (fun h2 => HYes.out ⟨by first | rfl | trivial, by first | rfl | trivial, by first | rfl | trivial⟩ h2)
  clear HNo HLost HYes HAd HO HRo HSk
  go_wp2_with fail
  refine (HAdm.out _ (HA.out.ext hx) (HR.out.ext hx)).mono ?_
  rintro e w4 ⟨rfl, hx4⟩
  replace hx := hx.trans hx4
  replace bM := bM.ext hx4
  replace bP := bP.ext hx4
  replace bS := bS.ext hx4
  have cbM_13 := fun o => bM.cell o
  have cbP_14 := fun o => bP.cell o
  have cbS_15 := fun o => bS.cell o
  obtain ⟨⟨⟨ln, ld⟩, ⟨hn_, hd_⟩⟩, ok⟩ := AR
  dsimp only at *
  have bW := Blk.new w4 57 #[.int .i64 ln, .int .i64 ld, .int .i64 hn_, .int .i64 hd_]
  have ha4 := (Ext.refl w4).alloc (.cells #[.int .i64 ln, .int .i64 ld, .int .i64 hn_, .int .i64 hd_] 57)
  replace hx := hx.trans ha4
  replace bM := bM.ext ha4
  replace bP := bP.ext ha4
  replace bS := bS.ext ha4
  have cbM_16 := fun o => bM.cell o
  have cbP_17 := fun o => bP.cell o
  have cbS_18 := fun o => bS.cell o
  cases ok
  · have H := Lib.hid (HL2.out rfl)
    obtain ⟨t1, ht1⟩ : ∃ t, ts ++ (⟨#[32, 108, 111, 115, 116]⟩ : ByteArray) = t := ⟨_, rfl⟩
    have a1 := add_txt (a := ts) (b := ⟨#[32, 108, 111, 115, 116]⟩) (c := t1) ht1 (by have : (⟨#[32, 108, 111, 115, 116]⟩ : ByteArray).size = 5 := rfl; omega)
    have HT1 : Hid (txt LT = t1) := by rw [Hid, H.out, ← txt_append, HTs.out, ← ht1]; rfl
    clear ht1
    go_wp2_with fail
    refine (HFs.out _ (HT.out.ext hx)).mono ?_
    rintro e w5 ⟨rfl, hx5⟩
    replace hx := hx.trans hx5
    replace bM := bM.ext hx5
    replace bP := bP.ext hx5
    replace bS := bS.ext hx5
    have cbM_19 := fun o => bM.cell o
    have cbP_20 := fun o => bP.cell o
    have cbS_21 := fun o => bS.cell o
    go_wp2
    go_ret
    exact ⟨ret_txt HT1.out.symm, hx⟩
  have H := Lib.hid (HY2.out rfl)
  have hsp := HSpan.out (by first | rfl | trivial)
  have hb1 : ratioOk ⟨ln, ld⟩ = true ∧ ratioOk ⟨hn_, hd_⟩ = true := by
    unfold spanOk at hsp
    simp only [Bool.and_eq_true] at hsp
    exact hsp.1
  have hb2 := ratioOk_bd hb1.1
  have hb3 := ratioOk_bd hb1.2
  dsimp only at hb2 hb3
  have HFq := Lib.hid (fun w ht => HFp.out ln ld hn_ hd_ w (by unfold I64; omega) (by unfold I64; omega) (by unfold I64; omega) (by unfold I64; omega) ht)
  obtain ⟨tp, htp⟩ : ∃ t, txt (spanT ⟨⟨ln, ld⟩, ⟨hn_, hd_⟩⟩) = t := ⟨_, rfl⟩
  rw [htp] at HFq sz2
  obtain ⟨t1, ht1⟩ : ∃ t, ts ++ (⟨#[32]⟩ : ByteArray) = t := ⟨_, rfl⟩
  have z1 : t1.size ≤ 260 := by rw [← ht1, ByteArray.size_append]; have : (⟨#[32]⟩ : ByteArray).size = 1 := rfl; omega
  have a1 := add_txt (a := ts) (b := ⟨#[32]⟩) (c := t1) ht1 (by have : (⟨#[32]⟩ : ByteArray).size = 1 := rfl; omega)
  obtain ⟨t2, ht2⟩ : ∃ t, t1 ++ tp = t := ⟨_, rfl⟩
  have a2 := add_txt (a := t1) (b := tp) (c := t2) ht2 (by omega)
  have HT2 : Hid (txt LT = t2) := by rw [Hid, H.out, ← txt_append, ← txt_append, HTs.out, htp, ← ht2, ← ht1]; rfl
  clear htp ht1 ht2 hb1 hb2 hb3 hsp
  go_wp2_with fail
  generalize (w4.alloc (.cells #[.int .i64 ln, .int .i64 ld, .int .i64 hn_, .int .i64 hd_] 57)) = W at *
  generalize w4.heap.size = BW at *
  have dS := fun (p : After W) o => (bS.ext p.h).cell o
  have dW := fun (p : After W) o => (bW.ext p.h).cell o
  try simp only [List.append_eq, List.cons_append, List.nil_append]
  refine wp_region_after (by kernel_rfl) (by kernel_rfl) ?_
  repeat (go_big_quiet_step ((first
      | (go_at_call 24; exact Calls.after_of (HFs.out _ (HT.out.ext (hx.trans (After.h _)))))
      | (go_at_call 41; exact Calls.after_of (HFq.out _ (HT.out.ext (hx.trans (After.h _))))))))
  refine wpQuiet_nil ?_
  rintro _ ⟨⟨V9, hV9⟩, rfl⟩
  go_wp2
  go_ret
  exact ⟨ret_txt HT2.out.symm, hx.trans hV9⟩
set_option maxHeartbeats 16000000 in
theorem specSpanLine_any (r : Room) (A0 A6 A7 : Option Addr) (c0 c6 c7 : Nat) (A : Option Addr) (n c : Nat) (ps : List Half) (s : Spot) (w : World) (ha : RoomHere w r A0 A6 A7 c0 c6 c7) (hFI : roomFI r) (hRL : RoomL r) (hn : ps.length = n) (hr : Row w A (ints (flat Half.ints ps))) (hA : A = none → n = 0 ∧ c = 0) (hI : HalvesI ps) (hle : n ≤ maxLen) (hs : I64 s.X ∧ I64 s.Y ∧ I64 s.D) :
    Calls Tryz.prog 8 #[.agg #[.slice A0 r.Map.length c0, .int .i64 r.Div, .int .i64 r.Bx, .int .i64 r.By, .int .i64 r.Low, .int .i64 r.High, .slice A6 r.Noise.length c6, .slice A7 r.Limits.length c7], .agg #[.slice A n c], .agg #[.int .i64 s.X, .int .i64 s.Y, .int .i64 s.D]] w fun e w' => e = .returned (.string (txt (spanLineT r ps s))) ∧ Ext w w' := by
  have HRo := Lib.hid (fun w h => specRoomOk_any r A0 A6 A7 c0 c6 c7 w h ha.n6 ha.n7 hFI hRL)
  have HO := Lib.hid (fun w hr => specRegionOk_any A n c ps w hn hr hA hI hle)
  have HSk := Lib.hid (fun w => specSpotOk_any s.X s.Y s.D w hs.1 hs.2.1 hs.2.2)
  have HFs := Lib.hid (fun w => specFormatSpot_any s.X s.Y s.D w hs.1 hs.2.1 hs.2.2)
  have HFp := Lib.hid (fun a b c d w ha hb hc hd => specFormatSpan_any a b c d w ha hb hc hd)
  have es : (⟨s.X, s.Y, s.D⟩ : Spot) = s := rfl
  rw [es] at HSk HFs
  have HAd := Lib.hid (fun (h1 : roomOk r = true) (h2 : regOk ps = true) (h3 : spotOk s = true) w ha hr => specAdmitAt_ok r A0 A6 A7 c0 c6 c7 A n c ps s w (room_valid h1) ha hn hr hA h2 h3)
  have HSpan : Hid ((admAtR r ps s).2 = true → spanOk (admAtR r ps s).1 = true) := fun h => admAt_span h
  have HNo := Lib.hid (fun h => spanLine_no (r := r) (ps := ps) (s := s) h)
  have HLost := Lib.hid (fun h h2 => spanLine_lost (r := r) (ps := ps) (s := s) h h2)
  have HYes := Lib.hid (fun h h2 => spanLine_yes (r := r) (ps := ps) (s := s) h h2)
  obtain ⟨v1, hv1⟩ : ∃ v, roomOk r = v := ⟨_, rfl⟩
  obtain ⟨v2, hv2⟩ : ∃ v, regOk ps = v := ⟨_, rfl⟩
  obtain ⟨v3, hv3⟩ : ∃ v, spotOk s = v := ⟨_, rfl⟩
  rw [hv1] at HRo HAd HNo HLost HYes
  rw [hv2] at HO HAd HNo HLost HYes
  rw [hv3] at HSk HAd HNo HLost HYes
  have HR := Lib.hid hr
  have HA := Lib.hid ha
  have sz : (txt (spotT s)).size ≤ 259 := by rw [txt_size]; exact spotT_len s
  have sz2 : (txt (spanT (admAtR r ps s).1)).size ≤ 260 := by rw [txt_size]; exact spanT_len _
  have hx : Ext w (((w.alloc (.cells #[.slice A0 r.Map.length c0, .int .i64 r.Div, .int .i64 r.Bx, .int .i64 r.By, .int .i64 r.Low, .int .i64 r.High, .slice A6 r.Noise.length c6, .slice A7 r.Limits.length c7] 37)).alloc (.cells #[.slice A n c] 35)).alloc (.cells #[.int .i64 s.X, .int .i64 s.Y, .int .i64 s.D] 40)) := (((Ext.refl w).alloc _).alloc _).alloc _
  have bM := ((Blk.new w 37 #[.slice A0 r.Map.length c0, .int .i64 r.Div, .int .i64 r.Bx, .int .i64 r.By, .int .i64 r.Low, .int .i64 r.High, .slice A6 r.Noise.length c6, .slice A7 r.Limits.length c7]).alloc (.cells #[.slice A n c] 35)).alloc (.cells #[.int .i64 s.X, .int .i64 s.Y, .int .i64 s.D] 40)
  have bP := (Blk.new (w.alloc (.cells #[.slice A0 r.Map.length c0, .int .i64 r.Div, .int .i64 r.Bx, .int .i64 r.By, .int .i64 r.Low, .int .i64 r.High, .slice A6 r.Noise.length c6, .slice A7 r.Limits.length c7] 37)) 35 #[.slice A n c]).alloc (.cells #[.int .i64 s.X, .int .i64 s.Y, .int .i64 s.D] 40)
  have bS := Blk.new ((w.alloc (.cells #[.slice A0 r.Map.length c0, .int .i64 r.Div, .int .i64 r.Bx, .int .i64 r.By, .int .i64 r.Low, .int .i64 r.High, .slice A6 r.Noise.length c6, .slice A7 r.Limits.length c7] 37)).alloc (.cells #[.slice A n c] 35)) 40 #[.int .i64 s.X, .int .i64 s.Y, .int .i64 s.D]
  simp only [World.size_alloc] at bP bS
  generalize spanLineT r ps s = LT at *
  generalize admAtR r ps s = AR at *
  obtain ⟨ts, hts⟩ : ∃ t, txt (spotT s) = t := ⟨_, rfl⟩
  rw [hts] at HFs sz
  have HTs := Lib.hid hts
  clear ha hFI hRL hn hr hA hI hle hs hv1 hv2 hv3 hts es
  have cbM_22 := fun o => bM.cell o
  have cbP_23 := fun o => bP.cell o
  have cbS_24 := fun o => bS.cell o
  go_enter Tryz.func8, Tryz.ntmps8
  go_wp2_with fail
  refine (HRo.out _ (HA.out.ext hx).at_).mono ?_
  rintro e w1 ⟨rfl, hx1⟩
  replace hx := hx.trans hx1
  replace bM := bM.ext hx1
  replace bP := bP.ext hx1
  replace bS := bS.ext hx1
  have cbM_25 := fun o => bM.cell o
  have cbP_26 := fun o => bP.cell o
  have cbS_27 := fun o => bS.cell o
  cases v1
  · have H := Lib.hid (HNo.out (fun h => by cases h.1))
    go_wp2
    go_ret
    exact ⟨ret_txt (by rw [H.out]; rfl), hx⟩
  go_wp2_with fail
  refine (HO.out _ (HR.out.ext hx)).mono ?_
  rintro e w2 ⟨rfl, hx2⟩
  replace hx := hx.trans hx2
  replace bM := bM.ext hx2
  replace bP := bP.ext hx2
  replace bS := bS.ext hx2
  have cbM_28 := fun o => bM.cell o
  have cbP_29 := fun o => bP.cell o
  have cbS_30 := fun o => bS.cell o
  cases v2
  · have H := Lib.hid (HNo.out (fun h => by cases h.2.1))
    go_wp2
    go_ret
    exact ⟨ret_txt (by rw [H.out]; rfl), hx⟩
  go_wp2_with fail
  refine (HSk.out _).mono ?_
  rintro e w3 ⟨rfl, hx3⟩
  replace hx := hx.trans hx3
  replace bM := bM.ext hx3
  replace bP := bP.ext hx3
  replace bS := bS.ext hx3
  have cbM_31 := fun o => bM.cell o
  have cbP_32 := fun o => bP.cell o
  have cbS_33 := fun o => bS.cell o
  cases v3
  · have H := Lib.hid (HNo.out (fun h => by cases h.2.2))
    go_wp2
    go_ret
    exact ⟨ret_txt (by rw [H.out]; rfl), hx⟩
  have HAdm := Lib.hid (fun w ha hr => HAd.out (by first | rfl | trivial) (by first | rfl | trivial) (by first | rfl | trivial) w ha hr)
  have HL2 := Lib.hid (fun h2 => HLost.out ⟨by first | rfl | trivial, by first | rfl | trivial, by first | rfl | trivial⟩ h2)
  have HY2 := Lib.hid (fun h2 => HYes.out ⟨by first | rfl | trivial, by first | rfl | trivial, by first | rfl | trivial⟩ h2)
  clear HNo HLost HYes HAd HO HRo HSk
  go_wp2_with fail
  refine (HAdm.out _ (HA.out.ext hx) (HR.out.ext hx)).mono ?_
  rintro e w4 ⟨rfl, hx4⟩
  replace hx := hx.trans hx4
  replace bM := bM.ext hx4
  replace bP := bP.ext hx4
  replace bS := bS.ext hx4
  have cbM_34 := fun o => bM.cell o
  have cbP_35 := fun o => bP.cell o
  have cbS_36 := fun o => bS.cell o
  obtain ⟨⟨⟨ln, ld⟩, ⟨hn_, hd_⟩⟩, ok⟩ := AR
  dsimp only at *
  have bW := Blk.new w4 57 #[.int .i64 ln, .int .i64 ld, .int .i64 hn_, .int .i64 hd_]
  have ha4 := (Ext.refl w4).alloc (.cells #[.int .i64 ln, .int .i64 ld, .int .i64 hn_, .int .i64 hd_] 57)
  replace hx := hx.trans ha4
  replace bM := bM.ext ha4
  replace bP := bP.ext ha4
  replace bS := bS.ext ha4
  have cbM_37 := fun o => bM.cell o
  have cbP_38 := fun o => bP.cell o
  have cbS_39 := fun o => bS.cell o
  cases ok
  · have H := Lib.hid (HL2.out rfl)
    obtain ⟨t1, ht1⟩ : ∃ t, ts ++ (⟨#[32, 108, 111, 115, 116]⟩ : ByteArray) = t := ⟨_, rfl⟩
    have a1 := add_txt (a := ts) (b := ⟨#[32, 108, 111, 115, 116]⟩) (c := t1) ht1 (by have : (⟨#[32, 108, 111, 115, 116]⟩ : ByteArray).size = 5 := rfl; omega)
    have HT1 : Hid (txt LT = t1) := by rw [Hid, H.out, ← txt_append, HTs.out, ← ht1]; rfl
    clear ht1
    go_wp2_with fail
    refine (HFs.out _).mono ?_
    rintro e w5 ⟨rfl, hx5⟩
    replace hx := hx.trans hx5
    replace bM := bM.ext hx5
    replace bP := bP.ext hx5
    replace bS := bS.ext hx5
    have cbM_40 := fun o => bM.cell o
    have cbP_41 := fun o => bP.cell o
    have cbS_42 := fun o => bS.cell o
    go_wp2
    go_ret
    exact ⟨ret_txt HT1.out.symm, hx⟩
  have H := Lib.hid (HY2.out rfl)
  have hsp := HSpan.out (by first | rfl | trivial)
  have hb1 : ratioOk ⟨ln, ld⟩ = true ∧ ratioOk ⟨hn_, hd_⟩ = true := by
    unfold spanOk at hsp
    simp only [Bool.and_eq_true] at hsp
    exact hsp.1
  have hb2 := ratioOk_bd hb1.1
  have hb3 := ratioOk_bd hb1.2
  dsimp only at hb2 hb3
  have HFq := Lib.hid (fun w => HFp.out ln ld hn_ hd_ w (by unfold I64; omega) (by unfold I64; omega) (by unfold I64; omega) (by unfold I64; omega))
  obtain ⟨tp, htp⟩ : ∃ t, txt (spanT ⟨⟨ln, ld⟩, ⟨hn_, hd_⟩⟩) = t := ⟨_, rfl⟩
  rw [htp] at HFq sz2
  obtain ⟨t1, ht1⟩ : ∃ t, ts ++ (⟨#[32]⟩ : ByteArray) = t := ⟨_, rfl⟩
  have z1 : t1.size ≤ 260 := by rw [← ht1, ByteArray.size_append]; have : (⟨#[32]⟩ : ByteArray).size = 1 := rfl; omega
  have a1 := add_txt (a := ts) (b := ⟨#[32]⟩) (c := t1) ht1 (by have : (⟨#[32]⟩ : ByteArray).size = 1 := rfl; omega)
  obtain ⟨t2, ht2⟩ : ∃ t, t1 ++ tp = t := ⟨_, rfl⟩
  have a2 := add_txt (a := t1) (b := tp) (c := t2) ht2 (by omega)
  have HT2 : Hid (txt LT = t2) := by rw [Hid, H.out, ← txt_append, ← txt_append, HTs.out, htp, ← ht2, ← ht1]; rfl
  clear htp ht1 ht2 hb1 hb2 hb3 hsp
  go_wp2_with fail
  generalize (w4.alloc (.cells #[.int .i64 ln, .int .i64 ld, .int .i64 hn_, .int .i64 hd_] 57)) = W at *
  generalize w4.heap.size = BW at *
  have dS := fun (p : After W) o => (bS.ext p.h).cell o
  have dW := fun (p : After W) o => (bW.ext p.h).cell o
  try simp only [List.append_eq, List.cons_append, List.nil_append]
  refine wp_region_after (by kernel_rfl) (by kernel_rfl) ?_
  repeat (go_big_quiet_step ((first
      | (go_at_call 34; exact Calls.after_of (HFs.out _))
      | (go_at_call 35; exact Calls.after_of (HFq.out _)))))
  refine wpQuiet_nil ?_
  rintro _ ⟨⟨V9, hV9⟩, rfl⟩
  go_wp2
  go_ret
  exact ⟨ret_txt HT2.out.symm, hx.trans hV9⟩
end Go.Proofs.YtigkgnplgehmhaaGreatDoor
