/- Contracts of RobustPart of both and robustOf of the program, for valid rooms and regions. (written by tools/mkRb.py) -/
import Derived.Test.YtfnmbpjkjajpcaaGreatDoorFbSz
import Derived.Test.YtfnmbpjkjajpcaaGreatDoorFbRo
import Derived.Test.YtfnmbpjkjajpcaaGreatDoorFbGz
namespace Go.Proofs.YtfnmbpjkjajpcaaGreatDoor
open Go.ChangeShapes Go.WideShapes Go.ChangeAt Go.RowKit
set_option linter.unusedVariables false
set_option maxRecDepth 100000
structure RoomV (r : Room) : Prop where
  ok : roomOk r = true
  map : ∃ a b c d, r.Map = [a, b, c, d] ∧ DynOk ⟨a, b, c, d, r.Div, r.Bx, r.By, r.Low, r.High⟩ ∧ a * d - b * c ≠ 0
  noise : regOk r.Noise = true
  noiseN : r.Noise ≠ []
  limits : regOk r.Limits = true
  limitsN : r.Limits ≠ []
theorem len4 {l : List Int} (h : l.length = 4) : ∃ a b c d, l = [a, b, c, d] := by
  match l, h with
  | [a, b, c, d], _ => exact ⟨a, b, c, d, rfl⟩
theorem room_valid {r : Room} (h : roomOk r = true) : RoomV r := by
  have h' := h
  unfold roomOk at h'
  simp only [Bool.and_eq_true, decide_eq_true_eq] at h'
  obtain ⟨⟨⟨⟨⟨⟨hm, hd⟩, hbx⟩, hby⟩, hl, hh⟩, hn, hli⟩, hn0, hl0⟩ := h'
  unfold isMapB at hm
  simp only [Bool.and_eq_true, decide_eq_true_eq] at hm
  obtain ⟨⟨hlen, hq⟩, hall⟩ := hm
  obtain ⟨a, b, c, d, hM⟩ := len4 hlen
  unfold inR at hq hbx hby hl hh
  simp only [Bool.and_eq_true, decide_eq_true_eq] at hq hbx hby hl hh
  rw [hM] at hall hd
  unfold inR at hall
  simp only [List.all_cons, List.all_nil, Bool.and_true, Bool.and_eq_true, decide_eq_true_eq] at hall
  have hd2 : a * d - b * c ≠ 0 := by
    intro e
    exact hd (by unfold detM; simpa using e)
  refine ⟨h, ⟨a, b, c, d, hM, ⟨by simp only; omega, by simp only; omega, by simp only; omega, by simp only; omega, by simp only; omega, by simp only; omega, by simp only; omega, by simp only; omega, by simp only; omega, by simp only; omega⟩, hd2⟩, hn, ?_, hli, ?_⟩
  · intro e
    rw [e] at hn0
    simp at hn0
  · intro e
    rw [e] at hl0
    simp at hl0
structure RoomHere (w : World) (r : Room) (A0 A6 A7 : Option Addr) (c0 c6 c7 : Nat) : Prop where
  at_ : RoomAt w r A0 A6 A7
  n6 : A6 = none → r.Noise.length = 0 ∧ c6 = 0
  n7 : A7 = none → r.Limits.length = 0 ∧ c7 = 0
theorem RoomHere.ext {w w' : World} {r : Room} {A0 A6 A7 : Option Addr} {c0 c6 c7 : Nat} (h : RoomHere w r A0 A6 A7 c0 c6 c7) (hx : Ext w w') : RoomHere w' r A0 A6 A7 c0 c6 c7 := ⟨h.at_.ext hx, h.n6, h.n7⟩
theorem RoomV.fi {r : Room} (h : RoomV r) : roomFI r ∧ RoomL r := by
  obtain ⟨a, b, c, d, hm, hd, _⟩ := h.map
  have l1 := regOk_len h.noise
  have l2 := regOk_len h.limits
  obtain ⟨d1, d2, d3, d4, d5, d6, d7, d8, d9, d10⟩ := hd
  simp only at d1 d2 d3 d4 d5 d6 d7 d8 d9 d10
  refine ⟨⟨?_, ?_, ?_, ?_, ?_, ?_, halves_I (regOk_all h.noise), halves_I (regOk_all h.limits)⟩, ⟨?_, ?_, ?_⟩⟩
  · rw [hm]
    intro z hz
    simp only [List.mem_cons, List.not_mem_nil, or_false] at hz
    unfold I64
    rcases hz with rfl | rfl | rfl | rfl <;> omega
  · unfold I64; omega
  · unfold I64; omega
  · unfold I64; omega
  · unfold I64; omega
  · unfold I64; omega
  · rw [hm]; unfold maxLen; simp
  · unfold maxLen; omega
  · unfold maxLen; omega
set_option maxHeartbeats 4000000 in
theorem implRobustPart_ok (r : Room) (A0 A6 A7 : Option Addr) (c0 c6 c7 : Nat) (A : Option Addr) (n c : Nat) (ps : List Half) (w : World) (hv : RoomV r) (ha : RoomHere w r A0 A6 A7 c0 c6 c7) (hn : ps.length = n) (hr : Row w A (ints (flat Half.ints ps))) (hpk : regOk ps = true) :
    Calls Tryz.prog 325 #[.agg #[.slice A0 r.Map.length c0, .int .i64 r.Div, .int .i64 r.Bx, .int .i64 r.By, .int .i64 r.Low, .int .i64 r.High, .slice A6 r.Noise.length c6, .slice A7 r.Limits.length c7], .agg #[.slice A n c]] w (RegMade (erodeR ps r.Noise) w) := by
  obtain ⟨hFI, hRL⟩ := hv.fi
  have hx : Ext w (((w.alloc (.cells #[.slice A0 r.Map.length c0, .int .i64 r.Div, .int .i64 r.Bx, .int .i64 r.By, .int .i64 r.Low, .int .i64 r.High, .slice A6 r.Noise.length c6, .slice A7 r.Limits.length c7] 36)).alloc (.cells #[.slice A n c] 34)).alloc (.cells #[.slice none 0 0] 34)) := (((Ext.refl w).alloc _).alloc _).alloc _
  have bM := ((Blk.new w 36 #[.slice A0 r.Map.length c0, .int .i64 r.Div, .int .i64 r.Bx, .int .i64 r.By, .int .i64 r.Low, .int .i64 r.High, .slice A6 r.Noise.length c6, .slice A7 r.Limits.length c7]).alloc (.cells #[.slice A n c] 34)).alloc (.cells #[.slice none 0 0] 34)
  have bP := (Blk.new (w.alloc (.cells #[.slice A0 r.Map.length c0, .int .i64 r.Div, .int .i64 r.Bx, .int .i64 r.By, .int .i64 r.Low, .int .i64 r.High, .slice A6 r.Noise.length c6, .slice A7 r.Limits.length c7] 36)) 34 #[.slice A n c]).alloc (.cells #[.slice none 0 0] 34)
  have bR := Blk.new ((w.alloc (.cells #[.slice A0 r.Map.length c0, .int .i64 r.Div, .int .i64 r.Bx, .int .i64 r.By, .int .i64 r.Low, .int .i64 r.High, .slice A6 r.Noise.length c6, .slice A7 r.Limits.length c7] 36)).alloc (.cells #[.slice A n c] 34)) 34 #[.slice none 0 0]
  simp only [World.size_alloc] at bP bR
  have hle : n ≤ 40 := by have := regOk_len hpk; omega
  have HRo := Lib.hid (fun w h => implRoomOk_any r A0 A6 A7 c0 c6 c7 w h hFI hRL)
  have HO := Lib.hid (fun w hr => implRegionOk_any A n c ps w hn hr (halves_I (regOk_all hpk)) (by unfold maxLen; omega))
  have HE := Lib.hid (fun w hr hr' => implErode_any A n c ps A6 r.Noise.length c6 r.Noise w hn hr (regOk_all hpk) (by omega) rfl hv.noise hv.noiseN hr')
  rw [hv.ok] at HRo
  rw [hpk] at HO
  have HR := Lib.hid hr
  have HA := Lib.hid ha
  clear hv ha hn hr hpk hFI hRL
  have cbM_1 := fun o => bM.cell o
  have cbP_2 := fun o => bP.cell o
  go_enter Tryz.func325, Tryz.ntmps325
  go_wp2_with fail
  refine (HRo.out _ (HA.out.ext hx).at_).mono ?_
  rintro e w1 ⟨rfl, hx1⟩
  replace hx := hx.trans hx1
  replace bM := bM.ext hx1
  replace bP := bP.ext hx1
  replace bR := bR.ext hx1
  have cbM_3 := fun o => bM.cell o
  have cbP_4 := fun o => bP.cell o
  go_wp2_with fail
  refine (HO.out _ (HR.out.ext hx)).mono ?_
  rintro e w2 ⟨rfl, hx2⟩
  replace hx := hx.trans hx2
  replace bM := bM.ext hx2
  replace bP := bP.ext hx2
  replace bR := bR.ext hx2
  have cbM_5 := fun o => bM.cell o
  have cbP_6 := fun o => bP.cell o
  go_wp2_with fail
  refine (HE.out _ (HR.out.ext hx) ((HA.out.ext hx).at_.p)).mono ?_
  rintro e w4 ⟨A4, c4, n4, rfl, hn4, hx4, hown4⟩
  subst hn4
  have b4 := bR.ext hx4
  have hy4 := hx.trans hx4
  have c0_ := fun o => b4.cell o
  have f0_ := fun o => b4.frozen o
  have hsz := bR.lt
  generalize erodeR ps r.Noise = q at *
  go_wp2
  have bF := b4.set_ 0 (.slice A4 q.1.length c4)
  have cF := fun o => bF.cell o
  clear c0_ f0_
  refine bodyPost_ret (v := .tuple #[.agg #[.slice A4 q.1.length c4], .bool q.2]) (by simp [results, Tryz.results325, go_sem, cF]) rfl ?_
  exact ⟨A4, c4, _, rfl, rfl, hy4.setCell (by simp only; omega) _, own_base (own_far hown4 (by simp only; omega) _) (by omega)⟩
end Go.Proofs.YtfnmbpjkjajpcaaGreatDoor
namespace Go.Proofs.YtfnmbpjkjajpcaaGreatDoor
open Go.ChangeShapes Go.WideShapes Go.ChangeAt Go.RowKit
set_option linter.unusedVariables false
set_option maxRecDepth 100000
def dynOf (r : Room) : Dyn := ⟨r.Map.getD 0 0, r.Map.getD 1 0, r.Map.getD 2 0, r.Map.getD 3 0, r.Div, r.Bx, r.By, r.Low, r.High⟩
theorem RoomV.dyn {r : Room} (h : RoomV r) : DynOk (dynOf r) ∧ r.Map = [(dynOf r).a, (dynOf r).b, (dynOf r).c, (dynOf r).d] := by
  obtain ⟨a, b, c, d, hm, hd, _⟩ := h.map
  unfold dynOf
  rw [hm]
  exact ⟨hd, rfl⟩
theorem row4 {w : World} {A : Option Addr} {a b c d : Int} (h : Row w A (ints [a, b, c, d])) : ∃ g o, A = some ⟨g, o, none⟩ ∧ g < w.heap.size ∧ w.cell? ⟨g, o + 0, none⟩ = some (.int .i64 a) ∧ w.cell? ⟨g, o + 1, none⟩ = some (.int .i64 b) ∧ w.cell? ⟨g, o + 2, none⟩ = some (.int .i64 c) ∧ w.cell? ⟨g, o + 3, none⟩ = some (.int .i64 d) := by
  obtain ⟨g, o, hA, hg, h0⟩ := h.int (k := 0) (by simp)
  obtain ⟨g1, o1, hA1, hg1, h1⟩ := h.int (k := 1) (by simp)
  obtain ⟨g2, o2, hA2, hg2, h2⟩ := h.int (k := 2) (by simp)
  obtain ⟨g3, o3, hA3, hg3, h3⟩ := h.int (k := 3) (by simp)
  rw [hA] at hA1 hA2 hA3
  injection hA1 with e; injection e with e1 e2; subst e1 e2
  injection hA2 with e; injection e with e1 e2; subst e1 e2
  injection hA3 with e; injection e with e1 e2; subst e1 e2
  exact ⟨g, o, hA, hg, h0, h1, h2, h3⟩
theorem spotS_of {s : Spot} (h : spotOk s = true) (hd : s.D ≤ 100000) : SpotS s := by
  have h' := h
  unfold spotOk inR at h'
  simp only [Bool.and_eq_true, decide_eq_true_eq] at h'
  exact ⟨⟨by omega, by omega, by omega, by omega, by omega, by omega⟩, hd⟩
theorem map_parts {r : Dyn} (hr : DynOk r) {s : Spot} (hs : SpotS s) : (-2000000000 ≤ r.a * s.X ∧ r.a * s.X ≤ 2000000000) ∧ (-2000000000 ≤ r.b * s.Y ∧ r.b * s.Y ≤ 2000000000) ∧ (-2000000000 ≤ r.c * s.X ∧ r.c * s.X ≤ 2000000000) ∧ (-2000000000 ≤ r.d * s.Y ∧ r.d * s.Y ≤ 2000000000) := by
  have hd := hs.d2
  have e1 := hs.x1
  have e2 := hs.x2
  have e3 := hs.y1
  have e4 := hs.y2
  have hsm := hs.d3
  have m1 := mul_bd (a := r.a) (b := s.X) (A := 20) (B := 100000000) hr.a ⟨by omega, by omega⟩
  have m2 := mul_bd (a := r.b) (b := s.Y) (A := 20) (B := 100000000) hr.b ⟨by omega, by omega⟩
  have m3 := mul_bd (a := r.c) (b := s.X) (A := 20) (B := 100000000) hr.c ⟨by omega, by omega⟩
  have m4 := mul_bd (a := r.d) (b := s.Y) (A := 20) (B := 100000000) hr.d ⟨by omega, by omega⟩
  omega
set_option maxHeartbeats 4000000 in
theorem mapped_ok (r : Dyn) (A : Option Addr) (c0 : Nat) (s : Spot) (w : World) (hr : DynOk r) (hs : SpotS s) (hm : Row w A (ints [r.a, r.b, r.c, r.d])) :
    Calls Tryz.prog 327 #[.agg #[.int .i64 s.X, .int .i64 s.Y, .int .i64 s.D], .slice A 4 c0, .int .i64 r.q] w fun e w' => e = .returned (.tuple #[.int .i64 (mapX r s), .int .i64 (mapY r s), .int .i64 (mapD r s)]) ∧ Ext w w' := by
  obtain ⟨q1, q2, q3, q4⟩ := map_parts hr hs
  obtain ⟨q5, q6, q7⟩ := map_bd hr hs
  have hmX : Hid (mapX r s = r.a * s.X + r.b * s.Y) := rfl
  have hmY : Hid (mapY r s = r.c * s.X + r.d * s.Y) := rfl
  have hmD : Hid (mapD r s = r.q * s.D) := rfl
  have w1 : IntKind.i64.wrap (r.a * s.X) = r.a * s.X := IntWalk.i64_in _ (by omega)
  have w2 : IntKind.i64.wrap (r.b * s.Y) = r.b * s.Y := IntWalk.i64_in _ (by omega)
  have w3 : IntKind.i64.wrap (r.c * s.X) = r.c * s.X := IntWalk.i64_in _ (by omega)
  have w4 : IntKind.i64.wrap (r.d * s.Y) = r.d * s.Y := IntWalk.i64_in _ (by omega)
  have w5 : IntKind.i64.wrap (r.a * s.X + r.b * s.Y) = mapX r s := (IntWalk.i64_in _ (by omega)).trans hmX.out.symm
  have w6 : IntKind.i64.wrap (r.c * s.X + r.d * s.Y) = mapY r s := (IntWalk.i64_in _ (by omega)).trans hmY.out.symm
  have w7 : IntKind.i64.wrap (r.q * s.D) = mapD r s := by rw [← hmD.out]; exact IntWalk.i64_in _ (by omega)
  have hx : Ext w (w.alloc (.cells #[.int .i64 s.X, .int .i64 s.Y, .int .i64 s.D] 38)) := (Ext.refl w).alloc _
  obtain ⟨g, o, rfl, hg, k0, k1, k2, k3⟩ := row4 (hm.ext hx)
  have bS := Blk.new w 38 #[.int .i64 s.X, .int .i64 s.Y, .int .i64 s.D]
  have cS := fun o => bS.cell o
  generalize mapX r s = x at *
  generalize mapY r s = y at *
  generalize mapD r s = d at *
  clear q1 q2 q3 q4 q5 q6 q7 hmX hmY hmD hm hs hr
  rw [Nat.add_zero] at k0
  go_enter Tryz.func327, Tryz.ntmps327
  go_wp2
  go_quiet (fail)
  generalize nq = n1
  go_wp2
  refine bodyPost_ret (v := .tuple #[.int .i64 x, .int .i64 y, .int .i64 d]) (by simp [results, Tryz.results327, go_sem]) rfl ?_
  exact ⟨rfl, hx.drewN n1⟩
theorem slope_bd {r : Dyn} (hr : DynOk r) {h : Half} (hh : halfOk h = true) : (-5000000 ≤ h.A * r.bx ∧ h.A * r.bx ≤ 5000000) ∧ (-5000000 ≤ h.B * r.by_ ∧ h.B * r.by_ ≤ 5000000) := by
  obtain ⟨b1, b2, b3, b4, b5, b6, _⟩ := halfOk_bd hh
  have m1 := mul_bd (a := h.A) (b := r.bx) (A := 50000) (B := 100) ⟨b1, b2⟩ hr.bx
  have m2 := mul_bd (a := h.B) (b := r.by_) (A := 50000) (B := 100) ⟨b3, b4⟩ hr.by_
  omega
set_option maxHeartbeats 4000000 in
theorem slope_ok (r : Room) (A0 A6 A7 : Option Addr) (c0 c6 c7 : Nat) (h : Half) (w : World) (hr : DynOk (dynOf r)) (hh : halfOk h = true) :
    Calls Tryz.prog 328 #[.agg #[.slice A0 r.Map.length c0, .int .i64 r.Div, .int .i64 r.Bx, .int .i64 r.By, .int .i64 r.Low, .int .i64 r.High, .slice A6 r.Noise.length c6, .slice A7 r.Limits.length c7], .agg #[.int .i64 h.A, .int .i64 h.B, .int .i64 h.C]] w fun e w' => e = .returned (.int .i64 (slopeH (dynOf r) h)) ∧ Ext w w' := by
  obtain ⟨q1, q2⟩ := slope_bd hr hh
  have H : Hid (slopeH (dynOf r) h = h.A * r.Bx + h.B * r.By) := rfl
  change -5000000 ≤ h.A * r.Bx ∧ h.A * r.Bx ≤ 5000000 at q1
  change -5000000 ≤ h.B * r.By ∧ h.B * r.By ≤ 5000000 at q2
  have w1 : IntKind.i64.wrap (h.A * r.Bx) = h.A * r.Bx := IntWalk.i64_in _ (by omega)
  have w2 : IntKind.i64.wrap (h.B * r.By) = h.B * r.By := IntWalk.i64_in _ (by omega)
  have w3 : IntKind.i64.wrap (h.A * r.Bx + h.B * r.By) = slopeH (dynOf r) h := (IntWalk.i64_in _ (by omega)).trans H.out.symm
  have hx : Ext w ((w.alloc (.cells #[.slice A0 r.Map.length c0, .int .i64 r.Div, .int .i64 r.Bx, .int .i64 r.By, .int .i64 r.Low, .int .i64 r.High, .slice A6 r.Noise.length c6, .slice A7 r.Limits.length c7] 36)).alloc (.cells #[.int .i64 h.A, .int .i64 h.B, .int .i64 h.C] 116)) := ((Ext.refl w).alloc _).alloc _
  have b1 := (Blk.new w 36 #[.slice A0 r.Map.length c0, .int .i64 r.Div, .int .i64 r.Bx, .int .i64 r.By, .int .i64 r.Low, .int .i64 r.High, .slice A6 r.Noise.length c6, .slice A7 r.Limits.length c7]).alloc (.cells #[.int .i64 h.A, .int .i64 h.B, .int .i64 h.C] 116)
  have b2 := Blk.new (w.alloc (.cells #[.slice A0 r.Map.length c0, .int .i64 r.Div, .int .i64 r.Bx, .int .i64 r.By, .int .i64 r.Low, .int .i64 r.High, .slice A6 r.Noise.length c6, .slice A7 r.Limits.length c7] 36)) 116 #[.int .i64 h.A, .int .i64 h.B, .int .i64 h.C]
  simp only [World.size_alloc] at b2
  have c1 := fun o => b1.cell o
  have c2 := fun o => b2.cell o
  generalize slopeH (dynOf r) h = z at *
  clear q1 q2 H hr hh
  go_enter Tryz.func328, Tryz.ntmps328
  go_wp2
  go_ret
  exact ⟨rfl, hx⟩
end Go.Proofs.YtfnmbpjkjajpcaaGreatDoor
namespace Go.Proofs.YtfnmbpjkjajpcaaGreatDoor
open Go.ChangeShapes Go.WideShapes Go.ChangeAt Go.RowKit
set_option linter.unusedVariables false
set_option maxRecDepth 100000
def preR (r : Room) (p : List Half) : List Half × Bool :=
  if (erodeR p r.Noise).2 = true ∧ (erodeR p r.Noise).1.length ≤ 38 then
    if (growR (erodeR p r.Noise).1 r.Bx r.By r.Low r.High).2 = true then
      pullR (growR (erodeR p r.Noise).1 r.Bx r.By r.Low r.High).1 (dynOf r).a (dynOf r).b (dynOf r).c (dynOf r).d r.Div
    else ([], false)
  else ([], false)
theorem preR_ok (r : Room) (p : List Half) : regOk (preR r p).1 = true := by
  unfold preR
  split
  · split
    · exact pullR_ok _ _ _ _ _ _
    · rfl
  · rfl
theorem preR_no {r : Room} {p : List Half} (h : (erodeR p r.Noise).2 = false ∨ 38 < (erodeR p r.Noise).1.length) : preR r p = ([], false) := by
  unfold preR
  rw [if_neg]
  rintro ⟨h1, h2⟩
  rcases h with h | h
  · rw [h] at h1; cases h1
  · omega
theorem preR_no2 {r : Room} {p : List Half} (h : (growR (erodeR p r.Noise).1 r.Bx r.By r.Low r.High).2 = false) : preR r p = ([], false) := by
  unfold preR
  rw [h]
  split <;> rfl
theorem preR_yes {r : Room} {p : List Half} (h1 : (erodeR p r.Noise).2 = true) (h2 : (erodeR p r.Noise).1.length ≤ 38) (h3 : (growR (erodeR p r.Noise).1 r.Bx r.By r.Low r.High).2 = true) :
    preR r p = pullR (growR (erodeR p r.Noise).1 r.Bx r.By r.Low r.High).1 (dynOf r).a (dynOf r).b (dynOf r).c (dynOf r).d r.Div := by
  unfold preR
  rw [if_pos ⟨h1, h2⟩, if_pos h3]
def keepR (r : Room) (p : List Half) : List Half × Bool := if (preR r p).2 = true then meetR p (preR r p).1 else ([], false)
theorem keepR_ok {r : Room} {p : List Half} (h : regOk p = true) : regOk (keepR r p).1 = true := by
  unfold keepR
  split
  · exact meetR_ok h (preR_ok r p)
  · rfl
theorem keepR_no {r : Room} {p : List Half} (h : (preR r p).2 = false) : keepR r p = ([], false) := by
  unfold keepR; rw [h]; rfl
theorem keepR_yes {r : Room} {p : List Half} (h : (preR r p).2 = true) : keepR r p = meetR p (preR r p).1 := by
  unfold keepR; rw [if_pos h]
structure KeptV where
  reg : List Half
  n : Nat
  stop : Bool
  ok : Bool
def runF (r : Room) : Nat → List Half → Nat → KeptV
  | 0, p, n => ⟨p, n, false, true⟩
  | f + 1, p, n => if (keepR r p).2 = true then (if (keepR r p).1 = p then ⟨p, n, true, true⟩ else runF r f (keepR r p).1 (n + 1)) else ⟨[], 0, false, false⟩
theorem runF_no {r : Room} {f : Nat} {p : List Half} {n : Nat} (h : (keepR r p).2 = false) : runF r (f + 1) p n = ⟨[], 0, false, false⟩ := by
  rw [runF, h]; rfl
theorem runF_stop {r : Room} {f : Nat} {p : List Half} {n : Nat} (h : (keepR r p).2 = true) (h2 : (keepR r p).1 = p) : runF r (f + 1) p n = ⟨p, n, true, true⟩ := by
  rw [runF, if_pos h, if_pos h2]
theorem runF_go {r : Room} {f : Nat} {p : List Half} {n : Nat} (h : (keepR r p).2 = true) (h2 : ¬ (keepR r p).1 = p) : runF r (f + 1) p n = runF r f (keepR r p).1 (n + 1) := by
  rw [runF, if_pos h, if_neg h2]
theorem runF_ok {r : Room} : ∀ (f : Nat) (p : List Half) (n : Nat), regOk p = true → regOk (runF r f p n).reg = true
  | 0, p, n, h => h
  | f + 1, p, n, h => by
    rw [runF]
    split
    · split
      · exact h
      · exact runF_ok f _ _ (keepR_ok h)
    · rfl
theorem runF_n {r : Room} : ∀ (f : Nat) (p : List Half) (n : Nat), (runF r f p n).n ≤ n + f
  | 0, p, n => Nat.le_refl _
  | f + 1, p, n => by
    rw [runF]
    split
    · split
      · exact Nat.le_add_right _ _
      · have := runF_n (r := r) f (keepR r p).1 (n + 1)
        omega
    · exact Nat.zero_le _
def runR (r : Room) (k : Nat) : KeptV := if roomOk r = true then runF r k r.Limits 0 else ⟨[], 0, false, false⟩
theorem runR_ok (r : Room) (k : Nat) : regOk (runR r k).reg = true := by
  unfold runR
  split
  · rename_i h
    exact runF_ok _ _ _ (room_valid h).limits
  · rfl
theorem runR_n (r : Room) (k : Nat) : (runR r k).n ≤ k := by
  unfold runR
  split
  · have := runF_n (r := r) k r.Limits 0
    omega
  · exact Nat.zero_le _
end Go.Proofs.YtfnmbpjkjajpcaaGreatDoor
