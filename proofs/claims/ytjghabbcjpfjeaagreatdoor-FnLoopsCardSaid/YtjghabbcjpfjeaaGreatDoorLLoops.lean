/- The law FnLoops returns true for all arguments: a run of the loop stays in the region in which it starts, its inputs are the room's. No condition beyond the row's own: the library's tables lie as the program's text lays them (the card ties that). -/
import Derived.Test.YtjghabbcjpfjeaaGreatDoorHz
import Derived.Test.YtjghabbcjpfjeaaGreatDoorTw
import Derived.Test.YtjghabbcjpfjeaaGreatDoorCl
import Derived.Test.YtjghabbcjpfjeaaGreatDoorDz
import Derived.Test.YtjghabbcjpfjeaaGreatDoorDm
import Derived.Test.YtjghabbcjpfjeaaGreatDoorCards
import Derived.Test.YtjghabbcjpfjeaaGreatDoorTie
import Derived.Deep.DeepHandedRow
import Derived.Lib.LaidTab
import Derived.LaidMore
import Derived.SevenTiedAt
import Derived.Deep.RegionHeld3
import Derived.Deep.CutRange
namespace Go.Proofs.YtjghabbcjpfjeaaGreatDoor
open Go.ChangeShapes Go.WideShapes Go.ChangeAt Go.RowKit
set_option linter.unusedVariables false
set_option maxRecDepth 100000

theorem keptReg_ok (r : Room) : regOk (keptReg r).1 = true := by
  unfold keptReg
  split
  · exact runR_ok r 12
  · rfl
def StepGood (r : Room) (P : List Half) (w : World) (e : Ending) (w' : World) : Prop := ∃ (x1 x2 x3 u1 u2 : Int) (ok : Bool), e = .returned (.tuple #[.agg #[.int .i64 x1, .int .i64 x2, .int .i64 x3], .agg #[.int .i64 u1, .int .i64 u2], .bool ok]) ∧ Hid (ok = true → hasSpot P ⟨x1, x2, x3⟩ = true ∧ inRoom r ⟨u1, u2⟩ = true ∧ (I64 x1 ∧ I64 x2 ∧ I64 x3)) ∧ Ext w w'
theorem stepGood {r : Room} (hv : RoomV r) {P : List Half} (hp : regOk P = true) {s t : Spot} {z : Int} (ht : t ∈ cornL r.Noise) {f : Nat} {args : Array Value} {w : World} (h : Calls Tryz.prog f args w (StepMade (stepR r P s z t) w)) : Calls Tryz.prog f args w (StepGood r P w) := by
  refine h.mono ?_
  rintro e w' ⟨rfl, hx⟩
  obtain ⟨x1, x2, x3, u1, u2, ok, hV, _, htr⟩ := stepV_form (stepR r P s z t)
  refine ⟨x1, x2, x3, u1, u2, ok, by rw [hV], ?_, hx⟩
  exact Lib.hid fun h => by
    have q := htr h
    obtain ⟨a, b⟩ := step_held hv hp ht q
    exact ⟨a, b, spot_I (stepR_ok q).1⟩
def StepCut (r : Room) (P : List Half) (V : World) (p q o : Value) (wx : World) : Prop := ∃ (x1 x2 x3 u1 u2 : Int) (ok : Bool), SpotRat [.int .i64 x1, .int .i64 x2, .int .i64 x3] [.int .i64 u1, .int .i64 u2] V p q wx ∧ o = .bool ok ∧ Hid (ok = true → hasSpot P ⟨x1, x2, x3⟩ = true ∧ inRoom r ⟨u1, u2⟩ = true ∧ (I64 x1 ∧ I64 x2 ∧ I64 x3))
def RunGood (T : Track) (n0 n1 : Nat) (q : Bool) (w : World) (e : Ending) (w' : World) : Prop := ∃ B0 d0 B1 d1, e = .returned (.tuple #[.agg #[.slice B0 n0 d0, .slice B1 n1 d1], .bool q]) ∧ AggRow w' (trackF T) [.slice B0 n0 d0, .slice B1 n1 d1] ∧ Row w' B0 (ints (flat Spot.ints T.Spots)) ∧ Row w' B1 (ints (flat Ratio.ints T.Inputs)) ∧ Ext w w'
theorem runGood {x : Track × Bool} {T : Track} {q : Bool} (h : x = (T, q)) {n0 n1 : Nat} (h0 : T.Spots.length = n0) (h1 : T.Inputs.length = n1) {f : Nat} {args : Array Value} {w : World} (hc : Calls Tryz.prog f args w (TrackMade x w)) : Calls Tryz.prog f args w (RunGood T n0 n1 q w) := by
  subst h; subst h0; subst h1
  refine hc.mono ?_
  rintro e w' ⟨us, rfl, hm, hx⟩
  have hr := hm.rows
  obtain ⟨A0, c0, A1, c1, _, _, _, _, rfl, m0, m1, _⟩ := hm
  exact ⟨A0, c0, A1, c1, rfl, hr, m0.row, m1.row, hx⟩
theorem lastD4 {α : Type} {l : List α} {d : α} (h : l.length = 4) (h3 : 3 < l.length) : l.getLastD d = l[3] := by
  match l, h with
  | [_, _, _, _], _ => rfl
structure RunFacts (r : Room) (P : List Half) (T : Track) : Prop where
  l0 : T.Spots.length = 4
  l1 : T.Inputs.length = 3
  held : ∀ x ∈ T.Spots, hasSpot P x = true
  ins : ∀ u ∈ T.Inputs, inRoom r u = true
  right : ∀ (h : 3 < T.Spots.length), T.Spots[3].D ≤ 100000 → ∀ i (h1 : i < T.Spots.length) (h2 : i + 1 < T.Spots.length) (h3 : i < T.Inputs.length), RightAt r T.Spots[i] T.Inputs[i] T.Spots[i + 1]
theorem run_facts {r : Room} {P : List Half} {s : Spot} {ws : List Int} {T : Track} {q : Bool} (hv : RoomV r) (hk : roomOk r = true) (hp : regOk P = true) (hs : hasSpot P s = true) (hnd : ∀ t ∈ cornL r.Noise, t.D = 1) (hl : 0 < (cornL r.Noise).length) (h3 : ws.length = 3) (h : trackR r P s ws (cornL r.Noise) = (T, q)) : (q = false ∧ T = noTrack) ∨ (q = true ∧ RunFacts r P T) := by
  have hne : cornL r.Noise ≠ [] := fun e => by rw [e] at hl; simp at hl
  have hr : runOk r P s ws (cornL r.Noise) = true := by unfold runOk; rw [hs, hk, h3, decide_eq_false (show ¬ (cornL r.Noise).length = 0 by omega)]; rfl
  rw [trackR_yes hr] at h
  unfold trackAll at h
  rw [h3] at h
  split at h
  · rename_i U hU
    injection h with h1 h2
    subst h1; subst h2
    obtain ⟨e0, e1⟩ := trackK_len _ _ hU
    obtain ⟨a, b⟩ := track_held hv hp hs hne (fun t ht => ht) _ _ hU
    refine .inr ⟨rfl, e0, e1, a, b, fun h hD => track_right hv hne (fun t ht => ht) hnd _ _ hU ?_⟩
    rw [lastD4 e0 h]
    exact hD
  · injection h with h1 h2
    exact .inl ⟨h2.symm, h1.symm⟩
set_option maxHeartbeats 64000000 in
theorem lawLoops (A : Option Addr) (n c : Nat) (bs : List Int) (w : World) (hn : bs.length = n) (hr : Row w A (u8s bs)) (hlc : n ≤ 9223372036854775807) (ht : Tab w) :
    Calls Tryz.prog 4 #[.slice A n c] w fun e w' => e = .returned (.bool true) ∧ Ext w w' := by
  by_cases hbig : 1048576 < n
  · have hb : (1048576 : Int) < (n : Int) := by omega
    go_enter Tryz.func4, Tryz.ntmps4
    go_wp2
    go_ret
    exact ⟨rfl, Ext.refl w⟩
  have hb : ¬ (1048576 : Int) < (n : Int) := by omega
  have HMk := Lib.hid (makeState_w A n c bs w hn hr (by omega))
  have HNum := Lib.hid (fun w hr => makeNum_any A n c bs 60 w hn hr (by omega) (by unfold I64; omega))
  have HT0 := Lib.hid ht
  have HRb := Lib.hid hr
  clear ht hr hn
  go_enter Tryz.func4, Tryz.ntmps4
  go_wp2_with fail
  refine (HMk.out).mono ?_
  rintro e w1 ⟨r, s, A0, A6, A7, c0, c6, c7, rfl, hok, hsk, hRH, hx⟩
  obtain ⟨hok, hnd⟩ := hok
  have hv := room_valid hok
  obtain ⟨hFI, hRL⟩ := hv.fi
  obtain ⟨s1, s2, s3, _⟩ := spot_I64 hsk
  have hW := shape_of hv.noise hv.noiseN
  have HKr := Lib.hid (fun w ha => implKeptRegion_any r A0 A6 A7 c0 c6 c7 w ha hFI hRL)
  have HCo := Lib.hid (fun w hr => implCornersOf_any A6 r.Noise.length c6 r.Noise w rfl hr (halves_I (regOk_all hv.noise)) hRL.p)
  rw [if_pos hv.noise, corners_same hW] at HCo
  have HRo := Lib.hid (fun w ha => implRoomOk_any r A0 A6 A7 c0 c6 c7 w ha hFI hRL)
  rw [hok] at HRo
  have HRHx : Hid (∀ V, Ext w1 V → RoomHere V r A0 A6 A7 c0 c6 c7) := fun V hV => hRH.ext hV
  have HTx : Hid (∀ V, Ext w V → Tab V) := fun V hV => HT0.out.ext hV
  have HV := Lib.hid hv
  have HND := Lib.hid hnd
  have HPk := Lib.hid (keptReg_ok r)
  have HSk := Lib.hid hsk
  have hcl : (cornL r.Noise).length = r.Noise.length := cornL_len _
  have hcp : 0 < r.Noise.length := hW.pos
  have hcm : r.Noise.length ≤ 40 := regOk_len hv.noise
  generalize keptReg r = KR at *
  have hw1 := hx.size
  have bM := (Blk.new w1 28 #[.slice A0 r.Map.length c0, .int .i64 r.Div, .int .i64 r.Bx, .int .i64 r.By, .int .i64 r.Low, .int .i64 r.High, .slice A6 r.Noise.length c6, .slice A7 r.Limits.length c7]).alloc (.cells #[.int .i64 s.X, .int .i64 s.Y, .int .i64 s.D] 30)
  have bS := blk_new1 w1 (.cells #[.slice A0 r.Map.length c0, .int .i64 r.Div, .int .i64 r.Bx, .int .i64 r.By, .int .i64 r.Low, .int .i64 r.High, .slice A6 r.Noise.length c6, .slice A7 r.Limits.length c7] 28) 30 #[.int .i64 s.X, .int .i64 s.Y, .int .i64 s.D]
  have hE := ((Ext.refl w1).alloc (.cells #[.slice A0 r.Map.length c0, .int .i64 r.Div, .int .i64 r.Bx, .int .i64 r.By, .int .i64 r.Low, .int .i64 r.High, .slice A6 r.Noise.length c6, .slice A7 r.Limits.length c7] 28)).alloc (.cells #[.int .i64 s.X, .int .i64 s.Y, .int .i64 s.D] 30)
  have hy := hx.trans hE
  clear hok hnd hRH hv hFI hRL hW
  have cbM_1 := fun o => bM.cell o
  have cbS_2 := fun o => bS.cell o
  go_wp2_with fail
  refine (HKr.out _ (HRHx.out _ hE)).mono ?_
  rintro e w2 ⟨Ap, cp, np, rfl, hnp, hx2, hownp⟩
  replace hy := hy.trans hx2
  replace hE := hE.trans hx2
  replace bM := bM.ext hx2
  replace bS := bS.ext hx2
  have cbM_3 := fun o => bM.cell o
  have cbS_4 := fun o => bS.cell o
  obtain ⟨P, okK⟩ := KR
  dsimp only at *
  subst hnp
  have bP := Blk.new w2 26 #[.slice Ap P.length cp]
  have ha2 := (Ext.refl w2).alloc (.cells #[.slice Ap P.length cp] 26)
  replace hy := hy.trans ha2
  replace hE := hE.trans ha2
  replace bM := bM.ext ha2
  replace bS := bS.ext ha2
  have cbM_5 := fun o => bM.cell o
  have cbS_6 := fun o => bS.cell o
  replace hownp := own_ext hownp ha2
  have cbM_7 := fun o => bM.cell o
  have cbS_8 := fun o => bS.cell o
  have cbP_9 := fun o => bP.cell o
  go_wp2_with fail
  refine (HCo.out _ (HRHx.out _ hE).at_.p).mono ?_
  rintro e w3 ⟨Ak, ck, nk, rfl, hnk, hx3, hownk⟩
  replace hy := hy.trans hx3
  replace hE := hE.trans hx3
  replace bM := bM.ext hx3
  replace bS := bS.ext hx3
  replace bP := bP.ext hx3
  have cbM_10 := fun o => bM.cell o
  have cbS_11 := fun o => bS.cell o
  have cbP_12 := fun o => bP.cell o
  replace hownp := own_ext hownp hx3
  rw [hcl] at hnk
  subst hnk
  go_wp2_with fail
  refine (HRo.out _ (HRHx.out _ hE).at_).mono ?_
  rintro e w4 ⟨rfl, hx4⟩
  replace hy := hy.trans hx4
  replace hE := hE.trans hx4
  replace bM := bM.ext hx4
  replace bS := bS.ext hx4
  replace bP := bP.ext hx4
  have cbM_13 := fun o => bM.cell o
  have cbS_14 := fun o => bS.cell o
  have cbP_15 := fun o => bP.cell o
  have rP : Row w4 Ap (ints (flat Half.ints P)) := (Row.of_own hownp).ext hx4
  have rK : Row w4 Ak (ints (flat Spot.ints (cornL r.Noise))) := (Row.of_own hownk).ext hx4
  clear hownp hownk
  have hnL : ¬ (r.Noise.length : Int) = 0 := by omega
  have hnB : ((r.Noise.length : Int) == 0) = false := beq_false_of_ne hnL
  cases okK
  · go_wp2
    go_ret
    exact ⟨rfl, hy⟩
  have hpl : P.length ≤ 40 := regOk_len HPk.out
  have HHS := Lib.hid (fun A n c s w hn hr hs => implHasSpot_any A n c P s w hn hr (halves_I (regOk_all HPk.out)) (by unfold maxLen; omega) hs)
  obtain ⟨q1, hq1⟩ : ∃ b, hasSpot P s = b := ⟨_, rfl⟩
  have HH1 := Lib.hid (fun w hr => HHS.out Ap P.length cp s w rfl hr ⟨s1, s2, s3⟩)
  rw [hq1] at HH1
  have HQ1 := Lib.hid hq1
  clear hq1
  go_wp2_with fail
  refine (HH1.out _ rP).mono ?_
  rintro e w5 ⟨rfl, hx5⟩
  replace hy := hy.trans hx5
  replace hE := hE.trans hx5
  replace bM := bM.ext hx5
  replace bS := bS.ext hx5
  replace bP := bP.ext hx5
  replace rP := rP.ext hx5
  replace rK := rK.ext hx5
  have cbM_16 := fun o => bM.cell o
  have cbS_17 := fun o => bS.cell o
  have cbP_18 := fun o => bP.cell o
  cases q1
  · go_wp2
    go_ret
    exact ⟨rfl, hy⟩
  clear HH1
  obtain ⟨bn, on, rfl, hbn, t0, t1, t2⟩ := rK.Spot (k := 0) (by rw [hcl]; exact hcp)
  have htm := Lib.hid (List.getElem_mem (show 0 < (cornL r.Noise).length by rw [hcl]; exact hcp))
  obtain ⟨t, ht_⟩ : ∃ t, (cornL r.Noise)[0]'(by rw [hcl]; exact hcp) = t := ⟨_, rfl⟩
  rw [ht_] at t0 t1 t2 htm
  clear ht_
  simp only [Nat.zero_mul, Nat.add_zero] at t0 t1 t2
  have htI : I64 t.X ∧ I64 t.Y ∧ I64 t.D := by
    have hB := (shape_of HV.out.noise HV.out.noiseN).spotB t htm.out
    have h1 := hB.d1; have h2 := hB.d2; have h3 := hB.x1; have h4 := hB.x2; have h5 := hB.y1; have h6 := hB.y2
    unfold I64
    omega
  have HSL := Lib.hid (fun z w ha hr => stepGood HV.out HPk.out (z := z) htm.out (implStepLoop_ok r A0 A6 A7 c0 c6 c7 Ap P.length cp P s t z w HV.out ha rfl hr HPk.out ⟨s1, s2, s3⟩ htI))
  clear htI
  have hsz5 := hy.size
  go_upto_region 10 with fail
  go_cut [8, 9, 10] from 51 to 65 (fun p q o wx => StepCut r P w5 p q o wx)
  case first =>
    have hcur := Ext.refl w5
    have nbM0 := Nat.ne_of_lt bM.lt
    have nbM0' := (Nat.ne_of_lt bM.lt).symm
    have mbM0 := Nat.ne_of_lt (Nat.lt_succ_of_lt bM.lt)
    have mbM0' := (Nat.ne_of_lt (Nat.lt_succ_of_lt bM.lt)).symm
    have nbS0 := Nat.ne_of_lt bS.lt
    have nbS0' := (Nat.ne_of_lt bS.lt).symm
    have mbS0 := Nat.ne_of_lt (Nat.lt_succ_of_lt bS.lt)
    have mbS0' := (Nat.ne_of_lt (Nat.lt_succ_of_lt bS.lt)).symm
    have nbP0 := Nat.ne_of_lt bP.lt
    have nbP0' := (Nat.ne_of_lt bP.lt).symm
    have mbP0 := Nat.ne_of_lt (Nat.lt_succ_of_lt bP.lt)
    have mbP0' := (Nat.ne_of_lt (Nat.lt_succ_of_lt bP.lt)).symm
    have nbn0 := Nat.ne_of_lt hbn
    have nbn0' := (Nat.ne_of_lt hbn).symm
    have mbn0 := Nat.ne_of_lt (Nat.lt_succ_of_lt hbn)
    have mbn0' := (Nat.ne_of_lt (Nat.lt_succ_of_lt hbn)).symm
    go_region_held3 (fun w' => w'.cell? ⟨w1.heap.size, 0, none⟩ = some (.slice A0 r.Map.length c0) ∧ w'.cell? ⟨w1.heap.size, 1, none⟩ = some (.int .i64 r.Div) ∧ w'.cell? ⟨w1.heap.size, 2, none⟩ = some (.int .i64 r.Bx) ∧ w'.cell? ⟨w1.heap.size, 3, none⟩ = some (.int .i64 r.By) ∧ w'.cell? ⟨w1.heap.size, 4, none⟩ = some (.int .i64 r.Low) ∧ w'.cell? ⟨w1.heap.size, 5, none⟩ = some (.int .i64 r.High) ∧ w'.cell? ⟨w1.heap.size, 6, none⟩ = some (.slice A6 r.Noise.length c6) ∧ w'.cell? ⟨w1.heap.size, 7, none⟩ = some (.slice A7 r.Limits.length c7) ∧ w'.cell? ⟨w1.heap.size + 1, 0, none⟩ = some (.int .i64 s.X) ∧ w'.cell? ⟨w1.heap.size + 1, 1, none⟩ = some (.int .i64 s.Y) ∧ w'.cell? ⟨w1.heap.size + 1, 2, none⟩ = some (.int .i64 s.D) ∧ w'.cell? ⟨w2.heap.size, 0, none⟩ = some (.slice Ap P.length cp) ∧ w'.cell? ⟨bn, on, none⟩ = some (.int .i64 t.X) ∧ w'.cell? ⟨bn, on + 1, none⟩ = some (.int .i64 t.Y) ∧ w'.cell? ⟨bn, on + 2, none⟩ = some (.int .i64 t.D))
      (go_keep)
      (first
        | (go_at_call 23; (with_reducible refine (HNum.out _ (HRb.out.ext (hy.trans (by first | exact hcur | exact hcur.drew | exact hcur.alloc _ | exact hcur.drew.alloc _ | exact (hcur.alloc _).drew | exact ((hcur.alloc _).alloc _).drew | exact (hcur.alloc _).alloc _ | exact (hcur.drew.alloc _).alloc _ | exact ((hcur.alloc _).drew.alloc _) | exact ((hcur.drew.alloc _).drew) | exact ((hcur.drew.alloc _).alloc _).drew)))).mono ?_); rintro e w9 ⟨x9, rfl, hz1, hz2, hx9⟩; (first | have hx8 := (Ext.refl _).drew.trans hx9 | have hx8 := hx9); replace hcur := Ext.trans (by first | exact hcur | exact hcur.drew | exact hcur.alloc _ | exact hcur.drew.alloc _ | exact (hcur.alloc _).drew | exact ((hcur.alloc _).alloc _).drew | exact (hcur.alloc _).alloc _ | exact (hcur.drew.alloc _).alloc _ | exact ((hcur.alloc _).drew.alloc _) | exact ((hcur.drew.alloc _).drew) | exact ((hcur.drew.alloc _).alloc _).drew) hx9; have cbM9 := fun o => (bM.ext hcur).cell o; have cbS9 := fun o => (bS.ext hcur).cell o; have cbP9 := fun o => (bP.ext hcur).cell o; have t09 := hcur.cellOf t0; have t19 := hcur.cellOf t1; have t29 := hcur.cellOf t2; have s9 := hcur.size; have nbM9 := Nat.ne_of_lt (bM.ext hcur).lt; have nbM9' := (Nat.ne_of_lt (bM.ext hcur).lt).symm; have mbM9 := Nat.ne_of_lt (Nat.lt_succ_of_lt (bM.ext hcur).lt); have mbM9' := (Nat.ne_of_lt (Nat.lt_succ_of_lt (bM.ext hcur).lt)).symm; have nbS9 := Nat.ne_of_lt (bS.ext hcur).lt; have nbS9' := (Nat.ne_of_lt (bS.ext hcur).lt).symm; have mbS9 := Nat.ne_of_lt (Nat.lt_succ_of_lt (bS.ext hcur).lt); have mbS9' := (Nat.ne_of_lt (Nat.lt_succ_of_lt (bS.ext hcur).lt)).symm; have nbP9 := Nat.ne_of_lt (bP.ext hcur).lt; have nbP9' := (Nat.ne_of_lt (bP.ext hcur).lt).symm; have mbP9 := Nat.ne_of_lt (Nat.lt_succ_of_lt (bP.ext hcur).lt); have mbP9' := (Nat.ne_of_lt (Nat.lt_succ_of_lt (bP.ext hcur).lt)).symm; have nbn9 := Nat.ne_of_lt (Nat.lt_of_lt_of_le hbn hcur.size); have nbn9' := (Nat.ne_of_lt (Nat.lt_of_lt_of_le hbn hcur.size)).symm; have mbn9 := Nat.ne_of_lt (Nat.lt_succ_of_lt (Nat.lt_of_lt_of_le hbn hcur.size)); have mbn9' := (Nat.ne_of_lt (Nat.lt_succ_of_lt (Nat.lt_of_lt_of_le hbn hcur.size))).symm; (first | (replace gA := gA.ext hx8; replace gB := gB.ext hx8; have gAc := fun o => gA.cell o; have gAf := fun o => gA.frozen o; have lA := gA.lt; have nA := Nat.ne_of_lt gA.lt; have nA' := (Nat.ne_of_lt gA.lt).symm; have gBc := fun o => gB.cell o; have gBf := fun o => gB.frozen o; have lB := gB.lt; have nB2 := Nat.ne_of_lt gB.lt; have nB2' := (Nat.ne_of_lt gB.lt).symm) | (replace gA := (gA.alloc _).ext hx8; have gB := Blk.ext (Blk.new _ 44 #[.int .i64 0, .int .i64 0]) hx8; have gAc := fun o => gA.cell o; have gAf := fun o => gA.frozen o; have lA := gA.lt; have nA := Nat.ne_of_lt gA.lt; have nA' := (Nat.ne_of_lt gA.lt).symm; have gBc := fun o => gB.cell o; have gBf := fun o => gB.frozen o; have lB := gB.lt; have nB2 := Nat.ne_of_lt gB.lt; have nB2' := (Nat.ne_of_lt gB.lt).symm) | (replace gB := (gB.alloc _).ext hx8; have gA := Blk.ext (Blk.new _ 30 #[.int .i64 0, .int .i64 0, .int .i64 0]) hx8; have gAc := fun o => gA.cell o; have gAf := fun o => gA.frozen o; have lA := gA.lt; have nA := Nat.ne_of_lt gA.lt; have nA' := (Nat.ne_of_lt gA.lt).symm; have gBc := fun o => gB.cell o; have gBf := fun o => gB.frozen o; have lB := gB.lt; have nB2 := Nat.ne_of_lt gB.lt; have nB2' := (Nat.ne_of_lt gB.lt).symm) | (have gA := Blk.ext ((Blk.new _ 30 #[.int .i64 0, .int .i64 0, .int .i64 0]).alloc (.cells #[.int .i64 0, .int .i64 0] 44)) hx8; have gB := Blk.ext (blk_new1 _ _ 44 #[.int .i64 0, .int .i64 0]) hx8; have gAc := fun o => gA.cell o; have gAf := fun o => gA.frozen o; have lA := gA.lt; have nA := Nat.ne_of_lt gA.lt; have nA' := (Nat.ne_of_lt gA.lt).symm; have gBc := fun o => gB.cell o; have gBf := fun o => gB.frozen o; have lB := gB.lt; have nB2 := Nat.ne_of_lt gB.lt; have nB2' := (Nat.ne_of_lt gB.lt).symm) | (have gB := Blk.ext ((Blk.new _ 44 #[.int .i64 0, .int .i64 0]).alloc (.cells #[.int .i64 0, .int .i64 0, .int .i64 0] 30)) hx8; have gA := Blk.ext (blk_new1 _ _ 30 #[.int .i64 0, .int .i64 0, .int .i64 0]) hx8; have gAc := fun o => gA.cell o; have gAf := fun o => gA.frozen o; have lA := gA.lt; have nA := Nat.ne_of_lt gA.lt; have nA' := (Nat.ne_of_lt gA.lt).symm; have gBc := fun o => gB.cell o; have gBf := fun o => gB.frozen o; have lB := gB.lt; have nB2 := Nat.ne_of_lt gB.lt; have nB2' := (Nat.ne_of_lt gB.lt).symm) | (replace gA := gA.ext hx8; have gAc := fun o => gA.cell o; have gAf := fun o => gA.frozen o; have lA := gA.lt; have nA := Nat.ne_of_lt gA.lt; have nA' := (Nat.ne_of_lt gA.lt).symm) | (replace gB := gB.ext hx8; have gBc := fun o => gB.cell o; have gBf := fun o => gB.frozen o; have lB := gB.lt; have nB2 := Nat.ne_of_lt gB.lt; have nB2' := (Nat.ne_of_lt gB.lt).symm) | (have gA := Blk.ext (Blk.new _ 30 #[.int .i64 0, .int .i64 0, .int .i64 0]) hx8; have gAc := fun o => gA.cell o; have gAf := fun o => gA.frozen o; have lA := gA.lt; have nA := Nat.ne_of_lt gA.lt; have nA' := (Nat.ne_of_lt gA.lt).symm) | (have gB := Blk.ext (Blk.new _ 44 #[.int .i64 0, .int .i64 0]) hx8; have gBc := fun o => gB.cell o; have gBf := fun o => gB.frozen o; have lB := gB.lt; have nB2 := Nat.ne_of_lt gB.lt; have nB2' := (Nat.ne_of_lt gB.lt).symm) | skip))
        | (go_at_call 22; (with_reducible refine (HSL.out _ _ (HRHx.out _ (hE.trans (by first | exact hcur | exact hcur.drew | exact hcur.alloc _ | exact hcur.drew.alloc _ | exact (hcur.alloc _).drew | exact ((hcur.alloc _).alloc _).drew | exact (hcur.alloc _).alloc _ | exact (hcur.drew.alloc _).alloc _ | exact ((hcur.alloc _).drew.alloc _) | exact ((hcur.drew.alloc _).drew) | exact ((hcur.drew.alloc _).alloc _).drew))) (rP.ext (by first | exact hcur | exact hcur.drew | exact hcur.alloc _ | exact hcur.drew.alloc _ | exact (hcur.alloc _).drew | exact ((hcur.alloc _).alloc _).drew | exact (hcur.alloc _).alloc _ | exact (hcur.drew.alloc _).alloc _ | exact ((hcur.alloc _).drew.alloc _) | exact ((hcur.drew.alloc _).drew) | exact ((hcur.drew.alloc _).alloc _).drew))).mono ?_); rintro e w9 ⟨x1, x2, x3, u1, u2, ok, rfl, hG, hx9⟩; (first | have hx8 := (Ext.refl _).drew.trans hx9 | have hx8 := hx9); replace hcur := Ext.trans (by first | exact hcur | exact hcur.drew | exact hcur.alloc _ | exact hcur.drew.alloc _ | exact (hcur.alloc _).drew | exact ((hcur.alloc _).alloc _).drew | exact (hcur.alloc _).alloc _ | exact (hcur.drew.alloc _).alloc _ | exact ((hcur.alloc _).drew.alloc _) | exact ((hcur.drew.alloc _).drew) | exact ((hcur.drew.alloc _).alloc _).drew) hx9; have cbM9 := fun o => (bM.ext hcur).cell o; have cbS9 := fun o => (bS.ext hcur).cell o; have cbP9 := fun o => (bP.ext hcur).cell o; have t09 := hcur.cellOf t0; have t19 := hcur.cellOf t1; have t29 := hcur.cellOf t2; have s9 := hcur.size; have nbM9 := Nat.ne_of_lt (bM.ext hcur).lt; have nbM9' := (Nat.ne_of_lt (bM.ext hcur).lt).symm; have mbM9 := Nat.ne_of_lt (Nat.lt_succ_of_lt (bM.ext hcur).lt); have mbM9' := (Nat.ne_of_lt (Nat.lt_succ_of_lt (bM.ext hcur).lt)).symm; have nbS9 := Nat.ne_of_lt (bS.ext hcur).lt; have nbS9' := (Nat.ne_of_lt (bS.ext hcur).lt).symm; have mbS9 := Nat.ne_of_lt (Nat.lt_succ_of_lt (bS.ext hcur).lt); have mbS9' := (Nat.ne_of_lt (Nat.lt_succ_of_lt (bS.ext hcur).lt)).symm; have nbP9 := Nat.ne_of_lt (bP.ext hcur).lt; have nbP9' := (Nat.ne_of_lt (bP.ext hcur).lt).symm; have mbP9 := Nat.ne_of_lt (Nat.lt_succ_of_lt (bP.ext hcur).lt); have mbP9' := (Nat.ne_of_lt (Nat.lt_succ_of_lt (bP.ext hcur).lt)).symm; have nbn9 := Nat.ne_of_lt (Nat.lt_of_lt_of_le hbn hcur.size); have nbn9' := (Nat.ne_of_lt (Nat.lt_of_lt_of_le hbn hcur.size)).symm; have mbn9 := Nat.ne_of_lt (Nat.lt_succ_of_lt (Nat.lt_of_lt_of_le hbn hcur.size)); have mbn9' := (Nat.ne_of_lt (Nat.lt_succ_of_lt (Nat.lt_of_lt_of_le hbn hcur.size))).symm; (first | (replace gA := gA.ext hx8; replace gB := gB.ext hx8; have gAc := fun o => gA.cell o; have gAf := fun o => gA.frozen o; have lA := gA.lt; have nA := Nat.ne_of_lt gA.lt; have nA' := (Nat.ne_of_lt gA.lt).symm; have gBc := fun o => gB.cell o; have gBf := fun o => gB.frozen o; have lB := gB.lt; have nB2 := Nat.ne_of_lt gB.lt; have nB2' := (Nat.ne_of_lt gB.lt).symm) | (replace gA := (gA.alloc _).ext hx8; have gB := Blk.ext (Blk.new _ 44 #[.int .i64 0, .int .i64 0]) hx8; have gAc := fun o => gA.cell o; have gAf := fun o => gA.frozen o; have lA := gA.lt; have nA := Nat.ne_of_lt gA.lt; have nA' := (Nat.ne_of_lt gA.lt).symm; have gBc := fun o => gB.cell o; have gBf := fun o => gB.frozen o; have lB := gB.lt; have nB2 := Nat.ne_of_lt gB.lt; have nB2' := (Nat.ne_of_lt gB.lt).symm) | (replace gB := (gB.alloc _).ext hx8; have gA := Blk.ext (Blk.new _ 30 #[.int .i64 0, .int .i64 0, .int .i64 0]) hx8; have gAc := fun o => gA.cell o; have gAf := fun o => gA.frozen o; have lA := gA.lt; have nA := Nat.ne_of_lt gA.lt; have nA' := (Nat.ne_of_lt gA.lt).symm; have gBc := fun o => gB.cell o; have gBf := fun o => gB.frozen o; have lB := gB.lt; have nB2 := Nat.ne_of_lt gB.lt; have nB2' := (Nat.ne_of_lt gB.lt).symm) | (have gA := Blk.ext ((Blk.new _ 30 #[.int .i64 0, .int .i64 0, .int .i64 0]).alloc (.cells #[.int .i64 0, .int .i64 0] 44)) hx8; have gB := Blk.ext (blk_new1 _ _ 44 #[.int .i64 0, .int .i64 0]) hx8; have gAc := fun o => gA.cell o; have gAf := fun o => gA.frozen o; have lA := gA.lt; have nA := Nat.ne_of_lt gA.lt; have nA' := (Nat.ne_of_lt gA.lt).symm; have gBc := fun o => gB.cell o; have gBf := fun o => gB.frozen o; have lB := gB.lt; have nB2 := Nat.ne_of_lt gB.lt; have nB2' := (Nat.ne_of_lt gB.lt).symm) | (have gB := Blk.ext ((Blk.new _ 44 #[.int .i64 0, .int .i64 0]).alloc (.cells #[.int .i64 0, .int .i64 0, .int .i64 0] 30)) hx8; have gA := Blk.ext (blk_new1 _ _ 30 #[.int .i64 0, .int .i64 0, .int .i64 0]) hx8; have gAc := fun o => gA.cell o; have gAf := fun o => gA.frozen o; have lA := gA.lt; have nA := Nat.ne_of_lt gA.lt; have nA' := (Nat.ne_of_lt gA.lt).symm; have gBc := fun o => gB.cell o; have gBf := fun o => gB.frozen o; have lB := gB.lt; have nB2 := Nat.ne_of_lt gB.lt; have nB2' := (Nat.ne_of_lt gB.lt).symm) | (replace gA := gA.ext hx8; have gAc := fun o => gA.cell o; have gAf := fun o => gA.frozen o; have lA := gA.lt; have nA := Nat.ne_of_lt gA.lt; have nA' := (Nat.ne_of_lt gA.lt).symm) | (replace gB := gB.ext hx8; have gBc := fun o => gB.cell o; have gBf := fun o => gB.frozen o; have lB := gB.lt; have nB2 := Nat.ne_of_lt gB.lt; have nB2' := (Nat.ne_of_lt gB.lt).symm) | (have gA := Blk.ext (Blk.new _ 30 #[.int .i64 0, .int .i64 0, .int .i64 0]) hx8; have gAc := fun o => gA.cell o; have gAf := fun o => gA.frozen o; have lA := gA.lt; have nA := Nat.ne_of_lt gA.lt; have nA' := (Nat.ne_of_lt gA.lt).symm) | (have gB := Blk.ext (Blk.new _ 44 #[.int .i64 0, .int .i64 0]) hx8; have gBc := fun o => gB.cell o; have gBf := fun o => gB.frozen o; have lB := gB.lt; have nB2 := Nat.ne_of_lt gB.lt; have nB2' := (Nat.ne_of_lt gB.lt).symm) | skip)))
    all_goals
      go_wp2_with fail
      go_meet
      case rel => exact ⟨x1, x2, x3, u1, u2, ok, by first | (with_reducible exact SpotRat.ab hcur) | (with_reducible exact SpotRat.ba hcur) | (with_reducible exact SpotRat.a hcur (by omega) lA gA) | (with_reducible exact SpotRat.b hcur (by omega) lB gB) | (with_reducible exact SpotRat.two hcur (by omega) (by omega) (by omega) gA gB), rfl, hG⟩
  case rest =>
  obtain ⟨wA, rfl⟩ : ∃ W, W = wc := ⟨_, rfl⟩
  obtain ⟨x1, x2, x3, u1, u2, ok, ⟨b1, b2, rfl, rfl, hv1, hv2, h12, hxC, bN, bU⟩, rfl, hG⟩ := hcut
  replace bN : Blk wA b1 30 #[.int .i64 x1, .int .i64 x2, .int .i64 x3] := bN
  replace bU : Blk wA b2 44 #[.int .i64 u1, .int .i64 u2] := bU
  clear t0 t1 t2
  replace hy := hy.trans hxC
  replace hE := hE.trans hxC
  replace bM := bM.ext hxC
  replace bS := bS.ext hxC
  replace bP := bP.ext hxC
  replace rP := rP.ext hxC
  replace rK := rK.ext hxC
  have cbM_19 := fun o => bM.cell o
  have cbS_20 := fun o => bS.cell o
  have cbP_21 := fun o => bP.cell o
  have cbM_22 := fun o => bM.cell o
  have cbS_23 := fun o => bS.cell o
  have cbP_24 := fun o => bP.cell o
  have cbN_25 := fun o => bN.cell o
  have cbU_26 := fun o => bU.cell o
  go_upto_region 11 with fail
  go_cut [78] from 66 to 78 (fun v wx => v = .bool false ∧ Ext wA wx)
  case first =>
    cases ok
    · go_wp2_with fail
      go_meet
      case rel => exact ⟨rfl, Ext.refl _⟩
    obtain ⟨g1, g2, g3⟩ := hG.out rfl
    have HH2 := Lib.hid (fun w hr => HHS.out Ap P.length cp ⟨x1, x2, x3⟩ w rfl hr g3)
    rw [g1] at HH2
    have HI2 := Lib.hid (fun w ha => implIsInput_ok r A0 A6 A7 c0 c6 c7 ⟨u1, u2⟩ w HV.out ha g2)
    dsimp only at HH2 HI2
    clear g1 g2 g3
    go_wp2_with fail
    refine (HH2.out _ rP).mono ?_
    rintro e w6 ⟨rfl, hx6⟩
    replace hy := hy.trans hx6
    replace hE := hE.trans hx6
    replace bM := bM.ext hx6
    replace bS := bS.ext hx6
    replace bP := bP.ext hx6
    replace rP := rP.ext hx6
    replace rK := rK.ext hx6
    replace bN := bN.ext hx6
    replace bU := bU.ext hx6
    have cbM_27 := fun o => bM.cell o
    have cbS_28 := fun o => bS.cell o
    have cbP_29 := fun o => bP.cell o
    have cbN_30 := fun o => bN.cell o
    have cbU_31 := fun o => bU.cell o
    go_wp2_with fail
    refine (HI2.out _ (HRHx.out _ hE)).mono ?_
    rintro e w7 ⟨rfl, hx7⟩
    go_wp2_with fail
    go_meet
    case rel => exact ⟨rfl, hx6.trans hx7⟩
  case rest =>
  obtain ⟨wB, rfl⟩ : ∃ W, W = wc := ⟨_, rfl⟩
  obtain ⟨rfl, hxB⟩ := hcut
  clear hG
  clear bN bU
  replace hy := hy.trans hxB
  replace hE := hE.trans hxB
  replace bM := bM.ext hxB
  replace bS := bS.ext hxB
  replace bP := bP.ext hxB
  replace rP := rP.ext hxB
  replace rK := rK.ext hxB
  have cbM_32 := fun o => bM.cell o
  have cbS_33 := fun o => bS.cell o
  have cbP_34 := fun o => bP.cell o
  obtain ⟨⟨T, q⟩, hTR⟩ : ∃ x, trackR r P s [3, -3, 0] (cornL r.Noise) = x := ⟨_, rfl⟩
  have HF := Lib.hid (run_facts HV.out HV.out.ok HPk.out HQ1.out HND.out (by rw [hcl]; exact hcp) rfl hTR)
  have hNI : ∀ x ∈ cornL r.Noise, I64 x.X ∧ I64 x.Y ∧ I64 x.D := fun x hx => by
    have hB := (shape_of HV.out.noise HV.out.noiseN).spotB x hx
    have h1 := hB.d1; have h2 := hB.d2; have h3 := hB.x1; have h4 := hB.x2; have h5 := hB.y1; have h6 := hB.y2
    unfold I64
    omega
  have HRun : Hid (∀ n0 n1, T.Spots.length = n0 → T.Inputs.length = n1 → ∀ b w, RoomHere w r A0 A6 A7 c0 c6 c7 → Row w Ap (ints (flat Half.ints P)) → Row w (some ⟨b, 0, none⟩) (ints [3, -3, 0]) → Row w (some ⟨bn, on, none⟩) (ints (flat Spot.ints (cornL r.Noise))) → Calls Tryz.prog 25 #[.agg #[.slice A0 r.Map.length c0, .int .i64 r.Div, .int .i64 r.Bx, .int .i64 r.By, .int .i64 r.Low, .int .i64 r.High, .slice A6 r.Noise.length c6, .slice A7 r.Limits.length c7], .agg #[.slice Ap P.length cp], .agg #[.int .i64 s.X, .int .i64 s.Y, .int .i64 s.D], .slice (some ⟨b, 0, none⟩) 3 3, .slice (some ⟨bn, on, none⟩) r.Noise.length ck] w (RunGood T n0 n1 q w)) := fun n0 n1 e0 e1 b w ha hr hw hnr => by
    have h := runGood hTR e0 e1 (implRunLoop_any r A0 A6 A7 c0 c6 c7 Ap P.length cp P s (some ⟨b, 0, none⟩) 3 [3, -3, 0] (some ⟨bn, on, none⟩) ck (cornL r.Noise) w ha HV.out.fi.1 HV.out.fi.2 rfl hr (halves_I (regOk_all HPk.out)) (by unfold maxLen; omega) ⟨s1, s2, s3⟩ hw (by show 3 ≤ maxLen; unfold maxLen; omega) hnr (by rw [hcl]; unfold maxLen; omega) hNI)
    rw [hcl] at h
    exact h
  have HFI : Hid (RunFacts r P T → trackFI T) := fun F => ⟨fun x hx z hz => by
      have h := F.held x hx
      unfold hasSpot at h
      simp only [Bool.and_eq_true] at h
      have := spot_I h.1.2
      unfold Spot.ints at hz
      simp only [List.mem_cons, List.not_mem_nil, or_false] at hz
      rcases hz with rfl | rfl | rfl
      · exact this.1
      · exact this.2.1
      · exact this.2.2, fun x hx z hz => by
      have h := F.ins x hx
      unfold inRoom at h
      simp only [Bool.and_eq_true] at h
      have := ratio_I h.1.1
      unfold Ratio.ints at hz
      simp only [List.mem_cons, List.not_mem_nil, or_false] at hz
      rcases hz with rfl | rfl
      · exact this.1
      · exact this.2⟩
  clear hTR hNI
  have bWi := Blk.new wB 3 #[.int .i64 3, .int .i64 (-3), .int .i64 0]
  have hWi := (Ext.refl wB).alloc (.cells #[.int .i64 3, .int .i64 (-3), .int .i64 0] 3)
  have rW : Row (wB.alloc (.cells #[.int .i64 3, .int .i64 (-3), .int .i64 0] 3)) (some ⟨wB.heap.size, 0, none⟩) (ints [3, -3, 0]) := Row.of_own (own_blk (n := 3) (s := 1) bWi rfl (by unfold maxLen; omega))
  clear bWi
  replace hy := hy.trans hWi
  replace hE := hE.trans hWi
  replace bM := bM.ext hWi
  replace bS := bS.ext hWi
  replace bP := bP.ext hWi
  replace rP := rP.ext hWi
  replace rK := rK.ext hWi
  have cbM_35 := fun o => bM.cell o
  have cbS_36 := fun o => bS.cell o
  have cbP_37 := fun o => bP.cell o
  rcases HF.out with ⟨rfl, rfl⟩ | ⟨rfl, F⟩
  · have HR0 := Lib.hid (fun b w => HRun.out 0 0 rfl rfl b w)
    clear HF
    go_wp2_with fail
    refine (HR0.out _ _ (HRHx.out _ hE) rP rW rK).mono ?_
    rintro e w20 ⟨B0, d0, B1, d1, rfl, ag, r0, r1, hx20⟩
    replace hy := hy.trans hx20
    replace hE := hE.trans hx20
    replace bM := bM.ext hx20
    replace bS := bS.ext hx20
    replace bP := bP.ext hx20
    replace rP := rP.ext hx20
    replace rK := rK.ext hx20
    have cbM_38 := fun o => bM.cell o
    have cbS_39 := fun o => bS.cell o
    have cbP_40 := fun o => bP.cell o
    have bT := Blk.new w20 68 #[.slice B0 0 d0, .slice B1 0 d1]
    have ha20 := (Ext.refl w20).alloc (.cells #[.slice B0 0 d0, .slice B1 0 d1] 68)
    replace hy := hy.trans ha20
    replace hE := hE.trans ha20
    replace bM := bM.ext ha20
    replace bS := bS.ext ha20
    replace bP := bP.ext ha20
    replace rP := rP.ext ha20
    replace rK := rK.ext ha20
    have cbM_41 := fun o => bM.cell o
    have cbS_42 := fun o => bS.cell o
    have cbP_43 := fun o => bP.cell o
    have cbM_44 := fun o => bM.cell o
    have cbS_45 := fun o => bS.cell o
    have cbP_46 := fun o => bP.cell o
    have cbT_47 := fun o => bT.cell o
    go_wp2
    go_ret
    exact ⟨rfl, hy⟩
  have HR1 := Lib.hid (fun b w => HRun.out 4 3 F.l0 F.l1 b w)
  have FH := Lib.hid F
  have hFI := Lib.hid (HFI.out F)
  have HSo : Hid (∀ x ∈ T.Spots, spotOk x = true) := fun x hx => by
    have h := F.held x hx
    unfold hasSpot at h
    simp only [Bool.and_eq_true] at h
    exact h.1.2
  have HRo_ : Hid (∀ u ∈ T.Inputs, ratioOk u = true) := fun u hu => by
    have h := F.ins u hu
    unfold inRoom at h
    simp only [Bool.and_eq_true] at h
    exact h.1.1
  have HUI := Lib.hid (fun B0 d0 B1 d1 w hr2 => implUsedInputs_in T B0 B1 d0 d1 w hr2 HRo_.out (by have := F.l1; omega) (by have := F.l1; omega))
  have HMD := Lib.hid (fun B0 d0 B1 d1 w hr1 => implMostDistant_in T B0 B1 d0 d1 1 2 w (by omega) (by omega) hr1 HSo.out (by have := F.l0; omega) (by have := F.l0; omega))
  have hlen : (trackT T).length = 3 := (track_lines (by rw [F.l0, F.l1]) HSo.out HRo_.out).trans F.l1
  have HTL := Lib.hid (fun vs w h ht => implTrackLines_any T vs w h hFI.out (by have := F.l0; omega) (by have := F.l1; omega) ht)
  rw [F.l0, F.l1] at HUI HMD
  have HLn := Lib.hid hlen
  clear F HF hlen HFI
  go_wp2_with fail
  refine (HR1.out _ _ (HRHx.out _ hE) rP rW rK).mono ?_
  rintro e w20 ⟨B0, d0, B1, d1, rfl, ag, r0, r1, hx20⟩
  replace hy := hy.trans hx20
  replace hE := hE.trans hx20
  replace bM := bM.ext hx20
  replace bS := bS.ext hx20
  replace bP := bP.ext hx20
  replace rP := rP.ext hx20
  replace rK := rK.ext hx20
  have cbM_48 := fun o => bM.cell o
  have cbS_49 := fun o => bS.cell o
  have cbP_50 := fun o => bP.cell o
  have bT := Blk.new w20 68 #[.slice B0 4 d0, .slice B1 3 d1]
  have ha20 := (Ext.refl w20).alloc (.cells #[.slice B0 4 d0, .slice B1 3 d1] 68)
  replace hy := hy.trans ha20
  replace hE := hE.trans ha20
  replace bM := bM.ext ha20
  replace bS := bS.ext ha20
  replace bP := bP.ext ha20
  replace rP := rP.ext ha20
  replace rK := rK.ext ha20
  have cbM_51 := fun o => bM.cell o
  have cbS_52 := fun o => bS.cell o
  have cbP_53 := fun o => bP.cell o
  replace r0 := r0.ext ha20
  replace r1 := r1.ext ha20
  replace ag := ag.ext ha20
  have cbM_54 := fun o => bM.cell o
  have cbS_55 := fun o => bS.cell o
  have cbP_56 := fun o => bP.cell o
  have cbT_57 := fun o => bT.cell o
  go_wp2_with fail
  refine (HUI.out _ _ _ _ _ r1).mono ?_
  rintro e w21 ⟨⟨lo, hi, rfl, l1, l2, l3⟩, hx21⟩
  replace hy := hy.trans hx21
  replace hE := hE.trans hx21
  replace bM := bM.ext hx21
  replace bS := bS.ext hx21
  replace bP := bP.ext hx21
  replace rP := rP.ext hx21
  replace rK := rK.ext hx21
  replace r0 := r0.ext hx21
  replace r1 := r1.ext hx21
  replace ag := ag.ext hx21
  replace bT := bT.ext hx21
  have cbM_58 := fun o => bM.cell o
  have cbS_59 := fun o => bS.cell o
  have cbP_60 := fun o => bP.cell o
  have cbT_61 := fun o => bT.cell o
  have bLo := (Blk.new w21 44 #[.int .i64 lo.N, .int .i64 lo.D]).alloc (.cells #[.int .i64 hi.N, .int .i64 hi.D] 44)
  have bHi := blk_new1 w21 (.cells #[.int .i64 lo.N, .int .i64 lo.D] 44) 44 #[.int .i64 hi.N, .int .i64 hi.D]
  have hLH := ((Ext.refl w21).alloc (.cells #[.int .i64 lo.N, .int .i64 lo.D] 44)).alloc (.cells #[.int .i64 hi.N, .int .i64 hi.D] 44)
  replace hy := hy.trans hLH
  replace hE := hE.trans hLH
  replace bM := bM.ext hLH
  replace bS := bS.ext hLH
  replace bP := bP.ext hLH
  replace rP := rP.ext hLH
  replace rK := rK.ext hLH
  replace r0 := r0.ext hLH
  replace r1 := r1.ext hLH
  replace ag := ag.ext hLH
  replace bT := bT.ext hLH
  have cbM_62 := fun o => bM.cell o
  have cbS_63 := fun o => bS.cell o
  have cbP_64 := fun o => bP.cell o
  have cbT_65 := fun o => bT.cell o
  have cbM_66 := fun o => bM.cell o
  have cbS_67 := fun o => bS.cell o
  have cbP_68 := fun o => bP.cell o
  have cbT_69 := fun o => bT.cell o
  have cbLo_70 := fun o => bLo.cell o
  have cbHi_71 := fun o => bHi.cell o
  go_wp2_with fail
  refine (HMD.out _ _ _ _ _ r0).mono ?_
  rintro e w22 ⟨⟨m, rfl, m0, m1⟩, hx22⟩
  replace hy := hy.trans hx22
  replace hE := hE.trans hx22
  replace bM := bM.ext hx22
  replace bS := bS.ext hx22
  replace bP := bP.ext hx22
  replace rP := rP.ext hx22
  replace rK := rK.ext hx22
  replace r0 := r0.ext hx22
  replace r1 := r1.ext hx22
  replace ag := ag.ext hx22
  replace bT := bT.ext hx22
  replace bLo := bLo.ext hx22
  replace bHi := bHi.ext hx22
  have cbM_72 := fun o => bM.cell o
  have cbS_73 := fun o => bS.cell o
  have cbP_74 := fun o => bP.cell o
  have cbT_75 := fun o => bT.cell o
  have cbLo_76 := fun o => bLo.cell o
  have cbHi_77 := fun o => bHi.cell o
  have hl3 : 3 < T.Spots.length := by rw [FH.out.l0]; omega
  obtain ⟨bs, os, rfl, hbs, e0, e1, e2⟩ := r0.Spot (k := 3) hl3
  obtain ⟨D, hD_⟩ : ∃ D, (T.Spots[3]'hl3).D = D := ⟨_, rfl⟩
  rw [hD_] at e2
  have HRt : Hid (D ≤ 100000 → ∀ i (h1 : i < T.Spots.length) (h2 : i + 1 < T.Spots.length) (h3 : i < T.Inputs.length), RightAt r T.Spots[i] T.Inputs[i] T.Spots[i + 1]) := fun h => FH.out.right hl3 (by rw [hD_]; exact h)
  clear hD_ e0 e1
  have e2a : w22.cell? ⟨bs, os + 9 + 2, none⟩ = some (.int .i64 D) := e2
  have e2b : w22.cell? ⟨bs, os + 11, none⟩ = some (.int .i64 D) := e2
  go_upto_region 18 with fail
  go_cut [120] from 102 to 120 (fun v wx => v = .bool false ∧ Ext w22 wx)
  case first =>
    by_cases hD : D ≤ 100000
    · have HTO := Lib.hid (implTrackOk_ok r A0 A6 A7 c0 c6 c7 Ap P.length cp P T (some ⟨bs, os, none⟩) B1 d0 d1 w22 HV.out (HRHx.out _ hE) rfl rP HPk.out r0 r1 (by rw [FH.out.l0, FH.out.l1]) (by rw [FH.out.l1]; omega) FH.out.held (HRt.out hD))
      rw [FH.out.l0, FH.out.l1] at HTO
      go_wp2_with fail
      refine (HTO.out).mono ?_
      rintro e w23 ⟨rfl, hx23⟩
      go_wp2_with fail
      go_meet
      case rel => exact ⟨rfl, hx23⟩
    · have hDb : decide (D ≤ 100000) = false := decide_eq_false hD
      go_wp2_with fail
      go_meet
      case rel => exact ⟨rfl, Ext.refl _⟩
  case rest =>
  obtain ⟨wD, rfl⟩ : ∃ W, W = wc := ⟨_, rfl⟩
  obtain ⟨rfl, hxD⟩ := hcut
  clear e2 e2a e2b HRt HR1 HUI HMD
  replace hy := hy.trans hxD
  replace hE := hE.trans hxD
  replace bM := bM.ext hxD
  replace bS := bS.ext hxD
  replace bP := bP.ext hxD
  replace rP := rP.ext hxD
  replace rK := rK.ext hxD
  replace r0 := r0.ext hxD
  replace r1 := r1.ext hxD
  replace ag := ag.ext hxD
  replace bT := bT.ext hxD
  replace bLo := bLo.ext hxD
  replace bHi := bHi.ext hxD
  have cbM_78 := fun o => bM.cell o
  have cbS_79 := fun o => bS.cell o
  have cbP_80 := fun o => bP.cell o
  have cbT_81 := fun o => bT.cell o
  have cbLo_82 := fun o => bLo.cell o
  have cbHi_83 := fun o => bHi.cell o
  have HSp : Hid (∀ V, Ext wD V → Row V (some ⟨bs, os, none⟩) (ints (flat Spot.ints T.Spots))) := fun V h => r0.ext h
  have HPx : Hid (∀ V, Ext wD V → Row V Ap (ints (flat Half.ints P))) := fun V h => rP.ext h
  go_wp2
  go_loopw [124] (fun i wr => ∃ k : Nat, k ≤ 4 ∧ i = .int .i64 k ∧ Ext wD wr) (fun i _ => 4 - (intOf i).toNat)
  case atStart => exact ⟨0, by omega, rfl, Ext.refl _⟩
  case round =>
  obtain ⟨k, hk, rfl, hz⟩ := hrel
  have hszD := hz.size
  replace hy := hy.trans hz
  replace hE := hE.trans hz
  replace bM := bM.ext hz
  replace bS := bS.ext hz
  replace bP := bP.ext hz
  replace rP := rP.ext hz
  replace rK := rK.ext hz
  replace r0 := r0.ext hz
  replace r1 := r1.ext hz
  replace ag := ag.ext hz
  replace bT := bT.ext hz
  replace bLo := bLo.ext hz
  replace bHi := bHi.ext hz
  have cbM_84 := fun o => bM.cell o
  have cbS_85 := fun o => bS.cell o
  have cbP_86 := fun o => bP.cell o
  have cbT_87 := fun o => bT.cell o
  have cbLo_88 := fun o => bLo.cell o
  have cbHi_89 := fun o => bHi.cell o
  by_cases hlt : k < 4
  · have hkl : k < T.Spots.length := by rw [FH.out.l0]; exact hlt
    obtain ⟨bq, oq, hq, hbq, y0, y1, y2⟩ := (HSp.out _ hz).Spot (k := k) hkl
    cases hq
    have hmem := List.getElem_mem hkl
    obtain ⟨x, hx_⟩ : ∃ x, T.Spots[k]'hkl = x := ⟨_, rfl⟩
    rw [hx_] at y0 y1 y2 hmem
    clear hx_ hkl
    have HH3 := Lib.hid (fun w hr => HHS.out Ap P.length cp x w rfl hr (spot_I (HSo.out x hmem)))
    rw [FH.out.held x hmem] at HH3
    clear hmem
    have bX := Blk.new wr 30 #[.int .i64 x.X, .int .i64 x.Y, .int .i64 x.D]
    have hA := (Ext.refl wr).alloc (.cells #[.int .i64 x.X, .int .i64 x.Y, .int .i64 x.D] 30)
    replace hy := hy.trans hA
    replace hE := hE.trans hA
    replace bM := bM.ext hA
    replace bS := bS.ext hA
    replace bP := bP.ext hA
    replace rP := rP.ext hA
    replace rK := rK.ext hA
    replace r0 := r0.ext hA
    replace r1 := r1.ext hA
    replace ag := ag.ext hA
    replace bT := bT.ext hA
    replace bLo := bLo.ext hA
    replace bHi := bHi.ext hA
    have cbM_90 := fun o => bM.cell o
    have cbS_91 := fun o => bS.cell o
    have cbP_92 := fun o => bP.cell o
    have cbT_93 := fun o => bT.cell o
    have cbLo_94 := fun o => bLo.cell o
    have cbHi_95 := fun o => bHi.cell o
    replace hz := hz.trans hA
    have cbM_96 := fun o => bM.cell o
    have cbS_97 := fun o => bS.cell o
    have cbP_98 := fun o => bP.cell o
    have cbT_99 := fun o => bT.cell o
    have cbLo_100 := fun o => bLo.cell o
    have cbHi_101 := fun o => bHi.cell o
    have cbX_102 := fun o => bX.cell o
    go_wp2_with fail
    refine (HH3.out _ rP).mono ?_
    rintro e w24 ⟨rfl, hx24⟩
    go_wp2
    go_roundw
    case rel => exact ⟨k + 1, by omega, by go_num, hz.trans hx24⟩
    case measure => simp [intOf]; omega
  obtain rfl : k = 4 := by omega
  have hC : ratioCmp ⟨lo.N, lo.D⟩ ⟨hi.N, hi.D⟩ ≤ 0 := (cmp_le l1 l2).2 l3
  have HK := Lib.hid (fun w => implRatioCmp_any lo.N lo.D hi.N hi.D w (ratio_I l1).1 (ratio_I l1).2 (ratio_I l2).1 (ratio_I l2).2)
  generalize ratioCmp ⟨lo.N, lo.D⟩ ⟨hi.N, hi.D⟩ = C at HK hC
  clear l1 l2 l3
  have m2 : m < 4 := m1
  clear m1
  have cbM_103 := fun o => bM.cell o
  have cbS_104 := fun o => bS.cell o
  have cbP_105 := fun o => bP.cell o
  have cbT_106 := fun o => bT.cell o
  have cbLo_107 := fun o => bLo.cell o
  have cbHi_108 := fun o => bHi.cell o
  go_wp2_with fail
  refine (HK.out _).mono ?_
  rintro e w25 ⟨rfl, hx25⟩
  replace hy := hy.trans hx25
  replace hE := hE.trans hx25
  replace bM := bM.ext hx25
  replace bS := bS.ext hx25
  replace bP := bP.ext hx25
  replace rP := rP.ext hx25
  replace rK := rK.ext hx25
  replace r0 := r0.ext hx25
  replace r1 := r1.ext hx25
  replace ag := ag.ext hx25
  replace bT := bT.ext hx25
  replace bLo := bLo.ext hx25
  replace bHi := bHi.ext hx25
  have cbM_109 := fun o => bM.cell o
  have cbS_110 := fun o => bS.cell o
  have cbP_111 := fun o => bP.cell o
  have cbT_112 := fun o => bT.cell o
  have cbLo_113 := fun o => bLo.cell o
  have cbHi_114 := fun o => bHi.cell o
  go_wp2_with fail
  refine (HTL.out [.slice (some ⟨bs, os, none⟩) 4 d0, .slice B1 3 d1] _ ag (HTx.out _ hy)).mono ?_
  rintro e w26 ⟨A9, c9, rfl, hM9, hx26⟩
  replace hy := hy.trans hx26
  replace hE := hE.trans hx26
  replace bM := bM.ext hx26
  replace bS := bS.ext hx26
  replace bP := bP.ext hx26
  replace rP := rP.ext hx26
  replace rK := rK.ext hx26
  replace r0 := r0.ext hx26
  replace r1 := r1.ext hx26
  replace ag := ag.ext hx26
  replace bT := bT.ext hx26
  replace bLo := bLo.ext hx26
  replace bHi := bHi.ext hx26
  have cbM_115 := fun o => bM.cell o
  have cbS_116 := fun o => bS.cell o
  have cbP_117 := fun o => bP.cell o
  have cbT_118 := fun o => bT.cell o
  have cbLo_119 := fun o => bLo.cell o
  have cbHi_120 := fun o => bHi.cell o
  rw [HLn.out]
  go_wp2
  go_ret
  exact ⟨rfl, hy⟩

namespace lFnLoops
set_option maxRecDepth 100000
theorem own : ownKnob Tryz.prog.godebug = none := by kernel_rfl
theorem pTab : (Tryz.prog.globals[0]?).map (·.type) = some 205 := by kernel_rfl
theorem table {W : World} (h : laidMetH Tryz.prog Rows.fnLoopsRow.laid W) : Tab W := by
  change laidMet Tryz.prog _ W at h
  obtain ⟨ps, ⟨g0, t0, cs0, f0, p0, q0, hg0, ht0, hv0, hd0, ⟨g1, t1, cs1, f1, p1, q1, hg1, ht1, hv1, hd1, ⟨g2, t2, cs2, f2, p2, q2, hg2, ht2, hv2, hd2, _, _⟩, _⟩, _⟩, _⟩ := h
  obtain rfl := Option.some.inj (gTab.symm.trans hg2)
  obtain rfl := Option.some.inj (pTab.symm.trans ht2)
  unfold Tab Lib.TabIs
  rw [hv2, ← Lib.cells_of_tab (k := .u64) (zs := Lib.pow10Tab) Tryz.underlying205 Tryz.underlying96 (by kernel_rfl) (by kernel_rfl) hd2]
theorem laid_met (os : Os) : laidMet Tryz.prog Rows.fnLoopsRow.laid ((World.doorLaid Tryz.prog 400 os).forCall (fun _ _ => 0) ⟨#[], #[.slice none 0 0], []⟩).memory :=
  laidMet_of_run' 8 (by kernel_rfl) (by kernel_rfl)
theorem reads (os : Os) {H : Type} (enc : TypeId × Value → H) : ∃ places, DataW.whole enc Tryz.prog ((World.doorLaid Tryz.prog 400 os).forCall (fun _ _ => 0) ⟨#[], #[.slice none 0 0], []⟩).memory Tryz.f4.params.toList Rows.fnLoopsSpec.vars false (#[.slice none 0 0] : Array Value).toList 8 = some ([.nil], [], places) :=
  ⟨[], by kernel_rfl⟩
theorem lifted (os : Os) (started : os.Started) (H : Type) (enc : TypeId × Value → H) (F : Stop.Interp) :
    ReturnsInHanded {} Tryz.checked os 4 .any ((OpenSpec.ofChange Rows.fnLoopsSpec).preRow enc Tryz.prog Tryz.f4 Rows.fnLoopsRow.domain false Rows.fnLoopsRow.laid) (((OpenSpec.ofChange Rows.fnLoopsSpec).at F).post enc Tryz.prog Tryz.f4 false true false false) := by
  obtain ⟨places, hx⟩ := reads os enc
  refine returnsInHanded_of_row (C := Tryz.checked) (s := OpenSpec.ofChange Rows.fnLoopsSpec) own started (by kernel_rfl) Tryz.func4
    (witness_row_at (enc := enc) (C := Tryz.checked) false (World.doorLaid Tryz.prog 400 os) #[.slice none 0 0] rfl (by kernel_rfl) (by kernel_rfl) (by kernel_rfl)
      (OpenSpec.preRow_of_cond 8 hx (by kernel_rfl) (fun k hk => by cases hk) (by kernel_rfl) (laid_met os))) ?_
  intro W base args ds gs before hval0 hW _ _ _ hL hShaped _
  have hTab := table hL
  have hval : ∀ (j : Nat) t v, Tryz.f4.params[j]? = some t → args[j]? = some v → Value.okWide Tryz.prog W .any base t v := hval0
  have hW' := hW
  obtain ⟨p, q, hA0, hV, rfl, _, _⟩ := hW
  have hA : DataW.TrodAll enc Tryz.prog W 0 (fun _ => true) true Tryz.f4.params.toList args.toList ds p := hA0
  rw [Tryz.params4] at hA hval
  obtain ⟨v0, vs0, d0, ds0, p0, q0, hargs, rfl, rfl, h0, r0⟩ := trodAll_cons hA
  obtain ⟨rfl, rfl, rfl⟩ := trodAll_nil r0
  obtain rfl : args = #[v0] := by cases args; simp_all
  obtain ⟨rfl, rfl⟩ := trodVars_none hV
  have hv0 := hval 0 22 v0 rfl rfl
  clear hA0 hval hval0
  obtain ⟨A0, n0, c0, bs0, rfl, hl0, hr0, hlc0, hm0⟩ := openArg_bytes Tryz.underlying22 Tryz.underlying5 (by kernel_rfl) hv0 h0
  refine (lawLoops A0 n0 c0 bs0 W hl0 hr0 (by unfold maxLen at hm0; omega) hTab).mono fun e W' ⟨he, hx⟩ => ?_
  subst he
  exact ⟨_, rfl, law_post (tb := 4) laidOut (by kernel_rfl) rfl Tryz.underlying4 rfl hW' rfl rfl rfl hx⟩
theorem said : Rows.FnLoopsSaid :=
  OpenClaim.holds_of_cond 4 Tryz.f4 rfl rfl rfl rfl rfl rfl rfl ⟨rfl, rfl, rfl, rfl, rfl⟩ rfl rfl rfl rfl rfl (by kernel_rfl) Tryz.func4 (by kernel_rfl)
    (of_decide_eq_true (by kernel_rfl)) (by unfold Func.isWrapper; first | (rw [if_pos (by decide +kernel)]; kernel_rfl) | (rw [if_neg (by decide +kernel)]; exact ⟨rfl, rfl⟩))
    (fun os started H enc _ F => by rw [OpenClaim.pre_eq_preRow]; exact lifted os started H enc F)
theorem plain (f : FuncId) (fn : Func) (hf : Tryz.pinned.checked.prog.funcNamed "loop.example/g00832/laws.FnLoops" = some f) (hfn : Tryz.pinned.checked.prog.funcs[f]? = some fn) :
    false = Tryz.pinned.checked.prog.looks [] ∧ ∀ (j : Nat) t, fn.params[j]? = some t → Tryz.pinned.checked.prog.wantsStandIn t = false := by
  obtain rfl : f = 4 := Option.some.inj ((show Tryz.prog.funcNamed "loop.example/g00832/laws.FnLoops" = some 4 by kernel_rfl).symm.trans hf) |>.symm
  obtain rfl : fn = Tryz.f4 := (Option.some.inj (Tryz.func4.symm.trans hfn)).symm
  refine ⟨by kernel_rfl, fun j t ht => ?_⟩
  rw [Tryz.params4] at ht
  have hm : t ∈ [22] := by simpa using Array.mem_of_getElem? ht
  have hall : ([22].all fun u => !Tryz.prog.wantsStandIn u) = true := by kernel_rfl
  exact (show Tryz.prog.wantsStandIn t = false by simpa using List.all_eq_true.1 hall t hm)
theorem proved : Rows.FnLoopsCardSaid :=
  Claim7.holds_tied_plain_at .later [] _ _ _ _ said (fun _ h => by cases h) (by kernel_rfl) (fun _ h => by cases h) fnLoops_row_tie rfl ⟨rfl, rfl⟩ (by kernel_rfl) rfl plain (by kernel_rfl)
end lFnLoops
end Go.Proofs.YtjghabbcjpfjeaaGreatDoor
