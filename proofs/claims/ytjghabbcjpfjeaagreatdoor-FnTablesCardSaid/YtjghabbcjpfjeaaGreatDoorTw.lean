/- Contract of RunLoop of the program. (written by tools/mkRl.py) -/
import Derived.Test.YtjghabbcjpfjeaaGreatDoorTv
import Derived.Test.YtjghabbcjpfjeaaGreatDoorRf
import Derived.Deep.CutRange
import Derived.Deep.RegionHeld3
import Derived.Maps.AppendAt
namespace Go.Proofs.YtjghabbcjpfjeaaGreatDoor
open Go.ChangeShapes Go.WideShapes Go.ChangeAt Go.RowKit
set_option linter.unusedVariables false
set_option maxRecDepth 100000

theorem ratio_info_ : (Tryz.prog.info? 44).map (fun i => (i.zero, i.size, i.bytes)) = some (some (.agg #[.int .i64 0, .int .i64 0]), 2, 16) := by kernel_rfl
theorem blk_new1 (V : World) (o : Obj) (t : TypeId) (cs : Array Value) : Blk ((V.alloc o).alloc (.cells cs t)) (V.heap.size + 1) t cs := by simpa only [World.size_alloc] using Blk.new (V.alloc o) t cs
theorem ext_set2 {w V : World} {g : Nat} (h : Ext w V) (hg : w.heap.size ≤ g) (a b : Value) : Ext w ((V.setCell ⟨g, 0, none⟩ a).setCell ⟨g, 1, none⟩ b) :=
  (h.setCell (p := ⟨g, 0, none⟩) hg _).setCell (p := ⟨g, 1, none⟩) hg _
theorem own_blk {w : World} {g n s : Nat} {t : TypeId} {cs : Array Value} (h : Blk w g t cs) (hn : cs.size = n * s) (hm : n ≤ maxLen) : w.ownsRow g t s (.slice (some ⟨g, 0, none⟩) n n) n cs.toList :=
  ⟨by rw [Array.length_toList, hn], .inr ⟨g, n, cs, rfl, Nat.le_refl _, h, Nat.le_refl _, hm, hn, List.take_of_length_le (by rw [Array.length_toList, hn]; exact Nat.le_refl _)⟩⟩
theorem Blk.grown {w w' : World} {g : Nat} {t : TypeId} {cs : Array Value} {row : Option Nat} (b : Blk w g t cs) (h : w.grownBy w' row) (hr : row ≠ some g) : Blk w' g t cs := (h.block g b.lt (fun e => hr e.symm)).trans b
theorem own_past {w : World} {base n : Nat} {e : TypeId} {s : Nat} {v : Value} {cs : List Value} (h : w.ownsRow base e s v n cs) {p : Addr} (hp : v.ownBlock ≠ some p.block) (u : Value) : (w.setCell p u).ownsRow base e s v n cs := by
  obtain ⟨h1, h2⟩ := h
  refine ⟨h1, ?_⟩
  rcases h2 with h2 | ⟨g, cap, cur, hv, hg, hh, r⟩
  · exact .inl h2
  · refine .inr ⟨g, cap, cur, hv, hg, ?_, r⟩
    have hne : g ≠ p.block := fun e => hp (by rw [hv, ← e]; rfl)
    exact (Below.heap_setCell w p u g hne).trans hh
theorem ratios_add (l : List Ratio) (u : Ratio) : ints (flat Ratio.ints (l ++ [u])) = ints (flat Ratio.ints l) ++ ints (Ratio.ints u) := by
  unfold flat
  rw [List.flatMap_append, ints_append]
  congr 1
/-- a spot and a fraction of the region's own, wherever they lie -/
def SpotRat (x u : List Value) (V : World) (p q : Value) (wx : World) : Prop := ∃ b1 b2 : Nat, p = .pointer (some ⟨b1, 0, none⟩) ∧ q = .pointer (some ⟨b2, 0, none⟩) ∧ V.heap.size ≤ b1 ∧ V.heap.size ≤ b2 ∧ b1 ≠ b2 ∧ Ext V wx ∧ Blk wx b1 30 x.toArray ∧ Blk wx b2 44 u.toArray
section
variable {w V : World} {g k : Nat} {x1 x2 x3 u1 u2 : Value}
theorem SpotRat.ab (h : Ext w V) : SpotRat [x1, x2, x3] [u1, u2] w (.pointer (some ⟨V.heap.size, 0, none⟩)) (.pointer (some ⟨V.heap.size + 1, 0, none⟩)) ((V.alloc (.cells #[x1, x2, x3] 30)).alloc (.cells #[u1, u2] 44)) :=
  ⟨_, _, rfl, rfl, h.size, by have := h.size; omega, by omega, (h.alloc _).alloc _, (Blk.new V _ _).alloc _, blk_new1 V _ _ _⟩
theorem SpotRat.ba (h : Ext w V) : SpotRat [x1, x2, x3] [u1, u2] w (.pointer (some ⟨V.heap.size + 1, 0, none⟩)) (.pointer (some ⟨V.heap.size, 0, none⟩)) ((V.alloc (.cells #[u1, u2] 44)).alloc (.cells #[x1, x2, x3] 30)) :=
  ⟨_, _, rfl, rfl, by have := h.size; omega, h.size, by omega, (h.alloc _).alloc _, blk_new1 V _ _ _, (Blk.new V _ _).alloc _⟩
theorem SpotRat.a (h : Ext w V) (hg : w.heap.size ≤ g) (hl : g < V.heap.size) (b : Blk V g 30 #[.int .i64 0, .int .i64 0, .int .i64 0]) : SpotRat [x1, x2, x3] [u1, u2] w (.pointer (some ⟨g, 0, none⟩)) (.pointer (some ⟨V.heap.size, 0, none⟩)) ((((V.setCell ⟨g, 0, none⟩ x1).setCell ⟨g, 1, none⟩ x2).setCell ⟨g, 2, none⟩ x3).alloc (.cells #[u1, u2] 44)) :=
  ⟨_, _, rfl, rfl, hg, h.size, by omega, (ext_tri h hg _ _ _).alloc _, (((b.set_ 0 x1).set_ 1 x2).set_ 2 x3).alloc _, by simpa only [World.size_setCell] using Blk.new (((V.setCell ⟨g, 0, none⟩ x1).setCell ⟨g, 1, none⟩ x2).setCell ⟨g, 2, none⟩ x3) 44 #[u1, u2]⟩
theorem SpotRat.b (h : Ext w V) (hg : w.heap.size ≤ g) (hl : g < V.heap.size) (b : Blk V g 44 #[.int .i64 0, .int .i64 0]) : SpotRat [x1, x2, x3] [u1, u2] w (.pointer (some ⟨V.heap.size, 0, none⟩)) (.pointer (some ⟨g, 0, none⟩)) (((V.setCell ⟨g, 0, none⟩ u1).setCell ⟨g, 1, none⟩ u2).alloc (.cells #[x1, x2, x3] 30)) :=
  ⟨_, _, rfl, rfl, h.size, hg, by omega, ((h.setCell (p := ⟨g, 0, none⟩) hg _).setCell (p := ⟨g, 1, none⟩) hg _).alloc _, by simpa only [World.size_setCell] using Blk.new ((V.setCell ⟨g, 0, none⟩ u1).setCell ⟨g, 1, none⟩ u2) 30 #[x1, x2, x3], ((b.set_ 0 u1).set_ 1 u2).alloc _⟩
theorem SpotRat.two (h : Ext w V) (hg : w.heap.size ≤ g) (hk : w.heap.size ≤ k) (hne : g ≠ k) (b : Blk V g 30 #[.int .i64 0, .int .i64 0, .int .i64 0]) (b' : Blk V k 44 #[.int .i64 0, .int .i64 0]) : SpotRat [x1, x2, x3] [u1, u2] w (.pointer (some ⟨g, 0, none⟩)) (.pointer (some ⟨k, 0, none⟩)) (((((V.setCell ⟨g, 0, none⟩ x1).setCell ⟨g, 1, none⟩ x2).setCell ⟨g, 2, none⟩ x3).setCell ⟨k, 0, none⟩ u1).setCell ⟨k, 1, none⟩ u2) :=
  ⟨_, _, rfl, rfl, hg, hk, hne, h.tt hg hk _ _ _ _ _, (Blk.tt hne b b' _ _ _ _ _).1, (Blk.tt hne b b' _ _ _ _ _).2⟩
end
theorem stepV_form (X : Option (Spot × Ratio)) : ∃ (x1 x2 x3 u1 u2 : Int) (ok : Bool), stepV X = .tuple #[.agg #[.int .i64 x1, .int .i64 x2, .int .i64 x3], .agg #[.int .i64 u1, .int .i64 u2], .bool ok] ∧ (ok = false → X = none) ∧ (ok = true → X = some (⟨x1, x2, x3⟩, ⟨u1, u2⟩)) := by
  cases X with
  | none => exact ⟨0, 0, 0, 0, 0, false, rfl, fun _ => rfl, fun h => by cases h⟩
  | some x => exact ⟨x.1.X, x.1.Y, x.1.D, x.2.N, x.2.D, true, rfl, (fun h => by cases h), fun _ => rfl⟩
theorem spotOf_ok {x y d : Int} (h : (spotOf x y d).2 = true) : spotOk (spotOf x y d).1 = true := by
  unfold spotOf at h ⊢
  split at h
  · rename_i hc
    rw [if_pos hc]
    exact hc.2.2.2
  · cases h
theorem nextR_ok {r : Dyn} {s t : Spot} {u : Ratio} (h : (nextR r s u t).2 = true) : spotOk (nextR r s u t).1 = true := by
  unfold nextR at h ⊢
  split at h
  · rename_i hc
    rw [if_pos hc]
    exact spotOf_ok h
  · cases h
theorem stepR_ok {r : Room} {ps : List Half} {s t : Spot} {n : Int} {x : Spot × Ratio} (h : stepR r ps s n t = some x) : spotOk x.1 = true ∧ ratioOk x.2 = true := by
  unfold stepR at h
  split at h
  · rename_i hc
    injection h with h
    subst h
    exact ⟨nextR_ok hc.2.2, pickInput_ok (admAt_span hc.2.1) n⟩
  · cases h
theorem trackAll_zero {r : Room} {ps : List Half} {s : Spot} {ws : List Int} {ns : List Spot} (h : ws.length = 0) : trackAll r ps s ws ns = (⟨[s], []⟩, true) := trackAll_some (by rw [h]; rfl)
theorem trackAll_stop {r : Room} {ps : List Half} {s : Spot} {ws : List Int} {ns : List Spot} (h : 0 < ws.length) (hr : (robR ps r.Noise).2 = false) : trackAll r ps s ws ns = (noTrack, false) := by
  refine trackAll_none (k := 1) ?_ h
  have e : stepR r ps s (ws.getD 0 0) (ns.getD (0 % ns.length) ⟨0, 0, 0⟩) = none := stepR_no fun q => by
    have q1 := q.2.1
    rw [admAt_no (fun q2 => by
      unfold robR at hr
      simp only [q2.1, decide_eq_false q2.2.1] at hr
      cases hr)] at q1
    cases q1
  rw [trackK, trackK]
  change (match stepR r ps s (ws.getD 0 0) (ns.getD (0 % ns.length) ⟨0, 0, 0⟩) with | none => none | some x => _) = none
  rw [e]

set_option maxHeartbeats 32000000 in
theorem implRunLoop_any (r : Room) (A0 A6 A7 : Option Addr) (c0 c6 c7 : Nat) (A : Option Addr) (n c : Nat) (ps : List Half) (s : Spot) (Aw : Option Addr) (cw : Nat) (ws : List Int) (An : Option Addr) (cn : Nat) (ns : List Spot) (w : World) (ha : RoomHere w r A0 A6 A7 c0 c6 c7) (hFI : roomFI r) (hRL : RoomL r) (hn : ps.length = n) (hr : Row w A (ints (flat Half.ints ps))) (hI : HalvesI ps) (hle : n ≤ maxLen) (hs : I64 s.X ∧ I64 s.Y ∧ I64 s.D) (hw : Row w Aw (ints ws)) (hwl : ws.length ≤ maxLen) (hnr : Row w An (ints (flat Spot.ints ns))) (hnl : ns.length ≤ maxLen) (hNI : ∀ x ∈ ns, I64 x.X ∧ I64 x.Y ∧ I64 x.D) :
    Calls Tryz.prog 25 #[.agg #[.slice A0 r.Map.length c0, .int .i64 r.Div, .int .i64 r.Bx, .int .i64 r.By, .int .i64 r.Low, .int .i64 r.High, .slice A6 r.Noise.length c6, .slice A7 r.Limits.length c7], .agg #[.slice A n c], .agg #[.int .i64 s.X, .int .i64 s.Y, .int .i64 s.D], .slice Aw ws.length cw, .slice An ns.length cn] w (TrackMade (trackR r ps s ws ns) w) := by
  have HHS := Lib.hid (fun w hr => implHasSpot_any A n c ps s w hn hr hI hle hs)
  have HRo := Lib.hid (fun w ha => implRoomOk_any r A0 A6 A7 c0 c6 c7 w ha hFI hRL)
  have HRb := Lib.hid (fun hv hp w ha hr => implRobustOf_ok r A0 A6 A7 c0 c6 c7 A n c ps w hv ha hn hr hp)
  have HSt := Lib.hid (fun hv A3 n3 c3 E s t z w ha hn hr hE hne hs ht => implStep0_ok r A0 A6 A7 c0 c6 c7 A3 n3 c3 ps E s t z w hv ha hn hr hE hne hs ht)
  have HV : Hid (roomOk r = true → RoomV r) := room_valid
  have HX : Hid (runOk r ps s ws ns = (decide (ws.length ≤ 20) && !decide (ns.length = 0) && hasSpot ps s && roomOk r)) := rfl
  have HNo := Lib.hid (fun h => trackR_no (r := r) (ps := ps) (s := s) (ws := ws) (ns := ns) h)
  have HYes := Lib.hid (fun h => trackR_yes (r := r) (ps := ps) (s := s) (ws := ws) (ns := ns) h)
  have HHp : Hid (hasSpot ps s = true → regOk ps = true ∧ spotOk s = true) := fun h => by
    unfold hasSpot at h
    simp only [Bool.and_eq_true] at h
    exact h.1
  have HA := Lib.hid ha
  have HR := Lib.hid hr
  have HW := Lib.hid hw
  have HNr := Lib.hid hnr
  have HNI := Lib.hid hNI
  unfold maxLen at hwl hnl
  have hx : Ext w ((((w.alloc (.cells #[.slice A0 r.Map.length c0, .int .i64 r.Div, .int .i64 r.Bx, .int .i64 r.By, .int .i64 r.Low, .int .i64 r.High, .slice A6 r.Noise.length c6, .slice A7 r.Limits.length c7] 28)).alloc (.cells #[.slice A n c] 26)).alloc (.cells #[.int .i64 s.X, .int .i64 s.Y, .int .i64 s.D] 30)).alloc (.cells #[.slice none 0 0, .slice none 0 0] 68)) := by repeat (first | exact Ext.refl _ | refine Ext.alloc ?_ _)
  have bM : Blk ((((w.alloc (.cells #[.slice A0 r.Map.length c0, .int .i64 r.Div, .int .i64 r.Bx, .int .i64 r.By, .int .i64 r.Low, .int .i64 r.High, .slice A6 r.Noise.length c6, .slice A7 r.Limits.length c7] 28)).alloc (.cells #[.slice A n c] 26)).alloc (.cells #[.int .i64 s.X, .int .i64 s.Y, .int .i64 s.D] 30)).alloc (.cells #[.slice none 0 0, .slice none 0 0] 68)) (w.heap.size) 28 #[.slice A0 r.Map.length c0, .int .i64 r.Div, .int .i64 r.Bx, .int .i64 r.By, .int .i64 r.Low, .int .i64 r.High, .slice A6 r.Noise.length c6, .slice A7 r.Limits.length c7] := by
    have q := Blk.new w 28 #[.slice A0 r.Map.length c0, .int .i64 r.Div, .int .i64 r.Bx, .int .i64 r.By, .int .i64 r.Low, .int .i64 r.High, .slice A6 r.Noise.length c6, .slice A7 r.Limits.length c7]
    replace q := q.alloc (.cells #[.slice A n c] 26)
    replace q := q.alloc (.cells #[.int .i64 s.X, .int .i64 s.Y, .int .i64 s.D] 30)
    replace q := q.alloc (.cells #[.slice none 0 0, .slice none 0 0] 68)
    simpa only [World.size_alloc] using q
  have bP : Blk ((((w.alloc (.cells #[.slice A0 r.Map.length c0, .int .i64 r.Div, .int .i64 r.Bx, .int .i64 r.By, .int .i64 r.Low, .int .i64 r.High, .slice A6 r.Noise.length c6, .slice A7 r.Limits.length c7] 28)).alloc (.cells #[.slice A n c] 26)).alloc (.cells #[.int .i64 s.X, .int .i64 s.Y, .int .i64 s.D] 30)).alloc (.cells #[.slice none 0 0, .slice none 0 0] 68)) (w.heap.size + 1) 26 #[.slice A n c] := by
    have q := Blk.new (w.alloc (.cells #[.slice A0 r.Map.length c0, .int .i64 r.Div, .int .i64 r.Bx, .int .i64 r.By, .int .i64 r.Low, .int .i64 r.High, .slice A6 r.Noise.length c6, .slice A7 r.Limits.length c7] 28)) 26 #[.slice A n c]
    replace q := q.alloc (.cells #[.int .i64 s.X, .int .i64 s.Y, .int .i64 s.D] 30)
    replace q := q.alloc (.cells #[.slice none 0 0, .slice none 0 0] 68)
    simpa only [World.size_alloc] using q
  have bS : Blk ((((w.alloc (.cells #[.slice A0 r.Map.length c0, .int .i64 r.Div, .int .i64 r.Bx, .int .i64 r.By, .int .i64 r.Low, .int .i64 r.High, .slice A6 r.Noise.length c6, .slice A7 r.Limits.length c7] 28)).alloc (.cells #[.slice A n c] 26)).alloc (.cells #[.int .i64 s.X, .int .i64 s.Y, .int .i64 s.D] 30)).alloc (.cells #[.slice none 0 0, .slice none 0 0] 68)) (w.heap.size + 1 + 1) 30 #[.int .i64 s.X, .int .i64 s.Y, .int .i64 s.D] := by
    have q := Blk.new ((w.alloc (.cells #[.slice A0 r.Map.length c0, .int .i64 r.Div, .int .i64 r.Bx, .int .i64 r.By, .int .i64 r.Low, .int .i64 r.High, .slice A6 r.Noise.length c6, .slice A7 r.Limits.length c7] 28)).alloc (.cells #[.slice A n c] 26)) 30 #[.int .i64 s.X, .int .i64 s.Y, .int .i64 s.D]
    replace q := q.alloc (.cells #[.slice none 0 0, .slice none 0 0] 68)
    simpa only [World.size_alloc] using q
  have bA : Blk ((((w.alloc (.cells #[.slice A0 r.Map.length c0, .int .i64 r.Div, .int .i64 r.Bx, .int .i64 r.By, .int .i64 r.Low, .int .i64 r.High, .slice A6 r.Noise.length c6, .slice A7 r.Limits.length c7] 28)).alloc (.cells #[.slice A n c] 26)).alloc (.cells #[.int .i64 s.X, .int .i64 s.Y, .int .i64 s.D] 30)).alloc (.cells #[.slice none 0 0, .slice none 0 0] 68)) (w.heap.size + 1 + 1 + 1) 68 #[.slice none 0 0, .slice none 0 0] := by
    have q := Blk.new (((w.alloc (.cells #[.slice A0 r.Map.length c0, .int .i64 r.Div, .int .i64 r.Bx, .int .i64 r.By, .int .i64 r.Low, .int .i64 r.High, .slice A6 r.Noise.length c6, .slice A7 r.Limits.length c7] 28)).alloc (.cells #[.slice A n c] 26)).alloc (.cells #[.int .i64 s.X, .int .i64 s.Y, .int .i64 s.D] 30)) 68 #[.slice none 0 0, .slice none 0 0]
    simpa only [World.size_alloc] using q
  clear ha hFI hRL hn hr hI hle hs hw hnr hNI
  generalize trackR r ps s ws ns = TR at *
  obtain ⟨o1, ho1⟩ : ∃ o, hasSpot ps s = o := ⟨_, rfl⟩
  obtain ⟨o2, ho2⟩ : ∃ o, roomOk r = o := ⟨_, rfl⟩
  rw [ho1] at HHS HX HHp
  rw [ho2] at HRo HX HV
  clear ho1 ho2
  have cA := fun o => bA.cell o
  have cbM_1 := fun o => bM.cell o
  have cbP_2 := fun o => bP.cell o
  have cbS_3 := fun o => bS.cell o
  have cbA_4 := fun o => bA.cell o
  have fbA_4 := fun o => bA.frozen o
  go_enter Tryz.func25, Tryz.ntmps25
  by_cases h1 : (20 : Int) < (ws.length : Int)
  · have H := Lib.hid (HNo.out (by rw [HX.out]; rw [decide_eq_false (show ¬ ws.length ≤ 20 by omega)]; simp))
    go_wp2
    have bF := ((bA.set_ 0 (.slice none 0 0)).set_ 1 (.slice none 0 0))
    have cF := fun o => bF.cell o
    clear cA
    refine bodyPost_ret (v := .tuple #[.agg #[.slice none 0 0, .slice none 0 0], .bool false]) (by first | (simp [results, Tryz.results25, go_sem]; done) | simp [results, Tryz.results25, go_sem, cF]) rfl ?_
    first | (with_reducible exact TrackMade.no H.out rfl hx) | exact TrackMade.no H.out rfl ((ext_set2 hx (by omega) _ _))
  by_cases h2 : ns.length = 0
  · have H := Lib.hid (HNo.out (by rw [HX.out]; rw [decide_eq_true h2]; simp))
    go_wp2
    have bF := ((bA.set_ 0 (.slice none 0 0)).set_ 1 (.slice none 0 0))
    have cF := fun o => bF.cell o
    clear cA
    refine bodyPost_ret (v := .tuple #[.agg #[.slice none 0 0, .slice none 0 0], .bool false]) (by first | (simp [results, Tryz.results25, go_sem]; done) | simp [results, Tryz.results25, go_sem, cF]) rfl ?_
    first | (with_reducible exact TrackMade.no H.out rfl hx) | exact TrackMade.no H.out rfl ((ext_set2 hx (by omega) _ _))
  have h2i : ¬ (ns.length : Int) = 0 := by omega
  have h2b : ((ns.length : Int) == 0) = false := beq_false_of_ne h2i
  go_wp2_with fail
  refine (HHS.out _ (HR.out.ext hx)).mono ?_
  rintro e w1 ⟨rfl, hx1⟩
  replace hx := hx.trans hx1
  replace bM := bM.ext hx1
  replace bP := bP.ext hx1
  replace bS := bS.ext hx1
  replace bA := bA.ext hx1
  have cbM_5 := fun o => bM.cell o
  have cbP_6 := fun o => bP.cell o
  have cbS_7 := fun o => bS.cell o
  have cbA_8 := fun o => bA.cell o
  have fbA_8 := fun o => bA.frozen o
  cases o1
  · have H := Lib.hid (HNo.out (by rw [HX.out]; simp))
    go_wp2
    have bF := ((bA.set_ 0 (.slice none 0 0)).set_ 1 (.slice none 0 0))
    have cF := fun o => bF.cell o
    clear cA
    refine bodyPost_ret (v := .tuple #[.agg #[.slice none 0 0, .slice none 0 0], .bool false]) (by first | (simp [results, Tryz.results25, go_sem]; done) | simp [results, Tryz.results25, go_sem, cF]) rfl ?_
    first | (with_reducible exact TrackMade.no H.out rfl hx) | exact TrackMade.no H.out rfl ((ext_set2 hx (by omega) _ _))
  go_wp2_with fail
  refine (HRo.out _ (HA.out.ext hx).at_).mono ?_
  rintro e w2 ⟨rfl, hx2⟩
  replace hx := hx.trans hx2
  replace bM := bM.ext hx2
  replace bP := bP.ext hx2
  replace bS := bS.ext hx2
  replace bA := bA.ext hx2
  have cbM_9 := fun o => bM.cell o
  have cbP_10 := fun o => bP.cell o
  have cbS_11 := fun o => bS.cell o
  have cbA_12 := fun o => bA.cell o
  have fbA_12 := fun o => bA.frozen o
  cases o2
  · have H := Lib.hid (HNo.out (by rw [HX.out]; simp))
    go_wp2
    have bF := ((bA.set_ 0 (.slice none 0 0)).set_ 1 (.slice none 0 0))
    have cF := fun o => bF.cell o
    clear cA
    refine bodyPost_ret (v := .tuple #[.agg #[.slice none 0 0, .slice none 0 0], .bool false]) (by first | (simp [results, Tryz.results25, go_sem]; done) | simp [results, Tryz.results25, go_sem, cF]) rfl ?_
    first | (with_reducible exact TrackMade.no H.out rfl hx) | exact TrackMade.no H.out rfl ((ext_set2 hx (by omega) _ _))
  have HTR := Lib.hid (HYes.out (by rw [HX.out, decide_eq_true (show ws.length ≤ 20 by omega), decide_eq_false (show ¬ ns.length = 0 by omega)]; rfl))
  have hv := HV.out (by first | rfl | trivial)
  have hph := HHp.out (by first | rfl | trivial)
  have HSk := Lib.hid hph.2
  have HSt1 := Lib.hid (fun A3 n3 c3 E s t z w => HSt.out hv A3 n3 c3 E s t z w)
  have HRb1 := Lib.hid (fun w => HRb.out hv hph.1 w)
  clear hv hph
  have hs2 := bA.lt
  have b0 := Blk.new w2 30 #[.int .i64 s.X, .int .i64 s.Y, .int .i64 s.D]
  have ha2 := (Ext.refl w2).alloc (.cells #[.int .i64 s.X, .int .i64 s.Y, .int .i64 s.D] 30)
  replace hx := hx.trans ha2
  replace bM := bM.ext ha2
  replace bP := bP.ext ha2
  replace bS := bS.ext ha2
  replace bA := bA.ext ha2
  have cbM_13 := fun o => bM.cell o
  have cbP_14 := fun o => bP.cell o
  have cbS_15 := fun o => bS.cell o
  have cbA_16 := fun o => bA.cell o
  have fbA_16 := fun o => bA.frozen o
  have bT := Blk.new (w2.alloc (.cells #[.int .i64 s.X, .int .i64 s.Y, .int .i64 s.D] 30)) 68 #[.slice (some ⟨w2.heap.size, 0, none⟩) 1 1, .slice none 0 0]
  simp only [World.size_alloc] at bT
  have hq2 := (Ext.refl (w2.alloc (.cells #[.int .i64 s.X, .int .i64 s.Y, .int .i64 s.D] 30))).alloc (.cells #[.slice (some ⟨w2.heap.size, 0, none⟩) 1 1, .slice none 0 0] 68)
  have hsW : ((w2.alloc (.cells #[.int .i64 s.X, .int .i64 s.Y, .int .i64 s.D] 30)).alloc (.cells #[.slice (some ⟨w2.heap.size, 0, none⟩) 1 1, .slice none 0 0] 68)).heap.size = w2.heap.size + 2 := by simp only [World.size_alloc]
  replace hx := hx.trans hq2
  replace bM := bM.ext hq2
  replace bP := bP.ext hq2
  replace bS := bS.ext hq2
  replace bA := bA.ext hq2
  replace b0 := b0.ext hq2
  have cbM_17 := fun o => bM.cell o
  have cbP_18 := fun o => bP.cell o
  have cbS_19 := fun o => bS.cell o
  have cbA_20 := fun o => bA.cell o
  have fbA_20 := fun o => bA.frozen o
  have cb0_21 := fun o => b0.cell o
  have cbM_22 := fun o => bM.cell o
  have cbP_23 := fun o => bP.cell o
  have cbS_24 := fun o => bS.cell o
  have cbA_25 := fun o => bA.cell o
  have fbA_25 := fun o => bA.frozen o
  have cb0_26 := fun o => b0.cell o
  have cbT_27 := fun o => bT.cell o
  have fbT_27 := fun o => bT.frozen o
  by_cases h0 : ws.length = 0
  · have HT := Lib.hid (HTR.out.trans (trackAll_zero (by omega)))
    go_wp2
    have hne : w2.heap.size ≠ w.heap.size + 1 + 1 + 1 := by omega
    have bF := (bA.set_ 0 (.slice (some ⟨w2.heap.size, 0, none⟩) 1 1)).set_ 1 (.slice none 0 0)
    have bG := (b0.far (p := ⟨w.heap.size + 1 + 1 + 1, 0, none⟩) hne (.slice (some ⟨w2.heap.size, 0, none⟩) 1 1)).far (p := ⟨w.heap.size + 1 + 1 + 1, 1, none⟩) hne (.slice none 0 0)
    have cF := fun o => bF.cell o
    clear cA
    refine bodyPost_ret (v := .tuple #[.agg #[.slice (some ⟨w2.heap.size, 0, none⟩) 1 1, .slice none 0 0], .bool true]) (by first | (simp [results, Tryz.results25, go_sem]; done) | simp [results, Tryz.results25, go_sem, cF]) rfl ?_
    rw [HT.out]
    refine ⟨_, rfl, track_made (own_base (own_blk (n := 1) (s := 3) bG rfl (by unfold maxLen; omega)) (by omega)) (World.ownsRow_nil _ _ _ _) (fun g1 g2 _ h2 => by cases h2) (by simp only [World.size_setCell, World.size_alloc]; omega), ext_set2 hx (by omega) _ _⟩
  have h0i : ¬ (ws.length : Int) = 0 := by omega
  have h0b : ((ws.length : Int) == 0) = false := beq_false_of_ne h0i
  have HRR : Hid (robR ps r.Noise = ((erodeR ps r.Noise).1, (erodeR ps r.Noise).2 && !decide ((erodeR ps r.Noise).1 = []))) := rfl
  have HSp := Lib.hid (fun h1 h2 => trackAll_stop (r := r) (ps := ps) (s := s) (ws := ws) (ns := ns) h1 h2)
  generalize robR ps r.Noise = RR at *
  go_wp2_with fail
  refine (HRb1.out _ (HA.out.ext hx) (HR.out.ext hx)).mono ?_
  rintro e w3 ⟨A3, c3, n3, rfl, hn3, hx3, hown3⟩
  have hs3 := hx3.size
  rw [hsW] at hs3 hown3
  replace hx := hx.trans hx3
  replace bM := bM.ext hx3
  replace bP := bP.ext hx3
  replace bS := bS.ext hx3
  replace bA := bA.ext hx3
  replace b0 := b0.ext hx3
  replace bT := bT.ext hx3
  have cbM_28 := fun o => bM.cell o
  have cbP_29 := fun o => bP.cell o
  have cbS_30 := fun o => bS.cell o
  have cbA_31 := fun o => bA.cell o
  have fbA_31 := fun o => bA.frozen o
  have cb0_32 := fun o => b0.cell o
  have cbT_33 := fun o => bT.cell o
  have fbT_33 := fun o => bT.frozen o
  obtain ⟨E, ok⟩ := RR
  dsimp only at *
  subst hn3
  have bA2 := bA
  have hy2 := hx
  have bE := Blk.new w3 26 #[.slice A3 E.length c3]
  have mE := Mine.of_own hown3
  have ha3 := (Ext.refl w3).alloc (.cells #[.slice A3 E.length c3] 26)
  replace hx := hx.trans ha3
  replace bM := bM.ext ha3
  replace bP := bP.ext ha3
  replace bS := bS.ext ha3
  replace bA := bA.ext ha3
  replace b0 := b0.ext ha3
  replace bT := bT.ext ha3
  have cbM_34 := fun o => bM.cell o
  have cbP_35 := fun o => bP.cell o
  have cbS_36 := fun o => bS.cell o
  have cbA_37 := fun o => bA.cell o
  have fbA_37 := fun o => bA.frozen o
  have cb0_38 := fun o => b0.cell o
  have cbT_39 := fun o => bT.cell o
  have fbT_39 := fun o => bT.frozen o
  replace mE := mE.ext ha3
  clear hown3
  have cbM_40 := fun o => bM.cell o
  have cbP_41 := fun o => bP.cell o
  have cbS_42 := fun o => bS.cell o
  have cbA_43 := fun o => bA.cell o
  have fbA_43 := fun o => bA.frozen o
  have cb0_44 := fun o => b0.cell o
  have cbT_45 := fun o => bT.cell o
  have fbT_45 := fun o => bT.frozen o
  have cbE_46 := fun o => bE.cell o
  cases ok
  · have H := Lib.hid (HTR.out.trans (HSp.out (by omega) rfl))
    go_wp2
    have bF := ((bA.set_ 0 (.slice none 0 0)).set_ 1 (.slice none 0 0))
    have cF := fun o => bF.cell o
    clear cA
    refine bodyPost_ret (v := .tuple #[.agg #[.slice none 0 0, .slice none 0 0], .bool false]) (by first | (simp [results, Tryz.results25, go_sem]; done) | simp [results, Tryz.results25, go_sem, cF]) rfl ?_
    first | (with_reducible exact TrackMade.no H.out rfl hx) | exact TrackMade.no H.out rfl ((ext_set2 hx (by omega) _ _))
  have HEr : Hid (erodeR ps r.Noise = (E, true) ∧ E ≠ []) := by
    have e := HRR.out
    have e1 := congrArg Prod.fst e
    have e2 := congrArg Prod.snd e
    dsimp only at e1 e2
    have e3 := e2.symm
    rw [Bool.and_eq_true, ← e1] at e3
    refine ⟨Prod.ext e1.symm e3.1, fun h => ?_⟩
    rw [decide_eq_true h] at e3
    cases e3.2
  have HSt2 := Lib.hid (fun s t z w ha hr hs ht => HSt1.out A3 E.length c3 E s t z w ha rfl hr HEr.out.1 HEr.out.2 hs ht)
  obtain ⟨i0, hi0, hz0, hz1, hz2⟩ := info_parts spot_info
  obtain ⟨j0, hjj0, hy0, hy1, hy2_⟩ := info_parts ratio_info_
  have hgM : w3.heap.size + 1 ≤ (w3.alloc (.cells #[.slice A3 E.length c3] 26)).heap.size := by simp only [World.size_alloc]; omega
  have bS0 : Blk (w3.alloc (.cells #[.slice A3 E.length c3] 26)) (w.heap.size + 1 + 1) 30 #[.int .i64 ([s].getLastD s).X, .int .i64 ([s].getLastD s).Y, .int .i64 ([s].getLastD s).D] := bS
  have own0 := own_blk (n := 1) (s := 3) b0 rfl (by unfold maxLen; omega)
  clear bP bA2 hy2 h0 h0b h2b HRb1 HSt1 HHS HRo HV HX HNo HYes HHp HRR HSp b0
  go_wp2
  go_loopw [58] (fun i wr => ∃ (k : Nat) (T : Track) (A1 A2 : Option Addr) (c1 c2 : Nat), k ≤ ws.length ∧ i = .int .i64 k ∧ trackK r ps s ws ns k = some T ∧ spotOk (T.Spots.getLastD s) = true ∧ Ext w wr ∧ w3.heap.size + 1 ≤ wr.heap.size ∧ Blk wr w.heap.size 28 #[.slice A0 r.Map.length c0, .int .i64 r.Div, .int .i64 r.Bx, .int .i64 r.By, .int .i64 r.Low, .int .i64 r.High, .slice A6 r.Noise.length c6, .slice A7 r.Limits.length c7] ∧ Blk wr (w.heap.size + 1 + 1) 30 #[.int .i64 (T.Spots.getLastD s).X, .int .i64 (T.Spots.getLastD s).Y, .int .i64 (T.Spots.getLastD s).D] ∧ Blk wr (w.heap.size + 1 + 1 + 1) 68 #[.slice none 0 0, .slice none 0 0] ∧ Blk wr (w2.heap.size + 1) 68 #[.slice A1 (k + 1) c1, .slice A2 k c2] ∧ Blk wr w3.heap.size 26 #[.slice A3 E.length c3] ∧ wr.ownsRow w2.heap.size 30 3 (.slice A1 (k + 1) c1) (k + 1) (ints (flat Spot.ints T.Spots)) ∧ wr.ownsRow (w3.heap.size + 1) 44 2 (.slice A2 k c2) k (ints (flat Ratio.ints T.Inputs)) ∧ Mine wr (w2.heap.size + 2) w3.heap.size 120 3 (.slice A3 E.length c3) E.length (ints (flat Half.ints E)) ∧ (∀ g, (Value.slice A1 (k + 1) c1).ownBlock = some g → g = w2.heap.size ∨ w3.heap.size + 1 ≤ g) ∧ (∀ g, (Value.slice A1 (k + 1) c1).ownBlock = some g → (Value.slice A2 k c2).ownBlock ≠ some g)) (fun i _ => ws.length - (intOf i).toNat)
  case atStart => exact ⟨0, ⟨[s], []⟩, some ⟨w2.heap.size, 0, none⟩, none, 1, 0, Nat.zero_le _, rfl, rfl, HSk.out, hx, hgM, bM, bS0, bA, bT, bE, own0, World.ownsRow_nil _ _ _ _, mE, fun g hg => .inl (by cases hg; rfl), fun g _ h2 => by cases h2⟩
  case round =>
  clear bM bS bA bT bE own0 mE hx hgM bS0
  obtain ⟨k, T, A1, A2, c1, c2, hk, rfl, hT, hck, hx, hgM, bM, bS, bA, bT, bE, own1, own2, mE, hb1, hne⟩ := hrel
  have HT := Lib.hid hT
  have hlen := trackK_len k T hT
  clear hT
  by_cases hlt : k < ws.length
  rotate_left
  · obtain rfl : k = ws.length := by omega
    have H := Lib.hid (HTR.out.trans (trackAll_some HT.out))
    have cT := fun o => bT.cell o
    have cA := fun o => bA.cell o
    have fA := fun o => bA.frozen o
    go_wp2
    have bF := (bA.set_ 0 (.slice A1 (ws.length + 1) c1)).set_ 1 (.slice A2 ws.length c2)
    have cF := fun o => bF.cell o
    clear cA cT
    refine bodyPost_ret (v := .tuple #[.agg #[.slice A1 (ws.length + 1) c1, .slice A2 ws.length c2], .bool true]) (by first | (simp [results, Tryz.results25, go_sem]; done) | simp [results, Tryz.results25, go_sem, cF]) rfl ?_
    rw [H.out]
    have q1 := own_far (own_far own1 (p := ⟨w.heap.size + 1 + 1 + 1, 0, none⟩) (by show w.heap.size + 1 + 1 + 1 < w2.heap.size; omega) (.slice A1 (ws.length + 1) c1)) (p := ⟨w.heap.size + 1 + 1 + 1, 1, none⟩) (by show w.heap.size + 1 + 1 + 1 < w2.heap.size; omega) (.slice A2 ws.length c2)
    have q2 := own_far (own_far own2 (p := ⟨w.heap.size + 1 + 1 + 1, 0, none⟩) (by show w.heap.size + 1 + 1 + 1 < w3.heap.size + 1; omega) (.slice A1 (ws.length + 1) c1)) (p := ⟨w.heap.size + 1 + 1 + 1, 1, none⟩) (by show w.heap.size + 1 + 1 + 1 < w3.heap.size + 1; omega) (.slice A2 ws.length c2)
    refine ⟨_, rfl, ?_, ext_set2 hx (by omega) _ _⟩
    unfold TrackM
    dsimp only
    rw [hlen.1, hlen.2]
    exact track_made (own_base q1 (by omega)) (own_base q2 (by omega)) (fun g1 g2 e1 e2 e3 => hne g1 (by rw [e1]; rfl) (by rw [e2, e3]; rfl)) (by simp only [World.size_setCell]; omega)
  have hkl : k < ws.length := hlt
  obtain ⟨bw, ow, rfl, hbw, hw0⟩ := (HW.out.ext hx).int (k := k) hkl
  have hjl : k % ns.length < ns.length := Nat.mod_lt _ (by omega)
  obtain ⟨bn, on, rfl, hbn, t0, t1, t2⟩ := (HNr.out.ext hx).Spot (k := k % ns.length) hjl
  have HStep := Lib.hid (trackK_step HT.out)
  have hti := HNI.out _ (List.getElem_mem hjl)
  have hrem : Int.tmod (k : Int) (ns.length : Int) = ((k % ns.length : Nat) : Int) := rfl
  rw [List.getD_eq_getElem?_getD, List.getElem?_eq_getElem hkl, List.getD_eq_getElem?_getD, List.getElem?_eq_getElem hjl] at HStep
  dsimp only [Option.getD_some] at HStep
  obtain ⟨t, ht_⟩ : ∃ t, ns[k % ns.length]'hjl = t := ⟨_, rfl⟩
  obtain ⟨z, hz_⟩ : ∃ z, ws[k]'hkl = z := ⟨_, rfl⟩
  rw [ht_] at t0 t1 t2 HStep hti
  rw [hz_] at hw0 HStep
  clear ht_ hz_
  obtain ⟨cur, hcur_⟩ : ∃ c, T.Spots.getLastD s = c := ⟨_, rfl⟩
  rw [hcur_] at bS HStep hck
  clear hcur_
  generalize k % ns.length = j at *
  have HNn := Lib.hid (fun h => trackAll_none (r := r) (ps := ps) (s := s) (ws := ws) (ns := ns) (k := k + 1) h (by omega))
  have HCs := Lib.hid (fun w ha hr => HSt2.out cur t z w ha hr (spot_I hck) hti)
  have HSk2 := Lib.hid (fun x h => stepR_ok (r := r) (ps := ps) (s := cur) (t := t) (n := z) (x := x) h)
  obtain ⟨x1, x2, x3, u1, u2, ok, hV, hf, htr⟩ := stepV_form (stepR r ps cur z t)
  generalize stepR r ps cur z t = X at *
  unfold StepMade at HCs
  rw [hV] at HCs
  have Hf := Lib.hid hf
  have Htr := Lib.hid htr
  clear hV hf htr hti hck
  have hremw : IntKind.i64.wrap ((k : Int).tmod (ns.length : Int)) = (j : Int) := by rw [hrem]; exact IntWalk.i64_in _ (by omega)
  have hj0 : (0 : Int) ≤ (j : Int) := by omega
  have hj1 : (j : Int) < (ns.length : Int) := by omega
  have cM := fun o => bM.cell o
  have cS := fun o => bS.cell o
  have cE := fun o => bE.cell o
  go_upto_region 12 with fail
  go_cut [17, 18, 19] from 64 to 78 (fun p q o wx => SpotRat [.int .i64 x1, .int .i64 x2, .int .i64 x3] [.int .i64 u1, .int .i64 u2] wr p q wx ∧ o = .bool ok)
  case first =>
    have hcur := Ext.refl wr
    have lM := bM.lt
    have lS := bS.lt
    have lE := bE.lt
    have nM := Nat.ne_of_lt lM
    have nM' := (Nat.ne_of_lt lM).symm
    have nS := Nat.ne_of_lt lS
    have nS' := (Nat.ne_of_lt lS).symm
    have nE := Nat.ne_of_lt lE
    have nE' := (Nat.ne_of_lt lE).symm
    have nB := Nat.ne_of_lt hbn
    have nB' := (Nat.ne_of_lt hbn).symm
    have mM := Nat.ne_of_lt (Nat.lt_succ_of_lt lM)
    have mM' := (Nat.ne_of_lt (Nat.lt_succ_of_lt lM)).symm
    have mS := Nat.ne_of_lt (Nat.lt_succ_of_lt lS)
    have mS' := (Nat.ne_of_lt (Nat.lt_succ_of_lt lS)).symm
    have kS : w.heap.size + 1 ≠ wr.heap.size := by omega
    have kS' : wr.heap.size ≠ w.heap.size + 1 := by omega
    have mE_ := Nat.ne_of_lt (Nat.lt_succ_of_lt lE)
    have mE_' := (Nat.ne_of_lt (Nat.lt_succ_of_lt lE)).symm
    have mB := Nat.ne_of_lt (Nat.lt_succ_of_lt hbn)
    have mB' := (Nat.ne_of_lt (Nat.lt_succ_of_lt hbn)).symm
    go_region_held3 (fun w' => w'.cell? ⟨w.heap.size, 0, none⟩ = some (.slice A0 r.Map.length c0) ∧ w'.cell? ⟨w.heap.size, 1, none⟩ = some (.int .i64 r.Div) ∧ w'.cell? ⟨w.heap.size, 2, none⟩ = some (.int .i64 r.Bx) ∧ w'.cell? ⟨w.heap.size, 3, none⟩ = some (.int .i64 r.By) ∧ w'.cell? ⟨w.heap.size, 4, none⟩ = some (.int .i64 r.Low) ∧ w'.cell? ⟨w.heap.size, 5, none⟩ = some (.int .i64 r.High) ∧ w'.cell? ⟨w.heap.size, 6, none⟩ = some (.slice A6 r.Noise.length c6) ∧ w'.cell? ⟨w.heap.size, 7, none⟩ = some (.slice A7 r.Limits.length c7) ∧ w'.cell? ⟨w3.heap.size, 0, none⟩ = some (.slice A3 E.length c3) ∧ w'.cell? ⟨w.heap.size + 1 + 1, 0, none⟩ = some (.int .i64 cur.X) ∧ w'.cell? ⟨w.heap.size + 1 + 1, 1, none⟩ = some (.int .i64 cur.Y) ∧ w'.cell? ⟨w.heap.size + 1 + 1, 2, none⟩ = some (.int .i64 cur.D) ∧ w'.cell? ⟨bn, on + j * 3, none⟩ = some (.int .i64 t.X) ∧ w'.cell? ⟨bn, on + j * 3 + 1, none⟩ = some (.int .i64 t.Y) ∧ w'.cell? ⟨bn, on + j * 3 + 2, none⟩ = some (.int .i64 t.D))
      (go_keep)
      (first | (go_at_call 64; (with_reducible refine (HCs.out _ (HA.out.ext (hx.trans (by first | exact hcur | exact hcur.drew | exact hcur.alloc _ | exact hcur.drew.alloc _ | exact (hcur.alloc _).drew | exact ((hcur.alloc _).alloc _).drew | exact (hcur.alloc _).alloc _ | exact (hcur.drew.alloc _).alloc _))) (mE.ext (by first | exact hcur | exact hcur.drew | exact hcur.alloc _ | exact hcur.drew.alloc _ | exact (hcur.alloc _).drew | exact ((hcur.alloc _).alloc _).drew | exact (hcur.alloc _).alloc _ | exact (hcur.drew.alloc _).alloc _)).row).mono ?_); rintro e w9 ⟨rfl, hx9⟩; (first | have hx8 := (Ext.refl _).drew.trans hx9 | have hx8 := hx9); replace hcur := Ext.trans (by first | exact hcur | exact hcur.drew | exact hcur.alloc _ | exact hcur.drew.alloc _ | exact (hcur.alloc _).drew | exact ((hcur.alloc _).alloc _).drew | exact (hcur.alloc _).alloc _ | exact (hcur.drew.alloc _).alloc _) hx9; have cM9 := fun o => (bM.ext hcur).cell o; have cS9 := fun o => (bS.ext hcur).cell o; have cE9 := fun o => (bE.ext hcur).cell o; have t09 := hcur.cellOf t0; have t19 := hcur.cellOf t1; have t29 := hcur.cellOf t2; have s9 := hcur.size; have kS9 : w.heap.size + 1 ≠ w9.heap.size := (by omega); have kS9' : w9.heap.size ≠ w.heap.size + 1 := (by omega); have nM9 := Nat.ne_of_lt (bM.ext hcur).lt; have nM9' := (Nat.ne_of_lt (bM.ext hcur).lt).symm; have nM8 := Nat.ne_of_lt (Nat.lt_succ_of_lt (bM.ext hcur).lt); have nM8' := (Nat.ne_of_lt (Nat.lt_succ_of_lt (bM.ext hcur).lt)).symm; have nS9 := Nat.ne_of_lt (bS.ext hcur).lt; have nS9' := (Nat.ne_of_lt (bS.ext hcur).lt).symm; have nS8 := Nat.ne_of_lt (Nat.lt_succ_of_lt (bS.ext hcur).lt); have nS8' := (Nat.ne_of_lt (Nat.lt_succ_of_lt (bS.ext hcur).lt)).symm; have nE9 := Nat.ne_of_lt (bE.ext hcur).lt; have nE9' := (Nat.ne_of_lt (bE.ext hcur).lt).symm; have nE8 := Nat.ne_of_lt (Nat.lt_succ_of_lt (bE.ext hcur).lt); have nE8' := (Nat.ne_of_lt (Nat.lt_succ_of_lt (bE.ext hcur).lt)).symm; have nB9 := Nat.ne_of_lt (Nat.lt_of_lt_of_le hbn hcur.size); have nB9' := (Nat.ne_of_lt (Nat.lt_of_lt_of_le hbn hcur.size)).symm; have nB8 := Nat.ne_of_lt (Nat.lt_succ_of_lt (Nat.lt_of_lt_of_le hbn hcur.size)); have nB8' := (Nat.ne_of_lt (Nat.lt_succ_of_lt (Nat.lt_of_lt_of_le hbn hcur.size))).symm; (first | (have gA := Blk.ext ((Blk.new _ 30 #[.int .i64 0, .int .i64 0, .int .i64 0]).alloc (.cells #[.int .i64 0, .int .i64 0] 44)) hx8; have gB := Blk.ext (blk_new1 _ _ 44 #[.int .i64 0, .int .i64 0]) hx8; have gAc := fun o => gA.cell o; have gAf := fun o => gA.frozen o; have lA := gA.lt; have nA := Nat.ne_of_lt gA.lt; have nA' := (Nat.ne_of_lt gA.lt).symm; have gBc := fun o => gB.cell o; have gBf := fun o => gB.frozen o; have lB := gB.lt; have nB2 := Nat.ne_of_lt gB.lt; have nB2' := (Nat.ne_of_lt gB.lt).symm) | (have gB := Blk.ext ((Blk.new _ 44 #[.int .i64 0, .int .i64 0]).alloc (.cells #[.int .i64 0, .int .i64 0, .int .i64 0] 30)) hx8; have gA := Blk.ext (blk_new1 _ _ 30 #[.int .i64 0, .int .i64 0, .int .i64 0]) hx8; have gAc := fun o => gA.cell o; have gAf := fun o => gA.frozen o; have lA := gA.lt; have nA := Nat.ne_of_lt gA.lt; have nA' := (Nat.ne_of_lt gA.lt).symm; have gBc := fun o => gB.cell o; have gBf := fun o => gB.frozen o; have lB := gB.lt; have nB2 := Nat.ne_of_lt gB.lt; have nB2' := (Nat.ne_of_lt gB.lt).symm) | (have gA := Blk.ext (Blk.new _ 30 #[.int .i64 0, .int .i64 0, .int .i64 0]) hx8; have gAc := fun o => gA.cell o; have gAf := fun o => gA.frozen o; have lA := gA.lt; have nA := Nat.ne_of_lt gA.lt; have nA' := (Nat.ne_of_lt gA.lt).symm) | (have gB := Blk.ext (Blk.new _ 44 #[.int .i64 0, .int .i64 0]) hx8; have gBc := fun o => gB.cell o; have gBf := fun o => gB.frozen o; have lB := gB.lt; have nB2 := Nat.ne_of_lt gB.lt; have nB2' := (Nat.ne_of_lt gB.lt).symm) | skip)))
    all_goals
      go_wp2_with fail
      go_meet
      case rel => exact ⟨by first | (with_reducible exact SpotRat.ab hcur) | (with_reducible exact SpotRat.ba hcur) | (with_reducible exact SpotRat.a hcur (by omega) lA gA) | (with_reducible exact SpotRat.b hcur (by omega) lB gB) | (with_reducible exact SpotRat.two hcur (by omega) (by omega) (by omega) gA gB), rfl⟩
  case rest =>
  clear cM cS cE
  obtain ⟨⟨b1, b2, rfl, rfl, hv1, hv2, h12, hxC, bN, bU⟩, rfl⟩ := hcut
  replace bN : Blk wc b1 30 #[.int .i64 x1, .int .i64 x2, .int .i64 x3] := bN
  replace bU : Blk wc b2 44 #[.int .i64 u1, .int .i64 u2] := bU
  have hl1 : ∀ g, (Value.slice A1 (k + 1) c1).ownBlock = some g → g < wr.heap.size := fun g hg => (own_lt own1 hg).2
  have hl2 : ∀ g, (Value.slice A2 k c2).ownBlock = some g → w3.heap.size + 1 ≤ g ∧ g < wr.heap.size := fun g hg => own_lt own2 hg
  have hsC := hxC.size
  replace hx := hx.trans hxC
  replace bM := bM.ext hxC
  replace bS := bS.ext hxC
  replace bA := bA.ext hxC
  replace bT := bT.ext hxC
  replace bE := bE.ext hxC
  replace own1 := own_ext own1 hxC
  replace own2 := own_ext own2 hxC
  replace mE := mE.ext hxC
  cases ok
  · have H := Lib.hid (HTR.out.trans (HNn.out (HStep.out.trans (by rw [Hf.out rfl]))))
    have cA := fun o => bA.cell o
    have fA := fun o => bA.frozen o
    go_wp2
    have bF := (bA.set_ 0 (.slice none 0 0)).set_ 1 (.slice none 0 0)
    have cF := fun o => bF.cell o
    clear cA
    refine bodyPost_ret (v := .tuple #[.agg #[.slice none 0 0, .slice none 0 0], .bool false]) (by first | (simp [results, Tryz.results25, go_sem]; done) | simp [results, Tryz.results25, go_sem, cF]) rfl ?_
    exact TrackMade.no H.out rfl (ext_set2 hx (by omega) _ _)
  have HX1 := Htr.out rfl
  have HK1 : Hid (trackK r ps s ws ns (k + 1) = some ⟨T.Spots ++ [⟨x1, x2, x3⟩], T.Inputs ++ [⟨u1, u2⟩]⟩) := HStep.out.trans (by rw [HX1])
  have hck2 : spotOk ⟨x1, x2, x3⟩ = true := (HSk2.out _ HX1).1
  have hlast : (T.Spots ++ [(⟨x1, x2, x3⟩ : Spot)]).getLastD s = ⟨x1, x2, x3⟩ := by simp
  have hnewS := Blk.new wc 30 #[.int .i64 x1, .int .i64 x2, .int .i64 x3]
  have hccS : ∀ j u, (ints (Spot.ints ⟨x1, x2, x3⟩))[j]? = some u → (wc.alloc (.cells #[.int .i64 x1, .int .i64 x2, .int .i64 x3] 30)).cell? ((⟨wc.heap.size, 0, none⟩ : Addr).add j) = some u := fun j u hj => by
    rw [show ((⟨wc.heap.size, 0, none⟩ : Addr).add j) = ⟨wc.heap.size, 0 + j, none⟩ from by unfold Addr.add; split <;> simp_all, Nat.zero_add, hnewS.cell]
    simpa [ints, Spot.ints] using hj
  clear hnewS HX1 hremw hrem
  have cT := fun o => bT.cell o
  have fT := fun o => bT.frozen o
  have cN := fun o => bN.cell o
  have hk20 : k < 20 := by omega
  go_wp2_with (first | (at_builtin; (refine wpList_append_own_at _ rfl _ _ 52 rfl w2.heap.size 30 i0 (.agg #[.int .i64 0, .int .i64 0, .int .i64 0]) 3 24 Tryz.underlying52 hi0 hz0 hz1 hz2 rfl (by decide) _ _ _ rfl (own1.alloc _) ⟨wc.heap.size, 0, none⟩ 1 1 (ints (Spot.ints ⟨x1, x2, x3⟩)) rfl rfl hccS (oneCell_ints _) (by unfold maxLen; omega) (by omega) (by simp; omega) ?_); intro v' w6 own1G hgrow _ hat; obtain ⟨A1', c1', rfl⟩ := own_form own1G; have hgs := hgrow.size; simp only [World.size_alloc] at hgs hat; have bMG := (bM.alloc (.cells #[.int .i64 x1, .int .i64 x2, .int .i64 x3] 30)).grown hgrow (fun e => by have q1 := hb1 _ e; have q2 := hl1 _ e; omega); have bSG := (bS.alloc (.cells #[.int .i64 x1, .int .i64 x2, .int .i64 x3] 30)).grown hgrow (fun e => by have q1 := hb1 _ e; have q2 := hl1 _ e; omega); have bAG := (bA.alloc (.cells #[.int .i64 x1, .int .i64 x2, .int .i64 x3] 30)).grown hgrow (fun e => by have q1 := hb1 _ e; have q2 := hl1 _ e; omega); have bTG := (bT.alloc (.cells #[.int .i64 x1, .int .i64 x2, .int .i64 x3] 30)).grown hgrow (fun e => by have q1 := hb1 _ e; have q2 := hl1 _ e; omega); have bEG := (bE.alloc (.cells #[.int .i64 x1, .int .i64 x2, .int .i64 x3] 30)).grown hgrow (fun e => by have q1 := hb1 _ e; have q2 := hl1 _ e; omega); have bNG := (bN.alloc (.cells #[.int .i64 x1, .int .i64 x2, .int .i64 x3] 30)).grown hgrow (fun e => by have q1 := hb1 _ e; have q2 := hl1 _ e; omega); have bUG := (bU.alloc (.cells #[.int .i64 x1, .int .i64 x2, .int .i64 x3] 30)).grown hgrow (fun e => by have q1 := hb1 _ e; have q2 := hl1 _ e; omega); have own2G := own_only (own2.alloc (.cells #[.int .i64 x1, .int .i64 x2, .int .i64 x3] 30)) hgrow (fun g hg => hne g hg); have mEG := (mE.alloc (.cells #[.int .i64 x1, .int .i64 x2, .int .i64 x3] 30)).grown hgrow (fun g hg => by have q1 := hb1 _ hg; omega); have hxG : Ext w w6 := (hx.alloc (.cells #[.int .i64 x1, .int .i64 x2, .int .i64 x3] 30)).grown hgrow (fun g hg => by have q1 := hb1 _ hg; omega); have hb1G : ∀ g, (Value.slice A1' (k + 1 + 1) c1').ownBlock = some g → (g = w2.heap.size ∨ w3.heap.size + 1 ≤ g) ∧ (Value.slice A2 k c2).ownBlock ≠ some g := (fun g hg => by rcases hat with h | h <;> rw [h] at hg; exact ⟨hb1 g hg, hne g hg⟩; (injection hg with hg; subst hg; exact ⟨.inr (by omega), fun q => by have := hl2 _ q; omega⟩)); have bTH : Blk (w6.setCell ⟨w2.heap.size + 1, 0, none⟩ (.slice A1' (k + 1 + 1) c1')) (w2.heap.size + 1) 68 #[.slice A1' (k + 1 + 1) c1', .slice A2 k c2] := bTG.set_ 0 (.slice A1' (k + 1 + 1) c1'); have bMH := bMG.far (p := ⟨w2.heap.size + 1, 0, none⟩) (show w.heap.size ≠ w2.heap.size + 1 by omega) (.slice A1' (k + 1 + 1) c1'); have bSH := bSG.far (p := ⟨w2.heap.size + 1, 0, none⟩) (show w.heap.size + 1 + 1 ≠ w2.heap.size + 1 by omega) (.slice A1' (k + 1 + 1) c1'); have bAH := bAG.far (p := ⟨w2.heap.size + 1, 0, none⟩) (show w.heap.size + 1 + 1 + 1 ≠ w2.heap.size + 1 by omega) (.slice A1' (k + 1 + 1) c1'); have bEH := bEG.far (p := ⟨w2.heap.size + 1, 0, none⟩) (show w3.heap.size ≠ w2.heap.size + 1 by omega) (.slice A1' (k + 1 + 1) c1'); have bNH := bNG.far (p := ⟨w2.heap.size + 1, 0, none⟩) (show b1 ≠ w2.heap.size + 1 by omega) (.slice A1' (k + 1 + 1) c1'); have bUH := bUG.far (p := ⟨w2.heap.size + 1, 0, none⟩) (show b2 ≠ w2.heap.size + 1 by omega) (.slice A1' (k + 1 + 1) c1'); have own1H := own_past own1G (p := ⟨w2.heap.size + 1, 0, none⟩) (fun e => by have q := (hb1G _ e).1; simp only at q; omega) (.slice A1' (k + 1 + 1) c1'); have own2H := own_past own2G (p := ⟨w2.heap.size + 1, 0, none⟩) (fun e => by have q := hl2 _ e; simp only at q; omega) (.slice A1' (k + 1 + 1) c1'); have mEH := mEG.setB (p := ⟨w2.heap.size + 1, 0, none⟩) (.inl (show w2.heap.size + 1 < w2.heap.size + 2 by omega)) (.slice A1' (k + 1 + 1) c1'); have hxH := hxG.setCell (p := ⟨w2.heap.size + 1, 0, none⟩) (show w.heap.size ≤ w2.heap.size + 1 by omega) (.slice A1' (k + 1 + 1) c1'); have hnewU := Blk.new (w6.setCell ⟨w2.heap.size + 1, 0, none⟩ (.slice A1' (k + 1 + 1) c1')) 44 #[.int .i64 u1, .int .i64 u2]; have hccU : ∀ j u, (ints (Ratio.ints ⟨u1, u2⟩))[j]? = some u → ((w6.setCell ⟨w2.heap.size + 1, 0, none⟩ (.slice A1' (k + 1 + 1) c1')).alloc (.cells #[.int .i64 u1, .int .i64 u2] 44)).cell? ((⟨w6.heap.size, 0, none⟩ : Addr).add j) = some u := (fun j u hj => by rw [show ((⟨w6.heap.size, 0, none⟩ : Addr).add j) = ⟨w6.heap.size, 0 + j, none⟩ from by unfold Addr.add; split <;> simp_all, Nat.zero_add]; rw [World.size_setCell] at hnewU; rw [hnewU.cell]; simpa [ints, Ratio.ints] using hj); have cTH := fun o => bTH.cell o; have fTH := fun o => bTH.frozen o; have cUH := fun o => bUH.cell o; have cTG := fun o => bTG.cell o; have fTG := fun o => bTG.frozen o; have cUG := fun o => bUG.cell o) | (at_builtin; go_must (refine wpList_append_own_at _ rfl _ _ 66 rfl (w3.heap.size + 1) 44 j0 (.agg #[.int .i64 0, .int .i64 0]) 2 16 Tryz.underlying66 hjj0 hy0 hy1 hy2_ rfl (by decide) _ _ _ rfl (own2H.alloc _) ⟨w6.heap.size, 0, none⟩ 1 1 (ints (Ratio.ints ⟨u1, u2⟩)) rfl rfl hccU (oneCell_ints _) (by unfold maxLen; omega) (by omega) (by simp; omega) ?_); intro v2 w8 own2K hgrow2 _ hat2; obtain ⟨A2', c2', rfl⟩ := own_form own2K; have hgs2 := hgrow2.size; simp only [World.size_alloc, World.size_setCell] at hgs2 hat2; have bMK := (bMH.alloc (.cells #[.int .i64 u1, .int .i64 u2] 44)).grown hgrow2 (fun e => by have q2 := hl2 _ e; omega); have bSK := (bSH.alloc (.cells #[.int .i64 u1, .int .i64 u2] 44)).grown hgrow2 (fun e => by have q2 := hl2 _ e; omega); have bAK := (bAH.alloc (.cells #[.int .i64 u1, .int .i64 u2] 44)).grown hgrow2 (fun e => by have q2 := hl2 _ e; omega); have bTK := (bTH.alloc (.cells #[.int .i64 u1, .int .i64 u2] 44)).grown hgrow2 (fun e => by have q2 := hl2 _ e; omega); have bEK := (bEH.alloc (.cells #[.int .i64 u1, .int .i64 u2] 44)).grown hgrow2 (fun e => by have q2 := hl2 _ e; omega); have bNK := (bNH.alloc (.cells #[.int .i64 u1, .int .i64 u2] 44)).grown hgrow2 (fun e => by have q2 := hl2 _ e; omega); have bUK := (bUH.alloc (.cells #[.int .i64 u1, .int .i64 u2] 44)).grown hgrow2 (fun e => by have q2 := hl2 _ e; omega); have own1K := own_only (own1H.alloc (.cells #[.int .i64 u1, .int .i64 u2] 44)) hgrow2 (fun g hg q => (hb1G _ q).2 hg); have mEK := (mEH.alloc (.cells #[.int .i64 u1, .int .i64 u2] 44)).grown hgrow2 (fun g hg => by have q1 := hl2 _ hg; omega); have hxK : Ext w w8 := (hxH.alloc (.cells #[.int .i64 u1, .int .i64 u2] 44)).grown hgrow2 (fun g hg => by have q1 := hl2 _ hg; omega); have hl1G : ∀ g, (Value.slice A1' (k + 1 + 1) c1').ownBlock = some g → g < w6.heap.size := (fun g hg => (own_lt own1G hg).2); have hb2K : ∀ g, (Value.slice A2' (k + 1) c2').ownBlock = some g → w3.heap.size + 1 ≤ g ∧ (Value.slice A1' (k + 1 + 1) c1').ownBlock ≠ some g := (fun g hg => by rcases hat2 with h | h <;> rw [h] at hg; exact ⟨(hl2 g hg).1, fun q => (hb1G g q).2 hg⟩; (injection hg with hg; subst hg; exact ⟨by omega, fun q => by have := hl1G _ q; omega⟩)); have bTL : Blk (w8.setCell ⟨w2.heap.size + 1, 1, none⟩ (.slice A2' (k + 1) c2')) (w2.heap.size + 1) 68 #[.slice A1' (k + 1 + 1) c1', .slice A2' (k + 1) c2'] := bTK.set_ 1 (.slice A2' (k + 1) c2'); have bML := bMK.far (p := ⟨w2.heap.size + 1, 1, none⟩) (show w.heap.size ≠ w2.heap.size + 1 by omega) (.slice A2' (k + 1) c2'); have bSL := bSK.far (p := ⟨w2.heap.size + 1, 1, none⟩) (show w.heap.size + 1 + 1 ≠ w2.heap.size + 1 by omega) (.slice A2' (k + 1) c2'); have bAL := bAK.far (p := ⟨w2.heap.size + 1, 1, none⟩) (show w.heap.size + 1 + 1 + 1 ≠ w2.heap.size + 1 by omega) (.slice A2' (k + 1) c2'); have bEL := bEK.far (p := ⟨w2.heap.size + 1, 1, none⟩) (show w3.heap.size ≠ w2.heap.size + 1 by omega) (.slice A2' (k + 1) c2'); have bNL := bNK.far (p := ⟨w2.heap.size + 1, 1, none⟩) (show b1 ≠ w2.heap.size + 1 by omega) (.slice A2' (k + 1) c2'); have bUL := bUK.far (p := ⟨w2.heap.size + 1, 1, none⟩) (show b2 ≠ w2.heap.size + 1 by omega) (.slice A2' (k + 1) c2'); have own1L := own_past own1K (p := ⟨w2.heap.size + 1, 1, none⟩) (fun e => by have q := (hb1G _ e).1; simp only at q; omega) (.slice A2' (k + 1) c2'); have own2L := own_past own2K (p := ⟨w2.heap.size + 1, 1, none⟩) (fun e => by have q := hb2K _ e; simp only at q; omega) (.slice A2' (k + 1) c2'); have mEL := mEK.setB (p := ⟨w2.heap.size + 1, 1, none⟩) (.inl (show w2.heap.size + 1 < w2.heap.size + 2 by omega)) (.slice A2' (k + 1) c2'); have hxL := hxK.setCell (p := ⟨w2.heap.size + 1, 1, none⟩) (show w.heap.size ≤ w2.heap.size + 1 by omega) (.slice A2' (k + 1) c2'); have cNL := fun o => bNL.cell o; have cSL := fun o => bSL.cell o; have fSL := fun o => bSL.frozen o; have cTK := fun o => bTK.cell o; have fTK := fun o => bTK.frozen o))
  have eSF := (((bSL).set_ 0 (.int .i64 x1)).set_ 1 (.int .i64 x2)).set_ 2 (.int .i64 x3)
  have hbMN : w.heap.size ≠ w.heap.size + 1 + 1 := by omega
  have bMF := (((bML).far (p := ⟨w.heap.size + 1 + 1, 0, none⟩) hbMN (.int .i64 x1)).far (p := ⟨w.heap.size + 1 + 1, 1, none⟩) hbMN (.int .i64 x2)).far (p := ⟨w.heap.size + 1 + 1, 2, none⟩) hbMN (.int .i64 x3)
  have hbAN : w.heap.size + 1 + 1 + 1 ≠ w.heap.size + 1 + 1 := by omega
  have bAF := (((bAL).far (p := ⟨w.heap.size + 1 + 1, 0, none⟩) hbAN (.int .i64 x1)).far (p := ⟨w.heap.size + 1 + 1, 1, none⟩) hbAN (.int .i64 x2)).far (p := ⟨w.heap.size + 1 + 1, 2, none⟩) hbAN (.int .i64 x3)
  have hbTN : w2.heap.size + 1 ≠ w.heap.size + 1 + 1 := by omega
  have bTF := (((bTL).far (p := ⟨w.heap.size + 1 + 1, 0, none⟩) hbTN (.int .i64 x1)).far (p := ⟨w.heap.size + 1 + 1, 1, none⟩) hbTN (.int .i64 x2)).far (p := ⟨w.heap.size + 1 + 1, 2, none⟩) hbTN (.int .i64 x3)
  have hbEN : w3.heap.size ≠ w.heap.size + 1 + 1 := by omega
  have bEF := (((bEL).far (p := ⟨w.heap.size + 1 + 1, 0, none⟩) hbEN (.int .i64 x1)).far (p := ⟨w.heap.size + 1 + 1, 1, none⟩) hbEN (.int .i64 x2)).far (p := ⟨w.heap.size + 1 + 1, 2, none⟩) hbEN (.int .i64 x3)
  have own1F := own_past (own_past (own_past (own1L) (p := ⟨w.heap.size + 1 + 1, 0, none⟩) (fun e => by have q := (hb1G _ e).1; simp only at q; omega) (.int .i64 x1)) (p := ⟨w.heap.size + 1 + 1, 1, none⟩) (fun e => by have q := (hb1G _ e).1; simp only at q; omega) (.int .i64 x2)) (p := ⟨w.heap.size + 1 + 1, 2, none⟩) (fun e => by have q := (hb1G _ e).1; simp only at q; omega) (.int .i64 x3)
  have own2F := own_past (own_past (own_past (own2L) (p := ⟨w.heap.size + 1 + 1, 0, none⟩) (fun e => by have q := hb2K _ e; simp only at q; omega) (.int .i64 x1)) (p := ⟨w.heap.size + 1 + 1, 1, none⟩) (fun e => by have q := hb2K _ e; simp only at q; omega) (.int .i64 x2)) (p := ⟨w.heap.size + 1 + 1, 2, none⟩) (fun e => by have q := hb2K _ e; simp only at q; omega) (.int .i64 x3)
  have mEF := (((mEL).setB (p := ⟨w.heap.size + 1 + 1, 0, none⟩) (.inl (show w.heap.size + 1 + 1 < w2.heap.size + 2 by omega)) (.int .i64 x1)).setB (p := ⟨w.heap.size + 1 + 1, 1, none⟩) (.inl (show w.heap.size + 1 + 1 < w2.heap.size + 2 by omega)) (.int .i64 x2)).setB (p := ⟨w.heap.size + 1 + 1, 2, none⟩) (.inl (show w.heap.size + 1 + 1 < w2.heap.size + 2 by omega)) (.int .i64 x3)
  have hxF := ext_tri hxL (g := w.heap.size + 1 + 1) (by omega) (.int .i64 x1) (.int .i64 x2) (.int .i64 x3)
  go_roundw
  case rel =>
    refine ⟨k + 1, ⟨T.Spots ++ [⟨x1, x2, x3⟩], T.Inputs ++ [⟨u1, u2⟩]⟩, A1', A2', c1', c2', by omega, by go_num, HK1.out, by dsimp only; rw [hlast]; exact hck2, hxF, by simp only [World.size_setCell]; omega, bMF, by dsimp only; rw [hlast]; exact eSF, bAF, bTF, bEF, ?_, ?_, mEF, fun g hg => (hb1G g hg).1, fun g hg q => (hb2K g q).2 hg⟩
    · dsimp only
      rw [spots_add]
      exact own1F
    · dsimp only
      rw [ratios_add]
      exact own2F
  case measure => simp [intOf]; omega

end Go.Proofs.YtjghabbcjpfjeaaGreatDoor
/- Plain words: a step of the loop from a state with a good input leads into the region again, for every corner of the disturbance; the input is one of the room. -/
namespace Go.Proofs.YtjghabbcjpfjeaaGreatDoor
set_option linter.unusedVariables false

theorem pick_in {w : Span} (h : spanOk w = true) (n : Int) : rle w.Low (pickInput w n) ∧ rle (pickInput w n) w.High := by
  have hk := h
  unfold spanOk at hk
  simp only [Bool.and_eq_true, decide_eq_true_eq] at hk
  obtain ⟨⟨hl, hh⟩, hlh⟩ := hk
  have hc := clampI_bd (-1000) 1000 n (by omega)
  have ho : ratioOk ⟨clampI (-1000) 1000 n, 1⟩ = true := ratioOk_one (by omega) (by omega)
  have cb := ratioCeil_bd w.Low
  have fb := ratioFloor_bd w.High
  have hoc : ratioOk ⟨ratioCeil w.Low, 1⟩ = true := ratioOk_one (by omega) (by omega)
  have hof : ratioOk ⟨ratioFloor w.High, 1⟩ = true := ratioOk_one (by omega) (by omega)
  have hLH : rle w.Low w.High := (cmp_le hl hh).1 hlh
  unfold pickInput
  rw [if_pos h]
  split
  · split
    · rename_i h2
      refine ⟨?_, (cmp_le hoc hh).1 h2⟩
      have := (ceil_le hl (n := ratioCeil w.Low)).1 (Int.le_refl _)
      unfold rle
      simp only
      omega
    · exact ⟨rle_refl _, hLH⟩
  · rename_i h1
    split
    · split
      · rename_i h3
        refine ⟨(cmp_ge hof hl).1 h3, ?_⟩
        have := (floor_le hh (n := ratioFloor w.High)).1 (Int.le_refl _)
        unfold rle
        simp only
        omega
      · exact ⟨hLH, rle_refl _⟩
    · rename_i h2
      refine ⟨(cmp_ge ho hl).1 (by omega), (cmp_le ho hh).1 (by omega)⟩
/-- an input of a valid room -/
def inRoom (r : Room) (u : Ratio) : Bool := ratioOk u && decide (ratioCmp ⟨r.Low, 1⟩ u ≤ 0) && decide (ratioCmp u ⟨r.High, 1⟩ ≤ 0)
/-- the mapped state with the input's push -/
def pushed (r : Dyn) (s : Spot) (u : Ratio) : Spot := ⟨mapX r s * u.D + r.bx * u.N * mapD r s, mapY r s * u.D + r.by_ * u.N * mapD r s, mapD r s * u.D⟩
theorem keeps_in {r : Dyn} {s : Spot} {u : Ratio} {h : Half} (k : keepsH r s u h) : inH h (pushed r s u) := by
  unfold keepsH topH slopeH at k
  unfold inH pushed
  simp only
  have e1 : h.A * (mapX r s * u.D + r.bx * u.N * mapD r s) + h.B * (mapY r s * u.D + r.by_ * u.N * mapD r s) = (h.A * r.bx + h.B * r.by_) * u.N * mapD r s + (h.A * mapX r s + h.B * mapY r s) * u.D := by grind
  have e2 : (h.C * mapD r s - h.A * mapX r s - h.B * mapY r s) * u.D = h.C * (mapD r s * u.D) - (h.A * mapX r s + h.B * mapY r s) * u.D := by grind
  omega
structure Admitted (r : Room) (ps : List Half) (s : Spot) (u : Ratio) : Prop where
  er : (erodeR ps r.Noise).2 = true
  ne : (erodeR ps r.Noise).1 ≠ []
  sp : SpotS s
  keep : ∀ x ∈ (erodeR ps r.Noise).1, inH x (pushed (dynOf r) s u)
  room : inRoom r u = true
theorem admAt_in {r : Room} (hv : RoomV r) {ps : List Half} {s : Spot} (hs : spotOk s = true) (h : (admAtR r ps s).2 = true) {u : Ratio} (hu : ratioOk u = true) (h1 : rle (admAtR r ps s).1.Low u) (h2 : rle u (admAtR r ps s).1.High) : Admitted r ps s u := by
  have hc : (erodeR ps r.Noise).2 = true ∧ (erodeR ps r.Noise).1 ≠ [] ∧ s.D ≤ 100000 := by
    rcases Classical.em ((erodeR ps r.Noise).2 = true ∧ (erodeR ps r.Noise).1 ≠ [] ∧ s.D ≤ 100000) with q | q
    · exact q
    · rw [admAt_no q] at h; cases h
  rw [admAt_yes hc] at h h1 h2
  have hS := spotS_of hs hc.2.2
  have hall : (erodeR ps r.Noise).1.all halfOk = true := regOk_all (erodeR_ok ps r.Noise)
  unfold admitR at h h1 h2
  split at h
  · rename_i w hw
    rw [hw] at h1 h2
    dsimp only at h1 h2
    split at h
    · rename_i hk
      rw [if_pos hk] at h1 h2
      have I := admInv hv.dyn.1 hS hall _ (Nat.le_refl _) w hw
      refine ⟨hc.1, hc.2.1, hS, fun x hx => ?_, ?_⟩
      · obtain ⟨i, hi, rfl⟩ := List.getElem_of_mem hx
        exact keeps_in (I.keep u hu h1 h2 i hi hi)
      · have o1 : ratioOk ⟨r.Low, 1⟩ = true := ratioOk_one (n := r.Low) (by have := hv.dyn.1.low; have e : (dynOf r).low = r.Low := rfl; omega) (by have := hv.dyn.1.mid; have := hv.dyn.1.high; have e : (dynOf r).low = r.Low := rfl; omega)
        have o2 : ratioOk ⟨r.High, 1⟩ = true := ratioOk_one (n := r.High) (by have := hv.dyn.1.low; have := hv.dyn.1.mid; have e : (dynOf r).high = r.High := rfl; omega) (by have := hv.dyn.1.high; have e : (dynOf r).high = r.High := rfl; omega)
        have q1 : rle ⟨r.Low, 1⟩ u := rle_trans o1 I.lo hu I.low h1
        have q2 : rle u ⟨r.High, 1⟩ := rle_trans hu I.hi o2 h2 I.high
        unfold inRoom
        rw [hu, decide_eq_true ((cmp_le o1 hu).2 q1), decide_eq_true ((cmp_le hu o2).2 q2)]
        rfl
    · cases h
  · cases h
/-- the next state with a good input lies in the region -/
theorem next_held {r : Room} (hv : RoomV r) {ps : List Half} (hp : regOk ps = true) {s t : Spot} {u : Ratio} (ha : Admitted r ps s u) (ht : t ∈ cornL r.Noise) (hn : (nextR (dynOf r) s u t).2 = true) : hasSpot ps (nextR (dynOf r) s u t).1 = true := by
  have hk := nextR_ok hn
  have hpn : ps ≠ [] := (erode_parts ha.er ha.ne).1
  have hpl : ¬ ps.length = 0 := fun e => hpn (List.eq_nil_of_length_eq_zero e)
  have hW := shape_of hv.noise hv.noiseN
  have hB := hW.spotB t ht
  have hok : nextOk s t u = true := by
    cases e : nextOk s t u
    · rw [nextR_no e] at hn; cases hn
    · rfl
  have hst := StepS.of hv.dyn.1 hok
  have b := hst.bd
  rw [nextR_yes hok] at hn hk ⊢
  have hl : (spotOf (stepX (dynOf r) s t u) (stepY (dynOf r) s t u) (stepD (dynOf r) s t u)).1 = lowSpot (stepX (dynOf r) s t u) (stepY (dynOf r) s t u) (stepD (dynOf r) s t u) := by
    unfold spotOf at hn ⊢
    split at hn
    · rename_i hc; rw [if_pos hc]
    · cases hn
  rw [hl] at hk ⊢
  have hall := erode_held (regOk_all hp) hW ha.er ha.ne (s := pushed (dynOf r) s u) (t := t) (by unfold pushed; simp only; have := b.du; omega) hB.d1 ha.keep (fun x hx => hW.cornIn t ht x (hW.sub x hx))
  unfold hasSpot holdsR
  rw [hp, hk, decide_eq_false hpl]
  have hin : (ps.all fun h => decide (sideI h (lowSpot (stepX (dynOf r) s t u) (stepY (dynOf r) s t u) (stepD (dynOf r) s t u)) ≤ 0)) = true := List.all_eq_true.2 fun x hx => by
    have h1 := hall x hx
    have h2 : inH x (lowSpot (stepX (dynOf r) s t u) (stepY (dynOf r) s t u) (stepD (dynOf r) s t u)) := by
      rw [low_inH (by have := b.dt; omega)]
      unfold inPt
      refine decide_eq_true ?_
      unfold inH pushed at h1
      simp only at h1
      unfold stepX stepY stepD
      exact h1
    unfold inH at h2
    unfold sideI
    exact decide_eq_true (by omega)
  rw [hin]
  rfl
theorem step_held {r : Room} (hv : RoomV r) {ps : List Half} (hp : regOk ps = true) {s t : Spot} {n : Int} {x : Spot × Ratio} (ht : t ∈ cornL r.Noise) (h : stepR r ps s n t = some x) : hasSpot ps x.1 = true ∧ inRoom r x.2 = true := by
  unfold stepR at h
  split at h
  · rename_i hc
    injection h with h
    subst h
    have hsp := admAt_span hc.2.1
    obtain ⟨p1, p2⟩ := pick_in hsp n
    have ha := admAt_in hv hc.1 hc.2.1 (pickInput_ok hsp n) p1 p2
    exact ⟨next_held hv hp ha ht hc.2.2, ha.room⟩
  · cases h
end Go.Proofs.YtjghabbcjpfjeaaGreatDoor
/- Contracts of StepLoop and IsInput of the program. (written by tools/mkLo.py) -/
namespace Go.Proofs.YtjghabbcjpfjeaaGreatDoor
open Go.ChangeShapes Go.WideShapes Go.ChangeAt Go.RowKit
set_option linter.unusedVariables false
set_option maxRecDepth 100000


set_option maxHeartbeats 16000000 in
theorem implStepLoop_ok (r : Room) (A0 A6 A7 : Option Addr) (c0 c6 c7 : Nat) (A : Option Addr) (n c : Nat) (ps : List Half) (s t : Spot) (z : Int) (w : World) (hv : RoomV r) (ha : RoomHere w r A0 A6 A7 c0 c6 c7) (hn : ps.length = n) (hr : Row w A (ints (flat Half.ints ps))) (hpk : regOk ps = true) (hs : I64 s.X ∧ I64 s.Y ∧ I64 s.D) (ht : I64 t.X ∧ I64 t.Y ∧ I64 t.D) :
    Calls Tryz.prog 22 #[.agg #[.slice A0 r.Map.length c0, .int .i64 r.Div, .int .i64 r.Bx, .int .i64 r.By, .int .i64 r.Low, .int .i64 r.High, .slice A6 r.Noise.length c6, .slice A7 r.Limits.length c7], .agg #[.slice A n c], .agg #[.int .i64 s.X, .int .i64 s.Y, .int .i64 s.D], .int .i64 z, .agg #[.int .i64 t.X, .int .i64 t.Y, .int .i64 t.D]] w (StepMade (stepR r ps s z t) w) := by
  have HRo := Lib.hid (fun w ha hr => implRobustOf_ok r A0 A6 A7 c0 c6 c7 A n c ps w hv ha hn hr hpk)
  have HSt := Lib.hid (fun A3 n3 c3 E w ha hn hr hE hne => implStep0_ok r A0 A6 A7 c0 c6 c7 A3 n3 c3 ps E s t z w hv ha hn hr hE hne hs ht)
  have HRR : Hid (robR ps r.Noise = ((erodeR ps r.Noise).1, (erodeR ps r.Noise).2 && !decide ((erodeR ps r.Noise).1 = []))) := rfl
  have HNo : Hid ((robR ps r.Noise).2 = false → stepR r ps s z t = none) := fun h => stepR_no fun q => by
    have q1 := q.2.1
    rw [admAt_no (fun q2 => by
      unfold robR at h
      simp only [q2.1, decide_eq_false q2.2.1] at h
      cases h)] at q1
    cases q1
  have HA := Lib.hid ha
  have HR := Lib.hid hr
  have hx : Ext w ((((((w.alloc (.cells #[.slice A0 r.Map.length c0, .int .i64 r.Div, .int .i64 r.Bx, .int .i64 r.By, .int .i64 r.Low, .int .i64 r.High, .slice A6 r.Noise.length c6, .slice A7 r.Limits.length c7] 28)).alloc (.cells #[.slice A n c] 26)).alloc (.cells #[.int .i64 s.X, .int .i64 s.Y, .int .i64 s.D] 30)).alloc (.cells #[.int .i64 t.X, .int .i64 t.Y, .int .i64 t.D] 30)).alloc (.cells #[.int .i64 0, .int .i64 0, .int .i64 0] 30)).alloc (.cells #[.int .i64 0, .int .i64 0] 44)) := by repeat (first | exact Ext.refl _ | refine Ext.alloc ?_ _)
  have bM : Blk ((((((w.alloc (.cells #[.slice A0 r.Map.length c0, .int .i64 r.Div, .int .i64 r.Bx, .int .i64 r.By, .int .i64 r.Low, .int .i64 r.High, .slice A6 r.Noise.length c6, .slice A7 r.Limits.length c7] 28)).alloc (.cells #[.slice A n c] 26)).alloc (.cells #[.int .i64 s.X, .int .i64 s.Y, .int .i64 s.D] 30)).alloc (.cells #[.int .i64 t.X, .int .i64 t.Y, .int .i64 t.D] 30)).alloc (.cells #[.int .i64 0, .int .i64 0, .int .i64 0] 30)).alloc (.cells #[.int .i64 0, .int .i64 0] 44)) (w.heap.size) 28 #[.slice A0 r.Map.length c0, .int .i64 r.Div, .int .i64 r.Bx, .int .i64 r.By, .int .i64 r.Low, .int .i64 r.High, .slice A6 r.Noise.length c6, .slice A7 r.Limits.length c7] := by
    have q := Blk.new w 28 #[.slice A0 r.Map.length c0, .int .i64 r.Div, .int .i64 r.Bx, .int .i64 r.By, .int .i64 r.Low, .int .i64 r.High, .slice A6 r.Noise.length c6, .slice A7 r.Limits.length c7]
    replace q := q.alloc (.cells #[.slice A n c] 26)
    replace q := q.alloc (.cells #[.int .i64 s.X, .int .i64 s.Y, .int .i64 s.D] 30)
    replace q := q.alloc (.cells #[.int .i64 t.X, .int .i64 t.Y, .int .i64 t.D] 30)
    replace q := q.alloc (.cells #[.int .i64 0, .int .i64 0, .int .i64 0] 30)
    replace q := q.alloc (.cells #[.int .i64 0, .int .i64 0] 44)
    simpa only [World.size_alloc] using q
  have bP : Blk ((((((w.alloc (.cells #[.slice A0 r.Map.length c0, .int .i64 r.Div, .int .i64 r.Bx, .int .i64 r.By, .int .i64 r.Low, .int .i64 r.High, .slice A6 r.Noise.length c6, .slice A7 r.Limits.length c7] 28)).alloc (.cells #[.slice A n c] 26)).alloc (.cells #[.int .i64 s.X, .int .i64 s.Y, .int .i64 s.D] 30)).alloc (.cells #[.int .i64 t.X, .int .i64 t.Y, .int .i64 t.D] 30)).alloc (.cells #[.int .i64 0, .int .i64 0, .int .i64 0] 30)).alloc (.cells #[.int .i64 0, .int .i64 0] 44)) (w.heap.size + 1) 26 #[.slice A n c] := by
    have q := Blk.new (w.alloc (.cells #[.slice A0 r.Map.length c0, .int .i64 r.Div, .int .i64 r.Bx, .int .i64 r.By, .int .i64 r.Low, .int .i64 r.High, .slice A6 r.Noise.length c6, .slice A7 r.Limits.length c7] 28)) 26 #[.slice A n c]
    replace q := q.alloc (.cells #[.int .i64 s.X, .int .i64 s.Y, .int .i64 s.D] 30)
    replace q := q.alloc (.cells #[.int .i64 t.X, .int .i64 t.Y, .int .i64 t.D] 30)
    replace q := q.alloc (.cells #[.int .i64 0, .int .i64 0, .int .i64 0] 30)
    replace q := q.alloc (.cells #[.int .i64 0, .int .i64 0] 44)
    simpa only [World.size_alloc] using q
  have bS : Blk ((((((w.alloc (.cells #[.slice A0 r.Map.length c0, .int .i64 r.Div, .int .i64 r.Bx, .int .i64 r.By, .int .i64 r.Low, .int .i64 r.High, .slice A6 r.Noise.length c6, .slice A7 r.Limits.length c7] 28)).alloc (.cells #[.slice A n c] 26)).alloc (.cells #[.int .i64 s.X, .int .i64 s.Y, .int .i64 s.D] 30)).alloc (.cells #[.int .i64 t.X, .int .i64 t.Y, .int .i64 t.D] 30)).alloc (.cells #[.int .i64 0, .int .i64 0, .int .i64 0] 30)).alloc (.cells #[.int .i64 0, .int .i64 0] 44)) (w.heap.size + 1 + 1) 30 #[.int .i64 s.X, .int .i64 s.Y, .int .i64 s.D] := by
    have q := Blk.new ((w.alloc (.cells #[.slice A0 r.Map.length c0, .int .i64 r.Div, .int .i64 r.Bx, .int .i64 r.By, .int .i64 r.Low, .int .i64 r.High, .slice A6 r.Noise.length c6, .slice A7 r.Limits.length c7] 28)).alloc (.cells #[.slice A n c] 26)) 30 #[.int .i64 s.X, .int .i64 s.Y, .int .i64 s.D]
    replace q := q.alloc (.cells #[.int .i64 t.X, .int .i64 t.Y, .int .i64 t.D] 30)
    replace q := q.alloc (.cells #[.int .i64 0, .int .i64 0, .int .i64 0] 30)
    replace q := q.alloc (.cells #[.int .i64 0, .int .i64 0] 44)
    simpa only [World.size_alloc] using q
  have bT : Blk ((((((w.alloc (.cells #[.slice A0 r.Map.length c0, .int .i64 r.Div, .int .i64 r.Bx, .int .i64 r.By, .int .i64 r.Low, .int .i64 r.High, .slice A6 r.Noise.length c6, .slice A7 r.Limits.length c7] 28)).alloc (.cells #[.slice A n c] 26)).alloc (.cells #[.int .i64 s.X, .int .i64 s.Y, .int .i64 s.D] 30)).alloc (.cells #[.int .i64 t.X, .int .i64 t.Y, .int .i64 t.D] 30)).alloc (.cells #[.int .i64 0, .int .i64 0, .int .i64 0] 30)).alloc (.cells #[.int .i64 0, .int .i64 0] 44)) (w.heap.size + 1 + 1 + 1) 30 #[.int .i64 t.X, .int .i64 t.Y, .int .i64 t.D] := by
    have q := Blk.new (((w.alloc (.cells #[.slice A0 r.Map.length c0, .int .i64 r.Div, .int .i64 r.Bx, .int .i64 r.By, .int .i64 r.Low, .int .i64 r.High, .slice A6 r.Noise.length c6, .slice A7 r.Limits.length c7] 28)).alloc (.cells #[.slice A n c] 26)).alloc (.cells #[.int .i64 s.X, .int .i64 s.Y, .int .i64 s.D] 30)) 30 #[.int .i64 t.X, .int .i64 t.Y, .int .i64 t.D]
    replace q := q.alloc (.cells #[.int .i64 0, .int .i64 0, .int .i64 0] 30)
    replace q := q.alloc (.cells #[.int .i64 0, .int .i64 0] 44)
    simpa only [World.size_alloc] using q
  have bA : Blk ((((((w.alloc (.cells #[.slice A0 r.Map.length c0, .int .i64 r.Div, .int .i64 r.Bx, .int .i64 r.By, .int .i64 r.Low, .int .i64 r.High, .slice A6 r.Noise.length c6, .slice A7 r.Limits.length c7] 28)).alloc (.cells #[.slice A n c] 26)).alloc (.cells #[.int .i64 s.X, .int .i64 s.Y, .int .i64 s.D] 30)).alloc (.cells #[.int .i64 t.X, .int .i64 t.Y, .int .i64 t.D] 30)).alloc (.cells #[.int .i64 0, .int .i64 0, .int .i64 0] 30)).alloc (.cells #[.int .i64 0, .int .i64 0] 44)) (w.heap.size + 1 + 1 + 1 + 1) 30 #[.int .i64 0, .int .i64 0, .int .i64 0] := by
    have q := Blk.new ((((w.alloc (.cells #[.slice A0 r.Map.length c0, .int .i64 r.Div, .int .i64 r.Bx, .int .i64 r.By, .int .i64 r.Low, .int .i64 r.High, .slice A6 r.Noise.length c6, .slice A7 r.Limits.length c7] 28)).alloc (.cells #[.slice A n c] 26)).alloc (.cells #[.int .i64 s.X, .int .i64 s.Y, .int .i64 s.D] 30)).alloc (.cells #[.int .i64 t.X, .int .i64 t.Y, .int .i64 t.D] 30)) 30 #[.int .i64 0, .int .i64 0, .int .i64 0]
    replace q := q.alloc (.cells #[.int .i64 0, .int .i64 0] 44)
    simpa only [World.size_alloc] using q
  have bB : Blk ((((((w.alloc (.cells #[.slice A0 r.Map.length c0, .int .i64 r.Div, .int .i64 r.Bx, .int .i64 r.By, .int .i64 r.Low, .int .i64 r.High, .slice A6 r.Noise.length c6, .slice A7 r.Limits.length c7] 28)).alloc (.cells #[.slice A n c] 26)).alloc (.cells #[.int .i64 s.X, .int .i64 s.Y, .int .i64 s.D] 30)).alloc (.cells #[.int .i64 t.X, .int .i64 t.Y, .int .i64 t.D] 30)).alloc (.cells #[.int .i64 0, .int .i64 0, .int .i64 0] 30)).alloc (.cells #[.int .i64 0, .int .i64 0] 44)) (w.heap.size + 1 + 1 + 1 + 1 + 1) 44 #[.int .i64 0, .int .i64 0] := by
    have q := Blk.new (((((w.alloc (.cells #[.slice A0 r.Map.length c0, .int .i64 r.Div, .int .i64 r.Bx, .int .i64 r.By, .int .i64 r.Low, .int .i64 r.High, .slice A6 r.Noise.length c6, .slice A7 r.Limits.length c7] 28)).alloc (.cells #[.slice A n c] 26)).alloc (.cells #[.int .i64 s.X, .int .i64 s.Y, .int .i64 s.D] 30)).alloc (.cells #[.int .i64 t.X, .int .i64 t.Y, .int .i64 t.D] 30)).alloc (.cells #[.int .i64 0, .int .i64 0, .int .i64 0] 30)) 44 #[.int .i64 0, .int .i64 0]
    simpa only [World.size_alloc] using q
  clear hv ha hn hr hpk hs ht
  unfold StepMade at HSt ⊢
  obtain ⟨x1, x2, x3, u1, u2, q, hV, _, _⟩ := stepV_form (stepR r ps s z t)
  rw [hV] at HSt
  have HV := Lib.hid hV
  clear hV
  generalize stepR r ps s z t = X at *
  generalize robR ps r.Noise = RR at *
  have cA := fun o => bA.cell o
  have cB := fun o => bB.cell o
  have cbM_47 := fun o => bM.cell o
  have cbP_48 := fun o => bP.cell o
  have cbS_49 := fun o => bS.cell o
  have cbT_50 := fun o => bT.cell o
  have cbA_51 := fun o => bA.cell o
  have fbA_51 := fun o => bA.frozen o
  have cbB_52 := fun o => bB.cell o
  have fbB_52 := fun o => bB.frozen o
  go_enter Tryz.func22, Tryz.ntmps22
  go_wp2_with fail
  refine (HRo.out _ (HA.out.ext hx) (HR.out.ext hx)).mono ?_
  rintro e w1 ⟨A3, c3, n3, rfl, hn3, hx1, hown3⟩
  replace hx := hx.trans hx1
  replace bM := bM.ext hx1
  replace bP := bP.ext hx1
  replace bS := bS.ext hx1
  replace bT := bT.ext hx1
  replace bA := bA.ext hx1
  replace bB := bB.ext hx1
  have cbM_53 := fun o => bM.cell o
  have cbP_54 := fun o => bP.cell o
  have cbS_55 := fun o => bS.cell o
  have cbT_56 := fun o => bT.cell o
  have cbA_57 := fun o => bA.cell o
  have fbA_57 := fun o => bA.frozen o
  have cbB_58 := fun o => bB.cell o
  have fbB_58 := fun o => bB.frozen o
  obtain ⟨E, ok⟩ := RR
  dsimp only at *
  subst hn3
  have hy2 := hx
  have bA2 := bA
  have bB2 := bB
  have lA := bA.lt
  have lB := bB.lt
  have bE := Blk.new w1 26 #[.slice A3 E.length c3]
  have rE := Row.of_own hown3
  have ha1 := (Ext.refl w1).alloc (.cells #[.slice A3 E.length c3] 26)
  replace hx := hx.trans ha1
  replace bM := bM.ext ha1
  replace bP := bP.ext ha1
  replace bS := bS.ext ha1
  replace bT := bT.ext ha1
  replace bA := bA.ext ha1
  replace bB := bB.ext ha1
  have cbM_59 := fun o => bM.cell o
  have cbP_60 := fun o => bP.cell o
  have cbS_61 := fun o => bS.cell o
  have cbT_62 := fun o => bT.cell o
  have cbA_63 := fun o => bA.cell o
  have fbA_63 := fun o => bA.frozen o
  have cbB_64 := fun o => bB.cell o
  have fbB_64 := fun o => bB.frozen o
  replace rE := rE.ext ha1
  have cbM_65 := fun o => bM.cell o
  have cbP_66 := fun o => bP.cell o
  have cbS_67 := fun o => bS.cell o
  have cbT_68 := fun o => bT.cell o
  have cbA_69 := fun o => bA.cell o
  have fbA_69 := fun o => bA.frozen o
  have cbB_70 := fun o => bB.cell o
  have fbB_70 := fun o => bB.frozen o
  have cbE_71 := fun o => bE.cell o
  cases ok
  · have H := Lib.hid (HNo.out (by first | rfl | trivial))
    go_wp2
    obtain ⟨z1, z2⟩ := Blk.tt (by omega) bA2 bB2 (.int .i64 0) (.int .i64 0) (.int .i64 0) (.int .i64 0) (.int .i64 0)
    have d1 := fun o => (z1.alloc (.cells #[.slice A3 E.length c3] 26)).cell o
    have d2 := fun o => (z2.alloc (.cells #[.slice A3 E.length c3] 26)).cell o
    clear cA cB
    refine bodyPost_ret (v := .tuple #[.agg #[.int .i64 0, .int .i64 0, .int .i64 0], .agg #[.int .i64 0, .int .i64 0], .bool false]) (by simp [results, Tryz.results22, go_sem, d1, d2]) rfl ?_
    exact ⟨by rw [H.out]; rfl, (hy2.tt (by omega) (by omega) _ _ _ _ _).alloc _⟩
  have HEr : erodeR ps r.Noise = (E, true) ∧ E ≠ [] := by
    have e := HRR.out
    have e1 := congrArg Prod.fst e
    have e2 := congrArg Prod.snd e
    dsimp only at e1 e2
    have e3 := e2.symm
    rw [Bool.and_eq_true, ← e1] at e3
    refine ⟨Prod.ext e1.symm e3.1, fun h => ?_⟩
    rw [decide_eq_true h] at e3
    cases e3.2
  have HSt2 := Lib.hid (fun w ha hr => HSt.out A3 E.length c3 E w ha rfl hr HEr.1 HEr.2)
  clear HEr
  go_wp2_with fail
  refine (HSt2.out _ (HA.out.ext hx) (rE.ext (Ext.refl _))).mono ?_
  rintro e w2 ⟨rfl, hx2⟩
  replace hx := hx.trans hx2
  replace bM := bM.ext hx2
  replace bP := bP.ext hx2
  replace bS := bS.ext hx2
  replace bT := bT.ext hx2
  replace bA := bA.ext hx2
  replace bB := bB.ext hx2
  replace bE := bE.ext hx2
  have cbM_72 := fun o => bM.cell o
  have cbP_73 := fun o => bP.cell o
  have cbS_74 := fun o => bS.cell o
  have cbT_75 := fun o => bT.cell o
  have cbA_76 := fun o => bA.cell o
  have fbA_76 := fun o => bA.frozen o
  have cbB_77 := fun o => bB.cell o
  have fbB_77 := fun o => bB.frozen o
  have cbE_78 := fun o => bE.cell o
  go_wp2
  obtain ⟨z1, z2⟩ := Blk.tt (by omega) bA bB (.int .i64 x1) (.int .i64 x2) (.int .i64 x3) (.int .i64 u1) (.int .i64 u2)
  have d1 := fun o => z1.cell o
  have d2 := fun o => z2.cell o
  clear cA cB
  rw [HV.out]
  refine bodyPost_ret (v := .tuple #[.agg #[.int .i64 x1, .int .i64 x2, .int .i64 x3], .agg #[.int .i64 u1, .int .i64 u2], .bool q]) (by simp [results, Tryz.results22, go_sem, d1, d2]) rfl ?_
  exact ⟨rfl, hx.tt (by omega) (by omega) _ _ _ _ _⟩
set_option maxHeartbeats 8000000 in
theorem implIsInput0_ok (r : Room) (A0 A6 A7 : Option Addr) (c0 c6 c7 : Nat) (u : Ratio) (w : World) (hl : I64 r.Low) (hh : I64 r.High) (hk : inRoom r u = true) :
    Calls Tryz.prog 66 #[.agg #[.slice A0 r.Map.length c0, .int .i64 r.Div, .int .i64 r.Bx, .int .i64 r.By, .int .i64 r.Low, .int .i64 r.High, .slice A6 r.Noise.length c6, .slice A7 r.Limits.length c7], .agg #[.int .i64 u.N, .int .i64 u.D]] w fun e w' => e = .returned (.bool true) ∧ Ext w w' := by
  unfold inRoom at hk
  simp only [Bool.and_eq_true, decide_eq_true_eq] at hk
  obtain ⟨⟨k1, k2⟩, k3⟩ := hk
  obtain ⟨i1, i2⟩ := ratio_I k1
  have HK := Lib.hid (fun w => implRatioOk_any u.N u.D w i1 i2)
  have e1 : ratioOk ⟨u.N, u.D⟩ = true := k1
  rw [e1] at HK
  have H1 := Lib.hid (fun w => implRatioCmp_any r.Low 1 u.N u.D w hl (by unfold I64; omega) i1 i2)
  have H2 := Lib.hid (fun w => implRatioCmp_any u.N u.D r.High 1 w i1 i2 hh (by unfold I64; omega))
  have HL := Lib.hid (fun w => whole_any r.Low w)
  have HH := Lib.hid (fun w => whole_any r.High w)
  change ratioCmp ⟨r.Low, 1⟩ ⟨u.N, u.D⟩ ≤ 0 at k2
  change ratioCmp ⟨u.N, u.D⟩ ⟨r.High, 1⟩ ≤ 0 at k3
  generalize ratioCmp ⟨r.Low, 1⟩ ⟨u.N, u.D⟩ = a at *
  generalize ratioCmp ⟨u.N, u.D⟩ ⟨r.High, 1⟩ = b at *
  have d1 : decide (a ≤ 0) = true := decide_eq_true k2
  have d2 : decide (b ≤ 0) = true := decide_eq_true k3
  have hx : Ext w ((w.alloc (.cells #[.slice A0 r.Map.length c0, .int .i64 r.Div, .int .i64 r.Bx, .int .i64 r.By, .int .i64 r.Low, .int .i64 r.High, .slice A6 r.Noise.length c6, .slice A7 r.Limits.length c7] 28)).alloc (.cells #[.int .i64 u.N, .int .i64 u.D] 44)) := by repeat (first | exact Ext.refl _ | refine Ext.alloc ?_ _)
  have bM : Blk ((w.alloc (.cells #[.slice A0 r.Map.length c0, .int .i64 r.Div, .int .i64 r.Bx, .int .i64 r.By, .int .i64 r.Low, .int .i64 r.High, .slice A6 r.Noise.length c6, .slice A7 r.Limits.length c7] 28)).alloc (.cells #[.int .i64 u.N, .int .i64 u.D] 44)) (w.heap.size) 28 #[.slice A0 r.Map.length c0, .int .i64 r.Div, .int .i64 r.Bx, .int .i64 r.By, .int .i64 r.Low, .int .i64 r.High, .slice A6 r.Noise.length c6, .slice A7 r.Limits.length c7] := by
    have q := Blk.new w 28 #[.slice A0 r.Map.length c0, .int .i64 r.Div, .int .i64 r.Bx, .int .i64 r.By, .int .i64 r.Low, .int .i64 r.High, .slice A6 r.Noise.length c6, .slice A7 r.Limits.length c7]
    replace q := q.alloc (.cells #[.int .i64 u.N, .int .i64 u.D] 44)
    simpa only [World.size_alloc] using q
  have bU : Blk ((w.alloc (.cells #[.slice A0 r.Map.length c0, .int .i64 r.Div, .int .i64 r.Bx, .int .i64 r.By, .int .i64 r.Low, .int .i64 r.High, .slice A6 r.Noise.length c6, .slice A7 r.Limits.length c7] 28)).alloc (.cells #[.int .i64 u.N, .int .i64 u.D] 44)) (w.heap.size + 1) 44 #[.int .i64 u.N, .int .i64 u.D] := by
    have q := Blk.new (w.alloc (.cells #[.slice A0 r.Map.length c0, .int .i64 r.Div, .int .i64 r.Bx, .int .i64 r.By, .int .i64 r.Low, .int .i64 r.High, .slice A6 r.Noise.length c6, .slice A7 r.Limits.length c7] 28)) 44 #[.int .i64 u.N, .int .i64 u.D]
    simpa only [World.size_alloc] using q
  have cM := fun o => bM.cell o
  have cU := fun o => bU.cell o
  clear i1 i2 k1 hl hh e1
  go_enter Tryz.func66, Tryz.ntmps66
  go_wp2_with fail
  have hcur := hx
  go_region_held3 (fun w' => w'.cell? ⟨w.heap.size, 4, none⟩ = some (.int .i64 r.Low) ∧ w'.cell? ⟨w.heap.size, 5, none⟩ = some (.int .i64 r.High) ∧ w'.cell? ⟨w.heap.size + 1, 0, none⟩ = some (.int .i64 u.N) ∧ w'.cell? ⟨w.heap.size + 1, 1, none⟩ = some (.int .i64 u.D))
    (go_keep)
    (first
      | (go_at_call 50; (with_reducible refine (HK.out _).mono ?_); rintro e w9 ⟨rfl, hx9⟩; (first | have hx8 := (Ext.refl _).drew.trans hx9 | have hx8 := hx9); have gx := hx8; have bM9 := bM.ext gx; have bU9 := bU.ext gx; have cM9 := fun o => bM9.cell o; have cU9 := fun o => bU9.cell o; replace hcur := Ext.trans (by first | exact hcur | exact hcur.drew) hx9)
      | (go_at_call 42; (first | (with_reducible refine (HL.out _).mono ?_) | (with_reducible refine (HH.out _).mono ?_)); rintro e w9 ⟨rfl, hx9⟩; have gx2 := Ext.trans (by first | exact gx | exact gx.drew) hx9; replace gx := gx2; have cM9 := fun o => (bM.ext gx).cell o; have cU9 := fun o => (bU.ext gx).cell o; replace hcur := Ext.trans (by first | exact hcur | exact hcur.drew) hx9)
      | (go_at_call 29; (first | (with_reducible refine (H1.out _).mono ?_) | (with_reducible refine (H2.out _).mono ?_)); rintro e w9 ⟨rfl, hx9⟩; have gx2 := Ext.trans (by first | exact gx | exact gx.drew) hx9; replace gx := gx2; have cM9 := fun o => (bM.ext gx).cell o; have cU9 := fun o => (bU.ext gx).cell o; replace hcur := Ext.trans (by first | exact hcur | exact hcur.drew) hx9))
  all_goals
    go_wp2
    go_ret
    exact ⟨rfl, by first | exact hcur | exact hcur.drew⟩
set_option maxHeartbeats 8000000 in
theorem implIsInput_ok (r : Room) (A0 A6 A7 : Option Addr) (c0 c6 c7 : Nat) (u : Ratio) (w : World) (hv : RoomV r) (ha : RoomHere w r A0 A6 A7 c0 c6 c7) (hk : inRoom r u = true) :
    Calls Tryz.prog 24 #[.agg #[.slice A0 r.Map.length c0, .int .i64 r.Div, .int .i64 r.Bx, .int .i64 r.By, .int .i64 r.Low, .int .i64 r.High, .slice A6 r.Noise.length c6, .slice A7 r.Limits.length c7], .agg #[.int .i64 u.N, .int .i64 u.D]] w fun e w' => e = .returned (.bool true) ∧ Ext w w' := by
  have d := hv.dyn.1
  have hl1 : -1000 ≤ r.Low := d.low
  have hl2 : r.Low ≤ r.High := d.mid
  have hl3 : r.High ≤ 1000 := d.high
  have HI := Lib.hid (fun w => implIsInput0_ok r A0 A6 A7 c0 c6 c7 u w (by unfold I64; omega) (by unfold I64; omega) hk)
  have HRo := Lib.hid (fun w ha => implRoomOk_any r A0 A6 A7 c0 c6 c7 w ha hv.fi.1 hv.fi.2)
  rw [hv.ok] at HRo
  have HA := Lib.hid ha
  have hx : Ext w ((w.alloc (.cells #[.slice A0 r.Map.length c0, .int .i64 r.Div, .int .i64 r.Bx, .int .i64 r.By, .int .i64 r.Low, .int .i64 r.High, .slice A6 r.Noise.length c6, .slice A7 r.Limits.length c7] 28)).alloc (.cells #[.int .i64 u.N, .int .i64 u.D] 44)) := by repeat (first | exact Ext.refl _ | refine Ext.alloc ?_ _)
  have bM : Blk ((w.alloc (.cells #[.slice A0 r.Map.length c0, .int .i64 r.Div, .int .i64 r.Bx, .int .i64 r.By, .int .i64 r.Low, .int .i64 r.High, .slice A6 r.Noise.length c6, .slice A7 r.Limits.length c7] 28)).alloc (.cells #[.int .i64 u.N, .int .i64 u.D] 44)) (w.heap.size) 28 #[.slice A0 r.Map.length c0, .int .i64 r.Div, .int .i64 r.Bx, .int .i64 r.By, .int .i64 r.Low, .int .i64 r.High, .slice A6 r.Noise.length c6, .slice A7 r.Limits.length c7] := by
    have q := Blk.new w 28 #[.slice A0 r.Map.length c0, .int .i64 r.Div, .int .i64 r.Bx, .int .i64 r.By, .int .i64 r.Low, .int .i64 r.High, .slice A6 r.Noise.length c6, .slice A7 r.Limits.length c7]
    replace q := q.alloc (.cells #[.int .i64 u.N, .int .i64 u.D] 44)
    simpa only [World.size_alloc] using q
  have bU : Blk ((w.alloc (.cells #[.slice A0 r.Map.length c0, .int .i64 r.Div, .int .i64 r.Bx, .int .i64 r.By, .int .i64 r.Low, .int .i64 r.High, .slice A6 r.Noise.length c6, .slice A7 r.Limits.length c7] 28)).alloc (.cells #[.int .i64 u.N, .int .i64 u.D] 44)) (w.heap.size + 1) 44 #[.int .i64 u.N, .int .i64 u.D] := by
    have q := Blk.new (w.alloc (.cells #[.slice A0 r.Map.length c0, .int .i64 r.Div, .int .i64 r.Bx, .int .i64 r.By, .int .i64 r.Low, .int .i64 r.High, .slice A6 r.Noise.length c6, .slice A7 r.Limits.length c7] 28)) 44 #[.int .i64 u.N, .int .i64 u.D]
    simpa only [World.size_alloc] using q
  clear ha hv hk d hl1 hl2 hl3
  have cbM_79 := fun o => bM.cell o
  have cbU_80 := fun o => bU.cell o
  go_enter Tryz.func24, Tryz.ntmps24
  go_wp2_with fail
  refine (HI.out _).mono ?_
  rintro e w1 ⟨rfl, hx1⟩
  replace hx := hx.trans hx1
  replace bM := bM.ext hx1
  replace bU := bU.ext hx1
  have cbM_81 := fun o => bM.cell o
  have cbU_82 := fun o => bU.cell o
  go_wp2_with fail
  refine (HRo.out _ (HA.out.ext hx).at_).mono ?_
  rintro e w2 ⟨rfl, hx2⟩
  replace hx := hx.trans hx2
  replace bM := bM.ext hx2
  replace bU := bU.ext hx2
  have cbM_83 := fun o => bM.cell o
  have cbU_84 := fun o => bU.cell o
  go_wp2
  go_ret
  exact ⟨rfl, hx⟩

end Go.Proofs.YtjghabbcjpfjeaaGreatDoor
/- Contract of stepRight of the program, where it is right. (written by tools/mkLt.py) -/
namespace Go.Proofs.YtjghabbcjpfjeaaGreatDoor
open Go.ChangeShapes Go.WideShapes Go.ChangeAt Go.RowKit
set_option linter.unusedVariables false
set_option maxRecDepth 100000

theorem spotOk_b3 {s : Spot} (h : spotOk s = true) : (1 ≤ s.D ∧ s.D ≤ 5000000000) ∧ (-(1000 * s.D) ≤ s.X ∧ s.X ≤ 1000 * s.D) ∧ (-(1000 * s.D) ≤ s.Y ∧ s.Y ≤ 1000 * s.D) := by
  unfold spotOk inR at h
  simp only [Bool.and_eq_true, decide_eq_true_eq] at h
  omega

set_option maxHeartbeats 16000000 in
theorem implStepRight_ok (r : Room) (A0 A6 A7 : Option Addr) (c0 c6 c7 : Nat) (s so calm : Spot) (u : Ratio) (w : World) (hv : RoomV r) (ha : RoomHere w r A0 A6 A7 c0 c6 c7) (hs : I64 s.X ∧ I64 s.Y ∧ I64 s.D) (hu : I64 u.N ∧ I64 u.D) (hn : nextR (dynOf r) s u ⟨0, 0, 1⟩ = (calm, true)) (hcD : calm.D ≤ 100000) (htD : so.D ≤ 100000) (hto : spotOk so = true)
    (hin : ∀ h ∈ r.Noise, h.A * (so.X * calm.D - calm.X * so.D) + h.B * (so.Y * calm.D - calm.Y * so.D) ≤ h.C * so.D * calm.D) :
    Calls Tryz.prog 70 #[.agg #[.slice A0 r.Map.length c0, .int .i64 r.Div, .int .i64 r.Bx, .int .i64 r.By, .int .i64 r.Low, .int .i64 r.High, .slice A6 r.Noise.length c6, .slice A7 r.Limits.length c7], .agg #[.int .i64 s.X, .int .i64 s.Y, .int .i64 s.D], .agg #[.int .i64 u.N, .int .i64 u.D], .agg #[.int .i64 so.X, .int .i64 so.Y, .int .i64 so.D]] w fun e w' => e = .returned (.bool true) ∧ Ext w w' := by
  have HNx := Lib.hid (fun w ha => implNext_ok r A0 A6 A7 c0 c6 c7 s ⟨0, 0, 1⟩ u w hv ha hs (by unfold I64; exact ⟨by decide, by decide, by decide⟩) hu)
  rw [hn] at HNx
  unfold NextMade at HNx
  dsimp only at HNx
  have hck : spotOk calm = true := by have h := nextR_ok (r := dynOf r) (s := s) (u := u) (t := ⟨0, 0, 1⟩) (by rw [hn]); rw [hn] at h; exact h
  obtain ⟨a1, a2, a3⟩ := spotOk_b3 hto
  obtain ⟨b1, b2, b3⟩ := spotOk_b3 hck
  have m1 := mul_bd (a := so.X) (b := calm.D) (A := 100000000) (B := 100000) ⟨by omega, by omega⟩ ⟨by omega, by omega⟩
  have m2 := mul_bd (a := calm.X) (b := so.D) (A := 100000000) (B := 100000) ⟨by omega, by omega⟩ ⟨by omega, by omega⟩
  have m3 := mul_bd (a := so.Y) (b := calm.D) (A := 100000000) (B := 100000) ⟨by omega, by omega⟩ ⟨by omega, by omega⟩
  have m4 := mul_bd (a := calm.Y) (b := so.D) (A := 100000000) (B := 100000) ⟨by omega, by omega⟩ ⟨by omega, by omega⟩
  have q1 : IntKind.i64.wrap (so.X * calm.D) = so.X * calm.D := IntWalk.i64_in _ (by omega)
  have q2 : IntKind.i64.wrap (calm.X * so.D) = calm.X * so.D := IntWalk.i64_in _ (by omega)
  have q3 : IntKind.i64.wrap (so.Y * calm.D) = so.Y * calm.D := IntWalk.i64_in _ (by omega)
  have q4 : IntKind.i64.wrap (calm.Y * so.D) = calm.Y * so.D := IntWalk.i64_in _ (by omega)
  obtain ⟨X, hX⟩ : ∃ X, so.X * calm.D - calm.X * so.D = X := ⟨_, rfl⟩
  obtain ⟨Y, hY⟩ : ∃ Y, so.Y * calm.D - calm.Y * so.D = Y := ⟨_, rfl⟩
  have q5 : IntKind.i64.wrap (so.X * calm.D - calm.X * so.D) = X := by rw [hX]; exact IntWalk.i64_in _ (by omega)
  have q6 : IntKind.i64.wrap (so.Y * calm.D - calm.Y * so.D) = Y := by rw [hY]; exact IntWalk.i64_in _ (by omega)
  rw [hX, hY] at hin
  have HB : Hid (∀ k (hk : k < r.Noise.length), (r.Noise[k].A * X + r.Noise[k].B * Y ≤ r.Noise[k].C * so.D * calm.D) ∧ (-1000000000000000000 ≤ r.Noise[k].A * X ∧ r.Noise[k].A * X ≤ 1000000000000000000) ∧ (-1000000000000000000 ≤ r.Noise[k].B * Y ∧ r.Noise[k].B * Y ≤ 1000000000000000000) ∧ (-10000000000000 ≤ r.Noise[k].C * so.D ∧ r.Noise[k].C * so.D ≤ 10000000000000) ∧ (-1000000000000000000 ≤ r.Noise[k].C * so.D * calm.D ∧ r.Noise[k].C * so.D * calm.D ≤ 1000000000000000000)) := fun k hk => by
    obtain ⟨g1, g2, g3, g4, g5, g6, _⟩ := halfOk_bd (all_ok (regOk_all hv.noise) _ (List.getElem_mem hk))
    have p1 := mul_bd (a := r.Noise[k].A) (b := X) (A := 50000) (B := 20000000000000) ⟨by omega, by omega⟩ ⟨by omega, by omega⟩
    have p2 := mul_bd (a := r.Noise[k].B) (b := Y) (A := 50000) (B := 20000000000000) ⟨by omega, by omega⟩ ⟨by omega, by omega⟩
    have p3 := mul_bd (a := r.Noise[k].C) (b := so.D) (A := 100000000) (B := 100000) ⟨by omega, by omega⟩ ⟨by omega, by omega⟩
    have p4 := mul_bd (a := r.Noise[k].C * so.D) (b := calm.D) (A := 10000000000000) (B := 100000) ⟨by omega, by omega⟩ ⟨by omega, by omega⟩
    exact ⟨hin _ (List.getElem_mem hk), by omega, by omega, by omega, by omega⟩
  have HA := Lib.hid ha
  have HRn := Lib.hid ha.at_.p
  have hnl : r.Noise.length ≤ 40 := regOk_len hv.noise
  have l1 : ¬ (100000 : Int) < calm.D := by omega
  have l2 : ¬ (100000 : Int) < so.D := by omega
  have l3 : decide ((100000 : Int) < calm.D) = false := decide_eq_false l1
  have l4 : decide ((100000 : Int) < so.D) = false := decide_eq_false l2
  have hx : Ext w ((((w.alloc (.cells #[.slice A0 r.Map.length c0, .int .i64 r.Div, .int .i64 r.Bx, .int .i64 r.By, .int .i64 r.Low, .int .i64 r.High, .slice A6 r.Noise.length c6, .slice A7 r.Limits.length c7] 28)).alloc (.cells #[.int .i64 s.X, .int .i64 s.Y, .int .i64 s.D] 30)).alloc (.cells #[.int .i64 u.N, .int .i64 u.D] 44)).alloc (.cells #[.int .i64 so.X, .int .i64 so.Y, .int .i64 so.D] 30)) := by repeat (first | exact Ext.refl _ | refine Ext.alloc ?_ _)
  have bM : Blk ((((w.alloc (.cells #[.slice A0 r.Map.length c0, .int .i64 r.Div, .int .i64 r.Bx, .int .i64 r.By, .int .i64 r.Low, .int .i64 r.High, .slice A6 r.Noise.length c6, .slice A7 r.Limits.length c7] 28)).alloc (.cells #[.int .i64 s.X, .int .i64 s.Y, .int .i64 s.D] 30)).alloc (.cells #[.int .i64 u.N, .int .i64 u.D] 44)).alloc (.cells #[.int .i64 so.X, .int .i64 so.Y, .int .i64 so.D] 30)) (w.heap.size) 28 #[.slice A0 r.Map.length c0, .int .i64 r.Div, .int .i64 r.Bx, .int .i64 r.By, .int .i64 r.Low, .int .i64 r.High, .slice A6 r.Noise.length c6, .slice A7 r.Limits.length c7] := by
    have q := Blk.new w 28 #[.slice A0 r.Map.length c0, .int .i64 r.Div, .int .i64 r.Bx, .int .i64 r.By, .int .i64 r.Low, .int .i64 r.High, .slice A6 r.Noise.length c6, .slice A7 r.Limits.length c7]
    replace q := q.alloc (.cells #[.int .i64 s.X, .int .i64 s.Y, .int .i64 s.D] 30)
    replace q := q.alloc (.cells #[.int .i64 u.N, .int .i64 u.D] 44)
    replace q := q.alloc (.cells #[.int .i64 so.X, .int .i64 so.Y, .int .i64 so.D] 30)
    simpa only [World.size_alloc] using q
  have bS : Blk ((((w.alloc (.cells #[.slice A0 r.Map.length c0, .int .i64 r.Div, .int .i64 r.Bx, .int .i64 r.By, .int .i64 r.Low, .int .i64 r.High, .slice A6 r.Noise.length c6, .slice A7 r.Limits.length c7] 28)).alloc (.cells #[.int .i64 s.X, .int .i64 s.Y, .int .i64 s.D] 30)).alloc (.cells #[.int .i64 u.N, .int .i64 u.D] 44)).alloc (.cells #[.int .i64 so.X, .int .i64 so.Y, .int .i64 so.D] 30)) (w.heap.size + 1) 30 #[.int .i64 s.X, .int .i64 s.Y, .int .i64 s.D] := by
    have q := Blk.new (w.alloc (.cells #[.slice A0 r.Map.length c0, .int .i64 r.Div, .int .i64 r.Bx, .int .i64 r.By, .int .i64 r.Low, .int .i64 r.High, .slice A6 r.Noise.length c6, .slice A7 r.Limits.length c7] 28)) 30 #[.int .i64 s.X, .int .i64 s.Y, .int .i64 s.D]
    replace q := q.alloc (.cells #[.int .i64 u.N, .int .i64 u.D] 44)
    replace q := q.alloc (.cells #[.int .i64 so.X, .int .i64 so.Y, .int .i64 so.D] 30)
    simpa only [World.size_alloc] using q
  have bU : Blk ((((w.alloc (.cells #[.slice A0 r.Map.length c0, .int .i64 r.Div, .int .i64 r.Bx, .int .i64 r.By, .int .i64 r.Low, .int .i64 r.High, .slice A6 r.Noise.length c6, .slice A7 r.Limits.length c7] 28)).alloc (.cells #[.int .i64 s.X, .int .i64 s.Y, .int .i64 s.D] 30)).alloc (.cells #[.int .i64 u.N, .int .i64 u.D] 44)).alloc (.cells #[.int .i64 so.X, .int .i64 so.Y, .int .i64 so.D] 30)) (w.heap.size + 1 + 1) 44 #[.int .i64 u.N, .int .i64 u.D] := by
    have q := Blk.new ((w.alloc (.cells #[.slice A0 r.Map.length c0, .int .i64 r.Div, .int .i64 r.Bx, .int .i64 r.By, .int .i64 r.Low, .int .i64 r.High, .slice A6 r.Noise.length c6, .slice A7 r.Limits.length c7] 28)).alloc (.cells #[.int .i64 s.X, .int .i64 s.Y, .int .i64 s.D] 30)) 44 #[.int .i64 u.N, .int .i64 u.D]
    replace q := q.alloc (.cells #[.int .i64 so.X, .int .i64 so.Y, .int .i64 so.D] 30)
    simpa only [World.size_alloc] using q
  have bT : Blk ((((w.alloc (.cells #[.slice A0 r.Map.length c0, .int .i64 r.Div, .int .i64 r.Bx, .int .i64 r.By, .int .i64 r.Low, .int .i64 r.High, .slice A6 r.Noise.length c6, .slice A7 r.Limits.length c7] 28)).alloc (.cells #[.int .i64 s.X, .int .i64 s.Y, .int .i64 s.D] 30)).alloc (.cells #[.int .i64 u.N, .int .i64 u.D] 44)).alloc (.cells #[.int .i64 so.X, .int .i64 so.Y, .int .i64 so.D] 30)) (w.heap.size + 1 + 1 + 1) 30 #[.int .i64 so.X, .int .i64 so.Y, .int .i64 so.D] := by
    have q := Blk.new (((w.alloc (.cells #[.slice A0 r.Map.length c0, .int .i64 r.Div, .int .i64 r.Bx, .int .i64 r.By, .int .i64 r.Low, .int .i64 r.High, .slice A6 r.Noise.length c6, .slice A7 r.Limits.length c7] 28)).alloc (.cells #[.int .i64 s.X, .int .i64 s.Y, .int .i64 s.D] 30)).alloc (.cells #[.int .i64 u.N, .int .i64 u.D] 44)) 30 #[.int .i64 so.X, .int .i64 so.Y, .int .i64 so.D]
    simpa only [World.size_alloc] using q
  clear hv ha hs hu hn hcD htD hto hin hck a1 a2 a3 b1 b2 b3 m1 m2 m3 m4 hX hY
  have cbM_85 := fun o => bM.cell o
  have cbS_86 := fun o => bS.cell o
  have cbU_87 := fun o => bU.cell o
  have cbT_88 := fun o => bT.cell o
  go_enter Tryz.func70, Tryz.ntmps70
  go_wp2_with fail
  refine (HNx.out _ (HA.out.ext hx)).mono ?_
  rintro e w1 ⟨rfl, hx1⟩
  replace hx := hx.trans hx1
  replace bM := bM.ext hx1
  replace bS := bS.ext hx1
  replace bU := bU.ext hx1
  replace bT := bT.ext hx1
  have cbM_89 := fun o => bM.cell o
  have cbS_90 := fun o => bS.cell o
  have cbU_91 := fun o => bU.cell o
  have cbT_92 := fun o => bT.cell o
  have bC := Blk.new w1 30 #[.int .i64 calm.X, .int .i64 calm.Y, .int .i64 calm.D]
  have ha1 := (Ext.refl w1).alloc (.cells #[.int .i64 calm.X, .int .i64 calm.Y, .int .i64 calm.D] 30)
  replace hx := hx.trans ha1
  replace bM := bM.ext ha1
  replace bS := bS.ext ha1
  replace bU := bU.ext ha1
  replace bT := bT.ext ha1
  have cbM_93 := fun o => bM.cell o
  have cbS_94 := fun o => bS.cell o
  have cbU_95 := fun o => bU.cell o
  have cbT_96 := fun o => bT.cell o
  have cbM_97 := fun o => bM.cell o
  have cbS_98 := fun o => bS.cell o
  have cbU_99 := fun o => bU.cell o
  have cbT_100 := fun o => bT.cell o
  have cbC_101 := fun o => bC.cell o
  clear l1 l2
  go_wp2
  clear q1 q2 q3 q4 q5 q6 l3 l4
  go_loopw [61] (fun i wr => ∃ k : Nat, k ≤ r.Noise.length ∧ i = .int .i64 k ∧ Ext w wr ∧ Blk wr (w.heap.size + 1 + 1 + 1) 30 #[.int .i64 so.X, .int .i64 so.Y, .int .i64 so.D] ∧ Blk wr w1.heap.size 30 #[.int .i64 calm.X, .int .i64 calm.Y, .int .i64 calm.D]) (fun i _ => r.Noise.length - (intOf i).toNat)
  case atStart => exact ⟨0, Nat.zero_le _, rfl, hx, bT, bC⟩
  case round =>
  clear bM bS bU bT bC hx
  obtain ⟨k, hk, rfl, hx, bT, bC⟩ := hrel
  by_cases hlt : k < r.Noise.length
  rotate_left
  · go_wp2
    go_ret
    exact ⟨rfl, hx⟩
  obtain ⟨b, off, hA6, hb, h0, h1, h2⟩ := (HRn.out.ext hx).Half (k := k) hlt
  subst hA6
  obtain ⟨p0, p1, p2, p3, p4⟩ := HB.out k hlt
  obtain ⟨h, hh_⟩ : ∃ h, r.Noise[k]'hlt = h := ⟨_, rfl⟩
  rw [hh_] at h0 h1 h2 p0 p1 p2 p3 p4
  clear hh_
  have v1 : IntKind.i64.wrap (h.A * X) = h.A * X := IntWalk.i64_in _ (by omega)
  have v2 : IntKind.i64.wrap (h.B * Y) = h.B * Y := IntWalk.i64_in _ (by omega)
  have v3 : IntKind.i64.wrap (h.A * X + h.B * Y) = h.A * X + h.B * Y := IntWalk.i64_in _ (by omega)
  have v4 : IntKind.i64.wrap (h.C * so.D) = h.C * so.D := IntWalk.i64_in _ (by omega)
  have v5 : IntKind.i64.wrap (h.C * so.D * calm.D) = h.C * so.D * calm.D := IntWalk.i64_in _ (by omega)
  have v6 : ¬ h.C * so.D * calm.D < h.A * X + h.B * Y := by omega
  clear p0 p1 p2 p3 p4
  have bH := Blk.new wr 120 #[.int .i64 h.A, .int .i64 h.B, .int .i64 h.C]
  have hA := (Ext.refl wr).alloc (.cells #[.int .i64 h.A, .int .i64 h.B, .int .i64 h.C] 120)
  replace hx := hx.trans hA
  replace bT := bT.ext hA
  replace bC := bC.ext hA
  have cH := fun o => bH.cell o
  have cT := fun o => bT.cell o
  have cC := fun o => bC.cell o
  go_wp2
  go_roundw
  case rel => exact ⟨k + 1, by omega, by go_num, hx, bT, bC⟩
  case measure => simp [intOf]; omega

end Go.Proofs.YtjghabbcjpfjeaaGreatDoor
/- Contract of TrackOk of the program, where it holds. (written by tools/mkTo.py) -/
namespace Go.Proofs.YtjghabbcjpfjeaaGreatDoor
open Go.ChangeShapes Go.WideShapes Go.ChangeAt Go.RowKit
set_option linter.unusedVariables false
set_option maxRecDepth 100000

/-- a step of a track is right -/
def RightAt (r : Room) (s : Spot) (u : Ratio) (so : Spot) : Prop := inRoom r u = true ∧ ∃ calm : Spot, nextR (dynOf r) s u ⟨0, 0, 1⟩ = (calm, true) ∧ calm.D ≤ 100000 ∧ so.D ≤ 100000 ∧ ∀ h ∈ r.Noise, h.A * (so.X * calm.D - calm.X * so.D) + h.B * (so.Y * calm.D - calm.Y * so.D) ≤ h.C * so.D * calm.D
set_option maxHeartbeats 32000000 in
theorem implTrackOk_ok (r : Room) (A0 A6 A7 : Option Addr) (c0 c6 c7 : Nat) (A : Option Addr) (n c : Nat) (ps : List Half) (T : Track) (A1 A2 : Option Addr) (d1 d2 : Nat) (w : World) (hv : RoomV r) (ha : RoomHere w r A0 A6 A7 c0 c6 c7) (hn : ps.length = n) (hr : Row w A (ints (flat Half.ints ps))) (hpk : regOk ps = true) (hr1 : Row w A1 (ints (flat Spot.ints T.Spots))) (hr2 : Row w A2 (ints (flat Ratio.ints T.Inputs))) (hl : T.Spots.length = T.Inputs.length + 1) (h20 : T.Inputs.length ≤ 20)
    (hsp : ∀ s ∈ T.Spots, hasSpot ps s = true) (hin : ∀ i (h1 : i < T.Spots.length) (h2 : i + 1 < T.Spots.length) (h3 : i < T.Inputs.length), RightAt r T.Spots[i] T.Inputs[i] T.Spots[i + 1]) :
    Calls Tryz.prog 28 #[.agg #[.slice A0 r.Map.length c0, .int .i64 r.Div, .int .i64 r.Bx, .int .i64 r.By, .int .i64 r.Low, .int .i64 r.High, .slice A6 r.Noise.length c6, .slice A7 r.Limits.length c7], .agg #[.slice A n c], .agg #[.slice A1 T.Spots.length d1, .slice A2 T.Inputs.length d2]] w fun e w' => e = .returned (.bool true) ∧ Ext w w' := by
  have HRo := Lib.hid (fun w ha => implRoomOk_any r A0 A6 A7 c0 c6 c7 w ha hv.fi.1 hv.fi.2)
  rw [hv.ok] at HRo
  have hI : HalvesI ps := halves_I (regOk_all hpk)
  have hle : n ≤ maxLen := by have := regOk_len hpk; unfold maxLen; omega
  have HO := Lib.hid (fun w hr => implRegionOk_any A n c ps w hn hr hI hle)
  rw [hpk] at HO
  have HH := Lib.hid (fun s w hr hk => implHolds_ok A n c ps s w hn hr (regOk_all hpk) hle hk)
  have HP : Hid (∀ k (hk : k < T.Spots.length), spotOk T.Spots[k] = true ∧ holdsR ps T.Spots[k] = true) := fun k hk => by
    have h := hsp _ (List.getElem_mem hk)
    unfold hasSpot at h
    simp only [Bool.and_eq_true] at h
    exact ⟨h.1.2, h.2⟩
  have HIn := Lib.hid hin
  have HI := Lib.hid (fun u w hk => implIsInput0_ok r A0 A6 A7 c0 c6 c7 u w (by have := hv.dyn.1.low; have := hv.dyn.1.mid; have := hv.dyn.1.high; have e1 : (dynOf r).low = r.Low := rfl; have e2 : (dynOf r).high = r.High := rfl; unfold I64; omega) (by have := hv.dyn.1.low; have := hv.dyn.1.mid; have := hv.dyn.1.high; have e1 : (dynOf r).low = r.Low := rfl; have e2 : (dynOf r).high = r.High := rfl; unfold I64; omega) hk)
  have HR_ := Lib.hid (fun s so calm u w ha hs hu hn h1 h2 h3 h4 => implStepRight_ok r A0 A6 A7 c0 c6 c7 s so calm u w hv ha hs hu hn h1 h2 h3 h4)
  have HA := Lib.hid ha
  have HRw := Lib.hid hr
  have H1 := Lib.hid hr1
  have H2 := Lib.hid hr2
  have hli : (T.Spots.length : Int) = (T.Inputs.length : Int) + 1 := by omega
  have hlw : IntKind.i64.wrap ((T.Inputs.length : Int) + 1) = (T.Inputs.length : Int) + 1 := IntWalk.i64_in _ (by omega)
  have hlb : ((T.Spots.length : Int) == (T.Inputs.length : Int) + 1) = true := beq_iff_eq.2 hli
  have hln : ((T.Spots.length : Int) != (T.Inputs.length : Int) + 1) = false := by unfold bne; rw [hlb]; rfl
  have HL := Lib.hid hl
  have hb21 : T.Spots.length ≤ 21 := by omega
  have h20i : ¬ (20 : Int) < (T.Inputs.length : Int) := by omega
  have h20b : decide ((20 : Int) < (T.Inputs.length : Int)) = false := decide_eq_false h20i
  have hx : Ext w (((w.alloc (.cells #[.slice A0 r.Map.length c0, .int .i64 r.Div, .int .i64 r.Bx, .int .i64 r.By, .int .i64 r.Low, .int .i64 r.High, .slice A6 r.Noise.length c6, .slice A7 r.Limits.length c7] 28)).alloc (.cells #[.slice A n c] 26)).alloc (.cells #[.slice A1 T.Spots.length d1, .slice A2 T.Inputs.length d2] 68)) := by repeat (first | exact Ext.refl _ | refine Ext.alloc ?_ _)
  have bM : Blk (((w.alloc (.cells #[.slice A0 r.Map.length c0, .int .i64 r.Div, .int .i64 r.Bx, .int .i64 r.By, .int .i64 r.Low, .int .i64 r.High, .slice A6 r.Noise.length c6, .slice A7 r.Limits.length c7] 28)).alloc (.cells #[.slice A n c] 26)).alloc (.cells #[.slice A1 T.Spots.length d1, .slice A2 T.Inputs.length d2] 68)) (w.heap.size) 28 #[.slice A0 r.Map.length c0, .int .i64 r.Div, .int .i64 r.Bx, .int .i64 r.By, .int .i64 r.Low, .int .i64 r.High, .slice A6 r.Noise.length c6, .slice A7 r.Limits.length c7] := by
    have q := Blk.new w 28 #[.slice A0 r.Map.length c0, .int .i64 r.Div, .int .i64 r.Bx, .int .i64 r.By, .int .i64 r.Low, .int .i64 r.High, .slice A6 r.Noise.length c6, .slice A7 r.Limits.length c7]
    replace q := q.alloc (.cells #[.slice A n c] 26)
    replace q := q.alloc (.cells #[.slice A1 T.Spots.length d1, .slice A2 T.Inputs.length d2] 68)
    simpa only [World.size_alloc] using q
  have bP : Blk (((w.alloc (.cells #[.slice A0 r.Map.length c0, .int .i64 r.Div, .int .i64 r.Bx, .int .i64 r.By, .int .i64 r.Low, .int .i64 r.High, .slice A6 r.Noise.length c6, .slice A7 r.Limits.length c7] 28)).alloc (.cells #[.slice A n c] 26)).alloc (.cells #[.slice A1 T.Spots.length d1, .slice A2 T.Inputs.length d2] 68)) (w.heap.size + 1) 26 #[.slice A n c] := by
    have q := Blk.new (w.alloc (.cells #[.slice A0 r.Map.length c0, .int .i64 r.Div, .int .i64 r.Bx, .int .i64 r.By, .int .i64 r.Low, .int .i64 r.High, .slice A6 r.Noise.length c6, .slice A7 r.Limits.length c7] 28)) 26 #[.slice A n c]
    replace q := q.alloc (.cells #[.slice A1 T.Spots.length d1, .slice A2 T.Inputs.length d2] 68)
    simpa only [World.size_alloc] using q
  have bT : Blk (((w.alloc (.cells #[.slice A0 r.Map.length c0, .int .i64 r.Div, .int .i64 r.Bx, .int .i64 r.By, .int .i64 r.Low, .int .i64 r.High, .slice A6 r.Noise.length c6, .slice A7 r.Limits.length c7] 28)).alloc (.cells #[.slice A n c] 26)).alloc (.cells #[.slice A1 T.Spots.length d1, .slice A2 T.Inputs.length d2] 68)) (w.heap.size + 1 + 1) 68 #[.slice A1 T.Spots.length d1, .slice A2 T.Inputs.length d2] := by
    have q := Blk.new ((w.alloc (.cells #[.slice A0 r.Map.length c0, .int .i64 r.Div, .int .i64 r.Bx, .int .i64 r.By, .int .i64 r.Low, .int .i64 r.High, .slice A6 r.Noise.length c6, .slice A7 r.Limits.length c7] 28)).alloc (.cells #[.slice A n c] 26)) 68 #[.slice A1 T.Spots.length d1, .slice A2 T.Inputs.length d2]
    simpa only [World.size_alloc] using q
  clear hv ha hn hr hpk hr1 hr2 hsp hin hI hle hl hli
  have cbM_102 := fun o => bM.cell o
  have cbP_103 := fun o => bP.cell o
  have cbT_104 := fun o => bT.cell o
  go_enter Tryz.func28, Tryz.ntmps28
  go_wp2_with fail
  refine (HRo.out _ (HA.out.ext hx).at_).mono ?_
  rintro e w1 ⟨rfl, hx1⟩
  replace hx := hx.trans hx1
  replace bM := bM.ext hx1
  replace bP := bP.ext hx1
  replace bT := bT.ext hx1
  have cbM_105 := fun o => bM.cell o
  have cbP_106 := fun o => bP.cell o
  have cbT_107 := fun o => bT.cell o
  go_wp2_with fail
  refine (HO.out _ (HRw.out.ext hx)).mono ?_
  rintro e w2 ⟨rfl, hx2⟩
  replace hx := hx.trans hx2
  replace bM := bM.ext hx2
  replace bP := bP.ext hx2
  replace bT := bT.ext hx2
  have cbM_108 := fun o => bM.cell o
  have cbP_109 := fun o => bP.cell o
  have cbT_110 := fun o => bT.cell o
  go_wp2
  go_loopw [38] (fun i wr => ∃ k : Nat, k ≤ T.Spots.length ∧ i = .int .i64 k ∧ Ext w wr ∧ Blk wr w.heap.size 28 #[.slice A0 r.Map.length c0, .int .i64 r.Div, .int .i64 r.Bx, .int .i64 r.By, .int .i64 r.Low, .int .i64 r.High, .slice A6 r.Noise.length c6, .slice A7 r.Limits.length c7] ∧ Blk wr (w.heap.size + 1) 26 #[.slice A n c] ∧ Blk wr (w.heap.size + 1 + 1) 68 #[.slice A1 T.Spots.length d1, .slice A2 T.Inputs.length d2]) (fun i _ => T.Spots.length - (intOf i).toNat)
  case atStart => exact ⟨0, Nat.zero_le _, rfl, hx, bM, bP, bT⟩
  case round =>
  clear bM bP bT hx
  obtain ⟨k, hk, rfl, hx, bM, bP, bT⟩ := hrel
  by_cases hlt : k < T.Spots.length
  · obtain ⟨b1, o1, hA1, hb1, s0, s1, s2⟩ := (H1.out.ext hx).Spot (k := k) hlt
    subst hA1
    obtain ⟨p1, p2⟩ := HP.out k hlt
    obtain ⟨s, hs_⟩ : ∃ s, T.Spots[k]'hlt = s := ⟨_, rfl⟩
    rw [hs_] at s0 s1 s2 p1 p2
    clear hs_
    obtain ⟨i1, i2, i3⟩ := spot_I p1
    have HSk := Lib.hid (fun w => implSpotOk_any s.X s.Y s.D w i1 i2 i3)
    have e1 : spotOk ⟨s.X, s.Y, s.D⟩ = true := p1
    rw [e1] at HSk
    have HHo := Lib.hid (fun w hr => HH.out s w hr p1)
    rw [p2] at HHo
    clear p1 p2 e1 i1 i2 i3
    have bS := Blk.new wr 30 #[.int .i64 s.X, .int .i64 s.Y, .int .i64 s.D]
    have hA := (Ext.refl wr).alloc (.cells #[.int .i64 s.X, .int .i64 s.Y, .int .i64 s.D] 30)
    replace hx := hx.trans hA
    replace bM := bM.ext hA
    replace bP := bP.ext hA
    replace bT := bT.ext hA
    have cS := fun o => bS.cell o
    have cP := fun o => bP.cell o
    go_wp2_with fail
    refine (HSk.out _).mono ?_
    rintro e w3 ⟨rfl, hx3⟩
    replace hx := hx.trans hx3
    replace bM := bM.ext hx3
    replace bP := bP.ext hx3
    replace bT := bT.ext hx3
    replace bS := bS.ext hx3
    clear cS cP
    have cS := fun o => bS.cell o
    have cP := fun o => bP.cell o
    go_wp2_with fail
    refine (HHo.out _ (HRw.out.ext hx)).mono ?_
    rintro e w4 ⟨rfl, hx4⟩
    replace hx := hx.trans hx4
    replace bM := bM.ext hx4
    replace bP := bP.ext hx4
    replace bT := bT.ext hx4
    go_wp2
    go_roundw
    case rel => exact ⟨k + 1, by omega, by go_num, hx, bM, bP, bT⟩
    case measure => simp [intOf]; omega
  have cT := fun o => bT.cell o
  go_wp2
  clear cT
  go_loopw [55] (fun i wr => ∃ k : Nat, k ≤ T.Inputs.length ∧ i = .int .i64 k ∧ Ext w wr ∧ Blk wr w.heap.size 28 #[.slice A0 r.Map.length c0, .int .i64 r.Div, .int .i64 r.Bx, .int .i64 r.By, .int .i64 r.Low, .int .i64 r.High, .slice A6 r.Noise.length c6, .slice A7 r.Limits.length c7] ∧ Blk wr (w.heap.size + 1 + 1) 68 #[.slice A1 T.Spots.length d1, .slice A2 T.Inputs.length d2]) (fun i _ => T.Inputs.length - (intOf i).toNat)
  case atStart => exact ⟨0, Nat.zero_le _, rfl, hx, bM, bT⟩
  case round =>
  clear bM bP bT hx hlt hk
  obtain ⟨k, hk, rfl, hx, bM, bT⟩ := hrel
  by_cases hlt : k < T.Inputs.length
  rotate_left
  · go_wp2
    go_ret
    exact ⟨rfl, hx⟩
  have hk1 : k < T.Spots.length := by have := HL.out; omega
  have hk2 : k + 1 < T.Spots.length := by have := HL.out; omega
  obtain ⟨b1, o1, hA1, hb1, s0, s1, s2⟩ := (H1.out.ext hx).Spot (k := k) hk1
  obtain ⟨b1', o1', hA1', hb1', t0, t1, t2⟩ := (H1.out.ext hx).Spot (k := k + 1) hk2
  rw [hA1] at hA1'
  injection hA1' with e
  injection e with e1 e2
  subst e1 e2
  subst hA1
  obtain ⟨b2, o2, hA2, hb2, u0, u1⟩ := (H2.out.ext hx).Ratio (k := k) hlt
  subst hA2
  obtain ⟨g0, calm, g1, g2, g3, g4⟩ := HIn.out k hk1 hk2 hlt
  have ok1 := (HP.out k hk1).1
  have ok2 := (HP.out (k + 1) hk2).1
  obtain ⟨s, hs_⟩ : ∃ s, T.Spots[k]'hk1 = s := ⟨_, rfl⟩
  obtain ⟨so, hso_⟩ : ∃ s, T.Spots[k + 1]'hk2 = s := ⟨_, rfl⟩
  obtain ⟨u, hu_⟩ : ∃ u, T.Inputs[k]'hlt = u := ⟨_, rfl⟩
  rw [hs_] at s0 s1 s2 g1 ok1
  rw [hso_] at t0 t1 t2 g3 g4 ok2
  rw [hu_] at u0 u1 g0 g1
  clear hs_ hso_ hu_
  have HIu := Lib.hid (fun w => HI.out u w g0)
  have hui : I64 u.N ∧ I64 u.D := ratio_I (by unfold inRoom at g0; simp only [Bool.and_eq_true] at g0; exact g0.1.1)
  have HRu := Lib.hid (fun w ha => HR_.out s so calm u w ha (spot_I ok1) hui g1 g2 g3 ok2 g4)
  clear g0 g1 g2 g3 g4 ok1 ok2 hui
  have bU := Blk.new wr 44 #[.int .i64 u.N, .int .i64 u.D]
  have hA := (Ext.refl wr).alloc (.cells #[.int .i64 u.N, .int .i64 u.D] 44)
  have hk0 : (0 : Int) ≤ (k : Int) := by omega
  have hk3 : (k : Int) < (T.Spots.length : Int) := by omega
  have hk4 : (k : Int) + 1 < (T.Spots.length : Int) := by omega
  have hkw : IntKind.i64.wrap ((k : Int) + 1) = (k : Int) + 1 := IntWalk.i64_in _ (by omega)
  have hk5 : (0 : Int) ≤ (k : Int) + 1 := by omega
  have hcT := fun o => bT.cell o
  replace hx := hx.trans hA
  replace bM := bM.ext hA
  replace bT := bT.ext hA
  replace s0 := hA.cellOf s0
  replace s1 := hA.cellOf s1
  replace s2 := hA.cellOf s2
  replace t0 := hA.cellOf t0
  replace t1 := hA.cellOf t1
  replace t2 := hA.cellOf t2
  have cM := fun o => bM.cell o
  have cT := fun o => bT.cell o
  have cU := fun o => bU.cell o
  have hcur := Ext.refl (wr.alloc (.cells #[.int .i64 u.N, .int .i64 u.D] 44))
  go_wp2_with fail
  go_region_held3 (fun w' => w'.cell? ⟨w.heap.size, 0, none⟩ = some (.slice A0 r.Map.length c0) ∧ w'.cell? ⟨w.heap.size, 1, none⟩ = some (.int .i64 r.Div) ∧ w'.cell? ⟨w.heap.size, 2, none⟩ = some (.int .i64 r.Bx) ∧ w'.cell? ⟨w.heap.size, 3, none⟩ = some (.int .i64 r.By) ∧ w'.cell? ⟨w.heap.size, 4, none⟩ = some (.int .i64 r.Low) ∧ w'.cell? ⟨w.heap.size, 5, none⟩ = some (.int .i64 r.High) ∧ w'.cell? ⟨w.heap.size, 6, none⟩ = some (.slice A6 r.Noise.length c6) ∧ w'.cell? ⟨w.heap.size, 7, none⟩ = some (.slice A7 r.Limits.length c7) ∧ w'.cell? ⟨w.heap.size + 1 + 1, 0, none⟩ = some (.slice (some ⟨b1, o1, none⟩) T.Spots.length d1) ∧ w'.cell? ⟨wr.heap.size, 0, none⟩ = some (.int .i64 u.N) ∧ w'.cell? ⟨wr.heap.size, 1, none⟩ = some (.int .i64 u.D) ∧ w'.cell? ⟨b1, o1 + k * 3, none⟩ = some (.int .i64 s.X) ∧ w'.cell? ⟨b1, o1 + k * 3 + 1, none⟩ = some (.int .i64 s.Y) ∧ w'.cell? ⟨b1, o1 + k * 3 + 2, none⟩ = some (.int .i64 s.D) ∧ w'.cell? ⟨b1, o1 + (k + 1) * 3, none⟩ = some (.int .i64 so.X) ∧ w'.cell? ⟨b1, o1 + (k + 1) * 3 + 1, none⟩ = some (.int .i64 so.Y) ∧ w'.cell? ⟨b1, o1 + (k + 1) * 3 + 2, none⟩ = some (.int .i64 so.D))
    (go_keep)
    (first
      | (go_at_call 66; (with_reducible refine (HIu.out _).mono ?_); rintro e w9 ⟨rfl, hx9⟩; replace hcur := Ext.trans (by first | exact hcur | exact hcur.drew) hx9; have cM9 := fun o => (bM.ext hcur).cell o; have cT9 := fun o => (bT.ext hcur).cell o; have cU9 := fun o => (bU.ext hcur).cell o; have s09 := hcur.cellOf s0; have s19 := hcur.cellOf s1; have s29 := hcur.cellOf s2; have t09 := hcur.cellOf t0; have t19 := hcur.cellOf t1; have t29 := hcur.cellOf t2)
      | (go_at_call 70; (with_reducible refine (HRu.out _ (HA.out.ext (hx.trans (by first | exact hcur | exact hcur.drew)))).mono ?_); rintro e w9 ⟨rfl, hx9⟩; replace hcur := Ext.trans (by first | exact hcur | exact hcur.drew) hx9; have cM9 := fun o => (bM.ext hcur).cell o; have cT9 := fun o => (bT.ext hcur).cell o; have cU9 := fun o => (bU.ext hcur).cell o; have s09 := hcur.cellOf s0; have s19 := hcur.cellOf s1; have s29 := hcur.cellOf s2; have t09 := hcur.cellOf t0; have t19 := hcur.cellOf t1; have t29 := hcur.cellOf t2))
  all_goals
    have hxF := hx.trans hcur
    have bMF := bM.ext hcur
    have bTF := bT.ext hcur
    go_wp2
    go_roundw
    case rel => exact ⟨k + 1, by omega, by go_num, by first | exact hxF | exact hxF.drew, by first | exact bMF | exact bMF.ext (Ext.refl _).drew, by first | exact bTF | exact bTF.ext (Ext.refl _).drew⟩
    case measure => simp [intOf]; omega

end Go.Proofs.YtjghabbcjpfjeaaGreatDoor
/- Plain words: a step with a corner of whole coordinates is right in the sense of TrackOk. -/
namespace Go.Proofs.YtjghabbcjpfjeaaGreatDoor
set_option linter.unusedVariables false

theorem low_gcd1 {x y d : Int} (hd : 0 < d) (h : gcd3 x y d = 1) : lowSpot x y d = ⟨x, y, d⟩ := by
  unfold lowSpot
  rw [h]
  simp
theorem low_spotOk {x y d : Int} (hd : 0 < d) (hd2 : d ≤ 5000000000) (h1 : -(1000 * d) ≤ x ∧ x ≤ 1000 * d) (h2 : -(1000 * d) ≤ y ∧ y ≤ 1000 * d) : spotOk (lowSpot x y d) = true := by
  obtain ⟨e1, e2, e3⟩ := low_mul x y d
  have hg := low_gcd (x := x) (y := y) hd
  have hp := low_pos (x := x) (y := y) hd
  have hgp : (0 : Int) < (gcd3 x y d : Int) := by have := gcd3_pos (x := x) (y := y) hd; omega
  generalize lowSpot x y d = s at *
  generalize (gcd3 x y d : Int) = g at *
  have le : ∀ u v : Int, u * g ≤ v * g → u ≤ v := fun u v h => Int.le_of_mul_le_mul_right h hgp
  have k0 : s.D * 1 ≤ s.D * g := Int.mul_le_mul_of_nonneg_left (by omega) (by omega)
  have k1 : (1000 * s.D) * g = 1000 * d := by rw [← e3]; grind
  have k2 : (-(1000 * s.D)) * g = -(1000 * d) := by rw [← e3]; grind
  unfold spotOk inR
  simp only [Bool.and_eq_true, decide_eq_true_eq]
  refine ⟨⟨⟨⟨by omega, by omega⟩, le _ _ (by omega), le _ _ (by omega)⟩, le _ _ (by omega), le _ _ (by omega)⟩, ?_⟩
  unfold gcd3 at hg
  exact hg
/-- whole steps leave the denominator -/
theorem low_shift {x y d : Int} (hd : 0 < d) (a b : Int) : lowSpot (x + a * d) (y + b * d) d = ⟨(lowSpot x y d).X + a * (lowSpot x y d).D, (lowSpot x y d).Y + b * (lowSpot x y d).D, (lowSpot x y d).D⟩ := by
  obtain ⟨e1, e2, e3⟩ := low_mul x y d
  have hg := low_gcd (x := x) (y := y) hd
  have hp := low_pos (x := x) (y := y) hd
  generalize lowSpot x y d = s at *
  generalize (gcd3 x y d : Int) = g at *
  have hs : gcd3 (s.X + a * s.D) (s.Y + b * s.D) s.D = 1 := by
    have h1 : ∀ n : Nat, (n : Int) ∣ s.X + a * s.D → (n : Int) ∣ s.Y + b * s.D → (n : Int) ∣ s.D → n ∣ 1 := fun n k1 k2 k3 => by
      have q1 : (n : Int) ∣ s.X := by
        have := Int.dvd_sub k1 (Int.dvd_mul_of_dvd_right k3 (b := a))
        rwa [show s.X + a * s.D - a * s.D = s.X by omega] at this
      have q2 : (n : Int) ∣ s.Y := by
        have := Int.dvd_sub k2 (Int.dvd_mul_of_dvd_right k3 (b := b))
        rwa [show s.Y + b * s.D - b * s.D = s.Y by omega] at this
      rw [← hg]
      unfold gcd3
      refine Nat.dvd_gcd ?_ (by have := Int.natAbs_dvd_natAbs.2 k3; rwa [Int.natAbs_natCast] at this)
      exact Int.dvd_gcd q1 q2
    obtain ⟨k1, k2, k3⟩ := gcd3_dvd (s.X + a * s.D) (s.Y + b * s.D) s.D
    exact Nat.dvd_one.1 (h1 _ k1 k2 k3)
  rw [← low_gcd1 hp hs]
  rw [low_eq hd hp]
  constructor <;> rw [← e3] <;> grind
/-- a step with a whole corner is right -/
theorem step_right {r : Room} (hv : RoomV r) {ps : List Half} {s t : Spot} {n : Int} {x : Spot × Ratio} (ht : t ∈ cornL r.Noise) (htd : t.D = 1) (h : stepR r ps s n t = some x) (hD : x.1.D ≤ 100000) : RightAt r s x.2 x.1 := by
  unfold stepR at h
  split at h
  · rename_i hc
    injection h with h
    subst h
    have hsp := admAt_span hc.2.1
    obtain ⟨p1, p2⟩ := pick_in hsp n
    have ha := admAt_in hv hc.1 hc.2.1 (pickInput_ok hsp n) p1 p2
    have hn := hc.2.2
    generalize pickInput (admAtR r ps s).1 n = u at *
    have hok : nextOk s t u = true := by
      cases e : nextOk s t u
      · rw [nextR_no e] at hn; cases hn
      · rfl
    have hst := StepS.of hv.dyn.1 hok
    have b := hst.bd
    have hk0 : nextOk s ⟨0, 0, 1⟩ u = true := by
      unfold nextOk at hok ⊢
      simp only [Bool.and_eq_true, decide_eq_true_eq] at hok ⊢
      exact ⟨⟨⟨⟨⟨hok.1.1.1.1.1, by decide⟩, hok.1.1.1.2⟩, by decide⟩, hok.1.2⟩, hok.2⟩
    have hP : (pushed (dynOf r) s u).D = mapD (dynOf r) s * u.D := rfl
    have hPx : (pushed (dynOf r) s u).X = mapX (dynOf r) s * u.D + (dynOf r).bx * u.N * mapD (dynOf r) s := rfl
    have hPy : (pushed (dynOf r) s u).Y = mapY (dynOf r) s * u.D + (dynOf r).by_ * u.N * mapD (dynOf r) s := rfl
    have hdu := b.du
    -- the calm point
    obtain ⟨hpn, hpk, hpe⟩ := erode_parts ha.er ha.ne
    have hW := shape_of hv.noise hv.noiseN
    have hallE : (ps.map fun x => (erodeH r.Noise x).1).all halfOk = true := List.all_eq_true.2 fun x hx => by
      obtain ⟨y, hy, rfl⟩ := List.mem_map.1 hx
      exact halfOfZ_ok (hpk y hy)
    have hfr := made_follows hallE (by rw [← hpe]; exact ha.ne) (s := pushed (dynOf r) s u) (by rw [hP]; omega) (by rw [← hpe]; exact ha.keep)
    have w1 := hfr ⟨1, 0, 1000⟩ (List.mem_append_left _ (by simp [frame]))
    have w2 := hfr ⟨0, 1, 1000⟩ (List.mem_append_left _ (by simp [frame]))
    have w3 := hfr ⟨-1, 0, 1000⟩ (List.mem_append_left _ (by simp [frame]))
    have w4 := hfr ⟨0, -1, 1000⟩ (List.mem_append_left _ (by simp [frame]))
    unfold inH at w1 w2 w3 w4
    simp only at w1 w2 w3 w4
    have hck : spotOk (lowSpot (pushed (dynOf r) s u).X (pushed (dynOf r) s u).Y (pushed (dynOf r) s u).D) = true := low_spotOk (by rw [hP]; omega) (by rw [hP]; omega) (by omega) (by omega)
    have sX : stepX (dynOf r) s ⟨0, 0, 1⟩ u = (pushed (dynOf r) s u).X := by unfold stepX; rw [hPx]; simp
    have sY : stepY (dynOf r) s ⟨0, 0, 1⟩ u = (pushed (dynOf r) s u).Y := by unfold stepY; rw [hPy]; simp
    have sD : stepD (dynOf r) s ⟨0, 0, 1⟩ u = (pushed (dynOf r) s u).D := by unfold stepD; rw [hP]; simp
    have b0 := (StepS.of hv.dyn.1 hk0).bd
    have hcalm : nextR (dynOf r) s u ⟨0, 0, 1⟩ = (lowSpot (pushed (dynOf r) s u).X (pushed (dynOf r) s u).Y (pushed (dynOf r) s u).D, true) := by
      rw [nextR_yes hk0, sX, sY, sD]
      exact spotOf_yes ⟨by rw [hP]; omega, least_not (by rw [hP] at w1 w3; omega), least_not (by rw [hP] at w2 w4; omega), hck⟩
    have tX : stepX (dynOf r) s t u = (pushed (dynOf r) s u).X + t.X * (pushed (dynOf r) s u).D := by unfold stepX; rw [hPx, hP, htd]; grind
    have tY : stepY (dynOf r) s t u = (pushed (dynOf r) s u).Y + t.Y * (pushed (dynOf r) s u).D := by unfold stepY; rw [hPy, hP, htd]; grind
    have tD : stepD (dynOf r) s t u = (pushed (dynOf r) s u).D := by unfold stepD; rw [hP, htd]; grind
    have hso : (nextR (dynOf r) s u t).1 = ⟨(lowSpot (pushed (dynOf r) s u).X (pushed (dynOf r) s u).Y (pushed (dynOf r) s u).D).X + t.X * (lowSpot (pushed (dynOf r) s u).X (pushed (dynOf r) s u).Y (pushed (dynOf r) s u).D).D, (lowSpot (pushed (dynOf r) s u).X (pushed (dynOf r) s u).Y (pushed (dynOf r) s u).D).Y + t.Y * (lowSpot (pushed (dynOf r) s u).X (pushed (dynOf r) s u).Y (pushed (dynOf r) s u).D).D, (lowSpot (pushed (dynOf r) s u).X (pushed (dynOf r) s u).Y (pushed (dynOf r) s u).D).D⟩ := by
      have hn' := hn
      rw [nextR_yes hok] at hn' ⊢
      have hl : (spotOf (stepX (dynOf r) s t u) (stepY (dynOf r) s t u) (stepD (dynOf r) s t u)).1 = lowSpot (stepX (dynOf r) s t u) (stepY (dynOf r) s t u) (stepD (dynOf r) s t u) := by
        unfold spotOf at hn' ⊢
        split at hn'
        · rename_i hc2; rw [if_pos hc2]
        · cases hn'
      rw [hl, tX, tY, tD, low_shift (by rw [hP]; omega)]
    have hp0 := low_pos (x := (pushed (dynOf r) s u).X) (y := (pushed (dynOf r) s u).Y) (d := (pushed (dynOf r) s u).D) (by rw [hP]; omega)
    generalize lowSpot (pushed (dynOf r) s u).X (pushed (dynOf r) s u).Y (pushed (dynOf r) s u).D = calm at *
    dsimp only at hD ⊢
    rw [hso] at hD ⊢
    simp only at hD
    refine ⟨ha.room, calm, hcalm, hD, hD, fun h hh => ?_⟩
    have hi := hW.cornIn t ht h (hW.sub h hh)
    unfold inH at hi
    rw [htd] at hi
    simp only
    have q := Int.mul_le_mul_of_nonneg_right (Int.mul_le_mul_of_nonneg_right hi (Int.le_of_lt hp0)) (Int.le_of_lt hp0)
    have g1 : h.A * ((calm.X + t.X * calm.D) * calm.D - calm.X * calm.D) + h.B * ((calm.Y + t.Y * calm.D) * calm.D - calm.Y * calm.D) = (h.A * t.X + h.B * t.Y) * calm.D * calm.D := by grind
    have g2 : h.C * calm.D * calm.D = h.C * 1 * calm.D * calm.D := by grind
    omega
  · cases h
end Go.Proofs.YtjghabbcjpfjeaaGreatDoor
