/- Contract of RunLoop of the program. (written by tools/mkRl.py) -/
import Derived.Test.YtbbdipfioopfmaaGreatTk
import Derived.Test.YtbbdipfioopfmaaGreatRf
import Derived.Deep.CutRange
import Derived.Deep.RegionHeld3
import Derived.Maps.AppendAt
namespace Go.Proofs.YtbbdipfioopfmaaGreat
open Go.ChangeShapes Go.WideShapes Go.ChangeAt Go.RowKit
set_option linter.unusedVariables false
set_option maxRecDepth 100000

theorem ratio_info_ : (Tryz.prog.info? 74).map (fun i => (i.zero, i.size, i.bytes)) = some (some (.agg #[.int .i64 0, .int .i64 0]), 2, 16) := by kernel_rfl
theorem blk_new1 (V : World) (o : Obj) (t : TypeId) (cs : Array Value) : Blk ((V.alloc o).alloc (.cells cs t)) (V.heap.size + 1) t cs := by simpa only [World.size_alloc] using Blk.new (V.alloc o) t cs
theorem ext_set2 {w V : World} {g : Nat} (h : Ext w V) (hg : w.heap.size ≤ g) (a b : Value) : Ext w ((V.setCell ⟨g, 0, none⟩ a).setCell ⟨g, 1, none⟩ b) :=
  (h.setCell (p := ⟨g, 0, none⟩) hg _).setCell (p := ⟨g, 1, none⟩) hg _
theorem own_blk {w : World} {g n s : Nat} {t : TypeId} {cs : Array Value} (h : Blk w g t cs) (hn : cs.size = n * s) (hm : n ≤ maxLen) : w.ownsRow g t s (.slice (some ⟨g, 0, none⟩) n n) n cs.toList :=
  ⟨by rw [Array.length_toList, hn], .inr ⟨g, n, cs, rfl, Nat.le_refl _, h, Nat.le_refl _, hm, hn, List.take_of_length_le (by rw [Array.length_toList, hn]; exact Nat.le_refl _)⟩⟩
theorem Blk.grown {w w' : World} {g : Nat} {t : TypeId} {cs : Array Value} {row : Option Nat} (b : Blk w g t cs) (h : w.grownBy w' row) (hr : row ≠ some g) : Blk w' g t cs := (h.block g b.lt (fun e => hr e.symm)).trans b
theorem own_off {w : World} {base n : Nat} {e : TypeId} {s : Nat} {v : Value} {cs : List Value} (h : w.ownsRow base e s v n cs) {p : Addr} (hp : v.ownBlock ≠ some p.block) (u : Value) : (w.setCell p u).ownsRow base e s v n cs := by
  obtain ⟨h1, h2⟩ := h
  refine ⟨h1, ?_⟩
  rcases h2 with h2 | ⟨g, cap, cur, hv, hg, hh, r⟩
  · exact .inl h2
  · refine .inr ⟨g, cap, cur, hv, hg, ?_, r⟩
    have hne : g ≠ p.block := fun e => hp (by rw [hv, ← e]; rfl)
    exact (Below.heap_setCell w p u g hne).trans hh
theorem ratios_add (l : List Ratio) (u : Ratio) : ints (flat Ratio.ints (l ++ [u])) = ints (flat Ratio.ints l) ++ ints (Ratio.ints u) := by
  unfold flat
  rw [List.flatMap_append, ints_append]
  congr 1
/-- a spot and a fraction of the region's own, wherever they lie -/
def SpotRat (x u : List Value) (V : World) (p q : Value) (wx : World) : Prop := ∃ b1 b2 : Nat, p = .pointer (some ⟨b1, 0, none⟩) ∧ q = .pointer (some ⟨b2, 0, none⟩) ∧ V.heap.size ≤ b1 ∧ V.heap.size ≤ b2 ∧ b1 ≠ b2 ∧ Ext V wx ∧ Blk wx b1 47 x.toArray ∧ Blk wx b2 74 u.toArray
section
variable {w V : World} {g k : Nat} {x1 x2 x3 u1 u2 : Value}
theorem SpotRat.ab (h : Ext w V) : SpotRat [x1, x2, x3] [u1, u2] w (.pointer (some ⟨V.heap.size, 0, none⟩)) (.pointer (some ⟨V.heap.size + 1, 0, none⟩)) ((V.alloc (.cells #[x1, x2, x3] 47)).alloc (.cells #[u1, u2] 74)) :=
  ⟨_, _, rfl, rfl, h.size, by have := h.size; omega, by omega, (h.alloc _).alloc _, (Blk.new V _ _).alloc _, blk_new1 V _ _ _⟩
theorem SpotRat.ba (h : Ext w V) : SpotRat [x1, x2, x3] [u1, u2] w (.pointer (some ⟨V.heap.size + 1, 0, none⟩)) (.pointer (some ⟨V.heap.size, 0, none⟩)) ((V.alloc (.cells #[u1, u2] 74)).alloc (.cells #[x1, x2, x3] 47)) :=
  ⟨_, _, rfl, rfl, by have := h.size; omega, h.size, by omega, (h.alloc _).alloc _, blk_new1 V _ _ _, (Blk.new V _ _).alloc _⟩
theorem SpotRat.a (h : Ext w V) (hg : w.heap.size ≤ g) (hl : g < V.heap.size) (b : Blk V g 47 #[.int .i64 0, .int .i64 0, .int .i64 0]) : SpotRat [x1, x2, x3] [u1, u2] w (.pointer (some ⟨g, 0, none⟩)) (.pointer (some ⟨V.heap.size, 0, none⟩)) ((((V.setCell ⟨g, 0, none⟩ x1).setCell ⟨g, 1, none⟩ x2).setCell ⟨g, 2, none⟩ x3).alloc (.cells #[u1, u2] 74)) :=
  ⟨_, _, rfl, rfl, hg, h.size, by omega, (ext_set3 h hg _ _ _).alloc _, (((b.set_ 0 x1).set_ 1 x2).set_ 2 x3).alloc _, by simpa only [World.size_setCell] using Blk.new (((V.setCell ⟨g, 0, none⟩ x1).setCell ⟨g, 1, none⟩ x2).setCell ⟨g, 2, none⟩ x3) 74 #[u1, u2]⟩
theorem SpotRat.b (h : Ext w V) (hg : w.heap.size ≤ g) (hl : g < V.heap.size) (b : Blk V g 74 #[.int .i64 0, .int .i64 0]) : SpotRat [x1, x2, x3] [u1, u2] w (.pointer (some ⟨V.heap.size, 0, none⟩)) (.pointer (some ⟨g, 0, none⟩)) (((V.setCell ⟨g, 0, none⟩ u1).setCell ⟨g, 1, none⟩ u2).alloc (.cells #[x1, x2, x3] 47)) :=
  ⟨_, _, rfl, rfl, h.size, hg, by omega, ((h.setCell (p := ⟨g, 0, none⟩) hg _).setCell (p := ⟨g, 1, none⟩) hg _).alloc _, by simpa only [World.size_setCell] using Blk.new ((V.setCell ⟨g, 0, none⟩ u1).setCell ⟨g, 1, none⟩ u2) 47 #[x1, x2, x3], ((b.set_ 0 u1).set_ 1 u2).alloc _⟩
theorem SpotRat.two (h : Ext w V) (hg : w.heap.size ≤ g) (hk : w.heap.size ≤ k) (hne : g ≠ k) (b : Blk V g 47 #[.int .i64 0, .int .i64 0, .int .i64 0]) (b' : Blk V k 74 #[.int .i64 0, .int .i64 0]) : SpotRat [x1, x2, x3] [u1, u2] w (.pointer (some ⟨g, 0, none⟩)) (.pointer (some ⟨k, 0, none⟩)) (((((V.setCell ⟨g, 0, none⟩ x1).setCell ⟨g, 1, none⟩ x2).setCell ⟨g, 2, none⟩ x3).setCell ⟨k, 0, none⟩ u1).setCell ⟨k, 1, none⟩ u2) :=
  ⟨_, _, rfl, rfl, hg, hk, hne, h.tt hg hk _ _ _ _ _, (Blk.tt hne b b' _ _ _ _ _).1, (Blk.tt hne b b' _ _ _ _ _).2⟩
end
theorem stepV_form (X : Option (Spot × Ratio)) : ∃ (x1 x2 x3 u1 u2 : Int) (ok : Bool), stepV X = .tuple #[.agg #[.int .i64 x1, .int .i64 x2, .int .i64 x3], .agg #[.int .i64 u1, .int .i64 u2], .bool ok] ∧ (ok = false → X = none) ∧ (ok = true → X = some (⟨x1, x2, x3⟩, ⟨u1, u2⟩)) := by
  cases X with
  | none => exact ⟨0, 0, 0, 0, 0, false, rfl, fun _ => rfl, fun h => by cases h⟩
  | some x => exact ⟨x.1.X, x.1.Y, x.1.D, x.2.N, x.2.D, true, rfl, (fun h => by cases h), fun _ => rfl⟩
theorem spotOf_ok {x y d : Int} (h : (spotOf x y d).2 = true) : spotOk (spotOf x y d).1 = true := by
  unfold spotOf at h ⊢
  split at h
  · rename_i hc
    rw [if_pos hc]
    exact hc.2.2.2
  · cases h
theorem nextR_ok {r : Dyn} {s t : Spot} {u : Ratio} (h : (nextR r s u t).2 = true) : spotOk (nextR r s u t).1 = true := by
  unfold nextR at h ⊢
  split at h
  · rename_i hc
    rw [if_pos hc]
    exact spotOf_ok h
  · cases h
theorem stepR_ok {r : Room} {ps : List Half} {s t : Spot} {n : Int} {x : Spot × Ratio} (h : stepR r ps s n t = some x) : spotOk x.1 = true ∧ ratioOk x.2 = true := by
  unfold stepR at h
  split at h
  · rename_i hc
    injection h with h
    subst h
    exact ⟨nextR_ok hc.2.2, pickInput_ok (admAt_span hc.2.1) n⟩
  · cases h
theorem trackAll_zero {r : Room} {ps : List Half} {s : Spot} {ws : List Int} {ns : List Spot} (h : ws.length = 0) : trackAll r ps s ws ns = (⟨[s], []⟩, true) := trackAll_some (by rw [h]; rfl)
theorem trackAll_stop {r : Room} {ps : List Half} {s : Spot} {ws : List Int} {ns : List Spot} (h : 0 < ws.length) (hr : (robR ps r.Noise).2 = false) : trackAll r ps s ws ns = (noTrack, false) := by
  refine trackAll_none (k := 1) ?_ h
  have e : stepR r ps s (ws.getD 0 0) (ns.getD (0 % ns.length) ⟨0, 0, 0⟩) = none := stepR_no fun q => by
    have q1 := q.2.1
    rw [admAt_no (fun q2 => by
      unfold robR at hr
      simp only [q2.1, decide_eq_false q2.2.1] at hr
      cases hr)] at q1
    cases q1
  rw [trackK, trackK]
  change (match stepR r ps s (ws.getD 0 0) (ns.getD (0 % ns.length) ⟨0, 0, 0⟩) with | none => none | some x => _) = none
  rw [e]

set_option maxHeartbeats 32000000 in
theorem implRunLoop_any (r : Room) (A0 A6 A7 : Option Addr) (c0 c6 c7 : Nat) (A : Option Addr) (n c : Nat) (ps : List Half) (s : Spot) (Aw : Option Addr) (cw : Nat) (ws : List Int) (An : Option Addr) (cn : Nat) (ns : List Spot) (w : World) (ha : RoomHere w r A0 A6 A7 c0 c6 c7) (hFI : roomFI r) (hRL : RoomL r) (hn : ps.length = n) (hr : Row w A (ints (flat Half.ints ps))) (hI : HalvesI ps) (hle : n ≤ maxLen) (hs : I64 s.X ∧ I64 s.Y ∧ I64 s.D) (hw : Row w Aw (ints ws)) (hwl : ws.length ≤ maxLen) (hnr : Row w An (ints (flat Spot.ints ns))) (hnl : ns.length ≤ maxLen) (hNI : ∀ x ∈ ns, I64 x.X ∧ I64 x.Y ∧ I64 x.D) :
    Calls Tryz.prog 29 #[.agg #[.slice A0 r.Map.length c0, .int .i64 r.Div, .int .i64 r.Bx, .int .i64 r.By, .int .i64 r.Low, .int .i64 r.High, .slice A6 r.Noise.length c6, .slice A7 r.Limits.length c7], .agg #[.slice A n c], .agg #[.int .i64 s.X, .int .i64 s.Y, .int .i64 s.D], .slice Aw ws.length cw, .slice An ns.length cn] w (TrackMade (trackR r ps s ws ns) w) := by
  have HHS := Lib.hid (fun w hr => implHasSpot_any A n c ps s w hn hr hI hle hs)
  have HRo := Lib.hid (fun w ha => implRoomOk_any r A0 A6 A7 c0 c6 c7 w ha hFI hRL)
  have HRb := Lib.hid (fun hv hp w ha hr => implRobustOf_ok r A0 A6 A7 c0 c6 c7 A n c ps w hv ha hn hr hp)
  have HSt := Lib.hid (fun hv A3 n3 c3 E s t z w ha hn hr hE hne hs ht => implStep0_ok r A0 A6 A7 c0 c6 c7 A3 n3 c3 ps E s t z w hv ha hn hr hE hne hs ht)
  have HV : Hid (roomOk r = true → RoomV r) := room_valid
  have HX : Hid (runOk r ps s ws ns = (decide (ws.length ≤ 20) && !decide (ns.length = 0) && hasSpot ps s && roomOk r)) := rfl
  have HNo := Lib.hid (fun h => trackR_no (r := r) (ps := ps) (s := s) (ws := ws) (ns := ns) h)
  have HYes := Lib.hid (fun h => trackR_yes (r := r) (ps := ps) (s := s) (ws := ws) (ns := ns) h)
  have HHp : Hid (hasSpot ps s = true → regOk ps = true ∧ spotOk s = true) := fun h => by
    unfold hasSpot at h
    simp only [Bool.and_eq_true] at h
    exact h.1
  have HA := Lib.hid ha
  have HR := Lib.hid hr
  have HW := Lib.hid hw
  have HNr := Lib.hid hnr
  have HNI := Lib.hid hNI
  unfold maxLen at hwl hnl
  have hx : Ext w ((((w.alloc (.cells #[.slice A0 r.Map.length c0, .int .i64 r.Div, .int .i64 r.Bx, .int .i64 r.By, .int .i64 r.Low, .int .i64 r.High, .slice A6 r.Noise.length c6, .slice A7 r.Limits.length c7] 44)).alloc (.cells #[.slice A n c] 42)).alloc (.cells #[.int .i64 s.X, .int .i64 s.Y, .int .i64 s.D] 47)).alloc (.cells #[.slice none 0 0, .slice none 0 0] 37)) := by repeat (first | exact Ext.refl _ | refine Ext.alloc ?_ _)
  have bM : Blk ((((w.alloc (.cells #[.slice A0 r.Map.length c0, .int .i64 r.Div, .int .i64 r.Bx, .int .i64 r.By, .int .i64 r.Low, .int .i64 r.High, .slice A6 r.Noise.length c6, .slice A7 r.Limits.length c7] 44)).alloc (.cells #[.slice A n c] 42)).alloc (.cells #[.int .i64 s.X, .int .i64 s.Y, .int .i64 s.D] 47)).alloc (.cells #[.slice none 0 0, .slice none 0 0] 37)) (w.heap.size) 44 #[.slice A0 r.Map.length c0, .int .i64 r.Div, .int .i64 r.Bx, .int .i64 r.By, .int .i64 r.Low, .int .i64 r.High, .slice A6 r.Noise.length c6, .slice A7 r.Limits.length c7] := by
    have q := Blk.new w 44 #[.slice A0 r.Map.length c0, .int .i64 r.Div, .int .i64 r.Bx, .int .i64 r.By, .int .i64 r.Low, .int .i64 r.High, .slice A6 r.Noise.length c6, .slice A7 r.Limits.length c7]
    replace q := q.alloc (.cells #[.slice A n c] 42)
    replace q := q.alloc (.cells #[.int .i64 s.X, .int .i64 s.Y, .int .i64 s.D] 47)
    replace q := q.alloc (.cells #[.slice none 0 0, .slice none 0 0] 37)
    simpa only [World.size_alloc] using q
  have bP : Blk ((((w.alloc (.cells #[.slice A0 r.Map.length c0, .int .i64 r.Div, .int .i64 r.Bx, .int .i64 r.By, .int .i64 r.Low, .int .i64 r.High, .slice A6 r.Noise.length c6, .slice A7 r.Limits.length c7] 44)).alloc (.cells #[.slice A n c] 42)).alloc (.cells #[.int .i64 s.X, .int .i64 s.Y, .int .i64 s.D] 47)).alloc (.cells #[.slice none 0 0, .slice none 0 0] 37)) (w.heap.size + 1) 42 #[.slice A n c] := by
    have q := Blk.new (w.alloc (.cells #[.slice A0 r.Map.length c0, .int .i64 r.Div, .int .i64 r.Bx, .int .i64 r.By, .int .i64 r.Low, .int .i64 r.High, .slice A6 r.Noise.length c6, .slice A7 r.Limits.length c7] 44)) 42 #[.slice A n c]
    replace q := q.alloc (.cells #[.int .i64 s.X, .int .i64 s.Y, .int .i64 s.D] 47)
    replace q := q.alloc (.cells #[.slice none 0 0, .slice none 0 0] 37)
    simpa only [World.size_alloc] using q
  have bS : Blk ((((w.alloc (.cells #[.slice A0 r.Map.length c0, .int .i64 r.Div, .int .i64 r.Bx, .int .i64 r.By, .int .i64 r.Low, .int .i64 r.High, .slice A6 r.Noise.length c6, .slice A7 r.Limits.length c7] 44)).alloc (.cells #[.slice A n c] 42)).alloc (.cells #[.int .i64 s.X, .int .i64 s.Y, .int .i64 s.D] 47)).alloc (.cells #[.slice none 0 0, .slice none 0 0] 37)) (w.heap.size + 1 + 1) 47 #[.int .i64 s.X, .int .i64 s.Y, .int .i64 s.D] := by
    have q := Blk.new ((w.alloc (.cells #[.slice A0 r.Map.length c0, .int .i64 r.Div, .int .i64 r.Bx, .int .i64 r.By, .int .i64 r.Low, .int .i64 r.High, .slice A6 r.Noise.length c6, .slice A7 r.Limits.length c7] 44)).alloc (.cells #[.slice A n c] 42)) 47 #[.int .i64 s.X, .int .i64 s.Y, .int .i64 s.D]
    replace q := q.alloc (.cells #[.slice none 0 0, .slice none 0 0] 37)
    simpa only [World.size_alloc] using q
  have bA : Blk ((((w.alloc (.cells #[.slice A0 r.Map.length c0, .int .i64 r.Div, .int .i64 r.Bx, .int .i64 r.By, .int .i64 r.Low, .int .i64 r.High, .slice A6 r.Noise.length c6, .slice A7 r.Limits.length c7] 44)).alloc (.cells #[.slice A n c] 42)).alloc (.cells #[.int .i64 s.X, .int .i64 s.Y, .int .i64 s.D] 47)).alloc (.cells #[.slice none 0 0, .slice none 0 0] 37)) (w.heap.size + 1 + 1 + 1) 37 #[.slice none 0 0, .slice none 0 0] := by
    have q := Blk.new (((w.alloc (.cells #[.slice A0 r.Map.length c0, .int .i64 r.Div, .int .i64 r.Bx, .int .i64 r.By, .int .i64 r.Low, .int .i64 r.High, .slice A6 r.Noise.length c6, .slice A7 r.Limits.length c7] 44)).alloc (.cells #[.slice A n c] 42)).alloc (.cells #[.int .i64 s.X, .int .i64 s.Y, .int .i64 s.D] 47)) 37 #[.slice none 0 0, .slice none 0 0]
    simpa only [World.size_alloc] using q
  clear ha hFI hRL hn hr hI hle hs hw hnr hNI
  generalize trackR r ps s ws ns = TR at *
  obtain ⟨o1, ho1⟩ : ∃ o, hasSpot ps s = o := ⟨_, rfl⟩
  obtain ⟨o2, ho2⟩ : ∃ o, roomOk r = o := ⟨_, rfl⟩
  rw [ho1] at HHS HX HHp
  rw [ho2] at HRo HX HV
  clear ho1 ho2
  have cA := fun o => bA.cell o
  have cbM_1 := fun o => bM.cell o
  have cbP_2 := fun o => bP.cell o
  have cbS_3 := fun o => bS.cell o
  have cbA_4 := fun o => bA.cell o
  have fbA_4 := fun o => bA.frozen o
  go_enter Tryz.func29, Tryz.ntmps29
  by_cases h1 : (20 : Int) < (ws.length : Int)
  · have H := Lib.hid (HNo.out (by rw [HX.out]; rw [decide_eq_false (show ¬ ws.length ≤ 20 by omega)]; simp))
    go_wp2
    have bF := ((bA.set_ 0 (.slice none 0 0)).set_ 1 (.slice none 0 0))
    have cF := fun o => bF.cell o
    clear cA
    refine bodyPost_ret (v := .tuple #[.agg #[.slice none 0 0, .slice none 0 0], .bool false]) (by first | (simp [results, Tryz.results29, go_sem]; done) | simp [results, Tryz.results29, go_sem, cF]) rfl ?_
    first | (with_reducible exact TrackMade.no H.out rfl hx) | exact TrackMade.no H.out rfl ((ext_set2 hx (by omega) _ _))
  by_cases h2 : ns.length = 0
  · have H := Lib.hid (HNo.out (by rw [HX.out]; rw [decide_eq_true h2]; simp))
    go_wp2
    have bF := ((bA.set_ 0 (.slice none 0 0)).set_ 1 (.slice none 0 0))
    have cF := fun o => bF.cell o
    clear cA
    refine bodyPost_ret (v := .tuple #[.agg #[.slice none 0 0, .slice none 0 0], .bool false]) (by first | (simp [results, Tryz.results29, go_sem]; done) | simp [results, Tryz.results29, go_sem, cF]) rfl ?_
    first | (with_reducible exact TrackMade.no H.out rfl hx) | exact TrackMade.no H.out rfl ((ext_set2 hx (by omega) _ _))
  have h2i : ¬ (ns.length : Int) = 0 := by omega
  have h2b : ((ns.length : Int) == 0) = false := beq_false_of_ne h2i
  go_wp2_with fail
  refine (HHS.out _ (HR.out.ext hx)).mono ?_
  rintro e w1 ⟨rfl, hx1⟩
  replace hx := hx.trans hx1
  replace bM := bM.ext hx1
  replace bP := bP.ext hx1
  replace bS := bS.ext hx1
  replace bA := bA.ext hx1
  have cbM_5 := fun o => bM.cell o
  have cbP_6 := fun o => bP.cell o
  have cbS_7 := fun o => bS.cell o
  have cbA_8 := fun o => bA.cell o
  have fbA_8 := fun o => bA.frozen o
  cases o1
  · have H := Lib.hid (HNo.out (by rw [HX.out]; simp))
    go_wp2
    have bF := ((bA.set_ 0 (.slice none 0 0)).set_ 1 (.slice none 0 0))
    have cF := fun o => bF.cell o
    clear cA
    refine bodyPost_ret (v := .tuple #[.agg #[.slice none 0 0, .slice none 0 0], .bool false]) (by first | (simp [results, Tryz.results29, go_sem]; done) | simp [results, Tryz.results29, go_sem, cF]) rfl ?_
    first | (with_reducible exact TrackMade.no H.out rfl hx) | exact TrackMade.no H.out rfl ((ext_set2 hx (by omega) _ _))
  go_wp2_with fail
  refine (HRo.out _ (HA.out.ext hx).at_).mono ?_
  rintro e w2 ⟨rfl, hx2⟩
  replace hx := hx.trans hx2
  replace bM := bM.ext hx2
  replace bP := bP.ext hx2
  replace bS := bS.ext hx2
  replace bA := bA.ext hx2
  have cbM_9 := fun o => bM.cell o
  have cbP_10 := fun o => bP.cell o
  have cbS_11 := fun o => bS.cell o
  have cbA_12 := fun o => bA.cell o
  have fbA_12 := fun o => bA.frozen o
  cases o2
  · have H := Lib.hid (HNo.out (by rw [HX.out]; simp))
    go_wp2
    have bF := ((bA.set_ 0 (.slice none 0 0)).set_ 1 (.slice none 0 0))
    have cF := fun o => bF.cell o
    clear cA
    refine bodyPost_ret (v := .tuple #[.agg #[.slice none 0 0, .slice none 0 0], .bool false]) (by first | (simp [results, Tryz.results29, go_sem]; done) | simp [results, Tryz.results29, go_sem, cF]) rfl ?_
    first | (with_reducible exact TrackMade.no H.out rfl hx) | exact TrackMade.no H.out rfl ((ext_set2 hx (by omega) _ _))
  have HTR := Lib.hid (HYes.out (by rw [HX.out, decide_eq_true (show ws.length ≤ 20 by omega), decide_eq_false (show ¬ ns.length = 0 by omega)]; rfl))
  have hv := HV.out (by first | rfl | trivial)
  have hph := HHp.out (by first | rfl | trivial)
  have HSk := Lib.hid hph.2
  have HSt1 := Lib.hid (fun A3 n3 c3 E s t z w => HSt.out hv A3 n3 c3 E s t z w)
  have HRb1 := Lib.hid (fun w => HRb.out hv hph.1 w)
  clear hv hph
  have hs2 := bA.lt
  have b0 := Blk.new w2 47 #[.int .i64 s.X, .int .i64 s.Y, .int .i64 s.D]
  have ha2 := (Ext.refl w2).alloc (.cells #[.int .i64 s.X, .int .i64 s.Y, .int .i64 s.D] 47)
  replace hx := hx.trans ha2
  replace bM := bM.ext ha2
  replace bP := bP.ext ha2
  replace bS := bS.ext ha2
  replace bA := bA.ext ha2
  have cbM_13 := fun o => bM.cell o
  have cbP_14 := fun o => bP.cell o
  have cbS_15 := fun o => bS.cell o
  have cbA_16 := fun o => bA.cell o
  have fbA_16 := fun o => bA.frozen o
  have bT := Blk.new (w2.alloc (.cells #[.int .i64 s.X, .int .i64 s.Y, .int .i64 s.D] 47)) 37 #[.slice (some ⟨w2.heap.size, 0, none⟩) 1 1, .slice none 0 0]
  simp only [World.size_alloc] at bT
  have hq2 := (Ext.refl (w2.alloc (.cells #[.int .i64 s.X, .int .i64 s.Y, .int .i64 s.D] 47))).alloc (.cells #[.slice (some ⟨w2.heap.size, 0, none⟩) 1 1, .slice none 0 0] 37)
  have hsW : ((w2.alloc (.cells #[.int .i64 s.X, .int .i64 s.Y, .int .i64 s.D] 47)).alloc (.cells #[.slice (some ⟨w2.heap.size, 0, none⟩) 1 1, .slice none 0 0] 37)).heap.size = w2.heap.size + 2 := by simp only [World.size_alloc]
  replace hx := hx.trans hq2
  replace bM := bM.ext hq2
  replace bP := bP.ext hq2
  replace bS := bS.ext hq2
  replace bA := bA.ext hq2
  replace b0 := b0.ext hq2
  have cbM_17 := fun o => bM.cell o
  have cbP_18 := fun o => bP.cell o
  have cbS_19 := fun o => bS.cell o
  have cbA_20 := fun o => bA.cell o
  have fbA_20 := fun o => bA.frozen o
  have cb0_21 := fun o => b0.cell o
  have cbM_22 := fun o => bM.cell o
  have cbP_23 := fun o => bP.cell o
  have cbS_24 := fun o => bS.cell o
  have cbA_25 := fun o => bA.cell o
  have fbA_25 := fun o => bA.frozen o
  have cb0_26 := fun o => b0.cell o
  have cbT_27 := fun o => bT.cell o
  have fbT_27 := fun o => bT.frozen o
  by_cases h0 : ws.length = 0
  · have HT := Lib.hid (HTR.out.trans (trackAll_zero (by omega)))
    go_wp2
    have hne : w2.heap.size ≠ w.heap.size + 1 + 1 + 1 := by omega
    have bF := (bA.set_ 0 (.slice (some ⟨w2.heap.size, 0, none⟩) 1 1)).set_ 1 (.slice none 0 0)
    have bG := (b0.far (p := ⟨w.heap.size + 1 + 1 + 1, 0, none⟩) hne (.slice (some ⟨w2.heap.size, 0, none⟩) 1 1)).far (p := ⟨w.heap.size + 1 + 1 + 1, 1, none⟩) hne (.slice none 0 0)
    have cF := fun o => bF.cell o
    clear cA
    refine bodyPost_ret (v := .tuple #[.agg #[.slice (some ⟨w2.heap.size, 0, none⟩) 1 1, .slice none 0 0], .bool true]) (by first | (simp [results, Tryz.results29, go_sem]; done) | simp [results, Tryz.results29, go_sem, cF]) rfl ?_
    rw [HT.out]
    refine ⟨_, rfl, track_made (own_base (own_blk (n := 1) (s := 3) bG rfl (by unfold maxLen; omega)) (by omega)) (World.ownsRow_nil _ _ _ _) (fun g1 g2 _ h2 => by cases h2) (by simp only [World.size_setCell, World.size_alloc]; omega), ext_set2 hx (by omega) _ _⟩
  have h0i : ¬ (ws.length : Int) = 0 := by omega
  have h0b : ((ws.length : Int) == 0) = false := beq_false_of_ne h0i
  have HRR : Hid (robR ps r.Noise = ((erodeR ps r.Noise).1, (erodeR ps r.Noise).2 && !decide ((erodeR ps r.Noise).1 = []))) := rfl
  have HSp := Lib.hid (fun h1 h2 => trackAll_stop (r := r) (ps := ps) (s := s) (ws := ws) (ns := ns) h1 h2)
  generalize robR ps r.Noise = RR at *
  go_wp2_with fail
  refine (HRb1.out _ (HA.out.ext hx) (HR.out.ext hx)).mono ?_
  rintro e w3 ⟨A3, c3, n3, rfl, hn3, hx3, hown3⟩
  have hs3 := hx3.size
  rw [hsW] at hs3 hown3
  replace hx := hx.trans hx3
  replace bM := bM.ext hx3
  replace bP := bP.ext hx3
  replace bS := bS.ext hx3
  replace bA := bA.ext hx3
  replace b0 := b0.ext hx3
  replace bT := bT.ext hx3
  have cbM_28 := fun o => bM.cell o
  have cbP_29 := fun o => bP.cell o
  have cbS_30 := fun o => bS.cell o
  have cbA_31 := fun o => bA.cell o
  have fbA_31 := fun o => bA.frozen o
  have cb0_32 := fun o => b0.cell o
  have cbT_33 := fun o => bT.cell o
  have fbT_33 := fun o => bT.frozen o
  obtain ⟨E, ok⟩ := RR
  dsimp only at *
  subst hn3
  have bA2 := bA
  have hy2 := hx
  have bE := Blk.new w3 42 #[.slice A3 E.length c3]
  have mE := Mine.of_own hown3
  have ha3 := (Ext.refl w3).alloc (.cells #[.slice A3 E.length c3] 42)
  replace hx := hx.trans ha3
  replace bM := bM.ext ha3
  replace bP := bP.ext ha3
  replace bS := bS.ext ha3
  replace bA := bA.ext ha3
  replace b0 := b0.ext ha3
  replace bT := bT.ext ha3
  have cbM_34 := fun o => bM.cell o
  have cbP_35 := fun o => bP.cell o
  have cbS_36 := fun o => bS.cell o
  have cbA_37 := fun o => bA.cell o
  have fbA_37 := fun o => bA.frozen o
  have cb0_38 := fun o => b0.cell o
  have cbT_39 := fun o => bT.cell o
  have fbT_39 := fun o => bT.frozen o
  replace mE := mE.ext ha3
  clear hown3
  have cbM_40 := fun o => bM.cell o
  have cbP_41 := fun o => bP.cell o
  have cbS_42 := fun o => bS.cell o
  have cbA_43 := fun o => bA.cell o
  have fbA_43 := fun o => bA.frozen o
  have cb0_44 := fun o => b0.cell o
  have cbT_45 := fun o => bT.cell o
  have fbT_45 := fun o => bT.frozen o
  have cbE_46 := fun o => bE.cell o
  cases ok
  · have H := Lib.hid (HTR.out.trans (HSp.out (by omega) rfl))
    go_wp2
    have bF := ((bA.set_ 0 (.slice none 0 0)).set_ 1 (.slice none 0 0))
    have cF := fun o => bF.cell o
    clear cA
    refine bodyPost_ret (v := .tuple #[.agg #[.slice none 0 0, .slice none 0 0], .bool false]) (by first | (simp [results, Tryz.results29, go_sem]; done) | simp [results, Tryz.results29, go_sem, cF]) rfl ?_
    first | (with_reducible exact TrackMade.no H.out rfl hx) | exact TrackMade.no H.out rfl ((ext_set2 hx (by omega) _ _))
  have HEr : Hid (erodeR ps r.Noise = (E, true) ∧ E ≠ []) := by
    have e := HRR.out
    have e1 := congrArg Prod.fst e
    have e2 := congrArg Prod.snd e
    dsimp only at e1 e2
    have e3 := e2.symm
    rw [Bool.and_eq_true, ← e1] at e3
    refine ⟨Prod.ext e1.symm e3.1, fun h => ?_⟩
    rw [decide_eq_true h] at e3
    cases e3.2
  have HSt2 := Lib.hid (fun s t z w ha hr hs ht => HSt1.out A3 E.length c3 E s t z w ha rfl hr HEr.out.1 HEr.out.2 hs ht)
  obtain ⟨i0, hi0, hz0, hz1, hz2⟩ := info_parts spot_info
  obtain ⟨j0, hjj0, hy0, hy1, hy2_⟩ := info_parts ratio_info_
  have hgM : w3.heap.size + 1 ≤ (w3.alloc (.cells #[.slice A3 E.length c3] 42)).heap.size := by simp only [World.size_alloc]; omega
  have bS0 : Blk (w3.alloc (.cells #[.slice A3 E.length c3] 42)) (w.heap.size + 1 + 1) 47 #[.int .i64 ([s].getLastD s).X, .int .i64 ([s].getLastD s).Y, .int .i64 ([s].getLastD s).D] := bS
  have own0 := own_blk (n := 1) (s := 3) b0 rfl (by unfold maxLen; omega)
  clear bP bA2 hy2 h0 h0b h2b HRb1 HSt1 HHS HRo HV HX HNo HYes HHp HRR HSp b0
  go_wp2
  go_loopw [58] (fun i wr => ∃ (k : Nat) (T : Track) (A1 A2 : Option Addr) (c1 c2 : Nat), k ≤ ws.length ∧ i = .int .i64 k ∧ trackK r ps s ws ns k = some T ∧ spotOk (T.Spots.getLastD s) = true ∧ Ext w wr ∧ w3.heap.size + 1 ≤ wr.heap.size ∧ Blk wr w.heap.size 44 #[.slice A0 r.Map.length c0, .int .i64 r.Div, .int .i64 r.Bx, .int .i64 r.By, .int .i64 r.Low, .int .i64 r.High, .slice A6 r.Noise.length c6, .slice A7 r.Limits.length c7] ∧ Blk wr (w.heap.size + 1 + 1) 47 #[.int .i64 (T.Spots.getLastD s).X, .int .i64 (T.Spots.getLastD s).Y, .int .i64 (T.Spots.getLastD s).D] ∧ Blk wr (w.heap.size + 1 + 1 + 1) 37 #[.slice none 0 0, .slice none 0 0] ∧ Blk wr (w2.heap.size + 1) 37 #[.slice A1 (k + 1) c1, .slice A2 k c2] ∧ Blk wr w3.heap.size 42 #[.slice A3 E.length c3] ∧ wr.ownsRow w2.heap.size 47 3 (.slice A1 (k + 1) c1) (k + 1) (ints (flat Spot.ints T.Spots)) ∧ wr.ownsRow (w3.heap.size + 1) 74 2 (.slice A2 k c2) k (ints (flat Ratio.ints T.Inputs)) ∧ Mine wr (w2.heap.size + 2) w3.heap.size 78 3 (.slice A3 E.length c3) E.length (ints (flat Half.ints E)) ∧ (∀ g, (Value.slice A1 (k + 1) c1).ownBlock = some g → g = w2.heap.size ∨ w3.heap.size + 1 ≤ g) ∧ (∀ g, (Value.slice A1 (k + 1) c1).ownBlock = some g → (Value.slice A2 k c2).ownBlock ≠ some g)) (fun i _ => ws.length - (intOf i).toNat)
  case atStart => exact ⟨0, ⟨[s], []⟩, some ⟨w2.heap.size, 0, none⟩, none, 1, 0, Nat.zero_le _, rfl, rfl, HSk.out, hx, hgM, bM, bS0, bA, bT, bE, own0, World.ownsRow_nil _ _ _ _, mE, fun g hg => .inl (by cases hg; rfl), fun g _ h2 => by cases h2⟩
  case round =>
  clear bM bS bA bT bE own0 mE hx hgM bS0
  obtain ⟨k, T, A1, A2, c1, c2, hk, rfl, hT, hck, hx, hgM, bM, bS, bA, bT, bE, own1, own2, mE, hb1, hne⟩ := hrel
  have HT := Lib.hid hT
  have hlen := trackK_len k T hT
  clear hT
  by_cases hlt : k < ws.length
  rotate_left
  · obtain rfl : k = ws.length := by omega
    have H := Lib.hid (HTR.out.trans (trackAll_some HT.out))
    have cT := fun o => bT.cell o
    have cA := fun o => bA.cell o
    have fA := fun o => bA.frozen o
    go_wp2
    have bF := (bA.set_ 0 (.slice A1 (ws.length + 1) c1)).set_ 1 (.slice A2 ws.length c2)
    have cF := fun o => bF.cell o
    clear cA cT
    refine bodyPost_ret (v := .tuple #[.agg #[.slice A1 (ws.length + 1) c1, .slice A2 ws.length c2], .bool true]) (by first | (simp [results, Tryz.results29, go_sem]; done) | simp [results, Tryz.results29, go_sem, cF]) rfl ?_
    rw [H.out]
    have q1 := own_far (own_far own1 (p := ⟨w.heap.size + 1 + 1 + 1, 0, none⟩) (by show w.heap.size + 1 + 1 + 1 < w2.heap.size; omega) (.slice A1 (ws.length + 1) c1)) (p := ⟨w.heap.size + 1 + 1 + 1, 1, none⟩) (by show w.heap.size + 1 + 1 + 1 < w2.heap.size; omega) (.slice A2 ws.length c2)
    have q2 := own_far (own_far own2 (p := ⟨w.heap.size + 1 + 1 + 1, 0, none⟩) (by show w.heap.size + 1 + 1 + 1 < w3.heap.size + 1; omega) (.slice A1 (ws.length + 1) c1)) (p := ⟨w.heap.size + 1 + 1 + 1, 1, none⟩) (by show w.heap.size + 1 + 1 + 1 < w3.heap.size + 1; omega) (.slice A2 ws.length c2)
    refine ⟨_, rfl, ?_, ext_set2 hx (by omega) _ _⟩
    unfold TrackM
    dsimp only
    rw [hlen.1, hlen.2]
    exact track_made (own_base q1 (by omega)) (own_base q2 (by omega)) (fun g1 g2 e1 e2 e3 => hne g1 (by rw [e1]; rfl) (by rw [e2, e3]; rfl)) (by simp only [World.size_setCell]; omega)
  have hkl : k < ws.length := hlt
  obtain ⟨bw, ow, rfl, hbw, hw0⟩ := (HW.out.ext hx).int (k := k) hkl
  have hjl : k % ns.length < ns.length := Nat.mod_lt _ (by omega)
  obtain ⟨bn, on, rfl, hbn, t0, t1, t2⟩ := (HNr.out.ext hx).Spot (k := k % ns.length) hjl
  have HStep := Lib.hid (trackK_step HT.out)
  have hti := HNI.out _ (List.getElem_mem hjl)
  have hrem : Int.tmod (k : Int) (ns.length : Int) = ((k % ns.length : Nat) : Int) := rfl
  rw [List.getD_eq_getElem?_getD, List.getElem?_eq_getElem hkl, List.getD_eq_getElem?_getD, List.getElem?_eq_getElem hjl] at HStep
  dsimp only [Option.getD_some] at HStep
  obtain ⟨t, ht_⟩ : ∃ t, ns[k % ns.length]'hjl = t := ⟨_, rfl⟩
  obtain ⟨z, hz_⟩ : ∃ z, ws[k]'hkl = z := ⟨_, rfl⟩
  rw [ht_] at t0 t1 t2 HStep hti
  rw [hz_] at hw0 HStep
  clear ht_ hz_
  obtain ⟨cur, hcur_⟩ : ∃ c, T.Spots.getLastD s = c := ⟨_, rfl⟩
  rw [hcur_] at bS HStep hck
  clear hcur_
  generalize k % ns.length = j at *
  have HNn := Lib.hid (fun h => trackAll_none (r := r) (ps := ps) (s := s) (ws := ws) (ns := ns) (k := k + 1) h (by omega))
  have HCs := Lib.hid (fun w ha hr => HSt2.out cur t z w ha hr (spot_I hck) hti)
  have HSk2 := Lib.hid (fun x h => stepR_ok (r := r) (ps := ps) (s := cur) (t := t) (n := z) (x := x) h)
  obtain ⟨x1, x2, x3, u1, u2, ok, hV, hf, htr⟩ := stepV_form (stepR r ps cur z t)
  generalize stepR r ps cur z t = X at *
  unfold StepMade at HCs
  rw [hV] at HCs
  have Hf := Lib.hid hf
  have Htr := Lib.hid htr
  clear hV hf htr hti hck
  have hremw : IntKind.i64.wrap ((k : Int).tmod (ns.length : Int)) = (j : Int) := by rw [hrem]; exact IntWalk.i64_in _ (by omega)
  have hj0 : (0 : Int) ≤ (j : Int) := by omega
  have hj1 : (j : Int) < (ns.length : Int) := by omega
  have cM := fun o => bM.cell o
  have cS := fun o => bS.cell o
  have cE := fun o => bE.cell o
  go_upto_region 12 with fail
  go_cut [17, 18, 19] from 64 to 78 (fun p q o wx => SpotRat [.int .i64 x1, .int .i64 x2, .int .i64 x3] [.int .i64 u1, .int .i64 u2] wr p q wx ∧ o = .bool ok)
  case first =>
    have hcur := Ext.refl wr
    have lM := bM.lt
    have lS := bS.lt
    have lE := bE.lt
    have nM := Nat.ne_of_lt lM
    have nM' := (Nat.ne_of_lt lM).symm
    have nS := Nat.ne_of_lt lS
    have nS' := (Nat.ne_of_lt lS).symm
    have nE := Nat.ne_of_lt lE
    have nE' := (Nat.ne_of_lt lE).symm
    have nB := Nat.ne_of_lt hbn
    have nB' := (Nat.ne_of_lt hbn).symm
    have mM := Nat.ne_of_lt (Nat.lt_succ_of_lt lM)
    have mM' := (Nat.ne_of_lt (Nat.lt_succ_of_lt lM)).symm
    have mS := Nat.ne_of_lt (Nat.lt_succ_of_lt lS)
    have mS' := (Nat.ne_of_lt (Nat.lt_succ_of_lt lS)).symm
    have kS : w.heap.size + 1 ≠ wr.heap.size := by omega
    have kS' : wr.heap.size ≠ w.heap.size + 1 := by omega
    have mE_ := Nat.ne_of_lt (Nat.lt_succ_of_lt lE)
    have mE_' := (Nat.ne_of_lt (Nat.lt_succ_of_lt lE)).symm
    have mB := Nat.ne_of_lt (Nat.lt_succ_of_lt hbn)
    have mB' := (Nat.ne_of_lt (Nat.lt_succ_of_lt hbn)).symm
    go_region_held3 (fun w' => w'.cell? ⟨w.heap.size, 0, none⟩ = some (.slice A0 r.Map.length c0) ∧ w'.cell? ⟨w.heap.size, 1, none⟩ = some (.int .i64 r.Div) ∧ w'.cell? ⟨w.heap.size, 2, none⟩ = some (.int .i64 r.Bx) ∧ w'.cell? ⟨w.heap.size, 3, none⟩ = some (.int .i64 r.By) ∧ w'.cell? ⟨w.heap.size, 4, none⟩ = some (.int .i64 r.Low) ∧ w'.cell? ⟨w.heap.size, 5, none⟩ = some (.int .i64 r.High) ∧ w'.cell? ⟨w.heap.size, 6, none⟩ = some (.slice A6 r.Noise.length c6) ∧ w'.cell? ⟨w.heap.size, 7, none⟩ = some (.slice A7 r.Limits.length c7) ∧ w'.cell? ⟨w3.heap.size, 0, none⟩ = some (.slice A3 E.length c3) ∧ w'.cell? ⟨w.heap.size + 1 + 1, 0, none⟩ = some (.int .i64 cur.X) ∧ w'.cell? ⟨w.heap.size + 1 + 1, 1, none⟩ = some (.int .i64 cur.Y) ∧ w'.cell? ⟨w.heap.size + 1 + 1, 2, none⟩ = some (.int .i64 cur.D) ∧ w'.cell? ⟨bn, on + j * 3, none⟩ = some (.int .i64 t.X) ∧ w'.cell? ⟨bn, on + j * 3 + 1, none⟩ = some (.int .i64 t.Y) ∧ w'.cell? ⟨bn, on + j * 3 + 2, none⟩ = some (.int .i64 t.D))
      (go_keep)
      (first | (go_at_call 46; (with_reducible refine (HCs.out _ (HA.out.ext (hx.trans (by first | exact hcur | exact hcur.drew | exact hcur.alloc _ | exact hcur.drew.alloc _ | exact (hcur.alloc _).drew | exact ((hcur.alloc _).alloc _).drew | exact (hcur.alloc _).alloc _ | exact (hcur.drew.alloc _).alloc _))) (mE.ext (by first | exact hcur | exact hcur.drew | exact hcur.alloc _ | exact hcur.drew.alloc _ | exact (hcur.alloc _).drew | exact ((hcur.alloc _).alloc _).drew | exact (hcur.alloc _).alloc _ | exact (hcur.drew.alloc _).alloc _)).row).mono ?_); rintro e w9 ⟨rfl, hx9⟩; (first | have hx8 := (Ext.refl _).drew.trans hx9 | have hx8 := hx9); replace hcur := Ext.trans (by first | exact hcur | exact hcur.drew | exact hcur.alloc _ | exact hcur.drew.alloc _ | exact (hcur.alloc _).drew | exact ((hcur.alloc _).alloc _).drew | exact (hcur.alloc _).alloc _ | exact (hcur.drew.alloc _).alloc _) hx9; have cM9 := fun o => (bM.ext hcur).cell o; have cS9 := fun o => (bS.ext hcur).cell o; have cE9 := fun o => (bE.ext hcur).cell o; have t09 := hcur.cellOf t0; have t19 := hcur.cellOf t1; have t29 := hcur.cellOf t2; have s9 := hcur.size; have kS9 : w.heap.size + 1 ≠ w9.heap.size := (by omega); have kS9' : w9.heap.size ≠ w.heap.size + 1 := (by omega); have nM9 := Nat.ne_of_lt (bM.ext hcur).lt; have nM9' := (Nat.ne_of_lt (bM.ext hcur).lt).symm; have nM8 := Nat.ne_of_lt (Nat.lt_succ_of_lt (bM.ext hcur).lt); have nM8' := (Nat.ne_of_lt (Nat.lt_succ_of_lt (bM.ext hcur).lt)).symm; have nS9 := Nat.ne_of_lt (bS.ext hcur).lt; have nS9' := (Nat.ne_of_lt (bS.ext hcur).lt).symm; have nS8 := Nat.ne_of_lt (Nat.lt_succ_of_lt (bS.ext hcur).lt); have nS8' := (Nat.ne_of_lt (Nat.lt_succ_of_lt (bS.ext hcur).lt)).symm; have nE9 := Nat.ne_of_lt (bE.ext hcur).lt; have nE9' := (Nat.ne_of_lt (bE.ext hcur).lt).symm; have nE8 := Nat.ne_of_lt (Nat.lt_succ_of_lt (bE.ext hcur).lt); have nE8' := (Nat.ne_of_lt (Nat.lt_succ_of_lt (bE.ext hcur).lt)).symm; have nB9 := Nat.ne_of_lt (Nat.lt_of_lt_of_le hbn hcur.size); have nB9' := (Nat.ne_of_lt (Nat.lt_of_lt_of_le hbn hcur.size)).symm; have nB8 := Nat.ne_of_lt (Nat.lt_succ_of_lt (Nat.lt_of_lt_of_le hbn hcur.size)); have nB8' := (Nat.ne_of_lt (Nat.lt_succ_of_lt (Nat.lt_of_lt_of_le hbn hcur.size))).symm; (first | (have gA := Blk.ext ((Blk.new _ 47 #[.int .i64 0, .int .i64 0, .int .i64 0]).alloc (.cells #[.int .i64 0, .int .i64 0] 74)) hx8; have gB := Blk.ext (blk_new1 _ _ 74 #[.int .i64 0, .int .i64 0]) hx8; have gAc := fun o => gA.cell o; have gAf := fun o => gA.frozen o; have lA := gA.lt; have nA := Nat.ne_of_lt gA.lt; have nA' := (Nat.ne_of_lt gA.lt).symm; have gBc := fun o => gB.cell o; have gBf := fun o => gB.frozen o; have lB := gB.lt; have nB2 := Nat.ne_of_lt gB.lt; have nB2' := (Nat.ne_of_lt gB.lt).symm) | (have gB := Blk.ext ((Blk.new _ 74 #[.int .i64 0, .int .i64 0]).alloc (.cells #[.int .i64 0, .int .i64 0, .int .i64 0] 47)) hx8; have gA := Blk.ext (blk_new1 _ _ 47 #[.int .i64 0, .int .i64 0, .int .i64 0]) hx8; have gAc := fun o => gA.cell o; have gAf := fun o => gA.frozen o; have lA := gA.lt; have nA := Nat.ne_of_lt gA.lt; have nA' := (Nat.ne_of_lt gA.lt).symm; have gBc := fun o => gB.cell o; have gBf := fun o => gB.frozen o; have lB := gB.lt; have nB2 := Nat.ne_of_lt gB.lt; have nB2' := (Nat.ne_of_lt gB.lt).symm) | (have gA := Blk.ext (Blk.new _ 47 #[.int .i64 0, .int .i64 0, .int .i64 0]) hx8; have gAc := fun o => gA.cell o; have gAf := fun o => gA.frozen o; have lA := gA.lt; have nA := Nat.ne_of_lt gA.lt; have nA' := (Nat.ne_of_lt gA.lt).symm) | (have gB := Blk.ext (Blk.new _ 74 #[.int .i64 0, .int .i64 0]) hx8; have gBc := fun o => gB.cell o; have gBf := fun o => gB.frozen o; have lB := gB.lt; have nB2 := Nat.ne_of_lt gB.lt; have nB2' := (Nat.ne_of_lt gB.lt).symm) | skip)))
    all_goals
      go_wp2_with fail
      go_meet
      case rel => exact ⟨by first | (with_reducible exact SpotRat.ab hcur) | (with_reducible exact SpotRat.ba hcur) | (with_reducible exact SpotRat.a hcur (by omega) lA gA) | (with_reducible exact SpotRat.b hcur (by omega) lB gB) | (with_reducible exact SpotRat.two hcur (by omega) (by omega) (by omega) gA gB), rfl⟩
  case rest =>
  clear cM cS cE
  obtain ⟨⟨b1, b2, rfl, rfl, hv1, hv2, h12, hxC, bN, bU⟩, rfl⟩ := hcut
  replace bN : Blk wc b1 47 #[.int .i64 x1, .int .i64 x2, .int .i64 x3] := bN
  replace bU : Blk wc b2 74 #[.int .i64 u1, .int .i64 u2] := bU
  have hl1 : ∀ g, (Value.slice A1 (k + 1) c1).ownBlock = some g → g < wr.heap.size := fun g hg => (own_lt own1 hg).2
  have hl2 : ∀ g, (Value.slice A2 k c2).ownBlock = some g → w3.heap.size + 1 ≤ g ∧ g < wr.heap.size := fun g hg => own_lt own2 hg
  have hsC := hxC.size
  replace hx := hx.trans hxC
  replace bM := bM.ext hxC
  replace bS := bS.ext hxC
  replace bA := bA.ext hxC
  replace bT := bT.ext hxC
  replace bE := bE.ext hxC
  replace own1 := own_ext own1 hxC
  replace own2 := own_ext own2 hxC
  replace mE := mE.ext hxC
  cases ok
  · have H := Lib.hid (HTR.out.trans (HNn.out (HStep.out.trans (by rw [Hf.out rfl]))))
    have cA := fun o => bA.cell o
    have fA := fun o => bA.frozen o
    go_wp2
    have bF := (bA.set_ 0 (.slice none 0 0)).set_ 1 (.slice none 0 0)
    have cF := fun o => bF.cell o
    clear cA
    refine bodyPost_ret (v := .tuple #[.agg #[.slice none 0 0, .slice none 0 0], .bool false]) (by first | (simp [results, Tryz.results29, go_sem]; done) | simp [results, Tryz.results29, go_sem, cF]) rfl ?_
    exact TrackMade.no H.out rfl (ext_set2 hx (by omega) _ _)
  have HX1 := Htr.out rfl
  have HK1 : Hid (trackK r ps s ws ns (k + 1) = some ⟨T.Spots ++ [⟨x1, x2, x3⟩], T.Inputs ++ [⟨u1, u2⟩]⟩) := HStep.out.trans (by rw [HX1])
  have hck2 : spotOk ⟨x1, x2, x3⟩ = true := (HSk2.out _ HX1).1
  have hlast : (T.Spots ++ [(⟨x1, x2, x3⟩ : Spot)]).getLastD s = ⟨x1, x2, x3⟩ := by simp
  have hnewS := Blk.new wc 47 #[.int .i64 x1, .int .i64 x2, .int .i64 x3]
  have hccS : ∀ j u, (ints (Spot.ints ⟨x1, x2, x3⟩))[j]? = some u → (wc.alloc (.cells #[.int .i64 x1, .int .i64 x2, .int .i64 x3] 47)).cell? ((⟨wc.heap.size, 0, none⟩ : Addr).add j) = some u := fun j u hj => by
    rw [show ((⟨wc.heap.size, 0, none⟩ : Addr).add j) = ⟨wc.heap.size, 0 + j, none⟩ from by unfold Addr.add; split <;> simp_all, Nat.zero_add, hnewS.cell]
    simpa [ints, Spot.ints] using hj
  clear hnewS HX1 hremw hrem
  have cT := fun o => bT.cell o
  have fT := fun o => bT.frozen o
  have cN := fun o => bN.cell o
  have hk20 : k < 20 := by omega
  go_wp2_with (first | (at_builtin; (refine wpList_append_own_at _ rfl _ _ 34 rfl w2.heap.size 47 i0 (.agg #[.int .i64 0, .int .i64 0, .int .i64 0]) 3 24 Tryz.underlying34 hi0 hz0 hz1 hz2 rfl (by decide) _ _ _ rfl (own1.alloc _) ⟨wc.heap.size, 0, none⟩ 1 1 (ints (Spot.ints ⟨x1, x2, x3⟩)) rfl rfl hccS (oneCell_ints _) (by unfold maxLen; omega) (by omega) (by simp; omega) ?_); intro v' w6 own1G hgrow _ hat; obtain ⟨A1', c1', rfl⟩ := own_form own1G; have hgs := hgrow.size; simp only [World.size_alloc] at hgs hat; have bMG := (bM.alloc (.cells #[.int .i64 x1, .int .i64 x2, .int .i64 x3] 47)).grown hgrow (fun e => by have q1 := hb1 _ e; have q2 := hl1 _ e; omega); have bSG := (bS.alloc (.cells #[.int .i64 x1, .int .i64 x2, .int .i64 x3] 47)).grown hgrow (fun e => by have q1 := hb1 _ e; have q2 := hl1 _ e; omega); have bAG := (bA.alloc (.cells #[.int .i64 x1, .int .i64 x2, .int .i64 x3] 47)).grown hgrow (fun e => by have q1 := hb1 _ e; have q2 := hl1 _ e; omega); have bTG := (bT.alloc (.cells #[.int .i64 x1, .int .i64 x2, .int .i64 x3] 47)).grown hgrow (fun e => by have q1 := hb1 _ e; have q2 := hl1 _ e; omega); have bEG := (bE.alloc (.cells #[.int .i64 x1, .int .i64 x2, .int .i64 x3] 47)).grown hgrow (fun e => by have q1 := hb1 _ e; have q2 := hl1 _ e; omega); have bNG := (bN.alloc (.cells #[.int .i64 x1, .int .i64 x2, .int .i64 x3] 47)).grown hgrow (fun e => by have q1 := hb1 _ e; have q2 := hl1 _ e; omega); have bUG := (bU.alloc (.cells #[.int .i64 x1, .int .i64 x2, .int .i64 x3] 47)).grown hgrow (fun e => by have q1 := hb1 _ e; have q2 := hl1 _ e; omega); have own2G := own_only (own2.alloc (.cells #[.int .i64 x1, .int .i64 x2, .int .i64 x3] 47)) hgrow (fun g hg => hne g hg); have mEG := (mE.alloc (.cells #[.int .i64 x1, .int .i64 x2, .int .i64 x3] 47)).grown hgrow (fun g hg => by have q1 := hb1 _ hg; omega); have hxG : Ext w w6 := (hx.alloc (.cells #[.int .i64 x1, .int .i64 x2, .int .i64 x3] 47)).grown hgrow (fun g hg => by have q1 := hb1 _ hg; omega); have hb1G : ∀ g, (Value.slice A1' (k + 1 + 1) c1').ownBlock = some g → (g = w2.heap.size ∨ w3.heap.size + 1 ≤ g) ∧ (Value.slice A2 k c2).ownBlock ≠ some g := (fun g hg => by rcases hat with h | h <;> rw [h] at hg; exact ⟨hb1 g hg, hne g hg⟩; (injection hg with hg; subst hg; exact ⟨.inr (by omega), fun q => by have := hl2 _ q; omega⟩)); have bTH : Blk (w6.setCell ⟨w2.heap.size + 1, 0, none⟩ (.slice A1' (k + 1 + 1) c1')) (w2.heap.size + 1) 37 #[.slice A1' (k + 1 + 1) c1', .slice A2 k c2] := bTG.set_ 0 (.slice A1' (k + 1 + 1) c1'); have bMH := bMG.far (p := ⟨w2.heap.size + 1, 0, none⟩) (show w.heap.size ≠ w2.heap.size + 1 by omega) (.slice A1' (k + 1 + 1) c1'); have bSH := bSG.far (p := ⟨w2.heap.size + 1, 0, none⟩) (show w.heap.size + 1 + 1 ≠ w2.heap.size + 1 by omega) (.slice A1' (k + 1 + 1) c1'); have bAH := bAG.far (p := ⟨w2.heap.size + 1, 0, none⟩) (show w.heap.size + 1 + 1 + 1 ≠ w2.heap.size + 1 by omega) (.slice A1' (k + 1 + 1) c1'); have bEH := bEG.far (p := ⟨w2.heap.size + 1, 0, none⟩) (show w3.heap.size ≠ w2.heap.size + 1 by omega) (.slice A1' (k + 1 + 1) c1'); have bNH := bNG.far (p := ⟨w2.heap.size + 1, 0, none⟩) (show b1 ≠ w2.heap.size + 1 by omega) (.slice A1' (k + 1 + 1) c1'); have bUH := bUG.far (p := ⟨w2.heap.size + 1, 0, none⟩) (show b2 ≠ w2.heap.size + 1 by omega) (.slice A1' (k + 1 + 1) c1'); have own1H := own_off own1G (p := ⟨w2.heap.size + 1, 0, none⟩) (fun e => by have q := (hb1G _ e).1; simp only at q; omega) (.slice A1' (k + 1 + 1) c1'); have own2H := own_off own2G (p := ⟨w2.heap.size + 1, 0, none⟩) (fun e => by have q := hl2 _ e; simp only at q; omega) (.slice A1' (k + 1 + 1) c1'); have mEH := mEG.setB (p := ⟨w2.heap.size + 1, 0, none⟩) (.inl (show w2.heap.size + 1 < w2.heap.size + 2 by omega)) (.slice A1' (k + 1 + 1) c1'); have hxH := hxG.setCell (p := ⟨w2.heap.size + 1, 0, none⟩) (show w.heap.size ≤ w2.heap.size + 1 by omega) (.slice A1' (k + 1 + 1) c1'); have hnewU := Blk.new (w6.setCell ⟨w2.heap.size + 1, 0, none⟩ (.slice A1' (k + 1 + 1) c1')) 74 #[.int .i64 u1, .int .i64 u2]; have hccU : ∀ j u, (ints (Ratio.ints ⟨u1, u2⟩))[j]? = some u → ((w6.setCell ⟨w2.heap.size + 1, 0, none⟩ (.slice A1' (k + 1 + 1) c1')).alloc (.cells #[.int .i64 u1, .int .i64 u2] 74)).cell? ((⟨w6.heap.size, 0, none⟩ : Addr).add j) = some u := (fun j u hj => by rw [show ((⟨w6.heap.size, 0, none⟩ : Addr).add j) = ⟨w6.heap.size, 0 + j, none⟩ from by unfold Addr.add; split <;> simp_all, Nat.zero_add]; rw [World.size_setCell] at hnewU; rw [hnewU.cell]; simpa [ints, Ratio.ints] using hj); have cTH := fun o => bTH.cell o; have fTH := fun o => bTH.frozen o; have cUH := fun o => bUH.cell o; have cTG := fun o => bTG.cell o; have fTG := fun o => bTG.frozen o; have cUG := fun o => bUG.cell o) | (at_builtin; go_must (refine wpList_append_own_at _ rfl _ _ 35 rfl (w3.heap.size + 1) 74 j0 (.agg #[.int .i64 0, .int .i64 0]) 2 16 Tryz.underlying35 hjj0 hy0 hy1 hy2_ rfl (by decide) _ _ _ rfl (own2H.alloc _) ⟨w6.heap.size, 0, none⟩ 1 1 (ints (Ratio.ints ⟨u1, u2⟩)) rfl rfl hccU (oneCell_ints _) (by unfold maxLen; omega) (by omega) (by simp; omega) ?_); intro v2 w8 own2K hgrow2 _ hat2; obtain ⟨A2', c2', rfl⟩ := own_form own2K; have hgs2 := hgrow2.size; simp only [World.size_alloc, World.size_setCell] at hgs2 hat2; have bMK := (bMH.alloc (.cells #[.int .i64 u1, .int .i64 u2] 74)).grown hgrow2 (fun e => by have q2 := hl2 _ e; omega); have bSK := (bSH.alloc (.cells #[.int .i64 u1, .int .i64 u2] 74)).grown hgrow2 (fun e => by have q2 := hl2 _ e; omega); have bAK := (bAH.alloc (.cells #[.int .i64 u1, .int .i64 u2] 74)).grown hgrow2 (fun e => by have q2 := hl2 _ e; omega); have bTK := (bTH.alloc (.cells #[.int .i64 u1, .int .i64 u2] 74)).grown hgrow2 (fun e => by have q2 := hl2 _ e; omega); have bEK := (bEH.alloc (.cells #[.int .i64 u1, .int .i64 u2] 74)).grown hgrow2 (fun e => by have q2 := hl2 _ e; omega); have bNK := (bNH.alloc (.cells #[.int .i64 u1, .int .i64 u2] 74)).grown hgrow2 (fun e => by have q2 := hl2 _ e; omega); have bUK := (bUH.alloc (.cells #[.int .i64 u1, .int .i64 u2] 74)).grown hgrow2 (fun e => by have q2 := hl2 _ e; omega); have own1K := own_only (own1H.alloc (.cells #[.int .i64 u1, .int .i64 u2] 74)) hgrow2 (fun g hg q => (hb1G _ q).2 hg); have mEK := (mEH.alloc (.cells #[.int .i64 u1, .int .i64 u2] 74)).grown hgrow2 (fun g hg => by have q1 := hl2 _ hg; omega); have hxK : Ext w w8 := (hxH.alloc (.cells #[.int .i64 u1, .int .i64 u2] 74)).grown hgrow2 (fun g hg => by have q1 := hl2 _ hg; omega); have hl1G : ∀ g, (Value.slice A1' (k + 1 + 1) c1').ownBlock = some g → g < w6.heap.size := (fun g hg => (own_lt own1G hg).2); have hb2K : ∀ g, (Value.slice A2' (k + 1) c2').ownBlock = some g → w3.heap.size + 1 ≤ g ∧ (Value.slice A1' (k + 1 + 1) c1').ownBlock ≠ some g := (fun g hg => by rcases hat2 with h | h <;> rw [h] at hg; exact ⟨(hl2 g hg).1, fun q => (hb1G g q).2 hg⟩; (injection hg with hg; subst hg; exact ⟨by omega, fun q => by have := hl1G _ q; omega⟩)); have bTL : Blk (w8.setCell ⟨w2.heap.size + 1, 1, none⟩ (.slice A2' (k + 1) c2')) (w2.heap.size + 1) 37 #[.slice A1' (k + 1 + 1) c1', .slice A2' (k + 1) c2'] := bTK.set_ 1 (.slice A2' (k + 1) c2'); have bML := bMK.far (p := ⟨w2.heap.size + 1, 1, none⟩) (show w.heap.size ≠ w2.heap.size + 1 by omega) (.slice A2' (k + 1) c2'); have bSL := bSK.far (p := ⟨w2.heap.size + 1, 1, none⟩) (show w.heap.size + 1 + 1 ≠ w2.heap.size + 1 by omega) (.slice A2' (k + 1) c2'); have bAL := bAK.far (p := ⟨w2.heap.size + 1, 1, none⟩) (show w.heap.size + 1 + 1 + 1 ≠ w2.heap.size + 1 by omega) (.slice A2' (k + 1) c2'); have bEL := bEK.far (p := ⟨w2.heap.size + 1, 1, none⟩) (show w3.heap.size ≠ w2.heap.size + 1 by omega) (.slice A2' (k + 1) c2'); have bNL := bNK.far (p := ⟨w2.heap.size + 1, 1, none⟩) (show b1 ≠ w2.heap.size + 1 by omega) (.slice A2' (k + 1) c2'); have bUL := bUK.far (p := ⟨w2.heap.size + 1, 1, none⟩) (show b2 ≠ w2.heap.size + 1 by omega) (.slice A2' (k + 1) c2'); have own1L := own_off own1K (p := ⟨w2.heap.size + 1, 1, none⟩) (fun e => by have q := (hb1G _ e).1; simp only at q; omega) (.slice A2' (k + 1) c2'); have own2L := own_off own2K (p := ⟨w2.heap.size + 1, 1, none⟩) (fun e => by have q := hb2K _ e; simp only at q; omega) (.slice A2' (k + 1) c2'); have mEL := mEK.setB (p := ⟨w2.heap.size + 1, 1, none⟩) (.inl (show w2.heap.size + 1 < w2.heap.size + 2 by omega)) (.slice A2' (k + 1) c2'); have hxL := hxK.setCell (p := ⟨w2.heap.size + 1, 1, none⟩) (show w.heap.size ≤ w2.heap.size + 1 by omega) (.slice A2' (k + 1) c2'); have cNL := fun o => bNL.cell o; have cSL := fun o => bSL.cell o; have fSL := fun o => bSL.frozen o; have cTK := fun o => bTK.cell o; have fTK := fun o => bTK.frozen o))
  have eSF := (((bSL).set_ 0 (.int .i64 x1)).set_ 1 (.int .i64 x2)).set_ 2 (.int .i64 x3)
  have hbMN : w.heap.size ≠ w.heap.size + 1 + 1 := by omega
  have bMF := (((bML).far (p := ⟨w.heap.size + 1 + 1, 0, none⟩) hbMN (.int .i64 x1)).far (p := ⟨w.heap.size + 1 + 1, 1, none⟩) hbMN (.int .i64 x2)).far (p := ⟨w.heap.size + 1 + 1, 2, none⟩) hbMN (.int .i64 x3)
  have hbAN : w.heap.size + 1 + 1 + 1 ≠ w.heap.size + 1 + 1 := by omega
  have bAF := (((bAL).far (p := ⟨w.heap.size + 1 + 1, 0, none⟩) hbAN (.int .i64 x1)).far (p := ⟨w.heap.size + 1 + 1, 1, none⟩) hbAN (.int .i64 x2)).far (p := ⟨w.heap.size + 1 + 1, 2, none⟩) hbAN (.int .i64 x3)
  have hbTN : w2.heap.size + 1 ≠ w.heap.size + 1 + 1 := by omega
  have bTF := (((bTL).far (p := ⟨w.heap.size + 1 + 1, 0, none⟩) hbTN (.int .i64 x1)).far (p := ⟨w.heap.size + 1 + 1, 1, none⟩) hbTN (.int .i64 x2)).far (p := ⟨w.heap.size + 1 + 1, 2, none⟩) hbTN (.int .i64 x3)
  have hbEN : w3.heap.size ≠ w.heap.size + 1 + 1 := by omega
  have bEF := (((bEL).far (p := ⟨w.heap.size + 1 + 1, 0, none⟩) hbEN (.int .i64 x1)).far (p := ⟨w.heap.size + 1 + 1, 1, none⟩) hbEN (.int .i64 x2)).far (p := ⟨w.heap.size + 1 + 1, 2, none⟩) hbEN (.int .i64 x3)
  have own1F := own_off (own_off (own_off (own1L) (p := ⟨w.heap.size + 1 + 1, 0, none⟩) (fun e => by have q := (hb1G _ e).1; simp only at q; omega) (.int .i64 x1)) (p := ⟨w.heap.size + 1 + 1, 1, none⟩) (fun e => by have q := (hb1G _ e).1; simp only at q; omega) (.int .i64 x2)) (p := ⟨w.heap.size + 1 + 1, 2, none⟩) (fun e => by have q := (hb1G _ e).1; simp only at q; omega) (.int .i64 x3)
  have own2F := own_off (own_off (own_off (own2L) (p := ⟨w.heap.size + 1 + 1, 0, none⟩) (fun e => by have q := hb2K _ e; simp only at q; omega) (.int .i64 x1)) (p := ⟨w.heap.size + 1 + 1, 1, none⟩) (fun e => by have q := hb2K _ e; simp only at q; omega) (.int .i64 x2)) (p := ⟨w.heap.size + 1 + 1, 2, none⟩) (fun e => by have q := hb2K _ e; simp only at q; omega) (.int .i64 x3)
  have mEF := (((mEL).setB (p := ⟨w.heap.size + 1 + 1, 0, none⟩) (.inl (show w.heap.size + 1 + 1 < w2.heap.size + 2 by omega)) (.int .i64 x1)).setB (p := ⟨w.heap.size + 1 + 1, 1, none⟩) (.inl (show w.heap.size + 1 + 1 < w2.heap.size + 2 by omega)) (.int .i64 x2)).setB (p := ⟨w.heap.size + 1 + 1, 2, none⟩) (.inl (show w.heap.size + 1 + 1 < w2.heap.size + 2 by omega)) (.int .i64 x3)
  have hxF := ext_set3 hxL (g := w.heap.size + 1 + 1) (by omega) (.int .i64 x1) (.int .i64 x2) (.int .i64 x3)
  go_roundw
  case rel =>
    refine ⟨k + 1, ⟨T.Spots ++ [⟨x1, x2, x3⟩], T.Inputs ++ [⟨u1, u2⟩]⟩, A1', A2', c1', c2', by omega, by go_num, HK1.out, by dsimp only; rw [hlast]; exact hck2, hxF, by simp only [World.size_setCell]; omega, bMF, by dsimp only; rw [hlast]; exact eSF, bAF, bTF, bEF, ?_, ?_, mEF, fun g hg => (hb1G g hg).1, fun g hg q => (hb2K g q).2 hg⟩
    · dsimp only
      rw [spots_add]
      exact own1F
    · dsimp only
      rw [ratios_add]
      exact own2F
  case measure => simp [intOf]; omega

end Go.Proofs.YtbbdipfioopfmaaGreat
