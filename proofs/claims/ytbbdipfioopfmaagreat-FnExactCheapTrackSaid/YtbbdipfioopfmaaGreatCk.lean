/- Contracts of CheapTrack of both. (written by tools/mkCk.py) -/
import Derived.Test.YtbbdipfioopfmaaGreatRw
import Derived.Laws.OwnMore
namespace Go.Proofs.YtbbdipfioopfmaaGreat
open Go.ChangeShapes Go.WideShapes Go.ChangeAt Go.RowKit
set_option linter.unusedVariables false
set_option maxRecDepth 100000

def cheapR (r : Room) (ps : List Half) (s : Spot) (ns : List Spot) (p : Int) : Track × Bool := if inR p 0 20 = true then trackR r ps s (List.replicate p.toNat 0) ns else (noTrack, false)
theorem TrackPt.setB {w : World} {n0 n1 lo hi : Nat} {x0 x1 us : List Value} (h : TrackPt w n0 n1 x0 x1 us lo hi) {p : Addr} (hp : p.block < lo ∨ hi ≤ p.block) (u : Value) : TrackPt (w.setCell p u) n0 n1 x0 x1 us lo hi := by
  obtain ⟨A0, c0, A1, c1, l0, h0, l1, h1, e, m0, m1, q⟩ := h
  exact ⟨A0, c0, A1, c1, l0, h0, l1, h1, e, m0.setB (by omega) u, m1.setB (by omega) u, q⟩
theorem zeros_row (m : Nat) (hm : m ≤ 1048576) (w : World) : Row (w.alloc (.cells (made (.int .i64 0) 1 m) 3)) (some ⟨w.heap.size, 0, none⟩) (ints (List.replicate m 0)) := by
  have h := Row.of_own (own_made w 3 (.int .i64 0) 1 m hm)
  have e : (made (Value.int .i64 0) 1 m).toList = ints (List.replicate m 0) := by
    unfold made
    rw [show (Value.int .i64 0).cells = #[.int .i64 0] from rfl, toList_madeCells_one, Nat.mul_one]
    unfold ints
    rw [List.map_replicate]
  rw [e] at h
  exact h

set_option maxHeartbeats 16000000 in
theorem implCheapTrack_any (r : Room) (A0 A6 A7 : Option Addr) (c0 c6 c7 : Nat) (A : Option Addr) (n c : Nat) (ps : List Half) (s : Spot) (An : Option Addr) (cn : Nat) (ns : List Spot) (p : Int) (w : World) (ha : RoomHere w r A0 A6 A7 c0 c6 c7) (hFI : roomFI r) (hRL : RoomL r) (hn : ps.length = n) (hr : Row w A (ints (flat Half.ints ps))) (hI : HalvesI ps) (hle : n ≤ maxLen) (hs : I64 s.X ∧ I64 s.Y ∧ I64 s.D) (hnr : Row w An (ints (flat Spot.ints ns))) (hnl : ns.length ≤ maxLen) (hNI : ∀ x ∈ ns, I64 x.X ∧ I64 x.Y ∧ I64 x.D) :
    Calls Tryz.prog 12 #[.agg #[.slice A0 r.Map.length c0, .int .i64 r.Div, .int .i64 r.Bx, .int .i64 r.By, .int .i64 r.Low, .int .i64 r.High, .slice A6 r.Noise.length c6, .slice A7 r.Limits.length c7], .agg #[.slice A n c], .agg #[.int .i64 s.X, .int .i64 s.Y, .int .i64 s.D], .slice An ns.length cn, .int .i64 p] w (TrackMade (cheapR r ps s ns p) w) := by
  have hx : Ext w ((((w.alloc (.cells #[.slice A0 r.Map.length c0, .int .i64 r.Div, .int .i64 r.Bx, .int .i64 r.By, .int .i64 r.Low, .int .i64 r.High, .slice A6 r.Noise.length c6, .slice A7 r.Limits.length c7] 44)).alloc (.cells #[.slice A n c] 42)).alloc (.cells #[.int .i64 s.X, .int .i64 s.Y, .int .i64 s.D] 47)).alloc (.cells #[.slice none 0 0, .slice none 0 0] 37)) := by repeat (first | exact Ext.refl _ | refine Ext.alloc ?_ _)
  have bM : Blk ((((w.alloc (.cells #[.slice A0 r.Map.length c0, .int .i64 r.Div, .int .i64 r.Bx, .int .i64 r.By, .int .i64 r.Low, .int .i64 r.High, .slice A6 r.Noise.length c6, .slice A7 r.Limits.length c7] 44)).alloc (.cells #[.slice A n c] 42)).alloc (.cells #[.int .i64 s.X, .int .i64 s.Y, .int .i64 s.D] 47)).alloc (.cells #[.slice none 0 0, .slice none 0 0] 37)) (w.heap.size) 44 #[.slice A0 r.Map.length c0, .int .i64 r.Div, .int .i64 r.Bx, .int .i64 r.By, .int .i64 r.Low, .int .i64 r.High, .slice A6 r.Noise.length c6, .slice A7 r.Limits.length c7] := by
    have q := Blk.new w 44 #[.slice A0 r.Map.length c0, .int .i64 r.Div, .int .i64 r.Bx, .int .i64 r.By, .int .i64 r.Low, .int .i64 r.High, .slice A6 r.Noise.length c6, .slice A7 r.Limits.length c7]
    replace q := q.alloc (.cells #[.slice A n c] 42)
    replace q := q.alloc (.cells #[.int .i64 s.X, .int .i64 s.Y, .int .i64 s.D] 47)
    replace q := q.alloc (.cells #[.slice none 0 0, .slice none 0 0] 37)
    simpa only [World.size_alloc] using q
  have bP : Blk ((((w.alloc (.cells #[.slice A0 r.Map.length c0, .int .i64 r.Div, .int .i64 r.Bx, .int .i64 r.By, .int .i64 r.Low, .int .i64 r.High, .slice A6 r.Noise.length c6, .slice A7 r.Limits.length c7] 44)).alloc (.cells #[.slice A n c] 42)).alloc (.cells #[.int .i64 s.X, .int .i64 s.Y, .int .i64 s.D] 47)).alloc (.cells #[.slice none 0 0, .slice none 0 0] 37)) (w.heap.size + 1) 42 #[.slice A n c] := by
    have q := Blk.new (w.alloc (.cells #[.slice A0 r.Map.length c0, .int .i64 r.Div, .int .i64 r.Bx, .int .i64 r.By, .int .i64 r.Low, .int .i64 r.High, .slice A6 r.Noise.length c6, .slice A7 r.Limits.length c7] 44)) 42 #[.slice A n c]
    replace q := q.alloc (.cells #[.int .i64 s.X, .int .i64 s.Y, .int .i64 s.D] 47)
    replace q := q.alloc (.cells #[.slice none 0 0, .slice none 0 0] 37)
    simpa only [World.size_alloc] using q
  have bS : Blk ((((w.alloc (.cells #[.slice A0 r.Map.length c0, .int .i64 r.Div, .int .i64 r.Bx, .int .i64 r.By, .int .i64 r.Low, .int .i64 r.High, .slice A6 r.Noise.length c6, .slice A7 r.Limits.length c7] 44)).alloc (.cells #[.slice A n c] 42)).alloc (.cells #[.int .i64 s.X, .int .i64 s.Y, .int .i64 s.D] 47)).alloc (.cells #[.slice none 0 0, .slice none 0 0] 37)) (w.heap.size + 1 + 1) 47 #[.int .i64 s.X, .int .i64 s.Y, .int .i64 s.D] := by
    have q := Blk.new ((w.alloc (.cells #[.slice A0 r.Map.length c0, .int .i64 r.Div, .int .i64 r.Bx, .int .i64 r.By, .int .i64 r.Low, .int .i64 r.High, .slice A6 r.Noise.length c6, .slice A7 r.Limits.length c7] 44)).alloc (.cells #[.slice A n c] 42)) 47 #[.int .i64 s.X, .int .i64 s.Y, .int .i64 s.D]
    replace q := q.alloc (.cells #[.slice none 0 0, .slice none 0 0] 37)
    simpa only [World.size_alloc] using q
  have bA : Blk ((((w.alloc (.cells #[.slice A0 r.Map.length c0, .int .i64 r.Div, .int .i64 r.Bx, .int .i64 r.By, .int .i64 r.Low, .int .i64 r.High, .slice A6 r.Noise.length c6, .slice A7 r.Limits.length c7] 44)).alloc (.cells #[.slice A n c] 42)).alloc (.cells #[.int .i64 s.X, .int .i64 s.Y, .int .i64 s.D] 47)).alloc (.cells #[.slice none 0 0, .slice none 0 0] 37)) (w.heap.size + 1 + 1 + 1) 37 #[.slice none 0 0, .slice none 0 0] := by
    have q := Blk.new (((w.alloc (.cells #[.slice A0 r.Map.length c0, .int .i64 r.Div, .int .i64 r.Bx, .int .i64 r.By, .int .i64 r.Low, .int .i64 r.High, .slice A6 r.Noise.length c6, .slice A7 r.Limits.length c7] 44)).alloc (.cells #[.slice A n c] 42)).alloc (.cells #[.int .i64 s.X, .int .i64 s.Y, .int .i64 s.D] 47)) 37 #[.slice none 0 0, .slice none 0 0]
    simpa only [World.size_alloc] using q
  have HX : Hid (cheapR r ps s ns p = if inR p 0 20 = true then trackR r ps s (List.replicate p.toNat 0) ns else (noTrack, false)) := rfl
  by_cases hin : inR p 0 20 = true
  rotate_left
  · have hin' : inR p 0 20 = false := by simpa using hin
    rw [hin'] at HX
    have H := Lib.hid (HX.out.trans (if_neg (by decide)))
    generalize cheapR r ps s ns p = X at *
    clear hin ha hr hn hI hNI hnr HX
    have cA := fun o => bA.cell o
    have fA := fun o => bA.frozen o
    go_enter Tryz.func12, Tryz.ntmps12
    go_wp2_with fail
    refine (inRange_any _ _ _ _).mono ?_
    rintro e w1 ⟨rfl, rfl⟩
    rw [hin']
    go_wp2
    have bF := ((bA.set_ 0 (.slice none 0 0)).set_ 1 (.slice none 0 0))
    have cF := fun o => bF.cell o
    clear cA
    refine bodyPost_ret (v := .tuple #[.agg #[.slice none 0 0, .slice none 0 0], .bool false]) (by first | (simp [results, Tryz.results12, go_sem]; done) | simp [results, Tryz.results12, go_sem, cF]) rfl ?_
    first | (with_reducible exact TrackMade.no H.out rfl hx) | exact TrackMade.no H.out rfl (ext_set2 hx (by omega) _ _)
  rw [hin] at HX
  have hb : 0 ≤ p ∧ p ≤ 20 := by unfold inR at hin; simpa using hin
  obtain ⟨m, rfl⟩ : ∃ m : Nat, p = (m : Int) := ⟨p.toNat, by omega⟩
  have hm : m ≤ 20 := by omega
  have H := Lib.hid (HX.out.trans (if_pos rfl))
  rw [Int.toNat_natCast] at H
  have hml : (List.replicate m (0 : Int)).length = m := List.length_replicate
  have HRl := Lib.hid (fun Aw w ha hr hw hnr => implRunLoop_any r A0 A6 A7 c0 c6 c7 A n c ps s Aw m (List.replicate m 0) An cn ns w ha hFI hRL hn hr hI hle hs hw (by rw [hml]; unfold maxLen; omega) hnr hnl hNI)
  rw [hml] at HRl
  rw [← H.out] at HRl
  have hmk := run_make_n 22 3 1 8 (.int .i64 0) Tryz.underlying22 (by kernel_rfl) m (by omega) (by omega)
  have hZ := Lib.hid (fun W => zeros_row m (by omega) W)
  have HA := Lib.hid ha
  have HR := Lib.hid hr
  have HNr := Lib.hid hnr
  generalize cheapR r ps s ns (m : Int) = X at *
  clear ha hFI hRL hn hr hI hle hs hnr hnl hNI HX hb hml
  have cM := fun o => bM.cell o
  have cP := fun o => bP.cell o
  have cS := fun o => bS.cell o
  have cA := fun o => bA.cell o
  have fA := fun o => bA.frozen o
  go_enter Tryz.func12, Tryz.ntmps12
  go_wp2_with fail
  refine (inRange_any _ _ _ _).mono ?_
  rintro e w1 ⟨rfl, rfl⟩
  rw [hin]
  clear hin
  generalize ((((w.alloc (.cells #[.slice A0 r.Map.length c0, .int .i64 r.Div, .int .i64 r.Bx, .int .i64 r.By, .int .i64 r.Low, .int .i64 r.High, .slice A6 r.Noise.length c6, .slice A7 r.Limits.length c7] 44)).alloc (.cells #[.slice A n c] 42)).alloc (.cells #[.int .i64 s.X, .int .i64 s.Y, .int .i64 s.D] 47)).alloc (.cells #[.slice none 0 0, .slice none 0 0] 37)) = W at *
  have hcur := Ext.refl W
  have hsW := hx.size
  have lM := bM.lt
  have lP := bP.lt
  have lS := bS.lt
  have lA := bA.lt
  have j1 : w.heap.size ≠ w.heap.size + 1 + 1 + 1 := by omega
  have j2 : w.heap.size ≠ w.heap.size + 1 + 1 := by omega
  have j3 : w.heap.size + 1 + 1 + 1 ≠ w.heap.size := by omega
  have j4 : w.heap.size + 1 + 1 ≠ w.heap.size := by omega
  have k1 : w.heap.size ≠ W.heap.size := by omega
  have k2 : W.heap.size ≠ w.heap.size := by omega
  have k3 : w.heap.size + 1 ≠ W.heap.size := by omega
  have k4 : W.heap.size ≠ w.heap.size + 1 := by omega
  have k5 : w.heap.size + 1 + 1 ≠ W.heap.size := by omega
  have k6 : W.heap.size ≠ w.heap.size + 1 + 1 := by omega
  go_wp2_with fail
  go_region_held3 (fun w' => w'.cell? ⟨w.heap.size, 0, none⟩ = some (.slice A0 r.Map.length c0) ∧ w'.cell? ⟨w.heap.size, 1, none⟩ = some (.int .i64 r.Div) ∧ w'.cell? ⟨w.heap.size, 2, none⟩ = some (.int .i64 r.Bx) ∧ w'.cell? ⟨w.heap.size, 3, none⟩ = some (.int .i64 r.By) ∧ w'.cell? ⟨w.heap.size, 4, none⟩ = some (.int .i64 r.Low) ∧ w'.cell? ⟨w.heap.size, 5, none⟩ = some (.int .i64 r.High) ∧ w'.cell? ⟨w.heap.size, 6, none⟩ = some (.slice A6 r.Noise.length c6) ∧ w'.cell? ⟨w.heap.size, 7, none⟩ = some (.slice A7 r.Limits.length c7) ∧ w'.cell? ⟨w.heap.size + 1, 0, none⟩ = some (.slice A n c) ∧ w'.cell? ⟨w.heap.size + 1 + 1, 0, none⟩ = some (.int .i64 s.X) ∧ w'.cell? ⟨w.heap.size + 1 + 1, 1, none⟩ = some (.int .i64 s.Y) ∧ w'.cell? ⟨w.heap.size + 1 + 1, 2, none⟩ = some (.int .i64 s.D))
    (go_keep)
    (first | (go_at_call 29; (with_reducible refine (HRl.out _ _ (HA.out.ext (hx.trans (by first | exact hcur | exact hcur.drew | exact hcur.alloc _ | exact hcur.drew.alloc _ | exact (hcur.alloc _).drew))) (HR.out.ext (hx.trans (by first | exact hcur | exact hcur.drew | exact hcur.alloc _ | exact hcur.drew.alloc _ | exact (hcur.alloc _).drew))) (by first | exact hZ.out _ | exact (hZ.out _).ext (Ext.refl _).drew) (HNr.out.ext (hx.trans (by first | exact hcur | exact hcur.drew | exact hcur.alloc _ | exact hcur.drew.alloc _ | exact (hcur.alloc _).drew)))).mono ?_); rintro e w9 ⟨us, rfl, tm, hx9⟩; replace hcur := Ext.trans (by first | exact hcur | exact hcur.drew | exact hcur.alloc _ | exact hcur.drew.alloc _ | exact (hcur.alloc _).drew) hx9; replace tm := TrackPt.wide (lo2 := W.heap.size) tm (by have := (hcur).size; first | omega | (simp; done) | (simp; omega)) (Nat.le_refl _); obtain ⟨B0, d0, B1, d1, l0, g0, l1, g1, rfl, m0, m1, q1, q2, q3, q4, q5⟩ := tm; have cM9 := fun o => (bM.ext hcur).cell o; have cP9 := fun o => (bP.ext hcur).cell o; have cS9 := fun o => (bS.ext hcur).cell o; have bA9 := bA.ext hcur; have cA9 := fun o => bA9.cell o; have fA9 := fun o => bA9.frozen o))
  all_goals
    go_wp2
    have bF := (bA9.set_ 0 (.slice B0 X.1.Spots.length d0)).set_ 1 (.slice B1 X.1.Inputs.length d1)
    have cF := fun o => bF.cell o
    have tp : TrackPt w9 X.1.Spots.length X.1.Inputs.length (ints (flat Spot.ints X.1.Spots)) (ints (flat Ratio.ints X.1.Inputs)) [.slice B0 X.1.Spots.length d0, .slice B1 X.1.Inputs.length d1] W.heap.size w9.heap.size := ⟨B0, d0, B1, d1, l0, g0, l1, g1, rfl, m0, m1, q1, q2, q3, q4, q5⟩
    clear cA cA9
    refine bodyPost_ret (v := .tuple #[.agg #[.slice B0 X.1.Spots.length d0, .slice B1 X.1.Inputs.length d1], .bool X.2]) (by simp [results, Tryz.results12, go_sem, cF]) rfl ?_
    refine ⟨_, rfl, ?_, ext_set2 (hx.trans hcur) (by omega) _ _⟩
    exact ((tp.setB (p := ⟨w.heap.size + 1 + 1 + 1, 0, none⟩) (.inl lA) _).setB (p := ⟨w.heap.size + 1 + 1 + 1, 1, none⟩) (.inl lA) _).wide hsW (by simp only [World.size_setCell]; exact Nat.le_refl _)

set_option maxHeartbeats 16000000 in
theorem specCheapTrack_any (r : Room) (A0 A6 A7 : Option Addr) (c0 c6 c7 : Nat) (A : Option Addr) (n c : Nat) (ps : List Half) (s : Spot) (An : Option Addr) (cn : Nat) (ns : List Spot) (p : Int) (w : World) (ha : RoomHere w r A0 A6 A7 c0 c6 c7) (hFI : roomFI r) (hRL : RoomL r) (hn : ps.length = n) (hr : Row w A (ints (flat Half.ints ps))) (hA : A = none → n = 0 ∧ c = 0) (hI : HalvesI ps) (hle : n ≤ maxLen) (hs : I64 s.X ∧ I64 s.Y ∧ I64 s.D) (hnr : Row w An (ints (flat Spot.ints ns))) (hnl : ns.length ≤ maxLen) (hNI : ∀ x ∈ ns, I64 x.X ∧ I64 x.Y ∧ I64 x.D) :
    Calls Tryz.prog 7 #[.agg #[.slice A0 r.Map.length c0, .int .i64 r.Div, .int .i64 r.Bx, .int .i64 r.By, .int .i64 r.Low, .int .i64 r.High, .slice A6 r.Noise.length c6, .slice A7 r.Limits.length c7], .agg #[.slice A n c], .agg #[.int .i64 s.X, .int .i64 s.Y, .int .i64 s.D], .slice An ns.length cn, .int .i64 p] w (TrackMade (cheapR r ps s ns p) w) := by
  have hx : Ext w ((((w.alloc (.cells #[.slice A0 r.Map.length c0, .int .i64 r.Div, .int .i64 r.Bx, .int .i64 r.By, .int .i64 r.Low, .int .i64 r.High, .slice A6 r.Noise.length c6, .slice A7 r.Limits.length c7] 44)).alloc (.cells #[.slice A n c] 42)).alloc (.cells #[.int .i64 s.X, .int .i64 s.Y, .int .i64 s.D] 47)).alloc (.cells #[.slice none 0 0, .slice none 0 0] 37)) := by repeat (first | exact Ext.refl _ | refine Ext.alloc ?_ _)
  have bM : Blk ((((w.alloc (.cells #[.slice A0 r.Map.length c0, .int .i64 r.Div, .int .i64 r.Bx, .int .i64 r.By, .int .i64 r.Low, .int .i64 r.High, .slice A6 r.Noise.length c6, .slice A7 r.Limits.length c7] 44)).alloc (.cells #[.slice A n c] 42)).alloc (.cells #[.int .i64 s.X, .int .i64 s.Y, .int .i64 s.D] 47)).alloc (.cells #[.slice none 0 0, .slice none 0 0] 37)) (w.heap.size) 44 #[.slice A0 r.Map.length c0, .int .i64 r.Div, .int .i64 r.Bx, .int .i64 r.By, .int .i64 r.Low, .int .i64 r.High, .slice A6 r.Noise.length c6, .slice A7 r.Limits.length c7] := by
    have q := Blk.new w 44 #[.slice A0 r.Map.length c0, .int .i64 r.Div, .int .i64 r.Bx, .int .i64 r.By, .int .i64 r.Low, .int .i64 r.High, .slice A6 r.Noise.length c6, .slice A7 r.Limits.length c7]
    replace q := q.alloc (.cells #[.slice A n c] 42)
    replace q := q.alloc (.cells #[.int .i64 s.X, .int .i64 s.Y, .int .i64 s.D] 47)
    replace q := q.alloc (.cells #[.slice none 0 0, .slice none 0 0] 37)
    simpa only [World.size_alloc] using q
  have bP : Blk ((((w.alloc (.cells #[.slice A0 r.Map.length c0, .int .i64 r.Div, .int .i64 r.Bx, .int .i64 r.By, .int .i64 r.Low, .int .i64 r.High, .slice A6 r.Noise.length c6, .slice A7 r.Limits.length c7] 44)).alloc (.cells #[.slice A n c] 42)).alloc (.cells #[.int .i64 s.X, .int .i64 s.Y, .int .i64 s.D] 47)).alloc (.cells #[.slice none 0 0, .slice none 0 0] 37)) (w.heap.size + 1) 42 #[.slice A n c] := by
    have q := Blk.new (w.alloc (.cells #[.slice A0 r.Map.length c0, .int .i64 r.Div, .int .i64 r.Bx, .int .i64 r.By, .int .i64 r.Low, .int .i64 r.High, .slice A6 r.Noise.length c6, .slice A7 r.Limits.length c7] 44)) 42 #[.slice A n c]
    replace q := q.alloc (.cells #[.int .i64 s.X, .int .i64 s.Y, .int .i64 s.D] 47)
    replace q := q.alloc (.cells #[.slice none 0 0, .slice none 0 0] 37)
    simpa only [World.size_alloc] using q
  have bS : Blk ((((w.alloc (.cells #[.slice A0 r.Map.length c0, .int .i64 r.Div, .int .i64 r.Bx, .int .i64 r.By, .int .i64 r.Low, .int .i64 r.High, .slice A6 r.Noise.length c6, .slice A7 r.Limits.length c7] 44)).alloc (.cells #[.slice A n c] 42)).alloc (.cells #[.int .i64 s.X, .int .i64 s.Y, .int .i64 s.D] 47)).alloc (.cells #[.slice none 0 0, .slice none 0 0] 37)) (w.heap.size + 1 + 1) 47 #[.int .i64 s.X, .int .i64 s.Y, .int .i64 s.D] := by
    have q := Blk.new ((w.alloc (.cells #[.slice A0 r.Map.length c0, .int .i64 r.Div, .int .i64 r.Bx, .int .i64 r.By, .int .i64 r.Low, .int .i64 r.High, .slice A6 r.Noise.length c6, .slice A7 r.Limits.length c7] 44)).alloc (.cells #[.slice A n c] 42)) 47 #[.int .i64 s.X, .int .i64 s.Y, .int .i64 s.D]
    replace q := q.alloc (.cells #[.slice none 0 0, .slice none 0 0] 37)
    simpa only [World.size_alloc] using q
  have bA : Blk ((((w.alloc (.cells #[.slice A0 r.Map.length c0, .int .i64 r.Div, .int .i64 r.Bx, .int .i64 r.By, .int .i64 r.Low, .int .i64 r.High, .slice A6 r.Noise.length c6, .slice A7 r.Limits.length c7] 44)).alloc (.cells #[.slice A n c] 42)).alloc (.cells #[.int .i64 s.X, .int .i64 s.Y, .int .i64 s.D] 47)).alloc (.cells #[.slice none 0 0, .slice none 0 0] 37)) (w.heap.size + 1 + 1 + 1) 37 #[.slice none 0 0, .slice none 0 0] := by
    have q := Blk.new (((w.alloc (.cells #[.slice A0 r.Map.length c0, .int .i64 r.Div, .int .i64 r.Bx, .int .i64 r.By, .int .i64 r.Low, .int .i64 r.High, .slice A6 r.Noise.length c6, .slice A7 r.Limits.length c7] 44)).alloc (.cells #[.slice A n c] 42)).alloc (.cells #[.int .i64 s.X, .int .i64 s.Y, .int .i64 s.D] 47)) 37 #[.slice none 0 0, .slice none 0 0]
    simpa only [World.size_alloc] using q
  have HX : Hid (cheapR r ps s ns p = if inR p 0 20 = true then trackR r ps s (List.replicate p.toNat 0) ns else (noTrack, false)) := rfl
  by_cases hin : inR p 0 20 = true
  rotate_left
  · have hin' : inR p 0 20 = false := by simpa using hin
    rw [hin'] at HX
    have H := Lib.hid (HX.out.trans (if_neg (by decide)))
    generalize cheapR r ps s ns p = X at *
    clear hin ha hr hn hI hNI hnr HX
    have cA := fun o => bA.cell o
    have fA := fun o => bA.frozen o
    go_enter Tryz.func7, Tryz.ntmps7
    go_wp2_with fail
    refine (l01In_any _ _ _ _).mono ?_
    rintro e w1 ⟨rfl, rfl⟩
    rw [hin']
    go_wp2
    have bF := ((bA.set_ 0 (.slice none 0 0)).set_ 1 (.slice none 0 0))
    have cF := fun o => bF.cell o
    clear cA
    refine bodyPost_ret (v := .tuple #[.agg #[.slice none 0 0, .slice none 0 0], .bool false]) (by first | (simp [results, Tryz.results7, go_sem]; done) | simp [results, Tryz.results7, go_sem, cF]) rfl ?_
    first | (with_reducible exact TrackMade.no H.out rfl hx) | exact TrackMade.no H.out rfl (ext_set2 hx (by omega) _ _)
  rw [hin] at HX
  have hb : 0 ≤ p ∧ p ≤ 20 := by unfold inR at hin; simpa using hin
  obtain ⟨m, rfl⟩ : ∃ m : Nat, p = (m : Int) := ⟨p.toNat, by omega⟩
  have hm : m ≤ 20 := by omega
  have H := Lib.hid (HX.out.trans (if_pos rfl))
  rw [Int.toNat_natCast] at H
  have hml : (List.replicate m (0 : Int)).length = m := List.length_replicate
  have HRl := Lib.hid (fun Aw w ha hr hw hnr => specRunLoop_any r A0 A6 A7 c0 c6 c7 A n c ps s Aw m (List.replicate m 0) An cn ns w ha hFI hRL hn hr hA hI hle hs hw (by rw [hml]; unfold maxLen; omega) hnr hnl hNI)
  rw [hml] at HRl
  rw [← H.out] at HRl
  have hmk := run_make_n 22 3 1 8 (.int .i64 0) Tryz.underlying22 (by kernel_rfl) m (by omega) (by omega)
  have hZ := Lib.hid (fun W => zeros_row m (by omega) W)
  have HA := Lib.hid ha
  have HR := Lib.hid hr
  have HNr := Lib.hid hnr
  generalize cheapR r ps s ns (m : Int) = X at *
  clear ha hFI hRL hn hr hI hle hs hnr hnl hNI HX hb hA hml
  have cM := fun o => bM.cell o
  have cP := fun o => bP.cell o
  have cS := fun o => bS.cell o
  have cA := fun o => bA.cell o
  have fA := fun o => bA.frozen o
  go_enter Tryz.func7, Tryz.ntmps7
  go_wp2_with fail
  refine (l01In_any _ _ _ _).mono ?_
  rintro e w1 ⟨rfl, rfl⟩
  rw [hin]
  clear hin
  generalize ((((w.alloc (.cells #[.slice A0 r.Map.length c0, .int .i64 r.Div, .int .i64 r.Bx, .int .i64 r.By, .int .i64 r.Low, .int .i64 r.High, .slice A6 r.Noise.length c6, .slice A7 r.Limits.length c7] 44)).alloc (.cells #[.slice A n c] 42)).alloc (.cells #[.int .i64 s.X, .int .i64 s.Y, .int .i64 s.D] 47)).alloc (.cells #[.slice none 0 0, .slice none 0 0] 37)) = W at *
  have hcur := Ext.refl W
  have hsW := hx.size
  have lM := bM.lt
  have lP := bP.lt
  have lS := bS.lt
  have lA := bA.lt
  have j1 : w.heap.size ≠ w.heap.size + 1 + 1 + 1 := by omega
  have j2 : w.heap.size ≠ w.heap.size + 1 + 1 := by omega
  have j3 : w.heap.size + 1 + 1 + 1 ≠ w.heap.size := by omega
  have j4 : w.heap.size + 1 + 1 ≠ w.heap.size := by omega
  have k1 : w.heap.size ≠ W.heap.size := by omega
  have k2 : W.heap.size ≠ w.heap.size := by omega
  have k3 : w.heap.size + 1 ≠ W.heap.size := by omega
  have k4 : W.heap.size ≠ w.heap.size + 1 := by omega
  have k5 : w.heap.size + 1 + 1 ≠ W.heap.size := by omega
  have k6 : W.heap.size ≠ w.heap.size + 1 + 1 := by omega
  go_wp2_with fail
  go_region_held3 (fun w' => w'.cell? ⟨w.heap.size, 0, none⟩ = some (.slice A0 r.Map.length c0) ∧ w'.cell? ⟨w.heap.size, 1, none⟩ = some (.int .i64 r.Div) ∧ w'.cell? ⟨w.heap.size, 2, none⟩ = some (.int .i64 r.Bx) ∧ w'.cell? ⟨w.heap.size, 3, none⟩ = some (.int .i64 r.By) ∧ w'.cell? ⟨w.heap.size, 4, none⟩ = some (.int .i64 r.Low) ∧ w'.cell? ⟨w.heap.size, 5, none⟩ = some (.int .i64 r.High) ∧ w'.cell? ⟨w.heap.size, 6, none⟩ = some (.slice A6 r.Noise.length c6) ∧ w'.cell? ⟨w.heap.size, 7, none⟩ = some (.slice A7 r.Limits.length c7) ∧ w'.cell? ⟨w.heap.size + 1, 0, none⟩ = some (.slice A n c) ∧ w'.cell? ⟨w.heap.size + 1 + 1, 0, none⟩ = some (.int .i64 s.X) ∧ w'.cell? ⟨w.heap.size + 1 + 1, 1, none⟩ = some (.int .i64 s.Y) ∧ w'.cell? ⟨w.heap.size + 1 + 1, 2, none⟩ = some (.int .i64 s.D))
    (go_keep)
    (first | (go_at_call 25; (with_reducible refine (HRl.out _ _ (HA.out.ext (hx.trans (by first | exact hcur | exact hcur.drew | exact hcur.alloc _ | exact hcur.drew.alloc _ | exact (hcur.alloc _).drew))) (HR.out.ext (hx.trans (by first | exact hcur | exact hcur.drew | exact hcur.alloc _ | exact hcur.drew.alloc _ | exact (hcur.alloc _).drew))) (by first | exact hZ.out _ | exact (hZ.out _).ext (Ext.refl _).drew) (HNr.out.ext (hx.trans (by first | exact hcur | exact hcur.drew | exact hcur.alloc _ | exact hcur.drew.alloc _ | exact (hcur.alloc _).drew)))).mono ?_); rintro e w9 ⟨us, rfl, tm, hx9⟩; replace hcur := Ext.trans (by first | exact hcur | exact hcur.drew | exact hcur.alloc _ | exact hcur.drew.alloc _ | exact (hcur.alloc _).drew) hx9; replace tm := TrackPt.wide (lo2 := W.heap.size) tm (by have := (hcur).size; first | omega | (simp; done) | (simp; omega)) (Nat.le_refl _); obtain ⟨B0, d0, B1, d1, l0, g0, l1, g1, rfl, m0, m1, q1, q2, q3, q4, q5⟩ := tm; have cM9 := fun o => (bM.ext hcur).cell o; have cP9 := fun o => (bP.ext hcur).cell o; have cS9 := fun o => (bS.ext hcur).cell o; have bA9 := bA.ext hcur; have cA9 := fun o => bA9.cell o; have fA9 := fun o => bA9.frozen o))
  all_goals
    go_wp2
    have bF := (bA9.set_ 0 (.slice B0 X.1.Spots.length d0)).set_ 1 (.slice B1 X.1.Inputs.length d1)
    have cF := fun o => bF.cell o
    have tp : TrackPt w9 X.1.Spots.length X.1.Inputs.length (ints (flat Spot.ints X.1.Spots)) (ints (flat Ratio.ints X.1.Inputs)) [.slice B0 X.1.Spots.length d0, .slice B1 X.1.Inputs.length d1] W.heap.size w9.heap.size := ⟨B0, d0, B1, d1, l0, g0, l1, g1, rfl, m0, m1, q1, q2, q3, q4, q5⟩
    clear cA cA9
    refine bodyPost_ret (v := .tuple #[.agg #[.slice B0 X.1.Spots.length d0, .slice B1 X.1.Inputs.length d1], .bool X.2]) (by simp [results, Tryz.results7, go_sem, cF]) rfl ?_
    refine ⟨_, rfl, ?_, ext_set2 (hx.trans hcur) (by omega) _ _⟩
    exact ((tp.setB (p := ⟨w.heap.size + 1 + 1 + 1, 0, none⟩) (.inl lA) _).setB (p := ⟨w.heap.size + 1 + 1 + 1, 1, none⟩) (.inl lA) _).wide hsW (by simp only [World.size_setCell]; exact Nat.le_refl _)

end Go.Proofs.YtbbdipfioopfmaaGreat
