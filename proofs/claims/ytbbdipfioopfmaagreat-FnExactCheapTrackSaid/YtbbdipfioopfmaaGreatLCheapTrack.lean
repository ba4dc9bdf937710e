/- The law FnExactCheapTrack returns true for all arguments: CheapTrack of the program and of the reference give the same track. No condition. -/
import Derived.Test.YtbbdipfioopfmaaGreatHz
import Derived.Test.YtbbdipfioopfmaaGreatCk
import Derived.Test.YtbbdipfioopfmaaGreatRh
import Derived.Test.YtbbdipfioopfmaaGreatRa
import Derived.Test.YtbbdipfioopfmaaGreatMn
import Derived.Test.YtbbdipfioopfmaaGreatMRoom
import Derived.Test.YtbbdipfioopfmaaGreatMRegion
import Derived.Test.YtbbdipfioopfmaaGreatMTrack
import Derived.Test.YtbbdipfioopfmaaGreatMs
import Derived.Deep.RegionHeld3
import Derived.Deep.CutRange
namespace Go.Proofs.YtbbdipfioopfmaaGreat
open Go.ChangeShapes Go.WideShapes Go.ChangeAt Go.RowKit
set_option linter.unusedVariables false
set_option maxRecDepth 100000

theorem TrackM.ext {w w' : World} {T : Track} {us : List Value} {lo hi : Nat} (h : TrackM w T us lo hi) (hx : Ext w w') : TrackM w' T us lo hi := TrackPt.ext h hx
theorem TrackM.touch {w w' : World} {T : Track} {us : List Value} {lo hi l h' : Nat} (h : TrackM w T us lo hi) (k : Touch l h' w w') (hd : hi ≤ l ∨ h' ≤ lo) : TrackM w' T us lo hi := TrackPt.touch h k hd
theorem TrackMk.ext {w w' : World} {T : Track} {k : Int} {us : List Value} {lo hi : Nat} (h : TrackMk w T k us lo hi) (hx : Ext w w') : TrackMk w' T k us lo hi := TrackPt.ext h hx
theorem TrackMk.touch {w w' : World} {T : Track} {k : Int} {us : List Value} {lo hi l h' : Nat} (h : TrackMk w T k us lo hi) (q : Touch l h' w w') (hd : hi ≤ l ∨ h' ≤ lo) : TrackMk w' T k us lo hi := TrackPt.touch h q hd
def TrackMadeQ (T : Track) (q : Bool) (w : World) (e : Ending) (w' : World) : Prop :=
  ∃ B0 d0 B1 d1, e = .returned (.tuple #[.agg #[.slice B0 T.Spots.length d0, .slice B1 T.Inputs.length d1], .bool q]) ∧ TrackM w' T [.slice B0 T.Spots.length d0, .slice B1 T.Inputs.length d1] w.heap.size w'.heap.size ∧ Ext w w'
theorem made_as {x : Track × Bool} {T : Track} {q : Bool} (h : x = (T, q)) {f : Nat} {args : Array Value} {w : World} (hc : Calls Tryz.prog f args w (TrackMade x w)) : Calls Tryz.prog f args w (TrackMadeQ T q w) := by
  subst h
  refine hc.mono ?_
  rintro e w' ⟨us, rfl, ⟨A0, c0, A1, c1, l0, g0, l1, g1, rfl, m0, m1, q1⟩, hx⟩
  exact ⟨A0, c0, A1, c1, rfl, ⟨A0, c0, A1, c1, l0, g0, l1, g1, rfl, m0, m1, q1⟩, hx⟩
theorem cheap_cnt {r : Room} {ps : List Half} {s : Spot} {ns : List Spot} {p : Int} {T : Track} {q : Bool} (h : cheapR r ps s ns p = (T, q)) : cntF (trackF T) ≤ 100000000 := by
  have hz : cntF (trackF noTrack) ≤ 100000000 := by simp [trackF, cntF, spotF, ratioF, noTrack]
  unfold cheapR at h
  split at h
  · unfold trackR at h
    split at h
    · rename_i hr
      unfold runOk at hr
      simp only [Bool.and_eq_true, decide_eq_true_eq] at hr
      unfold trackAll at h
      split at h
      · rename_i U hU
        injection h with h1 h2
        subst h1
        obtain ⟨e1, e2⟩ := trackK_len _ _ hU
        simp only [trackF, cntF, spotF, ratioF]
        omega
      · injection h with h1 h2
        subst h1
        exact hz
    · injection h with h1 h2
      subst h1
      exact hz
  · injection h with h1 h2
    subst h1
    exact hz
/-- a track made by the region, in a variable of its own, wherever that lies -/
def OneTrack (T : Track) (q : Bool) (V : World) (p o : Value) (wx : World) : Prop := ∃ b B0 d0 B1 d1 lo hi, p = .pointer (some ⟨b, 0, none⟩) ∧ o = .bool q ∧ V.heap.size ≤ b ∧ b < wx.heap.size ∧ Ext V wx ∧ Blk wx b 37 #[.slice B0 T.Spots.length d0, .slice B1 T.Inputs.length d1] ∧ TrackM wx T [.slice B0 T.Spots.length d0, .slice B1 T.Inputs.length d1] lo hi ∧ V.heap.size ≤ lo ∧ hi ≤ wx.heap.size ∧ (b < lo ∨ hi ≤ b)
theorem OneTrack.new {T : Track} {q : Bool} {V W : World} {B0 B1 : Option Addr} {d0 d1 lo hi : Nat} (h : Ext V W) (tm : TrackM W T [.slice B0 T.Spots.length d0, .slice B1 T.Inputs.length d1] lo hi) (h1 : V.heap.size ≤ lo) (h2 : hi ≤ W.heap.size) : OneTrack T q V (.pointer (some ⟨W.heap.size, 0, none⟩)) (.bool q) (W.alloc (.cells #[.slice B0 T.Spots.length d0, .slice B1 T.Inputs.length d1] 37)) :=
  ⟨_, B0, d0, B1, d1, lo, hi, rfl, rfl, h.size, by rw [World.size_alloc]; omega, h.alloc _, Blk.new W _ _, tm.ext ((Ext.refl W).alloc _), h1, by rw [World.size_alloc]; omega, .inr h2⟩
theorem OneTrack.old {T : Track} {q : Bool} {V W : World} {B0 B1 : Option Addr} {d0 d1 lo hi g : Nat} (h : Ext V W) (tm : TrackM W T [.slice B0 T.Spots.length d0, .slice B1 T.Inputs.length d1] lo hi) (h1 : V.heap.size ≤ lo) (h2 : hi ≤ W.heap.size) (hg : V.heap.size ≤ g) (hl : g < lo) (b : Blk W g 37 #[.slice none 0 0, .slice none 0 0]) : OneTrack T q V (.pointer (some ⟨g, 0, none⟩)) (.bool q) ((W.setCell ⟨g, 0, none⟩ (.slice B0 T.Spots.length d0)).setCell ⟨g, 1, none⟩ (.slice B1 T.Inputs.length d1)) :=
  ⟨g, B0, d0, B1, d1, lo, hi, rfl, rfl, hg, by simp only [World.size_setCell]; exact b.lt, ext_set2 h hg _ _, (b.set_ 0 _).set_ 1 _, TrackPt.setB (TrackPt.setB tm (p := ⟨g, 0, none⟩) (.inl hl) _) (p := ⟨g, 1, none⟩) (.inl hl) _, h1, by simp only [World.size_setCell]; exact h2, .inl hl⟩
set_option maxHeartbeats 64000000 in
theorem lawCheapTrack (r0 : Room) (vs0 : List Value) (r1 : List Half) (vs1 : List Value) (z20 z21 z22 : Int) (A3 : Option Addr) (c3 : Nat) (xs3 : List Spot) (z4 : Int) (w : World) (h0 : AggRow w (roomF r0) vs0) (hI0 : roomFI r0) (h1 : AggRow w (regionF r1) vs1) (hI1 : regionFI r1) (hz20 : I64 z20) (hz21 : I64 z21) (hz22 : I64 z22) (hr3 : Row w A3 (ints (flat Spot.ints xs3))) (hn3 : xs3.length ≤ c3) (hm3 : c3 ≤ maxLen) (hzi3 : ∀ x ∈ xs3, ∀ z ∈ Spot.ints x, I64 z) (hz4 : I64 z4) :
    Calls Tryz.prog 3 #[.agg vs0.toArray, .agg vs1.toArray, .agg #[.int .i64 z20, .int .i64 z21, .int .i64 z22], .slice A3 xs3.length c3, .int .i64 z4] w fun e w' => e = .returned (.bool true) ∧ Ext w w' := by
  obtain ⟨A0_0, c0_0, _, rfl, p0r0, p0n0, p0m0, _, rfl, _, rfl, _, rfl, _, rfl, _, rfl, A0_6, c0_6, _, rfl, p0r6, p0n6, p0m6, A0_7, c0_7, _, rfl, p0r7, p0n7, p0m7, rfl⟩ := h0
  obtain ⟨A1_0, c1_0, _, rfl, p1r0, p1n0, p1m0, rfl⟩ := h1
  have hy : Ext w (((w.alloc (.cells #[.slice A0_0 r0.Map.length c0_0, .int .i64 r0.Div, .int .i64 r0.Bx, .int .i64 r0.By, .int .i64 r0.Low, .int .i64 r0.High, .slice A0_6 r0.Noise.length c0_6, .slice A0_7 r0.Limits.length c0_7] 27)).alloc (.cells #[.slice A1_0 r1.length c1_0] 25)).alloc (.cells #[.int .i64 z20, .int .i64 z21, .int .i64 z22] 29)) := by repeat (first | exact Ext.refl _ | refine Ext.alloc ?_ _)
  have bA0 : Blk (((w.alloc (.cells #[.slice A0_0 r0.Map.length c0_0, .int .i64 r0.Div, .int .i64 r0.Bx, .int .i64 r0.By, .int .i64 r0.Low, .int .i64 r0.High, .slice A0_6 r0.Noise.length c0_6, .slice A0_7 r0.Limits.length c0_7] 27)).alloc (.cells #[.slice A1_0 r1.length c1_0] 25)).alloc (.cells #[.int .i64 z20, .int .i64 z21, .int .i64 z22] 29)) (w.heap.size) 27 #[.slice A0_0 r0.Map.length c0_0, .int .i64 r0.Div, .int .i64 r0.Bx, .int .i64 r0.By, .int .i64 r0.Low, .int .i64 r0.High, .slice A0_6 r0.Noise.length c0_6, .slice A0_7 r0.Limits.length c0_7] := by
    have q := Blk.new w 27 #[.slice A0_0 r0.Map.length c0_0, .int .i64 r0.Div, .int .i64 r0.Bx, .int .i64 r0.By, .int .i64 r0.Low, .int .i64 r0.High, .slice A0_6 r0.Noise.length c0_6, .slice A0_7 r0.Limits.length c0_7]
    replace q := q.alloc (.cells #[.slice A1_0 r1.length c1_0] 25)
    replace q := q.alloc (.cells #[.int .i64 z20, .int .i64 z21, .int .i64 z22] 29)
    simpa only [World.size_alloc] using q
  have bA1 : Blk (((w.alloc (.cells #[.slice A0_0 r0.Map.length c0_0, .int .i64 r0.Div, .int .i64 r0.Bx, .int .i64 r0.By, .int .i64 r0.Low, .int .i64 r0.High, .slice A0_6 r0.Noise.length c0_6, .slice A0_7 r0.Limits.length c0_7] 27)).alloc (.cells #[.slice A1_0 r1.length c1_0] 25)).alloc (.cells #[.int .i64 z20, .int .i64 z21, .int .i64 z22] 29)) (w.heap.size + 1) 25 #[.slice A1_0 r1.length c1_0] := by
    have q := Blk.new (w.alloc (.cells #[.slice A0_0 r0.Map.length c0_0, .int .i64 r0.Div, .int .i64 r0.Bx, .int .i64 r0.By, .int .i64 r0.Low, .int .i64 r0.High, .slice A0_6 r0.Noise.length c0_6, .slice A0_7 r0.Limits.length c0_7] 27)) 25 #[.slice A1_0 r1.length c1_0]
    replace q := q.alloc (.cells #[.int .i64 z20, .int .i64 z21, .int .i64 z22] 29)
    simpa only [World.size_alloc] using q
  have bA2 : Blk (((w.alloc (.cells #[.slice A0_0 r0.Map.length c0_0, .int .i64 r0.Div, .int .i64 r0.Bx, .int .i64 r0.By, .int .i64 r0.Low, .int .i64 r0.High, .slice A0_6 r0.Noise.length c0_6, .slice A0_7 r0.Limits.length c0_7] 27)).alloc (.cells #[.slice A1_0 r1.length c1_0] 25)).alloc (.cells #[.int .i64 z20, .int .i64 z21, .int .i64 z22] 29)) (w.heap.size + 2) 29 #[.int .i64 z20, .int .i64 z21, .int .i64 z22] := by
    have q := Blk.new ((w.alloc (.cells #[.slice A0_0 r0.Map.length c0_0, .int .i64 r0.Div, .int .i64 r0.Bx, .int .i64 r0.By, .int .i64 r0.Low, .int .i64 r0.High, .slice A0_6 r0.Noise.length c0_6, .slice A0_7 r0.Limits.length c0_7] 27)).alloc (.cells #[.slice A1_0 r1.length c1_0] 25)) 29 #[.int .i64 z20, .int .i64 z21, .int .i64 z22]
    simpa only [World.size_alloc] using q
  go_enter Tryz.func3, Tryz.ntmps3
  go_wp2_with fail
  refine (szRoom_m r0 [.slice A0_0 r0.Map.length c0_0, .int .i64 r0.Div, .int .i64 r0.Bx, .int .i64 r0.By, .int .i64 r0.Low, .int .i64 r0.High, .slice A0_6 r0.Noise.length c0_6, .slice A0_7 r0.Limits.length c0_7] (1048576) _ ⟨_, _, _, rfl, p0r0.ext hy, p0n0, p0m0, _, rfl, _, rfl, _, rfl, _, rfl, _, rfl, _, _, _, rfl, p0r6.ext hy, p0n6, p0m6, _, _, _, rfl, p0r7.ext hy, p0n7, p0m7, rfl⟩ (by omega) (by omega)).mono ?_
  rintro e w1 ⟨rfl, hx1⟩
  replace hy := hy.trans hx1
  replace bA0 := bA0.ext hx1
  replace bA1 := bA1.ext hx1
  replace bA2 := bA2.ext hx1
  have cbA0_1 := fun o => bA0.cell o
  have cbA1_2 := fun o => bA1.cell o
  have cbA2_3 := fun o => bA2.cell o
  have hbd0 := szL_bd (lenF (roomF r0)) (1048576) (by omega)
  have hle0 := szL_le (lenF (roomF r0)) (1048576)
  generalize szL (lenF (roomF r0)) (1048576) = l0 at hbd0 hle0 ⊢
  obtain ⟨hp0, hq0⟩ := hbd0
  by_cases hc0 : l0 < 0
  · go_wp2
    go_ret
    exact ⟨rfl, hy⟩
  have hb0 : ∀ n ∈ lenF (roomF r0), n ≤ 1048576 := fun n hn => by have := hle0 (by omega) n hn; omega
  clear hle0
  go_wp2_with fail
  refine (szRegion_m r1 [.slice A1_0 r1.length c1_0] (l0) _ ⟨_, _, _, rfl, p1r0.ext hy, p1n0, p1m0, rfl⟩ (by omega) (by omega)).mono ?_
  rintro e w2 ⟨rfl, hx2⟩
  replace hy := hy.trans hx2
  replace bA0 := bA0.ext hx2
  replace bA1 := bA1.ext hx2
  replace bA2 := bA2.ext hx2
  have cbA0_4 := fun o => bA0.cell o
  have cbA1_5 := fun o => bA1.cell o
  have cbA2_6 := fun o => bA2.cell o
  have hbd1 := szL_bd (lenF (regionF r1)) (l0) (by omega)
  have hle1 := szL_le (lenF (regionF r1)) (l0)
  generalize szL (lenF (regionF r1)) (l0) = l1 at hbd1 hle1 ⊢
  obtain ⟨hp1, hq1⟩ := hbd1
  by_cases hc1 : l1 < 0
  · go_wp2
    go_ret
    exact ⟨rfl, hy⟩
  have hb1 : ∀ n ∈ lenF (regionF r1), n ≤ 1048576 := fun n hn => by have := hle1 (by omega) n hn; omega
  clear hle1
  go_wp2_with fail
  refine (szSpotS_any _ _ _ (l1) _ (by omega) (by omega) (Nat.le_trans hn3 hm3)).mono ?_
  rintro e w' ⟨rfl, rfl⟩
  rw [← szL_one (n := xs3.length)]
  have hbd3 := szL_bd ([xs3.length]) (l1) (by omega)
  have hle3 := szL_le ([xs3.length]) (l1)
  generalize szL ([xs3.length]) (l1) = l3 at hbd3 hle3 ⊢
  obtain ⟨hp3, hq3⟩ := hbd3
  by_cases hc3 : l3 < 0
  · go_wp2
    go_ret
    exact ⟨rfl, hy⟩
  have hb3 : xs3.length ≤ 1048576 := by have := hle3 (by omega) xs3.length (by simp); omega
  clear hle3
  have hB0 := hb0
  rw [roomF_len] at hB0
  have b0_0 : r0.Map.length ≤ 1048576 := hB0 _ (by simp)
  have b0_6 : r0.Noise.length ≤ 1048576 := hB0 _ (by simp)
  have b0_7 : r0.Limits.length ≤ 1048576 := hB0 _ (by simp)
  clear hB0
  have hB1 := hb1
  rw [regionF_len] at hB1
  have b1_0 : r1.length ≤ 1048576 := hB1 _ (by simp)
  clear hB1
  have hs00 := hy.size
  have hsA0 := bA0.lt
  have hsA1 := bA1.lt
  have hsA2 := bA2.lt
  have hI1' : HalvesI r1 := hI1
  have hNI : ∀ x ∈ xs3, I64 x.X ∧ I64 x.Y ∧ I64 x.D := fun x hx => ⟨hzi3 x hx _ (by simp [Spot.ints]), hzi3 x hx _ (by simp [Spot.ints]), hzi3 x hx _ (by simp [Spot.ints])⟩
  obtain ⟨⟨T0, q0⟩, hCR⟩ : ∃ x, cheapR r0 r1 ⟨z20, z21, z22⟩ xs3 z4 = x := ⟨_, rfl⟩
  have hcnt : cntF (trackF T0) ≤ 100000000 := cheap_cnt hCR
  have HS := Lib.hid (fun B0 B6 B7 d0 d6 d7 C e_ D f_ w ha hr nA hnr => made_as hCR (specCheapTrack_any r0 B0 B6 B7 d0 d6 d7 C r1.length e_ r1 ⟨z20, z21, z22⟩ D f_ xs3 z4 w ha hI0 ⟨by unfold maxLen; omega, by unfold maxLen; omega, by unfold maxLen; omega⟩ rfl hr nA hI1' (by unfold maxLen; omega) ⟨hz20, hz21, hz22⟩ hnr (by unfold maxLen; omega) hNI))
  have HI := Lib.hid (fun B0 B6 B7 d0 d6 d7 C e_ D f_ w ha hr hnr => made_as hCR (implCheapTrack_any r0 B0 B6 B7 d0 d6 d7 C r1.length e_ r1 ⟨z20, z21, z22⟩ D f_ xs3 z4 w ha hI0 ⟨by unfold maxLen; omega, by unfold maxLen; omega, by unfold maxLen; omega⟩ rfl hr hI1' (by unfold maxLen; omega) ⟨hz20, hz21, hz22⟩ hnr (by unfold maxLen; omega) hNI))
  dsimp only at HS HI
  clear hNI hCR
  have hsVW := hy.size
  have hrow0 : AggRow (w2) (roomF r0) [.slice A0_0 r0.Map.length c0_0, .int .i64 r0.Div, .int .i64 r0.Bx, .int .i64 r0.By, .int .i64 r0.Low, .int .i64 r0.High, .slice A0_6 r0.Noise.length c0_6, .slice A0_7 r0.Limits.length c0_7] := ⟨_, _, _, rfl, p0r0.ext hy, p0n0, p0m0, _, rfl, _, rfl, _, rfl, _, rfl, _, rfl, _, _, _, rfl, p0r6.ext hy, p0n6, p0m6, _, _, _, rfl, p0r7.ext hy, p0n7, p0m7, rfl⟩
  have hrow1 : AggRow (w2) (regionF r1) [.slice A1_0 r1.length c1_0] := ⟨_, _, _, rfl, p1r0.ext hy, p1n0, p1m0, rfl⟩
  have hrowN := hr3.ext hy
  go_upto_region 11 with fail
  go_cut [12, 13] from 40 to 51 (fun p o wx => OneTrack T0 q0 w2 p o wx)
  case first =>
    have hcur := Ext.refl (w2)
    have nbA0 := Nat.ne_of_lt bA0.lt
    have nbA0' := (Nat.ne_of_lt bA0.lt).symm
    have nbA1 := Nat.ne_of_lt bA1.lt
    have nbA1' := (Nat.ne_of_lt bA1.lt).symm
    have nbA2 := Nat.ne_of_lt bA2.lt
    have nbA2' := (Nat.ne_of_lt bA2.lt).symm
    go_region_held3 (fun w' => w'.cell? ⟨w.heap.size, 0, none⟩ = some (.slice A0_0 r0.Map.length c0_0) ∧ w'.cell? ⟨w.heap.size, 1, none⟩ = some (.int .i64 r0.Div) ∧ w'.cell? ⟨w.heap.size, 2, none⟩ = some (.int .i64 r0.Bx) ∧ w'.cell? ⟨w.heap.size, 3, none⟩ = some (.int .i64 r0.By) ∧ w'.cell? ⟨w.heap.size, 4, none⟩ = some (.int .i64 r0.Low) ∧ w'.cell? ⟨w.heap.size, 5, none⟩ = some (.int .i64 r0.High) ∧ w'.cell? ⟨w.heap.size, 6, none⟩ = some (.slice A0_6 r0.Noise.length c0_6) ∧ w'.cell? ⟨w.heap.size, 7, none⟩ = some (.slice A0_7 r0.Limits.length c0_7) ∧ w'.cell? ⟨w.heap.size + 1, 0, none⟩ = some (.slice A1_0 r1.length c1_0) ∧ w'.cell? ⟨w.heap.size + 2, 0, none⟩ = some (.int .i64 z20) ∧ w'.cell? ⟨w.heap.size + 2, 1, none⟩ = some (.int .i64 z21) ∧ w'.cell? ⟨w.heap.size + 2, 2, none⟩ = some (.int .i64 z22))
      (go_keep)
      (first
        | (go_at_call 8; (with_reducible refine (toRoom_m r0 [.slice A0_0 r0.Map.length c0_0, .int .i64 r0.Div, .int .i64 r0.Bx, .int .i64 r0.By, .int .i64 r0.Low, .int .i64 r0.High, .slice A0_6 r0.Noise.length c0_6, .slice A0_7 r0.Limits.length c0_7] _ (hrow0.ext (by first | exact hcur | exact hcur.drew | exact hcur.alloc _ | exact hcur.drew.alloc _ | exact (hcur.alloc _).drew)) hb0).mono ?_); rintro e w9 ⟨ua, rfl, ta, hx9⟩; have hsz := hcur.size; (first | have hx8 := (Ext.refl _).drew.trans hx9 | have hx8 := hx9); replace hcur := Ext.trans (by first | exact hcur | exact hcur.drew | exact hcur.alloc _ | exact hcur.drew.alloc _ | exact (hcur.alloc _).drew) hx9; (first | (replace gA := gA.ext hx8; have gAc := fun o => gA.cell o; have gAf := fun o => gA.frozen o; have lA := gA.lt; have nA := Nat.ne_of_lt gA.lt; have nA' := (Nat.ne_of_lt gA.lt).symm) | (have gA := Blk.ext (Blk.new _ 37 #[.slice none 0 0, .slice none 0 0]) hx8; have gAc := fun o => gA.cell o; have gAf := fun o => gA.frozen o; have lA := gA.lt; have nA := Nat.ne_of_lt gA.lt; have nA' := (Nat.ne_of_lt gA.lt).symm) | skip); obtain ⟨Aa0, Aa6, Aa7, ca0, ca6, ca7, rfl, RHa⟩ := ta.here; clear ta; have xa := Ext.refl w9; have cbA0_9 := fun o => (bA0.ext hcur).cell o; have mbA0_9 := Nat.ne_of_lt (bA0.ext hcur).lt; have mbA0_8 := (Nat.ne_of_lt (bA0.ext hcur).lt).symm; have cbA1_9 := fun o => (bA1.ext hcur).cell o; have mbA1_9 := Nat.ne_of_lt (bA1.ext hcur).lt; have mbA1_8 := (Nat.ne_of_lt (bA1.ext hcur).lt).symm; have cbA2_9 := fun o => (bA2.ext hcur).cell o; have mbA2_9 := Nat.ne_of_lt (bA2.ext hcur).lt; have mbA2_8 := (Nat.ne_of_lt (bA2.ext hcur).lt).symm)
        | (go_at_call 9; (with_reducible refine (toRegion_m r1 [.slice A1_0 r1.length c1_0] _ (hrow1.ext (by first | exact hcur | exact hcur.drew | exact hcur.alloc _ | exact hcur.drew.alloc _ | exact (hcur.alloc _).drew)) hb1).mono ?_); rintro e w9 ⟨ub, rfl, tb, hx9⟩; have hsz := hcur.size; (first | have hx8 := (Ext.refl _).drew.trans hx9 | have hx8 := hx9); replace hcur := Ext.trans (by first | exact hcur | exact hcur.drew | exact hcur.alloc _ | exact hcur.drew.alloc _ | exact (hcur.alloc _).drew) hx9; (first | (replace gA := gA.ext hx8; have gAc := fun o => gA.cell o; have gAf := fun o => gA.frozen o; have lA := gA.lt; have nA := Nat.ne_of_lt gA.lt; have nA' := (Nat.ne_of_lt gA.lt).symm) | (have gA := Blk.ext (Blk.new _ 37 #[.slice none 0 0, .slice none 0 0]) hx8; have gAc := fun o => gA.cell o; have gAf := fun o => gA.frozen o; have lA := gA.lt; have nA := Nat.ne_of_lt gA.lt; have nA' := (Nat.ne_of_lt gA.lt).symm) | skip); obtain ⟨Ab0, cb0, rfl, rb, nb⟩ := tb.hereP; clear tb; have xb := Ext.refl w9; replace xa := Ext.trans (by first | exact xa | exact xa.drew | exact xa.alloc _ | exact xa.drew.alloc _ | exact (xa.alloc _).drew) hx9; have cbA0_9 := fun o => (bA0.ext hcur).cell o; have mbA0_9 := Nat.ne_of_lt (bA0.ext hcur).lt; have mbA0_8 := (Nat.ne_of_lt (bA0.ext hcur).lt).symm; have cbA1_9 := fun o => (bA1.ext hcur).cell o; have mbA1_9 := Nat.ne_of_lt (bA1.ext hcur).lt; have mbA1_8 := (Nat.ne_of_lt (bA1.ext hcur).lt).symm; have cbA2_9 := fun o => (bA2.ext hcur).cell o; have mbA2_9 := Nat.ne_of_lt (bA2.ext hcur).lt; have mbA2_8 := (Nat.ne_of_lt (bA2.ext hcur).lt).symm)
        | (go_at_call 10; (with_reducible refine (toSpot_any _ _ _ _).mono ?_); rintro e w9 ⟨rfl, hx9⟩; have hsz := hcur.size; (first | have hx8 := (Ext.refl _).drew.trans hx9 | have hx8 := hx9); replace hcur := Ext.trans (by first | exact hcur | exact hcur.drew | exact hcur.alloc _ | exact hcur.drew.alloc _ | exact (hcur.alloc _).drew) hx9; (first | (replace gA := gA.ext hx8; have gAc := fun o => gA.cell o; have gAf := fun o => gA.frozen o; have lA := gA.lt; have nA := Nat.ne_of_lt gA.lt; have nA' := (Nat.ne_of_lt gA.lt).symm) | (have gA := Blk.ext (Blk.new _ 37 #[.slice none 0 0, .slice none 0 0]) hx8; have gAc := fun o => gA.cell o; have gAf := fun o => gA.frozen o; have lA := gA.lt; have nA := Nat.ne_of_lt gA.lt; have nA' := (Nat.ne_of_lt gA.lt).symm) | skip); replace xa := Ext.trans (by first | exact xa | exact xa.drew | exact xa.alloc _ | exact xa.drew.alloc _ | exact (xa.alloc _).drew) hx9; replace xb := Ext.trans (by first | exact xb | exact xb.drew | exact xb.alloc _ | exact xb.drew.alloc _ | exact (xb.alloc _).drew) hx9; have cbA0_9 := fun o => (bA0.ext hcur).cell o; have mbA0_9 := Nat.ne_of_lt (bA0.ext hcur).lt; have mbA0_8 := (Nat.ne_of_lt (bA0.ext hcur).lt).symm; have cbA1_9 := fun o => (bA1.ext hcur).cell o; have mbA1_9 := Nat.ne_of_lt (bA1.ext hcur).lt; have mbA1_8 := (Nat.ne_of_lt (bA1.ext hcur).lt).symm; have cbA2_9 := fun o => (bA2.ext hcur).cell o; have mbA2_9 := Nat.ne_of_lt (bA2.ext hcur).lt; have mbA2_8 := (Nat.ne_of_lt (bA2.ext hcur).lt).symm)
        | (go_at_call 11; (with_reducible refine (toSpotS_m _ _ _ xs3 _ rfl (hrowN.ext (by first | exact hcur | exact hcur.drew | exact hcur.alloc _ | exact hcur.drew.alloc _ | exact (hcur.alloc _).drew)) hb3).mono ?_); rintro e w9 ⟨gn, rfl, tn, hx9⟩; have rn := tn.row; clear tn; have hsz := hcur.size; (first | have hx8 := (Ext.refl _).drew.trans hx9 | have hx8 := hx9); replace hcur := Ext.trans (by first | exact hcur | exact hcur.drew | exact hcur.alloc _ | exact hcur.drew.alloc _ | exact (hcur.alloc _).drew) hx9; (first | (replace gA := gA.ext hx8; have gAc := fun o => gA.cell o; have gAf := fun o => gA.frozen o; have lA := gA.lt; have nA := Nat.ne_of_lt gA.lt; have nA' := (Nat.ne_of_lt gA.lt).symm) | (have gA := Blk.ext (Blk.new _ 37 #[.slice none 0 0, .slice none 0 0]) hx8; have gAc := fun o => gA.cell o; have gAf := fun o => gA.frozen o; have lA := gA.lt; have nA := Nat.ne_of_lt gA.lt; have nA' := (Nat.ne_of_lt gA.lt).symm) | skip); replace xa := Ext.trans (by first | exact xa | exact xa.drew | exact xa.alloc _ | exact xa.drew.alloc _ | exact (xa.alloc _).drew) hx9; replace xb := Ext.trans (by first | exact xb | exact xb.drew | exact xb.alloc _ | exact xb.drew.alloc _ | exact (xb.alloc _).drew) hx9; have xn := Ext.refl w9; have cbA0_9 := fun o => (bA0.ext hcur).cell o; have mbA0_9 := Nat.ne_of_lt (bA0.ext hcur).lt; have mbA0_8 := (Nat.ne_of_lt (bA0.ext hcur).lt).symm; have cbA1_9 := fun o => (bA1.ext hcur).cell o; have mbA1_9 := Nat.ne_of_lt (bA1.ext hcur).lt; have mbA1_8 := (Nat.ne_of_lt (bA1.ext hcur).lt).symm; have cbA2_9 := fun o => (bA2.ext hcur).cell o; have mbA2_9 := Nat.ne_of_lt (bA2.ext hcur).lt; have mbA2_8 := (Nat.ne_of_lt (bA2.ext hcur).lt).symm)
        | (go_at_call 7; (with_reducible refine (HS.out _ _ _ _ _ _ _ _ _ _ _ (RHa.ext (by first | exact xa | exact xa.drew | exact xa.alloc _ | exact xa.drew.alloc _ | exact (xa.alloc _).drew)) (rb.ext (by first | exact xb | exact xb.drew | exact xb.alloc _ | exact xb.drew.alloc _ | exact (xb.alloc _).drew)) nb (rn.ext (by first | exact xn | exact xn.drew | exact xn.alloc _ | exact xn.drew.alloc _ | exact (xn.alloc _).drew))).mono ?_); rintro e w9 ⟨B0, d0, B1, d1, rfl, tm, hx9⟩; have hlo := hcur.size; (try simp only [World.size_alloc, World.size_drew] at hlo); (try simp only [World.size_alloc, World.size_drew] at tm); have hsz := hcur.size; (first | have hx8 := (Ext.refl _).drew.trans hx9 | have hx8 := hx9); replace hcur := Ext.trans (by first | exact hcur | exact hcur.drew | exact hcur.alloc _ | exact hcur.drew.alloc _ | exact (hcur.alloc _).drew) hx9; (first | (replace gA := gA.ext hx8; have gAc := fun o => gA.cell o; have gAf := fun o => gA.frozen o; have lA := gA.lt; have nA := Nat.ne_of_lt gA.lt; have nA' := (Nat.ne_of_lt gA.lt).symm) | (have gA := Blk.ext (Blk.new _ 37 #[.slice none 0 0, .slice none 0 0]) hx8; have gAc := fun o => gA.cell o; have gAf := fun o => gA.frozen o; have lA := gA.lt; have nA := Nat.ne_of_lt gA.lt; have nA' := (Nat.ne_of_lt gA.lt).symm) | skip); have hhi := Nat.le_refl w9.heap.size; have cbA0_9 := fun o => (bA0.ext hcur).cell o; have mbA0_9 := Nat.ne_of_lt (bA0.ext hcur).lt; have mbA0_8 := (Nat.ne_of_lt (bA0.ext hcur).lt).symm; have cbA1_9 := fun o => (bA1.ext hcur).cell o; have mbA1_9 := Nat.ne_of_lt (bA1.ext hcur).lt; have mbA1_8 := (Nat.ne_of_lt (bA1.ext hcur).lt).symm; have cbA2_9 := fun o => (bA2.ext hcur).cell o; have mbA2_9 := Nat.ne_of_lt (bA2.ext hcur).lt; have mbA2_8 := (Nat.ne_of_lt (bA2.ext hcur).lt).symm))
    all_goals
      go_wp2_with fail
      go_meet
      case rel => first | (with_reducible exact OneTrack.new hcur tm (by omega) (Nat.le_refl _)) | (with_reducible exact OneTrack.old hcur tm (by omega) (Nat.le_refl _) (by omega) (by omega) gA)
  case rest =>
  obtain ⟨wW, rfl⟩ : ∃ W, W = wc := ⟨_, rfl⟩
  obtain ⟨bW_, AW_0, cW_0, AW_1, cW_1, loW, hiW, rfl, rfl, hbW1, hbW2, hxCW, bW, tW, hloW, hhiW, hbbW⟩ := hcut
  replace hy := hy.trans hxCW
  replace bA0 := bA0.ext hxCW
  replace bA1 := bA1.ext hxCW
  replace bA2 := bA2.ext hxCW
  have cbA0_7 := fun o => bA0.cell o
  have cbA1_8 := fun o => bA1.cell o
  have cbA2_9 := fun o => bA2.cell o
  have hsCW := Ext.size hxCW
  try simp only [World.size_alloc] at hsCW
  have cbA0_10 := fun o => bA0.cell o
  have cbA1_11 := fun o => bA1.cell o
  have cbA2_12 := fun o => bA2.cell o
  have cbW_13 := fun o => bW.cell o
  clear hrow0 hrow1 hrowN
  go_wp2_with fail
  refine (toRoom_m r0 [.slice A0_0 r0.Map.length c0_0, .int .i64 r0.Div, .int .i64 r0.Bx, .int .i64 r0.By, .int .i64 r0.Low, .int .i64 r0.High, .slice A0_6 r0.Noise.length c0_6, .slice A0_7 r0.Limits.length c0_7] _ ⟨_, _, _, rfl, p0r0.ext hy, p0n0, p0m0, _, rfl, _, rfl, _, rfl, _, rfl, _, rfl, _, _, _, rfl, p0r6.ext hy, p0n6, p0m6, _, _, _, rfl, p0r7.ext hy, p0n7, p0m7, rfl⟩ hb0).mono ?_
  rintro e w5 ⟨ux, rfl, tx, hx5⟩
  replace hy := hy.trans hx5
  replace bA0 := bA0.ext hx5
  replace bA1 := bA1.ext hx5
  replace bA2 := bA2.ext hx5
  replace bW := bW.ext hx5
  replace tW := tW.ext hx5
  have cbA0_14 := fun o => bA0.cell o
  have cbA1_15 := fun o => bA1.cell o
  have cbA2_16 := fun o => bA2.cell o
  have cbW_17 := fun o => bW.cell o
  have hs5 := Ext.size hx5
  try simp only [World.size_alloc] at hs5
  obtain ⟨Ax_0, cx_0, _, qx_0, rfl, ox_0, lx_0, _, rfl, _, rfl, _, rfl, _, rfl, _, rfl, Ax_6, cx_6, _, qx_6, rfl, ox_6, lx_6, Ax_7, cx_7, _, qx_7, rfl, ox_7, lx_7, rfl, lex⟩ := tx
  have tx : AggAt w5 (roomF r0) [.slice Ax_0 r0.Map.length cx_0, .int .i64 r0.Div, .int .i64 r0.Bx, .int .i64 r0.By, .int .i64 r0.Low, .int .i64 r0.High, .slice Ax_6 r0.Noise.length cx_6, .slice Ax_7 r0.Limits.length cx_7] _ _ := ⟨_, _, _, qx_0, rfl, ox_0, lx_0, _, rfl, _, rfl, _, rfl, _, rfl, _, rfl, _, _, _, qx_6, rfl, ox_6, lx_6, _, _, _, qx_7, rfl, ox_7, lx_7, rfl, lex⟩
  try simp only [World.size_alloc] at tx
  clear ox_0 lx_0
  clear ox_6 lx_6
  clear ox_7 lx_7
  clear lex
  have bX := Blk.new w5 44 #[.slice Ax_0 r0.Map.length cx_0, .int .i64 r0.Div, .int .i64 r0.Bx, .int .i64 r0.By, .int .i64 r0.Low, .int .i64 r0.High, .slice Ax_6 r0.Noise.length cx_6, .slice Ax_7 r0.Limits.length cx_7]
  have ha5 := (Ext.refl w5).alloc (.cells #[.slice Ax_0 r0.Map.length cx_0, .int .i64 r0.Div, .int .i64 r0.Bx, .int .i64 r0.By, .int .i64 r0.Low, .int .i64 r0.High, .slice Ax_6 r0.Noise.length cx_6, .slice Ax_7 r0.Limits.length cx_7] 44)
  replace hy := hy.trans ha5
  replace bA0 := bA0.ext ha5
  replace bA1 := bA1.ext ha5
  replace bA2 := bA2.ext ha5
  replace bW := bW.ext ha5
  replace tW := tW.ext ha5
  replace tx := tx.ext ha5
  have cbA0_18 := fun o => bA0.cell o
  have cbA1_19 := fun o => bA1.cell o
  have cbA2_20 := fun o => bA2.cell o
  have cbW_21 := fun o => bW.cell o
  have hsX : w5.heap.size ≤ w5.heap.size := Nat.le_refl _
  go_wp2_with fail
  refine (toRegion_m r1 [.slice A1_0 r1.length c1_0] _ ⟨_, _, _, rfl, p1r0.ext hy, p1n0, p1m0, rfl⟩ hb1).mono ?_
  rintro e w6 ⟨uy, rfl, ty, hx6⟩
  replace hy := hy.trans hx6
  replace bA0 := bA0.ext hx6
  replace bA1 := bA1.ext hx6
  replace bA2 := bA2.ext hx6
  replace bW := bW.ext hx6
  replace tW := tW.ext hx6
  replace tx := tx.ext hx6
  replace bX := bX.ext hx6
  have cbA0_22 := fun o => bA0.cell o
  have cbA1_23 := fun o => bA1.cell o
  have cbA2_24 := fun o => bA2.cell o
  have cbW_25 := fun o => bW.cell o
  have cbX_26 := fun o => bX.cell o
  have hs6 := Ext.size hx6
  try simp only [World.size_alloc] at hs6
  obtain ⟨Ay_0, cy_0, _, qy_0, rfl, oy_0, ly_0, rfl, ley⟩ := ty
  have ty : AggAt w6 (regionF r1) [.slice Ay_0 r1.length cy_0] _ _ := ⟨_, _, _, qy_0, rfl, oy_0, ly_0, rfl, ley⟩
  try simp only [World.size_alloc] at ty
  clear oy_0 ly_0
  clear ley
  have bY := Blk.new w6 42 #[.slice Ay_0 r1.length cy_0]
  have ha6 := (Ext.refl w6).alloc (.cells #[.slice Ay_0 r1.length cy_0] 42)
  replace hy := hy.trans ha6
  replace bA0 := bA0.ext ha6
  replace bA1 := bA1.ext ha6
  replace bA2 := bA2.ext ha6
  replace bW := bW.ext ha6
  replace tW := tW.ext ha6
  replace tx := tx.ext ha6
  replace bX := bX.ext ha6
  replace ty := ty.ext ha6
  have cbA0_27 := fun o => bA0.cell o
  have cbA1_28 := fun o => bA1.cell o
  have cbA2_29 := fun o => bA2.cell o
  have cbW_30 := fun o => bW.cell o
  have cbX_31 := fun o => bX.cell o
  have hsY : w6.heap.size ≤ w6.heap.size := Nat.le_refl _
  go_wp2_with fail
  refine (toSpotS_m _ _ _ xs3 _ rfl (hr3.ext hy) hb3).mono ?_
  rintro e w7 ⟨gn, rfl, tn, hx7⟩
  replace hy := hy.trans hx7
  replace bA0 := bA0.ext hx7
  replace bA1 := bA1.ext hx7
  replace bA2 := bA2.ext hx7
  replace bW := bW.ext hx7
  replace tW := tW.ext hx7
  replace tx := tx.ext hx7
  replace bX := bX.ext hx7
  replace ty := ty.ext hx7
  replace bY := bY.ext hx7
  have cbA0_32 := fun o => bA0.cell o
  have cbA1_33 := fun o => bA1.cell o
  have cbA2_34 := fun o => bA2.cell o
  have cbW_35 := fun o => bW.cell o
  have cbX_36 := fun o => bX.cell o
  have cbY_37 := fun o => bY.cell o
  have hs7 := Ext.size hx7
  try simp only [World.size_alloc] at hs7
  try simp only [World.size_alloc] at tn
  have RHx : RoomHere w7 r0 Ax_0 Ax_6 Ax_7 cx_0 cx_6 cx_7 := ⟨tx.room.1, tx.room.2.1, tx.room.2.2⟩
  have ry := ty.rows_of
  have ny := regionAt_none ty
  have rn := tn.row
  have hsVG := hy.size
  go_upto_region 15 with fail
  go_cut [17, 18] from 59 to 67 (fun p o wx => OneTrack T0 q0 w7 p o wx)
  case first =>
    have hcur := Ext.refl (w7)
    have nbX := Nat.ne_of_lt bX.lt
    have nbX' := (Nat.ne_of_lt bX.lt).symm
    have nbY := Nat.ne_of_lt bY.lt
    have nbY' := (Nat.ne_of_lt bY.lt).symm
    have nbA2 := Nat.ne_of_lt bA2.lt
    have nbA2' := (Nat.ne_of_lt bA2.lt).symm
    go_region_held3 (fun w' => w'.cell? ⟨w5.heap.size, 0, none⟩ = some (.slice Ax_0 r0.Map.length cx_0) ∧ w'.cell? ⟨w5.heap.size, 1, none⟩ = some (.int .i64 r0.Div) ∧ w'.cell? ⟨w5.heap.size, 2, none⟩ = some (.int .i64 r0.Bx) ∧ w'.cell? ⟨w5.heap.size, 3, none⟩ = some (.int .i64 r0.By) ∧ w'.cell? ⟨w5.heap.size, 4, none⟩ = some (.int .i64 r0.Low) ∧ w'.cell? ⟨w5.heap.size, 5, none⟩ = some (.int .i64 r0.High) ∧ w'.cell? ⟨w5.heap.size, 6, none⟩ = some (.slice Ax_6 r0.Noise.length cx_6) ∧ w'.cell? ⟨w5.heap.size, 7, none⟩ = some (.slice Ax_7 r0.Limits.length cx_7) ∧ w'.cell? ⟨w6.heap.size, 0, none⟩ = some (.slice Ay_0 r1.length cy_0) ∧ w'.cell? ⟨w.heap.size + 2, 0, none⟩ = some (.int .i64 z20) ∧ w'.cell? ⟨w.heap.size + 2, 1, none⟩ = some (.int .i64 z21) ∧ w'.cell? ⟨w.heap.size + 2, 2, none⟩ = some (.int .i64 z22))
      (go_keep)
      (first
        | (go_at_call 10; (with_reducible refine (toSpot_any _ _ _ _).mono ?_); rintro e w9 ⟨rfl, hx9⟩; have hsz := hcur.size; (first | have hx8 := (Ext.refl _).drew.trans hx9 | have hx8 := hx9); replace hcur := Ext.trans (by first | exact hcur | exact hcur.drew | exact hcur.alloc _ | exact hcur.drew.alloc _ | exact (hcur.alloc _).drew) hx9; (first | (replace gA := gA.ext hx8; have gAc := fun o => gA.cell o; have gAf := fun o => gA.frozen o; have lA := gA.lt; have nA := Nat.ne_of_lt gA.lt; have nA' := (Nat.ne_of_lt gA.lt).symm) | (have gA := Blk.ext (Blk.new _ 37 #[.slice none 0 0, .slice none 0 0]) hx8; have gAc := fun o => gA.cell o; have gAf := fun o => gA.frozen o; have lA := gA.lt; have nA := Nat.ne_of_lt gA.lt; have nA' := (Nat.ne_of_lt gA.lt).symm) | skip); have cbX_9 := fun o => (bX.ext hcur).cell o; have mbX_9 := Nat.ne_of_lt (bX.ext hcur).lt; have mbX_8 := (Nat.ne_of_lt (bX.ext hcur).lt).symm; have cbY_9 := fun o => (bY.ext hcur).cell o; have mbY_9 := Nat.ne_of_lt (bY.ext hcur).lt; have mbY_8 := (Nat.ne_of_lt (bY.ext hcur).lt).symm; have cbA2_9 := fun o => (bA2.ext hcur).cell o; have mbA2_9 := Nat.ne_of_lt (bA2.ext hcur).lt; have mbA2_8 := (Nat.ne_of_lt (bA2.ext hcur).lt).symm)
        | (go_at_call 12; (with_reducible refine (HI.out _ _ _ _ _ _ _ _ _ _ _ (RHx.ext (by first | exact hcur | exact hcur.drew | exact hcur.alloc _ | exact hcur.drew.alloc _ | exact (hcur.alloc _).drew)) (ry.ext (by first | exact hcur | exact hcur.drew | exact hcur.alloc _ | exact hcur.drew.alloc _ | exact (hcur.alloc _).drew)) (rn.ext (by first | exact hcur | exact hcur.drew | exact hcur.alloc _ | exact hcur.drew.alloc _ | exact (hcur.alloc _).drew))).mono ?_); rintro e w9 ⟨B0, d0, B1, d1, rfl, tm, hx9⟩; have hlo := hcur.size; (try simp only [World.size_alloc, World.size_drew] at hlo); (try simp only [World.size_alloc, World.size_drew] at tm); have hsz := hcur.size; (first | have hx8 := (Ext.refl _).drew.trans hx9 | have hx8 := hx9); replace hcur := Ext.trans (by first | exact hcur | exact hcur.drew | exact hcur.alloc _ | exact hcur.drew.alloc _ | exact (hcur.alloc _).drew) hx9; (first | (replace gA := gA.ext hx8; have gAc := fun o => gA.cell o; have gAf := fun o => gA.frozen o; have lA := gA.lt; have nA := Nat.ne_of_lt gA.lt; have nA' := (Nat.ne_of_lt gA.lt).symm) | (have gA := Blk.ext (Blk.new _ 37 #[.slice none 0 0, .slice none 0 0]) hx8; have gAc := fun o => gA.cell o; have gAf := fun o => gA.frozen o; have lA := gA.lt; have nA := Nat.ne_of_lt gA.lt; have nA' := (Nat.ne_of_lt gA.lt).symm) | skip); have hhi := Nat.le_refl w9.heap.size; have cbX_9 := fun o => (bX.ext hcur).cell o; have mbX_9 := Nat.ne_of_lt (bX.ext hcur).lt; have mbX_8 := (Nat.ne_of_lt (bX.ext hcur).lt).symm; have cbY_9 := fun o => (bY.ext hcur).cell o; have mbY_9 := Nat.ne_of_lt (bY.ext hcur).lt; have mbY_8 := (Nat.ne_of_lt (bY.ext hcur).lt).symm; have cbA2_9 := fun o => (bA2.ext hcur).cell o; have mbA2_9 := Nat.ne_of_lt (bA2.ext hcur).lt; have mbA2_8 := (Nat.ne_of_lt (bA2.ext hcur).lt).symm))
    all_goals
      go_wp2_with fail
      go_meet
      case rel => first | (with_reducible exact OneTrack.new hcur tm (by omega) (Nat.le_refl _)) | (with_reducible exact OneTrack.old hcur tm (by omega) (Nat.le_refl _) (by omega) (by omega) gA)
  case rest =>
  obtain ⟨wG, rfl⟩ : ∃ W, W = wc := ⟨_, rfl⟩
  obtain ⟨bG_, AG_0, cG_0, AG_1, cG_1, loG, hiG, rfl, rfl, hbG1, hbG2, hxCG, bG, tG, hloG, hhiG, hbbG⟩ := hcut
  replace hy := hy.trans hxCG
  replace bA0 := bA0.ext hxCG
  replace bA1 := bA1.ext hxCG
  replace bA2 := bA2.ext hxCG
  replace bW := bW.ext hxCG
  replace tW := tW.ext hxCG
  replace tx := tx.ext hxCG
  replace bX := bX.ext hxCG
  replace ty := ty.ext hxCG
  replace bY := bY.ext hxCG
  replace tn := tn.ext hxCG
  have cbA0_38 := fun o => bA0.cell o
  have cbA1_39 := fun o => bA1.cell o
  have cbA2_40 := fun o => bA2.cell o
  have cbW_41 := fun o => bW.cell o
  have cbX_42 := fun o => bX.cell o
  have cbY_43 := fun o => bY.cell o
  have hsCG := Ext.size hxCG
  try simp only [World.size_alloc] at hsCG
  have cbA0_44 := fun o => bA0.cell o
  have cbA1_45 := fun o => bA1.cell o
  have cbA2_46 := fun o => bA2.cell o
  have cbW_47 := fun o => bW.cell o
  have cbX_48 := fun o => bX.cell o
  have cbY_49 := fun o => bY.cell o
  have cbG_50 := fun o => bG.cell o
  clear RHx ry ny rn
  go_wp2_with fail
  refine (eqTrack_same T0 [.slice AG_0 T0.Spots.length cG_0, .slice AG_1 T0.Inputs.length cG_1] [.slice AW_0 T0.Spots.length cW_0, .slice AW_1 T0.Inputs.length cW_1] _ tG.rows tW.rows).mono ?_
  rintro e w21 ⟨rfl, hx21⟩
  replace hy := hy.trans hx21
  replace bA0 := bA0.ext hx21
  replace bA1 := bA1.ext hx21
  replace bA2 := bA2.ext hx21
  replace bW := bW.ext hx21
  replace tW := tW.ext hx21
  replace tx := tx.ext hx21
  replace bX := bX.ext hx21
  replace ty := ty.ext hx21
  replace bY := bY.ext hx21
  replace tn := tn.ext hx21
  replace bG := bG.ext hx21
  replace tG := tG.ext hx21
  have cbA0_51 := fun o => bA0.cell o
  have cbA1_52 := fun o => bA1.cell o
  have cbA2_53 := fun o => bA2.cell o
  have cbW_54 := fun o => bW.cell o
  have cbX_55 := fun o => bX.cell o
  have cbY_56 := fun o => bY.cell o
  have cbG_57 := fun o => bG.cell o
  have hs21 := Ext.size hx21
  try simp only [World.size_alloc] at hs21
  have hrowA : AggRow (w21) (roomF r0) [.slice A0_0 r0.Map.length c0_0, .int .i64 r0.Div, .int .i64 r0.Bx, .int .i64 r0.By, .int .i64 r0.Low, .int .i64 r0.High, .slice A0_6 r0.Noise.length c0_6, .slice A0_7 r0.Limits.length c0_7] := ⟨_, _, _, rfl, p0r0.ext hy, p0n0, p0m0, _, rfl, _, rfl, _, rfl, _, rfl, _, rfl, _, _, _, rfl, p0r6.ext hy, p0n6, p0m6, _, _, _, rfl, p0r7.ext hy, p0n7, p0m7, rfl⟩
  go_wp2_with fail
  have hcur := Ext.refl (w21)
  go_region_held3 (fun w' => w'.cell? ⟨w5.heap.size, 0, none⟩ = some (.slice Ax_0 r0.Map.length cx_0) ∧ w'.cell? ⟨w5.heap.size, 1, none⟩ = some (.int .i64 r0.Div) ∧ w'.cell? ⟨w5.heap.size, 2, none⟩ = some (.int .i64 r0.Bx) ∧ w'.cell? ⟨w5.heap.size, 3, none⟩ = some (.int .i64 r0.By) ∧ w'.cell? ⟨w5.heap.size, 4, none⟩ = some (.int .i64 r0.Low) ∧ w'.cell? ⟨w5.heap.size, 5, none⟩ = some (.int .i64 r0.High) ∧ w'.cell? ⟨w5.heap.size, 6, none⟩ = some (.slice Ax_6 r0.Noise.length cx_6) ∧ w'.cell? ⟨w5.heap.size, 7, none⟩ = some (.slice Ax_7 r0.Limits.length cx_7) ∧ w'.cell? ⟨w.heap.size, 0, none⟩ = some (.slice A0_0 r0.Map.length c0_0) ∧ w'.cell? ⟨w.heap.size, 1, none⟩ = some (.int .i64 r0.Div) ∧ w'.cell? ⟨w.heap.size, 2, none⟩ = some (.int .i64 r0.Bx) ∧ w'.cell? ⟨w.heap.size, 3, none⟩ = some (.int .i64 r0.By) ∧ w'.cell? ⟨w.heap.size, 4, none⟩ = some (.int .i64 r0.Low) ∧ w'.cell? ⟨w.heap.size, 5, none⟩ = some (.int .i64 r0.High) ∧ w'.cell? ⟨w.heap.size, 6, none⟩ = some (.slice A0_6 r0.Noise.length c0_6) ∧ w'.cell? ⟨w.heap.size, 7, none⟩ = some (.slice A0_7 r0.Limits.length c0_7))
    (go_keep)
    (first
      | (go_at_call 8; (with_reducible refine (toRoom_m r0 [.slice A0_0 r0.Map.length c0_0, .int .i64 r0.Div, .int .i64 r0.Bx, .int .i64 r0.By, .int .i64 r0.Low, .int .i64 r0.High, .slice A0_6 r0.Noise.length c0_6, .slice A0_7 r0.Limits.length c0_7] _ (by first | exact hrowA.ext hcur | exact hrowA.ext hcur.drew) hb0).mono ?_); rintro e w9 ⟨us9, rfl, hat9, hx9⟩; replace hcur := Ext.trans (by first | exact hcur | exact hcur.drew) hx9; have cX9 := fun o => (bX.ext hcur).cell o; have cA9 := fun o => (bA0.ext hcur).cell o; have hrow9 := hat9.rows)
      | (go_at_call 14; (with_reducible refine (eqRoom_same r0 [.slice Ax_0 r0.Map.length cx_0, .int .i64 r0.Div, .int .i64 r0.Bx, .int .i64 r0.By, .int .i64 r0.Low, .int .i64 r0.High, .slice Ax_6 r0.Noise.length cx_6, .slice Ax_7 r0.Limits.length cx_7] us9 _ (by exact tx.rows.ext hcur) (by exact hrow9)).mono ?_); rintro e w9 ⟨rfl, hx9⟩; replace hcur := Ext.trans (by first | exact hcur | exact hcur.drew) hx9; have cX9 := fun o => (bX.ext hcur).cell o; have cA9 := fun o => (bA0.ext hcur).cell o))
  replace hy := hy.trans hcur
  replace bA0 := bA0.ext hcur
  replace bA1 := bA1.ext hcur
  replace bA2 := bA2.ext hcur
  replace bW := bW.ext hcur
  replace tW := tW.ext hcur
  replace tx := tx.ext hcur
  replace bX := bX.ext hcur
  replace ty := ty.ext hcur
  replace bY := bY.ext hcur
  replace tn := tn.ext hcur
  replace bG := bG.ext hcur
  replace tG := tG.ext hcur
  have cbA0_58 := fun o => bA0.cell o
  have cbA1_59 := fun o => bA1.cell o
  have cbA2_60 := fun o => bA2.cell o
  have cbW_61 := fun o => bW.cell o
  have cbX_62 := fun o => bX.cell o
  have cbY_63 := fun o => bY.cell o
  have cbG_64 := fun o => bG.cell o
  have hsH21 := Ext.size hcur
  clear hcur
  have hrowA : AggRow (w9) (regionF r1) [.slice A1_0 r1.length c1_0] := ⟨_, _, _, rfl, p1r0.ext hy, p1n0, p1m0, rfl⟩
  go_wp2_with fail
  have hcur := Ext.refl (w9)
  go_region_held3 (fun w' => w'.cell? ⟨w6.heap.size, 0, none⟩ = some (.slice Ay_0 r1.length cy_0) ∧ w'.cell? ⟨w.heap.size + 1, 0, none⟩ = some (.slice A1_0 r1.length c1_0))
    (go_keep)
    (first
      | (go_at_call 9; (with_reducible refine (toRegion_m r1 [.slice A1_0 r1.length c1_0] _ (by first | exact hrowA.ext hcur | exact hrowA.ext hcur.drew) hb1).mono ?_); rintro e w9 ⟨us9, rfl, hat9, hx9⟩; replace hcur := Ext.trans (by first | exact hcur | exact hcur.drew) hx9; have cX9 := fun o => (bY.ext hcur).cell o; have cA9 := fun o => (bA1.ext hcur).cell o; have hrow9 := hat9.rows)
      | (go_at_call 15; (with_reducible refine (eqRegion_same r1 [.slice Ay_0 r1.length cy_0] us9 _ (by exact ty.rows.ext hcur) (by exact hrow9)).mono ?_); rintro e w9 ⟨rfl, hx9⟩; replace hcur := Ext.trans (by first | exact hcur | exact hcur.drew) hx9; have cX9 := fun o => (bY.ext hcur).cell o; have cA9 := fun o => (bA1.ext hcur).cell o))
  replace hy := hy.trans hcur
  replace bA0 := bA0.ext hcur
  replace bA1 := bA1.ext hcur
  replace bA2 := bA2.ext hcur
  replace bW := bW.ext hcur
  replace tW := tW.ext hcur
  replace tx := tx.ext hcur
  replace bX := bX.ext hcur
  replace ty := ty.ext hcur
  replace bY := bY.ext hcur
  replace tn := tn.ext hcur
  replace bG := bG.ext hcur
  replace tG := tG.ext hcur
  have cbA0_65 := fun o => bA0.cell o
  have cbA1_66 := fun o => bA1.cell o
  have cbA2_67 := fun o => bA2.cell o
  have cbW_68 := fun o => bW.cell o
  have cbX_69 := fun o => bX.cell o
  have cbY_70 := fun o => bY.cell o
  have cbG_71 := fun o => bG.cell o
  have hsH21 := Ext.size hcur
  clear hcur
  go_wp2_with fail
  refine (toSpotS_m _ _ _ xs3 _ rfl (hr3.ext hy) hb3).mono ?_
  rintro e w23 ⟨gy22, rfl, ty22, hx23⟩
  replace hy := hy.trans hx23
  replace bA0 := bA0.ext hx23
  replace bA1 := bA1.ext hx23
  replace bA2 := bA2.ext hx23
  replace bW := bW.ext hx23
  replace tW := tW.ext hx23
  replace tx := tx.ext hx23
  replace bX := bX.ext hx23
  replace ty := ty.ext hx23
  replace bY := bY.ext hx23
  replace tn := tn.ext hx23
  replace bG := bG.ext hx23
  replace tG := tG.ext hx23
  have cbA0_72 := fun o => bA0.cell o
  have cbA1_73 := fun o => bA1.cell o
  have cbA2_74 := fun o => bA2.cell o
  have cbW_75 := fun o => bW.cell o
  have cbX_76 := fun o => bX.cell o
  have cbY_77 := fun o => bY.cell o
  have cbG_78 := fun o => bG.cell o
  have hs23 := Ext.size hx23
  try simp only [World.size_alloc] at hs23
  try simp only [World.size_alloc] at ty22
  go_wp2_with fail
  refine (eqSpotS_same _ _ _ _ _ xs3 _ rfl tn.row ty22.row (by unfold maxLen; omega)).mono ?_
  rintro e w24 ⟨rfl, hx24⟩
  replace hy := hy.trans hx24
  replace bA0 := bA0.ext hx24
  replace bA1 := bA1.ext hx24
  replace bA2 := bA2.ext hx24
  replace bW := bW.ext hx24
  replace tW := tW.ext hx24
  replace tx := tx.ext hx24
  replace bX := bX.ext hx24
  replace ty := ty.ext hx24
  replace bY := bY.ext hx24
  replace tn := tn.ext hx24
  replace bG := bG.ext hx24
  replace tG := tG.ext hx24
  have cbA0_79 := fun o => bA0.cell o
  have cbA1_80 := fun o => bA1.cell o
  have cbA2_81 := fun o => bA2.cell o
  have cbW_82 := fun o => bW.cell o
  have cbX_83 := fun o => bX.cell o
  have cbY_84 := fun o => bY.cell o
  have cbG_85 := fun o => bG.cell o
  have hs24 := Ext.size hx24
  try simp only [World.size_alloc] at hs24
  clear ty22
  have hcn25 : cntF (roomF r0) = r0.Map.length * 1 + r0.Noise.length * 3 + r0.Limits.length * 3 := by simp only [roomF, cntF, halfF, intF]; omega
  have hcb25 : cntF (roomF r0) ≤ 100000000 := by omega
  clear hcn25
  go_wp2_with fail
  refine (markRoom_m r0 [.slice Ax_0 r0.Map.length cx_0, .int .i64 r0.Div, .int .i64 r0.Bx, .int .i64 r0.By, .int .i64 r0.Low, .int .i64 r0.High, .slice Ax_6 r0.Noise.length cx_6, .slice Ax_7 r0.Limits.length cx_7] _ _ _ _ tx (by omega) (by omega) (by omega)).mono ?_
  rintro e w25 ⟨rfl, txq, k25⟩
  replace hy := hy.touch k25 (by omega)
  replace bA0 := bA0.touch k25 (by omega)
  have dbA0_1 := fun o => bA0.cell o
  replace bA1 := bA1.touch k25 (by omega)
  have dbA1_2 := fun o => bA1.cell o
  replace bA2 := bA2.touch k25 (by omega)
  have dbA2_3 := fun o => bA2.cell o
  replace bW := bW.touch k25 (by omega)
  have dbW_4 := fun o => bW.cell o
  replace tW := tW.touch k25 (by omega)
  replace bX := bX.touch k25 (by omega)
  have dbX_5 := fun o => bX.cell o
  replace ty := ty.touch k25 (by omega)
  replace bY := bY.touch k25 (by omega)
  have dbY_6 := fun o => bY.cell o
  replace tn := tn.touch k25 (by omega)
  replace bG := bG.touch k25 (by omega)
  have dbG_7 := fun o => bG.cell o
  replace tG := tG.touch k25 (by omega)
  have hsk25 := k25.size
  try simp only [World.size_alloc] at hsk25
  clear tx txq
  generalize cntF (roomF r0) = kc25 at hcb25 ⊢
  have hcn26 : cntF (regionF r1) = r1.length * 3 := by simp only [regionF, cntF, halfF]; omega
  have hcb26 : cntF (regionF r1) ≤ 100000000 := by omega
  clear hcn26
  go_wp2_with fail
  refine (markRegion_m r1 [.slice Ay_0 r1.length cy_0] _ _ _ _ ty (by omega) (by omega) (by omega)).mono ?_
  rintro e w26 ⟨rfl, tyq, k26⟩
  replace hy := hy.touch k26 (by omega)
  replace bA0 := bA0.touch k26 (by omega)
  have dbA0_8 := fun o => bA0.cell o
  replace bA1 := bA1.touch k26 (by omega)
  have dbA1_9 := fun o => bA1.cell o
  replace bA2 := bA2.touch k26 (by omega)
  have dbA2_10 := fun o => bA2.cell o
  replace bW := bW.touch k26 (by omega)
  have dbW_11 := fun o => bW.cell o
  replace tW := tW.touch k26 (by omega)
  replace bX := bX.touch k26 (by omega)
  have dbX_12 := fun o => bX.cell o
  replace bY := bY.touch k26 (by omega)
  have dbY_13 := fun o => bY.cell o
  replace tn := tn.touch k26 (by omega)
  replace bG := bG.touch k26 (by omega)
  have dbG_14 := fun o => bG.cell o
  replace tG := tG.touch k26 (by omega)
  have hsk26 := k26.size
  try simp only [World.size_alloc] at hsk26
  clear ty tyq
  generalize cntF (regionF r1) = kc26 at hcb26 ⊢
  go_wp2_with fail
  refine (markSpotS_m _ _ _ _ _ _ _ _ tn (by omega) (by omega) (by omega)).mono ?_
  rintro e w27 ⟨rfl, tnq, k27⟩
  replace hy := hy.touch k27 (by omega)
  replace bA0 := bA0.touch k27 (by omega)
  have dbA0_15 := fun o => bA0.cell o
  replace bA1 := bA1.touch k27 (by omega)
  have dbA1_16 := fun o => bA1.cell o
  replace bA2 := bA2.touch k27 (by omega)
  have dbA2_17 := fun o => bA2.cell o
  replace bW := bW.touch k27 (by omega)
  have dbW_18 := fun o => bW.cell o
  replace tW := tW.touch k27 (by omega)
  replace bX := bX.touch k27 (by omega)
  have dbX_19 := fun o => bX.cell o
  replace bY := bY.touch k27 (by omega)
  have dbY_20 := fun o => bY.cell o
  replace bG := bG.touch k27 (by omega)
  have dbG_21 := fun o => bG.cell o
  replace tG := tG.touch k27 (by omega)
  have hsk27 := k27.size
  try simp only [World.size_alloc] at hsk27
  clear tn tnq
  go_wp2_with fail
  refine (eqTrack_same T0 [.slice AG_0 T0.Spots.length cG_0, .slice AG_1 T0.Inputs.length cG_1] [.slice AW_0 T0.Spots.length cW_0, .slice AW_1 T0.Inputs.length cW_1] _ tG.rows tW.rows).mono ?_
  rintro e w28 ⟨rfl, hx28⟩
  replace hy := hy.trans hx28
  replace bA0 := bA0.ext hx28
  replace bA1 := bA1.ext hx28
  replace bA2 := bA2.ext hx28
  replace bW := bW.ext hx28
  replace tW := tW.ext hx28
  replace bX := bX.ext hx28
  replace bY := bY.ext hx28
  replace bG := bG.ext hx28
  replace tG := tG.ext hx28
  have cbA0_86 := fun o => bA0.cell o
  have cbA1_87 := fun o => bA1.cell o
  have cbA2_88 := fun o => bA2.cell o
  have cbW_89 := fun o => bW.cell o
  have cbX_90 := fun o => bX.cell o
  have cbY_91 := fun o => bY.cell o
  have cbG_92 := fun o => bG.cell o
  have hs28 := Ext.size hx28
  try simp only [World.size_alloc] at hs28
  go_wp2_with fail
  refine (markTrack_p T0 [.slice AG_0 T0.Spots.length cG_0, .slice AG_1 T0.Inputs.length cG_1] _ _ _ _ tG (by omega) (by omega) (by omega)).mono ?_
  rintro e w29 ⟨rfl, tGq, k29⟩
  replace hy := hy.touch k29 (by omega)
  replace bA0 := bA0.touch k29 (by omega)
  have dbA0_22 := fun o => bA0.cell o
  replace bA1 := bA1.touch k29 (by omega)
  have dbA1_23 := fun o => bA1.cell o
  replace bA2 := bA2.touch k29 (by omega)
  have dbA2_24 := fun o => bA2.cell o
  replace bW := bW.touch k29 (by omega)
  have dbW_25 := fun o => bW.cell o
  replace tW := tW.touch k29 (by omega)
  replace bX := bX.touch k29 (by omega)
  have dbX_26 := fun o => bX.cell o
  replace bY := bY.touch k29 (by omega)
  have dbY_27 := fun o => bY.cell o
  replace bG := bG.touch k29 (by omega)
  have dbG_28 := fun o => bG.cell o
  have hsk29 := k29.size
  try simp only [World.size_alloc] at hsk29
  clear tG
  go_wp2_with fail
  refine (heldTrack_m T0 [.slice AG_0 T0.Spots.length cG_0, .slice AG_1 T0.Inputs.length cG_1] _ _ tGq.rows (by omega) (by omega)).mono ?_
  rintro e w30 ⟨rfl, hx30⟩
  replace hy := hy.trans hx30
  replace bA0 := bA0.ext hx30
  replace bA1 := bA1.ext hx30
  replace bA2 := bA2.ext hx30
  replace bW := bW.ext hx30
  replace tW := tW.ext hx30
  replace bX := bX.ext hx30
  replace bY := bY.ext hx30
  replace bG := bG.ext hx30
  replace tGq := tGq.ext hx30
  have cbA0_93 := fun o => bA0.cell o
  have cbA1_94 := fun o => bA1.cell o
  have cbA2_95 := fun o => bA2.cell o
  have cbW_96 := fun o => bW.cell o
  have cbX_97 := fun o => bX.cell o
  have cbY_98 := fun o => bY.cell o
  have cbG_99 := fun o => bG.cell o
  have hs30 := Ext.size hx30
  try simp only [World.size_alloc] at hs30
  have hsVH := hy.size
  have hrow0 : AggRow (w30) (roomF r0) [.slice A0_0 r0.Map.length c0_0, .int .i64 r0.Div, .int .i64 r0.Bx, .int .i64 r0.By, .int .i64 r0.Low, .int .i64 r0.High, .slice A0_6 r0.Noise.length c0_6, .slice A0_7 r0.Limits.length c0_7] := ⟨_, _, _, rfl, p0r0.ext hy, p0n0, p0m0, _, rfl, _, rfl, _, rfl, _, rfl, _, rfl, _, _, _, rfl, p0r6.ext hy, p0n6, p0m6, _, _, _, rfl, p0r7.ext hy, p0n7, p0m7, rfl⟩
  have hrow1 : AggRow (w30) (regionF r1) [.slice A1_0 r1.length c1_0] := ⟨_, _, _, rfl, p1r0.ext hy, p1n0, p1m0, rfl⟩
  have hrowN := hr3.ext hy
  go_upto_region 38 with fail
  go_cut [22, 23] from 126 to 137 (fun p o wx => OneTrack T0 q0 w30 p o wx)
  case first =>
    have hcur := Ext.refl (w30)
    have nbA0 := Nat.ne_of_lt bA0.lt
    have nbA0' := (Nat.ne_of_lt bA0.lt).symm
    have nbA1 := Nat.ne_of_lt bA1.lt
    have nbA1' := (Nat.ne_of_lt bA1.lt).symm
    have nbA2 := Nat.ne_of_lt bA2.lt
    have nbA2' := (Nat.ne_of_lt bA2.lt).symm
    go_region_held3 (fun w' => w'.cell? ⟨w.heap.size, 0, none⟩ = some (.slice A0_0 r0.Map.length c0_0) ∧ w'.cell? ⟨w.heap.size, 1, none⟩ = some (.int .i64 r0.Div) ∧ w'.cell? ⟨w.heap.size, 2, none⟩ = some (.int .i64 r0.Bx) ∧ w'.cell? ⟨w.heap.size, 3, none⟩ = some (.int .i64 r0.By) ∧ w'.cell? ⟨w.heap.size, 4, none⟩ = some (.int .i64 r0.Low) ∧ w'.cell? ⟨w.heap.size, 5, none⟩ = some (.int .i64 r0.High) ∧ w'.cell? ⟨w.heap.size, 6, none⟩ = some (.slice A0_6 r0.Noise.length c0_6) ∧ w'.cell? ⟨w.heap.size, 7, none⟩ = some (.slice A0_7 r0.Limits.length c0_7) ∧ w'.cell? ⟨w.heap.size + 1, 0, none⟩ = some (.slice A1_0 r1.length c1_0) ∧ w'.cell? ⟨w.heap.size + 2, 0, none⟩ = some (.int .i64 z20) ∧ w'.cell? ⟨w.heap.size + 2, 1, none⟩ = some (.int .i64 z21) ∧ w'.cell? ⟨w.heap.size + 2, 2, none⟩ = some (.int .i64 z22))
      (go_keep)
      (first
        | (go_at_call 8; (with_reducible refine (toRoom_m r0 [.slice A0_0 r0.Map.length c0_0, .int .i64 r0.Div, .int .i64 r0.Bx, .int .i64 r0.By, .int .i64 r0.Low, .int .i64 r0.High, .slice A0_6 r0.Noise.length c0_6, .slice A0_7 r0.Limits.length c0_7] _ (hrow0.ext (by first | exact hcur | exact hcur.drew | exact hcur.alloc _ | exact hcur.drew.alloc _ | exact (hcur.alloc _).drew)) hb0).mono ?_); rintro e w9 ⟨ua, rfl, ta, hx9⟩; have hsz := hcur.size; (first | have hx8 := (Ext.refl _).drew.trans hx9 | have hx8 := hx9); replace hcur := Ext.trans (by first | exact hcur | exact hcur.drew | exact hcur.alloc _ | exact hcur.drew.alloc _ | exact (hcur.alloc _).drew) hx9; (first | (replace gA := gA.ext hx8; have gAc := fun o => gA.cell o; have gAf := fun o => gA.frozen o; have lA := gA.lt; have nA := Nat.ne_of_lt gA.lt; have nA' := (Nat.ne_of_lt gA.lt).symm) | (have gA := Blk.ext (Blk.new _ 37 #[.slice none 0 0, .slice none 0 0]) hx8; have gAc := fun o => gA.cell o; have gAf := fun o => gA.frozen o; have lA := gA.lt; have nA := Nat.ne_of_lt gA.lt; have nA' := (Nat.ne_of_lt gA.lt).symm) | skip); obtain ⟨Aa0, Aa6, Aa7, ca0, ca6, ca7, rfl, RHa⟩ := ta.here; clear ta; have xa := Ext.refl w9; have cbA0_9 := fun o => (bA0.ext hcur).cell o; have mbA0_9 := Nat.ne_of_lt (bA0.ext hcur).lt; have mbA0_8 := (Nat.ne_of_lt (bA0.ext hcur).lt).symm; have cbA1_9 := fun o => (bA1.ext hcur).cell o; have mbA1_9 := Nat.ne_of_lt (bA1.ext hcur).lt; have mbA1_8 := (Nat.ne_of_lt (bA1.ext hcur).lt).symm; have cbA2_9 := fun o => (bA2.ext hcur).cell o; have mbA2_9 := Nat.ne_of_lt (bA2.ext hcur).lt; have mbA2_8 := (Nat.ne_of_lt (bA2.ext hcur).lt).symm)
        | (go_at_call 9; (with_reducible refine (toRegion_m r1 [.slice A1_0 r1.length c1_0] _ (hrow1.ext (by first | exact hcur | exact hcur.drew | exact hcur.alloc _ | exact hcur.drew.alloc _ | exact (hcur.alloc _).drew)) hb1).mono ?_); rintro e w9 ⟨ub, rfl, tb, hx9⟩; have hsz := hcur.size; (first | have hx8 := (Ext.refl _).drew.trans hx9 | have hx8 := hx9); replace hcur := Ext.trans (by first | exact hcur | exact hcur.drew | exact hcur.alloc _ | exact hcur.drew.alloc _ | exact (hcur.alloc _).drew) hx9; (first | (replace gA := gA.ext hx8; have gAc := fun o => gA.cell o; have gAf := fun o => gA.frozen o; have lA := gA.lt; have nA := Nat.ne_of_lt gA.lt; have nA' := (Nat.ne_of_lt gA.lt).symm) | (have gA := Blk.ext (Blk.new _ 37 #[.slice none 0 0, .slice none 0 0]) hx8; have gAc := fun o => gA.cell o; have gAf := fun o => gA.frozen o; have lA := gA.lt; have nA := Nat.ne_of_lt gA.lt; have nA' := (Nat.ne_of_lt gA.lt).symm) | skip); obtain ⟨Ab0, cb0, rfl, rb, nb⟩ := tb.hereP; clear tb; have xb := Ext.refl w9; replace xa := Ext.trans (by first | exact xa | exact xa.drew | exact xa.alloc _ | exact xa.drew.alloc _ | exact (xa.alloc _).drew) hx9; have cbA0_9 := fun o => (bA0.ext hcur).cell o; have mbA0_9 := Nat.ne_of_lt (bA0.ext hcur).lt; have mbA0_8 := (Nat.ne_of_lt (bA0.ext hcur).lt).symm; have cbA1_9 := fun o => (bA1.ext hcur).cell o; have mbA1_9 := Nat.ne_of_lt (bA1.ext hcur).lt; have mbA1_8 := (Nat.ne_of_lt (bA1.ext hcur).lt).symm; have cbA2_9 := fun o => (bA2.ext hcur).cell o; have mbA2_9 := Nat.ne_of_lt (bA2.ext hcur).lt; have mbA2_8 := (Nat.ne_of_lt (bA2.ext hcur).lt).symm)
        | (go_at_call 10; (with_reducible refine (toSpot_any _ _ _ _).mono ?_); rintro e w9 ⟨rfl, hx9⟩; have hsz := hcur.size; (first | have hx8 := (Ext.refl _).drew.trans hx9 | have hx8 := hx9); replace hcur := Ext.trans (by first | exact hcur | exact hcur.drew | exact hcur.alloc _ | exact hcur.drew.alloc _ | exact (hcur.alloc _).drew) hx9; (first | (replace gA := gA.ext hx8; have gAc := fun o => gA.cell o; have gAf := fun o => gA.frozen o; have lA := gA.lt; have nA := Nat.ne_of_lt gA.lt; have nA' := (Nat.ne_of_lt gA.lt).symm) | (have gA := Blk.ext (Blk.new _ 37 #[.slice none 0 0, .slice none 0 0]) hx8; have gAc := fun o => gA.cell o; have gAf := fun o => gA.frozen o; have lA := gA.lt; have nA := Nat.ne_of_lt gA.lt; have nA' := (Nat.ne_of_lt gA.lt).symm) | skip); replace xa := Ext.trans (by first | exact xa | exact xa.drew | exact xa.alloc _ | exact xa.drew.alloc _ | exact (xa.alloc _).drew) hx9; replace xb := Ext.trans (by first | exact xb | exact xb.drew | exact xb.alloc _ | exact xb.drew.alloc _ | exact (xb.alloc _).drew) hx9; have cbA0_9 := fun o => (bA0.ext hcur).cell o; have mbA0_9 := Nat.ne_of_lt (bA0.ext hcur).lt; have mbA0_8 := (Nat.ne_of_lt (bA0.ext hcur).lt).symm; have cbA1_9 := fun o => (bA1.ext hcur).cell o; have mbA1_9 := Nat.ne_of_lt (bA1.ext hcur).lt; have mbA1_8 := (Nat.ne_of_lt (bA1.ext hcur).lt).symm; have cbA2_9 := fun o => (bA2.ext hcur).cell o; have mbA2_9 := Nat.ne_of_lt (bA2.ext hcur).lt; have mbA2_8 := (Nat.ne_of_lt (bA2.ext hcur).lt).symm)
        | (go_at_call 11; (with_reducible refine (toSpotS_m _ _ _ xs3 _ rfl (hrowN.ext (by first | exact hcur | exact hcur.drew | exact hcur.alloc _ | exact hcur.drew.alloc _ | exact (hcur.alloc _).drew)) hb3).mono ?_); rintro e w9 ⟨gn, rfl, tn, hx9⟩; have rn := tn.row; clear tn; have hsz := hcur.size; (first | have hx8 := (Ext.refl _).drew.trans hx9 | have hx8 := hx9); replace hcur := Ext.trans (by first | exact hcur | exact hcur.drew | exact hcur.alloc _ | exact hcur.drew.alloc _ | exact (hcur.alloc _).drew) hx9; (first | (replace gA := gA.ext hx8; have gAc := fun o => gA.cell o; have gAf := fun o => gA.frozen o; have lA := gA.lt; have nA := Nat.ne_of_lt gA.lt; have nA' := (Nat.ne_of_lt gA.lt).symm) | (have gA := Blk.ext (Blk.new _ 37 #[.slice none 0 0, .slice none 0 0]) hx8; have gAc := fun o => gA.cell o; have gAf := fun o => gA.frozen o; have lA := gA.lt; have nA := Nat.ne_of_lt gA.lt; have nA' := (Nat.ne_of_lt gA.lt).symm) | skip); replace xa := Ext.trans (by first | exact xa | exact xa.drew | exact xa.alloc _ | exact xa.drew.alloc _ | exact (xa.alloc _).drew) hx9; replace xb := Ext.trans (by first | exact xb | exact xb.drew | exact xb.alloc _ | exact xb.drew.alloc _ | exact (xb.alloc _).drew) hx9; have xn := Ext.refl w9; have cbA0_9 := fun o => (bA0.ext hcur).cell o; have mbA0_9 := Nat.ne_of_lt (bA0.ext hcur).lt; have mbA0_8 := (Nat.ne_of_lt (bA0.ext hcur).lt).symm; have cbA1_9 := fun o => (bA1.ext hcur).cell o; have mbA1_9 := Nat.ne_of_lt (bA1.ext hcur).lt; have mbA1_8 := (Nat.ne_of_lt (bA1.ext hcur).lt).symm; have cbA2_9 := fun o => (bA2.ext hcur).cell o; have mbA2_9 := Nat.ne_of_lt (bA2.ext hcur).lt; have mbA2_8 := (Nat.ne_of_lt (bA2.ext hcur).lt).symm)
        | (go_at_call 12; (with_reducible refine (HI.out _ _ _ _ _ _ _ _ _ _ _ (RHa.ext (by first | exact xa | exact xa.drew | exact xa.alloc _ | exact xa.drew.alloc _ | exact (xa.alloc _).drew)) (rb.ext (by first | exact xb | exact xb.drew | exact xb.alloc _ | exact xb.drew.alloc _ | exact (xb.alloc _).drew)) (rn.ext (by first | exact xn | exact xn.drew | exact xn.alloc _ | exact xn.drew.alloc _ | exact (xn.alloc _).drew))).mono ?_); rintro e w9 ⟨B0, d0, B1, d1, rfl, tm, hx9⟩; have hlo := hcur.size; (try simp only [World.size_alloc, World.size_drew] at hlo); (try simp only [World.size_alloc, World.size_drew] at tm); have hsz := hcur.size; (first | have hx8 := (Ext.refl _).drew.trans hx9 | have hx8 := hx9); replace hcur := Ext.trans (by first | exact hcur | exact hcur.drew | exact hcur.alloc _ | exact hcur.drew.alloc _ | exact (hcur.alloc _).drew) hx9; (first | (replace gA := gA.ext hx8; have gAc := fun o => gA.cell o; have gAf := fun o => gA.frozen o; have lA := gA.lt; have nA := Nat.ne_of_lt gA.lt; have nA' := (Nat.ne_of_lt gA.lt).symm) | (have gA := Blk.ext (Blk.new _ 37 #[.slice none 0 0, .slice none 0 0]) hx8; have gAc := fun o => gA.cell o; have gAf := fun o => gA.frozen o; have lA := gA.lt; have nA := Nat.ne_of_lt gA.lt; have nA' := (Nat.ne_of_lt gA.lt).symm) | skip); have hhi := Nat.le_refl w9.heap.size; have cbA0_9 := fun o => (bA0.ext hcur).cell o; have mbA0_9 := Nat.ne_of_lt (bA0.ext hcur).lt; have mbA0_8 := (Nat.ne_of_lt (bA0.ext hcur).lt).symm; have cbA1_9 := fun o => (bA1.ext hcur).cell o; have mbA1_9 := Nat.ne_of_lt (bA1.ext hcur).lt; have mbA1_8 := (Nat.ne_of_lt (bA1.ext hcur).lt).symm; have cbA2_9 := fun o => (bA2.ext hcur).cell o; have mbA2_9 := Nat.ne_of_lt (bA2.ext hcur).lt; have mbA2_8 := (Nat.ne_of_lt (bA2.ext hcur).lt).symm))
    all_goals
      go_wp2_with fail
      go_meet
      case rel => first | (with_reducible exact OneTrack.new hcur tm (by omega) (Nat.le_refl _)) | (with_reducible exact OneTrack.old hcur tm (by omega) (Nat.le_refl _) (by omega) (by omega) gA)
  case rest =>
  obtain ⟨wH, rfl⟩ : ∃ W, W = wc := ⟨_, rfl⟩
  obtain ⟨bH_, AH_0, cH_0, AH_1, cH_1, loH, hiH, rfl, rfl, hbH1, hbH2, hxCH, bH, tH, hloH, hhiH, hbbH⟩ := hcut
  replace hy := hy.trans hxCH
  replace bA0 := bA0.ext hxCH
  replace bA1 := bA1.ext hxCH
  replace bA2 := bA2.ext hxCH
  replace bW := bW.ext hxCH
  replace tW := tW.ext hxCH
  replace bX := bX.ext hxCH
  replace bY := bY.ext hxCH
  replace bG := bG.ext hxCH
  replace tGq := tGq.ext hxCH
  have cbA0_100 := fun o => bA0.cell o
  have cbA1_101 := fun o => bA1.cell o
  have cbA2_102 := fun o => bA2.cell o
  have cbW_103 := fun o => bW.cell o
  have cbX_104 := fun o => bX.cell o
  have cbY_105 := fun o => bY.cell o
  have cbG_106 := fun o => bG.cell o
  have hsCH := Ext.size hxCH
  try simp only [World.size_alloc] at hsCH
  have cbA0_107 := fun o => bA0.cell o
  have cbA1_108 := fun o => bA1.cell o
  have cbA2_109 := fun o => bA2.cell o
  have cbW_110 := fun o => bW.cell o
  have cbX_111 := fun o => bX.cell o
  have cbY_112 := fun o => bY.cell o
  have cbG_113 := fun o => bG.cell o
  have cbH_114 := fun o => bH.cell o
  clear hrow0 hrow1 hrowN
  go_wp2_with fail
  refine (eqTrack_same T0 [.slice AH_0 T0.Spots.length cH_0, .slice AH_1 T0.Inputs.length cH_1] [.slice AW_0 T0.Spots.length cW_0, .slice AW_1 T0.Inputs.length cW_1] _ tH.rows tW.rows).mono ?_
  rintro e w41 ⟨rfl, hx41⟩
  replace hy := hy.trans hx41
  replace bA0 := bA0.ext hx41
  replace bA1 := bA1.ext hx41
  replace bA2 := bA2.ext hx41
  replace bW := bW.ext hx41
  replace tW := tW.ext hx41
  replace bX := bX.ext hx41
  replace bY := bY.ext hx41
  replace bG := bG.ext hx41
  replace tGq := tGq.ext hx41
  replace bH := bH.ext hx41
  replace tH := tH.ext hx41
  have cbA0_115 := fun o => bA0.cell o
  have cbA1_116 := fun o => bA1.cell o
  have cbA2_117 := fun o => bA2.cell o
  have cbW_118 := fun o => bW.cell o
  have cbX_119 := fun o => bX.cell o
  have cbY_120 := fun o => bY.cell o
  have cbG_121 := fun o => bG.cell o
  have cbH_122 := fun o => bH.cell o
  have hs41 := Ext.size hx41
  try simp only [World.size_alloc] at hs41
  go_wp2_with fail
  refine (heldTrack_m T0 [.slice AG_0 T0.Spots.length cG_0, .slice AG_1 T0.Inputs.length cG_1] _ _ tGq.rows (by omega) (by omega)).mono ?_
  rintro e w42 ⟨rfl, hx42⟩
  replace hy := hy.trans hx42
  replace bA0 := bA0.ext hx42
  replace bA1 := bA1.ext hx42
  replace bA2 := bA2.ext hx42
  replace bW := bW.ext hx42
  replace tW := tW.ext hx42
  replace bX := bX.ext hx42
  replace bY := bY.ext hx42
  replace bG := bG.ext hx42
  replace tGq := tGq.ext hx42
  replace bH := bH.ext hx42
  replace tH := tH.ext hx42
  have cbA0_123 := fun o => bA0.cell o
  have cbA1_124 := fun o => bA1.cell o
  have cbA2_125 := fun o => bA2.cell o
  have cbW_126 := fun o => bW.cell o
  have cbX_127 := fun o => bX.cell o
  have cbY_128 := fun o => bY.cell o
  have cbG_129 := fun o => bG.cell o
  have cbH_130 := fun o => bH.cell o
  have hs42 := Ext.size hx42
  try simp only [World.size_alloc] at hs42
  go_wp2
  go_ret
  exact ⟨rfl, hy⟩

namespace lFnExactCheapTrack
set_option maxRecDepth 100000 in
theorem lifted (os : Os) (started : os.Started) (H : Type) (enc : TypeId × Value → H) :
    ReturnsInHanded {} Tryz.checked os 3 .any (Rows.fnExactCheapTrackSpec.pre6 enc Tryz.prog Tryz.f3 Rows.fnExactCheapTrackRow.domain false) (Rows.fnExactCheapTrackSpec.post enc Tryz.prog Tryz.f3 false true false false) := by
  refine returnsInHanded_of_change (C := Tryz.checked) own started (by kernel_rfl) Tryz.func3
    (ChangeSpec.witness6 (enc := enc) (C := Tryz.checked) false ⟨#[], #[.agg #[.slice none 0 0, .int .i64 0, .int .i64 0, .int .i64 0, .int .i64 0, .int .i64 0, .slice none 0 0, .slice none 0 0], .agg #[.slice none 0 0], .agg #[.int .i64 0, .int .i64 0, .int .i64 0], .slice none 0 0, .int .i64 0], []⟩ 8 (by kernel_rfl) (by kernel_rfl) (by kernel_rfl) (by kernel_rfl)) ?_
  intro W base args ds gs before hval0 hW _ _
  have hval : ∀ (j : Nat) t v, Tryz.f3.params[j]? = some t → args[j]? = some v → Value.okWide Tryz.prog W .any base t v := hval0
  have hW' := hW
  obtain ⟨p, q, hA0, hV, rfl, _, _⟩ := hW
  have hA : DataW.TrodAll enc Tryz.prog W 0 (fun _ => true) true Tryz.f3.params.toList args.toList ds p := hA0
  rw [Tryz.params3] at hA hval
  obtain ⟨v0, vs0, d0, ds0, p0, q0, hargs, rfl, rfl, h0, r0⟩ := trodAll_cons hA
  obtain ⟨v1, vs1, d1, ds1, p1, q1, rfl, rfl, rfl, h1, r1⟩ := trodAll_cons r0
  obtain ⟨v2, vs2, d2, ds2, p2, q2, rfl, rfl, rfl, h2, r2⟩ := trodAll_cons r1
  obtain ⟨v3, vs3, d3, ds3, p3, q3, rfl, rfl, rfl, h3, r3⟩ := trodAll_cons r2
  obtain ⟨v4, vs4, d4, ds4, p4, q4, rfl, rfl, rfl, h4, r4⟩ := trodAll_cons r3
  obtain ⟨rfl, rfl, rfl⟩ := trodAll_nil r4
  obtain rfl : args = #[v0, v1, v2, v3, v4] := by cases args; simp_all
  obtain ⟨rfl, rfl⟩ := trodVars_none hV
  have hv0 := hval 0 27 v0 rfl rfl
  have hv1 := hval 1 25 v1 rfl rfl
  have hv2 := hval 2 29 v2 rfl rfl
  have hv3 := hval 3 30 v3 rfl rfl
  have hv4 := hval 4 3 v4 rfl rfl
  clear hA0 hval hval0
  obtain ⟨vs0, rfl, hk0⟩ := openArg_mix (n := 8) Tryz.underlying27 (by kernel_rfl) hv0 h0
  obtain ⟨m0, ha0, hI0⟩ := roomF_open hk0
  obtain ⟨vs1, rfl, hk1⟩ := openArg_mix (n := 8) Tryz.underlying25 (by kernel_rfl) hv1 h1
  obtain ⟨m1, ha1, hI1⟩ := regionF_open hk1
  obtain ⟨zs2, rfl, hl2, hI2⟩ := openArg_flat (n := 5) Tryz.underlying29 (by kernel_rfl) hv2 h2
  obtain ⟨z20, z21, z22, rfl⟩ := list3 (hl2.trans (by kernel_rfl : Tryz.prog.cellsOf 29 = 3))
  obtain ⟨A3, n3, c3, zs3, rfl, hl3, hr3, hnc3, hm3, hzz3⟩ := openArg_slice (n := 5) Tryz.underlying30 (by kernel_rfl) hv3 h3
  rw [(by kernel_rfl : Tryz.prog.cellsOf 29 = 3)] at hl3
  obtain ⟨xs3, hll3, rfl⟩ := unflat Spot.unints n3 zs3 hl3
  subst hll3
  obtain ⟨z4, rfl, hz4⟩ := openArg_int Tryz.underlying3 hv4 h4
  refine (lawCheapTrack m0 vs0 m1 vs1 z20 z21 z22 A3 c3 xs3 z4 W ha0 hI0 ha1 hI1 (hI2 _ (by simp)) (hI2 _ (by simp)) (hI2 _ (by simp)) hr3 hnc3 hm3 (fun x hx z hz => hzz3 z (by unfold flat; exact List.mem_flatMap.2 ⟨x, hx, hz⟩)) hz4).mono fun e W' ⟨he, hx⟩ => ?_
  subst he
  exact ⟨_, rfl, law_post (tb := 4) laidOut (by kernel_rfl) rfl Tryz.underlying4 rfl hW' rfl rfl rfl hx⟩
theorem over : Rows.fnExactCheapTrackRow.holds Tryz.pinned (OpenSpec.ofChange Rows.fnExactCheapTrackSpec) :=
  OpenClaim.holds_of_wide 3 Tryz.f3 rfl rfl rfl rfl rfl rfl rfl ⟨rfl, rfl, rfl, rfl, rfl⟩ rfl rfl rfl rfl rfl (by kernel_rfl) Tryz.func3 (by kernel_rfl)
    (of_decide_eq_true (by kernel_rfl)) (by unfold Func.isWrapper; first | (rw [if_pos (by decide +kernel)]; kernel_rfl) | (rw [if_neg (by decide +kernel)]; exact ⟨rfl, rfl⟩))
    (fun os started H enc _ => lifted os started H enc)
theorem proved : Rows.FnExactCheapTrackSaid := over
end lFnExactCheapTrack
end Go.Proofs.YtbbdipfioopfmaaGreat
