/- Contracts of ParseRoom of the program and of the reference. (written by tools/mkPm.py) -/
import Derived.Test.YtlfepobnmmkcmaaGreatDoorRm
import Derived.Test.YtlfepobnmmkcmaaGreatDoorUz
namespace Go.Proofs.YtlfepobnmmkcmaaGreatDoor
open Go.ChangeShapes Go.WideShapes Go.ChangeAt Go.RowKit
set_option linter.unusedVariables false
set_option maxRecDepth 100000

def roomP (a b c : List UInt8) : Room := ⟨(numsL a).take 4, (numsL a).getD 4 0, (numsL a).getD 5 0, (numsL a).getD 6 0, (numsL a).getD 7 0, (numsL a).getD 8 0, (regionR b).1, (regionR c).1⟩
def zeroRoom : Room := ⟨[], 0, 0, 0, 0, 0, [], []⟩
def roomG (L a b c : List UInt8) : Prop := (numsL a).length = 9 ∧ (regionR b).2 = true ∧ (regionR c).2 = true ∧ roomT (roomP a b c) = L
instance (L a b c : List UInt8) : Decidable (roomG L a b c) := by unfold roomG; infer_instance
def roomQ (L : List UInt8) (P : List (List UInt8)) : Room × Bool := match P with
  | [a, b, c] => if roomG L a b c then (roomP a b c, true) else (zeroRoom, false)
  | _ => (zeroRoom, false)
/-- what ParseRoom gives of a text -/
def roomR (L : List UInt8) : Room × Bool := roomQ L (splitC 124 L)
theorem three_of' {α : Type} {P : List α} (h : P.length = 3) : ∃ a b c, P = [a, b, c] := by
  match P, h with
  | [a, b, c], _ => exact ⟨a, b, c, rfl⟩
theorem roomR_len {L : List UInt8} {P : List (List UInt8)} (hP : splitC 124 L = P) (h : P.length ≠ 3) : roomR L = (zeroRoom, false) := by
  unfold roomR roomQ
  rw [hP]
  match P, h with
  | [], _ => rfl
  | [_], _ => rfl
  | [_, _], _ => rfl
  | [_, _, _], h => exact absurd rfl h
  | _ :: _ :: _ :: _ :: _, _ => rfl
theorem roomR_no {L a b c : List UInt8} (hP : splitC 124 L = [a, b, c]) (h : ¬ roomG L a b c) : roomR L = (zeroRoom, false) := by
  unfold roomR roomQ; rw [hP]; exact if_neg h
theorem roomR_yes {L a b c : List UInt8} (hP : splitC 124 L = [a, b, c]) (h : roomG L a b c) : roomR L = (roomP a b c, true) := by
  unfold roomR roomQ; rw [hP]; exact if_pos h
theorem nine_of {l : List Int} (h : l.length = 9) : ∃ a b c d e f g i j, l = [a, b, c, d, e, f, g, i, j] := by
  match l, h with
  | [a, b, c, d, e, f, g, i, j], _ => exact ⟨a, b, c, d, e, f, g, i, j, rfl⟩
theorem split3_ne {L a b c : List UInt8} (h : splitC 124 L = [a, b, c]) : L ≠ [] := by
  rintro rfl
  have : splitC 124 [] = [[]] := rfl
  rw [this] at h; cases h
theorem regionR_I (L : List UInt8) : HalvesI (regionR L).1 := by
  unfold regionR
  split
  · intro x hx; cases hx
  · split
    · exact halvesHv_I _
    · intro x hx; cases hx

/-- the first elements of a row of the call's own -/
def Part (w : World) (lo hi : Nat) (A : Option Addr) (n c : Nat) (cs : List Value) : Prop :=
  n ≤ c ∧ c ≤ maxLen ∧ ∃ N C full, Mine w lo hi 3 1 (.slice A N C) N full ∧ n ≤ N ∧ cs = full.take n
section
variable {w w' : World} {lo hi lo' hi' n c : Nat} {A : Option Addr} {cs : List Value}
theorem Part.of (h : Mine w lo hi 3 1 (.slice A n c) n cs) : Part w lo hi A n c cs :=
  ⟨h.cap, h.capm, n, c, cs, h, Nat.le_refl _, by rw [List.take_of_length_le (by have := h.len; omega)]⟩
theorem Part.ext (h : Part w lo hi A n c cs) (hx : Ext w w') : Part w' lo hi A n c cs := by
  obtain ⟨h1, h2, N, C, full, h3, h4, h5⟩ := h
  exact ⟨h1, h2, N, C, full, h3.ext hx, h4, h5⟩
theorem Part.wide (h : Part w lo hi A n c cs) (h1 : lo' ≤ lo) (h2 : hi ≤ hi') : Part w lo' hi' A n c cs := by
  obtain ⟨a1, a2, N, C, full, h3, h4, h5⟩ := h
  exact ⟨a1, a2, N, C, full, h3.wide h1 h2, h4, h5⟩
theorem Part.touch {l h' : Nat} (h : Part w lo hi A n c cs) (k : Touch l h' w w') (hd : hi ≤ l ∨ h' ≤ lo) : Part w' lo hi A n c cs := by
  obtain ⟨a1, a2, N, C, full, h3, h4, h5⟩ := h
  exact ⟨a1, a2, N, C, full, h3.touch k hd, h4, h5⟩
theorem Part.row (h : Part w lo hi A n c cs) : Row w A cs := by
  obtain ⟨a1, a2, N, C, full, h3, h4, h5⟩ := h
  rcases h3.row with e | ⟨g, off, hA, hc⟩
  · left; rw [h5, e]; simp
  · right
    refine ⟨g, off, hA, fun j v hj => hc j v ?_⟩
    rw [h5, List.getElem?_take] at hj
    split at hj
    · exact hj
    · cases hj
end
/-- a room made, its Map perhaps the head of a longer row -/
def RoomPt (w : World) (n0 n6 n7 : Nat) (z1 z2 z3 z4 z5 : Int) (x0 x6 x7 : List Value) (us : List Value) (lo hi : Nat) : Prop :=
  ∃ A0 c0 q0 A6 c6 q6 A7 c7, us = [.slice A0 n0 c0, .int .i64 z1, .int .i64 z2, .int .i64 z3, .int .i64 z4, .int .i64 z5, .slice A6 n6 c6, .slice A7 n7 c7] ∧
    Part w lo q0 A0 n0 c0 x0 ∧ lo ≤ q0 ∧ Mine w q0 q6 78 3 (.slice A6 n6 c6) n6 x6 ∧ q0 ≤ q6 ∧ Mine w q6 hi 78 3 (.slice A7 n7 c7) n7 x7 ∧ q6 ≤ hi
def RoomM (w : World) (r : Room) (us : List Value) (lo hi : Nat) : Prop := RoomPt w r.Map.length r.Noise.length r.Limits.length r.Div r.Bx r.By r.Low r.High (ints r.Map) (ints (flat Half.ints r.Noise)) (ints (flat Half.ints r.Limits)) us lo hi
def RoomMk (w : World) (r : Room) (k : Int) (us : List Value) (lo hi : Nat) : Prop := RoomPt w r.Map.length r.Noise.length r.Limits.length r.Div r.Bx r.By r.Low r.High (ints (upTo k (r.Map.length * 1))) (ints (upTo (k + ((r.Map.length * 1 : Nat) : Int)) (r.Noise.length * 3))) (ints (upTo (k + ((r.Map.length * 1 : Nat) : Int) + ((r.Noise.length * 3 : Nat) : Int)) (r.Limits.length * 3))) us lo hi
theorem RoomPt.ext {w w' : World} {n0 n6 n7 lo hi : Nat} {z1 z2 z3 z4 z5 : Int} {x0 x6 x7 us : List Value} (h : RoomPt w n0 n6 n7 z1 z2 z3 z4 z5 x0 x6 x7 us lo hi) (hx : Ext w w') : RoomPt w' n0 n6 n7 z1 z2 z3 z4 z5 x0 x6 x7 us lo hi := by
  obtain ⟨A0, c0, q0, A6, c6, q6, A7, c7, h1, h2, h3, h4, h5, h6, h7⟩ := h
  exact ⟨A0, c0, q0, A6, c6, q6, A7, c7, h1, h2.ext hx, h3, h4.ext hx, h5, h6.ext hx, h7⟩
theorem RoomPt.touch {w w' : World} {n0 n6 n7 lo hi l h' : Nat} {z1 z2 z3 z4 z5 : Int} {x0 x6 x7 us : List Value} (h : RoomPt w n0 n6 n7 z1 z2 z3 z4 z5 x0 x6 x7 us lo hi) (k : Touch l h' w w') (hd : hi ≤ l ∨ h' ≤ lo) : RoomPt w' n0 n6 n7 z1 z2 z3 z4 z5 x0 x6 x7 us lo hi := by
  obtain ⟨A0, c0, q0, A6, c6, q6, A7, c7, h1, h2, h3, h4, h5, h6, h7⟩ := h
  exact ⟨A0, c0, q0, A6, c6, q6, A7, c7, h1, h2.touch k (by omega), h3, h4.touch k (by omega), h5, h6.touch k (by omega), h7⟩
theorem RoomM.rows {w : World} {r : Room} {us : List Value} {lo hi : Nat} (h : RoomM w r us lo hi) : AggRow w (roomF r) us := by
  obtain ⟨A0, c0, q0, A6, c6, q6, A7, c7, h1, h2, h3, h4, h5, h6, h7⟩ := h
  exact ⟨A0, c0, _, h1, h2.row, h2.1, h2.2.1, _, rfl, _, rfl, _, rfl, _, rfl, _, rfl, A6, c6, _, rfl, h4.row, h4.cap, h4.capm, A7, c7, _, rfl, h6.row, h6.cap, h6.capm, rfl⟩
theorem RoomMk.rows {w : World} {r : Room} {k : Int} {us : List Value} {lo hi : Nat} (h : RoomMk w r k us lo hi) : AggRow w (markF (roomF r) k) us := by
  obtain ⟨A0, c0, q0, A6, c6, q6, A7, c7, h1, h2, h3, h4, h5, h6, h7⟩ := h
  exact ⟨A0, c0, _, h1, h2.row, h2.1, h2.2.1, _, rfl, _, rfl, _, rfl, _, rfl, _, rfl, A6, c6, _, rfl, h4.row, h4.cap, h4.capm, A7, c7, _, rfl, h6.row, h6.cap, h6.capm, rfl⟩
def RoomMade (r : Room) (q : Bool) (w : World) (e : Ending) (w' : World) : Prop :=
  ∃ us : List Value, e = .returned (.tuple #[.agg us.toArray, .bool q]) ∧ RoomM w' r us w.heap.size w'.heap.size ∧ Ext w w'
theorem RoomMade.no {w w' : World} {e : Ending} {x : Room × Bool} (hx0 : x = (zeroRoom, false)) (he : e = .returned (.tuple #[.agg #[.slice none 0 0, .int .i64 0, .int .i64 0, .int .i64 0, .int .i64 0, .int .i64 0, .slice none 0 0, .slice none 0 0], .bool false])) (hx : Ext w w') : RoomMade x.1 x.2 w e w' := by
  rw [hx0]
  refine ⟨[.slice none 0 0, .int .i64 0, .int .i64 0, .int .i64 0, .int .i64 0, .int .i64 0, .slice none 0 0, .slice none 0 0], he, ?_, hx⟩
  have hs := hx.size
  exact ⟨none, 0, w.heap.size, none, 0, w.heap.size, none, 0, rfl, Part.of ⟨World.ownsRow_nil _ _ _ _, fun g hg => by cases hg⟩, Nat.le_refl _, ⟨World.ownsRow_nil _ _ _ _, fun g hg => by cases hg⟩, Nat.le_refl _, ⟨World.ownsRow_nil _ _ _ _, fun g hg => by cases hg⟩, hs⟩
/-- a room made, its rows in any order -/
def RoomW (w : World) (r : Room) (us : List Value) (lo hi : Nat) : Prop :=
  ∃ A0 c0 A6 c6 A7 c7, us = [.slice A0 r.Map.length c0, .int .i64 r.Div, .int .i64 r.Bx, .int .i64 r.By, .int .i64 r.Low, .int .i64 r.High, .slice A6 r.Noise.length c6, .slice A7 r.Limits.length c7] ∧
    Mine w lo hi 3 1 (.slice A0 r.Map.length c0) r.Map.length (ints r.Map) ∧ Mine w lo hi 78 3 (.slice A6 r.Noise.length c6) r.Noise.length (ints (flat Half.ints r.Noise)) ∧ Mine w lo hi 78 3 (.slice A7 r.Limits.length c7) r.Limits.length (ints (flat Half.ints r.Limits))
theorem RoomW.ext {w w' : World} {r : Room} {us : List Value} {lo hi : Nat} (h : RoomW w r us lo hi) (hx : Ext w w') : RoomW w' r us lo hi := by
  obtain ⟨A0, c0, A6, c6, A7, c7, h1, h2, h3, h4⟩ := h
  exact ⟨A0, c0, A6, c6, A7, c7, h1, h2.ext hx, h3.ext hx, h4.ext hx⟩
theorem RoomW.touch {w w' : World} {r : Room} {us : List Value} {lo hi l h' : Nat} (h : RoomW w r us lo hi) (k : Touch l h' w w') (hd : hi ≤ l ∨ h' ≤ lo) : RoomW w' r us lo hi := by
  obtain ⟨A0, c0, A6, c6, A7, c7, h1, h2, h3, h4⟩ := h
  exact ⟨A0, c0, A6, c6, A7, c7, h1, h2.touch k hd, h3.touch k hd, h4.touch k hd⟩
theorem RoomW.rows {w : World} {r : Room} {us : List Value} {lo hi : Nat} (h : RoomW w r us lo hi) : AggRow w (roomF r) us := by
  obtain ⟨A0, c0, A6, c6, A7, c7, h1, h2, h3, h4⟩ := h
  exact ⟨A0, c0, _, h1, h2.row, h2.cap, h2.capm, _, rfl, _, rfl, _, rfl, _, rfl, _, rfl, A6, c6, _, rfl, h3.row, h3.cap, h3.capm, A7, c7, _, rfl, h4.row, h4.cap, h4.capm, rfl⟩
def RoomMadeW (r : Room) (q : Bool) (w : World) (e : Ending) (w' : World) : Prop :=
  ∃ us : List Value, e = .returned (.tuple #[.agg us.toArray, .bool q]) ∧ RoomW w' r us w.heap.size w'.heap.size ∧ Ext w w'
theorem RoomMadeW.no {w w' : World} {e : Ending} {x : Room × Bool} (hx0 : x = (zeroRoom, false)) (he : e = .returned (.tuple #[.agg #[.slice none 0 0, .int .i64 0, .int .i64 0, .int .i64 0, .int .i64 0, .int .i64 0, .slice none 0 0, .slice none 0 0], .bool false])) (hx : Ext w w') : RoomMadeW x.1 x.2 w e w' := by
  rw [hx0]
  exact ⟨[.slice none 0 0, .int .i64 0, .int .i64 0, .int .i64 0, .int .i64 0, .int .i64 0, .slice none 0 0, .slice none 0 0], he, ⟨none, 0, none, 0, none, 0, rfl, ⟨World.ownsRow_nil _ _ _ _, fun g hg => by cases hg⟩, ⟨World.ownsRow_nil _ _ _ _, fun g hg => by cases hg⟩, ⟨World.ownsRow_nil _ _ _ _, fun g hg => by cases hg⟩⟩, hx⟩
set_option maxHeartbeats 8000000 in
theorem implParseRoom_any (s : ByteArray) (hs : s.size ≤ 1048576) (w : World) (ht : Tab w) (he : Ers w) :
    Calls Tryz.prog 42 #[.string s] w (RoomMade (roomR s.data.toList).1 (roomR s.data.toList).2 w) := by
  obtain ⟨L, hL⟩ : ∃ L, s.data.toList = L := ⟨_, rfl⟩
  have HL := Lib.hid hL
  have hLn : L.length ≤ 1048576 := by rw [← hL]; simpa using hs
  rw [hL]
  clear hL
  have HT0 := Lib.hid ht
  have HE0 := Lib.hid he
  clear ht he
  have hx : Ext w (w.alloc (.cells #[.slice none 0 0, .int .i64 0, .int .i64 0, .int .i64 0, .int .i64 0, .int .i64 0, .slice none 0 0, .slice none 0 0] 28)) := (Ext.refl w).alloc _
  have b0 := Blk.new w 28 #[.slice none 0 0, .int .i64 0, .int .i64 0, .int .i64 0, .int .i64 0, .int .i64 0, .slice none 0 0, .slice none 0 0]
  obtain ⟨P, hP⟩ : ∃ P, splitC 124 L = P := ⟨_, rfl⟩
  have HP := Lib.hid hP
  have HS : Hid (∀ k (h : k < P.length), P[k].length ≤ 1048576) := fun k h => Nat.le_trans (splitC_small 124 L _ (by rw [hP]; exact List.getElem_mem h)) hLn
  have hPn : P.length ≤ 1048577 := by have := splitC_len 124 L; rw [hP] at this; omega
  clear hP
  go_enter Tryz.func42, Tryz.ntmps42
  go_wp2_with fail
  refine (implSplitAny_any 124 s hs _).mono ?_
  rintro e w1 ⟨A, c, rfl, th, hx1⟩
  rw [HL.out, HP.out] at th
  rw [HL.out, HP.out]
  replace hx := hx.trans hx1
  replace b0 := b0.ext hx1
  by_cases h3 : P.length = 3
  rotate_left
  · have H := Lib.hid (roomR_len HP.out h3)
    obtain ⟨n, hn⟩ : ∃ n, P.length = n := ⟨_, rfl⟩
    rw [hn] at h3
    rw [hn]
    have h3a : ((n : Int) != 3) = true := by simp; omega
    have h3b : ¬ (n : Int) = 3 := by omega
    clear hn h3
    have c0 := fun o => b0.cell o
    have f0 := fun o => b0.frozen o
    go_wp2
    refine bodyPost_ret (v := .tuple #[.agg #[.slice none 0 0, .int .i64 0, .int .i64 0, .int .i64 0, .int .i64 0, .int .i64 0, .slice none 0 0, .slice none 0 0], .bool false]) (by simp [results, Tryz.results42, go_sem, c0]) rfl ?_
    exact RoomMade.no H.out rfl (by repeat (first | (with_reducible exact hx) | refine Ext.setCell ?_ (by first | omega | (simp <;> omega)) _))
  obtain ⟨a, b, d, rfl⟩ := three_of' h3
  clear h3 hPn
  have hp0 : a.length ≤ 1048576 := HS.out 0 (by simp)
  have hp1 : b.length ≤ 1048576 := HS.out 1 (by simp)
  have hp2 : d.length ≤ 1048576 := HS.out 2 (by simp)
  simp only [List.length_cons, List.length_nil, Nat.zero_add, Nat.reduceAdd] at th ⊢
  have hst0 : (txt a).size ≤ 1048576 := by rw [txt_size]; exact hp0
  have hst1 : (txt b).size ≤ 1048576 := by rw [txt_size]; exact hp1
  have hst2 : (txt d).size ≤ 1048576 := by rw [txt_size]; exact hp2
  clear hp0 hp1 hp2 HS
  have HNo : Hid (∀ h : ¬ roomG L a b d, roomR L = (zeroRoom, false)) := fun h => roomR_no HP.out h
  have HYes : Hid (∀ h : roomG L a b d, roomR L = (roomP a b d, true)) := fun h => roomR_yes HP.out h
  have HLne : Hid (L ≠ []) := split3_ne HP.out
  clear HP
  obtain ⟨g, off, hA, hg, hcell⟩ := th.row.at_ (strs_ne (l := [a, b, d]) (k := 0) (by simp))
  subst hA
  have k0 := hcell 0 _ rfl
  have k1 := hcell 1 _ rfl
  have k2 := hcell 2 _ rfl
  rw [Nat.add_zero] at k0
  clear hcell th
  have s1 := hx.size
  try simp only [World.size_alloc] at s1
  have s0 := b0.lt
  have HC3 := Lib.hid (fun w (ht : Tab w) (he : Ers w) => implParseRegion_agg (txt b) hst1 w ht he)
  have HC4 := Lib.hid (fun w (ht : Tab w) (he : Ers w) => implParseRegion_agg (txt d) hst2 w ht he)
  rw [txt_list] at HC3 HC4
  obtain ⟨r3, hr3⟩ : ∃ r, (regionR b).1 = r := ⟨_, rfl⟩
  obtain ⟨q3, hq3⟩ : ∃ q, (regionR b).2 = q := ⟨_, rfl⟩
  obtain ⟨r4, hr4⟩ : ∃ r, (regionR d).1 = r := ⟨_, rfl⟩
  obtain ⟨q4, hq4⟩ : ∃ q, (regionR d).2 = q := ⟨_, rfl⟩
  have hl3 : r3.length ≤ 40 := by rw [← hr3]; exact regionR_len b
  have hl4 : r4.length ≤ 40 := by rw [← hr4]; exact regionR_len d
  have HI3 : Hid (HalvesI r3) := by unfold Hid; rw [← hr3]; exact regionR_I b
  have HI4 : Hid (HalvesI r4) := by unfold Hid; rw [← hr4]; exact regionR_I d
  rw [hr3, hq3] at HC3
  rw [hr4, hq4] at HC4
  have Hr3 := Lib.hid hr3
  have Hr4 := Lib.hid hr4
  have Hq3 := Lib.hid hq3
  have Hq4 := Lib.hid hq4
  clear hr3 hr4 hq3 hq4
  have HT := HT0.out.ext hx
  have HE := HE0.out.ext hx
  go_wp2_with fail
  refine (implparseInts_m (txt a) hst0 _ HT HE).mono ?_
  rintro e w2 ⟨A0, C0, N0, rfl, hN0, o0, hx2⟩
  rw [txt_list] at hN0 o0
  rw [txt_list]
  clear HT HE
  have HN0 := Lib.hid hN0
  clear hN0
  replace hx := hx.trans hx2
  replace b0 := b0.ext hx2
  replace k0 := hx2.cellOf k0
  replace k1 := hx2.cellOf k1
  replace k2 := hx2.cellOf k2
  have s2 := hx2.size
  have HT := HT0.out.ext hx
  have HE := HE0.out.ext hx
  go_wp2_with fail
  refine (HC3.out _ HT HE).mono ?_
  rintro e w3 ⟨u3, rfl, at3, hx3⟩
  obtain ⟨A3, C3, _, m3, rfl, o3, l3, rfl, le3⟩ := at3
  replace hx := hx.trans hx3
  replace b0 := b0.ext hx3
  replace k0 := hx3.cellOf k0
  replace k1 := hx3.cellOf k1
  replace k2 := hx3.cellOf k2
  replace o0 := o0.ext hx3
  have s3 := hx3.size
  try simp only [World.size_alloc] at s3 o3 l3 le3
  have ha3 := (Ext.refl w3).alloc (.cells #[.slice A3 r3.length C3] 26)
  have b3 := Blk.new w3 26 #[.slice A3 r3.length C3]
  replace hx := hx.trans ha3
  replace b0 := b0.ext ha3
  replace k0 := ha3.cellOf k0
  replace k1 := ha3.cellOf k1
  replace k2 := ha3.cellOf k2
  replace o0 := o0.ext ha3
  replace o3 := o3.ext ha3
  clear HT HE
  have HT := HT0.out.ext hx
  have HE := HE0.out.ext hx
  go_wp2_with fail
  refine (HC4.out _ HT HE).mono ?_
  rintro e w4 ⟨u4, rfl, at4, hx4⟩
  obtain ⟨A4, C4, _, m4, rfl, o4, l4, rfl, le4⟩ := at4
  replace hx := hx.trans hx4
  replace b0 := b0.ext hx4
  replace k0 := hx4.cellOf k0
  replace k1 := hx4.cellOf k1
  replace k2 := hx4.cellOf k2
  replace o0 := o0.ext hx4
  have s4 := hx4.size
  try simp only [World.size_alloc] at s4 o4 l4 le4
  have ha4 := (Ext.refl w4).alloc (.cells #[.slice A4 r4.length C4] 26)
  have b4 := Blk.new w4 26 #[.slice A4 r4.length C4]
  replace hx := hx.trans ha4
  replace b0 := b0.ext ha4
  replace k0 := ha4.cellOf k0
  replace k1 := ha4.cellOf k1
  replace k2 := ha4.cellOf k2
  replace o0 := o0.ext ha4
  replace o4 := o4.ext ha4
  replace b3 := (b3.ext hx4).ext ha4
  replace o3 := (o3.ext hx4).ext ha4
  clear HT HE
  have c0 := fun o => b0.cell o
  have f0 := fun o => b0.frozen o
  by_cases hok : numsOk (splitC 32 a) = true
  rotate_left
  · have hok' : numsOk (splitC 32 a) = false := by simpa using hok
    have hlen9 : (numsL a).length ≠ 9 := by unfold numsL; rw [hok']; simp
    have H := Lib.hid (HNo.out (fun e => hlen9 e.1))
    rw [hok']
    clear hok hok' hlen9
    go_wp2
    refine bodyPost_ret (v := .tuple #[.agg #[.slice none 0 0, .int .i64 0, .int .i64 0, .int .i64 0, .int .i64 0, .int .i64 0, .slice none 0 0, .slice none 0 0], .bool false]) (by simp [results, Tryz.results42, go_sem, c0]) rfl ?_
    exact RoomMade.no H.out rfl (by repeat (first | (with_reducible exact hx) | refine Ext.setCell ?_ (by first | omega | (simp <;> omega)) _))
  rw [hok]
  clear hok
  cases q3
  · have H := Lib.hid (HNo.out (fun e => by have := e.2.1; rw [Hq3.out] at this; cases this))
    go_wp2
    refine bodyPost_ret (v := .tuple #[.agg #[.slice none 0 0, .int .i64 0, .int .i64 0, .int .i64 0, .int .i64 0, .int .i64 0, .slice none 0 0, .slice none 0 0], .bool false]) (by simp [results, Tryz.results42, go_sem, c0]) rfl ?_
    exact RoomMade.no H.out rfl (by repeat (first | (with_reducible exact hx) | refine Ext.setCell ?_ (by first | omega | (simp <;> omega)) _))
  cases q4
  · have H := Lib.hid (HNo.out (fun e => by have := e.2.2.1; rw [Hq4.out] at this; cases this))
    go_wp2
    refine bodyPost_ret (v := .tuple #[.agg #[.slice none 0 0, .int .i64 0, .int .i64 0, .int .i64 0, .int .i64 0, .int .i64 0, .slice none 0 0, .slice none 0 0], .bool false]) (by simp [results, Tryz.results42, go_sem, c0]) rfl ?_
    exact RoomMade.no H.out rfl (by repeat (first | (with_reducible exact hx) | refine Ext.setCell ?_ (by first | omega | (simp <;> omega)) _))
  by_cases h9 : N0 = 9
  rotate_left
  · have H := Lib.hid (HNo.out (fun e => by have := e.1; rw [← HN0.out] at this; exact h9 this))
    have h9a : ((N0 : Int) != 9) = true := by simp; omega
    have h9b : ¬ (N0 : Int) = 9 := by omega
    clear h9
    go_wp2
    refine bodyPost_ret (v := .tuple #[.agg #[.slice none 0 0, .int .i64 0, .int .i64 0, .int .i64 0, .int .i64 0, .int .i64 0, .slice none 0 0, .slice none 0 0], .bool false]) (by simp [results, Tryz.results42, go_sem, c0]) rfl ?_
    exact RoomMade.no H.out rfl (by repeat (first | (with_reducible exact hx) | refine Ext.setCell ?_ (by first | omega | (simp <;> omega)) _))
  subst h9
  obtain ⟨n0, n1, n2, n3, n4, n5, n6, n7, n8, hN⟩ := nine_of HN0.out.symm
  have hcap := o0.cap
  have hcapm := o0.capm
  rw [hN] at o0
  have hI0 : ∀ z ∈ [n0, n1, n2, n3, n4, n5, n6, n7, n8], I64 z := by rw [← hN]; exact numsL_bd a
  have hRP : roomP a b d = ⟨[n0, n1, n2, n3], n4, n5, n6, n7, n8, r3, r4⟩ := by unfold roomP; rw [hN, Hr3.out, Hr4.out]; rfl
  have hRI : roomFI ⟨[n0, n1, n2, n3], n4, n5, n6, n7, n8, r3, r4⟩ := ⟨fun z hz => hI0 z (by simp at hz ⊢; omega), hI0 _ (by simp), hI0 _ (by simp), hI0 _ (by simp), hI0 _ (by simp), hI0 _ (by simp), HI3.out, HI4.out⟩
  have hRL : RoomL ⟨[n0, n1, n2, n3], n4, n5, n6, n7, n8, r3, r4⟩ := ⟨by simp [maxLen], by simp only [maxLen]; omega, by simp only [maxLen]; omega⟩
  have HG : Hid (∀ h : roomT ⟨[n0, n1, n2, n3], n4, n5, n6, n7, n8, r3, r4⟩ = L, roomR L = (⟨[n0, n1, n2, n3], n4, n5, n6, n7, n8, r3, r4⟩, true)) := fun h => by rw [← hRP]; exact HYes.out ⟨by rw [hN]; rfl, Hq3.out, Hq4.out, by rw [hRP]; exact h⟩
  have HB : Hid (∀ h : ¬ roomT ⟨[n0, n1, n2, n3], n4, n5, n6, n7, n8, r3, r4⟩ = L, roomR L = (zeroRoom, false)) := fun h => HNo.out (fun e => h (by rw [← hRP]; exact e.2.2.2))
  have HN := Lib.hid hN
  have HRI := Lib.hid hRI
  have HRL := Lib.hid hRL
  clear hN HN0 hI0 hRP hRI hRL
  obtain ⟨g0, off0, hA0, hg0, hcell⟩ := o0.row.at_ (by simp [ints])
  subst hA0
  have j0 := hcell 0 _ rfl
  have j1 := hcell 1 _ rfl
  have j2 := hcell 2 _ rfl
  have j3 := hcell 3 _ rfl
  have j4 := hcell 4 _ rfl
  have j5 := hcell 5 _ rfl
  have j6 := hcell 6 _ rfl
  have j7 := hcell 7 _ rfl
  have j8 := hcell 8 _ rfl
  clear hcell
  have H4C : (4 : Nat) ≤ C0 := by omega
  have H4Ci : (4 : Int) ≤ (C0 : Int) := by omega
  clear c0 f0 k0 k1 k2
  go_wp2_with fail
  obtain ⟨W, hW⟩ : ∃ W, w4.alloc (.cells #[.slice A4 r4.length C4] 26) = W := ⟨_, rfl⟩
  rw [hW] at hx b0 o0 o3 o4 b3 b4 hg0 j0 j1 j2 j3 j4 j5 j6 j7 j8 ⊢
  have hWs : w4.heap.size + 1 = W.heap.size := by rw [← hW]; simp
  have hcr := b3.cell 0
  have hcs := b4.cell 0
  have hl3W := b3.lt
  have hl4W := b4.lt
  have HWs := Lib.hid hWs
  clear hW hWs
  go_region_held3 (fun w' => w'.cell? ⟨w3.heap.size, 0, none⟩ = some (.slice A3 r3.length C3) ∧ w'.cell? ⟨w4.heap.size, 0, none⟩ = some (.slice A4 r4.length C4) ∧ w'.cell? ⟨g0, off0 + 4, none⟩ = some (.int .i64 n4) ∧ w'.cell? ⟨g0, off0 + 5, none⟩ = some (.int .i64 n5) ∧ w'.cell? ⟨g0, off0 + 6, none⟩ = some (.int .i64 n6) ∧ w'.cell? ⟨g0, off0 + 7, none⟩ = some (.int .i64 n7) ∧ w'.cell? ⟨g0, off0 + 8, none⟩ = some (.int .i64 n8))
    (go_keep)
    (fail)
  have hV := ((Ext.refl W).alloc (.cells #[.slice (some ⟨g0, off0, none⟩) 4 4, .int .i64 n4, .int .i64 n5, .int .i64 n6, .int .i64 n7, .int .i64 n8, .slice A3 r3.length C3, .slice A4 r4.length C4] 28)).drew
  have bR : Blk ((W.alloc (.cells #[.slice (some ⟨g0, off0, none⟩) 4 4, .int .i64 n4, .int .i64 n5, .int .i64 n6, .int .i64 n7, .int .i64 n8, .slice A3 r3.length C3, .slice A4 r4.length C4] 28)).drew) W.heap.size 28 #[.slice (some ⟨g0, off0, none⟩) 4 4, .int .i64 n4, .int .i64 n5, .int .i64 n6, .int .i64 n7, .int .i64 n8, .slice A3 r3.length C3, .slice A4 r4.length C4] := (Blk.new W 28 #[.slice (some ⟨g0, off0, none⟩) 4 4, .int .i64 n4, .int .i64 n5, .int .i64 n6, .int .i64 n7, .int .i64 n8, .slice A3 r3.length C3, .slice A4 r4.length C4]).ext ((Ext.refl _).drew)
  replace hx := hx.trans hV
  replace b0 := b0.ext hV
  replace o0 := o0.ext hV
  replace o3 := o3.ext hV
  replace o4 := o4.ext hV
  have hr0 : Row ((W.alloc (.cells #[.slice (some ⟨g0, off0, none⟩) 4 4, .int .i64 n4, .int .i64 n5, .int .i64 n6, .int .i64 n7, .int .i64 n8, .slice A3 r3.length C3, .slice A4 r4.length C4] 28)).drew) (some ⟨g0, off0, none⟩) (ints [n0, n1, n2, n3]) := by
    refine .inr ⟨g0, off0, rfl, fun j v hj => ?_⟩
    match j, hj with
    | 0, hj => simp [ints] at hj; subst hj; exact hV.cellOf j0
    | 1, hj => simp [ints] at hj; subst hj; exact hV.cellOf j1
    | 2, hj => simp [ints] at hj; subst hj; exact hV.cellOf j2
    | 3, hj => simp [ints] at hj; subst hj; exact hV.cellOf j3
  have HRA : Hid (RoomAt ((W.alloc (.cells #[.slice (some ⟨g0, off0, none⟩) 4 4, .int .i64 n4, .int .i64 n5, .int .i64 n6, .int .i64 n7, .int .i64 n8, .slice A3 r3.length C3, .slice A4 r4.length C4] 28)).drew) ⟨[n0, n1, n2, n3], n4, n5, n6, n7, n8, r3, r4⟩ (some ⟨g0, off0, none⟩) A3 A4) := ⟨hr0, o3.row, o4.row⟩
  clear hr0 j0 j1 j2 j3 j4 j5 j6 j7 j8 hcr hcs
  have HT := HT0.out.ext hx
  have HF := Lib.hid (implFormatRoom_any ⟨[n0, n1, n2, n3], n4, n5, n6, n7, n8, r3, r4⟩ (some ⟨g0, off0, none⟩) A3 A4 4 C3 C4 _ HRA.out HRI.out HRL.out HT)
  clear HT
  have cR := fun o => bR.cell o
  go_wp2_with fail
  refine (HF.out).mono ?_
  rintro e w5 ⟨rfl, hx5⟩
  replace hx := hx.trans hx5
  replace b0 := b0.ext hx5
  replace bR := bR.ext hx5
  replace o0 := o0.ext hx5
  replace o3 := o3.ext hx5
  replace o4 := o4.ext hx5
  clear cR
  have c0 := fun o => b0.cell o
  have f0 := fun o => b0.frozen o
  have cR := fun o => bR.cell o
  have s9 := hx5.size
  simp only [World.size_drew, World.size_alloc] at s9
  by_cases hc : roomT ⟨[n0, n1, n2, n3], n4, n5, n6, n7, n8, r3, r4⟩ = L
  rotate_left
  · have H := Lib.hid (HB.out hc)
    have hcm : ((txt (roomT ⟨[n0, n1, n2, n3], n4, n5, n6, n7, n8, r3, r4⟩)).toList == s.toList) = false := by rw [txt_same, HL.out, decide_eq_false_iff_not]; exact hc
    clear hc
    go_wp2
    refine bodyPost_ret (v := .tuple #[.agg #[.slice none 0 0, .int .i64 0, .int .i64 0, .int .i64 0, .int .i64 0, .int .i64 0, .slice none 0 0, .slice none 0 0], .bool false]) (by simp [results, Tryz.results42, go_sem, c0]) rfl ?_
    exact RoomMade.no H.out rfl (by repeat (first | (with_reducible exact hx) | refine Ext.setCell ?_ (by first | omega | (simp <;> omega)) _))
  have H := Lib.hid (HG.out hc)
  have hcm : ((txt (roomT ⟨[n0, n1, n2, n3], n4, n5, n6, n7, n8, r3, r4⟩)).toList == s.toList) = true := by rw [txt_same, HL.out, decide_eq_true_eq]; exact hc
  clear hc
  go_wp2
  have bF := ((((((((b0).set_ 0 (.slice (some ⟨g0, off0, none⟩) 4 4)).set_ 1 (.int .i64 n4)).set_ 2 (.int .i64 n5)).set_ 3 (.int .i64 n6)).set_ 4 (.int .i64 n7)).set_ 5 (.int .i64 n8)).set_ 6 (.slice A3 r3.length C3)).set_ 7 (.slice A4 r4.length C4)
  have cF := fun o => bF.cell o
  refine bodyPost_ret (v := .tuple #[.agg #[.slice (some ⟨g0, off0, none⟩) 4 4, .int .i64 n4, .int .i64 n5, .int .i64 n6, .int .i64 n7, .int .i64 n8, .slice A3 r3.length C3, .slice A4 r4.length C4], .bool true]) (by simp [results, Tryz.results42, go_sem, cF]) rfl ?_
  rw [H.out]
  have q0 := o0 |>.setB (p := ⟨w.heap.size, 0, none⟩) (.inl (by first | omega | (simp <;> omega))) (.slice (some ⟨g0, off0, none⟩) 4 4) |>.setB (p := ⟨w.heap.size, 1, none⟩) (.inl (by first | omega | (simp <;> omega))) (.int .i64 n4) |>.setB (p := ⟨w.heap.size, 2, none⟩) (.inl (by first | omega | (simp <;> omega))) (.int .i64 n5) |>.setB (p := ⟨w.heap.size, 3, none⟩) (.inl (by first | omega | (simp <;> omega))) (.int .i64 n6) |>.setB (p := ⟨w.heap.size, 4, none⟩) (.inl (by first | omega | (simp <;> omega))) (.int .i64 n7) |>.setB (p := ⟨w.heap.size, 5, none⟩) (.inl (by first | omega | (simp <;> omega))) (.int .i64 n8) |>.setB (p := ⟨w.heap.size, 6, none⟩) (.inl (by first | omega | (simp <;> omega))) (.slice A3 r3.length C3) |>.setB (p := ⟨w.heap.size, 7, none⟩) (.inl (by first | omega | (simp <;> omega))) (.slice A4 r4.length C4)
  have q3 := o3 |>.setB (p := ⟨w.heap.size, 0, none⟩) (.inl (by first | omega | (simp <;> omega))) (.slice (some ⟨g0, off0, none⟩) 4 4) |>.setB (p := ⟨w.heap.size, 1, none⟩) (.inl (by first | omega | (simp <;> omega))) (.int .i64 n4) |>.setB (p := ⟨w.heap.size, 2, none⟩) (.inl (by first | omega | (simp <;> omega))) (.int .i64 n5) |>.setB (p := ⟨w.heap.size, 3, none⟩) (.inl (by first | omega | (simp <;> omega))) (.int .i64 n6) |>.setB (p := ⟨w.heap.size, 4, none⟩) (.inl (by first | omega | (simp <;> omega))) (.int .i64 n7) |>.setB (p := ⟨w.heap.size, 5, none⟩) (.inl (by first | omega | (simp <;> omega))) (.int .i64 n8) |>.setB (p := ⟨w.heap.size, 6, none⟩) (.inl (by first | omega | (simp <;> omega))) (.slice A3 r3.length C3) |>.setB (p := ⟨w.heap.size, 7, none⟩) (.inl (by first | omega | (simp <;> omega))) (.slice A4 r4.length C4)
  have q4 := o4 |>.setB (p := ⟨w.heap.size, 0, none⟩) (.inl (by first | omega | (simp <;> omega))) (.slice (some ⟨g0, off0, none⟩) 4 4) |>.setB (p := ⟨w.heap.size, 1, none⟩) (.inl (by first | omega | (simp <;> omega))) (.int .i64 n4) |>.setB (p := ⟨w.heap.size, 2, none⟩) (.inl (by first | omega | (simp <;> omega))) (.int .i64 n5) |>.setB (p := ⟨w.heap.size, 3, none⟩) (.inl (by first | omega | (simp <;> omega))) (.int .i64 n6) |>.setB (p := ⟨w.heap.size, 4, none⟩) (.inl (by first | omega | (simp <;> omega))) (.int .i64 n7) |>.setB (p := ⟨w.heap.size, 5, none⟩) (.inl (by first | omega | (simp <;> omega))) (.int .i64 n8) |>.setB (p := ⟨w.heap.size, 6, none⟩) (.inl (by first | omega | (simp <;> omega))) (.slice A3 r3.length C3) |>.setB (p := ⟨w.heap.size, 7, none⟩) (.inl (by first | omega | (simp <;> omega))) (.slice A4 r4.length C4)
  refine ⟨_, rfl, ⟨some ⟨g0, off0, none⟩, 4, w2.heap.size, A3, C3, m3, A4, C4, rfl, ⟨Nat.le_refl _, by unfold maxLen; omega, 9, C0, _, q0.wide (by omega) (Nat.le_refl _), by simp, rfl⟩, by omega, q3, by omega, q4.wide (by omega) (by simp; omega), by simp; omega⟩, hx |>.setCell (by first | omega | (simp <;> omega)) _ |>.setCell (by first | omega | (simp <;> omega)) _ |>.setCell (by first | omega | (simp <;> omega)) _ |>.setCell (by first | omega | (simp <;> omega)) _ |>.setCell (by first | omega | (simp <;> omega)) _ |>.setCell (by first | omega | (simp <;> omega)) _ |>.setCell (by first | omega | (simp <;> omega)) _ |>.setCell (by first | omega | (simp <;> omega)) _⟩
theorem roomR_bd (L : List UInt8) : (roomR L).1.Map.length ≤ 4 ∧ (roomR L).1.Noise.length ≤ 40 ∧ (roomR L).1.Limits.length ≤ 40 := by
  unfold roomR roomQ
  split
  · rename_i a b c _
    split
    · refine ⟨?_, regionR_len b, regionR_len c⟩
      unfold roomP
      simp only [List.length_take]
      omega
    · simp [zeroRoom]
  · simp [zeroRoom]
theorem room_cnt (L : List UInt8) : cntF (roomF (roomR L).1) ≤ 100000000 := by
  have := roomR_bd L
  simp only [roomF, cntF, halfF, intF]
  omega
end Go.Proofs.YtlfepobnmmkcmaaGreatDoor
