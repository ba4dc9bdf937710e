/- Contracts of TrackLines of the program and of the reference. (written by tools/mkTl.py) -/
import Derived.Test.YtjghabbcjpfjeaaGreatDoorMTrack
import Derived.Test.YtjghabbcjpfjeaaGreatDoorTz
import Derived.Deep.RegionHeld3
import Derived.Deep.AppendLies
namespace Go.Proofs.YtjghabbcjpfjeaaGreatDoor
open Go.ChangeShapes Go.WideShapes Go.ChangeAt Go.RowKit
set_option linter.unusedVariables false
set_option maxRecDepth 100000

def spotNo (l : List Spot) (i : Nat) : Spot := l.getD i ⟨0, 0, 0⟩
def ratioAt (l : List Ratio) (i : Nat) : Ratio := l.getD i ⟨0, 0⟩
theorem spotNo_at {l : List Spot} {i : Nat} (h : i < l.length) : spotNo l i = l[i] := by simp [spotNo, h]
theorem ratioAt_at {l : List Ratio} {i : Nat} (h : i < l.length) : ratioAt l i = l[i] := by simp [ratioAt, h]
def trackGood (t : Track) (i : Nat) : Bool := ratioOk (ratioAt t.Inputs i) && spotOk (spotNo t.Spots (i + 1))
def trackLn (t : Track) (i : Nat) : List UInt8 := spotT (spotNo t.Spots i) ++ [32] ++ ratioT (ratioAt t.Inputs i) ++ [32] ++ spotT (spotNo t.Spots (i + 1))
def tlinesTo (t : Track) (k : Nat) : List (List UInt8) := (List.range k).map (trackLn t)
def trackT (t : Track) : List (List UInt8) := if t.Spots.length = t.Inputs.length + 1 ∧ spotOk (spotNo t.Spots 0) = true ∧ allN (trackGood t) t.Inputs.length = true then tlinesTo t t.Inputs.length else []
theorem tlinesTo_succ (t : Track) (k : Nat) : tlinesTo t (k + 1) = tlinesTo t k ++ [trackLn t k] := by
  unfold tlinesTo
  rw [List.range_succ, List.map_append]
  rfl
theorem tlinesTo_len (t : Track) (k : Nat) : (tlinesTo t k).length = k := by simp [tlinesTo]
theorem trackT_le (t : Track) (h : t.Inputs.length ≤ 1048576) : (trackT t).length ≤ 1048576 := by
  unfold trackT
  split
  · rw [tlinesTo_len]; exact h
  · simp
theorem trackT_bad {t : Track} (h : ¬ (t.Spots.length = t.Inputs.length + 1 ∧ spotOk (spotNo t.Spots 0) = true ∧ allN (trackGood t) t.Inputs.length = true)) : trackT t = [] := if_neg h
theorem own_off {w : World} {base : Nat} {T : TypeId} {s n : Nat} {v : Value} {vs : List Value} (h : w.ownsRow base T s v n vs) {g : Nat} (hg : g < base) : Value.ownBlock v ≠ some g := fun e => by have := (h.lt _ e).1; omega
theorem own_off_hi {w : World} {base : Nat} {T : TypeId} {s n : Nat} {v : Value} {vs : List Value} (h : w.ownsRow base T s v n vs) : Value.ownBlock v ≠ some w.heap.size := fun e => by have := (h.lt _ e).2; omega
theorem allN_no {f : Nat → Bool} {n k : Nat} (hk : k < n) (h : f k = false) : allN f n = false := by
  rcases Bool.eq_false_or_eq_true (allN f n) with h2 | h2
  · rw [allN_at h2 hk] at h; cases h
  · exact h2

set_option maxHeartbeats 8000000 in
theorem implTrackLines_any (t : Track) (vs : List Value) (w : World) (h : AggRow w (trackF t) vs) (hI : trackFI t) (hl0 : t.Spots.length ≤ 1048576) (hl1 : t.Inputs.length ≤ 1048576) (ht : Tab w) :
    Calls Tryz.prog 30 #[.agg vs.toArray] w fun e w' => StrsMade (trackT t) w e w' := by
  have HT0 := Lib.hid ht
  clear ht
  obtain ⟨i0, hi0, hz0, hz1, hz2⟩ := info_parts str_info
  obtain ⟨S, U⟩ := t
  change AggRow w [spotF S, ratioF U] vs at h
  change S.length ≤ 1048576 at hl0
  change U.length ≤ 1048576 at hl1
  obtain ⟨hIS, hIU⟩ := hI
  change ∀ x ∈ S, ∀ z ∈ Spot.ints x, I64 z at hIS
  change ∀ x ∈ U, ∀ z ∈ Ratio.ints x, I64 z at hIU
  have HIS : Hid (∀ i, (hi : i < S.length) → I64 S[i].X ∧ I64 S[i].Y ∧ I64 S[i].D) := fun i hi => ⟨hIS _ (List.getElem_mem hi) _ (by simp [Spot.ints]), hIS _ (List.getElem_mem hi) _ (by simp [Spot.ints]), hIS _ (List.getElem_mem hi) _ (by simp [Spot.ints])⟩
  have HIU : Hid (∀ i, (hi : i < U.length) → I64 U[i].N ∧ I64 U[i].D) := fun i hi => ⟨hIU _ (List.getElem_mem hi) _ (by simp [Ratio.ints]), hIU _ (List.getElem_mem hi) _ (by simp [Ratio.ints])⟩
  clear hIS hIU
  have HB : Hid (∀ h : ¬ (S.length = U.length + 1 ∧ spotOk (spotNo S 0) = true ∧ allN (trackGood ⟨S, U⟩) U.length = true), trackT ⟨S, U⟩ = []) := fun h => trackT_bad h
  have HG : Hid (∀ h : (S.length = U.length + 1 ∧ spotOk (spotNo S 0) = true ∧ allN (trackGood ⟨S, U⟩) U.length = true), trackT ⟨S, U⟩ = tlinesTo ⟨S, U⟩ U.length) := fun h => if_pos h
  obtain ⟨A0, c0, _, rfl, r0, n0, m0, A1, c1, _, rfl, r1, n1, m1, rfl⟩ := h
  have hy : Ext w (w.alloc (.cells #[.slice A0 S.length c0, .slice A1 U.length c1] 68)) := (Ext.refl w).alloc _
  have bR := Blk.new w 68 #[.slice A0 S.length c0, .slice A1 U.length c1]
  obtain ⟨n, hn⟩ : ∃ n, S.length = n := ⟨_, rfl⟩
  obtain ⟨m, hm⟩ : ∃ m, U.length = m := ⟨_, rfl⟩
  have HN := Lib.hid hn
  have HM := Lib.hid hm
  rw [hn] at hl0 n0 bR hy HB HG ⊢
  rw [hm] at hl1 n1 bR hy HB HG ⊢
  clear hn hm
  by_cases hnm : n = m + 1
  rotate_left
  · have H := Lib.hid (HB.out fun h => hnm h.1)
    have cR := fun o => bR.cell o
    have hb1 : ((n : Int) != (m : Int) + 1) = true := by simp; omega
    go_enter Tryz.func30, Tryz.ntmps30
    go_wp2
    go_ret
    exact StrsMade.none H.out rfl hy
  have hb1 : ((n : Int) != (m : Int) + 1) = false := by simp; omega
  have h0n : 0 < n := by omega
  have h0S : 0 < S.length := by rw [HN.out]; exact h0n
  have Hnm : Hid (n = m + 1) := hnm
  clear hnm
  obtain ⟨b, off, rfl, hbl, hc0, hc1, hc2⟩ := r0.Spot (k := 0) h0S
  rw [Nat.zero_mul, Nat.add_zero] at hc0 hc1 hc2
  have hn0 : (0 : Int) < (n : Int) := by omega
  have hn0' : 0 < n := by omega
  have hcc0 := hy.cellOf hc0
  have hcc1 := hy.cellOf hc1
  have hcc2 := hy.cellOf hc2
  have cR := fun o => bR.cell o
  obtain ⟨i1, i2, i3⟩ := HIS.out 0 h0S
  have HS0 : Hid (spotNo S 0 = ⟨(S[0]'h0S).X, (S[0]'h0S).Y, (S[0]'h0S).D⟩) := spotNo_at _
  go_enter Tryz.func30, Tryz.ntmps30
  go_wp2_with fail
  refine (implSpotOk_any _ _ _ _ i1 i2 i3).mono ?_
  rintro e w1 ⟨rfl, hx1⟩
  replace hy := hy.trans hx1
  replace bR := bR.ext hx1
  have cbR_1 := fun o => bR.cell o
  rw [← HS0.out]
  clear hcc0 hcc1 hcc2 hc0 hc1 hc2 i1 i2 i3
  by_cases hs0 : spotOk (spotNo S 0) = true
  rotate_left
  · have H := Lib.hid (HB.out fun h => hs0 h.2.1)
    rw [show spotOk (spotNo S 0) = false from by simpa using hs0]
    clear hs0
    go_wp2
    go_ret
    exact StrsMade.none H.out rfl hy
  have Hs0 := Lib.hid hs0
  rw [hs0]
  clear hs0
  have hs1 := hy.size
  have hlt0 := bR.lt
  have hr0 := r0.ext hy
  have hr1 := r1.ext hy
  go_wp2
  go_loopw [3, 25] (fun v i wr => ∃ (k : Nat), k ≤ m ∧ i = .int .i64 k ∧ Ext w1 wr ∧ wr.ownsRow w1.heap.size 9 1 v k (strs (tlinesTo ⟨S, U⟩ k)) ∧ allN (trackGood ⟨S, U⟩) k = true) (fun _ i _ => m - (intOf i).toNat)
  case atStart => exact ⟨0, Nat.zero_le _, rfl, Ext.refl _, World.ownsRow_nil _ _ _ _, rfl⟩
  case round =>
  obtain ⟨k, hk, rfl, hx, hown, hall⟩ := hrel
  have Hall := Lib.hid hall
  clear hall
  have hsz := hx.size
  have bR2 := bR.ext hx
  by_cases hlt : k < m
  rotate_left
  · obtain rfl : k = m := by omega
    have H := Lib.hid (HG.out ⟨Hnm.out, Hs0.out, Hall.out⟩)
    obtain ⟨A', c', rfl⟩ := own_form hown
    have HL2 : Hid ((trackT ⟨S, U⟩).length = k) := by rw [Hid, H.out, tlinesTo_len]
    go_wp2
    go_ret
    exact StrsMade.mk (A := A') (c := c') HL2.out.symm rfl (hy.trans hx) (by rw [H.out]; exact own_base hown hs1)
  have hlt2 : (k : Int) < (m : Int) := by omega
  obtain ⟨ub, uoff, rfl, hub, hu0, hu1⟩ := (hr1.ext hx).Ratio (k := k) (by rw [HM.out]; exact hlt)
  obtain ⟨b', off', hA1, hbl1, hd0, hd1, hd2⟩ := (hr0.ext hx).Spot (k := k) (by rw [HN.out]; have := Hnm.out; omega)
  obtain ⟨b'', off'', hA2, hbl2, he0, he1, he2⟩ := (hr0.ext hx).Spot (k := k + 1) (by rw [HN.out]; have := Hnm.out; omega)
  injection hA1 with hA1
  injection hA1 with q1 q2
  subst q1 q2
  injection hA2 with hA2
  injection hA2 with q1 q2
  subst q1 q2
  have hk1 : (k : Int) + 1 < (n : Int) := by have := Hnm.out; omega
  have hk10 : (0 : Int) ≤ (k : Int) + 1 := by omega
  have hwk : IntKind.i64.wrap ((k : Int) + 1) = (k : Int) + 1 := IntWalk.i64_in _ (by omega)
  have hkn : (k : Int) < (n : Int) := by have := Hnm.out; omega
  obtain ⟨iu1, iu2⟩ := HIU.out k (by rw [HM.out]; exact hlt)
  obtain ⟨is1, is2, is3⟩ := HIS.out k (by rw [HN.out]; have := Hnm.out; omega)
  obtain ⟨it1, it2, it3⟩ := HIS.out (k + 1) (by rw [HN.out]; have := Hnm.out; omega)
  have HU : Hid (ratioAt U k = ⟨(U[k]'(by rw [HM.out]; exact hlt)).N, (U[k]'(by rw [HM.out]; exact hlt)).D⟩) := ratioAt_at _
  have HSk : Hid (spotNo S k = ⟨(S[k]'(by rw [HN.out]; have := Hnm.out; omega)).X, (S[k]'(by rw [HN.out]; have := Hnm.out; omega)).Y, (S[k]'(by rw [HN.out]; have := Hnm.out; omega)).D⟩) := spotNo_at _
  have HSl : Hid (spotNo S (k + 1) = ⟨(S[k + 1]'(by rw [HN.out]; have := Hnm.out; omega)).X, (S[k + 1]'(by rw [HN.out]; have := Hnm.out; omega)).Y, (S[k + 1]'(by rw [HN.out]; have := Hnm.out; omega)).D⟩) := spotNo_at _
  have Hgd : Hid (trackGood ⟨S, U⟩ k = (ratioOk (ratioAt U k) && spotOk (spotNo S (k + 1)))) := rfl
  have Hln : Hid (trackLn ⟨S, U⟩ k = spotT (spotNo S k) ++ [32] ++ ratioT (ratioAt U k) ++ [32] ++ spotT (spotNo S (k + 1))) := rfl
  rw [HU.out, HSl.out] at Hgd
  rw [HU.out, HSk.out, HSl.out] at Hln
  obtain ⟨uN, huN⟩ : ∃ x, (U[k]'(by rw [HM.out]; exact hlt)).N = x := ⟨_, rfl⟩
  obtain ⟨uD, huD⟩ : ∃ x, (U[k]'(by rw [HM.out]; exact hlt)).D = x := ⟨_, rfl⟩
  obtain ⟨x1, hx1e⟩ : ∃ x, (S[k]'(by rw [HN.out]; have := Hnm.out; omega)).X = x := ⟨_, rfl⟩
  obtain ⟨y1, hy1e⟩ : ∃ x, (S[k]'(by rw [HN.out]; have := Hnm.out; omega)).Y = x := ⟨_, rfl⟩
  obtain ⟨d1, hd1e⟩ : ∃ x, (S[k]'(by rw [HN.out]; have := Hnm.out; omega)).D = x := ⟨_, rfl⟩
  obtain ⟨x2, hx2e⟩ : ∃ x, (S[k + 1]'(by rw [HN.out]; have := Hnm.out; omega)).X = x := ⟨_, rfl⟩
  obtain ⟨y2, hy2e⟩ : ∃ x, (S[k + 1]'(by rw [HN.out]; have := Hnm.out; omega)).Y = x := ⟨_, rfl⟩
  obtain ⟨d2, hd2e⟩ : ∃ x, (S[k + 1]'(by rw [HN.out]; have := Hnm.out; omega)).D = x := ⟨_, rfl⟩
  rw [huN] at hu0 iu1 Hgd Hln
  rw [huD] at hu1 iu2 Hgd Hln
  rw [hx1e] at hd0 is1 Hln
  rw [hy1e] at hd1 is2 Hln
  rw [hd1e] at hd2 is3 Hln
  rw [hx2e] at he0 it1 Hgd Hln
  rw [hy2e] at he1 it2 Hgd Hln
  rw [hd2e] at he2 it3 Hgd Hln
  clear huN huD hx1e hy1e hd1e hx2e hy2e hd2e HU HSk HSl
  have cR2 := fun o => bR2.cell o
  have hlt9 : w1.heap.size ≤ wr.heap.size := hsz
  have hbw : b < w.heap.size := hbl
  go_wp2_with fail
  have bU := Blk.new wr 44 #[.int .i64 uN, .int .i64 uD]
  have hxu := (Ext.refl wr).alloc (.cells #[.int .i64 uN, .int .i64 uD] 44)
  refine (implRatioOk_any _ _ _ iu1 iu2).mono ?_
  rintro e w2 ⟨rfl, hx2⟩
  replace hxu := hxu.trans hx2
  replace bU := bU.ext hx2
  have cU := fun o => bU.cell o
  have cR3 := fun o => (bR2.ext hxu).cell o
  have hsz2 := hxu.size
  have hlu := bU.lt
  by_cases hok1 : ratioOk ⟨uN, uD⟩ = true
  rotate_left
  · have hok1' : ratioOk ⟨uN, uD⟩ = false := by simpa using hok1
    have Hb : Hid (trackGood ⟨S, U⟩ k = false) := by rw [Hid, Hgd.out, hok1']; rfl
    have H := Lib.hid (HB.out fun h => by rw [allN_no hlt Hb.out] at h; exact absurd h.2.2 (by simp))
    rw [hok1']
    clear hok1 hok1'
    go_wp2
    go_ret
    exact StrsMade.none H.out rfl (hy.trans (hx.trans hxu))
  have Hok1 := Lib.hid hok1
  rw [hok1]
  clear hok1
  have he0' := hxu.cellOf he0
  have he1' := hxu.cellOf he1
  have he2' := hxu.cellOf he2
  go_wp2_with fail
  refine (implSpotOk_any _ _ _ _ it1 it2 it3).mono ?_
  rintro e w3 ⟨rfl, hx3⟩
  replace hxu := hxu.trans hx3
  replace bU := bU.ext hx3
  clear he0' he1' he2'
  have cU3 := fun o => bU.cell o
  have cR4 := fun o => (bR2.ext hxu).cell o
  have hsz3 := hxu.size
  by_cases hok2 : spotOk ⟨x2, y2, d2⟩ = true
  rotate_left
  · have hok2' : spotOk ⟨x2, y2, d2⟩ = false := by simpa using hok2
    have Hb : Hid (trackGood ⟨S, U⟩ k = false) := by rw [Hid, Hgd.out, hok2', Bool.and_false]
    have H := Lib.hid (HB.out fun h => by rw [allN_no hlt Hb.out] at h; exact absurd h.2.2 (by simp))
    rw [hok2']
    clear hok2 hok2'
    go_wp2
    go_ret
    exact StrsMade.none H.out rfl (hy.trans (hx.trans hxu))
  have Hgood : Hid (allN (trackGood ⟨S, U⟩) (k + 1) = true) := by
    show (allN (trackGood ⟨S, U⟩) k && trackGood ⟨S, U⟩ k) = true
    rw [Hall.out, Hgd.out, Hok1.out, hok2]
    rfl
  rw [hok2]
  clear hok2
  have s1 : (txt (spotT ⟨x1, y1, d1⟩)).size ≤ 259 := by rw [txt_size]; exact spotT_len _
  have s2 : (txt (ratioT ⟨uN, uD⟩)).size ≤ 129 := by rw [txt_size]; exact ratioT_len _
  have s3 : (txt (spotT ⟨x2, y2, d2⟩)).size ≤ 259 := by rw [txt_size]; exact spotT_len _
  have H : Hid (txt (spotT ⟨x1, y1, d1⟩) ++ txt [32] ++ txt (ratioT ⟨uN, uD⟩) ++ txt [32] ++ txt (spotT ⟨x2, y2, d2⟩) = txt (trackLn ⟨S, U⟩ k)) := by rw [Hid, Hln.out, txt_append, txt_append, txt_append, txt_append]
  have Hk := Lib.hid (tlinesTo_succ ⟨S, U⟩ k)
  obtain ⟨tt, htt⟩ : ∃ t, trackLn ⟨S, U⟩ k = t := ⟨_, rfl⟩
  rw [htt] at H Hk Hln
  obtain ⟨ta, hta⟩ : ∃ t, txt (spotT ⟨x1, y1, d1⟩) = t := ⟨_, rfl⟩
  obtain ⟨tb, htb⟩ : ∃ t, txt (ratioT ⟨uN, uD⟩) = t := ⟨_, rfl⟩
  obtain ⟨tc, htc⟩ : ∃ t, txt (spotT ⟨x2, y2, d2⟩) = t := ⟨_, rfl⟩
  have Ha := Lib.hid hta
  have Hb := Lib.hid htb
  have Hc := Lib.hid htc
  rw [hta] at s1 H
  rw [htb] at s2 H
  rw [htc] at s3 H
  clear hta htb htc htt
  have sp : (⟨#[32]⟩ : ByteArray).size = 1 := rfl
  have sq : (txt [32]).size = 1 := rfl
  obtain ⟨t1, ht1⟩ : ∃ t, ta ++ txt [32] = t := ⟨_, rfl⟩
  have z1 : t1.size ≤ 260 := by rw [← ht1, ByteArray.size_append]; omega
  have a1 := add_txt (a := ta) (b := ⟨#[32]⟩) (c := t1) ht1 (by omega)
  rw [ht1] at H
  obtain ⟨t2, ht2⟩ : ∃ t, t1 ++ tb = t := ⟨_, rfl⟩
  have z2 : t2.size ≤ 389 := by rw [← ht2, ByteArray.size_append]; omega
  have a2 := add_txt (a := t1) (b := tb) (c := t2) ht2 (by omega)
  rw [ht2] at H
  obtain ⟨t3, ht3⟩ : ∃ t, t2 ++ txt [32] = t := ⟨_, rfl⟩
  have z3 : t3.size ≤ 390 := by rw [← ht3, ByteArray.size_append]; omega
  have a3 := add_txt (a := t2) (b := ⟨#[32]⟩) (c := t3) ht3 (by omega)
  rw [ht3] at H
  have a4 := add_txt (a := t3) (b := tc) (c := txt tt) H.out (by omega)
  clear ht1 ht2 ht3 H sp sq Hgd Hln
  have ag := own_off hown (g := w.heap.size) (by omega)
  have ak := own_off hown (g := b) (by omega)
  have au := own_off_hi hown
  have HT := HT0.out.ext (hy.trans (hx.trans hxu))
  have hd0' := hxu.cellOf hd0
  have hd1' := hxu.cellOf hd1
  have hd2' := hxu.cellOf hd2
  have he0' := hxu.cellOf he0
  have he1' := hxu.cellOf he1
  have he2' := hxu.cellOf he2
  have hown3 := own_ext hown hxu
  have hbase : w1.heap.size ≤ w3.heap.size := by omega
  go_wp2_with fail
  have hcur := Ext.refl w3
  go_region_held3 (fun w' => w'.cell? ⟨w.heap.size, 0, none⟩ = some (.slice (some ⟨b, off, none⟩) n c0) ∧ w'.cell? ⟨b, off + k * 3, none⟩ = some (.int .i64 x1) ∧ w'.cell? ⟨b, off + k * 3 + 1, none⟩ = some (.int .i64 y1) ∧ w'.cell? ⟨b, off + k * 3 + 2, none⟩ = some (.int .i64 d1) ∧ w'.cell? ⟨b, off + (k + 1) * 3, none⟩ = some (.int .i64 x2) ∧ w'.cell? ⟨b, off + (k + 1) * 3 + 1, none⟩ = some (.int .i64 y2) ∧ w'.cell? ⟨b, off + (k + 1) * 3 + 2, none⟩ = some (.int .i64 d2) ∧ w'.cell? ⟨wr.heap.size, 0, none⟩ = some (.int .i64 uN) ∧ w'.cell? ⟨wr.heap.size, 1, none⟩ = some (.int .i64 uD))
    (first
      | (go_keep; done)
      | (refine ⟨?_, ?_, ?_, ?_, ?_, ?_, ?_, ?_, ?_⟩ <;> first | assumption | exact cR9 0 | exact cU9 0 | exact cU9 1)
      | (go_split_ands
         have z9 := hcur.size
         refine ⟨?_, ?_, ?_, ?_, ?_, ?_, ?_, ?_, ?_⟩
         · (rw [hgrow.cell_far _ (by simp; omega) (Ne.symm ag)]; assumption)
         · (rw [hgrow.cell_far _ (by simp; omega) (Ne.symm ak)]; assumption)
         · (rw [hgrow.cell_far _ (by simp; omega) (Ne.symm ak)]; assumption)
         · (rw [hgrow.cell_far _ (by simp; omega) (Ne.symm ak)]; assumption)
         · (rw [hgrow.cell_far _ (by simp; omega) (Ne.symm ak)]; assumption)
         · (rw [hgrow.cell_far _ (by simp; omega) (Ne.symm ak)]; assumption)
         · (rw [hgrow.cell_far _ (by simp; omega) (Ne.symm ak)]; assumption)
         · (rw [hgrow.cell_far _ (by simp; omega) (Ne.symm au)]; assumption)
         · (rw [hgrow.cell_far _ (by simp; omega) (Ne.symm au)]; assumption)))
    (first
      | (go_at_call 71; (with_reducible refine (implFormatSpot_any _ _ _ _ (by assumption) (by assumption) (by assumption) (by first | exact HT.drew | exact t9 | exact HT)).mono ?_); rintro e w9 ⟨rfl, hx9⟩; replace hcur := Ext.trans (by first | exact hcur | exact hcur.drew) hx9; have cR9 := fun o => ((bR2.ext hxu).ext hcur).cell o; have cU9 := fun o => (bU.ext hcur).cell o; have hf0 := hcur.cellOf hd0'; have hf1 := hcur.cellOf hd1'; have hf2 := hcur.cellOf hd2'; have hg0 := hcur.cellOf he0'; have hg1 := hcur.cellOf he1'; have hg2 := hcur.cellOf he2'; have t9 := Tab.ext HT hcur; first | rw [Ha.out] | rw [Hc.out])
      | (go_at_call 72; (with_reducible refine (implFormatRatio_any _ _ _ (by assumption) (by assumption) (by first | exact HT.drew | exact t9 | exact HT)).mono ?_); rintro e w9 ⟨rfl, hx9⟩; replace hcur := Ext.trans (by first | exact hcur | exact hcur.drew) hx9; have cR9 := fun o => ((bR2.ext hxu).ext hcur).cell o; have cU9 := fun o => (bU.ext hcur).cell o; have hf0 := hcur.cellOf hd0'; have hf1 := hcur.cellOf hd1'; have hf2 := hcur.cellOf hd2'; have hg0 := hcur.cellOf he0'; have hg1 := hcur.cellOf he1'; have hg2 := hcur.cellOf he2'; have t9 := Tab.ext HT hcur; rw [Hb.out])
      | (refine step_append_lies _ (by rfl) _ _ _ (by rfl) w1.heap.size 9 i0 _ 1 16 Tryz.underlying41 hi0 hz0 hz1 hz2 rfl (by omega) _ k _ (by rfl) (own_ext hown3 (by first | exact hcur.alloc _ | exact (hcur.alloc _).drew | exact hcur.drew.alloc _)) ⟨w9.heap.size, 0, none⟩ 1 1 [.string (txt tt)] (by rfl) (by rfl) (World.news_of_block (cs := #[.string (txt tt)]) (t := 9) (fr := (0, 0)) (by first | exact heap_alloc_new w9 _)) (by simp [Value.oneCell']) (by omega) (by unfold maxLen; omega) (by omega) (by have := hcur.size; simp; omega) (w9.heap.size + 1) (by simp) ?_; intro gg cap wz hownz hgrow hat hltz))
  all_goals
    have hxz : Ext w1 wz := (hx.trans (hxu.trans (by first | exact hcur.alloc _ | exact (hcur.alloc _).drew | exact hcur.drew.alloc _))).grown hgrow (fun g hg => (hown.lt g hg).1)
    go_wp2
    go_roundw
    case rel => exact ⟨k + 1, by omega, by go_num, hxz, by rw [Hk.out, strs_append]; exact hownz, Hgood.out⟩
    case measure => simp [intOf]; omega

end Go.Proofs.YtjghabbcjpfjeaaGreatDoor
