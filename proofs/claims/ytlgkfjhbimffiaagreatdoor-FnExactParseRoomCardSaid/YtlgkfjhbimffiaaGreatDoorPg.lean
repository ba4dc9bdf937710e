/- Contracts of ParseRegion of the program and of the reference. (written by tools/mkPg.py) -/
import Derived.Test.YtlgkfjhbimffiaaGreatDoorPh
import Derived.Test.YtlgkfjhbimffiaaGreatDoorFr
import Derived.Test.YtlgkfjhbimffiaaGreatDoorSs
import Derived.Test.YtlgkfjhbimffiaaGreatDoorMn
namespace Go.Proofs.YtlgkfjhbimffiaaGreatDoor
open Go.ChangeShapes Go.WideShapes Go.ChangeAt Go.RowKit
set_option linter.unusedVariables false
set_option maxRecDepth 100000

def okH (p : List UInt8) : Bool := (halfR p).2
def hvH (p : List UInt8) : Half := (halfR p).1
def voidT : List UInt8 := [118, 111, 105, 100]
def regionR (L : List UInt8) : List Half × Bool := if L = voidT then ([], true) else if (splitC 59 L).length ≤ 40 ∧ (splitC 59 L).all okH = true ∧ regionT ((splitC 59 L).map hvH) = L then ((splitC 59 L).map hvH, true) else ([], false)
theorem regionR_void {L : List UInt8} (h : L = voidT) : regionR L = ([], true) := if_pos h
theorem regionR_no {L : List UInt8} (h : L ≠ voidT) (h2 : ¬ ((splitC 59 L).length ≤ 40 ∧ (splitC 59 L).all okH = true ∧ regionT ((splitC 59 L).map hvH) = L)) : regionR L = ([], false) := by unfold regionR; rw [if_neg h, if_neg h2]
theorem regionR_yes {L : List UInt8} (h : L ≠ voidT) (h2 : (splitC 59 L).length ≤ 40 ∧ (splitC 59 L).all okH = true ∧ regionT ((splitC 59 L).map hvH) = L) : regionR L = ((splitC 59 L).map hvH, true) := by unfold regionR; rw [if_neg h, if_pos h2]
theorem hv_I64 (p : List UInt8) : I64 (hvH p).A ∧ I64 (hvH p).B ∧ I64 (hvH p).C := by
  unfold hvH halfR
  split
  · rename_i h
    obtain ⟨a, b, c, hN⟩ := three_of h.1
    have hb := numsL_bd p
    rw [hN] at hb
    simp only [halfOf, hN]
    exact ⟨hb a (by simp), hb b (by simp), hb c (by simp)⟩
  · unfold I64; simp
theorem halves_I (P : List (List UInt8)) : HalvesI (P.map hvH) := by
  intro x hx z hz
  obtain ⟨p, _, rfl⟩ := List.mem_map.1 hx
  have := hv_I64 p
  simp only [Half.ints, List.mem_cons, List.not_mem_nil, or_false] at hz
  rcases hz with rfl | rfl | rfl
  · exact this.1
  · exact this.2.1
  · exact this.2.2
theorem split_ne (q : UInt8) (L : List UInt8) : splitC q L ≠ [] := by unfold splitC; simp
theorem ok_ne {L : List UInt8} (h : (splitC 59 L).all okH = true) : L ≠ [] := by
  rintro rfl
  revert h
  decide
theorem hv_take {P : List (List UInt8)} {k : Nat} (h : k < P.length) : (P.take (k + 1)).map hvH = (P.take k).map hvH ++ [hvH P[k]] := by
  rw [List.take_add_one, List.map_append, List.getElem?_eq_getElem h]
  simp
theorem regionT_ok_of {hs : List Half} {L : List UInt8} (hne : hs ≠ []) (hL : L ≠ []) (h : regionT hs = L) : regOk hs = true := by
  rcases Bool.eq_false_or_eq_true (regOk hs) with e | e
  · exact e
  · rw [regionT_bad hne e] at h; exact absurd h.symm hL
theorem flat1 (l : List Half) (h : Half) : ints (flat Half.ints (l ++ [h])) = ints (flat Half.ints l) ++ ints h.ints := by unfold flat; rw [List.flatMap_append, ints_append]; simp

set_option maxHeartbeats 8000000 in
theorem implParseRegion_any (s : ByteArray) (hs : s.size ≤ 1048576) (w : World) (ht : Tab w) (he : Ers w) :
    Calls Tryz.prog 18 #[.string s] w (RegMade (regionR s.data.toList) w) := by
  obtain ⟨i0, hi0, hz0, hz1, hz2⟩ := info_parts half_info
  obtain ⟨L, hL⟩ : ∃ L, s.data.toList = L := ⟨_, rfl⟩
  have HL := Lib.hid hL
  have hLn : L.length ≤ 1048576 := by rw [← hL]; simpa using hs
  rw [hL]
  have h5 := hL
  clear hL
  have HT0 := Lib.hid ht
  have HE0 := Lib.hid he
  clear ht he
  have hx0 : Ext w (w.alloc (.cells #[.slice none 0 0] 29)) := (Ext.refl w).alloc _
  have b00 := Blk.new w 29 #[.slice none 0 0]
  have hx : Ext w ((w.alloc (.cells #[.slice none 0 0] 29)).alloc (.cells #[.slice none 0 0] 29)) := hx0.alloc _
  have b0 := b00.alloc (.cells #[.slice none 0 0] 29)
  have bP := Blk.new (w.alloc (.cells #[.slice none 0 0] 29)) 29 #[.slice none 0 0]
  simp only [World.size_alloc] at bP
  by_cases hv : L = voidT
  · have H := Lib.hid (regionR_void hv)
    have hse : s = ⟨#[118, 111, 105, 100]⟩ := by
      apply ByteArray.ext
      apply Array.ext'
      rw [h5, hv]; rfl
    subst hse
    clear hv h5
    have c0 := fun o => b00.cell o
    have f0 := fun o => b00.frozen o
    go_enter Tryz.func18, Tryz.ntmps18
    go_wp2
    refine bodyPost_ret (v := .tuple #[.agg #[.slice none 0 0], .bool true]) (by simp [results, Tryz.results18, go_sem, c0]) rfl ?_
    exact RegMade.nil true H.out rfl (by first | exact hx0 | exact hx0.setCell (by first | omega | (simp <;> omega)) _)
  have hcm : (s.toList == [118, 111, 105, 100]) = false := by
    have e : (txt voidT).toList = [118, 111, 105, 100] := by rw [ByteArray.toList_eq, txt_list]; rfl
    rw [← e, BEq.comm, txt_same, decide_eq_false_iff_not, h5]
    exact fun e => hv e.symm
  have hcm2 : ¬ s = ⟨#[118, 111, 105, 100]⟩ := by
    rintro rfl
    exact hv h5.symm
  obtain ⟨P, hP⟩ : ∃ P, splitC 59 L = P := ⟨_, rfl⟩
  have HP := Lib.hid hP
  have HS : Hid (∀ k (h : k < P.length), P[k].length ≤ 1048576) := fun k h => Nat.le_trans (splitC_small 59 L _ (by rw [hP]; exact List.getElem_mem h)) hLn
  have hPn : P.length ≤ 1048577 := by have := splitC_len 59 L; rw [hP] at this; omega
  have HNo : Hid (∀ h : ¬ (P.length ≤ 40 ∧ P.all okH = true ∧ regionT (P.map hvH) = L), regionR L = ([], false)) := fun h => regionR_no hv (by rw [hP]; exact h)
  have HYes : Hid (∀ h : P.length ≤ 40 ∧ P.all okH = true ∧ regionT (P.map hvH) = L, regionR L = (P.map hvH, true)) := fun h => by rw [regionR_yes hv (by rw [hP]; exact h), hP]
  have HNe : Hid (P.map hvH ≠ []) := by intro e; rw [List.map_eq_nil_iff] at e; rw [e] at hP; exact split_ne _ _ hP
  have HRo : Hid (∀ h : P.all okH = true, regOk (P.map hvH) = false → regionT (P.map hvH) ≠ L) := fun h h2 h3 => by
    have := regionT_ok_of HNe.out (ok_ne (by rw [hP]; exact h)) h3
    rw [h2] at this; cases this
  clear hP hv h5
  go_enter Tryz.func18, Tryz.ntmps18
  go_wp2_with fail
  refine (implSplitAny_any 59 s hs _).mono ?_
  rintro e w1 ⟨A, c, rfl, th, hx1⟩
  rw [HL.out, HP.out] at th
  rw [HL.out, HP.out]
  simp only [World.size_alloc] at th
  obtain ⟨n, hn⟩ : ∃ n, P.length = n := ⟨_, rfl⟩
  rw [hn] at hPn th HNo HYes
  rw [hn]
  have HN := Lib.hid hn
  clear hn
  replace hx := hx.trans hx1
  replace b0 := b0.ext hx1
  replace bP := bP.ext hx1
  have hs1 := hx1.size
  simp only [World.size_alloc] at hs1
  by_cases h40 : n ≤ 40
  rotate_left
  · have H := Lib.hid (HNo.out (fun e => h40 e.1))
    have h41 : (40 : Int) < (n : Int) := by omega
    have c0 := fun o => b0.cell o
    have f0 := fun o => b0.frozen o
    go_wp2
    refine bodyPost_ret (v := .tuple #[.agg #[.slice none 0 0], .bool false]) (by simp [results, Tryz.results18, go_sem, c0]) rfl ?_
    exact RegMade.nil false H.out rfl (by first | exact hx | exact hx.setCell (by first | omega | (simp <;> omega)) _)
  have h41 : ¬ (40 : Int) < (n : Int) := by omega
  go_wp2
  go_loopw [21] (fun i wr => ∃ (k : Nat) (A4 : Option Addr) (c4 : Nat), k ≤ n ∧ k ≤ 40 ∧ i = .int .i64 k ∧ Ext w wr ∧ Blk wr w.heap.size 29 #[.slice none 0 0] ∧ Blk wr (w.heap.size + 1) 29 #[.slice A4 k c4] ∧ wr.ownsRow w1.heap.size 69 3 (.slice A4 k c4) k (ints (flat Half.ints ((P.take k).map hvH))) ∧ Mine wr (w.heap.size + 2) w1.heap.size 9 1 (.slice A n c) n (strs P) ∧ w1.heap.size ≤ wr.heap.size ∧ (P.take k).all okH = true) (fun i _ => n - (intOf i).toNat)
  case atStart => exact ⟨0, none, 0, Nat.zero_le _, Nat.zero_le _, rfl, hx, b0, bP, World.ownsRow_nil _ _ _ _, by simpa using th, Nat.le_refl _, rfl⟩
  case round =>
  obtain ⟨k, A4, c4, hk, hk40, rfl, hy, bR, bQ, hown, thr, hgt, hall⟩ := hrel
  have Hall := Lib.hid hall
  clear hall
  have HR := Lib.hid thr.row
  have hsz := hy.size
  have hRl := bR.lt
  have hQl := bQ.lt
  have cR := fun o => bR.cell o
  have fR := fun o => bR.frozen o
  have cQ := fun o => bQ.cell o
  by_cases hlt : k < n
  rotate_left
  · obtain rfl : k = n := by omega
    have hlen : (P.map hvH).length = k := by rw [List.length_map, HN.out]
    have htk : P.take k = P := List.take_of_length_le (by rw [HN.out]; exact Nat.le_refl _)
    rw [htk] at hown
    have Hok : Hid (P.all okH = true) := by have := Hall.out; rwa [htk] at this
    have HTk := HT0.out.ext hy
    have HW := Lib.hid hown
    have hown9 := Row.of_own hown
    clear hown htk
    go_wp2_with fail
    refine (implFormatRegion_any A4 k c4 (P.map hvH) _ hlen hown9 (halves_I P) (by unfold maxLen; omega) HTk).mono ?_
    rintro e w5 ⟨rfl, hx5⟩
    clear hown9 HTk
    replace bR := bR.ext hx5
    replace bQ := bQ.ext hx5
    replace hy := hy.trans hx5
    have c0 := fun o => bR.cell o
    have f0 := fun o => bR.frozen o
    have cQ5 := fun o => bQ.cell o
    by_cases hc : regionT (P.map hvH) = L
    · have H := Lib.hid (HYes.out ⟨by omega, Hok.out, hc⟩)
      have hcm : ((txt (regionT (P.map hvH))).toList == s.toList) = true := by rw [txt_same, HL.out, decide_eq_true_eq]; exact hc
      clear hc
      go_wp2
      have bF := bR.set_ 0 (.slice A4 k c4)
      have cF := fun o => bF.cell o
      refine bodyPost_ret (v := .tuple #[.agg #[.slice A4 k c4], .bool true]) (by simp [results, Tryz.results18, go_sem, cF]) rfl ?_
      rw [H.out]
      exact ⟨A4, c4, k, rfl, hlen.symm, hy.setCell (by first | omega | (simp <;> omega)) _, own_base (own_far (own_ext HW.out hx5) (by simp; omega) _) (by omega)⟩
    · have H := Lib.hid (HNo.out (fun e => hc e.2.2))
      have hcm : ((txt (regionT (P.map hvH))).toList == s.toList) = false := by rw [txt_same, HL.out, decide_eq_false_iff_not]; exact hc
      clear hc
      go_wp2
      refine bodyPost_ret (v := .tuple #[.agg #[.slice none 0 0], .bool false]) (by simp [results, Tryz.results18, go_sem, c0]) rfl ?_
      exact RegMade.nil false H.out rfl (hy.setCell (by first | omega | (simp <;> omega)) _)
  have hlt2 : (k : Int) < (n : Int) := by omega
  have hkl : k < P.length := by rw [HN.out]; exact hlt
  obtain ⟨b, off, hA, hb, hc0⟩ := HR.out.str (k := k) hkl
  subst hA
  have hsk := HS.out k hkl
  have Hg : Hid (∀ h : okH P[k] = true, (P.take (k + 1)).all okH = true) := fun h => all_take_at hkl Hall.out h
  have Hb : Hid (∀ h : okH P[k] = false, P.all okH = false) := fun h => all_not_at hkl h
  have Hm : Hid ((P.take (k + 1)).map hvH = (P.take k).map hvH ++ [hvH P[k]]) := hv_take hkl
  obtain ⟨t, ht⟩ : ∃ t, P[k]'hkl = t := ⟨_, rfl⟩
  rw [ht] at hc0 hsk Hg Hb Hm
  clear ht
  have hst : (txt t).size ≤ 1048576 := by rw [txt_size]; exact hsk
  have HTk := HT0.out.ext hy
  have HEk := HE0.out.ext hy
  have HC := Lib.hid (fun w (ht : Tab w) (he : Ers w) => implParseHalf_any (txt t) hst w ht he)
  rw [txt_list] at HC
  change Hid (∀ w (ht : Tab w) (he : Ers w), Calls Tryz.prog _ _ w fun e w' => e = .returned (.tuple #[.agg #[.int .i64 (hvH t).A, .int .i64 (hvH t).B, .int .i64 (hvH t).C], .bool (okH t)]) ∧ Ext w w') at HC
  obtain ⟨h, hh⟩ : ∃ h, hvH t = h := ⟨_, rfl⟩
  obtain ⟨q, hq⟩ : ∃ q, okH t = q := ⟨_, rfl⟩
  rw [hh] at HC Hm
  rw [hq] at HC Hg Hb
  clear hh hq
  go_wp2_with fail
  refine (HC.out _ HTk HEk).mono ?_
  rintro e w4 ⟨rfl, hx4⟩
  replace bR := (bR.ext hx4).alloc (.cells #[.int .i64 h.A, .int .i64 h.B, .int .i64 h.C] 69)
  replace bQ := (bQ.ext hx4).alloc (.cells #[.int .i64 h.A, .int .i64 h.B, .int .i64 h.C] 69)
  have bH := Blk.new w4 69 #[.int .i64 h.A, .int .i64 h.B, .int .i64 h.C]
  replace hown := (own_ext hown hx4).alloc (.cells #[.int .i64 h.A, .int .i64 h.B, .int .i64 h.C] 69)
  replace thr := (thr.ext hx4).ext ((Ext.refl w4).alloc (.cells #[.int .i64 h.A, .int .i64 h.B, .int .i64 h.C] 69))
  replace hy := (hy.trans hx4).alloc (.cells #[.int .i64 h.A, .int .i64 h.B, .int .i64 h.C] 69)
  have hs4 := hx4.size
  have c4R := fun o => bR.cell o
  have f4R := fun o => bR.frozen o
  have c4Q := fun o => bQ.cell o
  have c4H := fun o => bH.cell o
  cases q
  · have H := Lib.hid (HNo.out (fun e => by have := Hb.out (by first | rfl | trivial); rw [this] at e; cases e.2.1))
    go_wp2
    refine bodyPost_ret (v := .tuple #[.agg #[.slice none 0 0], .bool false]) (by simp [results, Tryz.results18, go_sem, c4R]) rfl ?_
    exact RegMade.nil false H.out rfl (hy.setCell (by first | omega | (simp <;> omega)) _)
  have Hg2 := Lib.hid (Hg.out (by first | rfl | trivial))
  clear Hg Hb
  have hnews := Blk.new (w4.alloc (.cells #[.int .i64 h.A, .int .i64 h.B, .int .i64 h.C] 69)) 69 #[.int .i64 h.A, .int .i64 h.B, .int .i64 h.C]
  simp only [World.size_alloc] at hnews
  have hcc : ∀ j u, (ints h.ints)[j]? = some u → ((w4.alloc (.cells #[.int .i64 h.A, .int .i64 h.B, .int .i64 h.C] 69)).alloc (.cells #[.int .i64 h.A, .int .i64 h.B, .int .i64 h.C] 69)).cell? ((⟨w4.heap.size + 1, 0, none⟩ : Addr).add j) = some u := fun j u hj => by
    rw [show ((⟨w4.heap.size + 1, 0, none⟩ : Addr).add j) = ⟨w4.heap.size + 1, 0 + j, none⟩ from by unfold Addr.add; split <;> simp_all, Nat.zero_add, hnews.cell]
    simpa [ints, Half.ints] using hj
  clear hnews
  have bQ6 := bQ.alloc (.cells #[.int .i64 h.A, .int .i64 h.B, .int .i64 h.C] 69)
  have bR6 := bR.alloc (.cells #[.int .i64 h.A, .int .i64 h.B, .int .i64 h.C] 69)
  go_wp2_with (at_builtin; go_must (refine wpList_append_own _ rfl _ _ 27 rfl w1.heap.size 69 i0 (.agg #[.int .i64 0, .int .i64 0, .int .i64 0]) 3 24 Tryz.underlying27 hi0 hz0 hz1 hz2 rfl (by decide) _ _ _ rfl (hown.alloc _) ⟨w4.heap.size + 1, 0, none⟩ 1 1 (ints h.ints) rfl rfl hcc (oneCell_ints _) (by unfold maxLen; omega) (by omega) (by simp; omega) ?_); intro v' w6 hown' hgrow _; obtain ⟨A6, c6, rfl⟩ := own_form hown'; have bQ7 : Blk w6 (w.heap.size + 1) 29 #[.slice A4 k c4] := (hgrow.block (w.heap.size + 1) bQ6.lt (fun e => by have := (hown.lt _ e.symm).1; omega)).trans bQ6; have bR7 : Blk w6 w.heap.size 29 #[.slice none 0 0] := (hgrow.block w.heap.size bR6.lt (fun e => by have := (hown.lt _ e.symm).1; omega)).trans bR6; have cQ7 := fun o => bQ7.cell o; have fQ7 := fun o => bQ7.frozen o)
  have hy6 : Ext w w6 := (hy.alloc _).grown hgrow (fun g hg => by have := (hown.lt g hg).1; omega)
  have th6 : Mine w6 (w.heap.size + 2) w1.heap.size 9 1 (.slice (some ⟨b, off, none⟩) n c) n (strs P) := (thr.ext ((Ext.refl _).alloc _)).grown hgrow (fun g hg => Or.inr (hown.lt g hg).1)
  have hs6 := hgrow.size
  simp only [World.size_alloc] at hs6
  go_roundw
  case rel =>
    refine ⟨k + 1, A6, c6, by omega, by omega, by go_num, hy6.setCell (by first | omega | (simp <;> omega)) _, bR7.far (p := ⟨w.heap.size + 1, 0, none⟩) (by simp) _, bQ7.set_ 0 _, ?_, th6.setB (p := ⟨w.heap.size + 1, 0, none⟩) (Or.inl (by simp)) _, by simp; omega, Hg2.out⟩
    rw [Hm.out, flat1]
    exact own_far hown' (by simp; omega) _
  case measure => simp [intOf]; omega
set_option maxHeartbeats 8000000 in
theorem specParseRegion_any (s : ByteArray) (hs : s.size ≤ 1048576) (w : World) :
    Calls Tryz.prog 17 #[.string s] w (RegMade (regionR s.data.toList) w) := by
  obtain ⟨i0, hi0, hz0, hz1, hz2⟩ := info_parts half_info
  obtain ⟨L, hL⟩ : ∃ L, s.data.toList = L := ⟨_, rfl⟩
  have HL := Lib.hid hL
  have hLn : L.length ≤ 1048576 := by rw [← hL]; simpa using hs
  rw [hL]
  have h5 := hL
  clear hL
  have hx : Ext w ((w.alloc (.cells #[.slice none 0 0] 29)).alloc (.cells #[.slice none 0 0] 29)) := ((Ext.refl w).alloc _).alloc _
  have b0 := (Blk.new w 29 #[.slice none 0 0]).alloc (.cells #[.slice none 0 0] 29)
  have bP := Blk.new (w.alloc (.cells #[.slice none 0 0] 29)) 29 #[.slice none 0 0]
  simp only [World.size_alloc] at bP
  by_cases hv : L = voidT
  · have H := Lib.hid (regionR_void hv)
    have hse : s = ⟨#[118, 111, 105, 100]⟩ := by
      apply ByteArray.ext
      apply Array.ext'
      rw [h5, hv]; rfl
    subst hse
    clear hv h5
    have c0 := fun o => b0.cell o
    have f0 := fun o => b0.frozen o
    have cP := fun o => bP.cell o
    go_enter Tryz.func17, Tryz.ntmps17
    go_wp2
    refine bodyPost_ret (v := .tuple #[.agg #[.slice none 0 0], .bool true]) (by simp [results, Tryz.results17, go_sem, c0]) rfl ?_
    exact RegMade.nil true H.out rfl (by first | exact hx | exact hx.setCell (by first | omega | (simp <;> omega)) _)
  have hcm : (s.toList == [118, 111, 105, 100]) = false := by
    have e : (txt voidT).toList = [118, 111, 105, 100] := by rw [ByteArray.toList_eq, txt_list]; rfl
    rw [← e, BEq.comm, txt_same, decide_eq_false_iff_not, h5]
    exact fun e => hv e.symm
  have hcm2 : ¬ s = ⟨#[118, 111, 105, 100]⟩ := by
    rintro rfl
    exact hv h5.symm
  obtain ⟨P, hP⟩ : ∃ P, splitC 59 L = P := ⟨_, rfl⟩
  have HP := Lib.hid hP
  have HS : Hid (∀ k (h : k < P.length), P[k].length ≤ 1048576) := fun k h => Nat.le_trans (splitC_small 59 L _ (by rw [hP]; exact List.getElem_mem h)) hLn
  have hPn : P.length ≤ 1048577 := by have := splitC_len 59 L; rw [hP] at this; omega
  have HNo : Hid (∀ h : ¬ (P.length ≤ 40 ∧ P.all okH = true ∧ regionT (P.map hvH) = L), regionR L = ([], false)) := fun h => regionR_no hv (by rw [hP]; exact h)
  have HYes : Hid (∀ h : P.length ≤ 40 ∧ P.all okH = true ∧ regionT (P.map hvH) = L, regionR L = (P.map hvH, true)) := fun h => by rw [regionR_yes hv (by rw [hP]; exact h), hP]
  have HNe : Hid (P.map hvH ≠ []) := by intro e; rw [List.map_eq_nil_iff] at e; rw [e] at hP; exact split_ne _ _ hP
  have HRo : Hid (∀ h : P.all okH = true, regOk (P.map hvH) = false → regionT (P.map hvH) ≠ L) := fun h h2 h3 => by
    have := regionT_ok_of HNe.out (ok_ne (by rw [hP]; exact h)) h3
    rw [h2] at this; cases this
  clear hP hv h5
  go_enter Tryz.func17, Tryz.ntmps17
  go_wp2_with fail
  refine (specSplitAny_any 59 s hs _).mono ?_
  rintro e w1 ⟨A, c, rfl, th, hx1⟩
  rw [HL.out, HP.out] at th
  rw [HL.out, HP.out]
  simp only [World.size_alloc] at th
  obtain ⟨n, hn⟩ : ∃ n, P.length = n := ⟨_, rfl⟩
  rw [hn] at hPn th HNo HYes
  rw [hn]
  have HN := Lib.hid hn
  clear hn
  replace hx := hx.trans hx1
  replace b0 := b0.ext hx1
  replace bP := bP.ext hx1
  have hs1 := hx1.size
  simp only [World.size_alloc] at hs1
  go_wp2
  go_loopw [16] (fun i wr => ∃ (k : Nat) (A4 : Option Addr) (c4 : Nat), k ≤ n ∧ k ≤ 40 ∧ i = .int .i64 k ∧ Ext w wr ∧ Blk wr w.heap.size 29 #[.slice none 0 0] ∧ Blk wr (w.heap.size + 1) 29 #[.slice A4 k c4] ∧ wr.ownsRow w1.heap.size 69 3 (.slice A4 k c4) k (ints (flat Half.ints ((P.take k).map hvH))) ∧ Mine wr (w.heap.size + 2) w1.heap.size 9 1 (.slice A n c) n (strs P) ∧ w1.heap.size ≤ wr.heap.size ∧ (P.take k).all okH = true) (fun i _ => n - (intOf i).toNat)
  case atStart => exact ⟨0, none, 0, Nat.zero_le _, Nat.zero_le _, rfl, hx, b0, bP, World.ownsRow_nil _ _ _ _, by simpa using th, Nat.le_refl _, rfl⟩
  case round =>
  obtain ⟨k, A4, c4, hk, hk40, rfl, hy, bR, bQ, hown, thr, hgt, hall⟩ := hrel
  have Hall := Lib.hid hall
  clear hall
  have HR := Lib.hid thr.row
  have hsz := hy.size
  have hRl := bR.lt
  have hQl := bQ.lt
  have cR := fun o => bR.cell o
  have fR := fun o => bR.frozen o
  have cQ := fun o => bQ.cell o
  by_cases hlt : k < n
  rotate_left
  · obtain rfl : k = n := by omega
    have hlen : (P.map hvH).length = k := by rw [List.length_map, HN.out]
    have htk : P.take k = P := List.take_of_length_le (by rw [HN.out]; exact Nat.le_refl _)
    rw [htk] at hown
    have Hok : Hid (P.all okH = true) := by have := Hall.out; rwa [htk] at this
    have HW := Lib.hid hown
    have hA4 : Hid (A4 = none → k = 0 ∧ c4 = 0) := fun h => Mine.none (Mine.of_own hown) h
    have hown9 := Lib.hid (Row.of_own hown)
    clear hown htk
    go_wp2_with fail
    refine (specRegionOk_any A4 k c4 (P.map hvH) _ hlen hown9.out hA4.out (halves_I P) (by unfold maxLen; omega)).mono ?_
    rintro e w4 ⟨rfl, hx4⟩
    replace bR := bR.ext hx4
    replace bQ := bQ.ext hx4
    replace hy := hy.trans hx4
    have c0 := fun o => bR.cell o
    have f0 := fun o => bR.frozen o
    have cQ4 := fun o => bQ.cell o
    by_cases hro : regOk (P.map hvH) = true
    rotate_left
    · have hro' : regOk (P.map hvH) = false := by simpa using hro
      have H := Lib.hid (HNo.out (fun e => HRo.out Hok.out hro' e.2.2))
      rw [hro']
      clear hro hro'
      go_wp2
      refine bodyPost_ret (v := .tuple #[.agg #[.slice none 0 0], .bool false]) (by simp [results, Tryz.results17, go_sem, c0]) rfl ?_
      exact RegMade.nil false H.out rfl (hy.setCell (by first | omega | (simp <;> omega)) _)
    rw [hro]
    clear hro
    go_wp2_with fail
    refine (specFormatRegion_any A4 k c4 (P.map hvH) _ hlen (hown9.out.ext hx4) hA4.out (halves_I P) (by unfold maxLen; omega)).mono ?_
    rintro e w5 ⟨rfl, hx5⟩
    clear c0 f0 cQ4
    replace bR := bR.ext hx5
    replace bQ := bQ.ext hx5
    replace hy := hy.trans hx5
    have c0 := fun o => bR.cell o
    have f0 := fun o => bR.frozen o
    have cQ5 := fun o => bQ.cell o
    by_cases hc : regionT (P.map hvH) = L
    · have H := Lib.hid (HYes.out ⟨by omega, Hok.out, hc⟩)
      have hcm : ((txt (regionT (P.map hvH))).toList == s.toList) = true := by rw [txt_same, HL.out, decide_eq_true_eq]; exact hc
      clear hc
      go_wp2
      have bF := bR.set_ 0 (.slice A4 k c4)
      have cF := fun o => bF.cell o
      refine bodyPost_ret (v := .tuple #[.agg #[.slice A4 k c4], .bool true]) (by simp [results, Tryz.results17, go_sem, cF]) rfl ?_
      rw [H.out]
      exact ⟨A4, c4, k, rfl, hlen.symm, hy.setCell (by first | omega | (simp <;> omega)) _, own_base (own_far (own_ext (own_ext HW.out hx4) hx5) (by simp; omega) _) (by omega)⟩
    · have H := Lib.hid (HNo.out (fun e => hc e.2.2))
      have hcm : ((txt (regionT (P.map hvH))).toList == s.toList) = false := by rw [txt_same, HL.out, decide_eq_false_iff_not]; exact hc
      clear hc
      go_wp2
      refine bodyPost_ret (v := .tuple #[.agg #[.slice none 0 0], .bool false]) (by simp [results, Tryz.results17, go_sem, c0]) rfl ?_
      exact RegMade.nil false H.out rfl (hy.setCell (by first | omega | (simp <;> omega)) _)
  have hlt2 : (k : Int) < (n : Int) := by omega
  have hkl : k < P.length := by rw [HN.out]; exact hlt
  obtain ⟨b, off, hA, hb, hc0⟩ := HR.out.str (k := k) hkl
  subst hA
  have hsk := HS.out k hkl
  have Hg : Hid (∀ h : okH P[k] = true, (P.take (k + 1)).all okH = true) := fun h => all_take_at hkl Hall.out h
  have Hb : Hid (∀ h : okH P[k] = false, P.all okH = false) := fun h => all_not_at hkl h
  have Hm : Hid ((P.take (k + 1)).map hvH = (P.take k).map hvH ++ [hvH P[k]]) := hv_take hkl
  obtain ⟨t, ht⟩ : ∃ t, P[k]'hkl = t := ⟨_, rfl⟩
  rw [ht] at hc0 hsk Hg Hb Hm
  clear ht
  have hst : (txt t).size ≤ 1048576 := by rw [txt_size]; exact hsk
  have HC := Lib.hid (fun w => specParseHalf_any (txt t) hst w)
  rw [txt_list] at HC
  change Hid (∀ w, Calls Tryz.prog _ _ w fun e w' => e = .returned (.tuple #[.agg #[.int .i64 (hvH t).A, .int .i64 (hvH t).B, .int .i64 (hvH t).C], .bool (okH t)]) ∧ Ext w w') at HC
  obtain ⟨h, hh⟩ : ∃ h, hvH t = h := ⟨_, rfl⟩
  obtain ⟨q, hq⟩ : ∃ q, okH t = q := ⟨_, rfl⟩
  rw [hh] at HC Hm
  rw [hq] at HC Hg Hb
  clear hh hq
  go_wp2_with fail
  refine (HC.out _).mono ?_
  rintro e w4 ⟨rfl, hx4⟩
  replace bR := (bR.ext hx4).alloc (.cells #[.int .i64 h.A, .int .i64 h.B, .int .i64 h.C] 69)
  replace bQ := (bQ.ext hx4).alloc (.cells #[.int .i64 h.A, .int .i64 h.B, .int .i64 h.C] 69)
  have bH := Blk.new w4 69 #[.int .i64 h.A, .int .i64 h.B, .int .i64 h.C]
  replace hown := (own_ext hown hx4).alloc (.cells #[.int .i64 h.A, .int .i64 h.B, .int .i64 h.C] 69)
  replace thr := (thr.ext hx4).ext ((Ext.refl w4).alloc (.cells #[.int .i64 h.A, .int .i64 h.B, .int .i64 h.C] 69))
  replace hy := (hy.trans hx4).alloc (.cells #[.int .i64 h.A, .int .i64 h.B, .int .i64 h.C] 69)
  have hs4 := hx4.size
  have c4R := fun o => bR.cell o
  have f4R := fun o => bR.frozen o
  have c4Q := fun o => bQ.cell o
  have c4H := fun o => bH.cell o
  cases q
  · have H := Lib.hid (HNo.out (fun e => by have := Hb.out (by first | rfl | trivial); rw [this] at e; cases e.2.1))
    go_wp2
    refine bodyPost_ret (v := .tuple #[.agg #[.slice none 0 0], .bool false]) (by simp [results, Tryz.results17, go_sem, c4R]) rfl ?_
    exact RegMade.nil false H.out rfl (hy.setCell (by first | omega | (simp <;> omega)) _)
  have Hg2 := Lib.hid (Hg.out (by first | rfl | trivial))
  clear Hg Hb
  by_cases h40 : k = 40
  · have H := Lib.hid (HNo.out (fun e => by omega))
    have h41 : ((k : Int) == 40) = true := by rw [h40]; rfl
    have h42 : (k : Int) = 40 := by omega
    go_wp2
    refine bodyPost_ret (v := .tuple #[.agg #[.slice none 0 0], .bool false]) (by simp [results, Tryz.results17, go_sem, c4R]) rfl ?_
    exact RegMade.nil false H.out rfl (hy.setCell (by first | omega | (simp <;> omega)) _)
  have h41 : ((k : Int) == 40) = false := by rw [beq_eq_false_iff_ne]; omega
  have hnews := Blk.new (w4.alloc (.cells #[.int .i64 h.A, .int .i64 h.B, .int .i64 h.C] 69)) 69 #[.int .i64 h.A, .int .i64 h.B, .int .i64 h.C]
  simp only [World.size_alloc] at hnews
  have hcc : ∀ j u, (ints h.ints)[j]? = some u → ((w4.alloc (.cells #[.int .i64 h.A, .int .i64 h.B, .int .i64 h.C] 69)).alloc (.cells #[.int .i64 h.A, .int .i64 h.B, .int .i64 h.C] 69)).cell? ((⟨w4.heap.size + 1, 0, none⟩ : Addr).add j) = some u := fun j u hj => by
    rw [show ((⟨w4.heap.size + 1, 0, none⟩ : Addr).add j) = ⟨w4.heap.size + 1, 0 + j, none⟩ from by unfold Addr.add; split <;> simp_all, Nat.zero_add, hnews.cell]
    simpa [ints, Half.ints] using hj
  clear hnews
  have bQ6 := bQ.alloc (.cells #[.int .i64 h.A, .int .i64 h.B, .int .i64 h.C] 69)
  have bR6 := bR.alloc (.cells #[.int .i64 h.A, .int .i64 h.B, .int .i64 h.C] 69)
  go_wp2_with (at_builtin; go_must (refine wpList_append_own _ rfl _ _ 27 rfl w1.heap.size 69 i0 (.agg #[.int .i64 0, .int .i64 0, .int .i64 0]) 3 24 Tryz.underlying27 hi0 hz0 hz1 hz2 rfl (by decide) _ _ _ rfl (hown.alloc _) ⟨w4.heap.size + 1, 0, none⟩ 1 1 (ints h.ints) rfl rfl hcc (oneCell_ints _) (by unfold maxLen; omega) (by omega) (by simp; omega) ?_); intro v' w6 hown' hgrow _; obtain ⟨A6, c6, rfl⟩ := own_form hown'; have bQ7 : Blk w6 (w.heap.size + 1) 29 #[.slice A4 k c4] := (hgrow.block (w.heap.size + 1) bQ6.lt (fun e => by have := (hown.lt _ e.symm).1; omega)).trans bQ6; have bR7 : Blk w6 w.heap.size 29 #[.slice none 0 0] := (hgrow.block w.heap.size bR6.lt (fun e => by have := (hown.lt _ e.symm).1; omega)).trans bR6; have cQ7 := fun o => bQ7.cell o; have fQ7 := fun o => bQ7.frozen o)
  have hy6 : Ext w w6 := (hy.alloc _).grown hgrow (fun g hg => by have := (hown.lt g hg).1; omega)
  have th6 : Mine w6 (w.heap.size + 2) w1.heap.size 9 1 (.slice (some ⟨b, off, none⟩) n c) n (strs P) := (thr.ext ((Ext.refl _).alloc _)).grown hgrow (fun g hg => Or.inr (hown.lt g hg).1)
  have hs6 := hgrow.size
  simp only [World.size_alloc] at hs6
  go_roundw
  case rel =>
    refine ⟨k + 1, A6, c6, by omega, by omega, by go_num, hy6.setCell (by first | omega | (simp <;> omega)) _, bR7.far (p := ⟨w.heap.size + 1, 0, none⟩) (by simp) _, bQ7.set_ 0 _, ?_, th6.setB (p := ⟨w.heap.size + 1, 0, none⟩) (Or.inl (by simp)) _, by simp; omega, Hg2.out⟩
    rw [Hm.out, flat1]
    exact own_far hown' (by simp; omega) _
  case measure => simp [intOf]; omega
theorem regionR_len (L : List UInt8) : (regionR L).1.length ≤ 40 := by
  unfold regionR
  split
  · simp
  · split
    · rename_i h; rw [List.length_map]; exact h.1
    · simp
theorem region_cnt (L : List UInt8) : cntF (regionF (regionR L).1) ≤ 100000000 := by
  have := regionR_len L
  simp only [regionF, cntF, halfF]
  omega
/-- a struct was made, and a bool -/
def AggMade (fs : List Fd) (q : Bool) (w : World) (e : Ending) (w' : World) : Prop :=
  ∃ us : List Value, e = .returned (.tuple #[.agg us.toArray, .bool q]) ∧ AggAt w' fs us w.heap.size w'.heap.size ∧ Ext w w'
theorem RegMade.agg {r : List Half × Bool} {w w' : World} {e : Ending} (h : RegMade r w e w') : AggMade (regionF r.1) r.2 w e w' := by
  obtain ⟨A, c, n, he, hn, hx, ho⟩ := h
  subst hn
  exact ⟨[.slice A r.1.length c], he, ⟨A, c, _, w'.heap.size, rfl, Mine.of_own ho, hx.size, rfl, Nat.le_refl _⟩, hx⟩
theorem implParseRegion_agg (s : ByteArray) (hs : s.size ≤ 1048576) (w : World) (ht : Tab w) (he : Ers w) :
    Calls Tryz.prog 18 #[.string s] w (AggMade (regionF (regionR s.data.toList).1) (regionR s.data.toList).2 w) := (implParseRegion_any s hs w ht he).mono fun _ _ h => h.agg
theorem specParseRegion_agg (s : ByteArray) (hs : s.size ≤ 1048576) (w : World) :
    Calls Tryz.prog 17 #[.string s] w (AggMade (regionF (regionR s.data.toList).1) (regionR s.data.toList).2 w) := (specParseRegion_any s hs w).mono fun _ _ h => h.agg
end Go.Proofs.YtlgkfjhbimffiaaGreatDoor
