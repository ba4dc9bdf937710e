/- Contracts of the lines of corners: corners, CornersOf, CornerLine of the program; l05Corners, CornerLine of the reference. (written by tools/mkCl.py) -/
import Derived.Test.YtfnmbpjkjajpcaaGreatDoorFbCo
import Derived.Test.YtfnmbpjkjajpcaaGreatDoorFbHz
import Derived.Test.YtfnmbpjkjajpcaaGreatDoorFbTz
import Derived.Test.YtfnmbpjkjajpcaaGreatDoorFbMix
import Derived.StillTailTactics
import Derived.Test.YtfnmbpjkjajpcaaGreatDoorFbCn
import Derived.Test.YtfnmbpjkjajpcaaGreatDoorShelf
import Derived.Deep.QuietTactic
import Derived.Test.YtfnmbpjkjajpcaaGreatDoorFbBz
import Derived.Test.YtfnmbpjkjajpcaaGreatDoorFbIv
import Derived.Deep.RegionHeld3
import Derived.Test.YtfnmbpjkjajpcaaGreatDoorFbMn
import Derived.Test.YtfnmbpjkjajpcaaGreatDoorFbQR
import Derived.Test.YtfnmbpjkjajpcaaGreatDoorFbJz
import Derived.Test.YtfnmbpjkjajpcaaGreatDoorFbGz
namespace Go.Proofs.YtfnmbpjkjajpcaaGreatDoor
open Go.ChangeShapes Go.WideShapes Go.ChangeAt Go.RowKit
set_option linter.unusedVariables false
set_option maxRecDepth 100000
def spotTs (l : List Spot) : List (List UInt8) := l.map spotT
def cornerT (hs : List Half) : List UInt8 := if hs = [] then [118, 111, 105, 100] else if regOk hs = true then Lib.join (spotTs (cornersL hs)) [32] else []
theorem cornerT_void {hs : List Half} (h : hs = []) : cornerT hs = [118, 111, 105, 100] := if_pos h
theorem cornerT_bad {hs : List Half} (h : hs ≠ []) (hk : regOk hs = false) : cornerT hs = [] := by unfold cornerT; rw [if_neg h, if_neg (by rw [hk]; simp)]
theorem cornerT_ok {hs : List Half} (h : hs ≠ []) (hk : regOk hs = true) : cornerT hs = Lib.join (spotTs (cornersL hs)) [32] := by unfold cornerT; rw [if_neg h, if_pos hk]
theorem spotTs_len (l : List Spot) : (spotTs l).length = l.length := by simp [spotTs]
theorem spotTs_succ {l : List Spot} {k : Nat} (h : k < l.length) : (spotTs l).take (k + 1) = (spotTs l).take k ++ [spotT l[k]] := by
  rw [List.take_succ_eq_append_getElem (by rw [spotTs_len]; exact h)]; simp [spotTs]
theorem spotTs_bd {l : List Spot} (h : l.length ≤ 40) (k : Nat) : (Lib.join ((spotTs l).take k) [32]).length ≤ 140737488355328 := by
  have h1 := join_len_le ((spotTs l).take k) [32] 259 (fun t ht => by
    obtain ⟨s, _, rfl⟩ := List.mem_map.1 (List.mem_of_mem_take ht); exact spotT_len s)
  have h2 : ((spotTs l).take k).length * (259 + 1) ≤ 40 * (259 + 1) := Nat.mul_le_mul_right _ (by rw [List.length_take, spotTs_len]; omega)
  exact Nat.le_trans h1 (by simp only [List.length_cons, List.length_nil]; omega)
theorem corner_all {hs : List Half} (h : hs.all halfOk = true) (k : Nat) (hk : k < (cornersL hs).length) : I64 (cornersL hs)[k].X ∧ I64 (cornersL hs)[k].Y ∧ I64 (cornersL hs)[k].D := by
  have hk' : k < hs.length := by rw [cornersL_len] at hk; exact hk
  have e : (cornersL hs)[k] = cornerAt hs k := by simp [cornersL, cornersTo]
  rw [e]; exact corner_I64 h hk'
theorem implCornersOf_any (A : Option Addr) (n c : Nat) (hs : List Half) (w : World) (hn : hs.length = n) (hr : Row w A (ints (flat Half.ints hs))) (hI : HalvesI hs) (hle : n ≤ maxLen) :
    Calls Tryz.prog 248 #[.agg #[.slice A n c]] w (SpotsMade (if regOk hs = true then cornersL hs else []) w) := by
  have hx : Ext w (w.alloc (.cells #[.slice A n c] 34)) := (Ext.refl w).alloc _
  have bR := Blk.new w 34 #[.slice A n c]
  have HR := Lib.hid hr
  have HO := Lib.hid (fun w hr => implRegionOk_any A n c hs w hn hr hI hle)
  have HC := Lib.hid (fun w hr (h : regOk hs = true) => corners_any A n c hs w hn hr (regOk_all h) (by have := regOk_len h; omega))
  clear hr hI hn
  by_cases hok : regOk hs = true
  · have HOk := Lib.hid hok
    have HC2 := Lib.hid (fun w hr => HC.out w hr hok)
    rw [if_pos hok]
    clear hok HC
    go_enter Tryz.func248, Tryz.ntmps248
    go_wp2_with fail
    refine (HO.out _ (HR.out.ext hx)).mono ?_
    rintro e w1 ⟨rfl, hx1⟩
    replace hx := hx.trans hx1
    replace bR := bR.ext hx1
    have cbR_1 := fun o => bR.cell o
    rw [HOk.out]
    go_wp2_with fail
    refine (HC2.out _ (HR.out.ext hx)).mono ?_
    rintro e w2 ⟨A2, c2, m, rfl, hm, hx2, hown2⟩
    have HM := Lib.hid hm
    have hxs := hx.size
    have HW := Lib.hid hown2
    clear hm hown2
    go_wp2
    go_ret
    exact ⟨A2, c2, m, rfl, HM.out, hx.trans hx2, own_base HW.out hxs⟩
  · have HOk : Hid (regOk hs = false) := by simpa [Hid] using hok
    rw [if_neg hok]
    clear hok
    go_enter Tryz.func248, Tryz.ntmps248
    go_wp2_with fail
    refine (HO.out _ (HR.out.ext hx)).mono ?_
    rintro e w1 ⟨rfl, hx1⟩
    replace hx := hx.trans hx1
    replace bR := bR.ext hx1
    have cbR_2 := fun o => bR.cell o
    rw [HOk.out]
    go_wp2
    go_ret
    exact ⟨none, 0, 0, rfl, rfl, hx, World.ownsRow_nil _ _ _ _⟩
set_option maxHeartbeats 4000000 in
theorem implCornerLine_any (A : Option Addr) (n c : Nat) (hs : List Half) (w : World) (hn : hs.length = n) (hr : Row w A (ints (flat Half.ints hs))) (hI : HalvesI hs) (hle : n ≤ maxLen) (ht : Tab w) :
    Calls Tryz.prog 184 #[.agg #[.slice A n c]] w fun e w' => e = .returned (.string (txt (cornerT hs))) ∧ Ext w w' := by
  obtain ⟨i0, hi0, hz0, hz1, hz2⟩ := info_parts str_info
  have hx : Ext w (w.alloc (.cells #[.slice A n c] 34)) := (Ext.refl w).alloc _
  have bR := Blk.new w 34 #[.slice A n c]
  have HR := Lib.hid hr
  have HV := Lib.hid (fun w => implIsVoid_any A n c w hle)
  have HO := Lib.hid (fun w hr => implCornersOf_any A n c hs w hn hr hI hle)
  have Hv : Hid (∀ _ : n = 0, cornerT hs = [118, 111, 105, 100]) := fun h0 => cornerT_void (List.eq_nil_of_length_eq_zero (by omega))
  have Hb : Hid (∀ _ : n ≠ 0, regOk hs = false → cornerT hs = []) := fun h0 h => cornerT_bad (fun e => h0 (by rw [← hn, e]; rfl)) h
  have Hg : Hid (∀ _ : n ≠ 0, regOk hs = true → cornerT hs = Lib.join (spotTs (cornersL hs)) [32] ∧ (cornersL hs).length ≤ 40) := fun h0 h => ⟨cornerT_ok (fun e => h0 (by rw [← hn, e]; rfl)) h, by rw [cornersL_len]; exact regOk_len h⟩
  have HI2 := Lib.hid (fun h => corner_all (hs := hs) (regOk_all h))
  have HT0 := Lib.hid ht
  clear hr ht hI hn
  by_cases h0 : n = 0
  · have HQ := Lib.hid (Hv.out h0)
    have hE : (decide (n = 0)) = true := decide_eq_true h0
    clear h0
    go_enter Tryz.func184, Tryz.ntmps184
    go_wp2_with fail
    refine (HV.out _).mono ?_
    rintro e w1 ⟨rfl, hx1⟩
    replace hx := hx.trans hx1
    replace bR := bR.ext hx1
    have cbR_3 := fun o => bR.cell o
    rw [hE]
    clear hE
    go_wp2
    go_ret
    exact ⟨ret_txt (by rw [HQ.out]; rfl), hx⟩
  have hE : (decide (n = 0)) = false := decide_eq_false h0
  have Hb2 := Lib.hid (Hb.out h0)
  have Hg2 := Lib.hid (Hg.out h0)
  obtain ⟨L, hL⟩ : ∃ L, (if regOk hs = true then cornersL hs else []) = L := ⟨_, rfl⟩
  have HLI : Hid (∀ k (hk : k < L.length), I64 L[k].X ∧ I64 L[k].Y ∧ I64 L[k].D) := by
    rw [← hL]
    intro k hk
    by_cases h : regOk hs = true
    · simp only [h, if_true] at hk ⊢; exact HI2.out h k hk
    · simp [h] at hk
  have HQ : Hid (Lib.join (spotTs L) [32] = cornerT hs ∧ L.length ≤ 40) := by
    rw [← hL]
    by_cases h : regOk hs = true
    · rw [if_pos h]; exact ⟨(Hg2.out h).1.symm, (Hg2.out h).2⟩
    · rw [if_neg h, Hb2.out (by simpa using h)]; exact ⟨rfl, by simp⟩
  rw [hL] at HO
  clear hL h0 Hb2 Hg2 Hb Hg Hv HI2
  go_enter Tryz.func184, Tryz.ntmps184
  go_wp2_with fail
  refine (HV.out _).mono ?_
  rintro e w1 ⟨rfl, hx1⟩
  replace hx := hx.trans hx1
  replace bR := bR.ext hx1
  have cbR_4 := fun o => bR.cell o
  rw [hE]
  clear hE
  go_wp2_with fail
  refine (HO.out _ (HR.out.ext hx)).mono ?_
  rintro e w2 ⟨A2, c2, m, rfl, hm, hx2, hown2⟩
  replace hx := hx.trans hx2
  replace bR := bR.ext hx2
  have cbR_5 := fun o => bR.cell o
  have HM := Lib.hid hm
  have h40 : m ≤ 40 := by rw [hm]; exact HQ.out.2
  have hrow2 := Lib.hid (Row.of_own hown2)
  clear hm hown2
  have hRlt := bR.lt
  go_wp2
  go_loopw [3, 11] (fun v i wr => ∃ k : Nat, k ≤ m ∧ i = .int .i64 k ∧ Ext w2 wr ∧ wr.ownsRow w2.heap.size 9 1 v k (strs ((spotTs L).take k))) (fun _ i _ => m - (intOf i).toNat)
  case atStart => exact ⟨0, Nat.zero_le _, rfl, Ext.refl _, World.ownsRow_nil _ _ _ _⟩
  case round =>
  obtain ⟨k, hk, rfl, hy, hown⟩ := hrel
  have hsz := hy.size
  have hxs := hx.size
  by_cases hlt : k < m
  · have hkl : k < L.length := by rw [← HM.out]; exact hlt
    obtain ⟨b, off, rfl, hb, c0, c1, c2⟩ := (hrow2.out.ext hy).Spot (k := k) hkl
    obtain ⟨i1, i2, i3⟩ := HLI.out k hkl
    have Hk := Lib.hid (spotTs_succ (l := L) (k := k) hkl)
    obtain ⟨h, hh⟩ : ∃ h, L[k]'hkl = h := ⟨_, rfl⟩
    rw [hh] at c0 c1 c2 i1 i2 i3 Hk
    clear hh
    have hlt2 : (k : Int) < (m : Int) := by omega
    have hy1 := hy.alloc (.cells #[.int .i64 h.X, .int .i64 h.Y, .int .i64 h.D] 38)
    have hTk := HT0.out.ext ((hx.trans hy).alloc (.cells #[.int .i64 h.X, .int .i64 h.Y, .int .i64 h.D] 38))
    go_wp2_with fail
    refine (implFormatSpot_any h.X h.Y h.D _ i1 i2 i3 hTk).mono ?_
    rintro e w5 ⟨rfl, hx5⟩
    replace hown := own_ext (hown.alloc _) hx5
    have hy5 := hy1.trans hx5
    have hsz5 := hy5.size
    change Hid ((spotTs L).take (k + 1) = (spotTs L).take k ++ [spotT ⟨h.X, h.Y, h.D⟩]) at Hk
    obtain ⟨t, htt⟩ : ∃ t, spotT ⟨h.X, h.Y, h.D⟩ = t := ⟨_, rfl⟩
    rw [htt] at Hk ⊢
    clear htt
    go_wp2_with (at_builtin; go_must (refine wpList_append_own _ rfl _ _ 27 rfl w2.heap.size 9 i0 (.string ByteArray.empty) 1 16 Tryz.underlying27 hi0 hz0 hz1 hz2 rfl (by decide) _ _ _ rfl (hown.alloc _) ⟨w5.heap.size, 0, none⟩ 1 1 [.string (txt t)] rfl rfl (cell_one_new _ _ _) (by simp [Value.oneCell']) (by unfold maxLen; omega) (by omega) (by simp; omega) ?_); intro v' w6 hown' hgrow _)
    have hy6 : Ext w2 w6 := (hy5.alloc _).grown hgrow (fun g hg => (hown.lt g hg).1)
    go_roundw
    case rel => exact ⟨k + 1, by omega, by go_num, hy6, by rw [Hk.out, strs_append]; exact hown'⟩
    case measure => simp [intOf]; omega
  · obtain rfl : k = m := by omega
    obtain ⟨A', c', rfl⟩ := own_form hown
    have hrow := Row.of_own hown
    have hcap := own_cap hown
    have Hlen : Hid (((spotTs L).take k).length = k) := by unfold Hid; rw [List.length_take, spotTs_len, ← HM.out]; omega
    have HE : Hid (Lib.join ((spotTs L).take k) [32] = cornerT hs) := by unfold Hid; rw [← HQ.out.1, List.take_of_length_le (by rw [spotTs_len, ← HM.out]; exact Nat.le_refl _)]
    have Hlb := Lib.hid (spotTs_bd HQ.out.2 k)
    go_wp2_with fail
    refine (implJoin_any _ _ _ ((spotTs L).take k) _ _ Hlen.out hrow hcap (by omega) Hlb.out).mono ?_
    rintro e w5 ⟨rfl, hx5⟩
    go_wp2
    go_ret
    exact ⟨ret_txt (by rw [← HE.out]), (hx.trans hy).trans hx5⟩
end Go.Proofs.YtfnmbpjkjajpcaaGreatDoor
namespace Go.Proofs.YtfnmbpjkjajpcaaGreatDoor
open Go.ChangeShapes Go.WideShapes Go.ChangeAt Go.RowKit
set_option linter.unusedVariables false
set_option maxRecDepth 100000
def pieces (q : UInt8) (l : List UInt8) : Nat → List (List UInt8) × Nat
  | 0 => ([], 0)
  | k + 1 => if l[k]? = some q then ((pieces q l k).1 ++ [(l.take k).drop (pieces q l k).2], k + 1) else pieces q l k
def splitC (q : UInt8) (l : List UInt8) : List (List UInt8) := (pieces q l l.length).1 ++ [l.drop (pieces q l l.length).2]
theorem pieces_start (q : UInt8) (l : List UInt8) (k : Nat) : (pieces q l k).2 ≤ k ∧ (pieces q l k).1.length ≤ k := by
  induction k with
  | zero => exact ⟨Nat.le_refl _, Nat.le_refl _⟩
  | succ k ih =>
    rw [pieces]
    split
    · simp; omega
    · omega
theorem pieces_hit {q : UInt8} {l : List UInt8} {k : Nat} (h : k < l.length) (hq : l[k] = q) : pieces q l (k + 1) = ((pieces q l k).1 ++ [(l.take k).drop (pieces q l k).2], k + 1) := by
  rw [pieces, if_pos (by rw [List.getElem?_eq_getElem h, hq])]
theorem pieces_miss {q : UInt8} {l : List UInt8} {k : Nat} (h : k < l.length) (hq : ¬ l[k] = q) : pieces q l (k + 1) = pieces q l k := by
  rw [pieces, if_neg (by rw [List.getElem?_eq_getElem h]; intro e; exact hq (Option.some.inj e))]
theorem pieces_small (q : UInt8) (l : List UInt8) (k : Nat) : ∀ x ∈ (pieces q l k).1, x.length ≤ l.length := by
  induction k with
  | zero => intro x hx; cases hx
  | succ k ih =>
    rw [pieces]
    split
    · intro x hx
      rcases List.mem_append.1 hx with h | h
      · exact ih x h
      · rw [List.mem_singleton] at h
        subst h
        rw [List.length_drop, List.length_take]
        omega
    · exact ih
theorem splitC_small (q : UInt8) (l : List UInt8) : ∀ x ∈ splitC q l, x.length ≤ l.length := by
  intro x hx
  rcases List.mem_append.1 hx with h | h
  · exact pieces_small q l _ x h
  · rw [List.mem_singleton] at h
    subst h
    rw [List.length_drop]
    omega
theorem splitC_len (q : UInt8) (l : List UInt8) : (splitC q l).length ≤ l.length + 1 := by
  unfold splitC
  rw [List.length_append, List.length_singleton]
  have := (pieces_start q l l.length).2
  omega
theorem cut_txt (s : ByteArray) (a b : Nat) : s.extract a b = txt ((s.data.toList.take b).drop a) := by
  apply ByteArray.ext
  unfold txt
  rw [ByteArray.data_extract]
  apply Array.ext'
  rw [Array.toList_extract, List.extract_eq_take_drop, List.drop_take]
theorem cut_txt_end (s : ByteArray) (a n : Nat) (h : s.data.toList.length = n) : s.extract a n = txt (s.data.toList.drop a) := by
  rw [cut_txt, ← h, List.take_length]
theorem index_one (q c : UInt8) : Lib.indexByte (⟨#[q]⟩ : ByteArray).data.toList ((c.toNat : Int).toNat.toUInt8) = if q = c then 0 else -1 := by
  have e : ((c.toNat : Int).toNat.toUInt8) = c := by simp
  rw [e]
  show (if q == c then (0 : Int) else if Lib.indexByte [] c == -1 then -1 else Lib.indexByte [] c + 1) = _
  by_cases h : q = c <;> simp [h, Lib.indexByte]
set_option maxHeartbeats 4000000 in
theorem implSplitAny_any (q : UInt8) (s : ByteArray) (hs : s.size ≤ 1048576) (w : World) :
    Calls Tryz.prog 60 #[.string s, .string ⟨#[q]⟩] w fun e w' => StrsMade (splitC q s.data.toList) w e w' := by
  obtain ⟨i0, hi0, hz0, hz1, hz2⟩ := info_parts str_info
  obtain ⟨L, hL⟩ : ∃ L, s.data.toList = L := ⟨_, rfl⟩
  have HL := Lib.hid hL
  obtain ⟨n, hn⟩ : ∃ n, s.size = n := ⟨_, rfl⟩
  have HN : Hid (L.length = n) := by rw [← hn, ← hL]; simp [Hid]
  rw [hL]
  clear hL
  go_enter Tryz.func60, Tryz.ntmps60
  go_wp2
  go_loopw [5, 6, 7] (fun v a i wr => ∃ (k b : Nat) (P : List (List UInt8)), k ≤ n ∧ b ≤ k ∧ P.length ≤ k ∧ i = .int .i64 k ∧ a = .int .i64 b ∧ pieces q L k = (P, b) ∧ Ext w wr ∧ wr.ownsRow w.heap.size 9 1 v P.length (strs P)) (fun _ _ i _ => n - (intOf i).toNat)
  case atStart => exact ⟨0, 0, [], Nat.zero_le _, Nat.le_refl _, Nat.le_refl _, rfl, rfl, rfl, Ext.refl _, World.ownsRow_nil _ _ _ _⟩
  case round =>
  obtain ⟨k, b, P, hk, hbk, hPk, rfl, rfl, hp, hx, hown⟩ := hrel
  have HP := Lib.hid hp
  clear hp
  have hsz := hx.size
  obtain ⟨r, hr⟩ : ∃ r, P.length = r := ⟨_, rfl⟩
  rw [hr] at hown hPk
  have HR := Lib.hid hr
  clear hr
  by_cases hlt : k < n
  rotate_left
  · obtain rfl : k = n := by omega
    have Hs : Hid (splitC q L = P ++ [L.drop b]) := by unfold Hid splitC; rw [HN.out, HP.out]
    have hbk2 : (b : Int) ≤ (k : Int) := by omega
    have Hcut := Lib.hid (cut_txt_end s b k (by rw [HL.out, HN.out]))
    rw [HL.out] at Hcut
    obtain ⟨t, ht⟩ : ∃ t, L.drop b = t := ⟨_, rfl⟩
    rw [ht] at Hcut Hs
    clear ht
    have hcut := Hcut.out
    go_wp2_with (at_builtin; go_must (refine wpList_append_own _ rfl _ _ 27 rfl w.heap.size 9 i0 (.string ByteArray.empty) 1 16 Tryz.underlying27 hi0 hz0 hz1 hz2 rfl (by decide) _ _ _ rfl (hown.alloc _) ⟨wr.heap.size, 0, none⟩ 1 1 [.string (txt t)] rfl rfl (cell_one_new _ _ _) (by simp [Value.oneCell']) (by unfold maxLen; omega) (by omega) (by simp; omega) ?_); intro v' w4 hown' hgrow _)
    have hx5 : Ext w w4 := (hx.alloc _).grown hgrow (fun g hg => (hown.lt g hg).1)
    go_wp2
    go_ret
    obtain ⟨A', c', rfl⟩ := own_form hown'
    have hl9 : r + 1 = (splitC q L).length := by rw [Hs.out, List.length_append, HR.out]; rfl
    exact StrsMade.mk (A := A') (c := c') hl9 rfl hx5 (by rw [Hs.out, strs_append]; exact hown')
  have hlt2 : (k : Int) < (n : Int) := by omega
  have hks : k < s.size := by omega
  have hkl : k < L.length := by rw [HN.out]; exact hlt
  obtain ⟨c, hc⟩ : ∃ c, s[k]'hks = c := ⟨_, rfl⟩
  have HC : Hid (L[k]'hkl = c) := by have h1 : s.data.toList[k]'(by rw [HL.out]; exact hkl) = c := hc; unfold Hid; rw [← h1]; congr 1; exact HL.out.symm
  go_wp2_with fail
  refine (Tryz.strings_IndexByte _ _ _).mono ?_
  rintro e w2 ⟨rfl, rfl⟩
  rw [index_one]
  by_cases hq : q = c
  · have Hp : Hid (pieces q L (k + 1) = (P ++ [(L.take k).drop b], k + 1)) := by rw [Hid, pieces_hit hkl (by rw [HC.out, hq]), HP.out]
    rw [if_pos hq]
    have hbk2 : (b : Int) ≤ (k : Int) := by omega
    have hkn2 : (k : Int) ≤ (n : Int) := by omega
    have Hcut := Lib.hid (cut_txt s b k)
    rw [HL.out] at Hcut
    obtain ⟨t, ht⟩ : ∃ t, (L.take k).drop b = t := ⟨_, rfl⟩
    rw [ht] at Hcut Hp
    clear ht hq
    have hcut := Hcut.out
    go_wp2_with (at_builtin; go_must (refine wpList_append_own _ rfl _ _ 27 rfl w.heap.size 9 i0 (.string ByteArray.empty) 1 16 Tryz.underlying27 hi0 hz0 hz1 hz2 rfl (by decide) _ _ _ rfl (hown.alloc _) ⟨w2.heap.size, 0, none⟩ 1 1 [.string (txt t)] rfl rfl (cell_one_new _ _ _) (by simp [Value.oneCell']) (by unfold maxLen; omega) (by omega) (by simp; omega) ?_); intro v' w4 hown' hgrow _)
    have hx5 : Ext w w4 := (hx.alloc _).grown hgrow (fun g hg => (hown.lt g hg).1)
    go_roundw
    case rel => exact ⟨k + 1, k + 1, P ++ [t], by omega, Nat.le_refl _, by rw [List.length_append, HR.out]; simp; omega, by go_num, by go_num, Hp.out, hx5, by rw [List.length_append, HR.out, strs_append]; exact hown'⟩
    case measure => simp [intOf]; omega
  · have Hp : Hid (pieces q L (k + 1) = (P, b)) := by rw [Hid, pieces_miss hkl (by rw [HC.out]; exact fun e => hq e.symm), HP.out]
    rw [if_neg hq]
    clear hq
    go_wp2
    go_roundw
    case rel => exact ⟨k + 1, b, P, by omega, by omega, by rw [HR.out]; omega, by go_num, rfl, Hp.out, hx, by rw [HR.out]; exact hown⟩
    case measure => simp [intOf]; omega
end Go.Proofs.YtfnmbpjkjajpcaaGreatDoor
namespace Go.Proofs.YtfnmbpjkjajpcaaGreatDoor
open Go.ChangeShapes Go.WideShapes Go.ChangeAt Go.RowKit
set_option linter.unusedVariables false
set_option maxRecDepth 100000
theorem pV_bd (l : List UInt8) : I64 (pV l) := by
  unfold pV
  cases h : pI l with
  | none => exact ⟨by decide, by decide⟩
  | some n => exact (pI_some h).2
theorem all_take_at {f : List UInt8 → Bool} {P : List (List UInt8)} {k : Nat} (h : k < P.length) (ha : (P.take k).all f = true) (hf : f P[k] = true) : (P.take (k + 1)).all f = true := by
  rw [List.take_add_one, List.all_append, ha, List.getElem?_eq_getElem h]
  simp [hf]
theorem map_take_at {f : List UInt8 → Int} {P : List (List UInt8)} {k : Nat} (h : k < P.length) : (P.take (k + 1)).map f = (P.take k).map f ++ [f P[k]] := by
  rw [List.take_add_one, List.map_append, List.getElem?_eq_getElem h]
  simp
theorem all_not_at {f : List UInt8 → Bool} {P : List (List UInt8)} {k : Nat} (h : k < P.length) (hf : f P[k] = false) : P.all f = false := by
  rw [List.all_eq_false]
  exact ⟨_, List.getElem_mem h, by rw [hf]; simp⟩
end Go.Proofs.YtfnmbpjkjajpcaaGreatDoor
namespace Go.Proofs.YtfnmbpjkjajpcaaGreatDoor
open Go.ChangeShapes Go.WideShapes Go.ChangeAt Go.RowKit
set_option linter.unusedVariables false
set_option maxRecDepth 100000
end Go.Proofs.YtfnmbpjkjajpcaaGreatDoor
namespace Go.Proofs.YtfnmbpjkjajpcaaGreatDoor
open Go.ChangeShapes Go.WideShapes Go.ChangeAt Go.RowKit
set_option linter.unusedVariables false
set_option maxRecDepth 100000
end Go.Proofs.YtfnmbpjkjajpcaaGreatDoor
namespace Go.Proofs.YtfnmbpjkjajpcaaGreatDoor
open Go.ChangeShapes Go.WideShapes Go.ChangeAt Go.RowKit
set_option linter.unusedVariables false
set_option maxRecDepth 100000
theorem split_ne (q : UInt8) (L : List UInt8) : splitC q L ≠ [] := by unfold splitC; simp
def AggMade (fs : List Fd) (q : Bool) (w : World) (e : Ending) (w' : World) : Prop :=
  ∃ us : List Value, e = .returned (.tuple #[.agg us.toArray, .bool q]) ∧ AggAt w' fs us w.heap.size w'.heap.size ∧ Ext w w'
theorem RegMade.agg {r : List Half × Bool} {w w' : World} {e : Ending} (h : RegMade r w e w') : AggMade (regionF r.1) r.2 w e w' := by
  obtain ⟨A, c, n, he, hn, hx, ho⟩ := h
  subst hn
  exact ⟨[.slice A r.1.length c], he, ⟨A, c, _, w'.heap.size, rfl, Mine.of_own ho, hx.size, rfl, Nat.le_refl _⟩, hx⟩
end Go.Proofs.YtfnmbpjkjajpcaaGreatDoor
namespace Go.Proofs.YtfnmbpjkjajpcaaGreatDoor
open Go.ChangeShapes Go.WideShapes Go.ChangeAt Go.RowKit
set_option linter.unusedVariables false
set_option maxRecDepth 100000
end Go.Proofs.YtfnmbpjkjajpcaaGreatDoor
namespace Go.Proofs.YtfnmbpjkjajpcaaGreatDoor
open Go.ChangeShapes Go.WideShapes Go.ChangeAt Go.RowKit
set_option linter.unusedVariables false
set_option maxRecDepth 100000
end Go.Proofs.YtfnmbpjkjajpcaaGreatDoor
namespace Go.Proofs.YtfnmbpjkjajpcaaGreatDoor
set_option linter.unusedVariables false
theorem pieces_free {q : UInt8} {l : List UInt8} : ∀ k, (∀ i, i < k → l[i]? ≠ some q) → pieces q l k = ([], 0) := by
  intro k
  induction k with
  | zero => intro _; rfl
  | succ k ih => intro h; rw [pieces, if_neg (h k (by omega))]; exact ih fun i hi => h i (by omega)
theorem pieces_shift {q : UInt8} {a b : List UInt8} (h : q ∉ a) : ∀ j, j ≤ b.length → pieces q (a ++ q :: b) (a.length + 1 + j) = (a :: (pieces q b j).1, a.length + 1 + (pieces q b j).2) := by
  intro j
  induction j with
  | zero =>
    intro _
    have h0 : pieces q (a ++ q :: b) a.length = ([], 0) := pieces_free _ fun i hi e => by
      rw [List.getElem?_append_left hi] at e
      exact h (List.mem_of_getElem? e)
    have e : pieces q (a ++ q :: b) (a.length + 1) = ([a], a.length + 1) := by
      rw [pieces, if_pos (by simp), h0]
      simp
    exact e
  | succ j ih =>
    intro hj
    have e1 : (a ++ q :: b)[a.length + 1 + j]? = b[j]? := by
      rw [List.getElem?_append_right (by omega), show a.length + 1 + j - a.length = j + 1 by omega, List.getElem?_cons_succ]
    show pieces q (a ++ q :: b) ((a.length + 1 + j) + 1) = _
    have hs := pieces_start q b j
    rw [pieces, e1, pieces, ih (by omega)]
    by_cases hq : b[j]? = some q
    · rw [if_pos hq, if_pos hq]
      have e2 : ((a ++ q :: b).take (a.length + 1 + j)).drop (a.length + 1 + (pieces q b j).2) = (b.take j).drop (pieces q b j).2 := by
        rw [show a ++ q :: b = (a ++ [q]) ++ b by simp, List.take_append, List.take_of_length_le (by simp), List.drop_append, List.drop_eq_nil_of_le (by simp)]
        simp only [List.length_append, List.length_singleton, List.nil_append]
        rw [show a.length + 1 + j - (a.length + 1) = j by omega, show a.length + 1 + (pieces q b j).2 - (a.length + 1) = (pieces q b j).2 by omega]
      simp only [e2, List.cons_append]
      rfl
    · rw [if_neg hq, if_neg hq]
theorem splitC_last {q : UInt8} {a : List UInt8} (h : q ∉ a) : splitC q a = [a] := by
  unfold splitC
  rw [pieces_free a.length fun i _ e => h (List.mem_of_getElem? e)]
  simp
theorem splitC_cons {q : UInt8} {a b : List UInt8} (h : q ∉ a) : splitC q (a ++ q :: b) = a :: splitC q b := by
  unfold splitC
  rw [show (a ++ q :: b).length = a.length + 1 + b.length by simp; omega, pieces_shift h _ (Nat.le_refl _)]
  have e : (a ++ q :: b).drop (a.length + 1 + (pieces q b b.length).2) = b.drop (pieces q b b.length).2 := by
    rw [show a ++ q :: b = (a ++ [q]) ++ b by simp, List.drop_append, List.drop_eq_nil_of_le (by simp)]
    simp only [List.length_append, List.length_singleton, List.nil_append]
    rw [show a.length + 1 + (pieces q b b.length).2 - (a.length + 1) = (pieces q b b.length).2 by omega]
  simp only [e, List.cons_append]
theorem join_two (x y : List UInt8) (r : List (List UInt8)) (s : List UInt8) : Lib.join (x :: y :: r) s = x ++ s ++ Lib.join (y :: r) s := by
  rw [Lib.join_cons, Lib.join_cons]
  unfold Lib.joinTail
  simp
theorem split_join {q : UInt8} : ∀ {P : List (List UInt8)}, P ≠ [] → (∀ x ∈ P, q ∉ x) → splitC q (Lib.join P [q]) = P := by
  intro P
  induction P with
  | nil => intro h; exact absurd rfl h
  | cons x r ih =>
    intro _ h
    cases r with
    | nil => rw [Lib.join_one]; exact splitC_last (h x (by simp))
    | cons y r =>
      rw [join_two, show x ++ [q] ++ Lib.join (y :: r) [q] = x ++ q :: Lib.join (y :: r) [q] by simp, splitC_cons (h x (by simp)), ih (by simp) fun z hz => h z (List.mem_cons_of_mem _ hz)]
end Go.Proofs.YtfnmbpjkjajpcaaGreatDoor
