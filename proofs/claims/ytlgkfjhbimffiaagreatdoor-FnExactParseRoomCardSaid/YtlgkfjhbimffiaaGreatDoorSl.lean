/- SplitAny at one letter: the plain law, and the contracts of the program and of the reference. -/
import Derived.Test.YtlgkfjhbimffiaaGreatDoorSs
import Derived.Test.YtlgkfjhbimffiaaGreatDoorTx
import Derived.Test.YtlgkfjhbimffiaaGreatDoorShelf
import Derived.Deep.QuietTactic
namespace Go.Proofs.YtlgkfjhbimffiaaGreatDoor
open Go.ChangeShapes Go.WideShapes Go.ChangeAt Go.RowKit
set_option linter.unusedVariables false
set_option maxRecDepth 100000

def pieces (q : UInt8) (l : List UInt8) : Nat → List (List UInt8) × Nat
  | 0 => ([], 0)
  | k + 1 => if l[k]? = some q then ((pieces q l k).1 ++ [(l.take k).drop (pieces q l k).2], k + 1) else pieces q l k
def splitC (q : UInt8) (l : List UInt8) : List (List UInt8) := (pieces q l l.length).1 ++ [l.drop (pieces q l l.length).2]
theorem pieces_start (q : UInt8) (l : List UInt8) (k : Nat) : (pieces q l k).2 ≤ k ∧ (pieces q l k).1.length ≤ k := by
  induction k with
  | zero => exact ⟨Nat.le_refl _, Nat.le_refl _⟩
  | succ k ih =>
    rw [pieces]
    split
    · simp; omega
    · omega
theorem pieces_hit {q : UInt8} {l : List UInt8} {k : Nat} (h : k < l.length) (hq : l[k] = q) : pieces q l (k + 1) = ((pieces q l k).1 ++ [(l.take k).drop (pieces q l k).2], k + 1) := by
  rw [pieces, if_pos (by rw [List.getElem?_eq_getElem h, hq])]
theorem pieces_miss {q : UInt8} {l : List UInt8} {k : Nat} (h : k < l.length) (hq : ¬ l[k] = q) : pieces q l (k + 1) = pieces q l k := by
  rw [pieces, if_neg (by rw [List.getElem?_eq_getElem h]; intro e; exact hq (Option.some.inj e))]
theorem pieces_small (q : UInt8) (l : List UInt8) (k : Nat) : ∀ x ∈ (pieces q l k).1, x.length ≤ l.length := by
  induction k with
  | zero => intro x hx; cases hx
  | succ k ih =>
    rw [pieces]
    split
    · intro x hx
      rcases List.mem_append.1 hx with h | h
      · exact ih x h
      · rw [List.mem_singleton] at h
        subst h
        rw [List.length_drop, List.length_take]
        omega
    · exact ih
theorem splitC_small (q : UInt8) (l : List UInt8) : ∀ x ∈ splitC q l, x.length ≤ l.length := by
  intro x hx
  rcases List.mem_append.1 hx with h | h
  · exact pieces_small q l _ x h
  · rw [List.mem_singleton] at h
    subst h
    rw [List.length_drop]
    omega
theorem splitC_len (q : UInt8) (l : List UInt8) : (splitC q l).length ≤ l.length + 1 := by
  unfold splitC
  rw [List.length_append, List.length_singleton]
  have := (pieces_start q l l.length).2
  omega
theorem cut_txt (s : ByteArray) (a b : Nat) : s.extract a b = txt ((s.data.toList.take b).drop a) := by
  apply ByteArray.ext
  unfold txt
  rw [ByteArray.data_extract]
  apply Array.ext'
  rw [Array.toList_extract, List.extract_eq_take_drop, List.drop_take]
theorem cut_txt_end (s : ByteArray) (a n : Nat) (h : s.data.toList.length = n) : s.extract a n = txt (s.data.toList.drop a) := by
  rw [cut_txt, ← h, List.take_length]
theorem index_one (q c : UInt8) : Lib.indexByte (⟨#[q]⟩ : ByteArray).data.toList ((c.toNat : Int).toNat.toUInt8) = if q = c then 0 else -1 := by
  have e : ((c.toNat : Int).toNat.toUInt8) = c := by simp
  rw [e]
  show (if q == c then (0 : Int) else if Lib.indexByte [] c == -1 then -1 else Lib.indexByte [] c + 1) = _
  by_cases h : q = c <;> simp [h, Lib.indexByte]

set_option maxHeartbeats 4000000 in
theorem implSplitAny_any (q : UInt8) (s : ByteArray) (hs : s.size ≤ 1048576) (w : World) :
    Calls Tryz.prog 48 #[.string s, .string ⟨#[q]⟩] w fun e w' => StrsMade (splitC q s.data.toList) w e w' := by
  obtain ⟨i0, hi0, hz0, hz1, hz2⟩ := info_parts str_info
  obtain ⟨L, hL⟩ : ∃ L, s.data.toList = L := ⟨_, rfl⟩
  have HL := Lib.hid hL
  obtain ⟨n, hn⟩ : ∃ n, s.size = n := ⟨_, rfl⟩
  have HN : Hid (L.length = n) := by rw [← hn, ← hL]; simp [Hid]
  rw [hL]
  clear hL
  go_enter Tryz.func48, Tryz.ntmps48
  go_wp2
  go_loopw [5, 6, 7] (fun v a i wr => ∃ (k b : Nat) (P : List (List UInt8)), k ≤ n ∧ b ≤ k ∧ P.length ≤ k ∧ i = .int .i64 k ∧ a = .int .i64 b ∧ pieces q L k = (P, b) ∧ Ext w wr ∧ wr.ownsRow w.heap.size 9 1 v P.length (strs P)) (fun _ _ i _ => n - (intOf i).toNat)
  case atStart => exact ⟨0, 0, [], Nat.zero_le _, Nat.le_refl _, Nat.le_refl _, rfl, rfl, rfl, Ext.refl _, World.ownsRow_nil _ _ _ _⟩
  case round =>
  obtain ⟨k, b, P, hk, hbk, hPk, rfl, rfl, hp, hx, hown⟩ := hrel
  have HP := Lib.hid hp
  clear hp
  have hsz := hx.size
  obtain ⟨r, hr⟩ : ∃ r, P.length = r := ⟨_, rfl⟩
  rw [hr] at hown hPk
  have HR := Lib.hid hr
  clear hr
  by_cases hlt : k < n
  rotate_left
  · obtain rfl : k = n := by omega
    have Hs : Hid (splitC q L = P ++ [L.drop b]) := by unfold Hid splitC; rw [HN.out, HP.out]
    have hbk2 : (b : Int) ≤ (k : Int) := by omega
    have Hcut := Lib.hid (cut_txt_end s b k (by rw [HL.out, HN.out]))
    rw [HL.out] at Hcut
    obtain ⟨t, ht⟩ : ∃ t, L.drop b = t := ⟨_, rfl⟩
    rw [ht] at Hcut Hs
    clear ht
    have hcut := Hcut.out
    go_wp2_with (at_builtin; go_must (refine wpList_append_own _ rfl _ _ 52 rfl w.heap.size 9 i0 (.string ByteArray.empty) 1 16 Tryz.underlying52 hi0 hz0 hz1 hz2 rfl (by decide) _ _ _ rfl (hown.alloc _) ⟨wr.heap.size, 0, none⟩ 1 1 [.string (txt t)] rfl rfl (cell_one_new _ _ _) (by simp [Value.oneCell']) (by unfold maxLen; omega) (by omega) (by simp; omega) ?_); intro v' w4 hown' hgrow _)
    have hx5 : Ext w w4 := (hx.alloc _).grown hgrow (fun g hg => (hown.lt g hg).1)
    go_wp2
    go_ret
    obtain ⟨A', c', rfl⟩ := own_form hown'
    have hl9 : r + 1 = (splitC q L).length := by rw [Hs.out, List.length_append, HR.out]; rfl
    exact StrsMade.mk (A := A') (c := c') hl9 rfl hx5 (by rw [Hs.out, strs_append]; exact hown')
  have hlt2 : (k : Int) < (n : Int) := by omega
  have hks : k < s.size := by omega
  have hkl : k < L.length := by rw [HN.out]; exact hlt
  obtain ⟨c, hc⟩ : ∃ c, s[k]'hks = c := ⟨_, rfl⟩
  have HC : Hid (L[k]'hkl = c) := by have h1 : s.data.toList[k]'(by rw [HL.out]; exact hkl) = c := hc; unfold Hid; rw [← h1]; congr 1; exact HL.out.symm
  go_wp2_with fail
  refine (Tryz.strings_IndexByte _ _ _).mono ?_
  rintro e w2 ⟨rfl, rfl⟩
  rw [index_one]
  by_cases hq : q = c
  · have Hp : Hid (pieces q L (k + 1) = (P ++ [(L.take k).drop b], k + 1)) := by rw [Hid, pieces_hit hkl (by rw [HC.out, hq]), HP.out]
    rw [if_pos hq]
    have hbk2 : (b : Int) ≤ (k : Int) := by omega
    have hkn2 : (k : Int) ≤ (n : Int) := by omega
    have Hcut := Lib.hid (cut_txt s b k)
    rw [HL.out] at Hcut
    obtain ⟨t, ht⟩ : ∃ t, (L.take k).drop b = t := ⟨_, rfl⟩
    rw [ht] at Hcut Hp
    clear ht hq
    have hcut := Hcut.out
    go_wp2_with (at_builtin; go_must (refine wpList_append_own _ rfl _ _ 52 rfl w.heap.size 9 i0 (.string ByteArray.empty) 1 16 Tryz.underlying52 hi0 hz0 hz1 hz2 rfl (by decide) _ _ _ rfl (hown.alloc _) ⟨w2.heap.size, 0, none⟩ 1 1 [.string (txt t)] rfl rfl (cell_one_new _ _ _) (by simp [Value.oneCell']) (by unfold maxLen; omega) (by omega) (by simp; omega) ?_); intro v' w4 hown' hgrow _)
    have hx5 : Ext w w4 := (hx.alloc _).grown hgrow (fun g hg => (hown.lt g hg).1)
    go_roundw
    case rel => exact ⟨k + 1, k + 1, P ++ [t], by omega, Nat.le_refl _, by rw [List.length_append, HR.out]; simp; omega, by go_num, by go_num, Hp.out, hx5, by rw [List.length_append, HR.out, strs_append]; exact hown'⟩
    case measure => simp [intOf]; omega
  · have Hp : Hid (pieces q L (k + 1) = (P, b)) := by rw [Hid, pieces_miss hkl (by rw [HC.out]; exact fun e => hq e.symm), HP.out]
    rw [if_neg hq]
    clear hq
    go_wp2
    go_roundw
    case rel => exact ⟨k + 1, b, P, by omega, by omega, by rw [HR.out]; omega, by go_num, rfl, Hp.out, hx, by rw [HR.out]; exact hown⟩
    case measure => simp [intOf]; omega

set_option maxHeartbeats 4000000 in
theorem specSplitAny_any (q : UInt8) (s : ByteArray) (hs : s.size ≤ 1048576) (w : World) :
    Calls Tryz.prog 46 #[.string s, .string ⟨#[q]⟩] w fun e w' => StrsMade (splitC q s.data.toList) w e w' := by
  obtain ⟨i0, hi0, hz0, hz1, hz2⟩ := info_parts str_info
  obtain ⟨L, hL⟩ : ∃ L, s.data.toList = L := ⟨_, rfl⟩
  have HL := Lib.hid hL
  obtain ⟨n, hn⟩ : ∃ n, s.size = n := ⟨_, rfl⟩
  have HN : Hid (L.length = n) := by rw [← hn, ← hL]; simp [Hid]
  rw [hL]
  clear hL
  obtain ⟨Y, hq0, hy0, hY⟩ : ∃ Y : ByteArray, ∃ _ : Y.size = 1, ∃ h : 0 < Y.size, Y[0]'h = q ∧ (⟨#[q]⟩ : ByteArray) = Y := ⟨⟨#[q]⟩, rfl, Nat.one_pos, rfl, rfl⟩
  obtain ⟨hq1, hY⟩ := hY
  rw [hY]
  clear hY
  go_enter Tryz.func46, Tryz.ntmps46
  go_wp2
  go_loopw [5, 6, 7] (fun v a i wr => ∃ (k b : Nat) (P : List (List UInt8)), k ≤ n ∧ b ≤ k ∧ P.length ≤ k ∧ i = .int .i64 k ∧ a = .int .i64 b ∧ pieces q L k = (P, b) ∧ Ext w wr ∧ wr.ownsRow w.heap.size 9 1 v P.length (strs P)) (fun _ _ i _ => n - (intOf i).toNat)
  case atStart => exact ⟨0, 0, [], Nat.zero_le _, Nat.le_refl _, Nat.le_refl _, rfl, rfl, rfl, (Ext.refl _).alloc _, World.ownsRow_lit w #[] 0 (Nat.le_refl _) (by unfold maxLen; omega) rfl⟩
  case round =>
  obtain ⟨k, b, P, hk, hbk, hPk, rfl, rfl, hp, hx, hown⟩ := hrel
  have HP := Lib.hid hp
  clear hp
  have hsz := hx.size
  obtain ⟨r, hr⟩ : ∃ r, P.length = r := ⟨_, rfl⟩
  rw [hr] at hown hPk
  have HR := Lib.hid hr
  clear hr
  by_cases hlt : k < n
  rotate_left
  · obtain rfl : k = n := by omega
    have Hs : Hid (splitC q L = P ++ [L.drop b]) := by unfold Hid splitC; rw [HN.out, HP.out]
    have hbk2 : (b : Int) ≤ (k : Int) := by omega
    have Hcut := Lib.hid (cut_txt_end s b k (by rw [HL.out, HN.out]))
    rw [HL.out] at Hcut
    obtain ⟨t, ht⟩ : ∃ t, L.drop b = t := ⟨_, rfl⟩
    rw [ht] at Hcut Hs
    clear ht
    have hcut := Hcut.out
    go_wp2_with (at_builtin; go_must (refine wpList_append_own _ rfl _ _ 52 rfl w.heap.size 9 i0 (.string ByteArray.empty) 1 16 Tryz.underlying52 hi0 hz0 hz1 hz2 rfl (by decide) _ _ _ rfl (hown.alloc _) ⟨wr.heap.size, 0, none⟩ 1 1 [.string (txt t)] rfl rfl (cell_one_new _ _ _) (by simp [Value.oneCell']) (by unfold maxLen; omega) (by omega) (by simp; omega) ?_); intro v' w4 hown' hgrow _)
    have hx5 : Ext w w4 := (hx.alloc _).grown hgrow (fun g hg => (hown.lt g hg).1)
    go_wp2
    go_ret
    obtain ⟨A', c', rfl⟩ := own_form hown'
    have hl9 : r + 1 = (splitC q L).length := by rw [Hs.out, List.length_append, HR.out]; rfl
    exact StrsMade.mk (A := A') (c := c') hl9 rfl hx5 (by rw [Hs.out, strs_append]; exact hown')
  have hlt2 : (k : Int) < (n : Int) := by omega
  have hks : k < s.size := by omega
  have hkl : k < L.length := by rw [HN.out]; exact hlt
  obtain ⟨c, hc⟩ : ∃ c, s[k]'hks = c := ⟨_, rfl⟩
  have HC : Hid (L[k]'hkl = c) := by have h1 : s.data.toList[k]'(by rw [HL.out]; exact hkl) = c := hc; unfold Hid; rw [← h1]; congr 1; exact HL.out.symm
  obtain ⟨v, rfl⟩ : ∃ v, v = u5 := ⟨_, rfl⟩
  obtain ⟨w2, rfl⟩ : ∃ w2, w2 = wr := ⟨_, rfl⟩
  go_wp2
  go_loopw [5, 6, 8] (fun v2 a2 j w3 => (∃ g, w3 = w2.drewN g) ∧ v2 = v ∧ a2 = .int .i64 b ∧ ((j = .int .i64 0) ∨ (j = .int .i64 1 ∧ ¬ q = c))) (fun _ _ j _ => 1 - (intOf j).toNat)
  case atStart => exact ⟨⟨0, rfl⟩, rfl, rfl, Or.inl rfl⟩
  case round =>
    obtain ⟨⟨g, rfl⟩, rfl, rfl, rfl | ⟨rfl, hq⟩⟩ := hrel
    · by_cases hq : q = c
      · have Hp : Hid (pieces q L (k + 1) = (P ++ [(L.take k).drop b], k + 1)) := by rw [Hid, pieces_hit hkl (by rw [HC.out, hq]), HP.out]
        subst hq
        have hbk2 : (b : Int) ≤ (k : Int) := by omega
        have hkn2 : (k : Int) ≤ (n : Int) := by omega
        have Hcut := Lib.hid (cut_txt s b k)
        rw [HL.out] at Hcut
        obtain ⟨t, ht⟩ : ∃ t, (L.take k).drop b = t := ⟨_, rfl⟩
        rw [ht] at Hcut Hp
        clear ht
        have hcut := Hcut.out
        go_wp2
        go_quiet (fail)
        go_wp2_with (at_builtin; go_must (refine wpList_append_own _ rfl _ _ 52 rfl w.heap.size 9 i0 (.string ByteArray.empty) 1 16 Tryz.underlying52 hi0 hz0 hz1 hz2 rfl (by decide) _ _ _ rfl ((own_ext hown (by first | exact Ext.drewN (Ext.refl _) _ | exact Ext.drewN (Ext.drewN (Ext.refl _) _) _)).alloc _) ⟨w2.heap.size, 0, none⟩ 1 1 [.string (txt t)] rfl rfl (cell_one_new _ _ _) (by simp [Value.oneCell']) (by unfold maxLen; omega) (by omega) (by simp; omega) ?_); intro v' w4 hown' hgrow _)
        have hx5 : Ext w w4 := (Ext.alloc (by first | exact hx.drewN _ | exact (hx.drewN _).drewN _) _).grown hgrow (fun g hg => (hown.lt g hg).1)
        go_wp2
        go_roundw
        case rel => exact ⟨k + 1, k + 1, P ++ [t], by omega, Nat.le_refl _, by rw [List.length_append, HR.out]; simp; omega, by go_num, by go_num, Hp.out, hx5, by rw [List.length_append, HR.out, strs_append]; exact hown'⟩
        case measure => simp [intOf]; omega
      · have hcq : ¬ ((c.toNat : Int) = (q.toNat : Int)) := fun e => hq (UInt8.toNat_inj.1 (by omega))
        go_wp2
        go_quiet (fail)
        go_wp2
        go_roundw
        case rel => exact ⟨⟨_, rfl⟩, rfl, rfl, Or.inr ⟨rfl, hq⟩⟩
        case measure => simp [intOf]
    · have Hp : Hid (pieces q L (k + 1) = (P, b)) := by rw [Hid, pieces_miss hkl (by rw [HC.out]; exact fun e => hq e.symm), HP.out]
      clear hq
      go_wp2
      go_roundw
      case rel => exact ⟨k + 1, b, P, by omega, by omega, by rw [HR.out]; omega, by go_num, rfl, Hp.out, hx.drewN _, by rw [HR.out]; exact own_ext hown (Ext.drewN (Ext.refl _) _)⟩
      case measure => simp [intOf]; omega
end Go.Proofs.YtlgkfjhbimffiaaGreatDoor
