/- SplitAny at one letter: the plain law, and the contracts of the program and of the reference. -/
import Derived.Test.YtlfepobnmmkcmaaGreatDoorTz
import Derived.Test.YtlfepobnmmkcmaaGreatDoorShelf
import Derived.Deep.QuietTactic
import Derived.Test.YtlfepobnmmkcmaaGreatDoorQR
import Derived.Deep.RegionHeld3
import Derived.Test.YtlfepobnmmkcmaaGreatDoorSp
import Derived.Test.YtlfepobnmmkcmaaGreatDoorRk
import Derived.Test.YtlfepobnmmkcmaaGreatDoorIv
import Derived.Test.YtlfepobnmmkcmaaGreatDoorCo
import Derived.Test.YtlfepobnmmkcmaaGreatDoorHz
import Derived.Test.YtlfepobnmmkcmaaGreatDoorMix
import Derived.StillTailTactics
import Derived.Test.YtlfepobnmmkcmaaGreatDoorCn
import Derived.Test.YtlfepobnmmkcmaaGreatDoorMn
import Derived.Test.YtlfepobnmmkcmaaGreatDoorGz
namespace Go.Proofs.YtlfepobnmmkcmaaGreatDoor
open Go.ChangeShapes Go.WideShapes Go.ChangeAt Go.RowKit
set_option linter.unusedVariables false
set_option maxRecDepth 100000

def pieces (q : UInt8) (l : List UInt8) : Nat → List (List UInt8) × Nat
  | 0 => ([], 0)
  | k + 1 => if l[k]? = some q then ((pieces q l k).1 ++ [(l.take k).drop (pieces q l k).2], k + 1) else pieces q l k
def splitC (q : UInt8) (l : List UInt8) : List (List UInt8) := (pieces q l l.length).1 ++ [l.drop (pieces q l l.length).2]
theorem pieces_start (q : UInt8) (l : List UInt8) (k : Nat) : (pieces q l k).2 ≤ k ∧ (pieces q l k).1.length ≤ k := by
  induction k with
  | zero => exact ⟨Nat.le_refl _, Nat.le_refl _⟩
  | succ k ih =>
    rw [pieces]
    split
    · simp; omega
    · omega
theorem pieces_hit {q : UInt8} {l : List UInt8} {k : Nat} (h : k < l.length) (hq : l[k] = q) : pieces q l (k + 1) = ((pieces q l k).1 ++ [(l.take k).drop (pieces q l k).2], k + 1) := by
  rw [pieces, if_pos (by rw [List.getElem?_eq_getElem h, hq])]
theorem pieces_miss {q : UInt8} {l : List UInt8} {k : Nat} (h : k < l.length) (hq : ¬ l[k] = q) : pieces q l (k + 1) = pieces q l k := by
  rw [pieces, if_neg (by rw [List.getElem?_eq_getElem h]; intro e; exact hq (Option.some.inj e))]
theorem pieces_small (q : UInt8) (l : List UInt8) (k : Nat) : ∀ x ∈ (pieces q l k).1, x.length ≤ l.length := by
  induction k with
  | zero => intro x hx; cases hx
  | succ k ih =>
    rw [pieces]
    split
    · intro x hx
      rcases List.mem_append.1 hx with h | h
      · exact ih x h
      · rw [List.mem_singleton] at h
        subst h
        rw [List.length_drop, List.length_take]
        omega
    · exact ih
theorem splitC_small (q : UInt8) (l : List UInt8) : ∀ x ∈ splitC q l, x.length ≤ l.length := by
  intro x hx
  rcases List.mem_append.1 hx with h | h
  · exact pieces_small q l _ x h
  · rw [List.mem_singleton] at h
    subst h
    rw [List.length_drop]
    omega
theorem splitC_len (q : UInt8) (l : List UInt8) : (splitC q l).length ≤ l.length + 1 := by
  unfold splitC
  rw [List.length_append, List.length_singleton]
  have := (pieces_start q l l.length).2
  omega
theorem cut_txt (s : ByteArray) (a b : Nat) : s.extract a b = txt ((s.data.toList.take b).drop a) := by
  apply ByteArray.ext
  unfold txt
  rw [ByteArray.data_extract]
  apply Array.ext'
  rw [Array.toList_extract, List.extract_eq_take_drop, List.drop_take]
theorem cut_txt_end (s : ByteArray) (a n : Nat) (h : s.data.toList.length = n) : s.extract a n = txt (s.data.toList.drop a) := by
  rw [cut_txt, ← h, List.take_length]
theorem index_one (q c : UInt8) : Lib.indexByte (⟨#[q]⟩ : ByteArray).data.toList ((c.toNat : Int).toNat.toUInt8) = if q = c then 0 else -1 := by
  have e : ((c.toNat : Int).toNat.toUInt8) = c := by simp
  rw [e]
  show (if q == c then (0 : Int) else if Lib.indexByte [] c == -1 then -1 else Lib.indexByte [] c + 1) = _
  by_cases h : q = c <;> simp [h, Lib.indexByte]

set_option maxHeartbeats 4000000 in
theorem implSplitAny_any (q : UInt8) (s : ByteArray) (hs : s.size ≤ 1048576) (w : World) :
    Calls Tryz.prog 95 #[.string s, .string ⟨#[q]⟩] w fun e w' => StrsMade (splitC q s.data.toList) w e w' := by
  obtain ⟨i0, hi0, hz0, hz1, hz2⟩ := info_parts str_info
  obtain ⟨L, hL⟩ : ∃ L, s.data.toList = L := ⟨_, rfl⟩
  have HL := Lib.hid hL
  obtain ⟨n, hn⟩ : ∃ n, s.size = n := ⟨_, rfl⟩
  have HN : Hid (L.length = n) := by rw [← hn, ← hL]; simp [Hid]
  rw [hL]
  clear hL
  go_enter Tryz.func95, Tryz.ntmps95
  go_wp2
  go_loopw [5, 6, 7] (fun v a i wr => ∃ (k b : Nat) (P : List (List UInt8)), k ≤ n ∧ b ≤ k ∧ P.length ≤ k ∧ i = .int .i64 k ∧ a = .int .i64 b ∧ pieces q L k = (P, b) ∧ Ext w wr ∧ wr.ownsRow w.heap.size 9 1 v P.length (strs P)) (fun _ _ i _ => n - (intOf i).toNat)
  case atStart => exact ⟨0, 0, [], Nat.zero_le _, Nat.le_refl _, Nat.le_refl _, rfl, rfl, rfl, Ext.refl _, World.ownsRow_nil _ _ _ _⟩
  case round =>
  obtain ⟨k, b, P, hk, hbk, hPk, rfl, rfl, hp, hx, hown⟩ := hrel
  have HP := Lib.hid hp
  clear hp
  have hsz := hx.size
  obtain ⟨r, hr⟩ : ∃ r, P.length = r := ⟨_, rfl⟩
  rw [hr] at hown hPk
  have HR := Lib.hid hr
  clear hr
  by_cases hlt : k < n
  rotate_left
  · obtain rfl : k = n := by omega
    have Hs : Hid (splitC q L = P ++ [L.drop b]) := by unfold Hid splitC; rw [HN.out, HP.out]
    have hbk2 : (b : Int) ≤ (k : Int) := by omega
    have Hcut := Lib.hid (cut_txt_end s b k (by rw [HL.out, HN.out]))
    rw [HL.out] at Hcut
    obtain ⟨t, ht⟩ : ∃ t, L.drop b = t := ⟨_, rfl⟩
    rw [ht] at Hcut Hs
    clear ht
    have hcut := Hcut.out
    go_wp2_with (at_builtin; go_must (refine wpList_append_own _ rfl _ _ 41 rfl w.heap.size 9 i0 (.string ByteArray.empty) 1 16 Tryz.underlying41 hi0 hz0 hz1 hz2 rfl (by decide) _ _ _ rfl (hown.alloc _) ⟨wr.heap.size, 0, none⟩ 1 1 [.string (txt t)] rfl rfl (cell_one_new _ _ _) (by simp [Value.oneCell']) (by unfold maxLen; omega) (by omega) (by simp; omega) ?_); intro v' w4 hown' hgrow _)
    have hx5 : Ext w w4 := (hx.alloc _).grown hgrow (fun g hg => (hown.lt g hg).1)
    go_wp2
    go_ret
    obtain ⟨A', c', rfl⟩ := own_form hown'
    have hl9 : r + 1 = (splitC q L).length := by rw [Hs.out, List.length_append, HR.out]; rfl
    exact StrsMade.mk (A := A') (c := c') hl9 rfl hx5 (by rw [Hs.out, strs_append]; exact hown')
  have hlt2 : (k : Int) < (n : Int) := by omega
  have hks : k < s.size := by omega
  have hkl : k < L.length := by rw [HN.out]; exact hlt
  obtain ⟨c, hc⟩ : ∃ c, s[k]'hks = c := ⟨_, rfl⟩
  have HC : Hid (L[k]'hkl = c) := by have h1 : s.data.toList[k]'(by rw [HL.out]; exact hkl) = c := hc; unfold Hid; rw [← h1]; congr 1; exact HL.out.symm
  go_wp2_with fail
  refine (Tryz.strings_IndexByte _ _ _).mono ?_
  rintro e w2 ⟨rfl, rfl⟩
  rw [index_one]
  by_cases hq : q = c
  · have Hp : Hid (pieces q L (k + 1) = (P ++ [(L.take k).drop b], k + 1)) := by rw [Hid, pieces_hit hkl (by rw [HC.out, hq]), HP.out]
    rw [if_pos hq]
    have hbk2 : (b : Int) ≤ (k : Int) := by omega
    have hkn2 : (k : Int) ≤ (n : Int) := by omega
    have Hcut := Lib.hid (cut_txt s b k)
    rw [HL.out] at Hcut
    obtain ⟨t, ht⟩ : ∃ t, (L.take k).drop b = t := ⟨_, rfl⟩
    rw [ht] at Hcut Hp
    clear ht hq
    have hcut := Hcut.out
    go_wp2_with (at_builtin; go_must (refine wpList_append_own _ rfl _ _ 41 rfl w.heap.size 9 i0 (.string ByteArray.empty) 1 16 Tryz.underlying41 hi0 hz0 hz1 hz2 rfl (by decide) _ _ _ rfl (hown.alloc _) ⟨w2.heap.size, 0, none⟩ 1 1 [.string (txt t)] rfl rfl (cell_one_new _ _ _) (by simp [Value.oneCell']) (by unfold maxLen; omega) (by omega) (by simp; omega) ?_); intro v' w4 hown' hgrow _)
    have hx5 : Ext w w4 := (hx.alloc _).grown hgrow (fun g hg => (hown.lt g hg).1)
    go_roundw
    case rel => exact ⟨k + 1, k + 1, P ++ [t], by omega, Nat.le_refl _, by rw [List.length_append, HR.out]; simp; omega, by go_num, by go_num, Hp.out, hx5, by rw [List.length_append, HR.out, strs_append]; exact hown'⟩
    case measure => simp [intOf]; omega
  · have Hp : Hid (pieces q L (k + 1) = (P, b)) := by rw [Hid, pieces_miss hkl (by rw [HC.out]; exact fun e => hq e.symm), HP.out]
    rw [if_neg hq]
    clear hq
    go_wp2
    go_roundw
    case rel => exact ⟨k + 1, b, P, by omega, by omega, by rw [HR.out]; omega, by go_num, rfl, Hp.out, hx, by rw [HR.out]; exact hown⟩
    case measure => simp [intOf]; omega

end Go.Proofs.YtlfepobnmmkcmaaGreatDoor
/- The numbers of a text: parseInts of the program, l23Numbers of the reference. (written by tools/mkNu.py) -/
namespace Go.Proofs.YtlfepobnmmkcmaaGreatDoor
open Go.ChangeShapes Go.WideShapes Go.ChangeAt Go.RowKit
set_option linter.unusedVariables false
set_option maxRecDepth 100000

def goodAt (P : List (List UInt8)) (k : Nat) : Bool := pB (P.getD k [])
def numsOk (P : List (List UInt8)) : Bool := P.all pB
def numsL (L : List UInt8) : List Int := if numsOk (splitC 32 L) = true then (splitC 32 L).map pV else []
theorem pV_bd (l : List UInt8) : I64 (pV l) := by
  unfold pV
  cases h : pI l with
  | none => exact ⟨by decide, by decide⟩
  | some n => exact (pI_some h).2
theorem all_take_at {f : List UInt8 → Bool} {P : List (List UInt8)} {k : Nat} (h : k < P.length) (ha : (P.take k).all f = true) (hf : f P[k] = true) : (P.take (k + 1)).all f = true := by
  rw [List.take_add_one, List.all_append, ha, List.getElem?_eq_getElem h]
  simp [hf]
theorem map_take_at {f : List UInt8 → Int} {P : List (List UInt8)} {k : Nat} (h : k < P.length) : (P.take (k + 1)).map f = (P.take k).map f ++ [f P[k]] := by
  rw [List.take_add_one, List.map_append, List.getElem?_eq_getElem h]
  simp
theorem all_not_at {f : List UInt8 → Bool} {P : List (List UInt8)} {k : Nat} (h : k < P.length) (hf : f P[k] = false) : P.all f = false := by
  rw [List.all_eq_false]
  exact ⟨_, List.getElem_mem h, by rw [hf]; simp⟩
set_option maxHeartbeats 4000000 in
theorem implparseInts_m (s : ByteArray) (hs : s.size ≤ 1048576) (w : World) (ht : Tab w) (he : Ers w) :
    Calls Tryz.prog 92 #[.string s] w fun e w' => ∃ A c n, e = .returned (.tuple #[.slice A n c, .bool (numsOk (splitC 32 s.data.toList))]) ∧ n = (numsL s.data.toList).length ∧ Mine w' w.heap.size w'.heap.size 3 1 (.slice A n c) n (ints (numsL s.data.toList)) ∧ Ext w w' := by
  obtain ⟨i0, hi0, hz0, hz1, hz2⟩ := info_parts int_info
  obtain ⟨L, hL⟩ : ∃ L, s.data.toList = L := ⟨_, rfl⟩
  have HL := Lib.hid hL
  have hLn : L.length ≤ 1048576 := by rw [← hL]; simpa using hs
  obtain ⟨P, hP⟩ : ∃ P, splitC 32 L = P := ⟨_, rfl⟩
  have HP := Lib.hid hP
  have HS : Hid (∀ k (h : k < P.length), P[k].length ≤ 1048576) := fun k h => Nat.le_trans (splitC_small 32 L _ (by rw [hP]; exact List.getElem_mem h)) hLn
  have hPn : P.length ≤ 1048577 := by have := splitC_len 32 L; rw [hP] at this; omega
  have HB : Hid (∀ h : numsOk P = false, numsL L = [] ∧ numsOk (splitC 32 L) = false) := fun h => ⟨by unfold numsL; rw [hP, h]; rfl, by rw [hP]; exact h⟩
  have HG : Hid (∀ h : numsOk P = true, numsL L = P.map pV ∧ numsOk (splitC 32 L) = true) := fun h => ⟨by unfold numsL; rw [hP, h]; rfl, by rw [hP]; exact h⟩
  rw [hL]
  clear hP hL
  have HT0 := Lib.hid ht
  have HE0 := Lib.hid he
  clear ht he
  go_enter Tryz.func92, Tryz.ntmps92
  go_wp2_with fail
  refine (implSplitAny_any 32 s hs _).mono ?_
  rintro e w1 ⟨A, c, rfl, th, hx1⟩
  rw [HL.out, HP.out] at th
  rw [HL.out, HP.out]
  have hrow := th.row
  clear th
  obtain ⟨n, hn⟩ : ∃ n, P.length = n := ⟨_, rfl⟩
  rw [hn] at hPn
  rw [hn]
  have HN := Lib.hid hn
  clear hn
  have HR := Lib.hid hrow
  have hs1 := hx1.size
  go_wp2
  go_loopw [4, 12] (fun v i wr => ∃ (k : Nat), k ≤ n ∧ i = .int .i64 k ∧ Ext w1 wr ∧ wr.ownsRow w1.heap.size 3 1 v k (ints ((P.take k).map pV)) ∧ (P.take k).all pB = true) (fun _ i _ => n - (intOf i).toNat)
  case atStart => exact ⟨0, Nat.zero_le _, rfl, Ext.refl _, World.ownsRow_nil _ _ _ _, rfl⟩
  case round =>
  obtain ⟨k, hk, rfl, hx, hown, hall⟩ := hrel
  have Hall := Lib.hid hall
  clear hall
  have hsz := hx.size
  by_cases hlt : k < n
  rotate_left
  · obtain rfl : k = n := by omega
    have hf : numsOk P = true := by have := Hall.out; rwa [List.take_of_length_le (by rw [HN.out]; omega)] at this
    obtain ⟨q1, q2⟩ := HG.out hf
    obtain ⟨A', c', rfl⟩ := own_form hown
    go_wp2
    go_ret2
    refine ⟨A', c', k, by rw [q2]; rfl, ?_, ?_, hx1.trans hx⟩
    · rw [q1, List.length_map, HN.out]
    · rw [q1]
      rw [List.take_of_length_le (by rw [HN.out]; omega)] at hown
      exact Mine.of_own (own_base hown (by omega))
  have hlt2 : (k : Int) < (n : Int) := by omega
  have hkl : k < P.length := by rw [HN.out]; exact hlt
  obtain ⟨b, off, rfl, hb, hc0⟩ := (HR.out.ext hx).str (k := k) hkl
  have hsk := HS.out k hkl
  have Hg : Hid (∀ h : pB P[k] = true, (P.take (k + 1)).all pB = true) := fun h => all_take_at hkl Hall.out h
  have Hb : Hid (∀ h : pB P[k] = false, numsOk P = false) := fun h => all_not_at hkl h
  have Hm : Hid ((P.take (k + 1)).map pV = (P.take k).map pV ++ [pV P[k]]) := map_take_at hkl
  obtain ⟨t, ht⟩ : ∃ t, P[k]'hkl = t := ⟨_, rfl⟩
  rw [ht] at hc0 hsk Hg Hb Hm
  clear ht
  have hst : (txt t).size ≤ 1048576 := by rw [txt_size]; exact hsk
  have HT := HT0.out.ext (hx1.trans hx)
  have HE := HE0.out.ext (hx1.trans hx)
  go_wp2_with fail
  refine (implParseInt_any (txt t) hst _ HT HE).mono ?_
  rintro e w2 ⟨rfl, hx2⟩
  rw [txt_list]
  by_cases hp : pB t = true
  rotate_left
  · have hp' : pB t = false := by simpa using hp
    obtain ⟨q1, q2⟩ := HB.out (Hb.out hp')
    rw [hp']
    clear hp hp'
    go_wp2
    go_ret2
    refine ⟨none, 0, 0, by rw [q2]; rfl, by rw [q1]; rfl, ?_, (hx1.trans hx).trans hx2⟩
    rw [q1]
    exact Mine.of_own (World.ownsRow_nil w2 w.heap.size 3 1)
  have Hok := Lib.hid (Hg.out hp)
  rw [hp]
  clear hp
  obtain ⟨z, hz⟩ : ∃ z, pV t = z := ⟨_, rfl⟩
  rw [hz] at Hm ⊢
  clear hz
  have hown2 := own_ext hown hx2
  have hsz2 := hx2.size
  go_wp2_with (at_builtin; go_must (refine wpList_append_own _ rfl _ _ 23 rfl w1.heap.size 3 i0 (.int .i64 0) 1 8 Tryz.underlying23 hi0 hz0 hz1 hz2 rfl (by decide) _ _ _ rfl (hown2.alloc _) ⟨w2.heap.size, 0, none⟩ 1 1 [.int .i64 z] rfl rfl (cell_one_new _ _ _) (by simp [Value.oneCell']) (by unfold maxLen; omega) (by omega) (by simp; omega) ?_); intro v' w4 hown' hgrow _)
  have hx5 : Ext w1 w4 := ((hx.trans hx2).alloc _).grown hgrow (fun g hg => (hown.lt g hg).1)
  go_roundw
  case rel => exact ⟨k + 1, by omega, by go_num, hx5, by rw [Hm.out, ints_append]; exact hown', Hok.out⟩
  case measure => simp [intOf]; omega
theorem implparseInts_any (s : ByteArray) (hs : s.size ≤ 1048576) (w : World) (ht : Tab w) (he : Ers w) :
    Calls Tryz.prog 92 #[.string s] w fun e w' => ∃ A c n, e = .returned (.tuple #[.slice A n c, .bool (numsOk (splitC 32 s.data.toList))]) ∧ n = (numsL s.data.toList).length ∧ Row w' A (ints (numsL s.data.toList)) ∧ Ext w w' :=
  (implparseInts_m s hs w ht he).mono fun _ _ ⟨A, c, n, h1, h2, h3, h4⟩ => ⟨A, c, n, h1, h2, h3.row, h4⟩

end Go.Proofs.YtlfepobnmmkcmaaGreatDoor
/- ParseRatio, both: read off their walks. (written by tools/mkPr.py) -/
namespace Go.Proofs.YtlfepobnmmkcmaaGreatDoor
open Go.ChangeShapes Go.WideShapes Go.ChangeAt Go.RowKit
set_option linter.unusedVariables false
set_option maxRecDepth 100000

def ratP (L : List UInt8) (P : List (List UInt8)) : Ratio × Bool :=
  match P with
  | [a] => if pB a = true ∧ ratioOk ⟨pV a, 1⟩ = true ∧ ratioT ⟨pV a, 1⟩ = L then (⟨pV a, 1⟩, true) else (⟨0, 0⟩, false)
  | [a, b] => if pB a = true ∧ pB b = true ∧ ratioOk ⟨pV a, pV b⟩ = true ∧ ratioT ⟨pV a, pV b⟩ = L then (⟨pV a, pV b⟩, true) else (⟨0, 0⟩, false)
  | _ => (⟨0, 0⟩, false)
/-- what ParseRatio gives of a text -/
def ratR (L : List UInt8) : Ratio × Bool := ratP L (splitC 47 L)
theorem first_short (q : UInt8) (l : List UInt8) (k : Nat) (hk : k ≤ l.length) : (pieces q l k).1 = [] ∨ ∃ x r, (pieces q l k).1 = x :: r ∧ x.length < l.length := by
  induction k with
  | zero => exact Or.inl rfl
  | succ k ih =>
    rw [pieces]
    split
    · rcases ih (by omega) with h | ⟨x, r, h, hx⟩
      · rw [h]
        refine Or.inr ⟨_, [], rfl, ?_⟩
        rw [List.length_drop, List.length_take]
        omega
      · rw [h]
        exact Or.inr ⟨x, r ++ [_], rfl, hx⟩
    · exact ih (by omega)
theorem ratR_bad0 {L t0 : List UInt8} {P : List (List UInt8)} (hP : splitC 47 L = P) (h0 : 0 < P.length) (ht : P[0] = t0) (h : pB t0 = false) : ratR L = (⟨0, 0⟩, false) := by
  unfold ratR ratP
  rw [hP]
  subst ht
  match P, h0, h with
  | [a], _, h => simp only [List.getElem_cons_zero] at h; simp [h]
  | [a, b], _, h => simp only [List.getElem_cons_zero] at h; simp [h]
  | a :: b :: c :: r, _, _ => rfl
theorem ratR_long {L : List UInt8} {P : List (List UInt8)} (hP : splitC 47 L = P) (h : 2 < P.length) : ratR L = (⟨0, 0⟩, false) := by
  unfold ratR ratP
  rw [hP]
  match P, h with
  | a :: b :: c :: r, _ => rfl
theorem one_of' {α : Type} {P : List α} (h : P.length = 1) : ∃ a, P = [a] := by
  match P, h with
  | [a], _ => exact ⟨a, rfl⟩
theorem two_of' {α : Type} {P : List α} (h : P.length = 2) : ∃ a b, P = [a, b] := by
  match P, h with
  | [a, b], _ => exact ⟨a, b, rfl⟩
/-- one piece, or more than two: the number alone -/
theorem ratR_one {L t0 : List UInt8} {P : List (List UInt8)} (hP : splitC 47 L = P) (h0 : 0 < P.length) (h2 : P.length ≠ 2) (ht : P[0] = t0) (h : pB t0 = true) :
    ratR L = if ratioOk ⟨pV t0, 1⟩ = true ∧ ratioT ⟨pV t0, 1⟩ = L then (⟨pV t0, 1⟩, true) else (⟨0, 0⟩, false) := by
  by_cases h1 : P.length = 1
  · obtain ⟨a, rfl⟩ := one_of' h1
    simp only [List.getElem_cons_zero] at ht
    subst ht
    unfold ratR ratP
    rw [hP]
    simp [h]
  · have h3 : 2 < P.length := by omega
    rw [ratR_long hP h3, if_neg]
    rintro ⟨e1, e2⟩
    unfold ratioT at e2
    rw [if_pos e1, if_pos rfl] at e2
    have e3 : numT (pV t0) = t0 := by
      unfold pB at h
      unfold pV
      cases hp : pI t0 with
      | none => rw [hp] at h; cases h
      | some n => exact (pI_some hp).1
    have e4 : L = t0 := e2.symm.trans e3
    unfold splitC at hP
    rcases first_short 47 L L.length (Nat.le_refl _) with h5 | ⟨x, r, h5, h6⟩
    · rw [h5] at hP
      rw [← hP] at h3
      simp at h3
    · rw [h5] at hP
      subst hP
      simp only [List.cons_append, List.getElem_cons_zero] at ht
      rw [e4, ← ht] at h6
      omega
theorem ratR_two {L t0 t1 : List UInt8} {P : List (List UInt8)} (hP : splitC 47 L = P) (h2 : P.length = 2) (ht : P[0] = t0) (ht1 : P[1] = t1) (h : pB t0 = true) :
    ratR L = if pB t1 = true ∧ ratioOk ⟨pV t0, pV t1⟩ = true ∧ ratioT ⟨pV t0, pV t1⟩ = L then (⟨pV t0, pV t1⟩, true) else (⟨0, 0⟩, false) := by
  obtain ⟨a, b, rfl⟩ := two_of' h2
  simp only [List.getElem_cons_zero, List.getElem_cons_succ] at ht ht1
  subst ht ht1
  unfold ratR ratP
  rw [hP]
  simp [h]
theorem splitC_pos (q : UInt8) (l : List UInt8) : 0 < (splitC q l).length := by
  unfold splitC
  simp
theorem ratR_bd (L : List UInt8) : I64 (ratR L).1.N ∧ I64 (ratR L).1.D := by
  unfold ratR ratP
  have z : I64 0 := ⟨by decide, by decide⟩
  split
  · split
    · exact ⟨pV_bd _, (⟨by decide, by decide⟩ : I64 1)⟩
    · exact ⟨z, z⟩
  · split
    · exact ⟨pV_bd _, pV_bd _⟩
    · exact ⟨z, z⟩
  · exact ⟨z, z⟩

set_option maxHeartbeats 8000000 in
theorem implParseRatio_any (s : ByteArray) (hs : s.size ≤ 1048576) (w : World) (ht : Tab w) (he : Ers w) :
    Calls Tryz.prog 97 #[.string s] w fun e w' => e = .returned (.tuple #[.agg #[.int .i64 (ratR s.data.toList).1.N, .int .i64 (ratR s.data.toList).1.D], .bool (ratR s.data.toList).2]) ∧ Ext w w' := by
  have hx : Ext w (w.alloc (.cells #[.int .i64 0, .int .i64 0] 44)) := (Ext.refl w).alloc _
  have b0 := Blk.new w 44 #[.int .i64 0, .int .i64 0]
  obtain ⟨L, hL⟩ : ∃ L, s.data.toList = L := ⟨_, rfl⟩
  have HL := Lib.hid hL
  have hLn : L.length ≤ 1048576 := by rw [← hL]; simpa using hs
  obtain ⟨P, hP⟩ : ∃ P, splitC 47 L = P := ⟨_, rfl⟩
  have HP := Lib.hid hP
  have HS : Hid (∀ k (h : k < P.length), P[k].length ≤ 1048576) := fun k h => Nat.le_trans (splitC_small 47 L _ (by rw [hP]; exact List.getElem_mem h)) hLn
  have hP0 : 0 < P.length := by rw [← hP]; exact splitC_pos _ _
  have hPn : P.length ≤ 1048577 := by have := splitC_len 47 L; rw [hP] at this; omega
  obtain ⟨t0, ht0⟩ : ∃ t, P[0] = t := ⟨_, rfl⟩
  have hst : (txt t0).size ≤ 1048576 := by rw [txt_size, ← ht0]; exact HS.out 0 hP0
  have Hbad : Hid (∀ h : pB t0 = false, ratR L = (⟨0, 0⟩, false)) := fun h => ratR_bad0 hP hP0 ht0 h
  have Hone : Hid (∀ h2 : P.length ≠ 2, ∀ h : pB t0 = true, ratR L = if ratioOk ⟨pV t0, 1⟩ = true ∧ ratioT ⟨pV t0, 1⟩ = L then (⟨pV t0, 1⟩, true) else (⟨0, 0⟩, false)) := fun h2 h => ratR_one hP hP0 h2 ht0 h
  have Htwo : Hid (∀ h2 : P.length = 2, ∀ t1, ∀ _ : P[1] = t1, ∀ h : pB t0 = true, ratR L = if pB t1 = true ∧ ratioOk ⟨pV t0, pV t1⟩ = true ∧ ratioT ⟨pV t0, pV t1⟩ = L then (⟨pV t0, pV t1⟩, true) else (⟨0, 0⟩, false)) := fun h2 t1 e h => ratR_two hP h2 ht0 e h
  have Hlong : Hid (∀ h : 2 < P.length, ratR L = (⟨0, 0⟩, false)) := fun h => ratR_long hP h
  have H0 := Lib.hid ht0
  rw [hL]
  clear hP hL ht0
  have HT0 := Lib.hid ht
  have HE0 := Lib.hid he
  clear ht he
  go_enter Tryz.func97, Tryz.ntmps97
  go_wp2_with fail
  refine (implSplitAny_any 47 s hs _).mono ?_
  rintro e w1 ⟨A, c, rfl, th, hx1⟩
  rw [HL.out, HP.out] at th
  rw [HL.out, HP.out]
  have hrow := th.row
  clear th
  replace b0 := b0.ext hx1
  replace hx := hx.trans hx1
  obtain ⟨b, off, rfl, hb, hc0⟩ := hrow.str (k := 0) hP0
  rw [H0.out] at hc0
  rw [Nat.add_zero] at hc0
  have HR := Lib.hid hrow
  clear hrow
  have HT := HT0.out.ext hx
  have HE := HE0.out.ext hx
  go_wp2_with fail
  refine (implParseInt_any (txt t0) hst _ HT HE).mono ?_
  rintro e w2 ⟨rfl, hx2⟩
  rw [txt_list]
  clear HT HE
  have HR2 := Lib.hid (HR.out.ext hx2)
  replace b0 := b0.ext hx2
  replace hx := hx.trans hx2
  obtain ⟨n, hn⟩ : ∃ n, P.length = n := ⟨_, rfl⟩
  have hn0 := hP0
  rw [hn] at hPn hn0
  rw [hn]
  have HN := Lib.hid hn
  clear hn hc0
  obtain ⟨x, hxv⟩ : ∃ x, pV t0 = x := ⟨_, rfl⟩
  have hIx : I64 x := by rw [← hxv]; exact pV_bd _
  rw [hxv] at Hone Htwo ⊢
  clear hxv
  have c0 := fun o => b0.cell o
  have f0 := fun o => b0.frozen o
  have hlt := b0.lt
  by_cases hp : pB t0 = true
  rotate_left
  · have hp' : pB t0 = false := by simpa using hp
    have H := Lib.hid (Hbad.out hp')
    rw [hp']
    clear hp hp'
    have c0 := fun o => b0.cell o
    have f0 := fun o => b0.frozen o
    have hlt := b0.lt
    have hq := hx.size
    try simp only [World.size_alloc] at hq
    go_wp2
    have bF := (b0.set_ 0 (.int .i64 0)).set_ 1 (.int .i64 0)
    replace bF := bF.alloc (.cells #[.int .i64 x, .int .i64 1] 44)
    have cF := fun o => bF.cell o
    refine bodyPost_ret (v := .tuple #[.agg #[.int .i64 0, .int .i64 0], .bool false]) (by simp [results, Tryz.results97, go_sem, cF]) rfl ⟨by rw [H.out], ?_⟩
    exact ((hx.setCell (by first | omega | (simp <;> omega)) _).setCell (by first | omega | (simp <;> omega)) _).alloc _
  have Hp := Lib.hid hp
  rw [hp]
  clear hp
  by_cases h2 : n = 2
  · obtain ⟨t1, ht1⟩ : ∃ t, P[1]'(by rw [HN.out]; omega) = t := ⟨_, rfl⟩
    obtain ⟨b', off', hA1, hb1, hc1⟩ := HR2.out.str (k := 1) (by rw [HN.out]; omega)
    injection hA1 with hA1
    injection hA1 with q1 q2
    subst q1 q2
    rw [ht1] at hc1
    have hst1 : (txt t1).size ≤ 1048576 := by rw [txt_size, ← ht1]; exact HS.out 1 (by rw [HN.out]; omega)
    have HZ0 := Lib.hid (Htwo.out (by rw [HN.out]; exact h2) t1 ht1 Hp.out)
    have bH := Blk.new w2 44 #[.int .i64 x, .int .i64 1]
    clear ht1
    subst h2
    replace b0 := b0.alloc (.cells #[.int .i64 x, .int .i64 1] 44)
    replace hx := hx.alloc (.cells #[.int .i64 x, .int .i64 1] 44)
    have hsz2 := hx1.size
    have hsz3 := hx2.size
    simp only [World.size_alloc] at hsz2
    have HT := HT0.out.ext hx
    have HE := HE0.out.ext hx
    go_wp2_with fail
    refine (implParseInt_any (txt t1) hst1 _ HT HE).mono ?_
    rintro e w3 ⟨rfl, hx3⟩
    rw [txt_list]
    clear HT HE
    replace b0 := b0.ext hx3
    replace bH := bH.ext hx3
    replace hx := hx.trans hx3
    obtain ⟨y, hyv⟩ : ∃ y, pV t1 = y := ⟨_, rfl⟩
    have hIy : I64 y := by rw [← hyv]; exact pV_bd _
    rw [hyv] at HZ0 ⊢
    clear hyv hc1
    have cH := fun o => bH.cell o
    have fH := fun o => bH.frozen o
    have hltH := bH.lt
    replace hx := hx.setCell (p := ⟨w2.heap.size, 1, none⟩) (by first | omega | (simp <;> omega)) (.int .i64 y)
    replace b0 := b0.far (p := ⟨w2.heap.size, 1, none⟩) (by first | omega | (simp <;> omega)) (.int .i64 y)
    replace bH := bH.set_ 1 (.int .i64 y)
    by_cases hp1 : pB t1 = true
    rotate_left
    · have hp1' : pB t1 = false := by simpa using hp1
      have H := Lib.hid (HZ0.out.trans (if_neg (fun e => hp1 e.1)))
      rw [hp1']
      clear hp1 hp1' HZ0
      have c0 := fun o => b0.cell o
      have f0 := fun o => b0.frozen o
      have hlt := b0.lt
      have hq := hx.size
      try simp only [World.size_alloc] at hq
      go_wp2
      have bF := (b0.set_ 0 (.int .i64 0)).set_ 1 (.int .i64 0)
      have cF := fun o => bF.cell o
      refine bodyPost_ret (v := .tuple #[.agg #[.int .i64 0, .int .i64 0], .bool false]) (by simp [results, Tryz.results97, go_sem, cF]) rfl ⟨by rw [H.out], ?_⟩
      exact (hx.setCell (by first | omega | (simp <;> omega)) _).setCell (by first | omega | (simp <;> omega)) _
    have HZ : Hid (ratR L = if ratioOk ⟨x, y⟩ = true ∧ ratioT ⟨x, y⟩ = L then (⟨x, y⟩, true) else (⟨0, 0⟩, false)) := by
      have h9 := HZ0.out
      simp only [hp1, true_and] at h9
      exact h9
    rw [hp1]
    clear hp1 HZ0
    have cH2 := fun o => bH.cell o
    go_wp2_with fail
    refine (implRatioOk_any x y _ hIx hIy).mono ?_
    rintro e w7 ⟨rfl, hx7⟩
    replace b0 := b0.ext hx7
    replace bH := bH.ext hx7
    replace hx := hx.trans hx7
    have cH7 := fun o => bH.cell o
    by_cases hr : ratioOk ⟨x, y⟩ = true
    rotate_left
    · have hr' : ratioOk ⟨x, y⟩ = false := by simpa using hr
      have H := Lib.hid (HZ.out.trans (if_neg (fun e => hr e.1)))
      rw [hr']
      clear hr hr' HZ
      have c0 := fun o => b0.cell o
      have f0 := fun o => b0.frozen o
      have hlt := b0.lt
      have hq := hx.size
      try simp only [World.size_alloc] at hq
      go_wp2
      have bF := (b0.set_ 0 (.int .i64 0)).set_ 1 (.int .i64 0)
      have cF := fun o => bF.cell o
      refine bodyPost_ret (v := .tuple #[.agg #[.int .i64 0, .int .i64 0], .bool false]) (by simp [results, Tryz.results97, go_sem, cF]) rfl ⟨by rw [H.out], ?_⟩
      exact (hx.setCell (by first | omega | (simp <;> omega)) _).setCell (by first | omega | (simp <;> omega)) _
    rw [hr]
    have HR9 := Lib.hid hr
    clear hr
    have HT := HT0.out.ext hx
    go_wp2_with fail
    refine (implFormatRatio_any x y _ hIx hIy HT).mono ?_
    rintro e w8 ⟨rfl, hx8⟩
    clear HT
    replace b0 := b0.ext hx8
    replace bH := bH.ext hx8
    replace hx := hx.trans hx8
    have cH8 := fun o => bH.cell o
    by_cases hc : ratioT ⟨x, y⟩ = L
    rotate_left
    · have hcm : ((txt (ratioT ⟨x, y⟩)).toList == s.toList) = false := by rw [txt_same, HL.out, decide_eq_false_iff_not]; exact hc
      have H := Lib.hid (HZ.out.trans (if_neg (fun e => hc e.2)))
      clear hc HZ
      have c0 := fun o => b0.cell o
      have f0 := fun o => b0.frozen o
      have hlt := b0.lt
      have hq := hx.size
      try simp only [World.size_alloc] at hq
      go_wp2
      have bF := (b0.set_ 0 (.int .i64 0)).set_ 1 (.int .i64 0)
      have cF := fun o => bF.cell o
      refine bodyPost_ret (v := .tuple #[.agg #[.int .i64 0, .int .i64 0], .bool false]) (by simp [results, Tryz.results97, go_sem, cF]) rfl ⟨by rw [H.out], ?_⟩
      exact (hx.setCell (by first | omega | (simp <;> omega)) _).setCell (by first | omega | (simp <;> omega)) _
    have hcm : ((txt (ratioT ⟨x, y⟩)).toList == s.toList) = true := by rw [txt_same, HL.out, decide_eq_true_eq]; exact hc
    have HC9 := Lib.hid hc
    clear hc
    have H := Lib.hid (HZ.out.trans (if_pos ⟨HR9.out, HC9.out⟩))
    have c0 := fun o => b0.cell o
    have f0 := fun o => b0.frozen o
    have hlt := b0.lt
    have hq := hx.size
    try simp only [World.size_alloc] at hq
    go_wp2
    have bF := (b0.set_ 0 (.int .i64 x)).set_ 1 (.int .i64 y)
    have cF := fun o => bF.cell o
    refine bodyPost_ret (v := .tuple #[.agg #[.int .i64 x, .int .i64 y], .bool true]) (by simp [results, Tryz.results97, go_sem, cF]) rfl ⟨by rw [H.out], ?_⟩
    exact (hx.setCell (by first | omega | (simp <;> omega)) _).setCell (by first | omega | (simp <;> omega)) _
  have h2' : ((n : Int) == 2) = false := by rw [beq_eq_false_iff_ne]; omega
  have HZ := Lib.hid (Hone.out (by rw [HN.out]; exact h2) Hp.out)
  have hIy : I64 (1 : Int) := ⟨by decide, by decide⟩
  have bH := Blk.new w2 44 #[.int .i64 x, .int .i64 1]
  replace b0 := b0.alloc (.cells #[.int .i64 x, .int .i64 1] 44)
  replace hx := hx.alloc (.cells #[.int .i64 x, .int .i64 1] 44)
  have cH := fun o => bH.cell o
  go_wp2_with fail
  refine (implRatioOk_any x 1 _ hIx hIy).mono ?_
  rintro e w7 ⟨rfl, hx7⟩
  replace b0 := b0.ext hx7
  replace bH := bH.ext hx7
  replace hx := hx.trans hx7
  have cH7 := fun o => bH.cell o
  by_cases hr : ratioOk ⟨x, 1⟩ = true
  rotate_left
  · have hr' : ratioOk ⟨x, 1⟩ = false := by simpa using hr
    have H := Lib.hid (HZ.out.trans (if_neg (fun e => hr e.1)))
    rw [hr']
    clear hr hr' HZ
    have c0 := fun o => b0.cell o
    have f0 := fun o => b0.frozen o
    have hlt := b0.lt
    have hq := hx.size
    try simp only [World.size_alloc] at hq
    go_wp2
    have bF := (b0.set_ 0 (.int .i64 0)).set_ 1 (.int .i64 0)
    have cF := fun o => bF.cell o
    refine bodyPost_ret (v := .tuple #[.agg #[.int .i64 0, .int .i64 0], .bool false]) (by simp [results, Tryz.results97, go_sem, cF]) rfl ⟨by rw [H.out], ?_⟩
    exact (hx.setCell (by first | omega | (simp <;> omega)) _).setCell (by first | omega | (simp <;> omega)) _
  rw [hr]
  have HR9 := Lib.hid hr
  clear hr
  have HT := HT0.out.ext hx
  go_wp2_with fail
  refine (implFormatRatio_any x 1 _ hIx hIy HT).mono ?_
  rintro e w8 ⟨rfl, hx8⟩
  clear HT
  replace b0 := b0.ext hx8
  replace bH := bH.ext hx8
  replace hx := hx.trans hx8
  have cH8 := fun o => bH.cell o
  by_cases hc : ratioT ⟨x, 1⟩ = L
  rotate_left
  · have hcm : ((txt (ratioT ⟨x, 1⟩)).toList == s.toList) = false := by rw [txt_same, HL.out, decide_eq_false_iff_not]; exact hc
    have H := Lib.hid (HZ.out.trans (if_neg (fun e => hc e.2)))
    clear hc HZ
    have c0 := fun o => b0.cell o
    have f0 := fun o => b0.frozen o
    have hlt := b0.lt
    have hq := hx.size
    try simp only [World.size_alloc] at hq
    go_wp2
    have bF := (b0.set_ 0 (.int .i64 0)).set_ 1 (.int .i64 0)
    have cF := fun o => bF.cell o
    refine bodyPost_ret (v := .tuple #[.agg #[.int .i64 0, .int .i64 0], .bool false]) (by simp [results, Tryz.results97, go_sem, cF]) rfl ⟨by rw [H.out], ?_⟩
    exact (hx.setCell (by first | omega | (simp <;> omega)) _).setCell (by first | omega | (simp <;> omega)) _
  have hcm : ((txt (ratioT ⟨x, 1⟩)).toList == s.toList) = true := by rw [txt_same, HL.out, decide_eq_true_eq]; exact hc
  have HC9 := Lib.hid hc
  clear hc
  have H := Lib.hid (HZ.out.trans (if_pos ⟨HR9.out, HC9.out⟩))
  have c0 := fun o => b0.cell o
  have f0 := fun o => b0.frozen o
  have hlt := b0.lt
  have hq := hx.size
  try simp only [World.size_alloc] at hq
  go_wp2
  have bF := (b0.set_ 0 (.int .i64 x)).set_ 1 (.int .i64 1)
  have cF := fun o => bF.cell o
  refine bodyPost_ret (v := .tuple #[.agg #[.int .i64 x, .int .i64 1], .bool true]) (by simp [results, Tryz.results97, go_sem, cF]) rfl ⟨by rw [H.out], ?_⟩
  exact (hx.setCell (by first | omega | (simp <;> omega)) _).setCell (by first | omega | (simp <;> omega)) _

end Go.Proofs.YtlfepobnmmkcmaaGreatDoor
/- ParseSpan, both: read off their walks; eqSpan of one span. (written by tools/mkPs.py) -/
namespace Go.Proofs.YtlfepobnmmkcmaaGreatDoor
open Go.ChangeShapes Go.WideShapes Go.ChangeAt Go.RowKit
set_option linter.unusedVariables false
set_option maxRecDepth 100000

theorem max_ext {w w' : World} {g : Nat} {v : Value} (hm : w.cell? ⟨g, 0, none⟩ = some v) (hx : Ext w w') : w'.cell? ⟨g, 0, none⟩ = some v := by
  rw [hx.use.1 _ _ ?_]
  · exact hm
  · by_cases h : g < w.heap.size
    · exact h
    · exfalso
      have hge := Array.getElem?_eq_none (xs := w.heap) (i := g) (by omega)
      simp [World.cell?, hge] at hm
/-- what ParseSpan gives of a text -/
def spanR (L : List UInt8) : Span × Bool :=
  if (Lib.cut L [46, 46]).2.2 = true ∧ (ratR (Lib.cut L [46, 46]).1).2 = true ∧ (ratR (Lib.cut L [46, 46]).2.1).2 = true ∧ spanOk ⟨(ratR (Lib.cut L [46, 46]).1).1, (ratR (Lib.cut L [46, 46]).2.1).1⟩ = true
  then (⟨(ratR (Lib.cut L [46, 46]).1).1, (ratR (Lib.cut L [46, 46]).2.1).1⟩, true) else (⟨⟨0, 0⟩, ⟨0, 0⟩⟩, false)
theorem spanR_miss {L lo hi : List UInt8} (h : Lib.cut L [46, 46] = (lo, hi, false)) : spanR L = (⟨⟨0, 0⟩, ⟨0, 0⟩⟩, false) := by
  unfold spanR
  rw [h]
  simp
theorem spanR_hit {L lo hi : List UInt8} {a b c d : Int} {q r : Bool} (h : Lib.cut L [46, 46] = (lo, hi, true)) (h1 : ratR lo = (⟨a, b⟩, q)) (h2 : ratR hi = (⟨c, d⟩, r)) :
    spanR L = if q = true ∧ r = true ∧ spanOk ⟨⟨a, b⟩, ⟨c, d⟩⟩ = true then (⟨⟨a, b⟩, ⟨c, d⟩⟩, true) else (⟨⟨0, 0⟩, ⟨0, 0⟩⟩, false) := by
  unfold spanR
  rw [h]
  simp only [h1, h2, true_and]
theorem dots_yes {L : List UInt8} {k : Nat} (h : k + 1 < L.length) (h0 : L[k] = 46) (h1 : L[k + 1] = 46) : Lib.occAt L [46, 46] k = true := by
  unfold Lib.occAt
  rw [List.drop_eq_getElem_cons (by omega), List.drop_eq_getElem_cons h, h0, h1]
  simp
theorem dots_no {L : List UInt8} {k : Nat} (h : k + 1 < L.length) (h0 : L[k] ≠ 46 ∨ L[k + 1] ≠ 46) : Lib.occAt L [46, 46] k = false := by
  unfold Lib.occAt
  rw [List.drop_eq_getElem_cons (by omega), List.drop_eq_getElem_cons h]
  rcases h0 with h0 | h0
  · simp [List.isPrefixOf, Ne.symm h0]
  · simp [List.isPrefixOf, Ne.symm h0]
theorem dots_end {L : List UInt8} {k : Nat} (h : ¬ k + 1 < L.length) : Lib.occAt L [46, 46] k = false := by
  cases hc : Lib.occAt L [46, 46] k with
  | false => rfl
  | true =>
    rcases Lib.occAt_room hc with h1 | h1
    · simp at h1; omega
    · cases h1
theorem cut_hit {L : List UInt8} {k : Nat} (h : k + 1 < L.length) (h0 : L[k] = 46) (h1 : L[k + 1] = 46) (hn : ∀ j, j < k → Lib.occAt L [46, 46] j = false) : Lib.cut L [46, 46] = (L.take k, L.drop (k + 2), true) := by
  have hi : Lib.index L [46, 46] = k := Lib.index_first (by omega) (dots_yes h h0 h1) hn
  unfold Lib.cut
  rw [hi, if_pos (by omega)]
  simp
theorem cut_miss {L : List UInt8} {k : Nat} (h : ¬ k + 1 < L.length) (hn : ∀ j, j < k → Lib.occAt L [46, 46] j = false) : Lib.cut L [46, 46] = (L, [], false) := by
  have hi : Lib.index L [46, 46] = -1 := Lib.index_none (fun j _ => by
    by_cases hj : j < k
    · exact hn j hj
    · exact dots_end (by omega))
  unfold Lib.cut
  rw [hi, if_neg (by omega)]
theorem cut_len (L : List UInt8) : (Lib.cut L [46, 46]).1.length ≤ L.length ∧ (Lib.cut L [46, 46]).2.1.length ≤ L.length := by
  unfold Lib.cut
  split
  · simp only [List.length_take, List.length_drop]; omega
  · simp
theorem occ_succ {L : List UInt8} {k : Nat} (hn : ∀ j, j < k → Lib.occAt L [46, 46] j = false) (h : Lib.occAt L [46, 46] k = false) : ∀ j, j < k + 1 → Lib.occAt L [46, 46] j = false := by
  intro j hj
  by_cases e : j = k
  · rw [e]; exact h
  · exact hn j (by omega)
theorem implParseRatio_at {l : List UInt8} {a b : Int} {q : Bool} (h : ratR l = (⟨a, b⟩, q)) (hl : l.length ≤ 1048576) (w : World) (ht : Tab w) (he : Ers w) :
    Calls Tryz.prog 97 #[.string (txt l)] w fun e w' => e = .returned (.tuple #[.agg #[.int .i64 a, .int .i64 b], .bool q]) ∧ Ext w w' := by
  have h1 := implParseRatio_any (txt l) (by rw [txt_size]; exact hl) w ht he
  rw [txt_list, h] at h1
  exact h1

set_option maxHeartbeats 8000000 in
theorem implParseSpan_any (s : ByteArray) (hs : s.size ≤ 1048576) (w : World) (hm : ∃ m, w.cell? ⟨0, 0, none⟩ = some (.int .i64 m)) (ht : Tab w) (he : Ers w) :
    Calls Tryz.prog 40 #[.string s] w fun e w' => e = .returned (.tuple #[.agg #[.int .i64 (spanR s.data.toList).1.Low.N, .int .i64 (spanR s.data.toList).1.Low.D, .int .i64 (spanR s.data.toList).1.High.N, .int .i64 (spanR s.data.toList).1.High.D], .bool (spanR s.data.toList).2]) ∧ Ext w w' := by
  have hx : Ext w (w.alloc (.cells #[.int .i64 0, .int .i64 0, .int .i64 0, .int .i64 0] 46)) := (Ext.refl w).alloc _
  have b0 := Blk.new w 46 #[.int .i64 0, .int .i64 0, .int .i64 0, .int .i64 0]
  obtain ⟨L, hL⟩ : ∃ L, s.data.toList = L := ⟨_, rfl⟩
  have HL := Lib.hid hL
  have hLn : L.length ≤ 1048576 := by rw [← hL]; simpa using hs
  obtain ⟨m, hm⟩ := hm
  have hm0 := max_ext hm hx
  have HCT := Lib.hid (Tryz.strings_Cut s ⟨#[46, 46]⟩ m _ (by omega) hm0)
  clear hm0 hm
  obtain ⟨lo, hlo⟩ : ∃ x, (Lib.cut L [46, 46]).1 = x := ⟨_, rfl⟩
  obtain ⟨hi, hhi⟩ : ∃ x, (Lib.cut L [46, 46]).2.1 = x := ⟨_, rfl⟩
  obtain ⟨fd, hfd⟩ : ∃ x, (Lib.cut L [46, 46]).2.2 = x := ⟨_, rfl⟩
  have hle := cut_len L
  rw [hlo, hhi] at hle
  obtain ⟨hl1, hl2⟩ := hle
  obtain ⟨⟨⟨a, b⟩, q⟩, hr1⟩ : ∃ x, ratR lo = x := ⟨_, rfl⟩
  obtain ⟨⟨⟨c, d⟩, r⟩, hr2⟩ : ∃ x, ratR hi = x := ⟨_, rfl⟩
  have hIa : I64 a := by have := (ratR_bd lo).1; rwa [hr1] at this
  have hIb : I64 b := by have := (ratR_bd lo).2; rwa [hr1] at this
  have hIc : I64 c := by have := (ratR_bd hi).1; rwa [hr2] at this
  have hId : I64 d := by have := (ratR_bd hi).2; rwa [hr2] at this
  have HB : Hid (∀ _ : fd = false, spanR L = (⟨⟨0, 0⟩, ⟨0, 0⟩⟩, false)) := fun e => spanR_miss (lo := lo) (hi := hi) (by rw [← hlo, ← hhi, ← e, ← hfd])
  have HG : Hid (∀ _ : fd = true, spanR L = if q = true ∧ r = true ∧ spanOk ⟨⟨a, b⟩, ⟨c, d⟩⟩ = true then (⟨⟨a, b⟩, ⟨c, d⟩⟩, true) else (⟨⟨0, 0⟩, ⟨0, 0⟩⟩, false)) := fun e => spanR_hit (lo := lo) (hi := hi) (by rw [← hlo, ← hhi, ← e, ← hfd]) hr1 hr2
  have HC2 : Hid (Lib.cut L [46, 46] = (lo, hi, fd)) := by unfold Hid; rw [← hlo, ← hhi, ← hfd]
  have HR1 := Lib.hid hr1
  have HR2 := Lib.hid hr2
  rw [hL]
  clear hL hlo hhi hfd hr1 hr2
  have HT0 := Lib.hid ht
  have HE0 := Lib.hid he
  clear ht he
  go_enter Tryz.func40, Tryz.ntmps40
  go_wp2_with fail
  refine HCT.out.mono ?_
  clear HCT
  rintro e w1 ⟨rfl, nd, rfl⟩
  rw [HL.out]
  rw [show Lib.cut L (⟨#[46, 46]⟩ : ByteArray).data.toList = (lo, hi, fd) from HC2.out]
  replace b0 := b0.drewN nd
  replace hx := hx.drewN nd
  have HT := HT0.out.ext hx
  have HE := HE0.out.ext hx
  go_wp2_with fail
  refine (implParseRatio_at HR1.out (by omega) _ HT HE).mono ?_
  rintro e w2 ⟨rfl, hx2⟩
  clear HT HE
  replace b0 := b0.ext hx2
  replace hx := hx.trans hx2
  have c0 := fun o => b0.cell o
  have f0 := fun o => b0.frozen o
  have bH := Blk.new w2 44 #[.int .i64 a, .int .i64 b]
  replace b0 := b0.alloc (.cells #[.int .i64 a, .int .i64 b] 44)
  replace hx := hx.alloc (.cells #[.int .i64 a, .int .i64 b] 44)
  have HT := HT0.out.ext hx
  have HE := HE0.out.ext hx
  go_wp2_with fail
  refine (implParseRatio_at HR2.out (by omega) _ HT HE).mono ?_
  rintro e w3 ⟨rfl, hx3⟩
  clear HT HE
  replace b0 := b0.ext hx3
  replace bH := bH.ext hx3
  replace hx := hx.trans hx3
  have cH := fun o => bH.cell o
  have hltH := bH.lt
  cases fd
  · have H := Lib.hid (HB.out rfl)
    clear HB HG
    have c0 := fun o => b0.cell o
    have f0 := fun o => b0.frozen o
    have hlt := b0.lt
    have hq := hx.size
    try simp only [World.size_alloc] at hq
    go_wp2
    have bF := (((b0.set_ 0 (.int .i64 0)).set_ 1 (.int .i64 0)).set_ 2 (.int .i64 0)).set_ 3 (.int .i64 0)
    replace bF := (bF.alloc (.cells #[.int .i64 c, .int .i64 d] 44)).alloc (.cells #[.int .i64 a, .int .i64 b, .int .i64 c, .int .i64 d] 46)
    have cF := fun o => bF.cell o
    refine bodyPost_ret (v := .tuple #[.agg #[.int .i64 0, .int .i64 0, .int .i64 0, .int .i64 0], .bool false]) (by simp [results, Tryz.results40, go_sem, cF]) rfl ⟨by rw [H.out], ?_⟩
    exact (((((hx.setCell (by first | omega | (simp <;> omega)) _).setCell (by first | omega | (simp <;> omega)) _).setCell (by first | omega | (simp <;> omega)) _).setCell (by first | omega | (simp <;> omega)) _).alloc _).alloc _
  have HZ := Lib.hid (HG.out rfl)
  clear HB HG
  cases q
  · have H := Lib.hid (HZ.out.trans (if_neg (fun e => by cases e.1)))
    clear HZ
    have c0 := fun o => b0.cell o
    have f0 := fun o => b0.frozen o
    have hlt := b0.lt
    have hq := hx.size
    try simp only [World.size_alloc] at hq
    go_wp2
    have bF := (((b0.set_ 0 (.int .i64 0)).set_ 1 (.int .i64 0)).set_ 2 (.int .i64 0)).set_ 3 (.int .i64 0)
    replace bF := (bF.alloc (.cells #[.int .i64 c, .int .i64 d] 44)).alloc (.cells #[.int .i64 a, .int .i64 b, .int .i64 c, .int .i64 d] 46)
    have cF := fun o => bF.cell o
    refine bodyPost_ret (v := .tuple #[.agg #[.int .i64 0, .int .i64 0, .int .i64 0, .int .i64 0], .bool false]) (by simp [results, Tryz.results40, go_sem, cF]) rfl ⟨by rw [H.out], ?_⟩
    exact (((((hx.setCell (by first | omega | (simp <;> omega)) _).setCell (by first | omega | (simp <;> omega)) _).setCell (by first | omega | (simp <;> omega)) _).setCell (by first | omega | (simp <;> omega)) _).alloc _).alloc _
  cases r
  · have H := Lib.hid (HZ.out.trans (if_neg (fun e => by cases e.2.1)))
    clear HZ
    have c0 := fun o => b0.cell o
    have f0 := fun o => b0.frozen o
    have hlt := b0.lt
    have hq := hx.size
    try simp only [World.size_alloc] at hq
    go_wp2
    have bF := (((b0.set_ 0 (.int .i64 0)).set_ 1 (.int .i64 0)).set_ 2 (.int .i64 0)).set_ 3 (.int .i64 0)
    replace bF := (bF.alloc (.cells #[.int .i64 c, .int .i64 d] 44)).alloc (.cells #[.int .i64 a, .int .i64 b, .int .i64 c, .int .i64 d] 46)
    have cF := fun o => bF.cell o
    refine bodyPost_ret (v := .tuple #[.agg #[.int .i64 0, .int .i64 0, .int .i64 0, .int .i64 0], .bool false]) (by simp [results, Tryz.results40, go_sem, cF]) rfl ⟨by rw [H.out], ?_⟩
    exact (((((hx.setCell (by first | omega | (simp <;> omega)) _).setCell (by first | omega | (simp <;> omega)) _).setCell (by first | omega | (simp <;> omega)) _).setCell (by first | omega | (simp <;> omega)) _).alloc _).alloc _
  have bS := Blk.new (w3.alloc (.cells #[.int .i64 c, .int .i64 d] 44)) 46 #[.int .i64 a, .int .i64 b, .int .i64 c, .int .i64 d]
  simp only [World.size_alloc] at bS
  replace b0 := (b0.alloc (.cells #[.int .i64 c, .int .i64 d] 44)).alloc (.cells #[.int .i64 a, .int .i64 b, .int .i64 c, .int .i64 d] 46)
  replace hx := (hx.alloc (.cells #[.int .i64 c, .int .i64 d] 44)).alloc (.cells #[.int .i64 a, .int .i64 b, .int .i64 c, .int .i64 d] 46)
  have cS := fun o => bS.cell o
  go_wp2_with fail
  refine (implSpanOk_any a b c d _ hIa hIb hIc hId).mono ?_
  rintro e w5 ⟨rfl, hx4⟩
  replace b0 := b0.ext hx4
  replace bS := bS.ext hx4
  replace hx := hx.trans hx4
  have cS4 := fun o => bS.cell o
  by_cases hk : spanOk ⟨⟨a, b⟩, ⟨c, d⟩⟩ = true
  rotate_left
  · have hk' : spanOk ⟨⟨a, b⟩, ⟨c, d⟩⟩ = false := by simpa using hk
    have H := Lib.hid (HZ.out.trans (if_neg (fun e => hk e.2.2)))
    rw [hk']
    clear hk hk' HZ
    have c0 := fun o => b0.cell o
    have f0 := fun o => b0.frozen o
    have hlt := b0.lt
    have hq := hx.size
    try simp only [World.size_alloc] at hq
    go_wp2
    have bF := (((b0.set_ 0 (.int .i64 0)).set_ 1 (.int .i64 0)).set_ 2 (.int .i64 0)).set_ 3 (.int .i64 0)
    have cF := fun o => bF.cell o
    refine bodyPost_ret (v := .tuple #[.agg #[.int .i64 0, .int .i64 0, .int .i64 0, .int .i64 0], .bool false]) (by simp [results, Tryz.results40, go_sem, cF]) rfl ⟨by rw [H.out], ?_⟩
    exact (((hx.setCell (by first | omega | (simp <;> omega)) _).setCell (by first | omega | (simp <;> omega)) _).setCell (by first | omega | (simp <;> omega)) _).setCell (by first | omega | (simp <;> omega)) _
  have H := Lib.hid (HZ.out.trans (if_pos ⟨by first | rfl | trivial, by first | rfl | trivial, hk⟩))
  rw [hk]
  clear hk HZ
  have c0 := fun o => b0.cell o
  have f0 := fun o => b0.frozen o
  have hlt := b0.lt
  have hq := hx.size
  try simp only [World.size_alloc] at hq
  go_wp2
  have bF := (((b0.set_ 0 (.int .i64 a)).set_ 1 (.int .i64 b)).set_ 2 (.int .i64 c)).set_ 3 (.int .i64 d)
  have cF := fun o => bF.cell o
  refine bodyPost_ret (v := .tuple #[.agg #[.int .i64 a, .int .i64 b, .int .i64 c, .int .i64 d], .bool true]) (by simp [results, Tryz.results40, go_sem, cF]) rfl ⟨by rw [H.out], ?_⟩
  exact (((hx.setCell (by first | omega | (simp <;> omega)) _).setCell (by first | omega | (simp <;> omega)) _).setCell (by first | omega | (simp <;> omega)) _).setCell (by first | omega | (simp <;> omega)) _

end Go.Proofs.YtlfepobnmmkcmaaGreatDoor
/- ParseHalf, both: read off their walks. (written by tools/mkPh.py) -/
namespace Go.Proofs.YtlfepobnmmkcmaaGreatDoor
open Go.ChangeShapes Go.WideShapes Go.ChangeAt Go.RowKit
set_option linter.unusedVariables false
set_option maxRecDepth 100000

def halfOf (N : List Int) : Half := ⟨N.getD 0 0, N.getD 1 0, N.getD 2 0⟩
def halfR (L : List UInt8) : Half × Bool := if (numsL L).length = 3 ∧ halfT (halfOf (numsL L)) = L then (halfOf (numsL L), true) else (⟨0, 0, 0⟩, false)
theorem halfR_len {L : List UInt8} (h : (numsL L).length ≠ 3) : halfR L = (⟨0, 0, 0⟩, false) := if_neg (fun e => h e.1)
theorem halfR_yes {L : List UInt8} {a b c : Int} (h : numsL L = [a, b, c]) (ht : halfT ⟨a, b, c⟩ = L) : halfR L = (⟨a, b, c⟩, true) := by
  unfold halfR
  rw [h]
  exact if_pos ⟨rfl, ht⟩
theorem halfR_no {L : List UInt8} {a b c : Int} (h : numsL L = [a, b, c]) (ht : ¬ halfT ⟨a, b, c⟩ = L) : halfR L = (⟨0, 0, 0⟩, false) := by
  unfold halfR
  rw [h]
  exact if_neg (fun e => ht e.2)
theorem nums_nil : numsL [] = [] := by decide
theorem numsL_bd (L : List UInt8) : ∀ z ∈ numsL L, I64 z := by
  unfold numsL
  split
  · intro z hz
    obtain ⟨l, _, rfl⟩ := List.mem_map.1 hz
    exact pV_bd l
  · intro z hz; cases hz
theorem three_of {l : List Int} (h : l.length = 3) : ∃ a b c, l = [a, b, c] := by
  match l, h with
  | [a, b, c], _ => exact ⟨a, b, c, rfl⟩
theorem nums_no {L : List UInt8} (h : numsOk (splitC 32 L) = false) : (numsL L).length ≠ 3 := by
  unfold numsL
  rw [h]
  intro e
  cases e

set_option maxHeartbeats 4000000 in
theorem implParseHalf_any (s : ByteArray) (hs : s.size ≤ 1048576) (w : World) (ht : Tab w) (he : Ers w) :
    Calls Tryz.prog 36 #[.string s] w fun e w' => e = .returned (.tuple #[.agg #[.int .i64 (halfR s.data.toList).1.A, .int .i64 (halfR s.data.toList).1.B, .int .i64 (halfR s.data.toList).1.C], .bool (halfR s.data.toList).2]) ∧ Ext w w' := by
  have hx : Ext w (w.alloc (.cells #[.int .i64 0, .int .i64 0, .int .i64 0] 78)) := (Ext.refl w).alloc _
  have b0 := Blk.new w 78 #[.int .i64 0, .int .i64 0, .int .i64 0]
  obtain ⟨L, hL⟩ : ∃ L, s.data.toList = L := ⟨_, rfl⟩
  have HL := Lib.hid hL
  rw [hL]
  clear hL
  have hx0 := hx
  have HT := ht.ext hx
  have HE := he.ext hx
  have HT0 := Lib.hid ht
  clear ht he
  go_enter Tryz.func36, Tryz.ntmps36
  go_wp2_with fail
  refine (implparseInts_any s hs _ HT HE).mono ?_
  rintro e w1 ⟨A, c, n, rfl, hn, hrow, hx1⟩
  replace b0 := b0.ext hx1
  replace hx := hx.trans hx1
  rw [HL.out] at hn hrow
  rw [HL.out]
  have c0 := fun o => b0.cell o
  have f0 := fun o => b0.frozen o
  have hlt := b0.lt
  clear HT HE
  by_cases hok : numsOk (splitC 32 L) = true
  rotate_left
  · have hok' : numsOk (splitC 32 L) = false := by simpa using hok
    have H := Lib.hid (halfR_len (nums_no hok'))
    rw [hok']
    clear hok hok'
    go_wp2
    refine bodyPost_ret (v := .tuple #[.agg #[.int .i64 0, .int .i64 0, .int .i64 0], .bool false]) (by simp [results, Tryz.results36, go_sem, c0]) rfl ⟨by rw [H.out], ?_⟩
    exact ((hx.setCell (by first | omega | (simp <;> omega)) _).setCell (by first | omega | (simp <;> omega)) _).setCell (by first | omega | (simp <;> omega)) _
  rw [hok]
  clear hok
  by_cases h3 : n = 3
  rotate_left
  · have H := Lib.hid (halfR_len (L := L) (by rw [← hn]; exact h3))
    have h3' : ((n : Int) == 3) = false := by rw [beq_eq_false_iff_ne]; omega
    have h3'' : ¬ (n : Int) = 3 := by omega
    go_wp2
    refine bodyPost_ret (v := .tuple #[.agg #[.int .i64 0, .int .i64 0, .int .i64 0], .bool false]) (by simp [results, Tryz.results36, go_sem, c0]) rfl ⟨by rw [H.out], ?_⟩
    exact ((hx.setCell (by first | omega | (simp <;> omega)) _).setCell (by first | omega | (simp <;> omega)) _).setCell (by first | omega | (simp <;> omega)) _
  subst h3
  obtain ⟨x, y, z, hN⟩ := three_of hn.symm
  have HN := Lib.hid hN
  have hbd := numsL_bd L
  rw [hN] at hrow hbd
  have hIx : I64 x := hbd x (by simp)
  have hIy : I64 y := hbd y (by simp)
  have hIz : I64 z := hbd z (by simp)
  clear hN hbd hn
  obtain ⟨b, off, rfl, hb, e0⟩ := hrow.int (k := 0) (by simp)
  obtain ⟨b', off', hA1, hb1, e1⟩ := hrow.int (k := 1) (by simp)
  obtain ⟨b'', off'', hA2, hb2, e2⟩ := hrow.int (k := 2) (by simp)
  injection hA1 with hA1
  injection hA1 with q1 q2
  subst q1 q2
  injection hA2 with hA2
  injection hA2 with q1 q2
  subst q1 q2
  simp only [List.getElem_cons_zero, List.getElem_cons_succ, Nat.add_zero] at e0 e1 e2
  clear hrow
  go_wp2_with fail
  go_region_held3 (fun w' => w'.cell? ⟨b, off, none⟩ = some (.int .i64 x) ∧ w'.cell? ⟨b, off + 1, none⟩ = some (.int .i64 y) ∧ w'.cell? ⟨b, off + 2, none⟩ = some (.int .i64 z)) (go_keep) (fail)
  have hy : Ext w1 ((w1.alloc (.cells #[.int .i64 x, .int .i64 y, .int .i64 z] 78)).drew) := ((Ext.refl w1).alloc _).drew
  have bH := (Blk.new w1 78 #[.int .i64 x, .int .i64 y, .int .i64 z]).ext (Ext.drew (Ext.refl _))
  go_wp2_with fail
  have HT := HT0.out.ext ((Ext.trans hx0 hx1).trans hy)
  refine (implFormatHalf_any x y z _ hIx hIy hIz HT).mono ?_
  rintro e w2 ⟨rfl, hx2⟩
  replace hy := hy.trans hx2
  replace bH := bH.ext hx2
  replace b0 := b0.ext hy
  replace hx := hx.trans hy
  have c0 := fun o => b0.cell o
  have f0 := fun o => b0.frozen o
  have cH := fun o => bH.cell o
  have hlt := b0.lt
  have hltH := bH.lt
  by_cases hc : halfT ⟨x, y, z⟩ = L
  · have H := Lib.hid (halfR_yes HN.out hc)
    have hcm : ((txt (halfT ⟨x, y, z⟩)).toList == s.toList) = true := by rw [txt_same, HL.out, decide_eq_true_eq]; exact hc
    clear hc
    go_wp2
    have bF := ((b0.set_ 0 (.int .i64 x)).set_ 1 (.int .i64 y)).set_ 2 (.int .i64 z)
    have cF := fun o => bF.cell o
    refine bodyPost_ret (v := .tuple #[.agg #[.int .i64 x, .int .i64 y, .int .i64 z], .bool true]) (by simp [results, Tryz.results36, go_sem, cF]) rfl ⟨by rw [H.out], ?_⟩
    exact ((hx.setCell (by first | omega | (simp <;> omega)) _).setCell (by first | omega | (simp <;> omega)) _).setCell (by first | omega | (simp <;> omega)) _
  · have H := Lib.hid (halfR_no HN.out hc)
    have hcm : ((txt (halfT ⟨x, y, z⟩)).toList == s.toList) = false := by rw [txt_same, HL.out, decide_eq_false_iff_not]; exact hc
    clear hc
    go_wp2
    refine bodyPost_ret (v := .tuple #[.agg #[.int .i64 0, .int .i64 0, .int .i64 0], .bool false]) (by simp [results, Tryz.results36, go_sem, c0]) rfl ⟨by rw [H.out], ?_⟩
    exact ((hx.setCell (by first | omega | (simp <;> omega)) _).setCell (by first | omega | (simp <;> omega)) _).setCell (by first | omega | (simp <;> omega)) _

end Go.Proofs.YtlfepobnmmkcmaaGreatDoor
/- Contracts of texts of regions: FormatRegion of the program and of the reference. (written by tools/mkFr.py) -/
namespace Go.Proofs.YtlfepobnmmkcmaaGreatDoor
open Go.ChangeShapes Go.WideShapes Go.ChangeAt Go.RowKit
set_option linter.unusedVariables false
set_option maxRecDepth 100000

def regionT (hs : List Half) : List UInt8 := if hs = [] then [118, 111, 105, 100] else if regOk hs = true then Lib.join (hs.map halfT) [59] else []
theorem regionT_void {hs : List Half} (h : hs = []) : regionT hs = [118, 111, 105, 100] := if_pos h
theorem regionT_bad {hs : List Half} (h : hs ≠ []) (hk : regOk hs = false) : regionT hs = [] := by unfold regionT; rw [if_neg h, if_neg (by rw [hk]; simp)]
theorem regionT_ok {hs : List Half} (h : hs ≠ []) (hk : regOk hs = true) : regionT hs = Lib.join (hs.map halfT) [59] := by unfold regionT; rw [if_neg h, if_pos hk]
def halvesTo (hs : List Half) (k : Nat) : List (List UInt8) := (hs.map halfT).take k
theorem halvesTo_succ {hs : List Half} {k : Nat} (h : k < hs.length) : halvesTo hs (k + 1) = halvesTo hs k ++ [halfT hs[k]] := by
  unfold halvesTo
  rw [List.take_succ_eq_append_getElem (by simpa using h)]
  simp
theorem halvesTo_len {hs : List Half} {k : Nat} (h : k ≤ hs.length) : (halvesTo hs k).length = k := by simp [halvesTo]; omega
theorem halvesTo_all (hs : List Half) : halvesTo hs hs.length = hs.map halfT := by unfold halvesTo; rw [List.take_of_length_le (by simp)]
theorem halvesTo_each (hs : List Half) (k : Nat) : ∀ t ∈ halvesTo hs k, t.length ≤ 195 := by
  intro t ht
  unfold halvesTo at ht
  obtain ⟨h, _, rfl⟩ := List.mem_map.1 (List.mem_of_mem_take ht)
  exact halfT_len h
theorem regionT_len (hs : List Half) : (regionT hs).length ≤ 7840 := by
  by_cases h0 : hs = []
  · rw [regionT_void h0]; decide
  · by_cases h1 : regOk hs = true
    · rw [regionT_ok h0 h1, ← halvesTo_all]
      have h1' := join_len_le (halvesTo hs hs.length) [59] 195 (halvesTo_each hs _)
      rw [halvesTo_len (Nat.le_refl _)] at h1'
      have h2 : hs.length * (195 + 1) ≤ 40 * (195 + 1) := Nat.mul_le_mul_right _ (regOk_len h1)
      simp only [List.length_cons, List.length_nil] at h1'
      omega
    · rw [regionT_bad h0 (by simpa using h1)]; simp

set_option maxHeartbeats 2000000 in
theorem implFormatRegion_any (A : Option Addr) (n c : Nat) (hs : List Half) (w : World) (hn : hs.length = n) (hr : Row w A (ints (flat Half.ints hs))) (hI : HalvesI hs) (hle : n ≤ maxLen) (ht : Tab w) :
    Calls Tryz.prog 39 #[.agg #[.slice A n c]] w fun e w' => e = .returned (.string (txt (regionT hs))) ∧ Ext w w' := by
  obtain ⟨i0, hi0, hz0, hz1, hz2⟩ := info_parts str_info
  have hx : Ext w (w.alloc (.cells #[.slice A n c] 26)) := (Ext.refl w).alloc _
  have bR := Blk.new w 26 #[.slice A n c]
  have HI := Lib.hid (fun k hk => hI.at_ (k := k) hk)
  have HR := Lib.hid hr
  have HN := Lib.hid hn
  have HV := Lib.hid (fun w => implIsVoid_any A n c w hle)
  have HO := Lib.hid (fun w hr => implRegionOk_any A n c hs w hn hr hI hle)
  have Hv : Hid (∀ _ : n = 0, regionT hs = [118, 111, 105, 100]) := fun h0 => regionT_void (List.eq_nil_of_length_eq_zero (by omega))
  have Hb : Hid (∀ _ : n ≠ 0, regOk hs = false → regionT hs = []) := fun h0 h => regionT_bad (fun e => h0 (by rw [← hn, e]; rfl)) h
  have Hg : Hid (∀ _ : n ≠ 0, regOk hs = true → regionT hs = Lib.join (hs.map halfT) [59] ∧ n ≤ 40) := fun h0 h => ⟨regionT_ok (fun e => h0 (by rw [← hn, e]; rfl)) h, by rw [← hn]; exact regOk_len h⟩
  have He : Hid (∀ _ : n = 0, regOk hs = true) := fun h0 => by rw [List.eq_nil_of_length_eq_zero (show hs.length = 0 by omega)]; rfl
  have hle2 := hle
  unfold maxLen at hle2
  have HT0 := Lib.hid ht
  clear hI hr hn ht
  by_cases h0 : n = 0
  · have HQ := Lib.hid (Hv.out h0)
    have hE : (decide (n = 0)) = true := decide_eq_true h0
    clear h0
    go_enter Tryz.func39, Tryz.ntmps39
    go_wp2_with fail
    refine (HV.out _).mono ?_
    rintro e w1 ⟨rfl, hx1⟩
    replace hx := hx.trans hx1
    replace bR := bR.ext hx1
    have cbR_1 := fun o => bR.cell o
    rw [hE]
    clear hE
    go_wp2
    go_ret
    exact ⟨ret_txt (by rw [HQ.out]; rfl), hx⟩
  have hE : (decide (n = 0)) = false := decide_eq_false h0
  have Hb2 := Lib.hid (Hb.out h0)
  have Hg2 := Lib.hid (Hg.out h0)
  by_cases hok : regOk hs = true
  rotate_left
  · have hok' : regOk hs = false := by simpa using hok
    have HQ := Lib.hid (Hb2.out hok')
    clear hok
    go_enter Tryz.func39, Tryz.ntmps39
    go_wp2_with fail
    refine (HV.out _).mono ?_
    rintro e w1 ⟨rfl, hx1⟩
    replace hx := hx.trans hx1
    replace bR := bR.ext hx1
    have cbR_2 := fun o => bR.cell o
    rw [hE]
    clear hE
    go_wp2_with fail
    refine (HO.out _ (HR.out.ext hx)).mono ?_
    rintro e w2 ⟨rfl, hx2⟩
    replace hx := hx.trans hx2
    replace bR := bR.ext hx2
    have cbR_3 := fun o => bR.cell o
    rw [hok']
    clear hok'
    go_wp2
    go_ret
    exact ⟨ret_txt (by rw [HQ.out]; rfl), hx⟩
  obtain ⟨hq, h40⟩ := Hg2.out hok
  have HQ := Lib.hid hq
  clear hq
  go_enter Tryz.func39, Tryz.ntmps39
  go_wp2_with fail
  refine (HV.out _).mono ?_
  rintro e w1 ⟨rfl, hx1⟩
  replace hx := hx.trans hx1
  replace bR := bR.ext hx1
  have cbR_4 := fun o => bR.cell o
  rw [hE]
  clear hE
  go_wp2_with fail
  refine (HO.out _ (HR.out.ext hx)).mono ?_
  rintro e w2 ⟨rfl, hx2⟩
  replace hx := hx.trans hx2
  replace bR := bR.ext hx2
  have cbR_5 := fun o => bR.cell o
  rw [hok]
  clear hok h0
  have hRlt := bR.lt
  go_wp2
  go_loopw [3, 14] (fun v i wr => ∃ k : Nat, k ≤ n ∧ i = .int .i64 k ∧ Ext w2 wr ∧ wr.ownsRow w2.heap.size 9 1 v k (strs (halvesTo hs k))) (fun _ i _ => n - (intOf i).toNat)
  case atStart => exact ⟨0, Nat.zero_le _, rfl, Ext.refl _, World.ownsRow_nil _ _ _ _⟩
  case round =>
  obtain ⟨k, hk, rfl, hy, hown⟩ := hrel
  have hsz := hy.size
  have hxs := hx.size
  by_cases hlt : k < n
  · have hkl : k < hs.length := by rw [HN.out]; exact hlt
    obtain ⟨b, off, rfl, hb, c0, c1, c2⟩ := (HR.out.ext (hx.trans hy)).Half (k := k) hkl
    obtain ⟨i1, i2, i3⟩ := HI.out k hkl
    have Hk := Lib.hid (halvesTo_succ (hs := hs) (k := k) hkl)
    obtain ⟨h, hh⟩ : ∃ h, hs[k]'hkl = h := ⟨_, rfl⟩
    rw [hh] at c0 c1 c2 i1 i2 i3 Hk
    clear hh
    have hlt2 : (k : Int) < (n : Int) := by omega
    have hy1 := hy.alloc (.cells #[.int .i64 h.A, .int .i64 h.B, .int .i64 h.C] 78)
    have hTk := HT0.out.ext ((hx.trans hy).alloc (.cells #[.int .i64 h.A, .int .i64 h.B, .int .i64 h.C] 78))
    go_wp2_with fail
    refine (implFormatHalf_any h.A h.B h.C _ i1 i2 i3 hTk).mono ?_
    rintro e w5 ⟨rfl, hx5⟩
    replace hown := own_ext (hown.alloc _) hx5
    have hy5 := hy1.trans hx5
    have hsz5 := hy5.size
    change Hid (halvesTo hs (k + 1) = halvesTo hs k ++ [halfT ⟨h.A, h.B, h.C⟩]) at Hk
    obtain ⟨t, htt⟩ : ∃ t, halfT ⟨h.A, h.B, h.C⟩ = t := ⟨_, rfl⟩
    rw [htt] at Hk ⊢
    clear htt
    go_wp2_with (at_builtin; go_must (refine wpList_append_own _ rfl _ _ 41 rfl w2.heap.size 9 i0 (.string ByteArray.empty) 1 16 Tryz.underlying41 hi0 hz0 hz1 hz2 rfl (by decide) _ _ _ rfl (hown.alloc _) ⟨w5.heap.size, 0, none⟩ 1 1 [.string (txt t)] rfl rfl (cell_one_new _ _ _) (by simp [Value.oneCell']) (by unfold maxLen; omega) (by omega) (by simp; omega) ?_); intro v' w6 hown' hgrow _)
    have hy6 : Ext w2 w6 := (hy5.alloc _).grown hgrow (fun g hg => (hown.lt g hg).1)
    go_roundw
    case rel => exact ⟨k + 1, by omega, by go_num, hy6, by rw [Hk.out, strs_append]; exact hown'⟩
    case measure => simp [intOf]; omega
  · obtain rfl : k = n := by omega
    obtain ⟨A', c', rfl⟩ := own_form hown
    have hrow := Row.of_own hown
    have hcap := own_cap hown
    have Hlen : Hid ((halvesTo hs k).length = k) := halvesTo_len (by rw [HN.out]; exact Nat.le_refl _)
    have HE : Hid (Lib.join (halvesTo hs k) [59] = regionT hs) := by unfold Hid; rw [HQ.out, ← HN.out, halvesTo_all]
    have Hlb : Hid ((Lib.join (halvesTo hs k) [59]).length ≤ 140737488355328) := by
      have h1 := join_len_le (halvesTo hs k) [59] 195 (halvesTo_each hs k)
      rw [Hlen.out] at h1
      have h2 : k * (195 + 1) ≤ 40 * (195 + 1) := Nat.mul_le_mul_right _ h40
      exact Nat.le_trans h1 (by simp only [List.length_cons, List.length_nil]; omega)
    go_wp2_with fail
    refine (implJoin_any _ _ _ (halvesTo hs k) _ _ Hlen.out hrow hcap (by omega) Hlb.out).mono ?_
    rintro e w5 ⟨rfl, hx5⟩
    go_wp2
    go_ret
    exact ⟨ret_txt (by rw [← HE.out]), (hx.trans hy).trans hx5⟩
end Go.Proofs.YtlfepobnmmkcmaaGreatDoor
/- Contracts of the lines of corners: corners, CornersOf, CornerLine of the program; l05Corners, CornerLine of the reference. (written by tools/mkCl.py) -/
namespace Go.Proofs.YtlfepobnmmkcmaaGreatDoor
open Go.ChangeShapes Go.WideShapes Go.ChangeAt Go.RowKit
set_option linter.unusedVariables false
set_option maxRecDepth 100000

def spotTs (l : List Spot) : List (List UInt8) := l.map spotT
def cornerT (hs : List Half) : List UInt8 := if hs = [] then [118, 111, 105, 100] else if regOk hs = true then Lib.join (spotTs (cornersL hs)) [32] else []
theorem cornerT_void {hs : List Half} (h : hs = []) : cornerT hs = [118, 111, 105, 100] := if_pos h
theorem cornerT_bad {hs : List Half} (h : hs ≠ []) (hk : regOk hs = false) : cornerT hs = [] := by unfold cornerT; rw [if_neg h, if_neg (by rw [hk]; simp)]
theorem cornerT_ok {hs : List Half} (h : hs ≠ []) (hk : regOk hs = true) : cornerT hs = Lib.join (spotTs (cornersL hs)) [32] := by unfold cornerT; rw [if_neg h, if_pos hk]
theorem spotTs_len (l : List Spot) : (spotTs l).length = l.length := by simp [spotTs]
theorem spotTs_succ {l : List Spot} {k : Nat} (h : k < l.length) : (spotTs l).take (k + 1) = (spotTs l).take k ++ [spotT l[k]] := by
  rw [List.take_succ_eq_append_getElem (by rw [spotTs_len]; exact h)]; simp [spotTs]
theorem spotTs_bd {l : List Spot} (h : l.length ≤ 40) (k : Nat) : (Lib.join ((spotTs l).take k) [32]).length ≤ 140737488355328 := by
  have h1 := join_len_le ((spotTs l).take k) [32] 259 (fun t ht => by
    obtain ⟨s, _, rfl⟩ := List.mem_map.1 (List.mem_of_mem_take ht); exact spotT_len s)
  have h2 : ((spotTs l).take k).length * (259 + 1) ≤ 40 * (259 + 1) := Nat.mul_le_mul_right _ (by rw [List.length_take, spotTs_len]; omega)
  exact Nat.le_trans h1 (by simp only [List.length_cons, List.length_nil]; omega)
theorem corner_all {hs : List Half} (h : hs.all halfOk = true) (k : Nat) (hk : k < (cornersL hs).length) : I64 (cornersL hs)[k].X ∧ I64 (cornersL hs)[k].Y ∧ I64 (cornersL hs)[k].D := by
  have hk' : k < hs.length := by rw [cornersL_len] at hk; exact hk
  have e : (cornersL hs)[k] = cornerAt hs k := by simp [cornersL, cornersTo]
  rw [e]; exact corner_I64 h hk'

theorem implCornersOf_any (A : Option Addr) (n c : Nat) (hs : List Half) (w : World) (hn : hs.length = n) (hr : Row w A (ints (flat Half.ints hs))) (hI : HalvesI hs) (hle : n ≤ maxLen) :
    Calls Tryz.prog 21 #[.agg #[.slice A n c]] w (SpotsMade (if regOk hs = true then cornersL hs else []) w) := by
  have hx : Ext w (w.alloc (.cells #[.slice A n c] 26)) := (Ext.refl w).alloc _
  have bR := Blk.new w 26 #[.slice A n c]
  have HR := Lib.hid hr
  have HO := Lib.hid (fun w hr => implRegionOk_any A n c hs w hn hr hI hle)
  have HC := Lib.hid (fun w hr (h : regOk hs = true) => corners_any A n c hs w hn hr (regOk_all h) (by have := regOk_len h; omega))
  clear hr hI hn
  by_cases hok : regOk hs = true
  · have HOk := Lib.hid hok
    have HC2 := Lib.hid (fun w hr => HC.out w hr hok)
    rw [if_pos hok]
    clear hok HC
    go_enter Tryz.func21, Tryz.ntmps21
    go_wp2_with fail
    refine (HO.out _ (HR.out.ext hx)).mono ?_
    rintro e w1 ⟨rfl, hx1⟩
    replace hx := hx.trans hx1
    replace bR := bR.ext hx1
    have cbR_11 := fun o => bR.cell o
    rw [HOk.out]
    go_wp2_with fail
    refine (HC2.out _ (HR.out.ext hx)).mono ?_
    rintro e w2 ⟨A2, c2, m, rfl, hm, hx2, hown2⟩
    have HM := Lib.hid hm
    have hxs := hx.size
    have HW := Lib.hid hown2
    clear hm hown2
    go_wp2
    go_ret
    exact ⟨A2, c2, m, rfl, HM.out, hx.trans hx2, own_base HW.out hxs⟩
  · have HOk : Hid (regOk hs = false) := by simpa [Hid] using hok
    rw [if_neg hok]
    clear hok
    go_enter Tryz.func21, Tryz.ntmps21
    go_wp2_with fail
    refine (HO.out _ (HR.out.ext hx)).mono ?_
    rintro e w1 ⟨rfl, hx1⟩
    replace hx := hx.trans hx1
    replace bR := bR.ext hx1
    have cbR_12 := fun o => bR.cell o
    rw [HOk.out]
    go_wp2
    go_ret
    exact ⟨none, 0, 0, rfl, rfl, hx, World.ownsRow_nil _ _ _ _⟩
end Go.Proofs.YtlfepobnmmkcmaaGreatDoor
/- Contracts of ParseRegion of the program and of the reference. (written by tools/mkPg.py) -/
namespace Go.Proofs.YtlfepobnmmkcmaaGreatDoor
open Go.ChangeShapes Go.WideShapes Go.ChangeAt Go.RowKit
set_option linter.unusedVariables false
set_option maxRecDepth 100000

def okH (p : List UInt8) : Bool := (halfR p).2
def hvH (p : List UInt8) : Half := (halfR p).1
def voidT : List UInt8 := [118, 111, 105, 100]
def regionR (L : List UInt8) : List Half × Bool := if L = voidT then ([], true) else if (splitC 59 L).length ≤ 40 ∧ (splitC 59 L).all okH = true ∧ regionT ((splitC 59 L).map hvH) = L then ((splitC 59 L).map hvH, true) else ([], false)
theorem regionR_void {L : List UInt8} (h : L = voidT) : regionR L = ([], true) := if_pos h
theorem regionR_no {L : List UInt8} (h : L ≠ voidT) (h2 : ¬ ((splitC 59 L).length ≤ 40 ∧ (splitC 59 L).all okH = true ∧ regionT ((splitC 59 L).map hvH) = L)) : regionR L = ([], false) := by unfold regionR; rw [if_neg h, if_neg h2]
theorem regionR_yes {L : List UInt8} (h : L ≠ voidT) (h2 : (splitC 59 L).length ≤ 40 ∧ (splitC 59 L).all okH = true ∧ regionT ((splitC 59 L).map hvH) = L) : regionR L = ((splitC 59 L).map hvH, true) := by unfold regionR; rw [if_neg h, if_pos h2]
theorem hv_I64 (p : List UInt8) : I64 (hvH p).A ∧ I64 (hvH p).B ∧ I64 (hvH p).C := by
  unfold hvH halfR
  split
  · rename_i h
    obtain ⟨a, b, c, hN⟩ := three_of h.1
    have hb := numsL_bd p
    rw [hN] at hb
    simp only [halfOf, hN]
    exact ⟨hb a (by simp), hb b (by simp), hb c (by simp)⟩
  · unfold I64; simp
theorem halvesHv_I (P : List (List UInt8)) : HalvesI (P.map hvH) := by
  intro x hx z hz
  obtain ⟨p, _, rfl⟩ := List.mem_map.1 hx
  have := hv_I64 p
  simp only [Half.ints, List.mem_cons, List.not_mem_nil, or_false] at hz
  rcases hz with rfl | rfl | rfl
  · exact this.1
  · exact this.2.1
  · exact this.2.2
theorem split_ne (q : UInt8) (L : List UInt8) : splitC q L ≠ [] := by unfold splitC; simp
theorem ok_ne {L : List UInt8} (h : (splitC 59 L).all okH = true) : L ≠ [] := by
  rintro rfl
  revert h
  decide
theorem hv_take {P : List (List UInt8)} {k : Nat} (h : k < P.length) : (P.take (k + 1)).map hvH = (P.take k).map hvH ++ [hvH P[k]] := by
  rw [List.take_add_one, List.map_append, List.getElem?_eq_getElem h]
  simp
theorem regionT_ok_of {hs : List Half} {L : List UInt8} (hne : hs ≠ []) (hL : L ≠ []) (h : regionT hs = L) : regOk hs = true := by
  rcases Bool.eq_false_or_eq_true (regOk hs) with e | e
  · exact e
  · rw [regionT_bad hne e] at h; exact absurd h.symm hL
theorem flat1 (l : List Half) (h : Half) : ints (flat Half.ints (l ++ [h])) = ints (flat Half.ints l) ++ ints h.ints := by unfold flat; rw [List.flatMap_append, ints_append]; simp

set_option maxHeartbeats 8000000 in
theorem implParseRegion_any (s : ByteArray) (hs : s.size ≤ 1048576) (w : World) (ht : Tab w) (he : Ers w) :
    Calls Tryz.prog 38 #[.string s] w (RegMade (regionR s.data.toList) w) := by
  obtain ⟨i0, hi0, hz0, hz1, hz2⟩ := info_parts half_info
  obtain ⟨L, hL⟩ : ∃ L, s.data.toList = L := ⟨_, rfl⟩
  have HL := Lib.hid hL
  have hLn : L.length ≤ 1048576 := by rw [← hL]; simpa using hs
  rw [hL]
  have h5 := hL
  clear hL
  have HT0 := Lib.hid ht
  have HE0 := Lib.hid he
  clear ht he
  have hx0 : Ext w (w.alloc (.cells #[.slice none 0 0] 26)) := (Ext.refl w).alloc _
  have b00 := Blk.new w 26 #[.slice none 0 0]
  have hx : Ext w ((w.alloc (.cells #[.slice none 0 0] 26)).alloc (.cells #[.slice none 0 0] 26)) := hx0.alloc _
  have b0 := b00.alloc (.cells #[.slice none 0 0] 26)
  have bP := Blk.new (w.alloc (.cells #[.slice none 0 0] 26)) 26 #[.slice none 0 0]
  simp only [World.size_alloc] at bP
  by_cases hv : L = voidT
  · have H := Lib.hid (regionR_void hv)
    have hse : s = ⟨#[118, 111, 105, 100]⟩ := by
      apply ByteArray.ext
      apply Array.ext'
      rw [h5, hv]; rfl
    subst hse
    clear hv h5
    have c0 := fun o => b00.cell o
    have f0 := fun o => b00.frozen o
    go_enter Tryz.func38, Tryz.ntmps38
    go_wp2
    refine bodyPost_ret (v := .tuple #[.agg #[.slice none 0 0], .bool true]) (by simp [results, Tryz.results38, go_sem, c0]) rfl ?_
    exact RegMade.nil true H.out rfl (by first | exact hx0 | exact hx0.setCell (by first | omega | (simp <;> omega)) _)
  have hcm : (s.toList == [118, 111, 105, 100]) = false := by
    have e : (txt voidT).toList = [118, 111, 105, 100] := by rw [ByteArray.toList_eq, txt_list]; rfl
    rw [← e, BEq.comm, txt_same, decide_eq_false_iff_not, h5]
    exact fun e => hv e.symm
  have hcm2 : ¬ s = ⟨#[118, 111, 105, 100]⟩ := by
    rintro rfl
    exact hv h5.symm
  obtain ⟨P, hP⟩ : ∃ P, splitC 59 L = P := ⟨_, rfl⟩
  have HP := Lib.hid hP
  have HS : Hid (∀ k (h : k < P.length), P[k].length ≤ 1048576) := fun k h => Nat.le_trans (splitC_small 59 L _ (by rw [hP]; exact List.getElem_mem h)) hLn
  have hPn : P.length ≤ 1048577 := by have := splitC_len 59 L; rw [hP] at this; omega
  have HNo : Hid (∀ h : ¬ (P.length ≤ 40 ∧ P.all okH = true ∧ regionT (P.map hvH) = L), regionR L = ([], false)) := fun h => regionR_no hv (by rw [hP]; exact h)
  have HYes : Hid (∀ h : P.length ≤ 40 ∧ P.all okH = true ∧ regionT (P.map hvH) = L, regionR L = (P.map hvH, true)) := fun h => by rw [regionR_yes hv (by rw [hP]; exact h), hP]
  have HNe : Hid (P.map hvH ≠ []) := by intro e; rw [List.map_eq_nil_iff] at e; rw [e] at hP; exact split_ne _ _ hP
  have HRo : Hid (∀ h : P.all okH = true, regOk (P.map hvH) = false → regionT (P.map hvH) ≠ L) := fun h h2 h3 => by
    have := regionT_ok_of HNe.out (ok_ne (by rw [hP]; exact h)) h3
    rw [h2] at this; cases this
  clear hP hv h5
  go_enter Tryz.func38, Tryz.ntmps38
  go_wp2_with fail
  refine (implSplitAny_any 59 s hs _).mono ?_
  rintro e w1 ⟨A, c, rfl, th, hx1⟩
  rw [HL.out, HP.out] at th
  rw [HL.out, HP.out]
  simp only [World.size_alloc] at th
  obtain ⟨n, hn⟩ : ∃ n, P.length = n := ⟨_, rfl⟩
  rw [hn] at hPn th HNo HYes
  rw [hn]
  have HN := Lib.hid hn
  clear hn
  replace hx := hx.trans hx1
  replace b0 := b0.ext hx1
  replace bP := bP.ext hx1
  have hs1 := hx1.size
  simp only [World.size_alloc] at hs1
  by_cases h40 : n ≤ 40
  rotate_left
  · have H := Lib.hid (HNo.out (fun e => h40 e.1))
    have h41 : (40 : Int) < (n : Int) := by omega
    have c0 := fun o => b0.cell o
    have f0 := fun o => b0.frozen o
    go_wp2
    refine bodyPost_ret (v := .tuple #[.agg #[.slice none 0 0], .bool false]) (by simp [results, Tryz.results38, go_sem, c0]) rfl ?_
    exact RegMade.nil false H.out rfl (by first | exact hx | exact hx.setCell (by first | omega | (simp <;> omega)) _)
  have h41 : ¬ (40 : Int) < (n : Int) := by omega
  go_wp2
  go_loopw [21] (fun i wr => ∃ (k : Nat) (A4 : Option Addr) (c4 : Nat), k ≤ n ∧ k ≤ 40 ∧ i = .int .i64 k ∧ Ext w wr ∧ Blk wr w.heap.size 26 #[.slice none 0 0] ∧ Blk wr (w.heap.size + 1) 26 #[.slice A4 k c4] ∧ wr.ownsRow w1.heap.size 78 3 (.slice A4 k c4) k (ints (flat Half.ints ((P.take k).map hvH))) ∧ Mine wr (w.heap.size + 2) w1.heap.size 9 1 (.slice A n c) n (strs P) ∧ w1.heap.size ≤ wr.heap.size ∧ (P.take k).all okH = true) (fun i _ => n - (intOf i).toNat)
  case atStart => exact ⟨0, none, 0, Nat.zero_le _, Nat.zero_le _, rfl, hx, b0, bP, World.ownsRow_nil _ _ _ _, by simpa using th, Nat.le_refl _, rfl⟩
  case round =>
  obtain ⟨k, A4, c4, hk, hk40, rfl, hy, bR, bQ, hown, thr, hgt, hall⟩ := hrel
  have Hall := Lib.hid hall
  clear hall
  have HR := Lib.hid thr.row
  have hsz := hy.size
  have hRl := bR.lt
  have hQl := bQ.lt
  have cR := fun o => bR.cell o
  have fR := fun o => bR.frozen o
  have cQ := fun o => bQ.cell o
  by_cases hlt : k < n
  rotate_left
  · obtain rfl : k = n := by omega
    have hlen : (P.map hvH).length = k := by rw [List.length_map, HN.out]
    have htk : P.take k = P := List.take_of_length_le (by rw [HN.out]; exact Nat.le_refl _)
    rw [htk] at hown
    have Hok : Hid (P.all okH = true) := by have := Hall.out; rwa [htk] at this
    have HTk := HT0.out.ext hy
    have HW := Lib.hid hown
    have hown9 := Row.of_own hown
    clear hown htk
    go_wp2_with fail
    refine (implFormatRegion_any A4 k c4 (P.map hvH) _ hlen hown9 (halvesHv_I P) (by unfold maxLen; omega) HTk).mono ?_
    rintro e w5 ⟨rfl, hx5⟩
    clear hown9 HTk
    replace bR := bR.ext hx5
    replace bQ := bQ.ext hx5
    replace hy := hy.trans hx5
    have c0 := fun o => bR.cell o
    have f0 := fun o => bR.frozen o
    have cQ5 := fun o => bQ.cell o
    by_cases hc : regionT (P.map hvH) = L
    · have H := Lib.hid (HYes.out ⟨by omega, Hok.out, hc⟩)
      have hcm : ((txt (regionT (P.map hvH))).toList == s.toList) = true := by rw [txt_same, HL.out, decide_eq_true_eq]; exact hc
      clear hc
      go_wp2
      have bF := bR.set_ 0 (.slice A4 k c4)
      have cF := fun o => bF.cell o
      refine bodyPost_ret (v := .tuple #[.agg #[.slice A4 k c4], .bool true]) (by simp [results, Tryz.results38, go_sem, cF]) rfl ?_
      rw [H.out]
      exact ⟨A4, c4, k, rfl, hlen.symm, hy.setCell (by first | omega | (simp <;> omega)) _, own_base (own_far (own_ext HW.out hx5) (by simp; omega) _) (by omega)⟩
    · have H := Lib.hid (HNo.out (fun e => hc e.2.2))
      have hcm : ((txt (regionT (P.map hvH))).toList == s.toList) = false := by rw [txt_same, HL.out, decide_eq_false_iff_not]; exact hc
      clear hc
      go_wp2
      refine bodyPost_ret (v := .tuple #[.agg #[.slice none 0 0], .bool false]) (by simp [results, Tryz.results38, go_sem, c0]) rfl ?_
      exact RegMade.nil false H.out rfl (hy.setCell (by first | omega | (simp <;> omega)) _)
  have hlt2 : (k : Int) < (n : Int) := by omega
  have hkl : k < P.length := by rw [HN.out]; exact hlt
  obtain ⟨b, off, hA, hb, hc0⟩ := HR.out.str (k := k) hkl
  subst hA
  have hsk := HS.out k hkl
  have Hg : Hid (∀ h : okH P[k] = true, (P.take (k + 1)).all okH = true) := fun h => all_take_at hkl Hall.out h
  have Hb : Hid (∀ h : okH P[k] = false, P.all okH = false) := fun h => all_not_at hkl h
  have Hm : Hid ((P.take (k + 1)).map hvH = (P.take k).map hvH ++ [hvH P[k]]) := hv_take hkl
  obtain ⟨t, ht⟩ : ∃ t, P[k]'hkl = t := ⟨_, rfl⟩
  rw [ht] at hc0 hsk Hg Hb Hm
  clear ht
  have hst : (txt t).size ≤ 1048576 := by rw [txt_size]; exact hsk
  have HTk := HT0.out.ext hy
  have HEk := HE0.out.ext hy
  have HC := Lib.hid (fun w (ht : Tab w) (he : Ers w) => implParseHalf_any (txt t) hst w ht he)
  rw [txt_list] at HC
  change Hid (∀ w (ht : Tab w) (he : Ers w), Calls Tryz.prog _ _ w fun e w' => e = .returned (.tuple #[.agg #[.int .i64 (hvH t).A, .int .i64 (hvH t).B, .int .i64 (hvH t).C], .bool (okH t)]) ∧ Ext w w') at HC
  obtain ⟨h, hh⟩ : ∃ h, hvH t = h := ⟨_, rfl⟩
  obtain ⟨q, hq⟩ : ∃ q, okH t = q := ⟨_, rfl⟩
  rw [hh] at HC Hm
  rw [hq] at HC Hg Hb
  clear hh hq
  go_wp2_with fail
  refine (HC.out _ HTk HEk).mono ?_
  rintro e w4 ⟨rfl, hx4⟩
  replace bR := (bR.ext hx4).alloc (.cells #[.int .i64 h.A, .int .i64 h.B, .int .i64 h.C] 78)
  replace bQ := (bQ.ext hx4).alloc (.cells #[.int .i64 h.A, .int .i64 h.B, .int .i64 h.C] 78)
  have bH := Blk.new w4 78 #[.int .i64 h.A, .int .i64 h.B, .int .i64 h.C]
  replace hown := (own_ext hown hx4).alloc (.cells #[.int .i64 h.A, .int .i64 h.B, .int .i64 h.C] 78)
  replace thr := (thr.ext hx4).ext ((Ext.refl w4).alloc (.cells #[.int .i64 h.A, .int .i64 h.B, .int .i64 h.C] 78))
  replace hy := (hy.trans hx4).alloc (.cells #[.int .i64 h.A, .int .i64 h.B, .int .i64 h.C] 78)
  have hs4 := hx4.size
  have c4R := fun o => bR.cell o
  have f4R := fun o => bR.frozen o
  have c4Q := fun o => bQ.cell o
  have c4H := fun o => bH.cell o
  cases q
  · have H := Lib.hid (HNo.out (fun e => by have := Hb.out (by first | rfl | trivial); rw [this] at e; cases e.2.1))
    go_wp2
    refine bodyPost_ret (v := .tuple #[.agg #[.slice none 0 0], .bool false]) (by simp [results, Tryz.results38, go_sem, c4R]) rfl ?_
    exact RegMade.nil false H.out rfl (hy.setCell (by first | omega | (simp <;> omega)) _)
  have Hg2 := Lib.hid (Hg.out (by first | rfl | trivial))
  clear Hg Hb
  have hnews := Blk.new (w4.alloc (.cells #[.int .i64 h.A, .int .i64 h.B, .int .i64 h.C] 78)) 78 #[.int .i64 h.A, .int .i64 h.B, .int .i64 h.C]
  simp only [World.size_alloc] at hnews
  have hcc : ∀ j u, (ints h.ints)[j]? = some u → ((w4.alloc (.cells #[.int .i64 h.A, .int .i64 h.B, .int .i64 h.C] 78)).alloc (.cells #[.int .i64 h.A, .int .i64 h.B, .int .i64 h.C] 78)).cell? ((⟨w4.heap.size + 1, 0, none⟩ : Addr).add j) = some u := fun j u hj => by
    rw [show ((⟨w4.heap.size + 1, 0, none⟩ : Addr).add j) = ⟨w4.heap.size + 1, 0 + j, none⟩ from by unfold Addr.add; split <;> simp_all, Nat.zero_add, hnews.cell]
    simpa [ints, Half.ints] using hj
  clear hnews
  have bQ6 := bQ.alloc (.cells #[.int .i64 h.A, .int .i64 h.B, .int .i64 h.C] 78)
  have bR6 := bR.alloc (.cells #[.int .i64 h.A, .int .i64 h.B, .int .i64 h.C] 78)
  go_wp2_with (at_builtin; go_must (refine wpList_append_own _ rfl _ _ 24 rfl w1.heap.size 78 i0 (.agg #[.int .i64 0, .int .i64 0, .int .i64 0]) 3 24 Tryz.underlying24 hi0 hz0 hz1 hz2 rfl (by decide) _ _ _ rfl (hown.alloc _) ⟨w4.heap.size + 1, 0, none⟩ 1 1 (ints h.ints) rfl rfl hcc (oneCell_ints _) (by unfold maxLen; omega) (by omega) (by simp; omega) ?_); intro v' w6 hown' hgrow _; obtain ⟨A6, c6, rfl⟩ := own_form hown'; have bQ7 : Blk w6 (w.heap.size + 1) 26 #[.slice A4 k c4] := (hgrow.block (w.heap.size + 1) bQ6.lt (fun e => by have := (hown.lt _ e.symm).1; omega)).trans bQ6; have bR7 : Blk w6 w.heap.size 26 #[.slice none 0 0] := (hgrow.block w.heap.size bR6.lt (fun e => by have := (hown.lt _ e.symm).1; omega)).trans bR6; have cQ7 := fun o => bQ7.cell o; have fQ7 := fun o => bQ7.frozen o)
  have hy6 : Ext w w6 := (hy.alloc _).grown hgrow (fun g hg => by have := (hown.lt g hg).1; omega)
  have th6 : Mine w6 (w.heap.size + 2) w1.heap.size 9 1 (.slice (some ⟨b, off, none⟩) n c) n (strs P) := (thr.ext ((Ext.refl _).alloc _)).grown hgrow (fun g hg => Or.inr (hown.lt g hg).1)
  have hs6 := hgrow.size
  simp only [World.size_alloc] at hs6
  go_roundw
  case rel =>
    refine ⟨k + 1, A6, c6, by omega, by omega, by go_num, hy6.setCell (by first | omega | (simp <;> omega)) _, bR7.far (p := ⟨w.heap.size + 1, 0, none⟩) (by simp) _, bQ7.set_ 0 _, ?_, th6.setB (p := ⟨w.heap.size + 1, 0, none⟩) (Or.inl (by simp)) _, by simp; omega, Hg2.out⟩
    rw [Hm.out, flat1]
    exact own_far hown' (by simp; omega) _
  case measure => simp [intOf]; omega
theorem regionR_len (L : List UInt8) : (regionR L).1.length ≤ 40 := by
  unfold regionR
  split
  · simp
  · split
    · rename_i h; rw [List.length_map]; exact h.1
    · simp
theorem region_cnt (L : List UInt8) : cntF (regionF (regionR L).1) ≤ 100000000 := by
  have := regionR_len L
  simp only [regionF, cntF, halfF]
  omega
/-- a struct was made, and a bool -/
def AggMade (fs : List Fd) (q : Bool) (w : World) (e : Ending) (w' : World) : Prop :=
  ∃ us : List Value, e = .returned (.tuple #[.agg us.toArray, .bool q]) ∧ AggAt w' fs us w.heap.size w'.heap.size ∧ Ext w w'
theorem RegMade.agg {r : List Half × Bool} {w w' : World} {e : Ending} (h : RegMade r w e w') : AggMade (regionF r.1) r.2 w e w' := by
  obtain ⟨A, c, n, he, hn, hx, ho⟩ := h
  subst hn
  exact ⟨[.slice A r.1.length c], he, ⟨A, c, _, w'.heap.size, rfl, Mine.of_own ho, hx.size, rfl, Nat.le_refl _⟩, hx⟩
theorem implParseRegion_agg (s : ByteArray) (hs : s.size ≤ 1048576) (w : World) (ht : Tab w) (he : Ers w) :
    Calls Tryz.prog 38 #[.string s] w (AggMade (regionF (regionR s.data.toList).1) (regionR s.data.toList).2 w) := (implParseRegion_any s hs w ht he).mono fun _ _ h => h.agg
end Go.Proofs.YtlfepobnmmkcmaaGreatDoor
/- What is written is read again: numbers, half planes, regions, fractions, spans. -/
namespace Go.Proofs.YtlfepobnmmkcmaaGreatDoor
set_option linter.unusedVariables false

theorem pieces_free {q : UInt8} {l : List UInt8} : ∀ k, (∀ i, i < k → l[i]? ≠ some q) → pieces q l k = ([], 0) := by
  intro k
  induction k with
  | zero => intro _; rfl
  | succ k ih => intro h; rw [pieces, if_neg (h k (by omega))]; exact ih fun i hi => h i (by omega)
theorem pieces_shift {q : UInt8} {a b : List UInt8} (h : q ∉ a) : ∀ j, j ≤ b.length → pieces q (a ++ q :: b) (a.length + 1 + j) = (a :: (pieces q b j).1, a.length + 1 + (pieces q b j).2) := by
  intro j
  induction j with
  | zero =>
    intro _
    have h0 : pieces q (a ++ q :: b) a.length = ([], 0) := pieces_free _ fun i hi e => by
      rw [List.getElem?_append_left hi] at e
      exact h (List.mem_of_getElem? e)
    have e : pieces q (a ++ q :: b) (a.length + 1) = ([a], a.length + 1) := by
      rw [pieces, if_pos (by simp), h0]
      simp
    exact e
  | succ j ih =>
    intro hj
    have e1 : (a ++ q :: b)[a.length + 1 + j]? = b[j]? := by
      rw [List.getElem?_append_right (by omega), show a.length + 1 + j - a.length = j + 1 by omega, List.getElem?_cons_succ]
    show pieces q (a ++ q :: b) ((a.length + 1 + j) + 1) = _
    have hs := pieces_start q b j
    rw [pieces, e1, pieces, ih (by omega)]
    by_cases hq : b[j]? = some q
    · rw [if_pos hq, if_pos hq]
      have e2 : ((a ++ q :: b).take (a.length + 1 + j)).drop (a.length + 1 + (pieces q b j).2) = (b.take j).drop (pieces q b j).2 := by
        rw [show a ++ q :: b = (a ++ [q]) ++ b by simp, List.take_append, List.take_of_length_le (by simp), List.drop_append, List.drop_eq_nil_of_le (by simp)]
        simp only [List.length_append, List.length_singleton, List.nil_append]
        rw [show a.length + 1 + j - (a.length + 1) = j by omega, show a.length + 1 + (pieces q b j).2 - (a.length + 1) = (pieces q b j).2 by omega]
      simp only [e2, List.cons_append]
      rfl
    · rw [if_neg hq, if_neg hq]
theorem splitC_last {q : UInt8} {a : List UInt8} (h : q ∉ a) : splitC q a = [a] := by
  unfold splitC
  rw [pieces_free a.length fun i _ e => h (List.mem_of_getElem? e)]
  simp
theorem splitC_cons {q : UInt8} {a b : List UInt8} (h : q ∉ a) : splitC q (a ++ q :: b) = a :: splitC q b := by
  unfold splitC
  rw [show (a ++ q :: b).length = a.length + 1 + b.length by simp; omega, pieces_shift h _ (Nat.le_refl _)]
  have e : (a ++ q :: b).drop (a.length + 1 + (pieces q b b.length).2) = b.drop (pieces q b b.length).2 := by
    rw [show a ++ q :: b = (a ++ [q]) ++ b by simp, List.drop_append, List.drop_eq_nil_of_le (by simp)]
    simp only [List.length_append, List.length_singleton, List.nil_append]
    rw [show a.length + 1 + (pieces q b b.length).2 - (a.length + 1) = (pieces q b b.length).2 by omega]
  simp only [e, List.cons_append]
theorem join_two (x y : List UInt8) (r : List (List UInt8)) (s : List UInt8) : Lib.join (x :: y :: r) s = x ++ s ++ Lib.join (y :: r) s := by
  rw [Lib.join_cons, Lib.join_cons]
  unfold Lib.joinTail
  simp
theorem split_join {q : UInt8} : ∀ {P : List (List UInt8)}, P ≠ [] → (∀ x ∈ P, q ∉ x) → splitC q (Lib.join P [q]) = P := by
  intro P
  induction P with
  | nil => intro h; exact absurd rfl h
  | cons x r ih =>
    intro _ h
    cases r with
    | nil => rw [Lib.join_one]; exact splitC_last (h x (by simp))
    | cons y r =>
      rw [join_two, show x ++ [q] ++ Lib.join (y :: r) [q] = x ++ q :: Lib.join (y :: r) [q] by simp, splitC_cons (h x (by simp)), ih (by simp) fun z hz => h z (List.mem_cons_of_mem _ hz)]

def numC (c : UInt8) : Bool := isDig c || c == 45
theorem dec_chars (u : Nat) : ∀ c ∈ Lib.decDigits u, numC c = true := fun c hc => by
  have := List.all_eq_true.1 (dec_spec u).1 c hc
  unfold numC
  rw [this]; rfl
theorem numT_chars (n : Int) : ∀ c ∈ numT n, numC c = true := by
  intro c hc
  by_cases hn : n < 0
  · obtain ⟨u, rfl⟩ : ∃ u : Nat, n = -(u : Int) := ⟨n.natAbs, by omega⟩
    rw [numT_neg (by omega)] at hc
    rcases List.mem_cons.1 hc with rfl | h
    · rfl
    · exact dec_chars u c h
  · obtain ⟨u, rfl⟩ : ∃ u : Nat, n = (u : Int) := ⟨n.toNat, by omega⟩
    rw [numT_pos] at hc
    exact dec_chars u c hc
theorem numT_not {n : Int} {q : UInt8} (h : numC q = false) : q ∉ numT n := fun hc => by rw [numT_chars n q hc] at h; cases h
theorem pB_num {n : Int} (h : I64 n) : pB (numT n) = true := by unfold pB; rw [pI_num n h.1 h.2]; rfl
theorem pV_num {n : Int} (h : I64 n) : pV (numT n) = n := by unfold pV; rw [pI_num n h.1 h.2]; rfl
theorem nums_join {xs : List Int} (hne : xs ≠ []) (hI : ∀ x ∈ xs, I64 x) : numsL (joinT xs) = xs := by
  have hs : splitC 32 (joinT xs) = xs.map numT := by
    unfold joinT
    refine split_join (by simpa using hne) fun x hx => ?_
    obtain ⟨n, _, rfl⟩ := List.mem_map.1 hx
    exact numT_not (by decide)
  unfold numsL
  rw [hs, if_pos]
  · rw [List.map_map]
    conv => rhs; rw [← List.map_id xs]
    exact List.map_congr_left fun x hx => pV_num (hI x hx)
  · unfold numsOk
    rw [List.all_map, List.all_eq_true]
    exact fun x hx => pB_num (hI x hx)
theorem halfOk_I64 {h : Half} (hk : halfOk h = true) : I64 h.A ∧ I64 h.B ∧ I64 h.C := by
  have := halfOk_bd hk
  unfold I64
  omega
theorem half_again {h : Half} (hk : halfOk h = true) : halfR (halfT h) = (h, true) := by
  obtain ⟨i1, i2, i3⟩ := halfOk_I64 hk
  have e : halfT h = joinT [h.A, h.B, h.C] := if_pos hk
  have en : numsL (halfT h) = [h.A, h.B, h.C] := by
    rw [e]
    refine nums_join (by simp) fun x hx => ?_
    simp only [List.mem_cons, List.not_mem_nil, or_false] at hx
    rcases hx with rfl | rfl | rfl <;> assumption
  exact halfR_yes en rfl
theorem join_mem {P : List (List UInt8)} {s : List UInt8} {c : UInt8} (h : c ∈ Lib.join P s) : (∃ x ∈ P, c ∈ x) ∨ c ∈ s := by
  cases P with
  | nil => rw [Lib.join_nil] at h; cases h
  | cons x r =>
    rw [Lib.join_cons] at h
    rcases List.mem_append.1 h with h | h
    · exact .inl ⟨x, by simp, h⟩
    · unfold Lib.joinTail at h
      obtain ⟨y, hy, hc⟩ := List.mem_flatten.1 h
      obtain ⟨z, hz, rfl⟩ := List.mem_map.1 hy
      rcases List.mem_append.1 hc with hc | hc
      · exact .inr hc
      · exact .inl ⟨z, List.mem_cons_of_mem _ hz, hc⟩
theorem joinT_chars {xs : List Int} : ∀ c ∈ joinT xs, numC c = true ∨ c = 32 := by
  intro c hc
  rcases join_mem hc with ⟨x, hx, h⟩ | h
  · obtain ⟨n, _, rfl⟩ := List.mem_map.1 hx
    exact .inl (numT_chars n c h)
  · exact .inr (by simpa using h)
theorem halfT_chars (h : Half) : ∀ c ∈ halfT h, numC c = true ∨ c = 32 := by
  intro c hc
  unfold halfT at hc
  split at hc
  · exact joinT_chars c hc
  · cases hc
theorem halfT_not {h : Half} {q : UInt8} (h1 : numC q = false) (h2 : q ≠ 32) : q ∉ halfT h := fun hc => by
  rcases halfT_chars h q hc with e | e
  · rw [e] at h1; cases h1
  · exact h2 e
theorem region_again {hs : List Half} (hk : regOk hs = true) : regionR (regionT hs) = (hs, true) := by
  by_cases hne : hs = []
  · subst hne
    exact regionR_void rfl
  obtain ⟨hall, hlen, _⟩ := regOk_made hk hne
  have e : regionT hs = Lib.join (hs.map halfT) [59] := regionT_ok hne hk
  have hs59 : splitC 59 (regionT hs) = hs.map halfT := by
    rw [e]
    refine split_join (by simpa using hne) fun x hx => ?_
    obtain ⟨n, _, rfl⟩ := List.mem_map.1 hx
    exact halfT_not (by decide) (by decide)
  have hv : regionT hs ≠ voidT := by
    intro hv
    have hm : (118 : UInt8) ∈ regionT hs := by rw [hv]; unfold voidT; simp
    rw [e] at hm
    rcases join_mem hm with ⟨x, hx, h⟩ | h
    · obtain ⟨n, _, rfl⟩ := List.mem_map.1 hx
      exact halfT_not (by decide) (by decide) h
    · simp at h
  have hmap : (hs.map halfT).map hvH = hs := by
    rw [List.map_map]
    conv => rhs; rw [← List.map_id hs]
    refine List.map_congr_left fun x hx => ?_
    show (halfR (halfT x)).1 = x
    rw [half_again (List.all_eq_true.1 hall x hx)]
  rw [regionR_yes hv, hs59, hmap]
  rw [hs59, hmap]
  refine ⟨by simpa using hlen, ?_, rfl⟩
  rw [List.all_map, List.all_eq_true]
  intro x hx
  show (halfR (halfT x)).2 = true
  rw [half_again (List.all_eq_true.1 hall x hx)]
theorem ratio_I64 {r : Ratio} (hk : ratioOk r = true) : I64 r.N ∧ I64 r.D := by
  simp [ratioOk, inR] at hk
  unfold I64
  omega
theorem ratioT_chars (r : Ratio) : ∀ c ∈ ratioT r, numC c = true ∨ c = 47 := by
  intro c hc
  unfold ratioT at hc
  split at hc
  · split at hc
    · exact .inl (numT_chars _ c hc)
    · simp only [List.mem_append, List.mem_singleton] at hc
      rcases hc with (h | h) | h
      · exact .inl (numT_chars _ c h)
      · exact .inr h
      · exact .inl (numT_chars _ c h)
  · cases hc
theorem ratio_again {r : Ratio} (hk : ratioOk r = true) : ratR (ratioT r) = (r, true) := by
  obtain ⟨i1, i2⟩ := ratio_I64 hk
  by_cases hd : r.D = 1
  · have e : ratioT r = numT r.N := by unfold ratioT; rw [if_pos hk, if_pos hd]
    have hr : (⟨r.N, 1⟩ : Ratio) = r := by rw [← hd]
    have hs : splitC 47 (ratioT r) = [numT r.N] := by rw [e]; exact splitC_last (numT_not (by decide))
    unfold ratR
    rw [hs]
    unfold ratP
    simp only
    rw [pV_num i1, hr, if_pos ⟨pB_num i1, hk, rfl⟩]
  · have e : ratioT r = numT r.N ++ 47 :: numT r.D := by unfold ratioT; rw [if_pos hk, if_neg hd]; simp
    have hs : splitC 47 (ratioT r) = [numT r.N, numT r.D] := by rw [e, splitC_cons (numT_not (by decide)), splitC_last (numT_not (by decide))]
    unfold ratR
    rw [hs]
    unfold ratP
    simp only
    rw [pV_num i1, pV_num i2, if_pos ⟨pB_num i1, pB_num i2, hk, rfl⟩]
theorem spanOk_parts {w : Span} (h : spanOk w = true) : ratioOk w.Low = true ∧ ratioOk w.High = true := by
  unfold spanOk at h
  simp only [Bool.and_eq_true] at h
  exact h.1
theorem span_again {w : Span} (hk : spanOk w = true) : spanR (spanT w) = (w, true) := by
  obtain ⟨k1, k2⟩ := spanOk_parts hk
  have e : spanT w = ratioT w.Low ++ [46, 46] ++ ratioT w.High := if_pos hk
  have hno : ∀ r c, c ∈ ratioT r → c ≠ 46 := fun r c hc e => by
    subst e
    rcases ratioT_chars r _ hc with h | h
    · revert h; decide
    · revert h; decide
  have hl : (spanT w).length = (ratioT w.Low).length + 2 + (ratioT w.High).length := by rw [e]; simp; omega
  have hat : ∀ j (hj : j < (ratioT w.Low).length), (spanT w)[j]'(by omega) ≠ 46 := fun j hj => by
    have : (spanT w)[j]'(by omega) = (ratioT w.Low)[j] := by
      have h2 : (spanT w)[j]? = (ratioT w.Low)[j]? := by rw [e, List.append_assoc, List.getElem?_append_left hj]
      rw [List.getElem?_eq_getElem (by omega), List.getElem?_eq_getElem hj] at h2
      exact Option.some.inj h2
    rw [this]
    exact hno _ _ (List.getElem_mem hj)
  have d0 : (spanT w)[(ratioT w.Low).length]'(by omega) = 46 := by
    have h2 : (spanT w)[(ratioT w.Low).length]? = some 46 := by rw [e, List.append_assoc, List.getElem?_append_right (Nat.le_refl _)]; simp
    rw [List.getElem?_eq_getElem (by omega)] at h2
    exact Option.some.inj h2
  have d1 : (spanT w)[(ratioT w.Low).length + 1]'(by omega) = 46 := by
    have h2 : (spanT w)[(ratioT w.Low).length + 1]? = some 46 := by rw [e, List.append_assoc, List.getElem?_append_right (by omega)]; simp
    rw [List.getElem?_eq_getElem (by omega)] at h2
    exact Option.some.inj h2
  have hc := cut_hit (L := spanT w) (k := (ratioT w.Low).length) (by omega) d0 d1 fun j hj => dots_no (by omega) (.inl (hat j hj))
  have t1 : (spanT w).take (ratioT w.Low).length = ratioT w.Low := by rw [e, List.append_assoc, List.take_left]
  have t2 : (spanT w).drop ((ratioT w.Low).length + 2) = ratioT w.High := by rw [e, ← List.drop_drop, List.append_assoc, List.drop_left]; rfl
  rw [t1, t2] at hc
  rw [spanR_hit hc (a := w.Low.N) (b := w.Low.D) (c := w.High.N) (d := w.High.D) (q := true) (r := true) (ratio_again k1) (ratio_again k2)]
  exact if_pos ⟨rfl, rfl, hk⟩
end Go.Proofs.YtlfepobnmmkcmaaGreatDoor
