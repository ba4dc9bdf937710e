/- The numbers of a text: parseInts of the program, l23Numbers of the reference. (written by tools/mkNu.py) -/
import Derived.Test.YtlgkfjhbimffiaaGreatDoorDi
import Derived.Test.YtlgkfjhbimffiaaGreatDoorSl
import Derived.Test.YtlgkfjhbimffiaaGreatDoorJ
namespace Go.Proofs.YtlgkfjhbimffiaaGreatDoor
open Go.ChangeShapes Go.WideShapes Go.ChangeAt Go.RowKit
set_option linter.unusedVariables false
set_option maxRecDepth 100000

def goodAt (P : List (List UInt8)) (k : Nat) : Bool := pB (P.getD k [])
def numsOk (P : List (List UInt8)) : Bool := P.all pB
def numsL (L : List UInt8) : List Int := if numsOk (splitC 32 L) = true then (splitC 32 L).map pV else []
theorem pV_bd (l : List UInt8) : I64 (pV l) := by
  unfold pV
  cases h : pI l with
  | none => exact ⟨by decide, by decide⟩
  | some n => exact (pI_some h).2
theorem all_take_at {f : List UInt8 → Bool} {P : List (List UInt8)} {k : Nat} (h : k < P.length) (ha : (P.take k).all f = true) (hf : f P[k] = true) : (P.take (k + 1)).all f = true := by
  rw [List.take_add_one, List.all_append, ha, List.getElem?_eq_getElem h]
  simp [hf]
theorem map_take_at {f : List UInt8 → Int} {P : List (List UInt8)} {k : Nat} (h : k < P.length) : (P.take (k + 1)).map f = (P.take k).map f ++ [f P[k]] := by
  rw [List.take_add_one, List.map_append, List.getElem?_eq_getElem h]
  simp
theorem all_not_at {f : List UInt8 → Bool} {P : List (List UInt8)} {k : Nat} (h : k < P.length) (hf : f P[k] = false) : P.all f = false := by
  rw [List.all_eq_false]
  exact ⟨_, List.getElem_mem h, by rw [hf]; simp⟩
set_option maxHeartbeats 4000000 in
theorem implparseInts_m (s : ByteArray) (hs : s.size ≤ 1048576) (w : World) (ht : Tab w) (he : Ers w) :
    Calls Tryz.prog 53 #[.string s] w fun e w' => ∃ A c n, e = .returned (.tuple #[.slice A n c, .bool (numsOk (splitC 32 s.data.toList))]) ∧ n = (numsL s.data.toList).length ∧ Mine w' w.heap.size w'.heap.size 3 1 (.slice A n c) n (ints (numsL s.data.toList)) ∧ Ext w w' := by
  obtain ⟨i0, hi0, hz0, hz1, hz2⟩ := info_parts int_info
  obtain ⟨L, hL⟩ : ∃ L, s.data.toList = L := ⟨_, rfl⟩
  have HL := Lib.hid hL
  have hLn : L.length ≤ 1048576 := by rw [← hL]; simpa using hs
  obtain ⟨P, hP⟩ : ∃ P, splitC 32 L = P := ⟨_, rfl⟩
  have HP := Lib.hid hP
  have HS : Hid (∀ k (h : k < P.length), P[k].length ≤ 1048576) := fun k h => Nat.le_trans (splitC_small 32 L _ (by rw [hP]; exact List.getElem_mem h)) hLn
  have hPn : P.length ≤ 1048577 := by have := splitC_len 32 L; rw [hP] at this; omega
  have HB : Hid (∀ h : numsOk P = false, numsL L = [] ∧ numsOk (splitC 32 L) = false) := fun h => ⟨by unfold numsL; rw [hP, h]; rfl, by rw [hP]; exact h⟩
  have HG : Hid (∀ h : numsOk P = true, numsL L = P.map pV ∧ numsOk (splitC 32 L) = true) := fun h => ⟨by unfold numsL; rw [hP, h]; rfl, by rw [hP]; exact h⟩
  rw [hL]
  clear hP hL
  have HT0 := Lib.hid ht
  have HE0 := Lib.hid he
  clear ht he
  go_enter Tryz.func53, Tryz.ntmps53
  go_wp2_with fail
  refine (implSplitAny_any 32 s hs _).mono ?_
  rintro e w1 ⟨A, c, rfl, th, hx1⟩
  rw [HL.out, HP.out] at th
  rw [HL.out, HP.out]
  have hrow := th.row
  clear th
  obtain ⟨n, hn⟩ : ∃ n, P.length = n := ⟨_, rfl⟩
  rw [hn] at hPn
  rw [hn]
  have HN := Lib.hid hn
  clear hn
  have HR := Lib.hid hrow
  have hs1 := hx1.size
  go_wp2
  go_loopw [4, 12] (fun v i wr => ∃ (k : Nat), k ≤ n ∧ i = .int .i64 k ∧ Ext w1 wr ∧ wr.ownsRow w1.heap.size 3 1 v k (ints ((P.take k).map pV)) ∧ (P.take k).all pB = true) (fun _ i _ => n - (intOf i).toNat)
  case atStart => exact ⟨0, Nat.zero_le _, rfl, Ext.refl _, World.ownsRow_nil _ _ _ _, rfl⟩
  case round =>
  obtain ⟨k, hk, rfl, hx, hown, hall⟩ := hrel
  have Hall := Lib.hid hall
  clear hall
  have hsz := hx.size
  by_cases hlt : k < n
  rotate_left
  · obtain rfl : k = n := by omega
    have hf : numsOk P = true := by have := Hall.out; rwa [List.take_of_length_le (by rw [HN.out]; omega)] at this
    obtain ⟨q1, q2⟩ := HG.out hf
    obtain ⟨A', c', rfl⟩ := own_form hown
    go_wp2
    go_ret2
    refine ⟨A', c', k, by rw [q2]; rfl, ?_, ?_, hx1.trans hx⟩
    · rw [q1, List.length_map, HN.out]
    · rw [q1]
      rw [List.take_of_length_le (by rw [HN.out]; omega)] at hown
      exact Mine.of_own (own_base hown (by omega))
  have hlt2 : (k : Int) < (n : Int) := by omega
  have hkl : k < P.length := by rw [HN.out]; exact hlt
  obtain ⟨b, off, rfl, hb, hc0⟩ := (HR.out.ext hx).str (k := k) hkl
  have hsk := HS.out k hkl
  have Hg : Hid (∀ h : pB P[k] = true, (P.take (k + 1)).all pB = true) := fun h => all_take_at hkl Hall.out h
  have Hb : Hid (∀ h : pB P[k] = false, numsOk P = false) := fun h => all_not_at hkl h
  have Hm : Hid ((P.take (k + 1)).map pV = (P.take k).map pV ++ [pV P[k]]) := map_take_at hkl
  obtain ⟨t, ht⟩ : ∃ t, P[k]'hkl = t := ⟨_, rfl⟩
  rw [ht] at hc0 hsk Hg Hb Hm
  clear ht
  have hst : (txt t).size ≤ 1048576 := by rw [txt_size]; exact hsk
  have HT := HT0.out.ext (hx1.trans hx)
  have HE := HE0.out.ext (hx1.trans hx)
  go_wp2_with fail
  refine (implParseInt_any (txt t) hst _ HT HE).mono ?_
  rintro e w2 ⟨rfl, hx2⟩
  rw [txt_list]
  by_cases hp : pB t = true
  rotate_left
  · have hp' : pB t = false := by simpa using hp
    obtain ⟨q1, q2⟩ := HB.out (Hb.out hp')
    rw [hp']
    clear hp hp'
    go_wp2
    go_ret2
    refine ⟨none, 0, 0, by rw [q2]; rfl, by rw [q1]; rfl, ?_, (hx1.trans hx).trans hx2⟩
    rw [q1]
    exact Mine.of_own (World.ownsRow_nil w2 w.heap.size 3 1)
  have Hok := Lib.hid (Hg.out hp)
  rw [hp]
  clear hp
  obtain ⟨z, hz⟩ : ∃ z, pV t = z := ⟨_, rfl⟩
  rw [hz] at Hm ⊢
  clear hz
  have hown2 := own_ext hown hx2
  have hsz2 := hx2.size
  go_wp2_with (at_builtin; go_must (refine wpList_append_own _ rfl _ _ 33 rfl w1.heap.size 3 i0 (.int .i64 0) 1 8 Tryz.underlying33 hi0 hz0 hz1 hz2 rfl (by decide) _ _ _ rfl (hown2.alloc _) ⟨w2.heap.size, 0, none⟩ 1 1 [.int .i64 z] rfl rfl (cell_one_new _ _ _) (by simp [Value.oneCell']) (by unfold maxLen; omega) (by omega) (by simp; omega) ?_); intro v' w4 hown' hgrow _)
  have hx5 : Ext w1 w4 := ((hx.trans hx2).alloc _).grown hgrow (fun g hg => (hown.lt g hg).1)
  go_roundw
  case rel => exact ⟨k + 1, by omega, by go_num, hx5, by rw [Hm.out, ints_append]; exact hown', Hok.out⟩
  case measure => simp [intOf]; omega
theorem implparseInts_any (s : ByteArray) (hs : s.size ≤ 1048576) (w : World) (ht : Tab w) (he : Ers w) :
    Calls Tryz.prog 53 #[.string s] w fun e w' => ∃ A c n, e = .returned (.tuple #[.slice A n c, .bool (numsOk (splitC 32 s.data.toList))]) ∧ n = (numsL s.data.toList).length ∧ Row w' A (ints (numsL s.data.toList)) ∧ Ext w w' :=
  (implparseInts_m s hs w ht he).mono fun _ _ ⟨A, c, n, h1, h2, h3, h4⟩ => ⟨A, c, n, h1, h2, h3.row, h4⟩

set_option maxHeartbeats 4000000 in
theorem specl23Numbers_m (s : ByteArray) (hs : s.size ≤ 1048576) (w : World) :
    Calls Tryz.prog 52 #[.string s] w fun e w' => ∃ A c n, e = .returned (.slice A n c) ∧ n = (numsL s.data.toList).length ∧ Mine w' w.heap.size w'.heap.size 3 1 (.slice A n c) n (ints (numsL s.data.toList)) ∧ Ext w w' := by
  obtain ⟨i0, hi0, hz0, hz1, hz2⟩ := info_parts int_info
  obtain ⟨L, hL⟩ : ∃ L, s.data.toList = L := ⟨_, rfl⟩
  have HL := Lib.hid hL
  have hLn : L.length ≤ 1048576 := by rw [← hL]; simpa using hs
  obtain ⟨P, hP⟩ : ∃ P, splitC 32 L = P := ⟨_, rfl⟩
  have HP := Lib.hid hP
  have HS : Hid (∀ k (h : k < P.length), P[k].length ≤ 1048576) := fun k h => Nat.le_trans (splitC_small 32 L _ (by rw [hP]; exact List.getElem_mem h)) hLn
  have hPn : P.length ≤ 1048577 := by have := splitC_len 32 L; rw [hP] at this; omega
  have HB : Hid (∀ h : numsOk P = false, numsL L = [] ∧ numsOk (splitC 32 L) = false) := fun h => ⟨by unfold numsL; rw [hP, h]; rfl, by rw [hP]; exact h⟩
  have HG : Hid (∀ h : numsOk P = true, numsL L = P.map pV ∧ numsOk (splitC 32 L) = true) := fun h => ⟨by unfold numsL; rw [hP, h]; rfl, by rw [hP]; exact h⟩
  rw [hL]
  clear hP hL
  go_enter Tryz.func52, Tryz.ntmps52
  go_wp2_with fail
  refine (specSplitAny_any 32 s hs _).mono ?_
  rintro e w1 ⟨A, c, rfl, th, hx1⟩
  rw [HL.out, HP.out] at th
  rw [HL.out, HP.out]
  simp only [World.size_alloc] at th
  obtain ⟨n, hn⟩ : ∃ n, P.length = n := ⟨_, rfl⟩
  rw [hn] at hPn
  rw [hn] at th
  rw [hn]
  have HN := Lib.hid hn
  clear hn
  have hx0 := hx1
  replace hx1 := ((Ext.refl w).alloc _).trans hx1
  have hlit : (w.alloc (.cells #[] 3)).ownsRow w.heap.size 3 1 (.slice (some ⟨w.heap.size, 0, none⟩) 0 0) 0 (ints []) := World.ownsRow_lit w #[] 0 (Nat.le_refl _) (by unfold maxLen; omega) rfl
  have hs1 := hx1.size
  have hs0 := hx0.size
  rw [World.size_alloc] at hs0
  go_wp2
  go_loopw [3, 12] (fun v i wr => ∃ (k : Nat), k ≤ n ∧ i = .int .i64 k ∧ Ext w wr ∧ w1.heap.size ≤ wr.heap.size ∧ Mine wr (w.heap.size + 1) w1.heap.size 9 1 (.slice A n c) n (strs P) ∧ (∀ g, Value.ownBlock v = some g → g < w.heap.size + 1 ∨ w1.heap.size ≤ g) ∧ wr.ownsRow w.heap.size 3 1 v k (ints ((P.take k).map pV)) ∧ (P.take k).all pB = true) (fun _ i _ => n - (intOf i).toNat)
  case atStart => exact ⟨0, Nat.zero_le _, rfl, hx1, Nat.le_refl _, th, fun g hg => Or.inl (by simp [Value.ownBlock] at hg; omega), own_ext hlit hx0, rfl⟩
  case round =>
  obtain ⟨k, hk, rfl, hx, hgt, thr, hblk, hown, hall⟩ := hrel
  have HBk := Lib.hid hblk
  clear hblk
  have HR := Lib.hid thr.row
  have Hall := Lib.hid hall
  clear hall
  have hsz := hx.size
  by_cases hlt : k < n
  rotate_left
  · obtain rfl : k = n := by omega
    have hf : numsOk P = true := by have := Hall.out; rwa [List.take_of_length_le (by rw [HN.out]; omega)] at this
    obtain ⟨q1, q2⟩ := HG.out hf
    obtain ⟨A', c', rfl⟩ := own_form hown
    go_wp2
    go_ret
    refine ⟨A', c', k, rfl, ?_, ?_, hx⟩
    · rw [q1, List.length_map, HN.out]
    · rw [q1]
      rw [List.take_of_length_le (by rw [HN.out]; omega)] at hown
      exact Mine.of_own (own_base hown (by omega))
  have hlt2 : (k : Int) < (n : Int) := by omega
  have hkl : k < P.length := by rw [HN.out]; exact hlt
  obtain ⟨b, off, hA, hb, hc0⟩ := HR.out.str (k := k) hkl
  subst hA
  have hsk := HS.out k hkl
  have Hg : Hid (∀ h : pB P[k] = true, (P.take (k + 1)).all pB = true) := fun h => all_take_at hkl Hall.out h
  have Hb : Hid (∀ h : pB P[k] = false, numsOk P = false) := fun h => all_not_at hkl h
  have Hm : Hid ((P.take (k + 1)).map pV = (P.take k).map pV ++ [pV P[k]]) := map_take_at hkl
  obtain ⟨t, ht⟩ : ∃ t, P[k]'hkl = t := ⟨_, rfl⟩
  rw [ht] at hc0 hsk Hg Hb Hm
  clear ht
  have hst : (txt t).size ≤ 1048576 := by rw [txt_size]; exact hsk
  go_wp2_with fail
  refine (specParseInt_any (txt t) hst _).mono ?_
  rintro e w2 ⟨rfl, hx2⟩
  rw [txt_list]
  by_cases hp : pB t = true
  rotate_left
  · have hp' : pB t = false := by simpa using hp
    obtain ⟨q1, q2⟩ := HB.out (Hb.out hp')
    rw [hp']
    clear hp hp'
    go_wp2
    go_ret
    refine ⟨none, 0, 0, rfl, by rw [q1]; rfl, ?_, hx.trans hx2⟩
    rw [q1]
    exact Mine.of_own (World.ownsRow_nil w2 w.heap.size 3 1)
  have Hok := Lib.hid (Hg.out hp)
  rw [hp]
  clear hp
  obtain ⟨z, hz⟩ : ∃ z, pV t = z := ⟨_, rfl⟩
  rw [hz] at Hm ⊢
  clear hz
  have hown2 := own_ext hown hx2
  have hsz2 := hx2.size
  go_wp2_with (at_builtin; go_must (refine wpList_append_own_at _ rfl _ _ 33 rfl w.heap.size 3 i0 (.int .i64 0) 1 8 Tryz.underlying33 hi0 hz0 hz1 hz2 rfl (by decide) _ _ _ rfl (hown2.alloc _) ⟨w2.heap.size, 0, none⟩ 1 1 [.int .i64 z] rfl rfl (cell_one_new _ _ _) (by simp [Value.oneCell']) (by unfold maxLen; omega) (by omega) (by simp; omega) ?_); intro v' w4 hown' hgrow _ hat)
  have hx5 : Ext w w4 := ((hx.trans hx2).alloc _).grown hgrow (fun g hg => (hown.lt g hg).1)
  go_roundw
  case rel => exact ⟨k + 1, by omega, by go_num, hx5, by have := hgrow.size; simp at this; omega, ((thr.ext hx2).ext ((Ext.refl _).alloc _)).grown hgrow HBk.out, (by intro g hg; rcases hat with h | h <;> rw [h] at hg; exact HBk.out g hg; (injection hg with hg; subst hg; simp; omega)), by rw [Hm.out, ints_append]; exact hown', Hok.out⟩
  case measure => simp [intOf]; omega
theorem specl23Numbers_any (s : ByteArray) (hs : s.size ≤ 1048576) (w : World) :
    Calls Tryz.prog 52 #[.string s] w fun e w' => ∃ A c n, e = .returned (.slice A n c) ∧ n = (numsL s.data.toList).length ∧ Row w' A (ints (numsL s.data.toList)) ∧ Ext w w' :=
  (specl23Numbers_m s hs w).mono fun _ _ ⟨A, c, n, h1, h2, h3, h4⟩ => ⟨A, c, n, h1, h2, h3.row, h4⟩
end Go.Proofs.YtlgkfjhbimffiaaGreatDoor
