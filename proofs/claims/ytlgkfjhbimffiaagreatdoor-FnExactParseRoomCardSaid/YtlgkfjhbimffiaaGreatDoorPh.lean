/- ParseHalf, both: read off their walks. (written by tools/mkPh.py) -/
import Derived.Test.YtlgkfjhbimffiaaGreatDoorNu
import Derived.Test.YtlgkfjhbimffiaaGreatDoorHt
import Derived.Deep.RegionHeld3
namespace Go.Proofs.YtlgkfjhbimffiaaGreatDoor
open Go.ChangeShapes Go.WideShapes Go.ChangeAt Go.RowKit
set_option linter.unusedVariables false
set_option maxRecDepth 100000

def halfOf (N : List Int) : Half := ⟨N.getD 0 0, N.getD 1 0, N.getD 2 0⟩
def halfR (L : List UInt8) : Half × Bool := if (numsL L).length = 3 ∧ halfT (halfOf (numsL L)) = L then (halfOf (numsL L), true) else (⟨0, 0, 0⟩, false)
theorem halfR_len {L : List UInt8} (h : (numsL L).length ≠ 3) : halfR L = (⟨0, 0, 0⟩, false) := if_neg (fun e => h e.1)
theorem halfR_yes {L : List UInt8} {a b c : Int} (h : numsL L = [a, b, c]) (ht : halfT ⟨a, b, c⟩ = L) : halfR L = (⟨a, b, c⟩, true) := by
  unfold halfR
  rw [h]
  exact if_pos ⟨rfl, ht⟩
theorem halfR_no {L : List UInt8} {a b c : Int} (h : numsL L = [a, b, c]) (ht : ¬ halfT ⟨a, b, c⟩ = L) : halfR L = (⟨0, 0, 0⟩, false) := by
  unfold halfR
  rw [h]
  exact if_neg (fun e => ht e.2)
theorem nums_nil : numsL [] = [] := by decide
theorem numsL_bd (L : List UInt8) : ∀ z ∈ numsL L, I64 z := by
  unfold numsL
  split
  · intro z hz
    obtain ⟨l, _, rfl⟩ := List.mem_map.1 hz
    exact pV_bd l
  · intro z hz; cases hz
theorem three_of {l : List Int} (h : l.length = 3) : ∃ a b c, l = [a, b, c] := by
  match l, h with
  | [a, b, c], _ => exact ⟨a, b, c, rfl⟩
theorem nums_no {L : List UInt8} (h : numsOk (splitC 32 L) = false) : (numsL L).length ≠ 3 := by
  unfold numsL
  rw [h]
  intro e
  cases e

set_option maxHeartbeats 4000000 in
theorem implParseHalf_any (s : ByteArray) (hs : s.size ≤ 1048576) (w : World) (ht : Tab w) (he : Ers w) :
    Calls Tryz.prog 49 #[.string s] w fun e w' => e = .returned (.tuple #[.agg #[.int .i64 (halfR s.data.toList).1.A, .int .i64 (halfR s.data.toList).1.B, .int .i64 (halfR s.data.toList).1.C], .bool (halfR s.data.toList).2]) ∧ Ext w w' := by
  have hx : Ext w (w.alloc (.cells #[.int .i64 0, .int .i64 0, .int .i64 0] 69)) := (Ext.refl w).alloc _
  have b0 := Blk.new w 69 #[.int .i64 0, .int .i64 0, .int .i64 0]
  obtain ⟨L, hL⟩ : ∃ L, s.data.toList = L := ⟨_, rfl⟩
  have HL := Lib.hid hL
  rw [hL]
  clear hL
  have hx0 := hx
  have HT := ht.ext hx
  have HE := he.ext hx
  have HT0 := Lib.hid ht
  clear ht he
  go_enter Tryz.func49, Tryz.ntmps49
  go_wp2_with fail
  refine (implparseInts_any s hs _ HT HE).mono ?_
  rintro e w1 ⟨A, c, n, rfl, hn, hrow, hx1⟩
  replace b0 := b0.ext hx1
  replace hx := hx.trans hx1
  rw [HL.out] at hn hrow
  rw [HL.out]
  have c0 := fun o => b0.cell o
  have f0 := fun o => b0.frozen o
  have hlt := b0.lt
  clear HT HE
  by_cases hok : numsOk (splitC 32 L) = true
  rotate_left
  · have hok' : numsOk (splitC 32 L) = false := by simpa using hok
    have H := Lib.hid (halfR_len (nums_no hok'))
    rw [hok']
    clear hok hok'
    go_wp2
    refine bodyPost_ret (v := .tuple #[.agg #[.int .i64 0, .int .i64 0, .int .i64 0], .bool false]) (by simp [results, Tryz.results49, go_sem, c0]) rfl ⟨by rw [H.out], ?_⟩
    exact ((hx.setCell (by first | omega | (simp <;> omega)) _).setCell (by first | omega | (simp <;> omega)) _).setCell (by first | omega | (simp <;> omega)) _
  rw [hok]
  clear hok
  by_cases h3 : n = 3
  rotate_left
  · have H := Lib.hid (halfR_len (L := L) (by rw [← hn]; exact h3))
    have h3' : ((n : Int) == 3) = false := by rw [beq_eq_false_iff_ne]; omega
    have h3'' : ¬ (n : Int) = 3 := by omega
    go_wp2
    refine bodyPost_ret (v := .tuple #[.agg #[.int .i64 0, .int .i64 0, .int .i64 0], .bool false]) (by simp [results, Tryz.results49, go_sem, c0]) rfl ⟨by rw [H.out], ?_⟩
    exact ((hx.setCell (by first | omega | (simp <;> omega)) _).setCell (by first | omega | (simp <;> omega)) _).setCell (by first | omega | (simp <;> omega)) _
  subst h3
  obtain ⟨x, y, z, hN⟩ := three_of hn.symm
  have HN := Lib.hid hN
  have hbd := numsL_bd L
  rw [hN] at hrow hbd
  have hIx : I64 x := hbd x (by simp)
  have hIy : I64 y := hbd y (by simp)
  have hIz : I64 z := hbd z (by simp)
  clear hN hbd hn
  obtain ⟨b, off, rfl, hb, e0⟩ := hrow.int (k := 0) (by simp)
  obtain ⟨b', off', hA1, hb1, e1⟩ := hrow.int (k := 1) (by simp)
  obtain ⟨b'', off'', hA2, hb2, e2⟩ := hrow.int (k := 2) (by simp)
  injection hA1 with hA1
  injection hA1 with q1 q2
  subst q1 q2
  injection hA2 with hA2
  injection hA2 with q1 q2
  subst q1 q2
  simp only [List.getElem_cons_zero, List.getElem_cons_succ, Nat.add_zero] at e0 e1 e2
  clear hrow
  go_wp2_with fail
  go_region_held3 (fun w' => w'.cell? ⟨b, off, none⟩ = some (.int .i64 x) ∧ w'.cell? ⟨b, off + 1, none⟩ = some (.int .i64 y) ∧ w'.cell? ⟨b, off + 2, none⟩ = some (.int .i64 z)) (go_keep) (fail)
  have hy : Ext w1 ((w1.alloc (.cells #[.int .i64 x, .int .i64 y, .int .i64 z] 69)).drew) := ((Ext.refl w1).alloc _).drew
  have bH := (Blk.new w1 69 #[.int .i64 x, .int .i64 y, .int .i64 z]).ext (Ext.drew (Ext.refl _))
  go_wp2_with fail
  have HT := HT0.out.ext ((Ext.trans hx0 hx1).trans hy)
  refine (implFormatHalf_any x y z _ hIx hIy hIz HT).mono ?_
  rintro e w2 ⟨rfl, hx2⟩
  replace hy := hy.trans hx2
  replace bH := bH.ext hx2
  replace b0 := b0.ext hy
  replace hx := hx.trans hy
  have c0 := fun o => b0.cell o
  have f0 := fun o => b0.frozen o
  have cH := fun o => bH.cell o
  have hlt := b0.lt
  have hltH := bH.lt
  by_cases hc : halfT ⟨x, y, z⟩ = L
  · have H := Lib.hid (halfR_yes HN.out hc)
    have hcm : ((txt (halfT ⟨x, y, z⟩)).toList == s.toList) = true := by rw [txt_same, HL.out, decide_eq_true_eq]; exact hc
    clear hc
    go_wp2
    have bF := ((b0.set_ 0 (.int .i64 x)).set_ 1 (.int .i64 y)).set_ 2 (.int .i64 z)
    have cF := fun o => bF.cell o
    refine bodyPost_ret (v := .tuple #[.agg #[.int .i64 x, .int .i64 y, .int .i64 z], .bool true]) (by simp [results, Tryz.results49, go_sem, cF]) rfl ⟨by rw [H.out], ?_⟩
    exact ((hx.setCell (by first | omega | (simp <;> omega)) _).setCell (by first | omega | (simp <;> omega)) _).setCell (by first | omega | (simp <;> omega)) _
  · have H := Lib.hid (halfR_no HN.out hc)
    have hcm : ((txt (halfT ⟨x, y, z⟩)).toList == s.toList) = false := by rw [txt_same, HL.out, decide_eq_false_iff_not]; exact hc
    clear hc
    go_wp2
    refine bodyPost_ret (v := .tuple #[.agg #[.int .i64 0, .int .i64 0, .int .i64 0], .bool false]) (by simp [results, Tryz.results49, go_sem, c0]) rfl ⟨by rw [H.out], ?_⟩
    exact ((hx.setCell (by first | omega | (simp <;> omega)) _).setCell (by first | omega | (simp <;> omega)) _).setCell (by first | omega | (simp <;> omega)) _

set_option maxHeartbeats 4000000 in
theorem specParseHalf_any (s : ByteArray) (hs : s.size ≤ 1048576) (w : World) :
    Calls Tryz.prog 47 #[.string s] w fun e w' => e = .returned (.tuple #[.agg #[.int .i64 (halfR s.data.toList).1.A, .int .i64 (halfR s.data.toList).1.B, .int .i64 (halfR s.data.toList).1.C], .bool (halfR s.data.toList).2]) ∧ Ext w w' := by
  have hx : Ext w (w.alloc (.cells #[.int .i64 0, .int .i64 0, .int .i64 0] 69)) := (Ext.refl w).alloc _
  have b0 := Blk.new w 69 #[.int .i64 0, .int .i64 0, .int .i64 0]
  obtain ⟨L, hL⟩ : ∃ L, s.data.toList = L := ⟨_, rfl⟩
  have HL := Lib.hid hL
  rw [hL]
  clear hL
  go_enter Tryz.func47, Tryz.ntmps47
  go_wp2_with fail
  refine (specl23Numbers_any s hs _).mono ?_
  rintro e w1 ⟨A, c, n, rfl, hn, hrow, hx1⟩
  replace b0 := b0.ext hx1
  replace hx := hx.trans hx1
  rw [HL.out] at hn hrow
  have c0 := fun o => b0.cell o
  have f0 := fun o => b0.frozen o
  have hlt := b0.lt
  by_cases h3 : n = 3
  rotate_left
  · have H := Lib.hid (halfR_len (L := L) (by rw [← hn]; exact h3))
    have h3' : ((n : Int) == 3) = false := by rw [beq_eq_false_iff_ne]; omega
    have h3'' : ¬ (n : Int) = 3 := by omega
    go_wp2
    refine bodyPost_ret (v := .tuple #[.agg #[.int .i64 0, .int .i64 0, .int .i64 0], .bool false]) (by simp [results, Tryz.results47, go_sem, c0]) rfl ⟨by rw [H.out], ?_⟩
    exact ((hx.setCell (by first | omega | (simp <;> omega)) _).setCell (by first | omega | (simp <;> omega)) _).setCell (by first | omega | (simp <;> omega)) _
  subst h3
  obtain ⟨x, y, z, hN⟩ := three_of hn.symm
  have HN := Lib.hid hN
  have hbd := numsL_bd L
  rw [hN] at hrow hbd
  have hIx : I64 x := hbd x (by simp)
  have hIy : I64 y := hbd y (by simp)
  have hIz : I64 z := hbd z (by simp)
  clear hN hbd hn
  obtain ⟨b, off, rfl, hb, e0⟩ := hrow.int (k := 0) (by simp)
  obtain ⟨b', off', hA1, hb1, e1⟩ := hrow.int (k := 1) (by simp)
  obtain ⟨b'', off'', hA2, hb2, e2⟩ := hrow.int (k := 2) (by simp)
  injection hA1 with hA1
  injection hA1 with q1 q2
  subst q1 q2
  injection hA2 with hA2
  injection hA2 with q1 q2
  subst q1 q2
  simp only [List.getElem_cons_zero, List.getElem_cons_succ, Nat.add_zero] at e0 e1 e2
  clear hrow
  go_wp2_with fail
  go_region_held3 (fun w' => w'.cell? ⟨b, off, none⟩ = some (.int .i64 x) ∧ w'.cell? ⟨b, off + 1, none⟩ = some (.int .i64 y) ∧ w'.cell? ⟨b, off + 2, none⟩ = some (.int .i64 z)) (go_keep) (fail)
  have hy : Ext w1 ((w1.alloc (.cells #[.int .i64 x, .int .i64 y, .int .i64 z] 69)).drew) := ((Ext.refl w1).alloc _).drew
  have bH := (Blk.new w1 69 #[.int .i64 x, .int .i64 y, .int .i64 z]).ext (Ext.drew (Ext.refl _))
  go_wp2_with fail
  refine (specHalfOk_any x y z _ hIx hIy hIz).mono ?_
  rintro e w9 ⟨rfl, hx9⟩
  replace hy := hy.trans hx9
  replace bH := bH.ext hx9
  have cH := fun o => bH.cell o
  by_cases hok : halfOk ⟨x, y, z⟩ = true
  rotate_left
  · have hok' : halfOk ⟨x, y, z⟩ = false := by simpa using hok
    have H := Lib.hid (halfR_no HN.out (fun e => by
      have h1 : halfT ⟨x, y, z⟩ = [] := by unfold halfT; rw [hok']; rfl
      rw [h1] at e
      have h2 := HN.out
      rw [← e, nums_nil] at h2
      cases h2))
    rw [hok']
    clear hok hok'
    replace b0 := b0.ext hy
    replace hx := hx.trans hy
    have c0 := fun o => b0.cell o
    have f0 := fun o => b0.frozen o
    have hlt := b0.lt
    go_wp2
    refine bodyPost_ret (v := .tuple #[.agg #[.int .i64 0, .int .i64 0, .int .i64 0], .bool false]) (by simp [results, Tryz.results47, go_sem, c0]) rfl ⟨by rw [H.out], ?_⟩
    exact ((hx.setCell (by first | omega | (simp <;> omega)) _).setCell (by first | omega | (simp <;> omega)) _).setCell (by first | omega | (simp <;> omega)) _
  rw [hok]
  clear hok
  go_wp2_with fail
  refine (specFormatHalf_any x y z _ hIx hIy hIz).mono ?_
  rintro e w2 ⟨rfl, hx2⟩
  replace hy := hy.trans hx2
  replace bH := bH.ext hx2
  replace b0 := b0.ext hy
  replace hx := hx.trans hy
  have c0 := fun o => b0.cell o
  have f0 := fun o => b0.frozen o
  have cH := fun o => bH.cell o
  have hlt := b0.lt
  have hltH := bH.lt
  by_cases hc : halfT ⟨x, y, z⟩ = L
  · have H := Lib.hid (halfR_yes HN.out hc)
    have hcm : ((txt (halfT ⟨x, y, z⟩)).toList == s.toList) = true := by rw [txt_same, HL.out, decide_eq_true_eq]; exact hc
    clear hc
    go_wp2
    have bF := ((b0.set_ 0 (.int .i64 x)).set_ 1 (.int .i64 y)).set_ 2 (.int .i64 z)
    have cF := fun o => bF.cell o
    refine bodyPost_ret (v := .tuple #[.agg #[.int .i64 x, .int .i64 y, .int .i64 z], .bool true]) (by simp [results, Tryz.results47, go_sem, cF]) rfl ⟨by rw [H.out], ?_⟩
    exact ((hx.setCell (by first | omega | (simp <;> omega)) _).setCell (by first | omega | (simp <;> omega)) _).setCell (by first | omega | (simp <;> omega)) _
  · have H := Lib.hid (halfR_no HN.out hc)
    have hcm : ((txt (halfT ⟨x, y, z⟩)).toList == s.toList) = false := by rw [txt_same, HL.out, decide_eq_false_iff_not]; exact hc
    clear hc
    go_wp2
    refine bodyPost_ret (v := .tuple #[.agg #[.int .i64 0, .int .i64 0, .int .i64 0], .bool false]) (by simp [results, Tryz.results47, go_sem, c0]) rfl ⟨by rw [H.out], ?_⟩
    exact ((hx.setCell (by first | omega | (simp <;> omega)) _).setCell (by first | omega | (simp <;> omega)) _).setCell (by first | omega | (simp <;> omega)) _
end Go.Proofs.YtlgkfjhbimffiaaGreatDoor
