/- Contracts of BreachLine of the program and of the reference. -/
import Derived.Test.YtbbkahnfnjlajaaDoorFm
import Derived.Test.YtbbkahnfnjlajaaDoorB
namespace Go.Proofs.YtbbkahnfnjlajaaDoor
open Go.ChangeShapes Go.WideShapes Go.ChangeAt Go.RowKit
set_option linter.unusedVariables false

def breachB (u : Rule) (xs : List Int) : ByteArray :=
  if ruleOk u = true ∧ seriesOk xs = true then
    (if (firstBreach u xs).1 < 0 then breachName (firstBreach u xs).2 else breachName (firstBreach u xs).2 ++ txt [32] ++ txt (numT (firstBreach u xs).1))
  else ⟨#[]⟩
theorem breachB_bad {u : Rule} {xs : List Int} (h : ¬ (ruleOk u = true ∧ seriesOk xs = true)) : breachB u xs = ⟨#[]⟩ := if_neg h
theorem breachB_neg {u : Rule} {xs : List Int} (h1 : ruleOk u = true) (h2 : seriesOk xs = true) (h : (firstBreach u xs).1 < 0) : breachB u xs = breachName (firstBreach u xs).2 := by
  unfold breachB; rw [if_pos ⟨h1, h2⟩, if_pos h]
theorem breachB_pos {u : Rule} {xs : List Int} (h1 : ruleOk u = true) (h2 : seriesOk xs = true) (h : ¬ (firstBreach u xs).1 < 0) : breachB u xs = breachName (firstBreach u xs).2 ++ txt [32] ++ txt (numT (firstBreach u xs).1) := by
  unfold breachB; rw [if_pos ⟨h1, h2⟩, if_neg h]
theorem breachName_size (n : Int) : (breachName n).size ≤ 5 := by
  unfold breachName
  split
  · decide
  split
  · decide
  split
  · decide
  split
  · decide
  · decide

set_option maxHeartbeats 1000000 in
theorem implBreachLine_any (a b c d f : Int) (A : Option Addr) (n cc : Nat) (xs : List Int) (w : World) (hn : xs.length = n) (hr : Row w A (ints xs)) (hnc : n ≤ cc) (hcc : cc ≤ maxLen) (ht : Tab w) :
    Calls Tryd.prog 17 #[.agg #[.int .i64 a, .int .i64 b, .int .i64 c, .int .i64 d, .int .i64 f], .slice A n cc] w fun e w' => e = .returned (.string (breachB ⟨a, b, c, d, f⟩ xs)) ∧ Ext w w' := by
  have hx : Ext w (w.alloc (.cells #[.int .i64 a, .int .i64 b, .int .i64 c, .int .i64 d, .int .i64 f] 24)) := (Ext.refl w).alloc _
  have bR := Blk.new w 24 #[.int .i64 a, .int .i64 b, .int .i64 c, .int .i64 d, .int .i64 f]
  have Hcc := Lib.hid hcc
  have HT := Lib.hid ht
  clear ht
  go_enter Tryd.func17, Tryd.ntmps17
  go_wp2_with fail
  refine (implRuleOk_any _ _ _ _ _ _).mono ?_
  rintro e w1 ⟨rfl, hx1⟩
  replace hx := hx.trans hx1
  replace bR := bR.ext hx1
  have cbR_1 := fun o => bR.cell o
  by_cases h1 : ruleOk ⟨a, b, c, d, f⟩ = true
  · rw [h1]
    have H1 := Lib.hid h1
    clear h1
    have hr1 := hr.ext hx
    go_wp2_with fail
    refine (implSeriesOk_any _ _ _ xs _ hn hr1 (Nat.le_trans hnc Hcc.out)).mono ?_
    rintro e w' ⟨rfl, rfl⟩
    by_cases h2 : seriesOk xs = true
    · rw [h2]
      have H2 := Lib.hid h2
      clear h2
      go_wp2_with fail
      refine (implFirstBreach_any _ _ _ _ _ _ _ _ xs _ hn hr1 hnc Hcc.out).mono ?_
      rintro e w2 ⟨rfl, hx2⟩
      replace hx := hx.trans hx2
      replace bR := bR.ext hx2
      have cbR_2 := fun o => bR.cell o
      have hl := seriesOk_len H2.out
      have hbd := firstBreach_bd ⟨a, b, c, d, f⟩ xs (by omega)
      have HN := Lib.hid (breachB_neg H1.out H2.out)
      have HP := Lib.hid (breachB_pos H1.out H2.out)
      obtain ⟨i, hi⟩ : ∃ i, (firstBreach ⟨a, b, c, d, f⟩ xs).1 = i := ⟨_, rfl⟩
      obtain ⟨k, hk⟩ : ∃ k, (firstBreach ⟨a, b, c, d, f⟩ xs).2 = k := ⟨_, rfl⟩
      rw [hi] at hbd HN HP ⊢
      rw [hk] at HN HP ⊢
      clear hi hk
      obtain ⟨hb1, hb2⟩ := hbd
      by_cases h0 : i < 0
      · have H := Lib.hid (HN.out h0)
        clear HN HP
        go_wp2_with fail
        refine (implBreachName_any _ _).mono ?_
        rintro e w' ⟨rfl, rfl⟩
        go_wp2
        go_ret
        exact ⟨ret_txt H.out.symm, hx⟩
      · have H := Lib.hid (HP.out h0)
        clear HN HP
        go_wp2_with fail
        refine (implBreachName_any _ _).mono ?_
        rintro e w' ⟨rfl, rfl⟩
        have s1 := breachName_size k
        generalize breachName k = s at s1 H ⊢
        have hI : I64 i := by unfold I64; omega
        have s2 := sz1 hI
        have hT2 := HT.out.ext hx
        have sp : (⟨#[32]⟩ : ByteArray).size = 1 := rfl
        go_wp2_with fail
        refine (implFormatInt_any _ _ hI hT2).mono ?_
        rintro e w3 ⟨rfl, hx3⟩
        replace hx := hx.trans hx3
        replace bR := bR.ext hx3
        have cbR_3 := fun o => bR.cell o
        generalize txt (numT i) = t at s2 H ⊢
        go_wp2
        go_ret
        exact ⟨ret_txt H.out.symm, hx⟩
    · have H := Lib.hid (breachB_bad (u := ⟨a, b, c, d, f⟩) (xs := xs) (fun h => h2 h.2))
      rw [show seriesOk xs = false from by simpa using h2]
      clear h2
      go_wp2
      go_ret
      exact ⟨ret_txt H.out.symm, hx⟩
  · have H := Lib.hid (breachB_bad (u := ⟨a, b, c, d, f⟩) (xs := xs) (fun h => h1 h.1))
    rw [show ruleOk ⟨a, b, c, d, f⟩ = false from by simpa using h1]
    clear h1
    go_wp2
    go_ret
    exact ⟨ret_txt H.out.symm, hx⟩

set_option maxHeartbeats 1000000 in
theorem specBreachLine_any (a b c d f : Int) (A : Option Addr) (n cc : Nat) (xs : List Int) (w : World) (hn : xs.length = n) (hr : Row w A (ints xs)) (hnc : n ≤ cc) (hcc : cc ≤ maxLen) :
    Calls Tryd.prog 34 #[.agg #[.int .i64 a, .int .i64 b, .int .i64 c, .int .i64 d, .int .i64 f], .slice A n cc] w fun e w' => e = .returned (.string (breachB ⟨a, b, c, d, f⟩ xs)) ∧ Ext w w' := by
  have hx : Ext w (w.alloc (.cells #[.int .i64 a, .int .i64 b, .int .i64 c, .int .i64 d, .int .i64 f] 24)) := (Ext.refl w).alloc _
  have bR := Blk.new w 24 #[.int .i64 a, .int .i64 b, .int .i64 c, .int .i64 d, .int .i64 f]
  have Hcc := Lib.hid hcc
  go_enter Tryd.func34, Tryd.ntmps34
  go_wp2_with fail
  refine (specRuleOk_any _ _ _ _ _ _).mono ?_
  rintro e w1 ⟨rfl, hx1⟩
  replace hx := hx.trans hx1
  replace bR := bR.ext hx1
  have cbR_4 := fun o => bR.cell o
  by_cases h1 : ruleOk ⟨a, b, c, d, f⟩ = true
  · rw [h1]
    have H1 := Lib.hid h1
    clear h1
    have hr1 := hr.ext hx
    go_wp2_with fail
    refine (specSeriesOk_any _ _ _ xs _ hn hr1 (Nat.le_trans hnc Hcc.out)).mono ?_
    rintro e w' ⟨rfl, rfl⟩
    by_cases h2 : seriesOk xs = true
    · rw [h2]
      have H2 := Lib.hid h2
      clear h2
      go_wp2_with fail
      refine (specFirstBreach_any _ _ _ _ _ _ _ _ xs _ hn hr1 hnc Hcc.out).mono ?_
      rintro e w2 ⟨rfl, hx2⟩
      replace hx := hx.trans hx2
      replace bR := bR.ext hx2
      have cbR_5 := fun o => bR.cell o
      have hl := seriesOk_len H2.out
      have hbd := firstBreach_bd ⟨a, b, c, d, f⟩ xs (by omega)
      have HN := Lib.hid (breachB_neg H1.out H2.out)
      have HP := Lib.hid (breachB_pos H1.out H2.out)
      obtain ⟨i, hi⟩ : ∃ i, (firstBreach ⟨a, b, c, d, f⟩ xs).1 = i := ⟨_, rfl⟩
      obtain ⟨k, hk⟩ : ∃ k, (firstBreach ⟨a, b, c, d, f⟩ xs).2 = k := ⟨_, rfl⟩
      rw [hi] at hbd HN HP ⊢
      rw [hk] at HN HP ⊢
      clear hi hk
      obtain ⟨hb1, hb2⟩ := hbd
      by_cases h0 : i < 0
      · have H := Lib.hid (HN.out h0)
        clear HN HP
        go_wp2_with fail
        refine (specBreachName_any _ _).mono ?_
        rintro e w3 ⟨rfl, hx3⟩
        replace hx := hx.trans hx3
        replace bR := bR.ext hx3
        have cbR_6 := fun o => bR.cell o
        go_wp2
        go_ret
        exact ⟨ret_txt H.out.symm, hx⟩
      · have H := Lib.hid (HP.out h0)
        clear HN HP
        go_wp2_with fail
        refine (specBreachName_any _ _).mono ?_
        rintro e w3 ⟨rfl, hx3⟩
        replace hx := hx.trans hx3
        replace bR := bR.ext hx3
        have cbR_7 := fun o => bR.cell o
        have s1 := breachName_size k
        generalize breachName k = s at s1 H ⊢
        have hI : I64 i := by unfold I64; omega
        have s2 := sz1 hI
        have sp : (⟨#[32]⟩ : ByteArray).size = 1 := rfl
        go_wp2_with fail
        refine (specFormatInt_any _ _ hI).mono ?_
        rintro e w4 ⟨rfl, hx4⟩
        replace hx := hx.trans hx4
        replace bR := bR.ext hx4
        have cbR_8 := fun o => bR.cell o
        generalize txt (numT i) = t at s2 H ⊢
        go_wp2
        go_ret
        exact ⟨ret_txt H.out.symm, hx⟩
    · have H := Lib.hid (breachB_bad (u := ⟨a, b, c, d, f⟩) (xs := xs) (fun h => h2 h.2))
      rw [show seriesOk xs = false from by simpa using h2]
      clear h2
      go_wp2
      go_ret
      exact ⟨ret_txt H.out.symm, hx⟩
  · have H := Lib.hid (breachB_bad (u := ⟨a, b, c, d, f⟩) (xs := xs) (fun h => h1 h.1))
    rw [show ruleOk ⟨a, b, c, d, f⟩ = false from by simpa using h1]
    clear h1
    go_wp2
    go_ret
    exact ⟨ret_txt H.out.symm, hx⟩
end Go.Proofs.YtbbkahnfnjlajaaDoor
