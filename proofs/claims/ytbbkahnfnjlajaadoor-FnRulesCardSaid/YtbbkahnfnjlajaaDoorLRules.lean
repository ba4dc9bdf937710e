/- The law FnRules returns true for every code: a rule that is kept by a series is kept by its prefixes, and by stricter rules in the other direction. No condition beyond the row's own: the library's tables lie as the program's text lays them (the card ties that). -/
import Derived.Test.YtbbkahnfnjlajaaDoorHz
import Derived.Test.YtbbkahnfnjlajaaDoorOps
import Derived.Test.YtbbkahnfnjlajaaDoorRd
import Derived.Test.YtbbkahnfnjlajaaDoorBl
import Derived.Test.YtbbkahnfnjlajaaDoorG
import Derived.Test.YtbbkahnfnjlajaaDoorR
import Derived.Test.YtbbkahnfnjlajaaDoorW
import Derived.Test.YtbbkahnfnjlajaaDoorPlU
import Derived.Test.YtbbkahnfnjlajaaDoorCards
import Derived.Test.YtbbkahnfnjlajaaDoorTie
import Derived.Deep.DeepHandedRow
import Derived.Lib.LaidTab
import Derived.LaidMore
import Derived.SevenTiedAt
import Derived.Deep.RegionHeld3
namespace Go.Proofs.YtbbkahnfnjlajaaDoor
open Go.ChangeShapes Go.WideShapes Go.ChangeAt Go.RowKit
set_option linter.unusedVariables false
set_option maxRecDepth 100000

theorem name_ne (n : Int) (h0 : 0 ≤ n) (h3 : n ≤ 3) : (breachName n).toList.isEmpty = false := by
  have : n = 0 ∨ n = 1 ∨ n = 2 ∨ n = 3 := by omega
  rcases this with rfl | rfl | rfl | rfl <;> (rw [ByteArray.toList_eq]; decide)
theorem txt_ne {s t : ByteArray} (h : s.toList.isEmpty = false) : (s ++ t).toList.isEmpty = false := by
  rw [ByteArray.toList_eq] at h ⊢
  rw [ByteArray.toList_data_append]
  cases hs : s.data.toList with
  | nil => rw [hs] at h; cases h
  | cons x r => rfl
theorem line_ne {u : Rule} {xs : List Int} (h1 : ruleOk u = true) (h2 : seriesOk xs = true) (h : (breachName (firstBreach u xs).2).toList.isEmpty = false) : (breachB u xs).toList.isEmpty = false := by
  unfold breachB
  rw [if_pos ⟨h1, h2⟩]
  split
  · exact h
  · rw [ByteArray.append_assoc]; exact txt_ne h
/-- the two ways of a rule and a series, in numbers -/
structure Way (u : Rule) (xs : List Int) (i rs ng : Int) (q : Bool) : Prop where
  fb : firstBreach u xs = (i, rs)
  lg : longest u xs = ng
  cs : isCons u xs = q
  n0 : 0 ≤ ng
  n1 : ng ≤ (xs.length : Int)
  r0 : 0 ≤ rs
  r3 : rs ≤ 3
  yes : q = true → i = -1 ∧ rs = 0
  no : q = false → i = ng ∧ rs ≠ 0
theorem way_of {u : Rule} {xs : List Int} (h1 : ruleOk u = true) (h2 : seriesOk xs = true) : ∃ i rs ng q, Way u xs i rs ng q := by
  rcases breach_ways h1 h2 with ⟨_, a, b, c⟩ | ⟨k, hk, _, _, a, hc, b, c⟩
  · exact ⟨-1, 0, xs.length, true, a, b, c, by omega, by omega, by omega, by omega, fun _ => ⟨rfl, rfl⟩, fun e => by cases e⟩
  · have := code_bd u xs k
    exact ⟨k, codeAt u xs k, k, false, a, b, c, by omega, by omega, this.1, this.2, (fun e => by cases e), fun _ => ⟨rfl, hc⟩⟩

set_option maxHeartbeats 8000000 in
theorem lawRules (A : Option Addr) (n c : Nat) (bs : List Int) (w : World) (hn : bs.length = n) (hr : Row w A (u8s bs)) (hm : n ≤ maxLen) (ht : Tab w) :
    Calls Tryd.prog 3 #[.slice A n c] w fun e w' => e = .returned (.bool true) ∧ Ext w w' := by
  unfold maxLen at hm
  by_cases hbig : (1048576 : Int) < (n : Int)
  · go_enter Tryd.func3, Tryd.ntmps3
    go_wp2
    go_ret
    exact ⟨rfl, Ext.refl _⟩
  have hle : n ≤ 1048576 := by omega
  have HT0 := Lib.hid ht
  have HRc := Lib.hid hr
  have HNb := Lib.hid hn
  clear ht hr hn
  go_enter Tryd.func3, Tryd.ntmps3
  go_wp2_with fail
  refine (makeRule_any _ _ _ bs _ _ HNb.out HRc.out hle (by simp [I64])).mono ?_
  rintro e w1 ⟨u, rfl, hu, hy⟩
  have bU := Blk.new w1 24 #[.int .i64 u.Low, .int .i64 u.High, .int .i64 u.Step, .int .i64 u.Window, .int .i64 u.Drift]
  replace hy := hy.alloc (.cells #[.int .i64 u.Low, .int .i64 u.High, .int .i64 u.Step, .int .i64 u.Window, .int .i64 u.Drift] 24)
  go_wp2_with fail
  refine (makeRule_any _ _ _ bs _ _ HNb.out (HRc.out.ext hy) hle (by simp [I64])).mono ?_
  rintro e w2 ⟨v, rfl, hv, hx2⟩
  replace hy := hy.trans hx2
  replace bU := bU.ext hx2
  have cbU_1 := fun o => bU.cell o
  have bV := Blk.new w2 24 #[.int .i64 v.Low, .int .i64 v.High, .int .i64 v.Step, .int .i64 v.Window, .int .i64 v.Drift]
  have ha2 := (Ext.refl w2).alloc (.cells #[.int .i64 v.Low, .int .i64 v.High, .int .i64 v.Step, .int .i64 v.Window, .int .i64 v.Drift] 24)
  replace hy := hy.trans ha2
  replace bU := bU.ext ha2
  have cbU_2 := fun o => bU.cell o
  go_wp2_with fail
  refine (makeSeries_any _ _ _ bs _ _ HNb.out (HRc.out.ext hy) hle (by simp [I64])).mono ?_
  rintro e w3 ⟨bl, d, xs, rfl, hs, hM, hx3⟩
  obtain ⟨B, hB⟩ : ∃ B, some (⟨bl, 0, none⟩ : Addr) = B := ⟨_, rfl⟩
  have HB := Lib.hid hB
  rw [hB] at hM ⊢
  clear hB
  replace hy := hy.trans hx3
  replace bU := bU.ext hx3
  replace bV := bV.ext hx3
  have cbU_3 := fun o => bU.cell o
  have cbV_4 := fun o => bV.cell o
  have hml := hM.cap
  have hmc := hM.capm
  have hrow := Lib.hid hM.row
  have hlen : xs.length ≤ 60 := by unfold seriesOk at hs; simp at hs; exact hs.2
  obtain ⟨i, rs, ng, q, hW⟩ := way_of hu hs
  have HW := Lib.hid hW
  have n0 := hW.n0
  have n1 := hW.n1
  have hnm := Lib.hid (name_ne rs hW.r0 hW.r3)
  have hln : Hid ((breachB u xs).toList.isEmpty = false) := line_ne hu hs (by rw [hW.fb]; exact hnm.out)
  have HJ := Lib.hid (join_ways hu hv)
  have Hpre := Lib.hid (fun (k : Nat) (hk : k ≤ xs.length) => cons_take hu hs hk)
  have Hu := Lib.hid hu
  have Hv := Lib.hid hv
  have Hs := Lib.hid hs
  obtain ⟨m, hm⟩ : ∃ m, xs.length = m := ⟨_, rfl⟩
  have HM := Lib.hid hm
  rw [hm] at n1 hml hlen
  rw [hm]
  have HCb := Lib.hid (fun w h => implFirstBreach_any u.Low u.High u.Step u.Window u.Drift B m d xs w hm h hml hmc)
  have HCl := Lib.hid (fun w h => implLongest_any u.Low u.High u.Step u.Window u.Drift B m d xs w hm h hml hmc)
  have HCc := Lib.hid (fun w h => implIsCons_any u.Low u.High u.Step u.Window u.Drift B m d xs w hm h hml hmc)
  have HCL := Lib.hid (fun w h ht => implBreachLine_any u.Low u.High u.Step u.Window u.Drift B m d xs w hm h hml hmc ht)
  have HCs := Lib.hid (fun w h => implSeriesOk_any B m d xs w hm h (by unfold maxLen; omega))
  have HCr := Lib.hid (fun w => implRuleOk_any u.Low u.High u.Step u.Window u.Drift w)
  change Hid (∀ w h, Calls Tryd.prog _ _ w fun e w' => e = .returned (.tuple #[.int .i64 (firstBreach u xs).1, .int .i64 (firstBreach u xs).2]) ∧ Ext w w') at HCb
  change Hid (∀ w h, Calls Tryd.prog _ _ w fun e w' => e = .returned (.int .i64 (longest u xs)) ∧ Ext w w') at HCl
  change Hid (∀ w h, Calls Tryd.prog _ _ w fun e w' => e = .returned (.bool (isCons u xs)) ∧ Ext w w') at HCc
  change Hid (∀ w h ht, Calls Tryd.prog _ _ w fun e w' => e = .returned (.string (breachB u xs)) ∧ Ext w w') at HCL
  change Hid (∀ w, Calls Tryd.prog _ _ w fun e w' => e = .returned (.bool (ruleOk u)) ∧ Ext w w') at HCr
  rw [hW.fb] at HCb
  rw [hW.lg] at HCl
  rw [hW.cs] at HCc
  rw [hu] at HCr
  rw [hs] at HCs
  have hyes := Lib.hid hW.yes
  have hno := Lib.hid hW.no
  clear hW hm hu hv hs hM
  have cU := fun o => bU.cell o
  have h3 := Ext.refl w3
  cases q
  · obtain ⟨e1, hrs⟩ := hno.out rfl
    have e2 := e1.symm
    subst e2
    have hr1 : (rs == 0) = false := by rw [beq_eq_false_iff_ne]; exact hrs
    have hi1 : decide (ng < 0) = false := by simp; omega
    have hi2 : (ng != ng) = false := by simp
    clear hrs
    go_wp2_with fail
    refine (HCb.out _ (hrow.out.ext h3)).mono ?_
    rintro e w4 ⟨rfl, hx4⟩
    replace hy := hy.trans hx4
    replace bU := bU.ext hx4
    replace bV := bV.ext hx4
    replace h3 := h3.trans hx4
    have cbU_5 := fun o => bU.cell o
    have cbV_6 := fun o => bV.cell o
    go_wp2_with fail
    refine (HCl.out _ (hrow.out.ext h3)).mono ?_
    rintro e w5 ⟨rfl, hx5⟩
    replace hy := hy.trans hx5
    replace bU := bU.ext hx5
    replace bV := bV.ext hx5
    replace h3 := h3.trans hx5
    have cbU_7 := fun o => bU.cell o
    have cbV_8 := fun o => bV.cell o
    go_wp2_with fail
    refine (HCr.out _).mono ?_
    rintro e w6 ⟨rfl, hx6⟩
    replace hy := hy.trans hx6
    replace bU := bU.ext hx6
    replace bV := bV.ext hx6
    replace h3 := h3.trans hx6
    have cbU_9 := fun o => bU.cell o
    have cbV_10 := fun o => bV.cell o
    go_wp2_with fail
    refine (HCs.out _ (hrow.out.ext h3)).mono ?_
    rintro e w' ⟨rfl, rfl⟩
    go_wp2_with fail
    refine (HCc.out _ (hrow.out.ext h3)).mono ?_
    rintro e w8 ⟨rfl, hx8⟩
    replace hy := hy.trans hx8
    replace bU := bU.ext hx8
    replace bV := bV.ext hx8
    replace h3 := h3.trans hx8
    have cbU_11 := fun o => bU.cell o
    have cbV_12 := fun o => bV.cell o
    have t1 := hnm.out
    have t2 := hln.out
    go_wp2_with fail
    refine (implBreachName_any _ _).mono ?_
    rintro e w' ⟨rfl, rfl⟩
    go_wp2_with fail
    refine (HCL.out _ (hrow.out.ext h3) (HT0.out.ext hy)).mono ?_
    rintro e w9 ⟨rfl, hx9⟩
    replace hy := hy.trans hx9
    replace bU := bU.ext hx9
    replace bV := bV.ext hx9
    replace h3 := h3.trans hx9
    have cbU_13 := fun o => bU.cell o
    have cbV_14 := fun o => bV.cell o
    go_wp2_with fail
    have hl1 := Ext.refl w9
    go_loopw [9] (fun i wr => ∃ (k : Nat), k ≤ m + 1 ∧ i = .int .i64 k ∧ Ext w9 wr) (fun i _ => m + 1 - (intOf i).toNat)
    case atStart => exact ⟨0, by omega, rfl, hl1⟩
    case round =>
    obtain ⟨k, hk, rfl, hxk⟩ := hrel
    clear hl1
    replace hy := hy.trans hxk
    replace bU := bU.ext hxk
    replace bV := bV.ext hxk
    replace h3 := h3.trans hxk
    have cbU_15 := fun o => bU.cell o
    have cbV_16 := fun o => bV.cell o
    by_cases hlt : k ≤ m
    · have hlk : (xs.take k).length = k := by rw [List.length_take, HM.out]; omega
      have hrk : Row wr B (ints (xs.take k)) := by
        rcases hrow.out.ext h3 with h | ⟨b5, o5, h5, hc5⟩
        · left
          have : xs = [] := by cases xs with | nil => rfl | cons x r => simp [ints] at h
          rw [this]; simp [ints]
        · right
          refine ⟨b5, o5, h5, fun j x hj => hc5 j x ?_⟩
          have e : ints (xs.take k) = (ints xs).take k := by unfold ints; rw [List.map_take]
          rw [e, List.getElem?_take] at hj
          split at hj
          · exact hj
          · cases hj
      have hBe := HB.out
      have HP := Lib.hid (implIsCons_any u.Low u.High u.Step u.Window u.Drift B k d (xs.take k))
      have HPk := Lib.hid (Hpre.out k (by rw [HM.out]; exact hlt))
      have HLk := Lib.hid hlk
      have HRk := Lib.hid hrk
      have Hlg := Lib.hid HW.out.lg
      clear hlk hrk
      subst hBe
      have i1 : (k : Int) ≤ (d : Int) := by omega
      have i2 : (0 : Int) ≤ (k : Int) := by omega
      have i3 : k ≤ d := by omega
      have i4 : (k : Int) ≤ (m : Int) := by omega
      have cU9 := fun o => bU.cell o
      have hUl := bU.lt
      have hcur := Ext.refl wr
      go_wp2_with fail
      go_region_held3 (fun w' => w'.cell? ⟨w1.heap.size, 0, none⟩ = some (.int .i64 u.Low) ∧ w'.cell? ⟨w1.heap.size, 1, none⟩ = some (.int .i64 u.High) ∧ w'.cell? ⟨w1.heap.size, 2, none⟩ = some (.int .i64 u.Step) ∧ w'.cell? ⟨w1.heap.size, 3, none⟩ = some (.int .i64 u.Window) ∧ w'.cell? ⟨w1.heap.size, 4, none⟩ = some (.int .i64 u.Drift))
        (go_keep)
        ((go_at_call 15; (with_reducible refine (HP.out _ HLk.out (by first | exact HRk.out | exact HRk.out.ext hcur.drew) i3 hmc).mono ?_); rintro e w8q ⟨rfl, hx8q⟩; change Ext _ _ at hx8q; rw [show isCons ⟨u.Low, u.High, u.Step, u.Window, u.Drift⟩ (xs.take k) = decide ((k : Int) ≤ ng) from by rw [← Hlg.out]; exact HPk.out]; replace hcur := Ext.trans (by first | exact hcur | exact hcur.drew) hx8q; have c9 := fun o => (bU.ext hcur).cell o))
      have hyq := hy
      replace hy := hy.trans hcur
      replace bU := bU.ext hcur
      replace bV := bV.ext hcur
      replace h3 := h3.trans hcur
      have cbU_17 := fun o => bU.cell o
      have cbV_18 := fun o => bV.cell o
      go_wp2
      go_roundw
      case rel => exact ⟨k + 1, by omega, by go_num, hxk.trans hcur⟩
      case measure => simp [intOf]; omega
    · obtain rfl : k = m + 1 := by omega
      have i1 : ¬ ((m + 1 : Nat) : Int) ≤ (m : Int) := by omega
      have cU9 := fun o => bU.cell o
      have cV9 := fun o => bV.cell o
      go_wp2_with fail
      refine (implJoin_any _ 2 2 [u, v] _ rfl (.inr ⟨_, 0, rfl, fun j x hj => by rw [(Blk.new _ _ _).cell, Nat.zero_add]; simpa [ints, flat, Rule.ints] using hj⟩) (by unfold maxLen; omega)).mono ?_
      rintro e w12 ⟨rfl, hx12⟩
      have hz12 := ((Ext.refl wr).alloc _).trans hx12
      replace hy := hy.trans hz12
      replace bU := bU.ext hz12
      replace bV := bV.ext hz12
      replace h3 := h3.trans hz12
      have cbU_19 := fun o => bU.cell o
      have cbV_20 := fun o => bV.cell o
      rcases HJ.out with ⟨hj, hlt2⟩ | ⟨j, hj, hst, hjo, hjc⟩
      · rw [hj]
        clear hj
        have hmm : decide (min u.High v.High < max u.Low v.Low) = true := by
          have h := hlt2
          unfold minG maxG at h
          rw [decide_eq_true_eq]
          split at h <;> split at h <;> omega
        have Hmm := Lib.hid hmm
        clear hmm
        obtain ⟨X, hX⟩ : ∃ X, maxG u.Low v.Low = X := ⟨_, rfl⟩
        obtain ⟨Y, hY⟩ : ∃ Y, minG u.High v.High = Y := ⟨_, rfl⟩
        rw [hX, hY] at hlt2
        unfold maxG at hX
        unfold minG at hY
        have hd : decide (Y < X) = true := by simpa using hlt2
        have ha12 := (Ext.refl w12).alloc (.cells #[.int .i64 0, .int .i64 0, .int .i64 0, .int .i64 0, .int .i64 0] 24)
        replace hy := hy.trans ha12
        replace bU := bU.ext ha12
        replace bV := bV.ext ha12
        replace h3 := h3.trans ha12
        have cbU_21 := fun o => bU.cell o
        have cbV_22 := fun o => bV.cell o
        have hUl := bU.lt
        have hVl := bV.lt
        go_wp2
        go_ret
        exact ⟨by first | exact ret_bool Hmm.out | exact ret_bool hd | rfl, hy⟩
      · rw [hj]
        have hKA : keepsAll [u] xs = false := by
          have h1 := HW.out.cs
          have h2 := Hs.out
          unfold keepsAll
          simp [h1, h2]
        have HKA := Lib.hid hKA
        have HCj := Lib.hid (fun w h => implIsCons_any j.Low j.High j.Step j.Window j.Drift B m d xs w HM.out h hml hmc)
        change Hid (∀ w h, Calls Tryd.prog _ _ w fun e w' => e = .returned (.bool (isCons j xs)) ∧ Ext w w') at HCj
        have Hjc := Lib.hid (hjc xs)
        have Hst := Lib.hid hst
        have Hcu := Lib.hid HW.out.cs
        clear hj hKA hjc hst
        obtain ⟨qj, hqj⟩ : ∃ x, isCons j xs = x := ⟨_, rfl⟩
        rw [hqj] at HCj Hjc
        clear hqj
        have bJ := Blk.new w12 24 #[.int .i64 j.Low, .int .i64 j.High, .int .i64 j.Step, .int .i64 j.Window, .int .i64 j.Drift]
        have ha12 := (Ext.refl w12).alloc (.cells #[.int .i64 j.Low, .int .i64 j.High, .int .i64 j.Step, .int .i64 j.Window, .int .i64 j.Drift] 24)
        replace hy := hy.trans ha12
        replace bU := bU.ext ha12
        replace bV := bV.ext ha12
        replace h3 := h3.trans ha12
        have cbU_23 := fun o => bU.cell o
        have cbV_24 := fun o => bV.cell o
        have cJ7 := fun o => bJ.cell o
        have hJl := bJ.lt
        go_wp2_with fail
        refine (implStricter_any j.Low j.High j.Step j.Window j.Drift u.Low u.High u.Step u.Window u.Drift _).mono ?_
        rintro e w13 ⟨rfl, hx13⟩
        rw [show stricter ⟨j.Low, j.High, j.Step, j.Window, j.Drift⟩ ⟨u.Low, u.High, u.Step, u.Window, u.Drift⟩ = true from Hst.out]
        replace hy := hy.trans hx13
        replace bU := bU.ext hx13
        replace bV := bV.ext hx13
        replace h3 := h3.trans hx13
        replace bJ := bJ.ext hx13
        have cbU_25 := fun o => bU.cell o
        have cbV_26 := fun o => bV.cell o
        have cbJ_27 := fun o => bJ.cell o
        cases qj
        · go_wp2_with fail
          refine (HCj.out _ (hrow.out.ext h3)).mono ?_
          rintro e w14 ⟨rfl, hx14⟩
          replace hy := hy.trans hx14
          replace bU := bU.ext hx14
          replace bV := bV.ext hx14
          replace h3 := h3.trans hx14
          replace bJ := bJ.ext hx14
          have cbU_28 := fun o => bU.cell o
          have cbV_29 := fun o => bV.cell o
          have cbJ_30 := fun o => bJ.cell o
          go_wp2_with fail
          refine (implKeepsAll_any _ B 1 1 m d [u] xs _ rfl HM.out (.inr ⟨_, 0, rfl, fun j x hj => by rw [(Blk.new _ _ _).cell, Nat.zero_add]; simpa [ints, flat, Rule.ints] using hj⟩) ((hrow.out.ext h3).ext ((Ext.refl _).alloc _)) (by unfold maxLen; omega) hml hmc).mono ?_
          rintro e w15 ⟨rfl, hx15⟩
          have hz15 := ((Ext.refl w14).alloc _).trans hx15
          rw [HKA.out]
          go_wp2
          go_ret
          exact ⟨by first | rfl | (simp; done) | exact ret_bool (by simp; omega), hy.trans hz15⟩
        · have hq := Hjc.out rfl
          rw [Hcu.out] at hq
          cases hq
  · obtain ⟨e1, e2⟩ := hyes.out rfl
    subst e1
    subst e2
    go_wp2_with fail
    refine (HCb.out _ (hrow.out.ext h3)).mono ?_
    rintro e w4 ⟨rfl, hx4⟩
    replace hy := hy.trans hx4
    replace bU := bU.ext hx4
    replace bV := bV.ext hx4
    replace h3 := h3.trans hx4
    have cbU_31 := fun o => bU.cell o
    have cbV_32 := fun o => bV.cell o
    go_wp2_with fail
    refine (HCl.out _ (hrow.out.ext h3)).mono ?_
    rintro e w5 ⟨rfl, hx5⟩
    replace hy := hy.trans hx5
    replace bU := bU.ext hx5
    replace bV := bV.ext hx5
    replace h3 := h3.trans hx5
    have cbU_33 := fun o => bU.cell o
    have cbV_34 := fun o => bV.cell o
    go_wp2_with fail
    refine (HCr.out _).mono ?_
    rintro e w6 ⟨rfl, hx6⟩
    replace hy := hy.trans hx6
    replace bU := bU.ext hx6
    replace bV := bV.ext hx6
    replace h3 := h3.trans hx6
    have cbU_35 := fun o => bU.cell o
    have cbV_36 := fun o => bV.cell o
    go_wp2_with fail
    refine (HCs.out _ (hrow.out.ext h3)).mono ?_
    rintro e w' ⟨rfl, rfl⟩
    go_wp2_with fail
    refine (HCc.out _ (hrow.out.ext h3)).mono ?_
    rintro e w8 ⟨rfl, hx8⟩
    replace hy := hy.trans hx8
    replace bU := bU.ext hx8
    replace bV := bV.ext hx8
    replace h3 := h3.trans hx8
    have cbU_37 := fun o => bU.cell o
    have cbV_38 := fun o => bV.cell o
    have t1 := hnm.out
    have t2 := hln.out
    go_wp2_with fail
    refine (implBreachName_any _ _).mono ?_
    rintro e w' ⟨rfl, rfl⟩
    go_wp2_with fail
    refine (HCL.out _ (hrow.out.ext h3) (HT0.out.ext hy)).mono ?_
    rintro e w9 ⟨rfl, hx9⟩
    replace hy := hy.trans hx9
    replace bU := bU.ext hx9
    replace bV := bV.ext hx9
    replace h3 := h3.trans hx9
    have cbU_39 := fun o => bU.cell o
    have cbV_40 := fun o => bV.cell o
    go_wp2_with fail
    have hl1 := Ext.refl w9
    go_loopw [9] (fun i wr => ∃ (k : Nat), k ≤ m + 1 ∧ i = .int .i64 k ∧ Ext w9 wr) (fun i _ => m + 1 - (intOf i).toNat)
    case atStart => exact ⟨0, by omega, rfl, hl1⟩
    case round =>
    obtain ⟨k, hk, rfl, hxk⟩ := hrel
    clear hl1
    replace hy := hy.trans hxk
    replace bU := bU.ext hxk
    replace bV := bV.ext hxk
    replace h3 := h3.trans hxk
    have cbU_41 := fun o => bU.cell o
    have cbV_42 := fun o => bV.cell o
    by_cases hlt : k ≤ m
    · have hlk : (xs.take k).length = k := by rw [List.length_take, HM.out]; omega
      have hrk : Row wr B (ints (xs.take k)) := by
        rcases hrow.out.ext h3 with h | ⟨b5, o5, h5, hc5⟩
        · left
          have : xs = [] := by cases xs with | nil => rfl | cons x r => simp [ints] at h
          rw [this]; simp [ints]
        · right
          refine ⟨b5, o5, h5, fun j x hj => hc5 j x ?_⟩
          have e : ints (xs.take k) = (ints xs).take k := by unfold ints; rw [List.map_take]
          rw [e, List.getElem?_take] at hj
          split at hj
          · exact hj
          · cases hj
      have hBe := HB.out
      have HP := Lib.hid (implIsCons_any u.Low u.High u.Step u.Window u.Drift B k d (xs.take k))
      have HPk := Lib.hid (Hpre.out k (by rw [HM.out]; exact hlt))
      have HLk := Lib.hid hlk
      have HRk := Lib.hid hrk
      have Hlg := Lib.hid HW.out.lg
      clear hlk hrk
      subst hBe
      have i1 : (k : Int) ≤ (d : Int) := by omega
      have i2 : (0 : Int) ≤ (k : Int) := by omega
      have i3 : k ≤ d := by omega
      have i4 : (k : Int) ≤ (m : Int) := by omega
      have cU9 := fun o => bU.cell o
      have hUl := bU.lt
      have hcur := Ext.refl wr
      go_wp2_with fail
      go_region_held3 (fun w' => w'.cell? ⟨w1.heap.size, 0, none⟩ = some (.int .i64 u.Low) ∧ w'.cell? ⟨w1.heap.size, 1, none⟩ = some (.int .i64 u.High) ∧ w'.cell? ⟨w1.heap.size, 2, none⟩ = some (.int .i64 u.Step) ∧ w'.cell? ⟨w1.heap.size, 3, none⟩ = some (.int .i64 u.Window) ∧ w'.cell? ⟨w1.heap.size, 4, none⟩ = some (.int .i64 u.Drift))
        (go_keep)
        ((go_at_call 15; (with_reducible refine (HP.out _ HLk.out (by first | exact HRk.out | exact HRk.out.ext hcur.drew) i3 hmc).mono ?_); rintro e w8q ⟨rfl, hx8q⟩; change Ext _ _ at hx8q; rw [show isCons ⟨u.Low, u.High, u.Step, u.Window, u.Drift⟩ (xs.take k) = decide ((k : Int) ≤ ng) from by rw [← Hlg.out]; exact HPk.out]; replace hcur := Ext.trans (by first | exact hcur | exact hcur.drew) hx8q; have c9 := fun o => (bU.ext hcur).cell o))
      have hyq := hy
      replace hy := hy.trans hcur
      replace bU := bU.ext hcur
      replace bV := bV.ext hcur
      replace h3 := h3.trans hcur
      have cbU_43 := fun o => bU.cell o
      have cbV_44 := fun o => bV.cell o
      go_wp2
      go_roundw
      case rel => exact ⟨k + 1, by omega, by go_num, hxk.trans hcur⟩
      case measure => simp [intOf]; omega
    · obtain rfl : k = m + 1 := by omega
      have i1 : ¬ ((m + 1 : Nat) : Int) ≤ (m : Int) := by omega
      have cU9 := fun o => bU.cell o
      have cV9 := fun o => bV.cell o
      go_wp2_with fail
      refine (implJoin_any _ 2 2 [u, v] _ rfl (.inr ⟨_, 0, rfl, fun j x hj => by rw [(Blk.new _ _ _).cell, Nat.zero_add]; simpa [ints, flat, Rule.ints] using hj⟩) (by unfold maxLen; omega)).mono ?_
      rintro e w12 ⟨rfl, hx12⟩
      have hz12 := ((Ext.refl wr).alloc _).trans hx12
      replace hy := hy.trans hz12
      replace bU := bU.ext hz12
      replace bV := bV.ext hz12
      replace h3 := h3.trans hz12
      have cbU_45 := fun o => bU.cell o
      have cbV_46 := fun o => bV.cell o
      rcases HJ.out with ⟨hj, hlt2⟩ | ⟨j, hj, hst, hjo, hjc⟩
      · rw [hj]
        clear hj
        have hmm : decide (min u.High v.High < max u.Low v.Low) = true := by
          have h := hlt2
          unfold minG maxG at h
          rw [decide_eq_true_eq]
          split at h <;> split at h <;> omega
        have Hmm := Lib.hid hmm
        clear hmm
        obtain ⟨X, hX⟩ : ∃ X, maxG u.Low v.Low = X := ⟨_, rfl⟩
        obtain ⟨Y, hY⟩ : ∃ Y, minG u.High v.High = Y := ⟨_, rfl⟩
        rw [hX, hY] at hlt2
        unfold maxG at hX
        unfold minG at hY
        have hd : decide (Y < X) = true := by simpa using hlt2
        have ha12 := (Ext.refl w12).alloc (.cells #[.int .i64 0, .int .i64 0, .int .i64 0, .int .i64 0, .int .i64 0] 24)
        replace hy := hy.trans ha12
        replace bU := bU.ext ha12
        replace bV := bV.ext ha12
        replace h3 := h3.trans ha12
        have cbU_47 := fun o => bU.cell o
        have cbV_48 := fun o => bV.cell o
        have hUl := bU.lt
        have hVl := bV.lt
        go_wp2
        go_ret
        exact ⟨by first | exact ret_bool Hmm.out | exact ret_bool hd | rfl, hy⟩
      · rw [hj]
        have hKA : keepsAll [u] xs = true := by
          have h1 := HW.out.cs
          have h2 := Hs.out
          unfold keepsAll
          simp [h1, h2]
        have HKA := Lib.hid hKA
        have HCj := Lib.hid (fun w h => implIsCons_any j.Low j.High j.Step j.Window j.Drift B m d xs w HM.out h hml hmc)
        change Hid (∀ w h, Calls Tryd.prog _ _ w fun e w' => e = .returned (.bool (isCons j xs)) ∧ Ext w w') at HCj
        have Hjc := Lib.hid (hjc xs)
        have Hst := Lib.hid hst
        have Hcu := Lib.hid HW.out.cs
        clear hj hKA hjc hst
        obtain ⟨qj, hqj⟩ : ∃ x, isCons j xs = x := ⟨_, rfl⟩
        rw [hqj] at HCj Hjc
        clear hqj
        have bJ := Blk.new w12 24 #[.int .i64 j.Low, .int .i64 j.High, .int .i64 j.Step, .int .i64 j.Window, .int .i64 j.Drift]
        have ha12 := (Ext.refl w12).alloc (.cells #[.int .i64 j.Low, .int .i64 j.High, .int .i64 j.Step, .int .i64 j.Window, .int .i64 j.Drift] 24)
        replace hy := hy.trans ha12
        replace bU := bU.ext ha12
        replace bV := bV.ext ha12
        replace h3 := h3.trans ha12
        have cbU_49 := fun o => bU.cell o
        have cbV_50 := fun o => bV.cell o
        have cJ7 := fun o => bJ.cell o
        have hJl := bJ.lt
        go_wp2_with fail
        refine (implStricter_any j.Low j.High j.Step j.Window j.Drift u.Low u.High u.Step u.Window u.Drift _).mono ?_
        rintro e w13 ⟨rfl, hx13⟩
        rw [show stricter ⟨j.Low, j.High, j.Step, j.Window, j.Drift⟩ ⟨u.Low, u.High, u.Step, u.Window, u.Drift⟩ = true from Hst.out]
        replace hy := hy.trans hx13
        replace bU := bU.ext hx13
        replace bV := bV.ext hx13
        replace h3 := h3.trans hx13
        replace bJ := bJ.ext hx13
        have cbU_51 := fun o => bU.cell o
        have cbV_52 := fun o => bV.cell o
        have cbJ_53 := fun o => bJ.cell o
        cases qj
        · go_wp2_with fail
          refine (HCj.out _ (hrow.out.ext h3)).mono ?_
          rintro e w14 ⟨rfl, hx14⟩
          replace hy := hy.trans hx14
          replace bU := bU.ext hx14
          replace bV := bV.ext hx14
          replace h3 := h3.trans hx14
          replace bJ := bJ.ext hx14
          have cbU_54 := fun o => bU.cell o
          have cbV_55 := fun o => bV.cell o
          have cbJ_56 := fun o => bJ.cell o
          go_wp2_with fail
          refine (implKeepsAll_any _ B 1 1 m d [u] xs _ rfl HM.out (.inr ⟨_, 0, rfl, fun j x hj => by rw [(Blk.new _ _ _).cell, Nat.zero_add]; simpa [ints, flat, Rule.ints] using hj⟩) ((hrow.out.ext h3).ext ((Ext.refl _).alloc _)) (by unfold maxLen; omega) hml hmc).mono ?_
          rintro e w15 ⟨rfl, hx15⟩
          have hz15 := ((Ext.refl w14).alloc _).trans hx15
          rw [HKA.out]
          go_wp2
          go_ret
          exact ⟨by first | rfl | (simp; done) | exact ret_bool (by simp; omega), hy.trans hz15⟩
        · have hq := Hjc.out rfl
          rw [Hcu.out] at hq
          go_wp2_with fail
          refine (HCj.out _ (hrow.out.ext h3)).mono ?_
          rintro e w14 ⟨rfl, hx14⟩
          replace hy := hy.trans hx14
          replace bU := bU.ext hx14
          replace bV := bV.ext hx14
          replace h3 := h3.trans hx14
          replace bJ := bJ.ext hx14
          have cbU_57 := fun o => bU.cell o
          have cbV_58 := fun o => bV.cell o
          have cbJ_59 := fun o => bJ.cell o
          go_wp2_with fail
          refine (HCc.out _ (hrow.out.ext h3)).mono ?_
          rintro e w16 ⟨rfl, hx16⟩
          replace hy := hy.trans hx16
          replace bU := bU.ext hx16
          replace bV := bV.ext hx16
          replace h3 := h3.trans hx16
          replace bJ := bJ.ext hx16
          have cbU_60 := fun o => bU.cell o
          have cbV_61 := fun o => bV.cell o
          have cbJ_62 := fun o => bJ.cell o
          go_wp2_with fail
          refine (implKeepsAll_any _ B 1 1 m d [u] xs _ rfl HM.out (.inr ⟨_, 0, rfl, fun j x hj => by rw [(Blk.new _ _ _).cell, Nat.zero_add]; simpa [ints, flat, Rule.ints] using hj⟩) ((hrow.out.ext h3).ext ((Ext.refl _).alloc _)) (by unfold maxLen; omega) hml hmc).mono ?_
          rintro e w15 ⟨rfl, hx15⟩
          have hz15 := ((Ext.refl w16).alloc _).trans hx15
          rw [HKA.out]
          go_wp2
          go_ret
          exact ⟨by first | rfl | (simp; done) | exact ret_bool (by simp; omega), hy.trans hz15⟩

namespace lFnRules
set_option maxRecDepth 100000
theorem own : ownKnob Tryd.prog.godebug = none := by kernel_rfl
theorem pTab : (Tryd.prog.globals[0]?).map (·.type) = some 164 := by kernel_rfl
theorem table {W : World} (h : laidMetH Tryd.prog Rows.fnRulesRow.laid W) : Tab W := by
  change laidMet Tryd.prog _ W at h
  obtain ⟨ps, ⟨g0, t0, cs0, f0, p0, q0, hg0, ht0, hv0, hd0, ⟨g1, t1, cs1, f1, p1, q1, hg1, ht1, hv1, hd1, ⟨g2, t2, cs2, f2, p2, q2, hg2, ht2, hv2, hd2, _, _⟩, _⟩, _⟩, _⟩ := h
  obtain rfl := Option.some.inj (gTab.symm.trans hg2)
  obtain rfl := Option.some.inj (pTab.symm.trans ht2)
  unfold Tab Lib.TabIs
  rw [hv2, ← Lib.cells_of_tab (k := .u64) (zs := Lib.pow10Tab) Tryd.underlying164 Tryd.underlying130 (by kernel_rfl) (by kernel_rfl) hd2]
theorem laid_met (os : Os) : laidMet Tryd.prog Rows.fnRulesRow.laid ((World.doorLaid Tryd.prog 400 os).forCall (fun _ _ => 0) ⟨#[], #[.slice none 0 0], []⟩).memory :=
  laidMet_of_run' 8 (by kernel_rfl) (by kernel_rfl)
theorem reads (os : Os) {H : Type} (enc : TypeId × Value → H) : ∃ places, DataW.whole enc Tryd.prog ((World.doorLaid Tryd.prog 400 os).forCall (fun _ _ => 0) ⟨#[], #[.slice none 0 0], []⟩).memory Tryd.f3.params.toList Rows.fnRulesSpec.vars false (#[.slice none 0 0] : Array Value).toList 8 = some ([.nil], [], places) :=
  ⟨[], by kernel_rfl⟩
theorem lifted (os : Os) (started : os.Started) (H : Type) (enc : TypeId × Value → H) (F : Stop.Interp) :
    ReturnsInHanded {} Tryd.checked os 3 .any ((OpenSpec.ofChange Rows.fnRulesSpec).preRow enc Tryd.prog Tryd.f3 Rows.fnRulesRow.domain false Rows.fnRulesRow.laid) (((OpenSpec.ofChange Rows.fnRulesSpec).at F).post enc Tryd.prog Tryd.f3 false true false false) := by
  obtain ⟨places, hx⟩ := reads os enc
  refine returnsInHanded_of_row (C := Tryd.checked) (s := OpenSpec.ofChange Rows.fnRulesSpec) own started (by kernel_rfl) Tryd.func3
    (witness_row_at (enc := enc) (C := Tryd.checked) false (World.doorLaid Tryd.prog 400 os) #[.slice none 0 0] rfl (by kernel_rfl) (by kernel_rfl) (by kernel_rfl)
      (OpenSpec.preRow_of_cond 8 hx (by kernel_rfl) (fun k hk => by cases hk) (by kernel_rfl) (laid_met os))) ?_
  intro W base args ds gs before hval0 hW _ _ _ hL hShaped _
  have hTab := table hL
  have hval : ∀ (j : Nat) t v, Tryd.f3.params[j]? = some t → args[j]? = some v → Value.okWide Tryd.prog W .any base t v := hval0
  have hW' := hW
  obtain ⟨p, q, hA0, hV, rfl, _, _⟩ := hW
  have hA : DataW.TrodAll enc Tryd.prog W 0 (fun _ => true) true Tryd.f3.params.toList args.toList ds p := hA0
  rw [Tryd.params3] at hA hval
  obtain ⟨v0, vs0, d0, ds0, p0, q0, hargs, rfl, rfl, h0, r0⟩ := trodAll_cons hA
  obtain ⟨rfl, rfl, rfl⟩ := trodAll_nil r0
  obtain rfl : args = #[v0] := by cases args; simp_all
  obtain ⟨rfl, rfl⟩ := trodVars_none hV
  have hv0 := hval 0 22 v0 rfl rfl
  clear hA0 hval hval0
  obtain ⟨A0, n0, c0, bs0, rfl, hl0, hr0, hlc0, hm0⟩ := openArg_bytes Tryd.underlying22 Tryd.underlying5 (by kernel_rfl) hv0 h0
  refine (lawRules A0 n0 c0 bs0 W hl0 hr0 (by omega) hTab).mono fun e W' ⟨he, hx⟩ => ?_
  subst he
  exact ⟨_, rfl, law_post (tb := 4) laidOut (by kernel_rfl) rfl Tryd.underlying4 rfl hW' rfl rfl rfl hx⟩
theorem said : Rows.FnRulesSaid :=
  OpenClaim.holds_of_cond 3 Tryd.f3 rfl rfl rfl rfl rfl rfl rfl ⟨rfl, rfl, rfl, rfl, rfl⟩ rfl rfl rfl rfl rfl (by kernel_rfl) Tryd.func3 (by kernel_rfl)
    (of_decide_eq_true (by kernel_rfl)) (by unfold Func.isWrapper; first | (rw [if_pos (by decide +kernel)]; kernel_rfl) | (rw [if_neg (by decide +kernel)]; exact ⟨rfl, rfl⟩))
    (fun os started H enc _ F => by rw [OpenClaim.pre_eq_preRow]; exact lifted os started H enc F)
theorem plain (f : FuncId) (fn : Func) (hf : Tryd.pinned.checked.prog.funcNamed "loop.example/g00832/laws.FnRules" = some f) (hfn : Tryd.pinned.checked.prog.funcs[f]? = some fn) :
    false = Tryd.pinned.checked.prog.looks [] ∧ ∀ (j : Nat) t, fn.params[j]? = some t → Tryd.pinned.checked.prog.wantsStandIn t = false := by
  obtain rfl : f = 3 := Option.some.inj ((show Tryd.prog.funcNamed "loop.example/g00832/laws.FnRules" = some 3 by kernel_rfl).symm.trans hf) |>.symm
  obtain rfl : fn = Tryd.f3 := (Option.some.inj (Tryd.func3.symm.trans hfn)).symm
  refine ⟨by kernel_rfl, fun j t ht => ?_⟩
  rw [Tryd.params3] at ht
  have hm : t ∈ [22] := by simpa using Array.mem_of_getElem? ht
  have hall : ([22].all fun u => !Tryd.prog.wantsStandIn u) = true := by kernel_rfl
  exact (show Tryd.prog.wantsStandIn t = false by simpa using List.all_eq_true.1 hall t hm)
theorem proved : Rows.FnRulesCardSaid :=
  Claim7.holds_tied_plain_at .later [] _ _ _ _ said (fun _ h => by cases h) (by kernel_rfl) (fun _ h => by cases h) fnRules_row_tie rfl ⟨rfl, rfl⟩ (by kernel_rfl) rfl plain (by kernel_rfl)
end lFnRules
end Go.Proofs.YtbbkahnfnjlajaaDoor
