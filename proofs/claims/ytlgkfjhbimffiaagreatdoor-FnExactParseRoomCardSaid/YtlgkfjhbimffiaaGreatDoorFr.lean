/- Contracts of texts of regions: FormatRegion of the program and of the reference. (written by tools/mkFr.py) -/
import Derived.Test.YtlgkfjhbimffiaaGreatDoorRk
import Derived.Test.YtlgkfjhbimffiaaGreatDoorHt
import Derived.Test.YtlgkfjhbimffiaaGreatDoorSs
namespace Go.Proofs.YtlgkfjhbimffiaaGreatDoor
open Go.ChangeShapes Go.WideShapes Go.ChangeAt Go.RowKit
set_option linter.unusedVariables false
set_option maxRecDepth 100000

def regionT (hs : List Half) : List UInt8 := if hs = [] then [118, 111, 105, 100] else if regOk hs = true then Lib.join (hs.map halfT) [59] else []
theorem regionT_void {hs : List Half} (h : hs = []) : regionT hs = [118, 111, 105, 100] := if_pos h
theorem regionT_bad {hs : List Half} (h : hs ≠ []) (hk : regOk hs = false) : regionT hs = [] := by unfold regionT; rw [if_neg h, if_neg (by rw [hk]; simp)]
theorem regionT_ok {hs : List Half} (h : hs ≠ []) (hk : regOk hs = true) : regionT hs = Lib.join (hs.map halfT) [59] := by unfold regionT; rw [if_neg h, if_pos hk]
theorem regOk_len {hs : List Half} (h : regOk hs = true) : hs.length ≤ 40 := by
  unfold regOk at h
  cases hs with
  | nil => simp
  | cons x l =>
    simp only [List.isEmpty_cons, Bool.false_or, Bool.and_eq_true, decide_eq_true_eq] at h
    rw [← h.2]
    exact fromR_len _
def halvesTo (hs : List Half) (k : Nat) : List (List UInt8) := (hs.map halfT).take k
theorem halvesTo_succ {hs : List Half} {k : Nat} (h : k < hs.length) : halvesTo hs (k + 1) = halvesTo hs k ++ [halfT hs[k]] := by
  unfold halvesTo
  rw [List.take_succ_eq_append_getElem (by simpa using h)]
  simp
theorem halvesTo_len {hs : List Half} {k : Nat} (h : k ≤ hs.length) : (halvesTo hs k).length = k := by simp [halvesTo]; omega
theorem halvesTo_all (hs : List Half) : halvesTo hs hs.length = hs.map halfT := by unfold halvesTo; rw [List.take_of_length_le (by simp)]
theorem halvesTo_each (hs : List Half) (k : Nat) : ∀ t ∈ halvesTo hs k, t.length ≤ 195 := by
  intro t ht
  unfold halvesTo at ht
  obtain ⟨h, _, rfl⟩ := List.mem_map.1 (List.mem_of_mem_take ht)
  exact halfT_len h
theorem regionT_len (hs : List Half) : (regionT hs).length ≤ 7840 := by
  by_cases h0 : hs = []
  · rw [regionT_void h0]; decide
  · by_cases h1 : regOk hs = true
    · rw [regionT_ok h0 h1, ← halvesTo_all]
      have h1' := join_len_le (halvesTo hs hs.length) [59] 195 (halvesTo_each hs _)
      rw [halvesTo_len (Nat.le_refl _)] at h1'
      have h2 : hs.length * (195 + 1) ≤ 40 * (195 + 1) := Nat.mul_le_mul_right _ (regOk_len h1)
      simp only [List.length_cons, List.length_nil] at h1'
      omega
    · rw [regionT_bad h0 (by simpa using h1)]; simp

theorem implIsVoid_any (A : Option Addr) (n c : Nat) (w : World) (hle : n ≤ maxLen) :
    Calls Tryz.prog 32 #[.agg #[.slice A n c]] w fun e w' => e = .returned (.bool (decide (n = 0))) ∧ Ext w w' := by
  unfold maxLen at hle
  by_cases h : n = 0
  · have hb : ((n : Int) == 0) = true := by simpa using h
    have H : Hid (decide (n = 0) = true) := decide_eq_true h
    clear h
    go_enter Tryz.func32, Tryz.ntmps32
    go_wp2
    go_ret
    exact ⟨ret_bool H.out.symm, (Ext.refl w).alloc _⟩
  · have hb : ((n : Int) == 0) = false := by rw [beq_eq_false_iff_ne]; omega
    have H : Hid (decide (n = 0) = false) := decide_eq_false h
    clear h
    go_enter Tryz.func32, Tryz.ntmps32
    go_wp2
    go_ret
    exact ⟨ret_bool H.out.symm, (Ext.refl w).alloc _⟩
theorem specIsVoid_any (A : Option Addr) (n c : Nat) (w : World) (hle : n ≤ maxLen) :
    Calls Tryz.prog 27 #[.agg #[.slice A n c]] w fun e w' => e = .returned (.bool (decide (n = 0))) ∧ Ext w w' := by
  unfold maxLen at hle
  by_cases h : n = 0
  · have hb : ((n : Int) == 0) = true := by simpa using h
    have H : Hid (decide (n = 0) = true) := decide_eq_true h
    clear h
    go_enter Tryz.func27, Tryz.ntmps27
    go_wp2
    go_ret
    exact ⟨ret_bool H.out.symm, (Ext.refl w).alloc _⟩
  · have hb : ((n : Int) == 0) = false := by rw [beq_eq_false_iff_ne]; omega
    have H : Hid (decide (n = 0) = false) := decide_eq_false h
    clear h
    go_enter Tryz.func27, Tryz.ntmps27
    go_wp2
    go_ret
    exact ⟨ret_bool H.out.symm, (Ext.refl w).alloc _⟩
set_option maxHeartbeats 2000000 in
theorem implFormatRegion_any (A : Option Addr) (n c : Nat) (hs : List Half) (w : World) (hn : hs.length = n) (hr : Row w A (ints (flat Half.ints hs))) (hI : HalvesI hs) (hle : n ≤ maxLen) (ht : Tab w) :
    Calls Tryz.prog 44 #[.agg #[.slice A n c]] w fun e w' => e = .returned (.string (txt (regionT hs))) ∧ Ext w w' := by
  obtain ⟨i0, hi0, hz0, hz1, hz2⟩ := info_parts str_info
  have hx : Ext w (w.alloc (.cells #[.slice A n c] 29)) := (Ext.refl w).alloc _
  have bR := Blk.new w 29 #[.slice A n c]
  have HI := Lib.hid (fun k hk => hI.at_ (k := k) hk)
  have HR := Lib.hid hr
  have HN := Lib.hid hn
  have HV := Lib.hid (fun w => implIsVoid_any A n c w hle)
  have HO := Lib.hid (fun w hr => implRegionOk_any A n c hs w hn hr hI hle)
  have Hv : Hid (∀ _ : n = 0, regionT hs = [118, 111, 105, 100]) := fun h0 => regionT_void (List.eq_nil_of_length_eq_zero (by omega))
  have Hb : Hid (∀ _ : n ≠ 0, regOk hs = false → regionT hs = []) := fun h0 h => regionT_bad (fun e => h0 (by rw [← hn, e]; rfl)) h
  have Hg : Hid (∀ _ : n ≠ 0, regOk hs = true → regionT hs = Lib.join (hs.map halfT) [59] ∧ n ≤ 40) := fun h0 h => ⟨regionT_ok (fun e => h0 (by rw [← hn, e]; rfl)) h, by rw [← hn]; exact regOk_len h⟩
  have He : Hid (∀ _ : n = 0, regOk hs = true) := fun h0 => by rw [List.eq_nil_of_length_eq_zero (show hs.length = 0 by omega)]; rfl
  have hle2 := hle
  unfold maxLen at hle2
  have HT0 := Lib.hid ht
  clear hI hr hn ht
  by_cases h0 : n = 0
  · have HQ := Lib.hid (Hv.out h0)
    have hE : (decide (n = 0)) = true := decide_eq_true h0
    clear h0
    go_enter Tryz.func44, Tryz.ntmps44
    go_wp2_with fail
    refine (HV.out _).mono ?_
    rintro e w1 ⟨rfl, hx1⟩
    replace hx := hx.trans hx1
    replace bR := bR.ext hx1
    have cbR_1 := fun o => bR.cell o
    rw [hE]
    clear hE
    go_wp2
    go_ret
    exact ⟨ret_txt (by rw [HQ.out]; rfl), hx⟩
  have hE : (decide (n = 0)) = false := decide_eq_false h0
  have Hb2 := Lib.hid (Hb.out h0)
  have Hg2 := Lib.hid (Hg.out h0)
  by_cases hok : regOk hs = true
  rotate_left
  · have hok' : regOk hs = false := by simpa using hok
    have HQ := Lib.hid (Hb2.out hok')
    clear hok
    go_enter Tryz.func44, Tryz.ntmps44
    go_wp2_with fail
    refine (HV.out _).mono ?_
    rintro e w1 ⟨rfl, hx1⟩
    replace hx := hx.trans hx1
    replace bR := bR.ext hx1
    have cbR_2 := fun o => bR.cell o
    rw [hE]
    clear hE
    go_wp2_with fail
    refine (HO.out _ (HR.out.ext hx)).mono ?_
    rintro e w2 ⟨rfl, hx2⟩
    replace hx := hx.trans hx2
    replace bR := bR.ext hx2
    have cbR_3 := fun o => bR.cell o
    rw [hok']
    clear hok'
    go_wp2
    go_ret
    exact ⟨ret_txt (by rw [HQ.out]; rfl), hx⟩
  obtain ⟨hq, h40⟩ := Hg2.out hok
  have HQ := Lib.hid hq
  clear hq
  go_enter Tryz.func44, Tryz.ntmps44
  go_wp2_with fail
  refine (HV.out _).mono ?_
  rintro e w1 ⟨rfl, hx1⟩
  replace hx := hx.trans hx1
  replace bR := bR.ext hx1
  have cbR_4 := fun o => bR.cell o
  rw [hE]
  clear hE
  go_wp2_with fail
  refine (HO.out _ (HR.out.ext hx)).mono ?_
  rintro e w2 ⟨rfl, hx2⟩
  replace hx := hx.trans hx2
  replace bR := bR.ext hx2
  have cbR_5 := fun o => bR.cell o
  rw [hok]
  clear hok h0
  have hRlt := bR.lt
  go_wp2
  go_loopw [3, 14] (fun v i wr => ∃ k : Nat, k ≤ n ∧ i = .int .i64 k ∧ Ext w2 wr ∧ wr.ownsRow w2.heap.size 9 1 v k (strs (halvesTo hs k))) (fun _ i _ => n - (intOf i).toNat)
  case atStart => exact ⟨0, Nat.zero_le _, rfl, Ext.refl _, World.ownsRow_nil _ _ _ _⟩
  case round =>
  obtain ⟨k, hk, rfl, hy, hown⟩ := hrel
  have hsz := hy.size
  have hxs := hx.size
  by_cases hlt : k < n
  · have hkl : k < hs.length := by rw [HN.out]; exact hlt
    obtain ⟨b, off, rfl, hb, c0, c1, c2⟩ := (HR.out.ext (hx.trans hy)).Half (k := k) hkl
    obtain ⟨i1, i2, i3⟩ := HI.out k hkl
    have Hk := Lib.hid (halvesTo_succ (hs := hs) (k := k) hkl)
    obtain ⟨h, hh⟩ : ∃ h, hs[k]'hkl = h := ⟨_, rfl⟩
    rw [hh] at c0 c1 c2 i1 i2 i3 Hk
    clear hh
    have hlt2 : (k : Int) < (n : Int) := by omega
    have hy1 := hy.alloc (.cells #[.int .i64 h.A, .int .i64 h.B, .int .i64 h.C] 69)
    have hTk := HT0.out.ext ((hx.trans hy).alloc (.cells #[.int .i64 h.A, .int .i64 h.B, .int .i64 h.C] 69))
    go_wp2_with fail
    refine (implFormatHalf_any h.A h.B h.C _ i1 i2 i3 hTk).mono ?_
    rintro e w5 ⟨rfl, hx5⟩
    replace hown := own_ext (hown.alloc _) hx5
    have hy5 := hy1.trans hx5
    have hsz5 := hy5.size
    change Hid (halvesTo hs (k + 1) = halvesTo hs k ++ [halfT ⟨h.A, h.B, h.C⟩]) at Hk
    obtain ⟨t, htt⟩ : ∃ t, halfT ⟨h.A, h.B, h.C⟩ = t := ⟨_, rfl⟩
    rw [htt] at Hk ⊢
    clear htt
    go_wp2_with (at_builtin; go_must (refine wpList_append_own _ rfl _ _ 52 rfl w2.heap.size 9 i0 (.string ByteArray.empty) 1 16 Tryz.underlying52 hi0 hz0 hz1 hz2 rfl (by decide) _ _ _ rfl (hown.alloc _) ⟨w5.heap.size, 0, none⟩ 1 1 [.string (txt t)] rfl rfl (cell_one_new _ _ _) (by simp [Value.oneCell']) (by unfold maxLen; omega) (by omega) (by simp; omega) ?_); intro v' w6 hown' hgrow _)
    have hy6 : Ext w2 w6 := (hy5.alloc _).grown hgrow (fun g hg => (hown.lt g hg).1)
    go_roundw
    case rel => exact ⟨k + 1, by omega, by go_num, hy6, by rw [Hk.out, strs_append]; exact hown'⟩
    case measure => simp [intOf]; omega
  · obtain rfl : k = n := by omega
    obtain ⟨A', c', rfl⟩ := own_form hown
    have hrow := Row.of_own hown
    have hcap := own_cap hown
    have Hlen : Hid ((halvesTo hs k).length = k) := halvesTo_len (by rw [HN.out]; exact Nat.le_refl _)
    have HE : Hid (Lib.join (halvesTo hs k) [59] = regionT hs) := by unfold Hid; rw [HQ.out, ← HN.out, halvesTo_all]
    have Hlb : Hid ((Lib.join (halvesTo hs k) [59]).length ≤ 140737488355328) := by
      have h1 := join_len_le (halvesTo hs k) [59] 195 (halvesTo_each hs k)
      rw [Hlen.out] at h1
      have h2 : k * (195 + 1) ≤ 40 * (195 + 1) := Nat.mul_le_mul_right _ h40
      exact Nat.le_trans h1 (by simp only [List.length_cons, List.length_nil]; omega)
    go_wp2_with fail
    refine (implJoin_any _ _ _ (halvesTo hs k) _ _ Hlen.out hrow hcap (by omega) Hlb.out).mono ?_
    rintro e w5 ⟨rfl, hx5⟩
    go_wp2
    go_ret
    exact ⟨ret_txt (by rw [← HE.out]), (hx.trans hy).trans hx5⟩
set_option maxHeartbeats 2000000 in
theorem specFormatRegion_any (A : Option Addr) (n c : Nat) (hs : List Half) (w : World) (hn : hs.length = n) (hr : Row w A (ints (flat Half.ints hs))) (hA : A = none → n = 0 ∧ c = 0) (hI : HalvesI hs) (hle : n ≤ maxLen) :
    Calls Tryz.prog 40 #[.agg #[.slice A n c]] w fun e w' => e = .returned (.string (txt (regionT hs))) ∧ Ext w w' := by
  obtain ⟨i0, hi0, hz0, hz1, hz2⟩ := info_parts str_info
  have hx : Ext w (w.alloc (.cells #[.slice A n c] 29)) := (Ext.refl w).alloc _
  have bR := Blk.new w 29 #[.slice A n c]
  have HI := Lib.hid (fun k hk => hI.at_ (k := k) hk)
  have HR := Lib.hid hr
  have HN := Lib.hid hn
  have HV := Lib.hid (fun w => specIsVoid_any A n c w hle)
  have HO := Lib.hid (fun w hr => specRegionOk_any A n c hs w hn hr hA hI hle)
  have Hv : Hid (∀ _ : n = 0, regionT hs = [118, 111, 105, 100]) := fun h0 => regionT_void (List.eq_nil_of_length_eq_zero (by omega))
  have Hb : Hid (∀ _ : n ≠ 0, regOk hs = false → regionT hs = []) := fun h0 h => regionT_bad (fun e => h0 (by rw [← hn, e]; rfl)) h
  have Hg : Hid (∀ _ : n ≠ 0, regOk hs = true → regionT hs = Lib.join (hs.map halfT) [59] ∧ n ≤ 40) := fun h0 h => ⟨regionT_ok (fun e => h0 (by rw [← hn, e]; rfl)) h, by rw [← hn]; exact regOk_len h⟩
  have He : Hid (∀ _ : n = 0, regOk hs = true) := fun h0 => by rw [List.eq_nil_of_length_eq_zero (show hs.length = 0 by omega)]; rfl
  have hle2 := hle
  unfold maxLen at hle2
  clear hI hr hn hA
  by_cases h0 : n = 0
  · have HQ := Lib.hid (Hv.out h0)
    have hE : (decide (n = 0)) = true := decide_eq_true h0
    have HOk := Lib.hid (He.out h0)
    clear h0
    go_enter Tryz.func40, Tryz.ntmps40
    go_wp2_with fail
    refine (HO.out _ (HR.out.ext hx)).mono ?_
    rintro e w1 ⟨rfl, hx1⟩
    replace hx := hx.trans hx1
    replace bR := bR.ext hx1
    have cbR_6 := fun o => bR.cell o
    rw [HOk.out]
    go_wp2_with fail
    refine (HV.out _).mono ?_
    rintro e w2 ⟨rfl, hx2⟩
    replace hx := hx.trans hx2
    replace bR := bR.ext hx2
    have cbR_7 := fun o => bR.cell o
    rw [hE]
    clear hE
    go_wp2
    go_ret
    exact ⟨ret_txt (by rw [HQ.out]; rfl), hx⟩
  have hE : (decide (n = 0)) = false := decide_eq_false h0
  have Hb2 := Lib.hid (Hb.out h0)
  have Hg2 := Lib.hid (Hg.out h0)
  by_cases hok : regOk hs = true
  rotate_left
  · have hok' : regOk hs = false := by simpa using hok
    have HQ := Lib.hid (Hb2.out hok')
    clear hok
    go_enter Tryz.func40, Tryz.ntmps40
    go_wp2_with fail
    refine (HO.out _ (HR.out.ext hx)).mono ?_
    rintro e w1 ⟨rfl, hx1⟩
    replace hx := hx.trans hx1
    replace bR := bR.ext hx1
    have cbR_8 := fun o => bR.cell o
    rw [hok']
    clear hok' hE
    go_wp2
    go_ret
    exact ⟨ret_txt (by rw [HQ.out]; rfl), hx⟩
  obtain ⟨hq, h40⟩ := Hg2.out hok
  have HQ := Lib.hid hq
  clear hq
  go_enter Tryz.func40, Tryz.ntmps40
  go_wp2_with fail
  refine (HO.out _ (HR.out.ext hx)).mono ?_
  rintro e w1 ⟨rfl, hx1⟩
  replace hx := hx.trans hx1
  replace bR := bR.ext hx1
  have cbR_9 := fun o => bR.cell o
  rw [hok]
  clear hok h0
  go_wp2_with fail
  refine (HV.out _).mono ?_
  rintro e w2 ⟨rfl, hx2⟩
  replace hx := hx.trans hx2
  replace bR := bR.ext hx2
  have cbR_10 := fun o => bR.cell o
  rw [hE]
  clear hE
  have hRlt := bR.lt
  go_wp2
  go_loopw [3, 15] (fun v i wr => ∃ k : Nat, k ≤ n ∧ i = .int .i64 k ∧ Ext w2 wr ∧ wr.ownsRow w2.heap.size 9 1 v k (strs (halvesTo hs k))) (fun _ i _ => n - (intOf i).toNat)
  case atStart => exact ⟨0, Nat.zero_le _, rfl, (Ext.refl w2).alloc _, World.ownsRow_lit w2 #[] 0 (Nat.le_refl _) (by unfold maxLen; omega) rfl⟩
  case round =>
  obtain ⟨k, hk, rfl, hy, hown⟩ := hrel
  have hsz := hy.size
  have hxs := hx.size
  by_cases hlt : k < n
  · have hkl : k < hs.length := by rw [HN.out]; exact hlt
    obtain ⟨b, off, rfl, hb, c0, c1, c2⟩ := (HR.out.ext (hx.trans hy)).Half (k := k) hkl
    obtain ⟨i1, i2, i3⟩ := HI.out k hkl
    have Hk := Lib.hid (halvesTo_succ (hs := hs) (k := k) hkl)
    obtain ⟨h, hh⟩ : ∃ h, hs[k]'hkl = h := ⟨_, rfl⟩
    rw [hh] at c0 c1 c2 i1 i2 i3 Hk
    clear hh
    have hlt2 : (k : Int) < (n : Int) := by omega
    have hy1 := hy.alloc (.cells #[.int .i64 h.A, .int .i64 h.B, .int .i64 h.C] 69)
    go_wp2_with fail
    refine (specFormatHalf_any h.A h.B h.C _ i1 i2 i3).mono ?_
    rintro e w5 ⟨rfl, hx5⟩
    replace hown := own_ext (hown.alloc _) hx5
    have hy5 := hy1.trans hx5
    have hsz5 := hy5.size
    change Hid (halvesTo hs (k + 1) = halvesTo hs k ++ [halfT ⟨h.A, h.B, h.C⟩]) at Hk
    obtain ⟨t, htt⟩ : ∃ t, halfT ⟨h.A, h.B, h.C⟩ = t := ⟨_, rfl⟩
    rw [htt] at Hk ⊢
    clear htt
    go_wp2_with (at_builtin; go_must (refine wpList_append_own _ rfl _ _ 52 rfl w2.heap.size 9 i0 (.string ByteArray.empty) 1 16 Tryz.underlying52 hi0 hz0 hz1 hz2 rfl (by decide) _ _ _ rfl (hown.alloc _) ⟨w5.heap.size, 0, none⟩ 1 1 [.string (txt t)] rfl rfl (cell_one_new _ _ _) (by simp [Value.oneCell']) (by unfold maxLen; omega) (by omega) (by simp; omega) ?_); intro v' w6 hown' hgrow _)
    have hy6 : Ext w2 w6 := (hy5.alloc _).grown hgrow (fun g hg => (hown.lt g hg).1)
    go_roundw
    case rel => exact ⟨k + 1, by omega, by go_num, hy6, by rw [Hk.out, strs_append]; exact hown'⟩
    case measure => simp [intOf]; omega
  · obtain rfl : k = n := by omega
    obtain ⟨A', c', rfl⟩ := own_form hown
    have hrow := Row.of_own hown
    have hcap := own_cap hown
    have Hlen : Hid ((halvesTo hs k).length = k) := halvesTo_len (by rw [HN.out]; exact Nat.le_refl _)
    have HE : Hid (Lib.join (halvesTo hs k) [59] = regionT hs) := by unfold Hid; rw [HQ.out, ← HN.out, halvesTo_all]
    have Hlb : Hid ((Lib.join (halvesTo hs k) [59]).length ≤ 140737488355328) := by
      have h1 := join_len_le (halvesTo hs k) [59] 195 (halvesTo_each hs k)
      rw [Hlen.out] at h1
      have h2 : k * (195 + 1) ≤ 40 * (195 + 1) := Nat.mul_le_mul_right _ h40
      exact Nat.le_trans h1 (by simp only [List.length_cons, List.length_nil]; omega)
    go_wp2_with fail
    refine (specJoin_any _ _ _ (halvesTo hs k) _ _ Hlen.out hrow (by omega) Hlb.out).mono ?_
    rintro e w5 ⟨rfl, hx5⟩
    go_wp2
    go_ret
    exact ⟨ret_txt (by rw [← HE.out]), (hx.trans hy).trans hx5⟩
end Go.Proofs.YtlgkfjhbimffiaaGreatDoor
