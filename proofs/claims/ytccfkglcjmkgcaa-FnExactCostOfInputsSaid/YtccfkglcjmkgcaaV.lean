/- Contracts of CostOfInputs of the program and of the reference. -/
import Derived.Test.YtccfkglcjmkgcaaP
namespace Go.Proofs.Ytccfkglcjmkgcaa
open Go.ChangeShapes Go.WideShapes Go.ChangeAt Go.RowKit

set_option maxHeartbeats 1000000 in
theorem implCost_any (A B : Option Addr) (n c m d : Nat) (xs ys : List Int) (w : World) (hn : xs.length = n) (hm : ys.length = m) (hr : Row w A (ints xs)) (hs : Row w B (ints ys)) (hle : n ≤ maxLen) (hle' : m ≤ maxLen) :
    Calls Try.prog 29 #[.agg #[.slice A n c], .slice B m d] w fun e w' => e = .returned (.int .i64 (costOf xs ys)) ∧ Ext w w' := by
  have Hle := Lib.hid hle
  have Hle' := Lib.hid hle'
  unfold maxLen at hle hle'
  have hB := Ext.refl (w.alloc (.cells #[.slice A n c] 27))
  have hx : Ext w (w.alloc (.cells #[.slice A n c] 27)) := (Ext.refl w).alloc _
  have hr2 := hr.ext hx
  have hs2 := hs.ext hx
  by_cases hbig : m ≤ 1000
  · have hbig' : ¬ (1000 : Int) < (m : Int) := by omega
    go_enter Try.func29, Try.ntmps29
    go_wp2_with fail
    refine (implTariffOk_any _ _ _ xs _ hn hr2 Hle.out).mono ?_
    rintro e w1 ⟨rfl, hx1⟩
    replace hB := hB.trans hx1
    have hc := fun o => hB.use.1 w.heap.size o (by simp <;> omega)
    by_cases hok : tariffOk xs = true
    · have Hok := Lib.hid hok
      rw [hok]
      clear hok
      go_wp2
      go_loopw [5, 18] (fun s i wr => ∃ k : Nat, k ≤ m ∧ i = .int .i64 k ∧ s = .int .i64 (sumN (costAt xs ys) k) ∧ Ext (w.alloc (.cells #[.slice A n c] 27)) wr ∧ allN (measAt ys) k = true) (fun _ i _ => m - (intOf i).toNat)
      case atStart => exact ⟨0, Nat.zero_le _, rfl, rfl, hB, rfl⟩
      case round =>
        obtain ⟨k, hk, rfl, rfl, hBr, hall⟩ := hrel
        have hbd := cost_bd (f := xs) hall (Nat.le_refl k) (by omega)
        obtain ⟨hb1, hb2⟩ := hbd
        have Hall := Lib.hid hall
        clear hall hc
        have hc := fun o => hBr.use.1 w.heap.size o (by simp <;> omega)
        by_cases hlt : k < m
        · obtain ⟨b, off, rfl, hb, hcell⟩ := ((hs2.ext hBr)).int (k := k) (by omega)
          by_cases hme : inR (ys[k]'(by omega)) (-1000) 1000 = true
          · have hme2 : measAt ys k = true := by unfold measAt; rw [num_at (by omega)]; exact hme
            have hcb := costAt_bd (f := xs) (ins := ys) (i := k) (by rw [num_at (by omega)]; exact hme)
            have Hme := Lib.hid hme2
            clear hme2
            have Hca : Hid (costAt xs ys k = priceAt xs (k : Int) * (if ys[k]'(by omega) < -(ys[k]'(by omega)) then -(ys[k]'(by omega)) else ys[k]'(by omega))) := by
              unfold Hid costAt absI; rw [num_at (by omega)]
            rw [Hca.out] at hcb
            obtain ⟨hcb1, hcb2⟩ := hcb
            have habs := absI_bd hme
            unfold absI at habs
            obtain ⟨habs1, habs2⟩ := habs
            have hin : -1000 ≤ ys[k]'(by omega) ∧ ys[k]'(by omega) ≤ 1000 := by simpa [inR] using hme
            obtain ⟨hin1, hin2⟩ := hin
            have Hme0 := Lib.hid hme
            go_wp2_with (go_at_call 63; refine (isMeasure_any _ _).mono ?_; rintro e w' ⟨rfl, rfl⟩)
            refine (implPriceAt_any _ _ _ xs _ _ hn ((hr2.ext hBr)) Hle.out).mono ?_
            rintro e w2 ⟨rfl, hx2⟩
            go_wp2
            go_roundw
            case rel => exact ⟨k + 1, by omega, by go_num, by rw [sumN, Hca.out], hBr.trans hx2, by rw [allN, Hall.out, Hme.out]; rfl⟩
            case measure => simp [intOf]; omega
          · have hmf : measAt ys k = false := by unfold measAt; rw [num_at (by omega)]; simpa using hme
            have Hmf := Lib.hid hmf
            have hme' : inR (ys[k]'(by omega)) (-1000) 1000 = false := by simpa using hme
            clear hmf hme
            go_wp2_with (go_at_call 63; refine (isMeasure_any _ _).mono ?_; rintro e w' ⟨rfl, rfl⟩)
            go_ret
            exact ⟨ret_int (by unfold costOf; rw [if_neg]; intro h; rw [allN_not (by omega) Hmf.out] at h; exact absurd h.2.2 (by simp)), hx.trans hBr⟩
        · go_wp2
          go_ret
          exact ⟨ret_int (by unfold costOf; rw [hm, if_pos ⟨Hok.out, hbig, by rw [← show k = m from by omega]; exact Hall.out⟩, show k = m from by omega]), hx.trans hBr⟩
    · rw [show tariffOk xs = false from by simpa using hok]
      have H := Lib.hid hok
      clear hok
      go_wp2
      go_ret
      exact ⟨ret_int (by unfold costOf; rw [if_neg (fun h => H.out h.1)]), hx.trans hB⟩
  · have H : Hid (costOf xs ys = -1) := by unfold Hid costOf; rw [if_neg (fun h => hbig (hm ▸ h.2.1))]
    go_enter Try.func29, Try.ntmps29
    go_wp2
    go_ret
    exact ⟨ret_int H.out.symm, hx⟩

set_option maxHeartbeats 1000000 in
theorem specCost_any (A B : Option Addr) (n c m d : Nat) (xs ys : List Int) (w : World) (hn : xs.length = n) (hm : ys.length = m) (hr : Row w A (ints xs)) (hs : Row w B (ints ys)) (hle : n ≤ maxLen) (hle' : m ≤ maxLen) :
    Calls Try.prog 27 #[.agg #[.slice A n c], .slice B m d] w fun e w' => e = .returned (.int .i64 (costOf xs ys)) ∧ Ext w w' := by
  have Hle := Lib.hid hle
  have Hle' := Lib.hid hle'
  unfold maxLen at hle hle'
  have hB := Ext.refl (w.alloc (.cells #[.slice A n c] 27))
  have hx : Ext w (w.alloc (.cells #[.slice A n c] 27)) := (Ext.refl w).alloc _
  have hr2 := hr.ext hx
  have hs2 := hs.ext hx
  by_cases hbig : m ≤ 1000
  · have hbig' : ¬ (1000 : Int) < (m : Int) := by omega
    go_enter Try.func27, Try.ntmps27
    go_wp2_with fail
    refine (specTariffOk_any _ _ _ xs _ hn hr2 Hle.out).mono ?_
    rintro e w1 ⟨rfl, hx1⟩
    replace hB := hB.trans hx1
    have hc := fun o => hB.use.1 w.heap.size o (by simp <;> omega)
    by_cases hok : tariffOk xs = true
    · have Hok := Lib.hid hok
      rw [hok]
      clear hok
      go_wp2
      go_loopw [5, 18] (fun s i wr => ∃ k : Nat, k ≤ m ∧ i = .int .i64 k ∧ s = .int .i64 (sumN (costAt xs ys) k) ∧ Ext (w.alloc (.cells #[.slice A n c] 27)) wr ∧ allN (measAt ys) k = true) (fun _ i _ => m - (intOf i).toNat)
      case atStart => exact ⟨0, Nat.zero_le _, rfl, rfl, hB, rfl⟩
      case round =>
        obtain ⟨k, hk, rfl, rfl, hBr, hall⟩ := hrel
        have hbd := cost_bd (f := xs) hall (Nat.le_refl k) (by omega)
        obtain ⟨hb1, hb2⟩ := hbd
        have Hall := Lib.hid hall
        clear hall hc
        have hc := fun o => hBr.use.1 w.heap.size o (by simp <;> omega)
        by_cases hlt : k < m
        · obtain ⟨b, off, rfl, hb, hcell⟩ := ((hs2.ext hBr)).int (k := k) (by omega)
          by_cases hme : inR (ys[k]'(by omega)) (-1000) 1000 = true
          · have hme2 : measAt ys k = true := by unfold measAt; rw [num_at (by omega)]; exact hme
            have hcb := costAt_bd (f := xs) (ins := ys) (i := k) (by rw [num_at (by omega)]; exact hme)
            have Hme := Lib.hid hme2
            clear hme2
            have Hca : Hid (costAt xs ys k = priceAt xs (k : Int) * (if ys[k]'(by omega) < -(ys[k]'(by omega)) then -(ys[k]'(by omega)) else ys[k]'(by omega))) := by
              unfold Hid costAt absI; rw [num_at (by omega)]
            rw [Hca.out] at hcb
            obtain ⟨hcb1, hcb2⟩ := hcb
            have habs := absI_bd hme
            unfold absI at habs
            obtain ⟨habs1, habs2⟩ := habs
            have hin : -1000 ≤ ys[k]'(by omega) ∧ ys[k]'(by omega) ≤ 1000 := by simpa [inR] using hme
            obtain ⟨hin1, hin2⟩ := hin
            have Hme0 := Lib.hid hme
            go_wp2_with (go_at_call 62; refine (l01In_any _ _ _ _).mono ?_; rintro e w' ⟨rfl, rfl⟩)
            refine (specPriceAt_any _ _ _ xs _ _ hn ((hr2.ext hBr)) Hle.out).mono ?_
            rintro e w2 ⟨rfl, hx2⟩
            go_wp2
            go_roundw
            case rel => exact ⟨k + 1, by omega, by go_num, by rw [sumN, Hca.out], hBr.trans hx2, by rw [allN, Hall.out, Hme.out]; rfl⟩
            case measure => simp [intOf]; omega
          · have hmf : measAt ys k = false := by unfold measAt; rw [num_at (by omega)]; simpa using hme
            have Hmf := Lib.hid hmf
            have hme' : inR (ys[k]'(by omega)) (-1000) 1000 = false := by simpa using hme
            clear hmf hme
            go_wp2_with (go_at_call 62; refine (l01In_any _ _ _ _).mono ?_; rintro e w' ⟨rfl, rfl⟩)
            go_ret
            exact ⟨ret_int (by unfold costOf; rw [if_neg]; intro h; rw [allN_not (by omega) Hmf.out] at h; exact absurd h.2.2 (by simp)), hx.trans hBr⟩
        · go_wp2
          go_ret
          exact ⟨ret_int (by unfold costOf; rw [hm, if_pos ⟨Hok.out, hbig, by rw [← show k = m from by omega]; exact Hall.out⟩, show k = m from by omega]), hx.trans hBr⟩
    · rw [show tariffOk xs = false from by simpa using hok]
      have H := Lib.hid hok
      clear hok
      go_wp2
      go_ret
      exact ⟨ret_int (by unfold costOf; rw [if_neg (fun h => H.out h.1)]), hx.trans hB⟩
  · have H : Hid (costOf xs ys = -1) := by unfold Hid costOf; rw [if_neg (fun h => hbig (hm ▸ h.2.1))]
    go_enter Try.func27, Try.ntmps27
    go_wp2_with fail
    refine (specTariffOk_any _ _ _ xs _ hn hr2 Hle.out).mono ?_
    rintro e w1 ⟨rfl, hx1⟩
    cases htok : tariffOk xs with
    | true =>
      clear htok
      go_wp2
      go_ret
      exact ⟨ret_int H.out.symm, hx.trans hx1⟩
    | false =>
      clear htok
      go_wp2
      go_ret
      exact ⟨ret_int H.out.symm, hx.trans hx1⟩
end Go.Proofs.Ytccfkglcjmkgcaa
