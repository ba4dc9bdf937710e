/- Contracts of IsAllotment and UnusedOf of the program and of the reference. -/
import Derived.Test.YtccfkglcjmkgcaaC
namespace Go.Proofs.Ytccfkglcjmkgcaa
open Go.ChangeShapes Go.WideShapes Go.ChangeAt Go.RowKit

set_option maxHeartbeats 1000000 in
theorem implIsAllot_any (A B : Option Addr) (n c m d : Nat) (xs : List Ask) (total : Int) (ys : List Int) (w : World) (hn : xs.length = n) (hm : ys.length = m) (hr : Row w A (ints (flat Ask.ints xs))) (hs : Row w B (ints ys)) (hle : n ≤ maxLen) (hle' : m ≤ maxLen) :
    Calls Try.prog 38 #[.slice A n c, .int .i64 total, .slice B m d] w fun e w' => e = .returned (.bool (isAllot xs total ys)) ∧ Ext w w' := by
  have Hle := Lib.hid hle
  have Hle' := Lib.hid hle'
  unfold maxLen at hle hle'
  go_enter Try.func38, Try.ntmps38
  go_wp2_with fail
  refine (implAsksOk_any _ _ _ xs _ hn hr Hle.out).mono ?_
  rintro e w1 ⟨rfl, hx1⟩
  by_cases hok : asksOk xs = true
  · rw [hok]
    have h6 := asksOk_len hok
    have Hok := Lib.hid hok
    clear hok
    by_cases hnm : n = m
    · have hnm' : ((m : Int) != (n : Int)) = false := by simp; omega
      have Hnm := Lib.hid hnm
      go_wp2
      go_loopw [21] (fun i wr => ∃ k : Nat, k ≤ m ∧ i = .int .i64 k ∧ Ext w wr ∧ allN (fitAt xs ys) k = true) (fun i _ => m - (intOf i).toNat)
      case atStart => exact ⟨0, Nat.zero_le _, rfl, hx1, rfl⟩
      case round =>
      obtain ⟨k, hk, rfl, hx, hall⟩ := hrel
      have Hall := Lib.hid hall
      clear hall
      by_cases hlt : k < m
      · obtain ⟨b, off, rfl, hb, hc0, hc1, hc2, hc3⟩ := (hr.ext hx).Ask (k := k) (by omega)
        obtain ⟨b', off', rfl, hb', hcell⟩ := (hs.ext hx).int (k := k) (by omega)
        have hlt2 : (k : Int) < (n : Int) := by omega
        have hlt3 : (k : Int) < (m : Int) := by omega
        have hfe : fitAt xs ys k = inR (ys[k]'(by omega)) (xs[k]'(by omega)).Low (xs[k]'(by omega)).High := by
          unfold fitAt; rw [num_at (by omega), askLow_at (by omega), askHigh_at (by omega)]
        by_cases hf : fitAt xs ys k = true
        · have Hf := Lib.hid hf
          rw [hfe] at hf
          have Hfe := Lib.hid hfe
          clear hfe
          go_wp2_with fail
          go_quiet ((go_at_call 66; exact Calls.quiet_of_same ((inRange_any _ _ _ _).mono fun _ _ ⟨h1, h2⟩ => ⟨h1, h2.symm⟩)))
          go_wp2
          go_roundw
          case rel => exact ⟨k + 1, by omega, by go_num, hx.drewN _, by rw [allN, Hall.out, Hf.out]; rfl⟩
          case measure => simp [intOf]; omega
        · have Hf : Hid (fitAt xs ys k = false) := by unfold Hid; simpa using hf
          have hf' : inR (ys[k]'(by omega)) (xs[k]'(by omega)).Low (xs[k]'(by omega)).High = false := by rw [← hfe]; simpa using hf
          clear hf hfe
          go_wp2_with fail
          go_quiet ((go_at_call 66; exact Calls.quiet_of_same ((inRange_any _ _ _ _).mono fun _ _ ⟨h1, h2⟩ => ⟨h1, h2.symm⟩)))
          go_wp2
          go_ret
          exact ⟨ret_bool (by unfold isAllot; rw [hm, allN_not (by omega) Hf.out]; simp), hx.drewN _⟩
      · go_wp2_with fail
        have hall := Hall.out
        rw [show k = m from by omega] at hall
        refine (sumOf_any _ _ _ ys _ hm (hs.ext hx) Hle'.out 6000 (by omega) (fun j hj => sumIns_bd Hok.out (by omega) hall (by omega) hj)).mono ?_
        rintro e w' ⟨rfl, rfl⟩
        have Hfin : Hid (isAllot xs total ys = decide (sumN (num ys) m ≤ total)) := by
          unfold Hid isAllot
          rw [Hok.out, hm, hn, decide_eq_true hnm.symm, hall]
          rfl
        clear hall
        go_wp2
        go_ret
        exact ⟨ret_bool Hfin.out.symm, hx⟩
    · have H : Hid (isAllot xs total ys = false) := by
        unfold Hid isAllot
        rw [decide_eq_false (show ¬ ys.length = xs.length from by omega)]
        simp
      have hnm' : ((m : Int) != (n : Int)) = true := by simp; omega
      go_wp2
      go_ret
      exact ⟨ret_bool H.out.symm, hx1⟩
  · rw [show asksOk xs = false from by simpa using hok]
    have H : Hid (isAllot xs total ys = false) := by
      unfold Hid isAllot
      rw [show asksOk xs = false from by simpa using hok]
      rfl
    clear hok
    go_wp2
    go_ret
    exact ⟨ret_bool H.out.symm, hx1⟩

set_option maxHeartbeats 1000000 in
theorem specIsAllot_any (A B : Option Addr) (n c m d : Nat) (xs : List Ask) (total : Int) (ys : List Int) (w : World) (hn : xs.length = n) (hm : ys.length = m) (hr : Row w A (ints (flat Ask.ints xs))) (hs : Row w B (ints ys)) (hle : n ≤ maxLen) (hle' : m ≤ maxLen) :
    Calls Try.prog 37 #[.slice A n c, .int .i64 total, .slice B m d] w fun e w' => e = .returned (.bool (isAllot xs total ys)) ∧ Ext w w' := by
  have Hle := Lib.hid hle
  have Hle' := Lib.hid hle'
  unfold maxLen at hle hle'
  go_enter Try.func37, Try.ntmps37
  go_wp2_with fail
  refine (specAsksOk_any _ _ _ xs _ hn hr Hle.out).mono ?_
  rintro e w1 ⟨rfl, hx1⟩
  by_cases hok : asksOk xs = true
  · rw [hok]
    have h6 := asksOk_len hok
    have Hok := Lib.hid hok
    clear hok
    by_cases hnm : n = m
    · have hnm' : ((m : Int) != (n : Int)) = false := by simp; omega
      have Hnm := Lib.hid hnm
      go_wp2
      go_loopw [7, 22] (fun s i wr => ∃ k : Nat, k ≤ m ∧ i = .int .i64 k ∧ s = .int .i64 (sumN (num ys) k) ∧ Ext w wr ∧ allN (fitAt xs ys) k = true) (fun _ i _ => m - (intOf i).toNat)
      case atStart => exact ⟨0, Nat.zero_le _, rfl, rfl, hx1, rfl⟩
      case round =>
      obtain ⟨k, hk, rfl, rfl, hx, hall⟩ := hrel
      have Hall := Lib.hid hall
      clear hall
      by_cases hlt : k < m
      · obtain ⟨b, off, rfl, hb, hc0, hc1, hc2, hc3⟩ := (hr.ext hx).Ask (k := k) (by omega)
        obtain ⟨b', off', rfl, hb', hcell⟩ := (hs.ext hx).int (k := k) (by omega)
        have hlt2 : (k : Int) < (n : Int) := by omega
        have hlt3 : (k : Int) < (m : Int) := by omega
        have hfe : fitAt xs ys k = inR (ys[k]'(by omega)) (xs[k]'(by omega)).Low (xs[k]'(by omega)).High := by
          unfold fitAt; rw [num_at (by omega), askLow_at (by omega), askHigh_at (by omega)]
        have hbd := sumIns_bd (xs := xs) (ins := ys) Hok.out (by omega) Hall.out (by omega) (Nat.le_refl k)
        obtain ⟨hb1, hb2⟩ := hbd
        have hbe : fitAt xs ys k = true → -6000 ≤ sumN (num ys) k + ys[k]'(by omega) ∧ sumN (num ys) k + ys[k]'(by omega) ≤ 6000 := fun hf => by
          have := sumIns_bd (xs := xs) (ins := ys) Hok.out (by omega) (n := k + 1) (by rw [allN, Hall.out, hf]; rfl) (by omega) (Nat.le_refl (k + 1))
          rw [sumN, num_at (by omega)] at this
          exact this
        have Hbe := Lib.hid hbe
        clear hbe
        by_cases hf : fitAt xs ys k = true
        · have Hf := Lib.hid hf
          obtain ⟨hbe1, hbe2⟩ := Hbe.out hf
          rw [hfe] at hf
          have Hfe := Lib.hid hfe
          clear hfe
          go_wp2_with fail
          go_quiet ((go_at_call 62; exact Calls.quiet_of_same ((l01In_any _ _ _ _).mono fun _ _ ⟨h1, h2⟩ => ⟨h1, h2.symm⟩)))
          go_wp2
          go_roundw
          case rel => exact ⟨k + 1, by omega, by go_num, by rw [sumN, num_at (by omega)], hx.drewN _, by rw [allN, Hall.out, Hf.out]; rfl⟩
          case measure => simp [intOf]; omega
        · have Hf : Hid (fitAt xs ys k = false) := by unfold Hid; simpa using hf
          have hf' : inR (ys[k]'(by omega)) (xs[k]'(by omega)).Low (xs[k]'(by omega)).High = false := by rw [← hfe]; simpa using hf
          clear hf hfe
          go_wp2_with fail
          go_quiet ((go_at_call 62; exact Calls.quiet_of_same ((l01In_any _ _ _ _).mono fun _ _ ⟨h1, h2⟩ => ⟨h1, h2.symm⟩)))
          go_wp2
          go_ret
          exact ⟨ret_bool (by unfold isAllot; rw [hm, allN_not (by omega) Hf.out]; simp), hx.drewN _⟩
      · have Hfin : Hid (isAllot xs total ys = decide (sumN (num ys) m ≤ total)) := by
          have hall := Hall.out
          rw [show k = m from by omega] at hall
          unfold Hid isAllot
          rw [Hok.out, hm, hn, decide_eq_true hnm.symm, hall]
          rfl
        go_wp2
        go_ret
        exact ⟨ret_bool (by rw [Hfin.out, show k = m from by omega]), hx⟩
    · have H : Hid (isAllot xs total ys = false) := by
        unfold Hid isAllot
        rw [decide_eq_false (show ¬ ys.length = xs.length from by omega)]
        simp
      have hnm' : ((m : Int) != (n : Int)) = true := by simp; omega
      go_wp2
      go_ret
      exact ⟨ret_bool H.out.symm, hx1⟩
  · rw [show asksOk xs = false from by simpa using hok]
    have H : Hid (isAllot xs total ys = false) := by
      unfold Hid isAllot
      rw [show asksOk xs = false from by simpa using hok]
      rfl
    clear hok
    go_wp2
    go_ret
    exact ⟨ret_bool H.out.symm, hx1⟩
end Go.Proofs.Ytccfkglcjmkgcaa
