/- Contracts of IsAllotment and UnusedOf of the program and of the reference. -/
import Derived.Test.YtbbkahnfnjlajaaDoorC
namespace Go.Proofs.YtbbkahnfnjlajaaDoor
open Go.ChangeShapes Go.WideShapes Go.ChangeAt Go.RowKit

set_option maxHeartbeats 1000000 in
theorem implIsAllot_any (A B : Option Addr) (n c m d : Nat) (xs : List Ask) (total : Int) (ys : List Int) (w : World) (hn : xs.length = n) (hm : ys.length = m) (hr : Row w A (ints (flat Ask.ints xs))) (hs : Row w B (ints ys)) (hle : n ≤ maxLen) (hle' : m ≤ maxLen) :
    Calls Tryd.prog 27 #[.slice A n c, .int .i64 total, .slice B m d] w fun e w' => e = .returned (.bool (isAllot xs total ys)) ∧ Ext w w' := by
  have Hle := Lib.hid hle
  have Hle' := Lib.hid hle'
  unfold maxLen at hle hle'
  go_enter Tryd.func27, Tryd.ntmps27
  go_wp2_with fail
  refine (implAsksOk_any _ _ _ xs _ hn hr Hle.out).mono ?_
  rintro e w1 ⟨rfl, hx1⟩
  by_cases hok : asksOk xs = true
  · rw [hok]
    have h6 := asksOk_len hok
    have Hok := Lib.hid hok
    clear hok
    by_cases hnm : n = m
    · have hnm' : ((m : Int) != (n : Int)) = false := by simp; omega
      have Hnm := Lib.hid hnm
      go_wp2
      go_loopw [21] (fun i wr => ∃ k : Nat, k ≤ m ∧ i = .int .i64 k ∧ Ext w wr ∧ allN (fitAt xs ys) k = true) (fun i _ => m - (intOf i).toNat)
      case atStart => exact ⟨0, Nat.zero_le _, rfl, hx1, rfl⟩
      case round =>
      obtain ⟨k, hk, rfl, hx, hall⟩ := hrel
      have Hall := Lib.hid hall
      clear hall
      by_cases hlt : k < m
      · obtain ⟨b, off, rfl, hb, hc0, hc1, hc2, hc3⟩ := (hr.ext hx).Ask (k := k) (by omega)
        obtain ⟨b', off', rfl, hb', hcell⟩ := (hs.ext hx).int (k := k) (by omega)
        have hlt2 : (k : Int) < (n : Int) := by omega
        have hlt3 : (k : Int) < (m : Int) := by omega
        have hfe : fitAt xs ys k = inR (ys[k]'(by omega)) (xs[k]'(by omega)).Low (xs[k]'(by omega)).High := by
          unfold fitAt; rw [num_at (by omega), askLow_at (by omega), askHigh_at (by omega)]
        by_cases hf : fitAt xs ys k = true
        · have Hf := Lib.hid hf
          rw [hfe] at hf
          have Hfe := Lib.hid hfe
          clear hfe
          go_wp2_with fail
          go_quiet ((go_at_call 49; exact Calls.quiet_of_same ((inRange_any _ _ _ _).mono fun _ _ ⟨h1, h2⟩ => ⟨h1, h2.symm⟩)))
          go_wp2
          go_roundw
          case rel => exact ⟨k + 1, by omega, by go_num, hx.drewN _, by rw [allN, Hall.out, Hf.out]; rfl⟩
          case measure => simp [intOf]; omega
        · have Hf : Hid (fitAt xs ys k = false) := by unfold Hid; simpa using hf
          have hf' : inR (ys[k]'(by omega)) (xs[k]'(by omega)).Low (xs[k]'(by omega)).High = false := by rw [← hfe]; simpa using hf
          clear hf hfe
          go_wp2_with fail
          go_quiet ((go_at_call 49; exact Calls.quiet_of_same ((inRange_any _ _ _ _).mono fun _ _ ⟨h1, h2⟩ => ⟨h1, h2.symm⟩)))
          go_wp2
          go_ret
          exact ⟨ret_bool (by unfold isAllot; rw [hm, allN_not (by omega) Hf.out]; simp), hx.drewN _⟩
      · go_wp2_with fail
        have hall := Hall.out
        rw [show k = m from by omega] at hall
        refine (sumOf_any _ _ _ ys _ hm (hs.ext hx) Hle'.out 6000 (by omega) (fun j hj => sumIns_bd Hok.out (by omega) hall (by omega) hj)).mono ?_
        rintro e w' ⟨rfl, rfl⟩
        have Hfin : Hid (isAllot xs total ys = decide (sumN (num ys) m ≤ total)) := by
          unfold Hid isAllot
          rw [Hok.out, hm, hn, decide_eq_true hnm.symm, hall]
          rfl
        clear hall
        go_wp2
        go_ret
        exact ⟨ret_bool Hfin.out.symm, hx⟩
    · have H : Hid (isAllot xs total ys = false) := by
        unfold Hid isAllot
        rw [decide_eq_false (show ¬ ys.length = xs.length from by omega)]
        simp
      have hnm' : ((m : Int) != (n : Int)) = true := by simp; omega
      go_wp2
      go_ret
      exact ⟨ret_bool H.out.symm, hx1⟩
  · rw [show asksOk xs = false from by simpa using hok]
    have H : Hid (isAllot xs total ys = false) := by
      unfold Hid isAllot
      rw [show asksOk xs = false from by simpa using hok]
      rfl
    clear hok
    go_wp2
    go_ret
    exact ⟨ret_bool H.out.symm, hx1⟩

end Go.Proofs.YtbbkahnfnjlajaaDoor
