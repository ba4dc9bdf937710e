/- Contracts of the greatest common divisor and of fractions. -/
import Derived.Test.YtfnmbpjkjajpcaaGreatDoorFbHz
import Derived.Test.YtfnmbpjkjajpcaaGreatDoorFbPz
namespace Go.Proofs.YtfnmbpjkjajpcaaGreatDoor
open Go.ChangeShapes Go.WideShapes Go.ChangeAt Go.RowKit
set_option linter.unusedVariables false
theorem ret_u64 {a b : Int} (h : a = b) : Ending.returned (.int .u64 a) = .returned (.int .u64 b) := by rw [h]
theorem magnitude_any (n : Int) (w : World) (h : I64 n) :
    Calls Tryz.prog 239 #[.int .i64 n] w fun e w' => e = .returned (.int .u64 (n.natAbs : Int)) ∧ w = w' := by
  obtain ⟨h1, h2⟩ := h
  by_cases hn : n < 0
  · have H : Hid (IntKind.u64.wrap (-IntKind.u64.wrap n) = (n.natAbs : Int)) := by unfold Hid; rw [wrapU, wrapU]; omega
    go_enter Tryz.func239, Tryz.ntmps239
    go_wp2
    go_ret
    exact ⟨by rw [← H.out]; rfl, rfl⟩
  · go_enter Tryz.func239, Tryz.ntmps239
    go_wp2
    go_ret
    exact ⟨ret_u64 (by omega), rfl⟩
set_option maxHeartbeats 400000 in
theorem gcdOfAll_any (A : Option Addr) (n c : Nat) (xs : List Int) (w : World) (hn : xs.length = n) (hr : Row w A (ints xs)) (hle : n ≤ maxLen) (hI : ∀ i, (hi : i < xs.length) → I64 xs[i]) :
    Calls Tryz.prog 174 #[.slice A n c] w fun e w' => e = .returned (.int .u64 (gcdTo xs n : Int)) ∧ Ext w w' := by
  unfold maxLen at hle
  have HI := Lib.hid hI
  have Hb : Hid (∀ k, k ≤ xs.length → gcdTo xs k ≤ 9223372036854775808) := gcdTo_bd (fun i hi => by have := hI i hi; unfold I64 at this; omega)
  clear hI
  go_enter Tryz.func174, Tryz.ntmps174
  go_wp2
  go_loopw [3, 9] (fun g i wr => ∃ k : Nat, k ≤ n ∧ i = .int .i64 k ∧ g = .int .u64 (gcdTo xs k : Int) ∧ Ext w wr) (fun _ i _ => n - (intOf i).toNat)
  case atStart => exact ⟨0, Nat.zero_le _, rfl, rfl, Ext.refl _⟩
  case round =>
    obtain ⟨k, hk, rfl, rfl, hx⟩ := hrel
    by_cases hlt : k < n
    · obtain ⟨b, off, rfl, hb, hcell⟩ := (hr.ext hx).int (k := k) (by omega)
      have hG := Hb.out k (by omega)
      have HIk := HI.out k (by omega)
      have hM : (xs[k]'(by omega)).natAbs ≤ 9223372036854775808 := by unfold I64 at HIk; omega
      have Hs : Hid (gcdTo xs (k + 1) = Nat.gcd (gcdTo xs k) (xs[k]'(by omega)).natAbs) := by unfold Hid; rw [gcdTo, num_at (by omega)]
      obtain ⟨wo, rfl⟩ : ∃ wo : World, wo = wr := ⟨_, rfl⟩
      go_wp2_with fail
      refine (magnitude_any _ _ HIk).mono ?_
      rintro e w' ⟨rfl, rfl⟩
      generalize (xs[k]'(by omega)).natAbs = M at hM Hs
      generalize gcdTo xs k = G at hG Hs
      go_wp2
      go_loopw [3, 6] (fun g m wr => ∃ (g' m' : Nat), g' ≤ 9223372036854775808 ∧ m' ≤ 9223372036854775808 ∧ g = .int .u64 (g' : Int) ∧ m = .int .u64 (m' : Int) ∧ Ext w wr ∧ Nat.gcd g' m' = gcdTo xs (k + 1)) (fun _ m _ => (intOf m).toNat)
      case atStart => exact ⟨G, M, hG, hM, rfl, rfl, hx, Hs.out.symm⟩
      case round =>
        obtain ⟨g, m, hg, hm, rfl, rfl, hx2, hgcd⟩ := hrel
        have Hgcd := Lib.hid hgcd
        clear hgcd Hs
        by_cases hm0 : m = 0
        · have hmb : ((m : Int) != 0) = false := by simp; omega
          have Hm0 := Lib.hid hm0
          clear hm0
          go_wp2
          go_roundw
          case rel => exact ⟨k + 1, by omega, by go_num, by rw [← Hgcd.out, Hm0.out, Nat.gcd_zero_right], hx2⟩
          case measure => simp [intOf]; omega
        · have hmb : ((m : Int) != 0) = true := by simp; omega
          have hmz : ((m : Int) == 0) = false := by simp; omega
          have hlt2 : g % m < m := Nat.mod_lt _ (by omega)
          go_wp2
          go_quiet (fail)
          go_wp2
          go_roundw
          case rel => exact ⟨m, g % m, hm, by omega, rfl, by go_num, hx2.drewN _, by rw [Nat.gcd_comm, ← Nat.gcd_rec, Nat.gcd_comm]; exact Hgcd.out⟩
          case measure => simp [intOf]; omega
    · go_wp2
      go_ret
      exact ⟨by rw [show k = n from by omega]; rfl, hx⟩
theorem isLeast_any (n : Int) (w : World) (h : I64 n) :
    Calls Tryz.prog 175 #[.int .i64 n] w fun e w' => e = .returned (.bool (isLeastI n)) ∧ w = w' := by
  have h' := h
  obtain ⟨h1, h2⟩ := h'
  have H : Hid (((n.natAbs : Int) == 9223372036854775808) = isLeastI n) := by
    unfold Hid isLeastI
    by_cases e : n = -9223372036854775808
    · subst e; rfl
    · rw [decide_eq_false e, beq_eq_false_iff_ne]; omega
  go_enter Tryz.func175, Tryz.ntmps175
  go_wp2_with fail
  refine (magnitude_any _ _ h).mono ?_
  rintro e w' ⟨rfl, rfl⟩
  go_wp2
  go_ret
  exact ⟨ret_bool H.out, rfl⟩
set_option maxHeartbeats 400000 in
theorem implGcd_any (a b : Int) (w : World) (ha : I64 a) (hb : I64 b) :
    Calls Tryz.prog 256 #[.int .i64 a, .int .i64 b] w fun e w' => e = .returned (.int .i64 (gcdI a b)) ∧ Ext w w' := by
  have hx0 : Ext w (w.alloc (.cells #[.int .i64 a, .int .i64 b] 3)) := (Ext.refl w).alloc _
  have hrow : Row (w.alloc (.cells #[.int .i64 a, .int .i64 b] 3)) (some ⟨w.heap.size, 0, none⟩) (ints [a, b]) := by
    refine .inr ⟨w.heap.size, 0, rfl, fun j v hj => ?_⟩
    rw [(Blk.new w 3 #[.int .i64 a, .int .i64 b]).cell, Nat.zero_add]
    simpa [ints] using hj
  have Hg := Lib.hid (gcdTo_two a b)
  have HI : ∀ i, (hi : i < [a, b].length) → I64 [a, b][i] := by
    intro i hi
    match i, hi with
    | 0, _ => exact ha
    | 1, _ => exact hb
  have HII := Lib.hid HI
  clear HI
  go_enter Tryz.func256, Tryz.ntmps256
  go_wp2_with fail
  refine (gcdOfAll_any _ 2 _ [a, b] _ rfl hrow (by unfold maxLen; omega) HII.out).mono ?_
  rintro e w1 ⟨rfl, hx1⟩
  rw [Hg.out]
  have Hal := Lib.hid ha
  have Hbl := Lib.hid hb
  clear ha hb
  have Hw : Hid (wrap64 (Int.gcd a b : Int) = (Int.gcd a b : Int) ∨ isLeastI a = true ∨ isLeastI b = true) := by
    have h1 := Hal.out
    have h2 := Hbl.out
    by_cases e1 : isLeastI a = true
    · exact .inr (.inl e1)
    by_cases e2 : isLeastI b = true
    · exact .inr (.inr e2)
    refine .inl ?_
    refine IntWalk.wrap64_in _ ?_
    have : Int.gcd a b ≤ 9223372036854775807 := by
      unfold I64 at h1 h2
      simp only [isLeastI, decide_eq_true_eq] at e1 e2
      rcases Nat.eq_zero_or_pos a.natAbs with e | e
      · rw [Int.gcd, e, Nat.gcd_zero_left]; omega
      · exact Nat.le_trans (Nat.gcd_le_left _ e) (by omega)
    omega
  cases hla : isLeastI a with
  | true =>
    have H : Hid (gcdI a b = 0) := by unfold Hid gcdI; rw [if_pos (.inl hla)]
    have Hla := Lib.hid hla
    clear hla
    go_wp2_with fail
    refine (isLeast_any _ _ Hal.out).mono ?_
    rintro e w' ⟨rfl, rfl⟩
    rw [Hla.out]
    go_wp2
    go_ret
    exact ⟨ret_int H.out.symm, hx0.trans hx1⟩
  | false =>
    have Hla := Lib.hid hla
    clear hla
    go_wp2_with fail
    refine (isLeast_any _ _ Hal.out).mono ?_
    rintro e w' ⟨rfl, rfl⟩
    rw [Hla.out]
    go_wp2_with fail
    refine (isLeast_any _ _ Hbl.out).mono ?_
    rintro e w' ⟨rfl, rfl⟩
    cases hlb : isLeastI b with
    | true =>
      have H : Hid (gcdI a b = 0) := by unfold Hid gcdI; rw [if_pos (.inr hlb)]
      clear hlb
      go_wp2
      go_ret
      exact ⟨ret_int H.out.symm, hx0.trans hx1⟩
    | false =>
      have H : Hid (gcdI a b = (Int.gcd a b : Int)) := by unfold Hid gcdI; rw [if_neg (by rw [Hla.out, hlb]; simp)]
      have Hlb := Lib.hid hlb
      clear hlb
      go_wp2
      go_ret
      exact ⟨ret_int (by
        rw [H.out]
        rcases Hw.out with h | h | h
        · exact h
        · rw [Hla.out] at h; cases h
        · rw [Hlb.out] at h; cases h), hx0.trans hx1⟩
end Go.Proofs.YtfnmbpjkjajpcaaGreatDoor
