/- Contracts of PriceAt of the program and of the reference. -/
import Derived.Test.YtccfkglcjmkgcaaT
namespace Go.Proofs.Ytccfkglcjmkgcaa
open Go.ChangeShapes Go.WideShapes Go.ChangeAt Go.RowKit

set_option maxHeartbeats 400000 in
theorem implPriceAt_any (A : Option Addr) (n c : Nat) (xs : List Int) (p : Int) (w : World) (hn : xs.length = n) (hr : Row w A (ints xs)) (hle : n ≤ maxLen) :
    Calls Try.prog 18 #[.agg #[.slice A n c], .int .i64 p] w fun e w' => e = .returned (.int .i64 (priceAt xs p)) ∧ Ext w w' := by
  have Hle := Lib.hid hle
  unfold maxLen at hle
  have hB := Ext.refl (w.alloc (.cells #[.slice A n c] 27))
  have hx : Ext w (w.alloc (.cells #[.slice A n c] 27)) := (Ext.refl w).alloc _
  have hr2 := hr.ext hx
  by_cases h0 : 0 ≤ p
  · obtain ⟨m, rfl⟩ := Int.eq_ofNat_of_zero_le h0
    by_cases hok : tariffOk xs = true
    · have hl := tariffOk_len hok
      obtain ⟨hl1, hl2⟩ := hl
      have hmod : m % n < n := Nat.mod_lt _ (by omega)
      have Hfin : Hid (priceAt xs (m : Int) = xs[m % n]'(by omega)) := by
        unfold Hid priceAt
        rw [if_pos ⟨h0, hok⟩, ← num_at (by omega), hn, ← Int.natCast_emod, Int.toNat_natCast]
      have Hok := Lib.hid hok
      clear hok
      go_enter Try.func18, Try.ntmps18
      go_wp2_with fail
      refine (implTariffOk_any _ _ _ xs _ hn hr2 Hle.out).mono ?_
      rintro e w1 ⟨rfl, hx1⟩
      rw [Hok.out]
      have hc := fun o => hx1.use.1 w.heap.size o (by simp <;> omega)
      obtain ⟨b, off, rfl, hb, hcell⟩ := (hr2.ext hx1).int (k := m % n) (by omega)
      have hb1 : ((m % n : Nat) : Int) < (n : Int) := by omega
      go_wp2
      go_quiet (fail)
      go_wp2
      go_ret
      exact ⟨ret_int Hfin.out.symm, (hx.trans hx1).drewN _⟩
    · have Hfin : Hid (priceAt xs (m : Int) = 0) := by
        unfold Hid priceAt
        rw [if_neg (fun h => hok h.2)]
      have Hok := Lib.hid hok
      clear hok
      go_enter Try.func18, Try.ntmps18
      go_wp2_with fail
      refine (implTariffOk_any _ _ _ xs _ hn hr2 Hle.out).mono ?_
      rintro e w1 ⟨rfl, hx1⟩
      rw [show tariffOk xs = false from by simpa using Hok.out]
      go_wp2
      go_ret
      exact ⟨ret_int Hfin.out.symm, hx.trans hx1⟩
  · have Hfin : Hid (priceAt xs p = 0) := by
      unfold Hid priceAt
      rw [if_neg (fun h => h0 h.1)]
    go_enter Try.func18, Try.ntmps18
    go_wp2
    go_ret
    exact ⟨ret_int Hfin.out.symm, hx⟩

set_option maxHeartbeats 400000 in
theorem specPriceAt_any (A : Option Addr) (n c : Nat) (xs : List Int) (p : Int) (w : World) (hn : xs.length = n) (hr : Row w A (ints xs)) (hle : n ≤ maxLen) :
    Calls Try.prog 16 #[.agg #[.slice A n c], .int .i64 p] w fun e w' => e = .returned (.int .i64 (priceAt xs p)) ∧ Ext w w' := by
  have Hle := Lib.hid hle
  unfold maxLen at hle
  have hB := Ext.refl (w.alloc (.cells #[.slice A n c] 27))
  have hx : Ext w (w.alloc (.cells #[.slice A n c] 27)) := (Ext.refl w).alloc _
  have hr2 := hr.ext hx
  by_cases h0 : 0 ≤ p
  · obtain ⟨m, rfl⟩ := Int.eq_ofNat_of_zero_le h0
    by_cases hok : tariffOk xs = true
    · have hl := tariffOk_len hok
      obtain ⟨hl1, hl2⟩ := hl
      have hmod : m % n < n := Nat.mod_lt _ (by omega)
      have Hfin : Hid (priceAt xs (m : Int) = xs[m % n]'(by omega)) := by
        unfold Hid priceAt
        rw [if_pos ⟨h0, hok⟩, ← num_at (by omega), hn, ← Int.natCast_emod, Int.toNat_natCast]
      have Hok := Lib.hid hok
      clear hok
      go_enter Try.func16, Try.ntmps16
      go_wp2_with fail
      refine (specTariffOk_any _ _ _ xs _ hn hr2 Hle.out).mono ?_
      rintro e w1 ⟨rfl, hx1⟩
      rw [Hok.out]
      have hc := fun o => hx1.use.1 w.heap.size o (by simp <;> omega)
      obtain ⟨b, off, rfl, hb, hcell⟩ := (hr2.ext hx1).int (k := m % n) (by omega)
      have hb1 : ((m % n : Nat) : Int) < (n : Int) := by omega
      go_wp2
      go_quiet (fail)
      go_wp2
      go_ret
      exact ⟨ret_int Hfin.out.symm, (hx.trans hx1).drewN _⟩
    · have Hfin : Hid (priceAt xs (m : Int) = 0) := by
        unfold Hid priceAt
        rw [if_neg (fun h => hok h.2)]
      have Hok := Lib.hid hok
      clear hok
      go_enter Try.func16, Try.ntmps16
      go_wp2_with fail
      refine (specTariffOk_any _ _ _ xs _ hn hr2 Hle.out).mono ?_
      rintro e w1 ⟨rfl, hx1⟩
      rw [show tariffOk xs = false from by simpa using Hok.out]
      go_wp2
      go_ret
      exact ⟨ret_int Hfin.out.symm, hx.trans hx1⟩
  · have Hfin : Hid (priceAt xs p = 0) := by
      unfold Hid priceAt
      rw [if_neg (fun h => h0 h.1)]
    go_enter Try.func16, Try.ntmps16
    go_wp2_with fail
    refine (specTariffOk_any _ _ _ xs _ hn hr2 Hle.out).mono ?_
    rintro e w1 ⟨rfl, hx1⟩
    cases htok : tariffOk xs with
    | true =>
      clear htok
      go_wp2
      go_ret
      exact ⟨ret_int Hfin.out.symm, hx.trans hx1⟩
    | false =>
      clear htok
      go_wp2
      go_ret
      exact ⟨ret_int Hfin.out.symm, hx.trans hx1⟩
end Go.Proofs.Ytccfkglcjmkgcaa
