/- Contracts of IsVoid of the program and of the reference. -/
import Derived.Test.YtfnmbpjkjajpcaaGreatDoorFbBz
namespace Go.Proofs.YtfnmbpjkjajpcaaGreatDoor
open Go.ChangeShapes Go.WideShapes Go.ChangeAt Go.RowKit
set_option linter.unusedVariables false
set_option maxRecDepth 100000
theorem regOk_len {hs : List Half} (h : regOk hs = true) : hs.length ≤ 40 := by
  unfold regOk at h
  cases hs with
  | nil => simp
  | cons x l =>
    simp only [List.isEmpty_cons, Bool.false_or, Bool.and_eq_true, decide_eq_true_eq] at h
    rw [← h.2]
    exact fromR_len _
theorem implIsVoid_any (A : Option Addr) (n c : Nat) (w : World) (hle : n ≤ maxLen) :
    Calls Tryz.prog 179 #[.agg #[.slice A n c]] w fun e w' => e = .returned (.bool (decide (n = 0))) ∧ Ext w w' := by
  unfold maxLen at hle
  by_cases h : n = 0
  · have hb : ((n : Int) == 0) = true := by simpa using h
    have H : Hid (decide (n = 0) = true) := decide_eq_true h
    clear h
    go_enter Tryz.func179, Tryz.ntmps179
    go_wp2
    go_ret
    exact ⟨ret_bool H.out.symm, (Ext.refl w).alloc _⟩
  · have hb : ((n : Int) == 0) = false := by rw [beq_eq_false_iff_ne]; omega
    have H : Hid (decide (n = 0) = false) := decide_eq_false h
    clear h
    go_enter Tryz.func179, Tryz.ntmps179
    go_wp2
    go_ret
    exact ⟨ret_bool H.out.symm, (Ext.refl w).alloc _⟩
end Go.Proofs.YtfnmbpjkjajpcaaGreatDoor
