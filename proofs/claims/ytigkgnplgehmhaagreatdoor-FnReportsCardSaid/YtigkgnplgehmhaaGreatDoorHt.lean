/- Contracts of texts of half planes: FormatHalf of the program and of the reference. -/
import Derived.Test.YtigkgnplgehmhaaGreatDoorHf
import Derived.Test.YtigkgnplgehmhaaGreatDoorJn
namespace Go.Proofs.YtigkgnplgehmhaaGreatDoor
open Go.ChangeShapes Go.WideShapes Go.ChangeAt Go.RowKit
set_option linter.unusedVariables false

def halfT (h : Half) : List UInt8 := if halfOk h = true then joinT [h.A, h.B, h.C] else []
theorem joinT_three (a b c : Int) : joinT [a, b, c] = numT a ++ [32] ++ numT b ++ [32] ++ numT c := by
  simp [joinT, Lib.join_cons, Lib.joinTail, List.append_assoc]
theorem halfT_len (h : Half) : (halfT h).length ≤ 195 := by
  unfold halfT
  split
  · rename_i hh
    obtain ⟨h1, h2, h3, h4, h5, h6⟩ : -50000 ≤ h.A ∧ h.A ≤ 50000 ∧ -50000 ≤ h.B ∧ h.B ≤ 50000 ∧ -100000000 ≤ h.C ∧ h.C ≤ 100000000 := by
      simp only [halfOk, inR, Bool.and_eq_true, decide_eq_true_eq] at hh
      omega
    have a := numT_len (n := h.A) (by omega) (by omega)
    have b := numT_len (n := h.B) (by omega) (by omega)
    have c := numT_len (n := h.C) (by omega) (by omega)
    rw [joinT_three]
    simp only [List.length_append, List.length_cons, List.length_nil]
    omega
  · simp


end Go.Proofs.YtigkgnplgehmhaaGreatDoor
