/- Contracts of texts of regions: FormatRegion of the program and of the reference. (written by tools/mkFr.py) -/
import Derived.Test.YtigkgnplgehmhaaGreatDoorRk
import Derived.Test.YtigkgnplgehmhaaGreatDoorHt
import Derived.Test.YtigkgnplgehmhaaGreatDoorSs
import Derived.Test.YtigkgnplgehmhaaGreatDoorIv
namespace Go.Proofs.YtigkgnplgehmhaaGreatDoor
open Go.ChangeShapes Go.WideShapes Go.ChangeAt Go.RowKit
set_option linter.unusedVariables false
set_option maxRecDepth 100000

def regionT (hs : List Half) : List UInt8 := if hs = [] then [118, 111, 105, 100] else if regOk hs = true then Lib.join (hs.map halfT) [59] else []
theorem regionT_void {hs : List Half} (h : hs = []) : regionT hs = [118, 111, 105, 100] := if_pos h
theorem regionT_bad {hs : List Half} (h : hs ≠ []) (hk : regOk hs = false) : regionT hs = [] := by unfold regionT; rw [if_neg h, if_neg (by rw [hk]; simp)]
theorem regionT_ok {hs : List Half} (h : hs ≠ []) (hk : regOk hs = true) : regionT hs = Lib.join (hs.map halfT) [59] := by unfold regionT; rw [if_neg h, if_pos hk]
def halvesTo (hs : List Half) (k : Nat) : List (List UInt8) := (hs.map halfT).take k
theorem halvesTo_succ {hs : List Half} {k : Nat} (h : k < hs.length) : halvesTo hs (k + 1) = halvesTo hs k ++ [halfT hs[k]] := by
  unfold halvesTo
  rw [List.take_succ_eq_append_getElem (by simpa using h)]
  simp
theorem halvesTo_len {hs : List Half} {k : Nat} (h : k ≤ hs.length) : (halvesTo hs k).length = k := by simp [halvesTo]; omega
theorem halvesTo_all (hs : List Half) : halvesTo hs hs.length = hs.map halfT := by unfold halvesTo; rw [List.take_of_length_le (by simp)]
theorem halvesTo_each (hs : List Half) (k : Nat) : ∀ t ∈ halvesTo hs k, t.length ≤ 195 := by
  intro t ht
  unfold halvesTo at ht
  obtain ⟨h, _, rfl⟩ := List.mem_map.1 (List.mem_of_mem_take ht)
  exact halfT_len h
theorem regionT_len (hs : List Half) : (regionT hs).length ≤ 7840 := by
  by_cases h0 : hs = []
  · rw [regionT_void h0]; decide
  · by_cases h1 : regOk hs = true
    · rw [regionT_ok h0 h1, ← halvesTo_all]
      have h1' := join_len_le (halvesTo hs hs.length) [59] 195 (halvesTo_each hs _)
      rw [halvesTo_len (Nat.le_refl _)] at h1'
      have h2 : hs.length * (195 + 1) ≤ 40 * (195 + 1) := Nat.mul_le_mul_right _ (regOk_len h1)
      simp only [List.length_cons, List.length_nil] at h1'
      omega
    · rw [regionT_bad h0 (by simpa using h1)]; simp

end Go.Proofs.YtigkgnplgehmhaaGreatDoor
