/- A slice of the call's own that stands nowhere is empty. -/
import Derived.Test.YtfnmbpjkjajpcaaGreatDoorFbMz
namespace Go.Proofs.YtfnmbpjkjajpcaaGreatDoor
open Go.ChangeShapes Go.WideShapes Go.ChangeAt Go.RowKit
set_option linter.unusedVariables false
theorem Mine.none {w : World} {lo hi s n m c : Nat} {e : TypeId} {A : Option Addr} {cs : List Value} (h : Mine w lo hi e s (.slice A n c) m cs) (hA : A = .none) : n = 0 ∧ c = 0 := by
  rcases h.1.2 with ⟨hv, h0⟩ | ⟨g, cap, cur, hv, _⟩
  · injection hv with h1 h2 h3; exact ⟨h2, h3⟩
  · injection hv with h1; rw [hA] at h1; cases h1
end Go.Proofs.YtfnmbpjkjajpcaaGreatDoor
