/- A slice of the call's own that stands nowhere is empty. -/
import Derived.Test.YtbbdipfioopfmaaGreatMRegion
namespace Go.Proofs.YtbbdipfioopfmaaGreat
open Go.ChangeShapes Go.WideShapes Go.ChangeAt Go.RowKit
set_option linter.unusedVariables false
theorem Mine.none {w : World} {lo hi s n m c : Nat} {e : TypeId} {A : Option Addr} {cs : List Value} (h : Mine w lo hi e s (.slice A n c) m cs) (hA : A = .none) : n = 0 ∧ c = 0 := by
  rcases h.1.2 with ⟨hv, h0⟩ | ⟨g, cap, cur, hv, _⟩
  · injection hv with h1 h2 h3; exact ⟨h2, h3⟩
  · injection hv with h1; rw [hA] at h1; cases h1
theorem AggAt.rows_of {w : World} {lo hi n c : Nat} {r : List Half} {A : Option Addr} (h : AggAt w (regionF r) [.slice A n c] lo hi) : Row w A (ints (flat Half.ints r)) := by
  obtain ⟨_, _, _, _, hv, q, _⟩ := h
  injection hv with h1
  injection h1 with h2 h3 h4
  subst h2; subst h3; subst h4
  exact q.row
theorem regionAt_none {w : World} {lo hi n c : Nat} {r : List Half} {A : Option Addr} (h : AggAt w (regionF r) [.slice A n c] lo hi) (hA : A = .none) : n = 0 ∧ c = 0 := by
  obtain ⟨_, _, _, _, hv, q, _⟩ := h
  injection hv with h1
  injection h1 with h2 h3 h4
  subst h2; subst h3; subst h4
  exact q.none hA
end Go.Proofs.YtbbdipfioopfmaaGreat
