/- Boxes: the plain law. -/
import Derived.Test.YtnkkfjlnjhmahaaGeoM
namespace Go.Proofs.Ytnkkfjlnjhmahaa
set_option linter.unusedVariables false

def boxHs (x0 y0 x1 y1 : Int) : List Half := [⟨1, 0, x1⟩, ⟨0, 1, y1⟩, ⟨-1, 0, -x0⟩, ⟨0, -1, -y0⟩]
def boundB (a b : Int) : Bool := decide (-1000 ≤ a) && decide (a < b) && decide (b ≤ 1000)
def boxR (x0 y0 x1 y1 : Int) : List Half × Bool := if boundB x0 x1 = true ∧ boundB y0 y1 = true then (madeOf (boxHs x0 y0 x1 y1), true) else ([], false)
theorem half_one {a b c : Int} (ha : -1 ≤ a ∧ a ≤ 1) (hb : -1 ≤ b ∧ b ≤ 1) (hg : Int.gcd a b = 1) (hc : -1000 ≤ c ∧ c ≤ 1000) : halfOk ⟨a, b, c⟩ = true := by
  unfold halfOk inR
  simp only [Bool.and_eq_true, decide_eq_true_eq, Bool.or_eq_true]
  refine ⟨⟨⟨⟨⟨by omega, by omega⟩, by omega, by omega⟩, by omega, by omega⟩, ?_⟩, ?_⟩
  · rcases Int.lt_trichotomy a 0 with h | h | h
    · exact .inl (by omega)
    · right
      intro e
      subst h e
      exact absurd hg (by decide)
    · exact .inl (by omega)
  · rw [hg]; exact Nat.gcd_one_left _
theorem box_all {x0 y0 x1 y1 : Int} (h1 : boundB x0 x1 = true) (h2 : boundB y0 y1 = true) : (boxHs x0 y0 x1 y1).all halfOk = true := by
  unfold boundB at h1 h2
  simp only [Bool.and_eq_true, decide_eq_true_eq] at h1 h2
  unfold boxHs
  simp only [List.all_cons, List.all_nil, Bool.and_true, Bool.and_eq_true]
  exact ⟨half_one (by omega) (by omega) (by decide) (by omega), half_one (by omega) (by omega) (by decide) (by omega), half_one (by omega) (by omega) (by decide) (by omega), half_one (by omega) (by omega) (by decide) (by omega)⟩
theorem box_len {x0 y0 x1 y1 : Int} : (madeOf (boxHs x0 y0 x1 y1)).length ≤ 8 := made_len _
theorem box_from {x0 y0 x1 y1 : Int} (h1 : boundB x0 x1 = true) (h2 : boundB y0 y1 = true) : fromR (boxHs x0 y0 x1 y1) = (madeOf (boxHs x0 y0 x1 y1), true) := by
  unfold fromR
  rw [if_pos ⟨by simp [boxHs], box_all h1 h2⟩]
  exact fit_ok (by have := @box_len x0 y0 x1 y1; omega)
theorem boxR_ok (x0 y0 x1 y1 : Int) : regOk (boxR x0 y0 x1 y1).1 = true := by
  unfold boxR
  split
  · rename_i h
    have := fit_regOk (hs := boxHs x0 y0 x1 y1) (box_all h.1 h.2)
    rwa [fit_ok (by have := @box_len x0 y0 x1 y1; omega)] at this
  · rfl
end Go.Proofs.Ytnkkfjlnjhmahaa
