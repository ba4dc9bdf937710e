/- More plain facts: allotments. -/
import Derived.Test.YtlgkfjhbimffiaaDoorPlain
namespace Go.Proofs.YtlgkfjhbimffiaaDoor
theorem isAllot_parts {xs : List Ask} {total : Int} {ins : List Int} (h : isAllot xs total ins = true) :
    asksOk xs = true ∧ ins.length = xs.length ∧ allN (fitAt xs ins) ins.length = true ∧ sumN (num ins) ins.length ≤ total := by
  simpa [isAllot, and_assoc] using h
theorem isAllot_bd {xs : List Ask} {total : Int} {ins : List Int} (h : isAllot xs total ins = true) {k : Nat} (hk : k ≤ ins.length) :
    -6000 ≤ total ∧ -6000 ≤ sumN (num ins) k ∧ sumN (num ins) k ≤ 6000 := by
  obtain ⟨h1, h2, h3, h4⟩ := isAllot_parts h
  have a := sumIns_bd h1 h2 h3 (Nat.le_refl _) hk
  have b := sumIns_bd h1 h2 h3 (Nat.le_refl _) (Nat.le_refl _)
  omega
theorem shortOf_len (xs : List Ask) (ins : List Int) : (shortOf xs ins).length ≤ ins.length := by
  unfold shortOf
  split
  · exact keepN_length _ _
  · simp
def shortAt (xs : List Ask) (ins : List Int) (i : Nat) : Bool := decide (num ins i < askWish xs i)
theorem shortOf_pos {xs : List Ask} {ins : List Int} (h : asksOk xs = true) (hl : ins.length = xs.length) : shortOf xs ins = keepN (shortAt xs ins) ins.length := by
  unfold shortOf; rw [if_pos ⟨h, hl⟩]; rfl
end Go.Proofs.YtlgkfjhbimffiaaDoor
