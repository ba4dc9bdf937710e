/- Plain models: what the shared chiller gives each room. -/
import Derived.Test.YtbbkahnfnjlajaaDoorPz
import Derived.Test.YtbbkahnfnjlajaaDoorOrd
namespace Go.Proofs.YtbbkahnfnjlajaaDoor
set_option linter.unusedVariables false
theorem askRank_bd {xs : List Ask} (h : asksOk xs = true) (i : Nat) (hi : i < xs.length) : 0 ≤ askRank xs i ∧ askRank xs i ≤ 100 := by
  have := asksOk_at h hi
  rw [askRank_at hi]
  omega
def ordAt (xs : List Ask) (k : Nat) : Nat := (ordOf (askRank xs) xs.length).getD k 0
theorem ord_length {xs : List Ask} (h : asksOk xs = true) : (ordOf (askRank xs) xs.length).length = xs.length := ord_len (fun i hi => askRank_bd h i hi)
theorem ordAt_lt {xs : List Ask} (h : asksOk xs = true) {k : Nat} (hk : k < xs.length) : ordAt xs k < xs.length := by
  have hl := ord_length h
  have hm : ordAt xs k ∈ ordOf (askRank xs) xs.length := by
    unfold ordAt
    rw [List.getD_eq_getElem?_getD, List.getElem?_eq_getElem (by omega), Option.getD_some]
    exact List.getElem_mem _
  exact (ord_mem (fun i hi => askRank_bd h i hi) _).1 hm
def moreOf (xs : List Ask) (left : Int) (i : Nat) : Int := if left < askWish xs i - askLow xs i then left else askWish xs i - askLow xs i
def allotN (xs : List Ask) (l0 : Int) : Nat → List Int × Int
  | 0 => (xs.map Ask.Low, l0)
  | k + 1 => ((allotN xs l0 k).1.set (ordAt xs k) (num (allotN xs l0 k).1 (ordAt xs k) + moreOf xs (allotN xs l0 k).2 (ordAt xs k)), (allotN xs l0 k).2 - moreOf xs (allotN xs l0 k).2 (ordAt xs k))
theorem more_bd {xs : List Ask} (h : asksOk xs = true) {i : Nat} (hi : i < xs.length) {left : Int} (h0 : 0 ≤ left) : 0 ≤ moreOf xs left i ∧ moreOf xs left i ≤ 2000 ∧ moreOf xs left i ≤ left := by
  have := asksOk_at h hi
  unfold moreOf
  rw [askWish_at hi, askLow_at hi]
  split <;> omega
theorem allotN_length (xs : List Ask) (l0 : Int) (k : Nat) : (allotN xs l0 k).1.length = xs.length := by
  induction k with
  | zero => simp [allotN]
  | succ k ih => simp only [allotN, List.length_set, ih]
theorem num_set_self {l : List Int} {i : Nat} {x : Int} (h : i < l.length) : num (l.set i x) i = x := by simp [num, List.getD_eq_getElem?_getD, h]
theorem num_set_ne {l : List Int} {i j : Nat} {x : Int} (h : i ≠ j) : num (l.set i x) j = num l j := by simp [num, List.getD_eq_getElem?_getD, h]
theorem allotN_bd {xs : List Ask} (h : asksOk xs = true) {l0 : Int} (h0 : 0 ≤ l0) (k : Nat) (hk : k ≤ xs.length) : 0 ≤ (allotN xs l0 k).2 ∧ (allotN xs l0 k).2 ≤ l0 ∧ ∀ j, j < xs.length → -1000 ≤ num (allotN xs l0 k).1 j ∧ num (allotN xs l0 k).1 j ≤ 1000 + 2000 * k := by
  induction k with
  | zero =>
    refine ⟨h0, Int.le_refl _, fun j hj => ?_⟩
    have := asksOk_at h hj
    simp only [allotN]
    rw [num_at (by simpa using hj)]
    simp only [List.getElem_map]
    omega
  | succ k ih =>
    obtain ⟨h1, h2, h3⟩ := ih (by omega)
    have hi := ordAt_lt h (k := k) (by omega)
    have hm := more_bd h hi h1
    refine ⟨by simp only [allotN]; omega, by simp only [allotN]; omega, fun j hj => ?_⟩
    simp only [allotN]
    have h4 := h3 j hj
    by_cases e : ordAt xs k = j
    · rw [← e] at h4 ⊢
      rw [num_set_self (by rw [allotN_length]; exact hi)]
      omega
    · rw [num_set_ne e]
      omega
def left0 (xs : List Ask) (total : Int) : Int := (if 1000000 < total then 1000000 else total) - leastCap xs
theorem leastCap_bd (xs : List Ask) : -6000 ≤ leastCap xs ∧ leastCap xs ≤ 6000 := by
  unfold leastCap
  split
  · rename_i h; exact sumLow_bd h (Nat.le_refl _)
  · omega
theorem left0_bd {xs : List Ask} {total : Int} (h : leastCap xs ≤ total) : 0 ≤ left0 xs total ∧ left0 xs total ≤ 1006000 := by
  have := leastCap_bd xs
  unfold left0
  split <;> omega
def allotOk (xs : List Ask) (total : Int) : Bool := asksOk xs && decide (leastCap xs ≤ total)
def allotOf (xs : List Ask) (total : Int) : List Int := if allotOk xs total = true then (allotN xs (left0 xs total) xs.length).1 else []
theorem allotOf_good {xs : List Ask} {total : Int} (h1 : asksOk xs = true) (h2 : leastCap xs ≤ total) : allotOk xs total = true ∧ allotOf xs total = (allotN xs (left0 xs total) xs.length).1 := by
  have : allotOk xs total = true := by unfold allotOk; simp [h1, h2]
  exact ⟨this, if_pos this⟩
theorem allotOf_bad {xs : List Ask} {total : Int} (h : ¬ (asksOk xs = true ∧ leastCap xs ≤ total)) : allotOk xs total = false ∧ allotOf xs total = [] := by
  have : allotOk xs total = false := by
    unfold allotOk
    rw [Bool.eq_false_iff]
    intro e
    simp at e
    exact h e
  exact ⟨this, if_neg (by rw [this]; simp)⟩
theorem allotOf_le (xs : List Ask) (total : Int) : (allotOf xs total).length ≤ xs.length := by
  unfold allotOf
  split
  · rw [allotN_length]; exact Nat.le_refl _
  · simp
def lowsTo (xs : List Ask) (k : Nat) : List Int := (xs.map Ask.Low).take k
theorem lowsTo_succ {xs : List Ask} {k : Nat} (h : k < xs.length) : lowsTo xs (k + 1) = lowsTo xs k ++ [xs[k].Low] := by
  unfold lowsTo
  rw [List.take_succ_eq_append_getElem (by simpa using h), List.getElem_map]
theorem lowsTo_len {xs : List Ask} {k : Nat} (h : k ≤ xs.length) : (lowsTo xs k).length = k := by
  unfold lowsTo
  rw [List.length_take, List.length_map]; omega
theorem lowsTo_all (xs : List Ask) : lowsTo xs xs.length = xs.map Ask.Low := by
  unfold lowsTo
  rw [List.take_of_length_le (by simp)]
end Go.Proofs.YtbbkahnfnjlajaaDoor
