/- Plain models of the conservation rules. -/
import Derived.Test.YtbbkahnfnjlajaaDoorPz
namespace Go.Proofs.YtbbkahnfnjlajaaDoor

theorem seriesOk_len {xs : List Int} (h : seriesOk xs = true) : xs.length ≤ 60 := by
  simp only [seriesOk, Bool.and_eq_true, decide_eq_true_eq] at h; exact h.2
theorem seriesOk_at {xs : List Int} (h : seriesOk xs = true) {i : Nat} (hi : i < xs.length) : -1000 ≤ xs[i] ∧ xs[i] ≤ 1000 := by
  simp only [seriesOk, allMeasure, Bool.and_eq_true, List.all_eq_true] at h
  have := h.1 _ (List.getElem_mem hi)
  simpa [inR] using this
/-- the sum of m values from index a on -/
def sumWin (xs : List Int) (a m : Nat) : Int := sumN (fun i => num xs (a + i)) m
theorem sumWin_succ (xs : List Int) (a m : Nat) : sumWin xs a (m + 1) = sumWin xs a m + num xs (a + m) := rfl
theorem sumWin_zero (xs : List Int) (a : Nat) : sumWin xs a 0 = 0 := rfl
theorem sumWin_bd {xs : List Int} (h : seriesOk xs = true) {a m : Nat} (hm : a + m ≤ xs.length) : -60000 ≤ sumWin xs a m ∧ sumWin xs a m ≤ 60000 := by
  have hl := seriesOk_len h
  have := sumN_bd (f := fun i => num xs (a + i)) (lo := -1000) (hi := 1000) m fun i hi => by
    show -1000 ≤ num xs (a + i) ∧ num xs (a + i) ≤ 1000
    rw [num_at (by omega)]
    exact seriesOk_at h (by omega)
  unfold sumWin
  omega
def apart (a b : Int) : Int := if a - b < b - a then b - a else a - b
/-- the window of W values that ends with i -/
def winAt (xs : List Int) (W i : Nat) : Int := sumWin xs (i + 1 - W) W
def farAt (xs : List Int) (W : Nat) (D : Int) (i m : Nat) : Bool := decide (D < apart (winAt xs W i) (winAt xs W (W - 1 + m)))
def nearAt (xs : List Int) (W : Nat) (D : Int) (i m : Nat) : Bool := !farAt xs W D i m
def drifts (xs : List Int) (W : Nat) (D : Int) (i : Nat) : Bool := !allN (nearAt xs W D i) (i - (W - 1))
theorem drifts_early {xs : List Int} {W i : Nat} {D : Int} (h : i < W) : drifts xs W D i = false := by
  unfold drifts; rw [show i - (W - 1) = 0 from by omega]; rfl
theorem drifts_no {xs : List Int} {W i : Nat} {D : Int} (h : allN (nearAt xs W D i) (i - (W - 1)) = true) : drifts xs W D i = false := by
  unfold drifts; rw [h]; rfl
theorem drifts_yes {xs : List Int} {W i m : Nat} {D : Int} (hm : m < i - (W - 1)) (h : farAt xs W D i m = true) : drifts xs W D i = true := by
  unfold drifts; rw [allN_not hm (by unfold nearAt; rw [h]; rfl)]; rfl
theorem farAt_iff {xs : List Int} {W i m : Nat} {D : Int} : farAt xs W D i m = true ↔ D < apart (winAt xs W i) (winAt xs W (W - 1 + m)) := by simp [farAt]
theorem winAt_bd {xs : List Int} (h : seriesOk xs = true) {W i : Nat} (hW : W ≤ i + 1) (hi : i < xs.length) : -60000 ≤ winAt xs W i ∧ winAt xs W i ≤ 60000 := by
  unfold winAt; exact sumWin_bd h (by omega)
def stepAt (xs : List Int) (S : Int) (i : Nat) : Bool := decide (0 < i) && decide (S < apart (num xs i) (num xs (i - 1)))
def codeAt (u : Rule) (xs : List Int) (i : Nat) : Int :=
  if inR (num xs i) u.Low u.High = false then 1 else if stepAt xs u.Step i = true then 2 else if drifts xs u.Window.toNat u.Drift i = true then 3 else 0
def fineAt (u : Rule) (xs : List Int) (i : Nat) : Bool := decide (codeAt u xs i = 0)
theorem codeAt_1 {u : Rule} {xs : List Int} {i : Nat} (h : inR (num xs i) u.Low u.High = false) : codeAt u xs i = 1 := by unfold codeAt; rw [if_pos h]
theorem codeAt_2 {u : Rule} {xs : List Int} {i : Nat} (h : inR (num xs i) u.Low u.High = true) (h2 : stepAt xs u.Step i = true) : codeAt u xs i = 2 := by
  unfold codeAt; rw [if_neg (by rw [h]; simp), if_pos h2]
theorem codeAt_3 {u : Rule} {xs : List Int} {i : Nat} (h : inR (num xs i) u.Low u.High = true) (h2 : stepAt xs u.Step i = false) (h3 : drifts xs u.Window.toNat u.Drift i = true) : codeAt u xs i = 3 := by
  unfold codeAt; rw [if_neg (by rw [h]; simp), if_neg (by rw [h2]; simp), if_pos h3]
theorem codeAt_0 {u : Rule} {xs : List Int} {i : Nat} (h : inR (num xs i) u.Low u.High = true) (h2 : stepAt xs u.Step i = false) (h3 : drifts xs u.Window.toNat u.Drift i = false) : codeAt u xs i = 0 := by
  unfold codeAt; rw [if_neg (by rw [h]; simp), if_neg (by rw [h2]; simp), if_neg (by rw [h3]; simp)]
theorem stepAt_zero {xs : List Int} {S : Int} {i : Nat} (h : i = 0) : stepAt xs S i = false := by subst h; simp [stepAt]
theorem stepAt_iff {xs : List Int} {S : Int} {i : Nat} (h : 0 < i) (hi : i < xs.length) : stepAt xs S i = true ↔ S < apart (xs[i]'hi) (xs[i - 1]'(by omega)) := by
  simp [stepAt, h, num_at hi, num_at (show i - 1 < xs.length by omega)]
theorem ruleOk_bd {u : Rule} (h : ruleOk u = true) : 0 ≤ u.Step ∧ u.Step ≤ 2000 ∧ 1 ≤ u.Window ∧ u.Window ≤ 60 ∧ 0 ≤ u.Drift ∧ u.Drift ≤ 120000 := by
  simp [ruleOk, inR] at h
  omega
theorem tuple2 {a b a' b' : Int} (h1 : a = a') (h2 : b = b') : Prod.mk a b = (a', b') := by rw [h1, h2]
/-- the first index below n at which p fails -/
def firstN (p : Nat → Bool) : Nat → Option Nat
  | 0 => none
  | n + 1 => match firstN p n with
    | some k => some k
    | none => if p n = true then none else some n
theorem firstN_none {p : Nat → Bool} : ∀ {n : Nat}, allN p n = true → firstN p n = none := by
  intro n
  induction n with
  | zero => intro _; rfl
  | succ n ih =>
    intro h
    simp only [allN, Bool.and_eq_true] at h
    simp only [firstN, ih h.1, h.2, if_true]
theorem firstN_some {p : Nat → Bool} : ∀ {n k : Nat}, k < n → allN p k = true → p k = false → firstN p n = some k := by
  intro n
  induction n with
  | zero => intro k h; omega
  | succ n ih =>
    intro k hk ha hp
    by_cases e : k = n
    · subst e
      simp only [firstN, firstN_none ha, hp]
      rfl
    · simp only [firstN, ih (by omega) ha hp]
def firstBreach (u : Rule) (xs : List Int) : Int × Int :=
  if ruleOk u = true ∧ seriesOk xs = true then
    match firstN (fineAt u xs) xs.length with
    | some k => ((k : Int), codeAt u xs k)
    | none => (-1, 0)
  else (-1, 0)
theorem firstBreach_bad {u : Rule} {xs : List Int} (h : ¬ (ruleOk u = true ∧ seriesOk xs = true)) : firstBreach u xs = (-1, 0) := if_neg h
theorem firstBreach_none {u : Rule} {xs : List Int} (h1 : ruleOk u = true) (h2 : seriesOk xs = true) (h : allN (fineAt u xs) xs.length = true) : firstBreach u xs = (-1, 0) := by
  unfold firstBreach; rw [if_pos ⟨h1, h2⟩, firstN_none h]
theorem firstBreach_at {u : Rule} {xs : List Int} (h1 : ruleOk u = true) (h2 : seriesOk xs = true) {k : Nat} (hk : k < xs.length) (ha : allN (fineAt u xs) k = true) (hc : codeAt u xs k ≠ 0) : firstBreach u xs = ((k : Int), codeAt u xs k) := by
  unfold firstBreach; rw [if_pos ⟨h1, h2⟩, firstN_some hk ha (by simpa [fineAt] using hc)]
theorem firstBreach_bd (u : Rule) (xs : List Int) (hl : xs.length ≤ 1000000) : -1 ≤ (firstBreach u xs).1 ∧ (firstBreach u xs).1 ≤ 1000000 := by
  unfold firstBreach
  split
  · split
    · rename_i k hk
      have : ∀ n, firstN (fineAt u xs) n = some k → k < n := by
        intro n
        induction n with
        | zero => intro h; cases h
        | succ n ih =>
          intro h
          simp only [firstN] at h
          split at h
          · rename_i k' hk'
            cases h
            have := ih hk'
            omega
          · split at h
            · cases h
            · cases h; omega
      have := this _ hk
      simp only
      omega
    · simp
  · simp
def isCons (u : Rule) (xs : List Int) : Bool := decide ((firstBreach u xs).1 < 0) && ruleOk u && seriesOk xs
def longest (u : Rule) (xs : List Int) : Int := if ruleOk u = true ∧ seriesOk xs = true then (if (firstBreach u xs).1 < 0 then (xs.length : Int) else (firstBreach u xs).1) else -1
def keepsAll (us : List Rule) (xs : List Int) : Bool := us.all (fun u => isCons u xs) && seriesOk xs

def maxG (a b : Int) : Int := if a < b then b else a
def minG (a b : Int) : Int := if b < a then b else a
def joinStep (o u : Rule) : Rule := ⟨maxG o.Low u.Low, minG o.High u.High, minG o.Step u.Step, o.Window, if u.Window = o.Window then minG o.Drift u.Drift else o.Drift⟩
def ruleAt (xs : List Rule) (i : Nat) : Rule := xs.getD i ⟨0, 0, 0, 0, 0⟩
theorem ruleAt_at {xs : List Rule} {i : Nat} (h : i < xs.length) : ruleAt xs i = xs[i] := by simp [ruleAt, h]
def joinN (xs : List Rule) : Nat → Rule
  | 0 => ruleAt xs 0
  | k + 1 => joinStep (joinN xs k) (ruleAt xs k)
def joinRules (xs : List Rule) : Rule × Bool :=
  if xs.length ≠ 0 ∧ xs.all ruleOk = true ∧ ruleOk (joinN xs xs.length) = true then (joinN xs xs.length, true) else (⟨0, 0, 0, 0, 0⟩, false)
theorem joinRules_good {xs : List Rule} (h1 : xs.length ≠ 0) (h2 : xs.all ruleOk = true) (h3 : ruleOk (joinN xs xs.length) = true) : joinRules xs = (joinN xs xs.length, true) := if_pos ⟨h1, h2, h3⟩
theorem joinRules_bad {xs : List Rule} (h : ¬ (xs.length ≠ 0 ∧ xs.all ruleOk = true ∧ ruleOk (joinN xs xs.length) = true)) : joinRules xs = (⟨0, 0, 0, 0, 0⟩, false) := if_neg h
end Go.Proofs.YtbbkahnfnjlajaaDoor
