/- The plain law of the rules: a rule kept by a series is kept by its prefixes, and by stricter rules in the other direction. -/
import Derived.Test.YtbbkahnfnjlajaaDoorPlainR
import Derived.Test.YtbbkahnfnjlajaaDoorPlT
namespace Go.Proofs.YtbbkahnfnjlajaaDoor
set_option linter.unusedVariables false

theorem num_take {xs : List Int} {k i : Nat} (h : i < k) : num (xs.take k) i = num xs i := by simp [num, List.getD_eq_getElem?_getD, h]
theorem sumWin_take {xs : List Int} {k a m : Nat} (h : a + m ≤ k) : sumWin (xs.take k) a m = sumWin xs a m := sumN_same _ fun i hi => num_take (by omega)
theorem winAt_take {xs : List Int} {W k i : Nat} (hW : W ≤ i + 1) (hi : i < k) : winAt (xs.take k) W i = winAt xs W i := by unfold winAt; exact sumWin_take (by omega)
theorem allN_same {p q : Nat → Bool} : ∀ n, (∀ i, i < n → p i = q i) → allN p n = allN q n := by
  intro n
  induction n with
  | zero => intro _; rfl
  | succ n ih => intro h; simp only [allN]; rw [ih fun i hi => h i (by omega), h n (by omega)]
theorem drifts_take {xs : List Int} {W k i : Nat} {D : Int} (hi : i < k) : drifts (xs.take k) W D i = drifts xs W D i := by
  unfold drifts
  rw [allN_same (i - (W - 1)) fun m hm => ?_]
  unfold nearAt farAt
  rw [winAt_take (by omega) hi, winAt_take (by omega) (by omega)]
theorem codeAt_take {u : Rule} {xs : List Int} {k i : Nat} (hi : i < k) : codeAt u (xs.take k) i = codeAt u xs i := by
  unfold codeAt stepAt
  rw [num_take hi, num_take (show i - 1 < k by omega), drifts_take hi]
theorem fineAt_take {u : Rule} {xs : List Int} {k i : Nat} (hi : i < k) : fineAt u (xs.take k) i = fineAt u xs i := by unfold fineAt; rw [codeAt_take hi]
theorem firstN_cases (p : Nat → Bool) (n : Nat) : (allN p n = true ∧ firstN p n = none) ∨ ∃ k, k < n ∧ allN p k = true ∧ p k = false ∧ firstN p n = some k := by
  induction n with
  | zero => exact .inl ⟨rfl, rfl⟩
  | succ n ih =>
    rcases ih with ⟨h1, h2⟩ | ⟨k, h1, h2, h3, h4⟩
    · rcases Bool.eq_false_or_eq_true (p n) with e | e
      · exact .inl ⟨by simp only [allN, h1, e]; rfl, firstN_none (by simp only [allN, h1, e]; rfl)⟩
      · exact .inr ⟨n, by omega, h1, e, firstN_some (by omega) h1 e⟩
    · exact .inr ⟨k, by omega, h2, h3, firstN_some (by omega) h2 h3⟩
theorem allN_le {p : Nat → Bool} {n k : Nat} (h : allN p n = true) (hk : k ≤ n) : allN p k = true := by
  induction n with
  | zero =>
    obtain rfl : k = 0 := by omega
    exact h
  | succ n ih =>
    by_cases e : k = n + 1
    · subst e; exact h
    · simp only [allN, Bool.and_eq_true] at h
      exact ih h.1 (by omega)
/-- the two ways of a rule and a series -/
theorem breach_ways {u : Rule} {xs : List Int} (h1 : ruleOk u = true) (h2 : seriesOk xs = true) :
    (allN (fineAt u xs) xs.length = true ∧ firstBreach u xs = (-1, 0) ∧ longest u xs = (xs.length : Int) ∧ isCons u xs = true) ∨
    (∃ k, k < xs.length ∧ allN (fineAt u xs) k = true ∧ fineAt u xs k = false ∧ firstBreach u xs = ((k : Int), codeAt u xs k) ∧ codeAt u xs k ≠ 0 ∧ longest u xs = (k : Int) ∧ isCons u xs = false) := by
  rcases firstN_cases (fineAt u xs) xs.length with ⟨a, _⟩ | ⟨k, hk, a, b, _⟩
  · have e := firstBreach_none h1 h2 a
    refine .inl ⟨a, e, ?_, ?_⟩
    · unfold longest; rw [if_pos ⟨h1, h2⟩, e]; rfl
    · unfold isCons; rw [e, h1, h2]; rfl
  · have hc : codeAt u xs k ≠ 0 := by unfold fineAt at b; simpa using b
    have e := firstBreach_at h1 h2 hk a hc
    refine .inr ⟨k, hk, a, b, e, hc, ?_, ?_⟩
    · unfold longest; rw [if_pos ⟨h1, h2⟩, e]; simp only; rw [if_neg (by omega)]
    · unfold isCons; rw [e]; simp; omega
theorem series_take {xs : List Int} (h : seriesOk xs = true) (k : Nat) : seriesOk (xs.take k) = true := by
  simp only [seriesOk, allMeasure, Bool.and_eq_true, decide_eq_true_eq, List.all_eq_true] at h ⊢
  refine ⟨fun x hx => h.1 x (List.mem_of_mem_take hx), ?_⟩
  rw [List.length_take]; omega
theorem cons_take {u : Rule} {xs : List Int} (h1 : ruleOk u = true) (h2 : seriesOk xs = true) {k : Nat} (hk : k ≤ xs.length) : isCons u (xs.take k) = decide ((k : Int) ≤ longest u xs) := by
  have hl : (xs.take k).length = k := by rw [List.length_take]; omega
  have hA : allN (fineAt u (xs.take k)) k = allN (fineAt u xs) k := allN_same k fun i hi => fineAt_take hi
  have hT : allN (fineAt u xs) k = decide ((k : Int) ≤ longest u xs) := by
    rcases breach_ways h1 h2 with ⟨a, _, c, _⟩ | ⟨m, hm, a, b, _, _, c, _⟩
    · rw [c, allN_le a hk]; symm; simpa using hk
    · rw [c]
      by_cases e : k ≤ m
      · rw [allN_le a e]; symm; simpa using e
      · rw [allN_not (k := m) (by omega) b]; symm; simp; omega
  rcases breach_ways h1 (series_take h2 k) with ⟨a, _, _, d⟩ | ⟨m, hm, a, b, _, _, _, d⟩
  · rw [hl] at a
    rw [d, ← hT, ← hA, a]
  · rw [hl] at hm
    rw [d, ← hT, ← hA, allN_not hm b]
theorem code_bd (u : Rule) (xs : List Int) (k : Nat) : 0 ≤ codeAt u xs k ∧ codeAt u xs k ≤ 3 := by
  unfold codeAt
  repeat (first | omega | split)
theorem ruleOk_parts {u : Rule} (h : ruleOk u = true) : -1000 ≤ u.Low ∧ u.Low ≤ 1000 ∧ u.Low ≤ u.High ∧ u.High ≤ 1000 ∧ 0 ≤ u.Step ∧ u.Step ≤ 2000 ∧ 1 ≤ u.Window ∧ u.Window ≤ 60 ∧ 0 ≤ u.Drift ∧ u.Drift ≤ 120000 := by
  simp [ruleOk, inR] at h
  omega
theorem ruleOk_of {u : Rule} (h : -1000 ≤ u.Low ∧ u.Low ≤ 1000 ∧ u.Low ≤ u.High ∧ u.High ≤ 1000 ∧ 0 ≤ u.Step ∧ u.Step ≤ 2000 ∧ 1 ≤ u.Window ∧ u.Window ≤ 60 ∧ 0 ≤ u.Drift ∧ u.Drift ≤ 120000) : ruleOk u = true := by
  simp [ruleOk, inR]
  omega
theorem join_self (u : Rule) : joinStep u u = u := by
  unfold joinStep maxG minG
  cases u
  simp
theorem join_two (u v : Rule) : joinN [u, v] 2 = joinStep u v := by
  show joinStep (joinStep u u) v = _
  rw [join_self]
structure Tighter (j u : Rule) : Prop where
  low : u.Low ≤ j.Low
  high : j.High ≤ u.High
  step : j.Step ≤ u.Step
  drift : j.Drift ≤ u.Drift
  win : j.Window = u.Window
theorem join_tight (u v : Rule) : Tighter (joinStep u v) u := by
  refine ⟨?_, ?_, ?_, ?_, rfl⟩ <;> simp only [joinStep, maxG, minG] <;> repeat (first | omega | split)
theorem tight_strict {j u : Rule} (h : Tighter j u) (hj : ruleOk j = true) (hu : ruleOk u = true) : stricter j u = true := by
  unfold stricter
  rw [hj, hu]
  simp only [Bool.and_eq_true, decide_eq_true_eq, Bool.and_self, true_and]
  exact ⟨⟨⟨⟨h.win, h.low⟩, h.high⟩, h.step⟩, h.drift⟩
theorem tight_fine {j u : Rule} (h : Tighter j u) {xs : List Int} {i : Nat} (hi : fineAt j xs i = true) : fineAt u xs i = true := by
  unfold fineAt at hi ⊢
  rw [decide_eq_true_eq] at hi ⊢
  rcases Bool.eq_false_or_eq_true (inR (num xs i) j.Low j.High) with a | a
  rotate_left
  · rw [codeAt_1 a] at hi; omega
  rcases Bool.eq_false_or_eq_true (stepAt xs j.Step i) with b | b
  · rw [codeAt_2 a b] at hi; omega
  rcases Bool.eq_false_or_eq_true (drifts xs j.Window.toNat j.Drift i) with c | c
  · rw [codeAt_3 a b c] at hi; omega
  have h1 := h.low
  have h2 := h.high
  have h3 := h.step
  have h4 := h.drift
  refine codeAt_0 ?_ ?_ ?_
  · simp only [inR, Bool.and_eq_true, decide_eq_true_eq] at a ⊢
    omega
  · rcases Bool.eq_false_or_eq_true (stepAt xs u.Step i) with d | d
    · exfalso
      simp only [stepAt, Bool.and_eq_true, decide_eq_true_eq] at d
      have : stepAt xs j.Step i = true := by
        simp only [stepAt, Bool.and_eq_true, decide_eq_true_eq]
        omega
      rw [this] at b
      cases b
    · exact d
  · rw [← h.win]
    rcases Bool.eq_false_or_eq_true (drifts xs j.Window.toNat u.Drift i) with d | d
    · exfalso
      unfold drifts at c d
      have c' : allN (nearAt xs j.Window.toNat j.Drift i) (i - (j.Window.toNat - 1)) = true := by simpa using c
      have go : ∀ n, allN (nearAt xs j.Window.toNat j.Drift i) n = true → allN (nearAt xs j.Window.toNat u.Drift i) n = true := by
        intro n
        induction n with
        | zero => intro _; rfl
        | succ n ih =>
          intro hh
          simp only [allN, Bool.and_eq_true] at hh ⊢
          refine ⟨ih hh.1, ?_⟩
          have h3 := hh.2
          simp only [nearAt, farAt, Bool.not_eq_true', decide_eq_false_iff_not] at h3 ⊢
          omega
      rw [go _ c'] at d
      cases d
    · exact d
theorem tight_cons {j u : Rule} (h : Tighter j u) (hj : ruleOk j = true) (hu : ruleOk u = true) {xs : List Int} (hc : isCons j xs = true) : isCons u xs = true := by
  have h2 : seriesOk xs = true := by unfold isCons at hc; simp only [Bool.and_eq_true] at hc; exact hc.2
  have hcj : allN (fineAt j xs) xs.length = true := by
    rcases breach_ways hj h2 with ⟨a, _⟩ | ⟨m, _, _, _, _, _, _, d⟩
    · exact a
    · rw [d] at hc; cases hc
  have go : ∀ n, allN (fineAt j xs) n = true → allN (fineAt u xs) n = true := by
    intro n
    induction n with
    | zero => intro _; rfl
    | succ n ih => intro hh; simp only [allN, Bool.and_eq_true] at hh ⊢; exact ⟨ih hh.1, tight_fine h hh.2⟩
  rcases breach_ways hu h2 with ⟨_, _, _, d⟩ | ⟨m, hm, _, b, _⟩
  · exact d
  · have := go _ hcj
    rw [allN_not hm b] at this; cases this
/-- the joined rule of two -/
theorem join_ways {u v : Rule} (hu : ruleOk u = true) (hv : ruleOk v = true) :
    (joinRules [u, v] = (⟨0, 0, 0, 0, 0⟩, false) ∧ minG u.High v.High < maxG u.Low v.Low) ∨
    (∃ j, joinRules [u, v] = (j, true) ∧ stricter j u = true ∧ ruleOk j = true ∧ ∀ xs, isCons j xs = true → isCons u xs = true) := by
  have pu := ruleOk_parts hu
  have pv := ruleOk_parts hv
  have hall : [u, v].all ruleOk = true := by simp [hu, hv]
  by_cases hj : ruleOk (joinStep u v) = true
  · exact .inr ⟨joinStep u v, by rw [joinRules_good (by simp) hall (by rw [show [u, v].length = 2 from rfl, join_two]; exact hj), show [u, v].length = 2 from rfl, join_two], tight_strict (join_tight u v) hj hu, hj, fun xs => tight_cons (join_tight u v) hj hu⟩
  · refine .inl ⟨joinRules_bad (by rintro ⟨_, _, h3⟩; rw [show [u, v].length = 2 from rfl, join_two] at h3; exact hj h3), ?_⟩
    apply Int.not_le.1
    intro hle
    apply hj
    have e1 : (u.Low ≤ maxG u.Low v.Low ∧ maxG u.Low v.Low ≤ 1000) ∧ (minG u.High v.High ≤ 1000) ∧ (0 ≤ minG u.Step v.Step ∧ minG u.Step v.Step ≤ 2000) ∧ (0 ≤ minG u.Drift v.Drift ∧ minG u.Drift v.Drift ≤ 120000) := by
      unfold maxG minG
      refine ⟨⟨?_, ?_⟩, ?_, ⟨?_, ?_⟩, ⟨?_, ?_⟩⟩ <;> split <;> omega
    refine ruleOk_of ?_
    simp only [joinStep]
    refine ⟨by omega, by omega, by omega, by omega, by omega, by omega, by omega, by omega, ?_, ?_⟩ <;> split <;> omega
end Go.Proofs.YtbbkahnfnjlajaaDoor
