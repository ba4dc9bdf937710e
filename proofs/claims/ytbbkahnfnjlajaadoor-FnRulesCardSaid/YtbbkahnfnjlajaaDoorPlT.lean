/- The plain law of the chiller: what is given is an allotment; who comes after one who is short gets no more than his least; one is short only if all is used. -/
import Derived.Test.YtbbkahnfnjlajaaDoorPlainL
namespace Go.Proofs.YtbbkahnfnjlajaaDoor
set_option linter.unusedVariables false

theorem sumN_same {f g : Nat → Int} : ∀ (n : Nat), (∀ i, i < n → f i = g i) → sumN f n = sumN g n := by
  intro n
  induction n with
  | zero => intro _; rfl
  | succ n ih => intro h; simp only [sumN]; rw [ih fun i hi => h i (by omega), h n (by omega)]
theorem sumN_le {f g : Nat → Int} : ∀ (n : Nat), (∀ i, i < n → f i ≤ g i) → sumN f n ≤ sumN g n := by
  intro n
  induction n with
  | zero => intro _; exact Int.le_refl _
  | succ n ih => intro h; simp only [sumN]; have := ih fun i hi => h i (by omega); have := h n (by omega); omega
theorem sumN_lt {f g : Nat → Int} : ∀ (n : Nat), (∀ i, i < n → f i ≤ g i) → (∃ i, i < n ∧ f i < g i) → sumN f n < sumN g n := by
  intro n
  induction n with
  | zero => rintro _ ⟨i, hi, _⟩; omega
  | succ n ih =>
    rintro h ⟨i, hi, hlt⟩
    simp only [sumN]
    have h1 := h n (by omega)
    by_cases e : i = n
    · subst e
      have := sumN_le (f := f) (g := g) i fun j hj => h j (by omega)
      omega
    · have := ih (fun j hj => h j (by omega)) ⟨i, by omega, hlt⟩
      omega
theorem sumN_set (x : List Int) (i : Nat) (v : Int) (hi : i < x.length) : ∀ n, sumN (num (x.set i v)) n = sumN (num x) n + (if i < n then v - num x i else 0) := by
  intro n
  induction n with
  | zero => simp [sumN]
  | succ n ih =>
    simp only [sumN]
    rw [ih]
    by_cases e : i = n
    · subst e
      rw [num_set_self hi, if_neg (by omega), if_pos (by omega)]
      omega
    · rw [num_set_ne e]
      by_cases h : i < n
      · rw [if_pos h, if_pos (by omega)]; omega
      · rw [if_neg h, if_neg (by omega)]; omega
theorem ordAt_get {xs : List Ask} (h : asksOk xs = true) {k : Nat} (hk : k < xs.length) : ordAt xs k = (ordOf (askRank xs) xs.length)[k]'(by rw [ord_length h]; exact hk) := by
  unfold ordAt
  rw [List.getD_eq_getElem?_getD, List.getElem?_eq_getElem (by rw [ord_length h]; exact hk), Option.getD_some]
theorem ordAt_lex {xs : List Ask} (h : asksOk xs = true) {a b : Nat} (hab : a < b) (hb : b < xs.length) : lex (askRank xs) (ordAt xs a) (ordAt xs b) := by
  rw [ordAt_get h (by omega), ordAt_get h hb]
  exact (List.pairwise_iff_getElem.1 (ord_pair (askRank xs) xs.length)) a b _ _ hab
theorem ordAt_inj {xs : List Ask} (h : asksOk xs = true) {a b : Nat} (ha : a < xs.length) (hb : b < xs.length) (e : ordAt xs a = ordAt xs b) : a = b := by
  rcases Nat.lt_trichotomy a b with hab | hab | hab
  · have := ordAt_lex h hab hb
    rw [e] at this
    exact absurd this (lex_irr _ _)
  · exact hab
  · have := ordAt_lex h hab ha
    rw [e] at this
    exact absurd this (lex_irr _ _)
theorem ordAt_all {xs : List Ask} (h : asksOk xs = true) {j : Nat} (hj : j < xs.length) : ∃ m, m < xs.length ∧ ordAt xs m = j := by
  have hm := (ord_mem (n := xs.length) (fun i hi => askRank_bd h i hi) j).2 hj
  obtain ⟨m, hm, e⟩ := List.getElem_of_mem hm
  have hl := ord_length h
  exact ⟨m, by omega, by rw [ordAt_get h (by omega)]; exact e⟩

structure AllotInv (xs : List Ask) (l0 : Int) (k : Nat) : Prop where
  rest : ∀ j, j < xs.length → (∀ m, m < k → ordAt xs m ≠ j) → num (allotN xs l0 k).1 j = askLow xs j
  fits : ∀ m, m < k → askLow xs (ordAt xs m) ≤ num (allotN xs l0 k).1 (ordAt xs m) ∧ num (allotN xs l0 k).1 (ordAt xs m) ≤ askWish xs (ordAt xs m)
  short : ∀ m, m < k → num (allotN xs l0 k).1 (ordAt xs m) < askWish xs (ordAt xs m) → (allotN xs l0 k).2 = 0
  after : ∀ m m', m < m' → m' < k → num (allotN xs l0 k).1 (ordAt xs m) < askWish xs (ordAt xs m) → num (allotN xs l0 k).1 (ordAt xs m') = askLow xs (ordAt xs m')
  sum : sumN (num (allotN xs l0 k).1) xs.length + (allotN xs l0 k).2 = sumN (askLow xs) xs.length + l0
theorem allotInv {xs : List Ask} (h : asksOk xs = true) {l0 : Int} (h0 : 0 ≤ l0) : ∀ k, k ≤ xs.length → AllotInv xs l0 k := by
  intro k
  induction k with
  | zero =>
    intro _
    have e : ∀ j, j < xs.length → num (allotN xs l0 0).1 j = askLow xs j := fun j hj => by
      show num (xs.map Ask.Low) j = _
      rw [num_at (by simpa using hj), askLow_at hj]
      simp
    exact ⟨fun j hj _ => e j hj, fun m hm => by omega, fun m hm => by omega, fun m m' _ hm => by omega, by rw [sumN_same _ e]; rfl⟩
  | succ k ih =>
    intro hk
    have I := ih (by omega)
    have hi := ordAt_lt h (k := k) (by omega)
    have hL : 0 ≤ (allotN xs l0 k).2 := (allotN_bd h h0 k (by omega)).1
    have hm := more_bd h hi hL
    have hne : ∀ m, m < k → ordAt xs m ≠ ordAt xs k := fun m hm e => by have := ordAt_inj h (by omega) (by omega) e; omega
    have hlow := I.rest (ordAt xs k) hi hne
    have hlen : ordAt xs k < (allotN xs l0 k).1.length := by rw [allotN_length]; exact hi
    have hmore : moreOf xs (allotN xs l0 k).2 (ordAt xs k) ≤ askWish xs (ordAt xs k) - askLow xs (ordAt xs k) ∧ (moreOf xs (allotN xs l0 k).2 (ordAt xs k) < askWish xs (ordAt xs k) - askLow xs (ordAt xs k) → moreOf xs (allotN xs l0 k).2 (ordAt xs k) = (allotN xs l0 k).2) := by
      unfold moreOf; split <;> omega
    have hsum := I.sum
    have hset := sumN_set (allotN xs l0 k).1 (ordAt xs k) (num (allotN xs l0 k).1 (ordAt xs k) + moreOf xs (allotN xs l0 k).2 (ordAt xs k)) hlen xs.length
    rw [if_pos hi] at hset
    have e1 : (allotN xs l0 (k + 1)).1 = (allotN xs l0 k).1.set (ordAt xs k) (num (allotN xs l0 k).1 (ordAt xs k) + moreOf xs (allotN xs l0 k).2 (ordAt xs k)) := rfl
    have e2 : (allotN xs l0 (k + 1)).2 = (allotN xs l0 k).2 - moreOf xs (allotN xs l0 k).2 (ordAt xs k) := rfl
    have hold : ∀ m, m < k → num (allotN xs l0 (k + 1)).1 (ordAt xs m) = num (allotN xs l0 k).1 (ordAt xs m) := fun m hm => by rw [e1, num_set_ne fun e => hne m hm e.symm]
    have hnew : num (allotN xs l0 (k + 1)).1 (ordAt xs k) = askLow xs (ordAt xs k) + moreOf xs (allotN xs l0 k).2 (ordAt xs k) := by rw [e1, num_set_self hlen, hlow]
    rw [← e1] at hset
    refine ⟨fun j hj hn => ?_, fun m hmk => ?_, fun m hmk => ?_, fun m m' hmm hmk => ?_, ?_⟩
    · rw [e1, num_set_ne (hn k (by omega))]
      exact I.rest j hj fun m hm => hn m (by omega)
    · by_cases e : m = k
      · subst e; rw [hnew]; omega
      · rw [hold m (by omega)]; exact I.fits m (by omega)
    · by_cases e : m = k
      · subst e; rw [hnew, e2]; intro hlt; have := hmore.2 (by omega); omega
      · rw [hold m (by omega), e2]; intro hlt; have := I.short m (by omega) hlt; omega
    · rw [hold m (by omega)]
      by_cases e : m' = k
      · subst e; rw [hnew]; intro hlt; have := I.short m (by omega) hlt; omega
      · rw [hold m' (by omega)]; exact I.after m m' hmm (by omega)
    · rw [hset, e2]; omega

/-- the facts about a made allotment -/
structure AllotGood (xs : List Ask) (total : Int) : Prop where
  len : (allotOf xs total).length = xs.length
  fits : ∀ i, i < xs.length → askLow xs i ≤ num (allotOf xs total) i ∧ num (allotOf xs total) i ≤ askWish xs i
  isA : isAllot xs total (allotOf xs total) = true
  after : ∀ m m', m < m' → m' < xs.length → num (allotOf xs total) (ordAt xs m) < askWish xs (ordAt xs m) → num (allotOf xs total) (ordAt xs m') = askLow xs (ordAt xs m')
  unused : 0 ≤ unusedOf xs total (allotOf xs total)
  short : ∀ i, i < xs.length → num (allotOf xs total) i < askWish xs i → unusedOf xs total (allotOf xs total) = 0
  full : (∀ i, i < xs.length → ¬ num (allotOf xs total) i < askWish xs i) ↔ fullCap xs ≤ total
theorem allot_good {xs : List Ask} {total : Int} (h : asksOk xs = true) (hc : leastCap xs ≤ total) (ht : total ≤ 1000000) : AllotGood xs total := by
  obtain ⟨g1, g2⟩ := allotOf_good h hc
  have hl0 := (left0_bd hc).1
  have el0 : left0 xs total = total - leastCap xs := by unfold left0; rw [if_neg (by omega)]
  have ecap : leastCap xs = sumN (askLow xs) xs.length := by unfold leastCap; rw [if_pos h]
  have efull : fullCap xs = sumN (askWish xs) xs.length := by unfold fullCap; rw [if_pos h]
  have hL : 0 ≤ (allotN xs (left0 xs total) xs.length).2 := (allotN_bd h hl0 xs.length (Nat.le_refl _)).1
  have hlen := allotN_length xs (left0 xs total) xs.length
  have hsum := (allotInv h hl0 xs.length (Nat.le_refl _)).sum
  rw [← g2] at hlen hsum
  obtain ⟨r, hr⟩ : ∃ r, (allotN xs (left0 xs total) xs.length).2 = r := ⟨_, rfl⟩
  have hfit0 : ∀ m, m < xs.length → askLow xs (ordAt xs m) ≤ num (allotOf xs total) (ordAt xs m) ∧ num (allotOf xs total) (ordAt xs m) ≤ askWish xs (ordAt xs m) := by rw [g2]; exact (allotInv h hl0 xs.length (Nat.le_refl _)).fits
  have hshort0 : ∀ m, m < xs.length → num (allotOf xs total) (ordAt xs m) < askWish xs (ordAt xs m) → r = 0 := by rw [g2, ← hr]; exact (allotInv h hl0 xs.length (Nat.le_refl _)).short
  have hafter0 : ∀ m m', m < m' → m' < xs.length → num (allotOf xs total) (ordAt xs m) < askWish xs (ordAt xs m) → num (allotOf xs total) (ordAt xs m') = askLow xs (ordAt xs m') := by rw [g2]; exact (allotInv h hl0 xs.length (Nat.le_refl _)).after
  have hsum0 : sumN (num (allotOf xs total)) xs.length + r = total := by rw [← hr]; rw [ecap] at el0; omega
  rw [hr] at hL
  have hfit : ∀ i, i < xs.length → askLow xs i ≤ num (allotOf xs total) i ∧ num (allotOf xs total) i ≤ askWish xs i := fun i hi => by
    obtain ⟨m, hm, rfl⟩ := ordAt_all h hi
    exact hfit0 m hm
  have hshort : ∀ i, i < xs.length → num (allotOf xs total) i < askWish xs i → r = 0 := fun i hi => by
    obtain ⟨m, hm, rfl⟩ := ordAt_all h hi
    exact hshort0 m hm
  have hA : isAllot xs total (allotOf xs total) = true := by
    unfold isAllot
    simp only [Bool.and_eq_true, decide_eq_true_eq]
    refine ⟨⟨⟨h, hlen⟩, ?_⟩, by rw [hlen]; omega⟩
    rw [hlen]
    have key : ∀ n, n ≤ xs.length → allN (fitAt xs (allotOf xs total)) n = true := by
      intro n
      induction n with
      | zero => intro _; rfl
      | succ n ih =>
        intro hn
        simp only [allN, Bool.and_eq_true]
        refine ⟨ih (by omega), ?_⟩
        have h1 := hfit n (by omega)
        have h2 := asksOk_at h (i := n) (by omega)
        rw [askLow_at (by omega), askWish_at (by omega)] at h1
        unfold fitAt inR
        rw [askLow_at (by omega), askHigh_at (by omega)]
        simp only [Bool.and_eq_true, decide_eq_true_eq]
        omega
    exact key _ (Nat.le_refl _)
  have hU : unusedOf xs total (allotOf xs total) = r := by
    unfold unusedOf
    rw [if_neg (by rw [hA]; simp; omega), hlen]
    omega
  refine ⟨hlen, hfit, hA, hafter0, by omega, fun i hi hlt => by rw [hU]; exact hshort i hi hlt, ?_⟩
  rw [efull]
  constructor
  · intro hno
    have e := sumN_same (f := num (allotOf xs total)) (g := askWish xs) xs.length fun i hi => by have := hfit i hi; have := hno i hi; omega
    omega
  · intro hle i hi hlt
    have h1 := hshort i hi hlt
    have h2 := sumN_lt (f := num (allotOf xs total)) (g := askWish xs) xs.length (fun j hj => (hfit j hj).2) ⟨i, hi, hlt⟩
    omega
end Go.Proofs.YtbbkahnfnjlajaaDoor
