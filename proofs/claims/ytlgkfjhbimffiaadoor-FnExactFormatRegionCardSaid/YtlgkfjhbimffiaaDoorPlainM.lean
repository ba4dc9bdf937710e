/- Plain facts: a fraction made of two numbers in another form; asks of spans. -/
import Derived.Test.YtlgkfjhbimffiaaDoorPlainN
namespace Go.Proofs.YtlgkfjhbimffiaaDoor
set_option linter.unusedVariables false
theorem isLeastI_iff (n : Int) : isLeastI n = true ↔ n = -9223372036854775808 := by simp [isLeastI]
theorem tdiv_abs {n g : Int} (hg : 0 < g) (hd : g ∣ n) : n.tdiv g = n / g := Int.tdiv_eq_ediv_of_dvd hd
/-- the parts of a fraction made of two numbers, its sign brought to the numerator -/
def ratioAlt (n d : Int) : Ratio :=
  if d = 0 ∨ isLeastI n = true ∨ isLeastI d = true then ⟨0, 0⟩
  else if 1000000000000000000 < n.natAbs / Int.gcd n d ∨ 1000000000000000 < d.natAbs / Int.gcd n d then ⟨0, 0⟩
  else ⟨if (decide (n < 0) != decide (d < 0)) = true then -((n.natAbs / Int.gcd n d : Nat) : Int) else ((n.natAbs / Int.gcd n d : Nat) : Int), ((d.natAbs / Int.gcd n d : Nat) : Int)⟩
theorem mk_abs {n d : Int} (hd : d ≠ 0) (hg : gcdI n d ≠ 0) :
    ratioMk n d (gcdS n d) = ⟨if (decide (n < 0) != decide (d < 0)) = true then -((n.natAbs / Int.gcd n d : Nat) : Int) else ((n.natAbs / Int.gcd n d : Nat) : Int), ((d.natAbs / Int.gcd n d : Nat) : Int)⟩ := by
  have hG : gcdI n d = (Int.gcd n d : Int) := by
    unfold gcdI at hg ⊢
    split at hg
    · exact absurd rfl hg
    · rename_i h; rw [if_neg h]
  have hp : 0 < Int.gcd n d := by
    rcases Nat.eq_zero_or_pos (Int.gcd n d) with h | h
    · rw [hG, h] at hg; exact absurd rfl hg
    · exact h
  obtain ⟨a, ha⟩ : ((Int.gcd n d : Int)) ∣ n := Int.gcd_dvd_left ..
  obtain ⟨b, hb⟩ : ((Int.gcd n d : Int)) ∣ d := Int.gcd_dvd_right ..
  generalize Int.gcd n d = g at *
  have e1 : n.natAbs / g = a.natAbs := by rw [ha, Int.natAbs_mul, Int.natAbs_natCast]; exact Nat.mul_div_cancel_left _ hp
  have e2 : d.natAbs / g = b.natAbs := by rw [hb, Int.natAbs_mul, Int.natAbs_natCast]; exact Nat.mul_div_cancel_left _ hp
  have hg0 : (g : Int) ≠ 0 := by omega
  have e3 : n.tdiv (g : Int) = a := by rw [ha]; exact Int.mul_tdiv_cancel_left _ hg0
  have e4 : d.tdiv (g : Int) = b := by rw [hb]; exact Int.mul_tdiv_cancel_left _ hg0
  have sa : n < 0 ↔ a < 0 := by
    constructor
    · intro h
      rcases Int.lt_or_le a 0 with h2 | h2
      · exact h2
      · have := Int.mul_nonneg (show (0 : Int) ≤ g by omega) h2; omega
    · intro h
      have := Int.mul_neg_of_pos_of_neg (show (0 : Int) < g by omega) h; omega
  have sb : d < 0 ↔ b < 0 := by
    constructor
    · intro h
      rcases Int.lt_or_le b 0 with h2 | h2
      · exact h2
      · have := Int.mul_nonneg (show (0 : Int) ≤ g by omega) h2; omega
    · intro h
      have := Int.mul_neg_of_pos_of_neg (show (0 : Int) < g by omega) h; omega
  have hb0 : b ≠ 0 := by intro h; rw [h] at hb; simp at hb; exact hd hb
  rw [e1, e2]
  unfold ratioMk gcdS
  rw [hG]
  by_cases h1 : d < 0
  · rw [if_pos h1, Int.tdiv_neg, Int.tdiv_neg, e3, e4]
    have hb1 : b < 0 := sb.1 h1
    by_cases h2 : n < 0
    · have := sa.1 h2
      simp only [h1, h2, decide_true, bne_self_eq_false, Bool.false_eq_true, if_false]
      congr 1 <;> omega
    · have h3 : ¬ a < 0 := fun h => h2 (sa.2 h)
      simp only [h1, h2, decide_true, decide_false, Bool.false_bne, if_true]
      congr 1 <;> omega
  · rw [if_neg h1, e3, e4]
    have hb1 : ¬ b < 0 := fun h => h1 (sb.2 h)
    by_cases h2 : n < 0
    · have := sa.1 h2
      simp only [h1, h2, decide_true, decide_false, Bool.true_bne, Bool.not_false, if_true]
      congr 1 <;> omega
    · have h3 : ¬ a < 0 := fun h => h2 (sa.2 h)
      simp only [h1, h2, decide_false, bne_self_eq_false, Bool.false_eq_true, if_false]
      congr 1 <;> omega
theorem ratioOk_pm {t b : Nat} {x : Int} (hx : x.natAbs = t) (hc : Nat.gcd t b = 1) (hb : 1 ≤ b) : ratioOk ⟨x, (b : Int)⟩ = (decide (b ≤ 1000000000000000) && decide (t ≤ 1000000000000000000)) := by
  have hg : Int.gcd x (b : Int) = 1 := by unfold Int.gcd; rw [hx, Int.natAbs_natCast]; exact hc
  rw [Bool.eq_iff_iff]
  simp only [ratioOk, inR, Bool.and_eq_true, decide_eq_true_eq, gcdI, isLeastI]
  constructor
  · rintro ⟨⟨⟨h1, h2⟩, h3, h4⟩, h5⟩; omega
  · rintro ⟨h1, h2⟩
    refine ⟨⟨⟨by omega, by omega⟩, by omega, by omega⟩, ?_⟩
    rw [if_neg (by omega), hg]; rfl
theorem coprime_div {n d : Int} (hp : 0 < Int.gcd n d) : Nat.gcd (n.natAbs / Int.gcd n d) (d.natAbs / Int.gcd n d) = 1 := by
  unfold Int.gcd at hp ⊢
  rw [Nat.gcd_div (Nat.gcd_dvd_left _ _) (Nat.gcd_dvd_right _ _)]
  exact Nat.div_self hp
theorem ratioOf_alt (n d : Int) : ratioOf n d = ratioAlt n d := by
  unfold ratioOf ratioAlt
  by_cases hd : d = 0
  · rw [if_pos (.inr hd), if_pos (.inl hd)]
  by_cases hl : isLeastI n = true ∨ isLeastI d = true
  · rw [if_pos (.inl (by unfold gcdI; rw [if_pos hl])), if_pos (.inr hl)]
  have hG : gcdI n d = (Int.gcd n d : Int) := by unfold gcdI; rw [if_neg hl]
  have hp : 0 < Int.gcd n d := Nat.pos_of_ne_zero (by intro h; rw [Int.gcd_eq_zero_iff] at h; exact hd h.2)
  have hg : gcdI n d ≠ 0 := by rw [hG]; omega
  rw [if_neg (show ¬ (gcdI n d = 0 ∨ d = 0) from fun h => h.elim hg hd), if_neg (show ¬ (d = 0 ∨ isLeastI n = true ∨ isLeastI d = true) from fun h => h.elim hd hl), mk_abs hd hg]
  have hco : Nat.gcd (n.natAbs / Int.gcd n d) (d.natAbs / Int.gcd n d) = 1 := coprime_div hp
  have hb1 : 1 ≤ d.natAbs / Int.gcd n d := by
    rw [Nat.one_le_div_iff hp]
    exact Nat.gcd_le_right _ (by omega)
  generalize n.natAbs / Int.gcd n d = t at *
  generalize d.natAbs / Int.gcd n d = b at *
  have hok : ratioOk ⟨if (decide (n < 0) != decide (d < 0)) = true then -(t : Int) else (t : Int), (b : Int)⟩ = (decide (b ≤ 1000000000000000) && decide (t ≤ 1000000000000000000)) := by
    refine ratioOk_pm ?_ hco hb1
    split <;> omega
  rw [hok]
  by_cases h1 : 1000000000000000000 < t ∨ 1000000000000000 < b
  · rw [if_pos h1, if_neg (by simp; omega)]
  · rw [if_neg h1, if_pos (by simp; omega)]
theorem ratioOf_good {n d : Int} (hn : -1000000000000000000 ≤ n ∧ n ≤ 1000000000000000000) (hd : 1 ≤ d) (hd2 : d ≤ 1000000000000000) :
    ratioOk (ratioOf n d) = true ∧ (ratioOf n d).N * d = n * (ratioOf n d).D ∧ (ratioOf n d).N.natAbs ≤ n.natAbs ∧ 1 ≤ (ratioOf n d).D ∧ (ratioOf n d).D ≤ d := by
  rw [ratioOf_alt]
  unfold ratioAlt
  have hl : ¬ (d = 0 ∨ isLeastI n = true ∨ isLeastI d = true) := by simp only [isLeastI, decide_eq_true_eq]; omega
  rw [if_neg hl]
  have hp : 0 < Int.gcd n d := Nat.pos_of_ne_zero (by intro h; rw [Int.gcd_eq_zero_iff] at h; omega)
  have hco : Nat.gcd (n.natAbs / Int.gcd n d) (d.natAbs / Int.gcd n d) = 1 := coprime_div hp
  have hb1 : 1 ≤ d.natAbs / Int.gcd n d := by
    rw [Nat.one_le_div_iff hp]
    exact Nat.gcd_le_right _ (by omega)
  have ht := Nat.div_le_self n.natAbs (Int.gcd n d)
  have hb := Nat.div_le_self d.natAbs (Int.gcd n d)
  have e1 : n.natAbs / Int.gcd n d * Int.gcd n d = n.natAbs := Nat.div_mul_cancel (Nat.gcd_dvd_left _ _)
  have e2 : d.natAbs / Int.gcd n d * Int.gcd n d = d.natAbs := Nat.div_mul_cancel (Nat.gcd_dvd_right _ _)
  generalize n.natAbs / Int.gcd n d = t at *
  generalize d.natAbs / Int.gcd n d = b at *
  generalize Int.gcd n d = g at *
  rw [if_neg (by omega)]
  refine ⟨?_, ?_, ?_, by simp only; omega, by simp only; omega⟩
  · rw [ratioOk_pm (t := t) (by split <;> omega) hco hb1]
    simp; omega
  · simp only
    have hd0 : ¬ d < 0 := by omega
    have e3 : (t : Int) * (g : Int) = (n.natAbs : Int) := by rw [← e1]; simp
    have e4 : (b : Int) * (g : Int) = d := by
      have : (b : Int) * (g : Int) = (d.natAbs : Int) := by rw [← e2]; simp
      omega
    by_cases h2 : n < 0
    · simp only [h2, hd0, decide_true, decide_false, Bool.true_bne, Bool.not_false, if_true]
      have : n = -((t : Int) * g) := by omega
      rw [this, ← e4]
      grind
    · simp only [h2, hd0, decide_false, bne_self_eq_false, Bool.false_eq_true, if_false]
      have : n = (t : Int) * g := by omega
      rw [this, ← e4]
      grind
  · simp only
    split <;> omega
theorem ratioOf_one {n : Int} (hn : -1000000000000000000 ≤ n ∧ n ≤ 1000000000000000000) : ratioOf n 1 = ⟨n, 1⟩ := by
  obtain ⟨h1, h2, h3, h4, h5⟩ := ratioOf_good (n := n) (d := 1) hn (by omega) (by omega)
  generalize ratioOf n 1 = r at *
  cases r
  simp only at h2 h4 h5
  have : (1 : Int) = _ := Int.le_antisymm h4 h5
  subst this
  simp at h2
  rw [h2]
/-- a drawn span is valid and small -/
theorem span_drawn {x d k : Int} (hx : -200 ≤ x ∧ x ≤ 199) (hd : 1 ≤ d ∧ d ≤ 12) (hk : 0 ≤ k ∧ k ≤ 59) :
    spanOk ⟨ratioOf x d, ratioOf ((ratioOf x d).N + k) (ratioOf x d).D⟩ = true ∧ -300 ≤ (ratioOf x d).N ∧ (ratioOf x d).N ≤ 300 ∧ 1 ≤ (ratioOf x d).D ∧ (ratioOf x d).D ≤ 12 ∧
      -300 ≤ (ratioOf ((ratioOf x d).N + k) (ratioOf x d).D).N ∧ (ratioOf ((ratioOf x d).N + k) (ratioOf x d).D).N ≤ 300 ∧ 1 ≤ (ratioOf ((ratioOf x d).N + k) (ratioOf x d).D).D ∧ (ratioOf ((ratioOf x d).N + k) (ratioOf x d).D).D ≤ 12 := by
  obtain ⟨h1, h2, h3, h4, h5⟩ := ratioOf_good (n := x) (d := d) (by omega) (by omega) (by omega)
  obtain ⟨g1, g2, g3, g4, g5⟩ := ratioOf_good (n := (ratioOf x d).N + k) (d := (ratioOf x d).D) (by omega) (by omega) (by omega)
  refine ⟨?_, by omega, by omega, by omega, by omega, by omega, by omega, by omega, by omega⟩
  simp only [spanOk, Bool.and_eq_true, decide_eq_true_eq]
  refine ⟨⟨h1, g1⟩, ?_⟩
  unfold ratioCmp
  rw [if_pos ⟨h1, g1⟩, g2]
  generalize ratioOf x d = r at *
  generalize ratioOf (r.N + k) r.D = s at *
  have : r.N * s.D ≤ (r.N + k) * s.D := Int.mul_le_mul_of_nonneg_right (by omega) (by omega)
  unfold cmpI
  split <;> (try split) <;> omega
end Go.Proofs.YtlgkfjhbimffiaaDoor
