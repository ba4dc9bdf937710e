/- Plain models: fractions made, the lesser and the greater of two, the cheapest input of a span. -/
import Derived.Test.YtlgkfjhbimffiaaDoorPlainS
namespace Go.Proofs.YtlgkfjhbimffiaaDoor
set_option linter.unusedVariables false
def gcdS (n d : Int) : Int := if d < 0 then -gcdI n d else gcdI n d
def ratioMk (n d g : Int) : Ratio := ⟨n.tdiv g, d.tdiv g⟩
def ratioOf (n d : Int) : Ratio := if gcdI n d = 0 ∨ d = 0 then ⟨0, 0⟩ else if ratioOk (ratioMk n d (gcdS n d)) = true then ratioMk n d (gcdS n d) else ⟨0, 0⟩
def ratioMin (r s : Ratio) : Ratio := if (ratioOk r && ratioOk s) = true then (if ratioCmp r s ≤ 0 then r else s) else ⟨0, 0⟩
def ratioMax (r s : Ratio) : Ratio := if (ratioOk r && ratioOk s) = true then (if ratioCmp r s ≥ 0 then r else s) else ⟨0, 0⟩
def cheapest (w : Span) : Ratio := if spanOk w = true then ratioMin w.High (ratioMax w.Low (ratioOf 0 1)) else ⟨0, 0⟩

theorem tdiv_range_abs {a b : Int} (h1 : -9223372036854775807 ≤ a) (h2 : a ≤ 9223372036854775807) : -9223372036854775807 ≤ a.tdiv b ∧ a.tdiv b ≤ 9223372036854775807 := by
  have h := Int.natAbs_tdiv_le_natAbs a b
  omega
theorem ratioOf_01 : ratioOf 0 1 = ⟨0, 1⟩ := by decide
theorem ratioOk_01 : ratioOk ⟨0, 1⟩ = true := by decide
theorem ratioOk_gcd {r : Ratio} (h : ratioOk r = true) : Int.gcd r.N r.D = 1 := by
  simp only [ratioOk, Bool.and_eq_true, decide_eq_true_eq] at h
  have h2 := h.2
  unfold gcdI at h2
  split at h2
  · cases h2
  · omega
theorem ratio_eq {r s : Ratio} (hr : ratioOk r = true) (hs : ratioOk s = true) (h : r.N * s.D = s.N * r.D) : r = s := by
  have g1 := ratioOk_gcd hr
  have g2 := ratioOk_gcd hs
  obtain ⟨b1, _⟩ := ratioOk_bd hr
  obtain ⟨b2, _⟩ := ratioOk_bd hs
  have e : r.N.natAbs * s.D.natAbs = s.N.natAbs * r.D.natAbs := by rw [← Int.natAbs_mul, ← Int.natAbs_mul, h]
  have d1 : r.D.natAbs ∣ s.D.natAbs := by
    refine Nat.Coprime.dvd_of_dvd_mul_left (k := r.D.natAbs) (m := r.N.natAbs) ?_ ⟨s.N.natAbs, by rw [e, Nat.mul_comm]⟩
    rw [Nat.coprime_comm]; exact g1
  have d2 : s.D.natAbs ∣ r.D.natAbs := by
    refine Nat.Coprime.dvd_of_dvd_mul_left (k := s.D.natAbs) (m := s.N.natAbs) ?_ ⟨r.N.natAbs, by rw [← e, Nat.mul_comm]⟩
    rw [Nat.coprime_comm]; exact g2
  have e2 := Nat.dvd_antisymm d1 d2
  have e3 : r.D = s.D := by omega
  rw [e3] at h
  have e4 := Int.eq_of_mul_eq_mul_right (by omega : s.D ≠ 0) h
  cases r; cases s; simp_all
theorem ratio_cmp0 {r s : Ratio} (hr : ratioOk r = true) (hs : ratioOk s = true) (h : ratioCmp r s ≤ 0) (h2 : ratioCmp s r ≤ 0) : r = s := by
  refine ratio_eq hr hs ?_
  unfold ratioCmp at h h2
  rw [if_pos ⟨hr, hs⟩] at h
  rw [if_pos ⟨hs, hr⟩] at h2
  unfold cmpI at h h2
  split at h <;> split at h2 <;> (try split at h) <;> (try split at h2) <;> omega
theorem ratio_zero {r : Ratio} (hr : ratioOk r = true) (h : r.N = 0) : r = ⟨0, 1⟩ := by
  have := ratioOk_bd hr
  have g := ratioOk_gcd hr
  rw [h, Int.gcd_zero_left] at g
  cases r
  simp_all
  omega
theorem ratioCmp_0 {r : Ratio} (hr : ratioOk r = true) : ratioCmp r ⟨0, 1⟩ = cmpI r.N 0 := by
  unfold ratioCmp
  rw [if_pos ⟨hr, ratioOk_01⟩]
  simp
theorem cheapest_ok {w : Span} (h : spanOk w = true) : cheapest w = if 0 < w.Low.N then w.Low else if w.High.N < 0 then w.High else ⟨0, 1⟩ := by
  have h0 := h
  simp only [spanOk, Bool.and_eq_true, decide_eq_true_eq] at h
  obtain ⟨⟨h1, h2⟩, h3⟩ := h
  unfold cheapest
  rw [if_pos h0, ratioOf_01]
  have hmax : ratioMax w.Low ⟨0, 1⟩ = if 0 < w.Low.N then w.Low else ⟨0, 1⟩ := by
    unfold ratioMax
    rw [h1, ratioOk_01, ratioCmp_0 h1]
    simp only [Bool.and_self, if_true]
    rcases Int.lt_trichotomy w.Low.N 0 with e | e | e
    · rw [cmpI_lt e, if_neg (by omega), if_neg (by omega)]
    · rw [cmpI_eq e, ratio_zero h1 e]; simp
    · rw [cmpI_gt e, if_pos (by omega), if_pos e]
  rw [hmax]
  split
  · unfold ratioMin
    rw [h2, h1]
    simp only [Bool.and_self, if_true]
    split
    · rename_i h4
      exact ratio_cmp0 h2 h1 h4 h3
    · rfl
  · unfold ratioMin
    rw [h2, ratioOk_01, ratioCmp_0 h2]
    simp only [Bool.and_self, if_true]
    rcases Int.lt_trichotomy w.High.N 0 with e | e | e
    · rw [cmpI_lt e, if_pos (by omega), if_pos e]
    · rw [cmpI_eq e, ratio_zero h2 e]; simp
    · rw [cmpI_gt e, if_neg (by omega), if_neg (by omega)]
end Go.Proofs.YtlgkfjhbimffiaaDoor
