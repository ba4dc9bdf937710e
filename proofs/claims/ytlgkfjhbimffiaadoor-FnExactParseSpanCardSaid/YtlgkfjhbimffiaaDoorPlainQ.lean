/- Plain models of fractions. -/
import Derived.Test.YtlgkfjhbimffiaaDoorPlain
import Derived.WalkKit
namespace Go.Proofs.YtlgkfjhbimffiaaDoor
set_option linter.unusedVariables false
/-- the greatest common divisor of the magnitudes -/
def gcdAll : List Int → Nat
  | [] => 0
  | x :: xs => Nat.gcd x.natAbs (gcdAll xs)
def gcdTo (xs : List Int) : Nat → Nat
  | 0 => 0
  | k + 1 => Nat.gcd (gcdTo xs k) (num xs k).natAbs
theorem gcdTo_bd {xs : List Int} (h : ∀ i, (hi : i < xs.length) → (xs[i]).natAbs ≤ 9223372036854775808) : ∀ k, k ≤ xs.length → gcdTo xs k ≤ 9223372036854775808 := by
  intro k
  induction k with
  | zero => intro _; simp [gcdTo]
  | succ k ih =>
    intro hk
    have h1 := ih (by omega)
    have h2 := h k (by omega)
    simp only [gcdTo]
    rw [num_at (by omega)]
    rcases Nat.eq_zero_or_pos (xs[k]).natAbs with e | e
    · rw [e, Nat.gcd_zero_right]; exact h1
    · exact Nat.le_trans (Nat.gcd_le_right _ e) h2
theorem gcdTo_two (a b : Int) : gcdTo [a, b] 2 = Int.gcd a b := by
  simp [gcdTo, num, Int.gcd]
theorem gcdTo_three (a b c : Int) : gcdTo [a, b, c] 3 = Nat.gcd (Int.gcd a b) c.natAbs := by
  simp [gcdTo, num, Int.gcd]
theorem wrapU (n : Int) : Go.IntKind.u64.wrap n = n % 18446744073709551616 := by
  simp [Go.IntKind.wrap, Go.IntKind.signed, Go.IntKind.bits]
theorem wrapS (n : Int) : Go.IntKind.i64.wrap n = (n + 9223372036854775808) % 18446744073709551616 - 9223372036854775808 := by
  rw [Go.IntKind.wrap_i64]
def isLeastI (n : Int) : Bool := decide (n = -9223372036854775808)
def gcdI (a b : Int) : Int := if isLeastI a = true ∨ isLeastI b = true then 0 else (Int.gcd a b : Int)

def ratioOk (r : Ratio) : Bool := inR r.D 1 1000000000000000 && inR r.N (-1000000000000000000) 1000000000000000000 && decide (gcdI r.N r.D = 1)
theorem ratioOk_bd {r : Ratio} (h : ratioOk r = true) : 1 ≤ r.D ∧ r.D ≤ 1000000000000000 ∧ -1000000000000000000 ≤ r.N ∧ r.N ≤ 1000000000000000000 := by
  simp only [ratioOk, inR, Bool.and_eq_true, decide_eq_true_eq] at h
  omega
def floorI (a b : Int) : Int := a / b
def cmpI (x y : Int) : Int := if x < y then -1 else if y < x then 1 else 0
theorem cmpI_lt {x y : Int} (h : x < y) : cmpI x y = -1 := if_pos h
theorem cmpI_gt {x y : Int} (h : y < x) : cmpI x y = 1 := by unfold cmpI; rw [if_neg (by omega), if_pos h]
theorem cmpI_eq {x y : Int} (h : x = y) : cmpI x y = 0 := by unfold cmpI; rw [if_neg (by omega), if_neg (by omega)]
theorem cmpI_neg (x y : Int) : cmpI y x = -cmpI x y := by unfold cmpI; split <;> split <;> omega
def ratioCmp (r s : Ratio) : Int := if ratioOk r = true ∧ ratioOk s = true then cmpI (r.N * s.D) (s.N * r.D) else 0
def ratioFloor (r : Ratio) : Int := if ratioOk r = true then floorI r.N r.D else 0
def ratioCeil (r : Ratio) : Int := if ratioOk r = true then -floorI (-r.N) r.D else 0
structure Span where
  Low : Ratio
  High : Ratio
  deriving DecidableEq
def spanOk (w : Span) : Bool := ratioOk w.Low && ratioOk w.High && decide (ratioCmp w.Low w.High ≤ 0)
/-- Go's division and remainder, made a floor -/
theorem floor_of_tdiv {a b : Int} (hb : 0 < b) : (if a.tmod b < 0 then a.tdiv b - 1 else a.tdiv b) = floorI a b := by
  unfold floorI
  have h1 := Int.tdiv_mul_add_tmod a b
  have h2 := Int.emod_add_mul_ediv a b
  have h3 := Int.emod_nonneg a (show b ≠ 0 by omega)
  have h4 := Int.emod_lt_of_pos a hb
  have h5 : a.tmod b < b := Int.tmod_lt_of_pos a hb
  have h6 : -b < a.tmod b := by
    have := Int.tmod_lt_of_pos (-a) hb
    rw [Int.neg_tmod] at this
    omega
  have key : ∀ q : Int, b * q < b → -b < b * q → q = 0 := by
    intro q h7 h8
    have h9 : b * q < b * 1 := by omega
    have h10 : b * (-1) < b * q := by omega
    have := Int.lt_of_mul_lt_mul_left h9 (by omega)
    have := Int.lt_of_mul_lt_mul_left h10 (by omega)
    omega
  split
  · rename_i hneg
    have e : b * (a.tdiv b - 1 - a / b) = a % b - a.tmod b - b := by
      rw [Int.mul_sub, Int.mul_sub, Int.mul_comm b (a.tdiv b)]; omega
    have := key _ (by rw [e]; omega) (by rw [e]; omega)
    omega
  · have e : b * (a.tdiv b - a / b) = a % b - a.tmod b := by
      rw [Int.mul_sub, Int.mul_comm b (a.tdiv b)]; omega
    have := key _ (by rw [e]; omega) (by rw [e]; omega)
    omega
theorem floorI_bd {a b : Int} (hb : 0 < b) : floorI a b * b ≤ a ∧ a < floorI a b * b + b := by
  unfold floorI
  have h2 := Int.emod_add_mul_ediv a b
  have h3 := Int.emod_nonneg a (show b ≠ 0 by omega)
  have h4 := Int.emod_lt_of_pos a hb
  rw [Int.mul_comm] at h2
  omega
theorem floorI_range {a b M : Int} (hb : 0 < b) (hM : 0 ≤ M) (h1 : -M ≤ a) (h2 : a ≤ M) : -M ≤ floorI a b ∧ floorI a b ≤ M := by
  unfold floorI
  constructor
  · have : -M ≤ a / b := by
      apply Int.le_ediv_of_mul_le hb
      have : M * 1 ≤ M * b := Int.mul_le_mul_of_nonneg_left (by omega) hM
      rw [Int.neg_mul]; omega
    exact this
  · rcases Int.lt_or_le a 0 with h | h
    · have := Int.ediv_neg_of_neg_of_pos h hb; omega
    · have := Int.ediv_le_self b h; omega
theorem tdiv_range {a b M : Int} (hb : 0 < b) (h1 : -M ≤ a) (h2 : a ≤ M) : -M ≤ a.tdiv b ∧ a.tdiv b ≤ M := by
  have h := Int.natAbs_tdiv_le_natAbs a b
  omega
/-- two fractions with different floors -/
theorem cmp_floor_lt {a b c d : Int} (hb : 0 < b) (hd : 0 < d) (h : floorI a b < floorI c d) : a * d < c * b := by
  obtain ⟨_, h1⟩ := floorI_bd (a := a) hb
  obtain ⟨h2, _⟩ := floorI_bd (a := c) hd
  have h3 : a + 1 ≤ floorI a b * b + b := by omega
  have h4 : (a + 1) * d ≤ (floorI a b * b + b) * d := Int.mul_le_mul_of_nonneg_right h3 (by omega)
  have h5 : floorI c d * d * b ≤ c * b := Int.mul_le_mul_of_nonneg_right h2 (by omega)
  have h6 : (floorI a b + 1) * (b * d) ≤ floorI c d * (b * d) := Int.mul_le_mul_of_nonneg_right (by omega) (Int.mul_nonneg (by omega) (by omega))
  have e1 : (floorI a b * b + b) * d = (floorI a b + 1) * (b * d) := by grind
  have e2 : floorI c d * d * b = floorI c d * (b * d) := by grind
  have e3 : (a + 1) * d = a * d + d := by grind
  omega
theorem cmp_floor_eq {a b c d : Int} (h : floorI a b = floorI c d) : cmpI ((a - floorI a b * b) * d) ((c - floorI c d * d) * b) = cmpI (a * d) (c * b) := by
  have e : (a - floorI a b * b) * d - (c - floorI c d * d) * b = a * d - c * b := by rw [h]; grind
  unfold cmpI
  split <;> split <;> omega

theorem cmp_abs_pos {a b c d : Int} (ha : 0 ≤ a) (hb : 0 < b) (hc : 0 ≤ c) (hd : 0 < d) : cmpI (a * d) (c * b) = cmpI ((a.natAbs * d.natAbs : Nat) : Int) ((c.natAbs * b.natAbs : Nat) : Int) := by
  rw [Int.natCast_mul, Int.natCast_mul, Int.natAbs_of_nonneg ha, Int.natAbs_of_nonneg (by omega : 0 ≤ d), Int.natAbs_of_nonneg hc, Int.natAbs_of_nonneg (by omega : 0 ≤ b)]
theorem cmp_abs_neg {a b c d : Int} (ha : a < 0) (hb : 0 < b) (hc : c < 0) (hd : 0 < d) : cmpI (a * d) (c * b) = -cmpI ((a.natAbs * d.natAbs : Nat) : Int) ((c.natAbs * b.natAbs : Nat) : Int) := by
  rw [Int.natCast_mul, Int.natCast_mul]
  have e1 : (a.natAbs : Int) = -a := by omega
  have e2 : (d.natAbs : Int) = d := by omega
  have e3 : (c.natAbs : Int) = -c := by omega
  have e4 : (b.natAbs : Int) = b := by omega
  rw [e1, e2, e3, e4, Int.neg_mul, Int.neg_mul]
  unfold cmpI
  split <;> split <;> omega
theorem cmp_sign_lt {a b c d : Int} (ha : a < 0) (hb : 0 < b) (hc : 0 ≤ c) (hd : 0 < d) : cmpI (a * d) (c * b) = -1 := by
  have h1 := Int.mul_neg_of_neg_of_pos ha hd
  have h2 := Int.mul_nonneg hc (show 0 ≤ b by omega)
  exact cmpI_lt (by omega)
theorem cmp_sign_gt {a b c d : Int} (ha : 0 ≤ a) (hb : 0 < b) (hc : c < 0) (hd : 0 < d) : cmpI (a * d) (c * b) = 1 := by
  have h1 := Int.mul_neg_of_neg_of_pos hc hb
  have h2 := Int.mul_nonneg ha (show 0 ≤ d by omega)
  exact cmpI_gt (by omega)
/-- two numbers of 128 bits, by their halves -/
def cmpHalves (h1 l1 h2 l2 : Nat) : Int := if h2 < h1 then 1 else if h1 < h2 then -1 else if l2 < l1 then 1 else if l1 < l2 then -1 else 0
theorem cmp_halves (X Y : Nat) : cmpI (X : Int) (Y : Int) = cmpHalves (X / 18446744073709551616) (X % 18446744073709551616) (Y / 18446744073709551616) (Y % 18446744073709551616) := by
  unfold cmpI cmpHalves
  split <;> (split <;> try (split <;> try (split <;> try split))) <;> omega
theorem cmpHalves_bd (a b c d : Nat) : -1 ≤ cmpHalves a b c d ∧ cmpHalves a b c d ≤ 1 := by
  unfold cmpHalves
  split <;> (try split) <;> (try split) <;> (try split) <;> omega

/-- the remainders of two fractions with one floor -/
theorem cmp_rest {a b c d p q : Int} (hp : p = floorI a b) (hq : q = floorI c d) (h : p = q) : cmpI (a * d) (c * b) = cmpI ((a - p * b) * d) ((c - q * d) * b) := by
  subst hp; subst hq; exact (cmp_floor_eq h).symm
theorem cmp_turn {a b c d s R : Int} (h : s * cmpI (a * d) (c * b) = R) : -s * cmpI (b * c) (d * a) = R := by
  have e1 : b * c = c * b := Int.mul_comm _ _
  have e2 : d * a = a * d := Int.mul_comm _ _
  rw [e1, e2, cmpI_neg (a * d) (c * b), Int.neg_mul_neg]
  exact h
theorem cmp_first {b c d s R : Int} (hb : 0 < b) (hc : 0 < c) (h : s * cmpI (0 * d) (c * b) = R) : R = -s := by
  rw [Int.zero_mul, cmpI_lt (Int.mul_pos hc hb)] at h
  omega
theorem cmp_second {a b d s R : Int} (ha : 0 < a) (hd : 0 < d) (h : s * cmpI (a * d) (0 * b) = R) : R = s := by
  rw [Int.zero_mul, cmpI_gt (Int.mul_pos ha hd)] at h
  omega
theorem cmp_none {b d s R : Int} (h : s * cmpI (0 * d) (0 * b) = R) : R = 0 := by
  rw [Int.zero_mul, Int.zero_mul, cmpI_eq rfl] at h
  omega
end Go.Proofs.YtlgkfjhbimffiaaDoor
