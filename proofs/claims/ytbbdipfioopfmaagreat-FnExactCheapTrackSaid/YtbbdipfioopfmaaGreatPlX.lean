/- Plain words of a step: the next state on one denominator, in the program's way and in the reference's way; the input picked in the reference's way. -/
import Derived.Test.YtbbdipfioopfmaaGreatRz
import Derived.Test.YtbbdipfioopfmaaGreatAs
import Derived.Test.YtbbdipfioopfmaaGreatSf
namespace Go.Proofs.YtbbdipfioopfmaaGreat
set_option linter.unusedVariables false

def stepD (r : Dyn) (s t : Spot) (u : Ratio) : Int := mapD r s * u.D * t.D
def stepX (r : Dyn) (s t : Spot) (u : Ratio) : Int := (mapX r s * u.D + r.bx * u.N * mapD r s) * t.D + t.X * (mapD r s * u.D)
def stepY (r : Dyn) (s t : Spot) (u : Ratio) : Int := (mapY r s * u.D + r.by_ * u.N * mapD r s) * t.D + t.Y * (mapD r s * u.D)
def nextOk (s t : Spot) (u : Ratio) : Bool := spotOk s && spotOk t && decide (s.D ≤ 100000) && decide (t.D ≤ 1000) && decide (u.D ≤ 1000) && isDriven u
/-- the next state of a valid room -/
def nextR (r : Dyn) (s : Spot) (u : Ratio) (t : Spot) : Spot × Bool := if nextOk s t u = true then spotOf (stepX r s t u) (stepY r s t u) (stepD r s t u) else (⟨0, 0, 0⟩, false)
theorem nextR_no {r : Dyn} {s t : Spot} {u : Ratio} (h : nextOk s t u = false) : nextR r s u t = (⟨0, 0, 0⟩, false) := if_neg (by rw [h]; decide)
theorem nextR_yes {r : Dyn} {s t : Spot} {u : Ratio} (h : nextOk s t u = true) : nextR r s u t = spotOf (stepX r s t u) (stepY r s t u) (stepD r s t u) := if_pos h
theorem spotOf_same {x y d x' y' d' : Int} (hd : 0 < d) (hd' : 0 < d') (hx : isLeastI x = isLeastI x') (hy : isLeastI y = isLeastI y') (e1 : x * d' = x' * d) (e2 : y * d' = y' * d) : spotOf x y d = spotOf x' y' d' := by
  unfold spotOf
  rw [(low_eq hd hd').2 ⟨e1, e2⟩, hx, hy]
  simp only [hd, hd', true_and]
/-- the reference's way: the mapped state and the disturbance first, in lowest terms -/
def refX (r : Dyn) (s t : Spot) : Int := mapX r s * t.D + t.X * mapD r s
def refY (r : Dyn) (s t : Spot) : Int := mapY r s * t.D + t.Y * mapD r s
def refD (r : Dyn) (s t : Spot) : Int := mapD r s * t.D
def refS (r : Dyn) (s t : Spot) : Spot := lowSpot (refX r s t) (refY r s t) (refD r s t)
structure StepS (r : Dyn) (s t : Spot) (u : Ratio) : Prop where
  dyn : DynOk r
  s : SpotS s
  tx : -1000000 ≤ t.X ∧ t.X ≤ 1000000
  ty : -1000000 ≤ t.Y ∧ t.Y ≤ 1000000
  td : 1 ≤ t.D ∧ t.D ≤ 1000
  un : -1000000 ≤ u.N ∧ u.N ≤ 1000000
  ud : 1 ≤ u.D ∧ u.D ≤ 1000
theorem StepS.of {r : Dyn} {s t : Spot} {u : Ratio} (hr : DynOk r) (h : nextOk s t u = true) : StepS r s t u := by
  unfold nextOk at h
  simp only [Bool.and_eq_true, decide_eq_true_eq] at h
  obtain ⟨⟨⟨⟨⟨h1, h2⟩, h3⟩, h4⟩, h5⟩, h6⟩ := h
  have hs := spotS_of h1 h3
  unfold spotOk inR at h2
  simp only [Bool.and_eq_true, decide_eq_true_eq] at h2
  unfold isDriven inR at h6
  simp only [Bool.and_eq_true, decide_eq_true_eq] at h6
  have h7 := ratioOk_bd h6.1
  exact ⟨hr, hs, by omega, by omega, by omega, by omega, by omega⟩
structure StepB (r : Dyn) (s t : Spot) (u : Ratio) : Prop where
  x : -4000000000 ≤ mapX r s ∧ mapX r s ≤ 4000000000
  y : -4000000000 ≤ mapY r s ∧ mapY r s ≤ 4000000000
  d : 1 ≤ mapD r s ∧ mapD r s ≤ 2000000
  xu : -4000000000000 ≤ mapX r s * u.D ∧ mapX r s * u.D ≤ 4000000000000
  yu : -4000000000000 ≤ mapY r s * u.D ∧ mapY r s * u.D ≤ 4000000000000
  bx : -100000000 ≤ r.bx * u.N ∧ r.bx * u.N ≤ 100000000
  by_ : -100000000 ≤ r.by_ * u.N ∧ r.by_ * u.N ≤ 100000000
  bxd : -200000000000000 ≤ r.bx * u.N * mapD r s ∧ r.bx * u.N * mapD r s ≤ 200000000000000
  byd : -200000000000000 ≤ r.by_ * u.N * mapD r s ∧ r.by_ * u.N * mapD r s ≤ 200000000000000
  du : 1 ≤ mapD r s * u.D ∧ mapD r s * u.D ≤ 2000000000
  xt : -300000000000000000 ≤ (mapX r s * u.D + r.bx * u.N * mapD r s) * t.D ∧ (mapX r s * u.D + r.bx * u.N * mapD r s) * t.D ≤ 300000000000000000
  yt : -300000000000000000 ≤ (mapY r s * u.D + r.by_ * u.N * mapD r s) * t.D ∧ (mapY r s * u.D + r.by_ * u.N * mapD r s) * t.D ≤ 300000000000000000
  tx : -2000000000000000 ≤ t.X * (mapD r s * u.D) ∧ t.X * (mapD r s * u.D) ≤ 2000000000000000
  ty : -2000000000000000 ≤ t.Y * (mapD r s * u.D) ∧ t.Y * (mapD r s * u.D) ≤ 2000000000000000
  dt : 1 ≤ stepD r s t u ∧ stepD r s t u ≤ 2000000000000
theorem mul_pos_bd {a b A B : Int} (ha : 1 ≤ a ∧ a ≤ A) (hb : 1 ≤ b ∧ b ≤ B) : 1 ≤ a * b ∧ a * b ≤ A * B := by
  have h1 : 0 < a * b := Int.mul_pos (by omega) (by omega)
  have h2 := Int.mul_le_mul ha.2 hb.2 (by omega) (by omega)
  omega
theorem StepS.bd {r : Dyn} {s t : Spot} {u : Ratio} (h : StepS r s t u) : StepB r s t u := by
  obtain ⟨q5, q6, q7⟩ := map_bd h.dyn h.s
  have m1 := mul_bd (a := mapX r s) (b := u.D) (A := 4000000000) (B := 1000) q5 ⟨by have := h.ud; omega, by have := h.ud; omega⟩
  have m2 := mul_bd (a := mapY r s) (b := u.D) (A := 4000000000) (B := 1000) q6 ⟨by have := h.ud; omega, by have := h.ud; omega⟩
  have m3 := mul_bd (a := r.bx) (b := u.N) (A := 100) (B := 1000000) h.dyn.bx h.un
  have m4 := mul_bd (a := r.by_) (b := u.N) (A := 100) (B := 1000000) h.dyn.by_ h.un
  have m5 := mul_bd (a := r.bx * u.N) (b := mapD r s) (A := 100000000) (B := 2000000) ⟨by omega, by omega⟩ ⟨by omega, by omega⟩
  have m6 := mul_bd (a := r.by_ * u.N) (b := mapD r s) (A := 100000000) (B := 2000000) ⟨by omega, by omega⟩ ⟨by omega, by omega⟩
  have m7 := mul_pos_bd (a := mapD r s) (b := u.D) q7 h.ud
  have m8 := mul_bd (a := mapX r s * u.D + r.bx * u.N * mapD r s) (b := t.D) (A := 300000000000000) (B := 1000) ⟨by omega, by omega⟩ ⟨by have := h.td; omega, by have := h.td; omega⟩
  have m9 := mul_bd (a := mapY r s * u.D + r.by_ * u.N * mapD r s) (b := t.D) (A := 300000000000000) (B := 1000) ⟨by omega, by omega⟩ ⟨by have := h.td; omega, by have := h.td; omega⟩
  have m10 := mul_bd (a := t.X) (b := mapD r s * u.D) (A := 1000000) (B := 2000000000) h.tx ⟨by omega, by omega⟩
  have m11 := mul_bd (a := t.Y) (b := mapD r s * u.D) (A := 1000000) (B := 2000000000) h.ty ⟨by omega, by omega⟩
  have m12 := mul_pos_bd (a := mapD r s * u.D) (b := t.D) (A := 2000000000) (B := 1000) ⟨by omega, by omega⟩ h.td
  exact ⟨q5, q6, q7, by omega, by omega, by omega, by omega, by omega, by omega, by omega, by omega, by omega, by omega, by omega, by unfold stepD; omega⟩
structure RefB (r : Dyn) (s t : Spot) (u : Ratio) : Prop where
  xt : -4000000000000 ≤ mapX r s * t.D ∧ mapX r s * t.D ≤ 4000000000000
  yt : -4000000000000 ≤ mapY r s * t.D ∧ mapY r s * t.D ≤ 4000000000000
  tx : -2000000000000 ≤ t.X * mapD r s ∧ t.X * mapD r s ≤ 2000000000000
  ty : -2000000000000 ≤ t.Y * mapD r s ∧ t.Y * mapD r s ≤ 2000000000000
  dt : 1 ≤ refD r s t ∧ refD r s t ≤ 2000000000
  lx : -6000000000000 ≤ (refS r s t).X ∧ (refS r s t).X ≤ 6000000000000
  ly : -6000000000000 ≤ (refS r s t).Y ∧ (refS r s t).Y ≤ 6000000000000
  ld : 1 ≤ (refS r s t).D ∧ (refS r s t).D ≤ 2000000000
  xu : -6000000000000000 ≤ (refS r s t).X * u.D ∧ (refS r s t).X * u.D ≤ 6000000000000000
  yu : -6000000000000000 ≤ (refS r s t).Y * u.D ∧ (refS r s t).Y * u.D ≤ 6000000000000000
  bx : -100000000 ≤ r.bx * u.N ∧ r.bx * u.N ≤ 100000000
  by_ : -100000000 ≤ r.by_ * u.N ∧ r.by_ * u.N ≤ 100000000
  bxd : -200000000000000000 ≤ r.bx * u.N * (refS r s t).D ∧ r.bx * u.N * (refS r s t).D ≤ 200000000000000000
  byd : -200000000000000000 ≤ r.by_ * u.N * (refS r s t).D ∧ r.by_ * u.N * (refS r s t).D ≤ 200000000000000000
  du : 1 ≤ (refS r s t).D * u.D ∧ (refS r s t).D * u.D ≤ 2000000000000
theorem ediv_bd {n g M : Int} (hg : 1 ≤ g) (h : -M ≤ n ∧ n ≤ M) : -M ≤ n / g ∧ n / g ≤ M := by
  have hM : 0 ≤ M := by omega
  have e := Int.mul_ediv_add_emod n g
  have e1 := Int.emod_nonneg n (show g ≠ 0 by omega)
  have e2 := Int.emod_lt_of_pos n (show 0 < g by omega)
  have h1 : M * 1 ≤ M * g := Int.mul_le_mul_of_nonneg_left hg hM
  constructor
  · rcases Int.lt_or_le (n / g) (-M) with q | q
    · have : g * (n / g) ≤ g * (-M - 1) := Int.mul_le_mul_of_nonneg_left (by omega) (by omega)
      grind
    · exact q
  · rcases Int.lt_or_le M (n / g) with q | q
    · have : g * (M + 1) ≤ g * (n / g) := Int.mul_le_mul_of_nonneg_left (by omega) (by omega)
      grind
    · exact q
theorem StepS.ref {r : Dyn} {s t : Spot} {u : Ratio} (h : StepS r s t u) : RefB r s t u := by
  obtain ⟨q5, q6, q7⟩ := map_bd h.dyn h.s
  have m1 := mul_bd (a := mapX r s) (b := t.D) (A := 4000000000) (B := 1000) q5 ⟨by have := h.td; omega, by have := h.td; omega⟩
  have m2 := mul_bd (a := mapY r s) (b := t.D) (A := 4000000000) (B := 1000) q6 ⟨by have := h.td; omega, by have := h.td; omega⟩
  have m3 := mul_bd (a := t.X) (b := mapD r s) (A := 1000000) (B := 2000000) h.tx ⟨by omega, by omega⟩
  have m4 := mul_bd (a := t.Y) (b := mapD r s) (A := 1000000) (B := 2000000) h.ty ⟨by omega, by omega⟩
  have m5 := mul_pos_bd (a := mapD r s) (b := t.D) q7 h.td
  have hD : 0 < refD r s t := by unfold refD; omega
  have hg := gcd3_pos (x := refX r s t) (y := refY r s t) hD
  have l1 := ediv_bd (n := refX r s t) (g := (gcd3 (refX r s t) (refY r s t) (refD r s t) : Int)) (M := 6000000000000) (by omega) (by unfold refX; omega)
  have l2 := ediv_bd (n := refY r s t) (g := (gcd3 (refX r s t) (refY r s t) (refD r s t) : Int)) (M := 6000000000000) (by omega) (by unfold refY; omega)
  have l3 := ediv_bd (n := refD r s t) (g := (gcd3 (refX r s t) (refY r s t) (refD r s t) : Int)) (M := 2000000000) (by omega) (by unfold refD; omega)
  have l4 := low_pos (x := refX r s t) (y := refY r s t) hD
  change -6000000000000 ≤ (refS r s t).X ∧ (refS r s t).X ≤ 6000000000000 at l1
  change -6000000000000 ≤ (refS r s t).Y ∧ (refS r s t).Y ≤ 6000000000000 at l2
  change -2000000000 ≤ (refS r s t).D ∧ (refS r s t).D ≤ 2000000000 at l3
  change 0 < (refS r s t).D at l4
  have n1 := mul_bd (a := (refS r s t).X) (b := u.D) (A := 6000000000000) (B := 1000) l1 ⟨by have := h.ud; omega, by have := h.ud; omega⟩
  have n2 := mul_bd (a := (refS r s t).Y) (b := u.D) (A := 6000000000000) (B := 1000) l2 ⟨by have := h.ud; omega, by have := h.ud; omega⟩
  have n3 := mul_bd (a := r.bx) (b := u.N) (A := 100) (B := 1000000) h.dyn.bx h.un
  have n4 := mul_bd (a := r.by_) (b := u.N) (A := 100) (B := 1000000) h.dyn.by_ h.un
  have n5 := mul_bd (a := r.bx * u.N) (b := (refS r s t).D) (A := 100000000) (B := 2000000000) ⟨by omega, by omega⟩ ⟨by omega, by omega⟩
  have n6 := mul_bd (a := r.by_ * u.N) (b := (refS r s t).D) (A := 100000000) (B := 2000000000) ⟨by omega, by omega⟩ ⟨by omega, by omega⟩
  have n7 := mul_pos_bd (a := (refS r s t).D) (b := u.D) (A := 2000000000) (B := 1000) ⟨by omega, by omega⟩ h.ud
  exact ⟨by omega, by omega, by omega, by omega, by unfold refD; omega, l1, l2, by omega, by omega, by omega, by omega, by omega, by omega, by omega, by omega⟩
/-- both ways lead to one state -/
theorem next_ref {r : Dyn} {s t : Spot} {u : Ratio} (h : StepS r s t u) :
    spotOf ((refS r s t).X * u.D + r.bx * u.N * (refS r s t).D) ((refS r s t).Y * u.D + r.by_ * u.N * (refS r s t).D) ((refS r s t).D * u.D) = spotOf (stepX r s t u) (stepY r s t u) (stepD r s t u) := by
  have b := h.bd
  have c := h.ref
  obtain ⟨e1, e2, e3⟩ := low_mul (refX r s t) (refY r s t) (refD r s t)
  change (refS r s t).X * _ = _ at e1
  change (refS r s t).Y * _ = _ at e2
  change (refS r s t).D * _ = _ at e3
  have hbt := b.dt
  refine spotOf_same (by have := c.du; omega) (by omega) ?_ ?_ ?_ ?_
  · rw [least_not (by have := c.xu; have := c.bxd; omega), least_not (by unfold stepX; have := b.xt; have := b.tx; omega)]
  · rw [least_not (by have := c.yu; have := c.byd; omega), least_not (by unfold stepY; have := b.yt; have := b.ty; omega)]
  · generalize refS r s t = q at *
    generalize (gcd3 (refX r s t) (refY r s t) (refD r s t) : Int) = g at *
    have k1 : stepX r s t u = g * (q.X * u.D + r.bx * u.N * q.D) := by
      have : stepX r s t u = refX r s t * u.D + r.bx * u.N * refD r s t := by unfold stepX refX refD; grind
      rw [this, ← e1, ← e3]; grind
    have k2 : stepD r s t u = g * (q.D * u.D) := by
      have : stepD r s t u = refD r s t * u.D := by unfold stepD refD; grind
      rw [this, ← e3]; grind
    rw [k1, k2]; grind
  · generalize refS r s t = q at *
    generalize (gcd3 (refX r s t) (refY r s t) (refD r s t) : Int) = g at *
    have k1 : stepY r s t u = g * (q.Y * u.D + r.by_ * u.N * q.D) := by
      have : stepY r s t u = refY r s t * u.D + r.by_ * u.N * refD r s t := by unfold stepY refY refD; grind
      rw [this, ← e2, ← e3]; grind
    have k2 : stepD r s t u = g * (q.D * u.D) := by
      have : stepD r s t u = refD r s t * u.D := by unfold stepD refD; grind
      rw [this, ← e3]; grind
    rw [k1, k2]; grind

/-- the input picked in the reference's way -/
def specPick (w : Span) (n : Int) : Ratio :=
  if spanOk w = true then
    (if inSpan w ⟨clampI (-1000) 1000 n, 1⟩ = true then ⟨clampI (-1000) 1000 n, 1⟩
    else if ratioCeil w.Low ≤ ratioFloor w.High then ⟨clampI (ratioCeil w.Low) (ratioFloor w.High) (clampI (-1000) 1000 n), 1⟩
    else ratioMin w.High (ratioMax w.Low ⟨clampI (-1000) 1000 n, 1⟩))
  else ⟨0, 0⟩
theorem ratioCmp_ok {r s : Ratio} (hr : ratioOk r = true) (hs : ratioOk s = true) : ratioCmp r s = cmpI (r.N * s.D) (s.N * r.D) := if_pos ⟨hr, hs⟩
theorem specPick_eq (w : Span) (n : Int) : specPick w n = pickInput w n := by
  unfold specPick pickInput
  by_cases hk : spanOk w = true
  rotate_left
  · rw [if_neg hk, if_neg hk]
  rw [if_pos hk, if_pos hk]
  have hk' := hk
  unfold spanOk at hk'
  simp only [Bool.and_eq_true, decide_eq_true_eq] at hk'
  obtain ⟨⟨hl, hh⟩, hlh⟩ := hk'
  have hc := clampI_bd (-1000) 1000 n (by omega)
  generalize clampI (-1000) 1000 n = c at *
  have ho : ratioOk ⟨c, 1⟩ = true := ratioOk_one (by omega) (by omega)
  have hf := fun m => floor_le hh (n := m)
  have hg := fun m => ceil_le hl (n := m)
  have dl := (ratioOk_bd hl).1
  have dh := (ratioOk_bd hh).1
  have E1 : ratioCmp ⟨c, 1⟩ w.Low = cmpI (c * w.Low.D) (w.Low.N * 1) := ratioCmp_ok ho hl
  have E2 : ratioCmp ⟨c, 1⟩ w.High = cmpI (c * w.High.D) (w.High.N * 1) := ratioCmp_ok ho hh
  have E3 : ratioCmp w.Low ⟨c, 1⟩ = cmpI (w.Low.N * 1) (c * w.Low.D) := ratioCmp_ok hl ho
  have E4 : ratioCmp w.High ⟨c, 1⟩ = cmpI (w.High.N * 1) (c * w.High.D) := ratioCmp_ok hh ho
  have cb := ratioCeil_bd w.Low
  have fb := ratioFloor_bd w.High
  have hoc : ratioOk ⟨ratioCeil w.Low, 1⟩ = true := ratioOk_one (by omega) (by omega)
  have hof : ratioOk ⟨ratioFloor w.High, 1⟩ = true := ratioOk_one (by omega) (by omega)
  have E5 : ratioCmp ⟨ratioCeil w.Low, 1⟩ w.High = cmpI (ratioCeil w.Low * w.High.D) (w.High.N * 1) := ratioCmp_ok hoc hh
  have E6 : ratioCmp ⟨ratioFloor w.High, 1⟩ w.Low = cmpI (ratioFloor w.High * w.Low.D) (w.Low.N * 1) := ratioCmp_ok hof hl
  have hS : inSpan w ⟨c, 1⟩ = true ↔ (ratioCmp w.Low ⟨c, 1⟩ ≤ 0 ∧ ratioCmp ⟨c, 1⟩ w.High ≤ 0) := by
    unfold inSpan
    rw [hk, ho]
    simp
  have hge : ratioCeil w.Low ≤ ratioFloor w.High → ratioCmp ⟨ratioFloor w.High, 1⟩ w.Low ≥ 0 := fun h3 => by
    rw [E6]
    have := (hg _).1 h3
    rcases Int.lt_or_le (cmpI (ratioFloor w.High * w.Low.D) (w.Low.N * 1)) 0 with q | q
    · rw [cmpI_neg_iff] at q
      omega
    · exact q
  by_cases h1 : ratioCmp ⟨c, 1⟩ w.Low < 0
  · rw [if_pos h1]
    have h1' : c * w.Low.D < w.Low.N := by rw [E1, cmpI_neg_iff] at h1; omega
    rw [if_neg (by rw [hS, E3, cmpI_le]; omega)]
    have hcl : c < ratioCeil w.Low := by
      rcases Int.lt_or_le c (ratioCeil w.Low) with q | q
      · exact q
      · have := (hg c).1 q; omega
    by_cases h2 : ratioCeil w.Low ≤ ratioFloor w.High
    · rw [if_pos h2, if_pos (by rw [E5, cmpI_le]; have := (hf _).1 h2; omega)]
      have : clampI (ratioCeil w.Low) (ratioFloor w.High) c = ratioCeil w.Low := by unfold clampI; (repeat' split) <;> omega
      rw [this]
    · rw [if_neg h2, if_neg (by rw [E5, cmpI_le]; intro q; exact h2 ((hf _).2 (by omega)))]
      have m1 : ratioMax w.Low ⟨c, 1⟩ = w.Low := by
        unfold ratioMax
        rw [hl, ho]
        rw [if_pos (by rfl), if_pos (by rw [E3]; have : 0 < cmpI (w.Low.N * 1) (c * w.Low.D) := cmpI_pos_iff.2 (by omega); omega)]
      rw [m1]
      unfold ratioMin
      rw [hh, hl, if_pos (by rfl)]
      by_cases h3 : ratioCmp w.High w.Low ≤ 0
      · rw [if_pos h3]
        rw [ratioCmp_ok hh hl, cmpI_le] at h3
        rw [ratioCmp_ok hl hh, cmpI_le] at hlh
        exact ratio_eq hh hl (by omega)
      · rw [if_neg h3]
  · rw [if_neg h1]
    have h1' : w.Low.N ≤ c * w.Low.D := by rw [E1, cmpI_neg_iff] at h1; omega
    by_cases h2 : ratioCmp ⟨c, 1⟩ w.High > 0
    · rw [if_pos h2]
      have h2' : w.High.N < c * w.High.D := by rw [E2] at h2; have := cmpI_pos_iff.1 h2; omega
      rw [if_neg (by rw [hS, E2, cmpI_le]; omega)]
      have hch : ratioFloor w.High < c := by
        rcases Int.lt_or_le (ratioFloor w.High) c with q | q
        · exact q
        · have := (hf c).1 q; omega
      by_cases h3 : ratioCeil w.Low ≤ ratioFloor w.High
      · rw [if_pos h3, if_pos (hge h3)]
        have : clampI (ratioCeil w.Low) (ratioFloor w.High) c = ratioFloor w.High := by unfold clampI; (repeat' split) <;> omega
        rw [this]
      · rw [if_neg h3, if_neg (by rw [E6]; intro q; have q' : ¬ (ratioFloor w.High * w.Low.D < w.Low.N * 1) := fun z => by have := cmpI_neg_iff.2 z; omega
                                  exact h3 ((hg _).2 (by omega)))]
        have m1 : ratioMax w.Low ⟨c, 1⟩ = ⟨c, 1⟩ := by
          unfold ratioMax
          rw [hl, ho, if_pos (by rfl)]
          by_cases h4 : ratioCmp w.Low ⟨c, 1⟩ ≥ 0
          · rw [if_pos h4]
            refine ratio_eq hl ho ?_
            rw [E3] at h4
            have : ¬ (w.Low.N * 1 < c * w.Low.D) := fun z => by have := cmpI_neg_iff.2 z; omega
            simp only
            omega
          · rw [if_neg h4]
        rw [m1]
        unfold ratioMin
        rw [hh, ho, if_pos (by rfl), if_pos (by rw [E4, cmpI_le]; omega)]
    · rw [if_neg h2]
      have h2' : c * w.High.D ≤ w.High.N := by
        rcases Int.lt_or_le w.High.N (c * w.High.D) with q | q
        · exact absurd (by rw [E2]; exact cmpI_pos_iff.2 (by omega)) h2
        · exact q
      rw [if_pos (by rw [hS, E3, E2, cmpI_le, cmpI_le]; omega)]
end Go.Proofs.YtbbdipfioopfmaaGreat
