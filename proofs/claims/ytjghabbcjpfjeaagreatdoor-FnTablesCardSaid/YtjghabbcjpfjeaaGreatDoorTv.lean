/- Plain words of a step: the next state on one denominator, in the program's way and in the reference's way; the input picked in the reference's way. -/
import Derived.Test.YtjghabbcjpfjeaaGreatDoorRz
import Derived.Test.YtjghabbcjpfjeaaGreatDoorAs
import Derived.Test.YtjghabbcjpfjeaaGreatDoorSf
import Derived.Test.YtjghabbcjpfjeaaGreatDoorIv
import Derived.Test.YtjghabbcjpfjeaaGreatDoorCo
import Derived.Test.YtjghabbcjpfjeaaGreatDoorRo
import Derived.Test.YtjghabbcjpfjeaaGreatDoorSp
import Derived.Test.YtjghabbcjpfjeaaGreatDoorAz
import Derived.Deep.RegionHeld3
import Derived.Test.YtjghabbcjpfjeaaGreatDoorPk
import Derived.RegionTactic
import Derived.ChangeAlike
import Derived.Test.YtjghabbcjpfjeaaGreatDoorMTrack
namespace Go.Proofs.YtjghabbcjpfjeaaGreatDoor
set_option linter.unusedVariables false

def stepD (r : Dyn) (s t : Spot) (u : Ratio) : Int := mapD r s * u.D * t.D
def stepX (r : Dyn) (s t : Spot) (u : Ratio) : Int := (mapX r s * u.D + r.bx * u.N * mapD r s) * t.D + t.X * (mapD r s * u.D)
def stepY (r : Dyn) (s t : Spot) (u : Ratio) : Int := (mapY r s * u.D + r.by_ * u.N * mapD r s) * t.D + t.Y * (mapD r s * u.D)
def nextOk (s t : Spot) (u : Ratio) : Bool := spotOk s && spotOk t && decide (s.D ≤ 100000) && decide (t.D ≤ 1000) && decide (u.D ≤ 1000) && isDriven u
/-- the next state of a valid room -/
def nextR (r : Dyn) (s : Spot) (u : Ratio) (t : Spot) : Spot × Bool := if nextOk s t u = true then spotOf (stepX r s t u) (stepY r s t u) (stepD r s t u) else (⟨0, 0, 0⟩, false)
theorem nextR_no {r : Dyn} {s t : Spot} {u : Ratio} (h : nextOk s t u = false) : nextR r s u t = (⟨0, 0, 0⟩, false) := if_neg (by rw [h]; decide)
theorem nextR_yes {r : Dyn} {s t : Spot} {u : Ratio} (h : nextOk s t u = true) : nextR r s u t = spotOf (stepX r s t u) (stepY r s t u) (stepD r s t u) := if_pos h
theorem spotOf_same {x y d x' y' d' : Int} (hd : 0 < d) (hd' : 0 < d') (hx : isLeastI x = isLeastI x') (hy : isLeastI y = isLeastI y') (e1 : x * d' = x' * d) (e2 : y * d' = y' * d) : spotOf x y d = spotOf x' y' d' := by
  unfold spotOf
  rw [(low_eq hd hd').2 ⟨e1, e2⟩, hx, hy]
  simp only [hd, hd', true_and]
/-- the reference's way: the mapped state and the disturbance first, in lowest terms -/
def refX (r : Dyn) (s t : Spot) : Int := mapX r s * t.D + t.X * mapD r s
def refY (r : Dyn) (s t : Spot) : Int := mapY r s * t.D + t.Y * mapD r s
def refD (r : Dyn) (s t : Spot) : Int := mapD r s * t.D
def refS (r : Dyn) (s t : Spot) : Spot := lowSpot (refX r s t) (refY r s t) (refD r s t)
structure StepS (r : Dyn) (s t : Spot) (u : Ratio) : Prop where
  dyn : DynOk r
  s : SpotS s
  tx : -1000000 ≤ t.X ∧ t.X ≤ 1000000
  ty : -1000000 ≤ t.Y ∧ t.Y ≤ 1000000
  td : 1 ≤ t.D ∧ t.D ≤ 1000
  un : -1000000 ≤ u.N ∧ u.N ≤ 1000000
  ud : 1 ≤ u.D ∧ u.D ≤ 1000
theorem StepS.of {r : Dyn} {s t : Spot} {u : Ratio} (hr : DynOk r) (h : nextOk s t u = true) : StepS r s t u := by
  unfold nextOk at h
  simp only [Bool.and_eq_true, decide_eq_true_eq] at h
  obtain ⟨⟨⟨⟨⟨h1, h2⟩, h3⟩, h4⟩, h5⟩, h6⟩ := h
  have hs := spotS_of h1 h3
  unfold spotOk inR at h2
  simp only [Bool.and_eq_true, decide_eq_true_eq] at h2
  unfold isDriven inR at h6
  simp only [Bool.and_eq_true, decide_eq_true_eq] at h6
  have h7 := ratioOk_bd h6.1
  exact ⟨hr, hs, by omega, by omega, by omega, by omega, by omega⟩
structure StepB (r : Dyn) (s t : Spot) (u : Ratio) : Prop where
  x : -4000000000 ≤ mapX r s ∧ mapX r s ≤ 4000000000
  y : -4000000000 ≤ mapY r s ∧ mapY r s ≤ 4000000000
  d : 1 ≤ mapD r s ∧ mapD r s ≤ 2000000
  xu : -4000000000000 ≤ mapX r s * u.D ∧ mapX r s * u.D ≤ 4000000000000
  yu : -4000000000000 ≤ mapY r s * u.D ∧ mapY r s * u.D ≤ 4000000000000
  bx : -100000000 ≤ r.bx * u.N ∧ r.bx * u.N ≤ 100000000
  by_ : -100000000 ≤ r.by_ * u.N ∧ r.by_ * u.N ≤ 100000000
  bxd : -200000000000000 ≤ r.bx * u.N * mapD r s ∧ r.bx * u.N * mapD r s ≤ 200000000000000
  byd : -200000000000000 ≤ r.by_ * u.N * mapD r s ∧ r.by_ * u.N * mapD r s ≤ 200000000000000
  du : 1 ≤ mapD r s * u.D ∧ mapD r s * u.D ≤ 2000000000
  xt : -300000000000000000 ≤ (mapX r s * u.D + r.bx * u.N * mapD r s) * t.D ∧ (mapX r s * u.D + r.bx * u.N * mapD r s) * t.D ≤ 300000000000000000
  yt : -300000000000000000 ≤ (mapY r s * u.D + r.by_ * u.N * mapD r s) * t.D ∧ (mapY r s * u.D + r.by_ * u.N * mapD r s) * t.D ≤ 300000000000000000
  tx : -2000000000000000 ≤ t.X * (mapD r s * u.D) ∧ t.X * (mapD r s * u.D) ≤ 2000000000000000
  ty : -2000000000000000 ≤ t.Y * (mapD r s * u.D) ∧ t.Y * (mapD r s * u.D) ≤ 2000000000000000
  dt : 1 ≤ stepD r s t u ∧ stepD r s t u ≤ 2000000000000
theorem mul_pos_bd {a b A B : Int} (ha : 1 ≤ a ∧ a ≤ A) (hb : 1 ≤ b ∧ b ≤ B) : 1 ≤ a * b ∧ a * b ≤ A * B := by
  have h1 : 0 < a * b := Int.mul_pos (by omega) (by omega)
  have h2 := Int.mul_le_mul ha.2 hb.2 (by omega) (by omega)
  omega
theorem StepS.bd {r : Dyn} {s t : Spot} {u : Ratio} (h : StepS r s t u) : StepB r s t u := by
  obtain ⟨q5, q6, q7⟩ := map_bd h.dyn h.s
  have m1 := mul_bd (a := mapX r s) (b := u.D) (A := 4000000000) (B := 1000) q5 ⟨by have := h.ud; omega, by have := h.ud; omega⟩
  have m2 := mul_bd (a := mapY r s) (b := u.D) (A := 4000000000) (B := 1000) q6 ⟨by have := h.ud; omega, by have := h.ud; omega⟩
  have m3 := mul_bd (a := r.bx) (b := u.N) (A := 100) (B := 1000000) h.dyn.bx h.un
  have m4 := mul_bd (a := r.by_) (b := u.N) (A := 100) (B := 1000000) h.dyn.by_ h.un
  have m5 := mul_bd (a := r.bx * u.N) (b := mapD r s) (A := 100000000) (B := 2000000) ⟨by omega, by omega⟩ ⟨by omega, by omega⟩
  have m6 := mul_bd (a := r.by_ * u.N) (b := mapD r s) (A := 100000000) (B := 2000000) ⟨by omega, by omega⟩ ⟨by omega, by omega⟩
  have m7 := mul_pos_bd (a := mapD r s) (b := u.D) q7 h.ud
  have m8 := mul_bd (a := mapX r s * u.D + r.bx * u.N * mapD r s) (b := t.D) (A := 300000000000000) (B := 1000) ⟨by omega, by omega⟩ ⟨by have := h.td; omega, by have := h.td; omega⟩
  have m9 := mul_bd (a := mapY r s * u.D + r.by_ * u.N * mapD r s) (b := t.D) (A := 300000000000000) (B := 1000) ⟨by omega, by omega⟩ ⟨by have := h.td; omega, by have := h.td; omega⟩
  have m10 := mul_bd (a := t.X) (b := mapD r s * u.D) (A := 1000000) (B := 2000000000) h.tx ⟨by omega, by omega⟩
  have m11 := mul_bd (a := t.Y) (b := mapD r s * u.D) (A := 1000000) (B := 2000000000) h.ty ⟨by omega, by omega⟩
  have m12 := mul_pos_bd (a := mapD r s * u.D) (b := t.D) (A := 2000000000) (B := 1000) ⟨by omega, by omega⟩ h.td
  exact ⟨q5, q6, q7, by omega, by omega, by omega, by omega, by omega, by omega, by omega, by omega, by omega, by omega, by omega, by unfold stepD; omega⟩
structure RefB (r : Dyn) (s t : Spot) (u : Ratio) : Prop where
  xt : -4000000000000 ≤ mapX r s * t.D ∧ mapX r s * t.D ≤ 4000000000000
  yt : -4000000000000 ≤ mapY r s * t.D ∧ mapY r s * t.D ≤ 4000000000000
  tx : -2000000000000 ≤ t.X * mapD r s ∧ t.X * mapD r s ≤ 2000000000000
  ty : -2000000000000 ≤ t.Y * mapD r s ∧ t.Y * mapD r s ≤ 2000000000000
  dt : 1 ≤ refD r s t ∧ refD r s t ≤ 2000000000
  lx : -6000000000000 ≤ (refS r s t).X ∧ (refS r s t).X ≤ 6000000000000
  ly : -6000000000000 ≤ (refS r s t).Y ∧ (refS r s t).Y ≤ 6000000000000
  ld : 1 ≤ (refS r s t).D ∧ (refS r s t).D ≤ 2000000000
  xu : -6000000000000000 ≤ (refS r s t).X * u.D ∧ (refS r s t).X * u.D ≤ 6000000000000000
  yu : -6000000000000000 ≤ (refS r s t).Y * u.D ∧ (refS r s t).Y * u.D ≤ 6000000000000000
  bx : -100000000 ≤ r.bx * u.N ∧ r.bx * u.N ≤ 100000000
  by_ : -100000000 ≤ r.by_ * u.N ∧ r.by_ * u.N ≤ 100000000
  bxd : -200000000000000000 ≤ r.bx * u.N * (refS r s t).D ∧ r.bx * u.N * (refS r s t).D ≤ 200000000000000000
  byd : -200000000000000000 ≤ r.by_ * u.N * (refS r s t).D ∧ r.by_ * u.N * (refS r s t).D ≤ 200000000000000000
  du : 1 ≤ (refS r s t).D * u.D ∧ (refS r s t).D * u.D ≤ 2000000000000
theorem ediv_bd {n g M : Int} (hg : 1 ≤ g) (h : -M ≤ n ∧ n ≤ M) : -M ≤ n / g ∧ n / g ≤ M := by
  have hM : 0 ≤ M := by omega
  have e := Int.mul_ediv_add_emod n g
  have e1 := Int.emod_nonneg n (show g ≠ 0 by omega)
  have e2 := Int.emod_lt_of_pos n (show 0 < g by omega)
  have h1 : M * 1 ≤ M * g := Int.mul_le_mul_of_nonneg_left hg hM
  constructor
  · rcases Int.lt_or_le (n / g) (-M) with q | q
    · have : g * (n / g) ≤ g * (-M - 1) := Int.mul_le_mul_of_nonneg_left (by omega) (by omega)
      grind
    · exact q
  · rcases Int.lt_or_le M (n / g) with q | q
    · have : g * (M + 1) ≤ g * (n / g) := Int.mul_le_mul_of_nonneg_left (by omega) (by omega)
      grind
    · exact q
theorem StepS.ref {r : Dyn} {s t : Spot} {u : Ratio} (h : StepS r s t u) : RefB r s t u := by
  obtain ⟨q5, q6, q7⟩ := map_bd h.dyn h.s
  have m1 := mul_bd (a := mapX r s) (b := t.D) (A := 4000000000) (B := 1000) q5 ⟨by have := h.td; omega, by have := h.td; omega⟩
  have m2 := mul_bd (a := mapY r s) (b := t.D) (A := 4000000000) (B := 1000) q6 ⟨by have := h.td; omega, by have := h.td; omega⟩
  have m3 := mul_bd (a := t.X) (b := mapD r s) (A := 1000000) (B := 2000000) h.tx ⟨by omega, by omega⟩
  have m4 := mul_bd (a := t.Y) (b := mapD r s) (A := 1000000) (B := 2000000) h.ty ⟨by omega, by omega⟩
  have m5 := mul_pos_bd (a := mapD r s) (b := t.D) q7 h.td
  have hD : 0 < refD r s t := by unfold refD; omega
  have hg := gcd3_pos (x := refX r s t) (y := refY r s t) hD
  have l1 := ediv_bd (n := refX r s t) (g := (gcd3 (refX r s t) (refY r s t) (refD r s t) : Int)) (M := 6000000000000) (by omega) (by unfold refX; omega)
  have l2 := ediv_bd (n := refY r s t) (g := (gcd3 (refX r s t) (refY r s t) (refD r s t) : Int)) (M := 6000000000000) (by omega) (by unfold refY; omega)
  have l3 := ediv_bd (n := refD r s t) (g := (gcd3 (refX r s t) (refY r s t) (refD r s t) : Int)) (M := 2000000000) (by omega) (by unfold refD; omega)
  have l4 := low_pos (x := refX r s t) (y := refY r s t) hD
  change -6000000000000 ≤ (refS r s t).X ∧ (refS r s t).X ≤ 6000000000000 at l1
  change -6000000000000 ≤ (refS r s t).Y ∧ (refS r s t).Y ≤ 6000000000000 at l2
  change -2000000000 ≤ (refS r s t).D ∧ (refS r s t).D ≤ 2000000000 at l3
  change 0 < (refS r s t).D at l4
  have n1 := mul_bd (a := (refS r s t).X) (b := u.D) (A := 6000000000000) (B := 1000) l1 ⟨by have := h.ud; omega, by have := h.ud; omega⟩
  have n2 := mul_bd (a := (refS r s t).Y) (b := u.D) (A := 6000000000000) (B := 1000) l2 ⟨by have := h.ud; omega, by have := h.ud; omega⟩
  have n3 := mul_bd (a := r.bx) (b := u.N) (A := 100) (B := 1000000) h.dyn.bx h.un
  have n4 := mul_bd (a := r.by_) (b := u.N) (A := 100) (B := 1000000) h.dyn.by_ h.un
  have n5 := mul_bd (a := r.bx * u.N) (b := (refS r s t).D) (A := 100000000) (B := 2000000000) ⟨by omega, by omega⟩ ⟨by omega, by omega⟩
  have n6 := mul_bd (a := r.by_ * u.N) (b := (refS r s t).D) (A := 100000000) (B := 2000000000) ⟨by omega, by omega⟩ ⟨by omega, by omega⟩
  have n7 := mul_pos_bd (a := (refS r s t).D) (b := u.D) (A := 2000000000) (B := 1000) ⟨by omega, by omega⟩ h.ud
  exact ⟨by omega, by omega, by omega, by omega, by unfold refD; omega, l1, l2, by omega, by omega, by omega, by omega, by omega, by omega, by omega, by omega⟩
/-- both ways lead to one state -/
theorem next_ref {r : Dyn} {s t : Spot} {u : Ratio} (h : StepS r s t u) :
    spotOf ((refS r s t).X * u.D + r.bx * u.N * (refS r s t).D) ((refS r s t).Y * u.D + r.by_ * u.N * (refS r s t).D) ((refS r s t).D * u.D) = spotOf (stepX r s t u) (stepY r s t u) (stepD r s t u) := by
  have b := h.bd
  have c := h.ref
  obtain ⟨e1, e2, e3⟩ := low_mul (refX r s t) (refY r s t) (refD r s t)
  change (refS r s t).X * _ = _ at e1
  change (refS r s t).Y * _ = _ at e2
  change (refS r s t).D * _ = _ at e3
  have hbt := b.dt
  refine spotOf_same (by have := c.du; omega) (by omega) ?_ ?_ ?_ ?_
  · rw [least_not (by have := c.xu; have := c.bxd; omega), least_not (by unfold stepX; have := b.xt; have := b.tx; omega)]
  · rw [least_not (by have := c.yu; have := c.byd; omega), least_not (by unfold stepY; have := b.yt; have := b.ty; omega)]
  · generalize refS r s t = q at *
    generalize (gcd3 (refX r s t) (refY r s t) (refD r s t) : Int) = g at *
    have k1 : stepX r s t u = g * (q.X * u.D + r.bx * u.N * q.D) := by
      have : stepX r s t u = refX r s t * u.D + r.bx * u.N * refD r s t := by unfold stepX refX refD; grind
      rw [this, ← e1, ← e3]; grind
    have k2 : stepD r s t u = g * (q.D * u.D) := by
      have : stepD r s t u = refD r s t * u.D := by unfold stepD refD; grind
      rw [this, ← e3]; grind
    rw [k1, k2]; grind
  · generalize refS r s t = q at *
    generalize (gcd3 (refX r s t) (refY r s t) (refD r s t) : Int) = g at *
    have k1 : stepY r s t u = g * (q.Y * u.D + r.by_ * u.N * q.D) := by
      have : stepY r s t u = refY r s t * u.D + r.by_ * u.N * refD r s t := by unfold stepY refY refD; grind
      rw [this, ← e2, ← e3]; grind
    have k2 : stepD r s t u = g * (q.D * u.D) := by
      have : stepD r s t u = refD r s t * u.D := by unfold stepD refD; grind
      rw [this, ← e3]; grind
    rw [k1, k2]; grind

/-- the input picked in the reference's way -/
def specPick (w : Span) (n : Int) : Ratio :=
  if spanOk w = true then
    (if inSpan w ⟨clampI (-1000) 1000 n, 1⟩ = true then ⟨clampI (-1000) 1000 n, 1⟩
    else if ratioCeil w.Low ≤ ratioFloor w.High then ⟨clampI (ratioCeil w.Low) (ratioFloor w.High) (clampI (-1000) 1000 n), 1⟩
    else ratioMin w.High (ratioMax w.Low ⟨clampI (-1000) 1000 n, 1⟩))
  else ⟨0, 0⟩
theorem ratioCmp_ok {r s : Ratio} (hr : ratioOk r = true) (hs : ratioOk s = true) : ratioCmp r s = cmpI (r.N * s.D) (s.N * r.D) := if_pos ⟨hr, hs⟩
theorem specPick_eq (w : Span) (n : Int) : specPick w n = pickInput w n := by
  unfold specPick pickInput
  by_cases hk : spanOk w = true
  rotate_left
  · rw [if_neg hk, if_neg hk]
  rw [if_pos hk, if_pos hk]
  have hk' := hk
  unfold spanOk at hk'
  simp only [Bool.and_eq_true, decide_eq_true_eq] at hk'
  obtain ⟨⟨hl, hh⟩, hlh⟩ := hk'
  have hc := clampI_bd (-1000) 1000 n (by omega)
  generalize clampI (-1000) 1000 n = c at *
  have ho : ratioOk ⟨c, 1⟩ = true := ratioOk_one (by omega) (by omega)
  have hf := fun m => floor_le hh (n := m)
  have hg := fun m => ceil_le hl (n := m)
  have dl := (ratioOk_bd hl).1
  have dh := (ratioOk_bd hh).1
  have E1 : ratioCmp ⟨c, 1⟩ w.Low = cmpI (c * w.Low.D) (w.Low.N * 1) := ratioCmp_ok ho hl
  have E2 : ratioCmp ⟨c, 1⟩ w.High = cmpI (c * w.High.D) (w.High.N * 1) := ratioCmp_ok ho hh
  have E3 : ratioCmp w.Low ⟨c, 1⟩ = cmpI (w.Low.N * 1) (c * w.Low.D) := ratioCmp_ok hl ho
  have E4 : ratioCmp w.High ⟨c, 1⟩ = cmpI (w.High.N * 1) (c * w.High.D) := ratioCmp_ok hh ho
  have cb := ratioCeil_bd w.Low
  have fb := ratioFloor_bd w.High
  have hoc : ratioOk ⟨ratioCeil w.Low, 1⟩ = true := ratioOk_one (by omega) (by omega)
  have hof : ratioOk ⟨ratioFloor w.High, 1⟩ = true := ratioOk_one (by omega) (by omega)
  have E5 : ratioCmp ⟨ratioCeil w.Low, 1⟩ w.High = cmpI (ratioCeil w.Low * w.High.D) (w.High.N * 1) := ratioCmp_ok hoc hh
  have E6 : ratioCmp ⟨ratioFloor w.High, 1⟩ w.Low = cmpI (ratioFloor w.High * w.Low.D) (w.Low.N * 1) := ratioCmp_ok hof hl
  have hS : inSpan w ⟨c, 1⟩ = true ↔ (ratioCmp w.Low ⟨c, 1⟩ ≤ 0 ∧ ratioCmp ⟨c, 1⟩ w.High ≤ 0) := by
    unfold inSpan
    rw [hk, ho]
    simp
  have hge : ratioCeil w.Low ≤ ratioFloor w.High → ratioCmp ⟨ratioFloor w.High, 1⟩ w.Low ≥ 0 := fun h3 => by
    rw [E6]
    have := (hg _).1 h3
    rcases Int.lt_or_le (cmpI (ratioFloor w.High * w.Low.D) (w.Low.N * 1)) 0 with q | q
    · rw [cmpI_neg_iff] at q
      omega
    · exact q
  by_cases h1 : ratioCmp ⟨c, 1⟩ w.Low < 0
  · rw [if_pos h1]
    have h1' : c * w.Low.D < w.Low.N := by rw [E1, cmpI_neg_iff] at h1; omega
    rw [if_neg (by rw [hS, E3, cmpI_le]; omega)]
    have hcl : c < ratioCeil w.Low := by
      rcases Int.lt_or_le c (ratioCeil w.Low) with q | q
      · exact q
      · have := (hg c).1 q; omega
    by_cases h2 : ratioCeil w.Low ≤ ratioFloor w.High
    · rw [if_pos h2, if_pos (by rw [E5, cmpI_le]; have := (hf _).1 h2; omega)]
      have : clampI (ratioCeil w.Low) (ratioFloor w.High) c = ratioCeil w.Low := by unfold clampI; (repeat' split) <;> omega
      rw [this]
    · rw [if_neg h2, if_neg (by rw [E5, cmpI_le]; intro q; exact h2 ((hf _).2 (by omega)))]
      have m1 : ratioMax w.Low ⟨c, 1⟩ = w.Low := by
        unfold ratioMax
        rw [hl, ho]
        rw [if_pos (by rfl), if_pos (by rw [E3]; have : 0 < cmpI (w.Low.N * 1) (c * w.Low.D) := cmpI_pos_iff.2 (by omega); omega)]
      rw [m1]
      unfold ratioMin
      rw [hh, hl, if_pos (by rfl)]
      by_cases h3 : ratioCmp w.High w.Low ≤ 0
      · rw [if_pos h3]
        rw [ratioCmp_ok hh hl, cmpI_le] at h3
        rw [ratioCmp_ok hl hh, cmpI_le] at hlh
        exact ratio_eq hh hl (by omega)
      · rw [if_neg h3]
  · rw [if_neg h1]
    have h1' : w.Low.N ≤ c * w.Low.D := by rw [E1, cmpI_neg_iff] at h1; omega
    by_cases h2 : ratioCmp ⟨c, 1⟩ w.High > 0
    · rw [if_pos h2]
      have h2' : w.High.N < c * w.High.D := by rw [E2] at h2; have := cmpI_pos_iff.1 h2; omega
      rw [if_neg (by rw [hS, E2, cmpI_le]; omega)]
      have hch : ratioFloor w.High < c := by
        rcases Int.lt_or_le (ratioFloor w.High) c with q | q
        · exact q
        · have := (hf c).1 q; omega
      by_cases h3 : ratioCeil w.Low ≤ ratioFloor w.High
      · rw [if_pos h3, if_pos (hge h3)]
        have : clampI (ratioCeil w.Low) (ratioFloor w.High) c = ratioFloor w.High := by unfold clampI; (repeat' split) <;> omega
        rw [this]
      · rw [if_neg h3, if_neg (by rw [E6]; intro q; have q' : ¬ (ratioFloor w.High * w.Low.D < w.Low.N * 1) := fun z => by have := cmpI_neg_iff.2 z; omega
                                  exact h3 ((hg _).2 (by omega)))]
        have m1 : ratioMax w.Low ⟨c, 1⟩ = ⟨c, 1⟩ := by
          unfold ratioMax
          rw [hl, ho, if_pos (by rfl)]
          by_cases h4 : ratioCmp w.Low ⟨c, 1⟩ ≥ 0
          · rw [if_pos h4]
            refine ratio_eq hl ho ?_
            rw [E3] at h4
            have : ¬ (w.Low.N * 1 < c * w.Low.D) := fun z => by have := cmpI_neg_iff.2 z; omega
            simp only
            omega
          · rw [if_neg h4]
        rw [m1]
        unfold ratioMin
        rw [hh, ho, if_pos (by rfl), if_pos (by rw [E4, cmpI_le]; omega)]
    · rw [if_neg h2]
      have h2' : c * w.High.D ≤ w.High.N := by
        rcases Int.lt_or_le w.High.N (c * w.High.D) with q | q
        · exact absurd (by rw [E2]; exact cmpI_pos_iff.2 (by omega)) h2
        · exact q
      rw [if_pos (by rw [hS, E3, E2, cmpI_le, cmpI_le]; omega)]
end Go.Proofs.YtjghabbcjpfjeaaGreatDoor
/- Contracts of HasSpot of both, with the sides of a spot. (written by tools/mkHs.py) -/
namespace Go.Proofs.YtjghabbcjpfjeaaGreatDoor
open Go.ChangeShapes Go.WideShapes Go.ChangeAt Go.RowKit
set_option linter.unusedVariables false
set_option maxRecDepth 100000

/-- where a spot lies, to a half plane: above 0 outside -/
def sideI (h : Half) (s : Spot) : Int := h.A * s.X + h.B * s.Y - h.C * s.D
def sgnI (n : Int) : Int := if n < 0 then -1 else if 0 < n then 1 else 0
theorem sgnI_pos {n : Int} : 0 < sgnI n ↔ 0 < n := by unfold sgnI; split <;> (try split) <;> omega
theorem sgnI_lo {n : Int} (h : n < 0) : sgnI n = -1 := if_pos h
theorem sgnI_hi {n : Int} (h : 0 < n) : sgnI n = 1 := by unfold sgnI; rw [if_neg (by omega), if_pos h]
theorem sgnI_0 {n : Int} (h1 : ¬ n < 0) (h2 : ¬ 0 < n) : sgnI n = 0 := by unfold sgnI; rw [if_neg h1, if_neg h2]
def holdsR (hs : List Half) (s : Spot) : Bool := hs.all (fun h => decide (sideI h s ≤ 0)) && !decide (hs.length = 0)
def hasSpot (hs : List Half) (s : Spot) : Bool := regOk hs && spotOk s && holdsR hs s
structure SideB (h : Half) (s : Spot) : Prop where
  a : -250000000000000000 ≤ h.A * s.X ∧ h.A * s.X ≤ 250000000000000000
  b : -250000000000000000 ≤ h.B * s.Y ∧ h.B * s.Y ≤ 250000000000000000
  c : -500000000000000000 ≤ h.C * s.D ∧ h.C * s.D ≤ 500000000000000000
theorem side_bd {h : Half} {s : Spot} (hh : halfOk h = true) (hs : spotOk s = true) : SideB h s := by
  obtain ⟨b1, b2, b3, b4, b5, b6, _⟩ := halfOk_bd hh
  unfold spotOk inR at hs
  simp only [Bool.and_eq_true, decide_eq_true_eq] at hs
  have m1 := mul_bd (a := h.A) (b := s.X) (A := 50000) (B := 5000000000000) ⟨b1, b2⟩ ⟨by omega, by omega⟩
  have m2 := mul_bd (a := h.B) (b := s.Y) (A := 50000) (B := 5000000000000) ⟨b3, b4⟩ ⟨by omega, by omega⟩
  have m3 := mul_bd (a := h.C) (b := s.D) (A := 100000000) (B := 5000000000) ⟨b5, b6⟩ ⟨by omega, by omega⟩
  exact ⟨by omega, by omega, by omega⟩
theorem spot_I {s : Spot} (h : spotOk s = true) : I64 s.X ∧ I64 s.Y ∧ I64 s.D := by
  unfold spotOk inR at h
  simp only [Bool.and_eq_true, decide_eq_true_eq] at h
  unfold I64
  omega
set_option maxHeartbeats 4000000 in
theorem signOf_any (n : Int) (w : World) : Calls Tryz.prog 113 #[.int .i64 n] w fun e w' => e = .returned (.int .i64 (sgnI n)) ∧ w = w' := by
  by_cases h1 : n < 0
  · have H := Lib.hid (sgnI_lo h1)
    go_enter Tryz.func113, Tryz.ntmps113
    go_wp2
    go_ret
    exact ⟨ret_int H.out.symm, rfl⟩
  by_cases h2 : 0 < n
  · have H := Lib.hid (sgnI_hi h2)
    go_enter Tryz.func113, Tryz.ntmps113
    go_wp2
    go_ret
    exact ⟨ret_int H.out.symm, rfl⟩
  have H := Lib.hid (sgnI_0 h1 h2)
  go_enter Tryz.func113, Tryz.ntmps113
  go_wp2
  go_ret
  exact ⟨ret_int H.out.symm, rfl⟩

set_option maxHeartbeats 4000000 in
theorem implSideOf_ok (h : Half) (s : Spot) (w : World) (hh : halfOk h = true) (hs : spotOk s = true) :
    Calls Tryz.prog 87 #[.agg #[.int .i64 h.A, .int .i64 h.B, .int .i64 h.C], .agg #[.int .i64 s.X, .int .i64 s.Y, .int .i64 s.D]] w fun e w' => e = .returned (.int .i64 (sgnI (sideI h s))) ∧ Ext w w' := by
  have B := side_bd hh hs
  obtain ⟨a1, b1, c1⟩ := B
  have q1 : IntKind.i64.wrap (h.A * s.X) = h.A * s.X := IntWalk.i64_in _ (by omega)
  have q2 : IntKind.i64.wrap (h.B * s.Y) = h.B * s.Y := IntWalk.i64_in _ (by omega)
  have q3 : IntKind.i64.wrap (h.C * s.D) = h.C * s.D := IntWalk.i64_in _ (by omega)
  have q4 : IntKind.i64.wrap (h.A * s.X + h.B * s.Y) = h.A * s.X + h.B * s.Y := IntWalk.i64_in _ (by omega)
  have q5 : IntKind.i64.wrap (h.A * s.X + h.B * s.Y - h.C * s.D) = sideI h s := (IntWalk.i64_in _ (by omega)).trans rfl
  have hx : Ext w ((w.alloc (.cells #[.int .i64 h.A, .int .i64 h.B, .int .i64 h.C] 120)).alloc (.cells #[.int .i64 s.X, .int .i64 s.Y, .int .i64 s.D] 30)) := ((Ext.refl w).alloc _).alloc _
  have bH := (Blk.new w 120 #[.int .i64 h.A, .int .i64 h.B, .int .i64 h.C]).alloc (.cells #[.int .i64 s.X, .int .i64 s.Y, .int .i64 s.D] 30)
  have bS := Blk.new (w.alloc (.cells #[.int .i64 h.A, .int .i64 h.B, .int .i64 h.C] 120)) 30 #[.int .i64 s.X, .int .i64 s.Y, .int .i64 s.D]
  simp only [World.size_alloc] at bS
  obtain ⟨s1, s2, s3⟩ := spot_I hs
  obtain ⟨g1, g2, g3, g4, g5, g6, _⟩ := halfOk_bd hh
  have HK := Lib.hid (fun w => implHalfOk_any h.A h.B h.C w (by unfold I64; omega) (by unfold I64; omega) (by unfold I64; omega))
  have HS := Lib.hid (fun w => implSpotOk_any s.X s.Y s.D w s1 s2 s3)
  have e1 : halfOk ⟨h.A, h.B, h.C⟩ = true := hh
  have e2 : spotOk ⟨s.X, s.Y, s.D⟩ = true := hs
  rw [e1] at HK
  rw [e2] at HS
  clear hh hs e1 e2 a1 b1 c1 s1 s2 s3 g1 g2 g3 g4 g5 g6
  generalize sideI h s = z at *
  have cbH_1 := fun o => bH.cell o
  have cbS_2 := fun o => bS.cell o
  go_enter Tryz.func87, Tryz.ntmps87
  go_wp2_with fail
  refine (HK.out _).mono ?_
  rintro e w1 ⟨rfl, hx1⟩
  replace hx := hx.trans hx1
  replace bH := bH.ext hx1
  replace bS := bS.ext hx1
  have cbH_3 := fun o => bH.cell o
  have cbS_4 := fun o => bS.cell o
  go_wp2_with fail
  refine (HS.out _).mono ?_
  rintro e w2 ⟨rfl, hx2⟩
  replace hx := hx.trans hx2
  replace bH := bH.ext hx2
  replace bS := bS.ext hx2
  have cbH_5 := fun o => bH.cell o
  have cbS_6 := fun o => bS.cell o
  go_wp2_with fail
  refine (signOf_any _ _).mono ?_
  rintro e w3 ⟨rfl, rfl⟩
  go_wp2
  go_ret
  exact ⟨rfl, hx⟩

set_option maxHeartbeats 8000000 in
theorem implHolds_ok (A : Option Addr) (n c : Nat) (hs : List Half) (s : Spot) (w : World) (hn : hs.length = n) (hr : Row w A (ints (flat Half.ints hs))) (hE : hs.all halfOk = true) (hle : n ≤ maxLen) (hs_ : spotOk s = true) :
    Calls Tryz.prog 57 #[.agg #[.slice A n c], .agg #[.int .i64 s.X, .int .i64 s.Y, .int .i64 s.D]] w fun e w' => e = .returned (.bool (holdsR hs s)) ∧ Ext w w' := by
  unfold maxLen at hle
  have HI : Hid (∀ k (hk : k < hs.length), halfOk hs[k] = true) := fun k hk => List.all_eq_true.1 hE _ (List.getElem_mem hk)
  have HR := Lib.hid hr
  have HSd := Lib.hid (fun h w hh => implSideOf_ok h s w hh hs_)
  have HN := Lib.hid hn
  have hx0 : Ext w ((w.alloc (.cells #[.slice A n c] 26)).alloc (.cells #[.int .i64 s.X, .int .i64 s.Y, .int .i64 s.D] 30)) := ((Ext.refl w).alloc _).alloc _
  have bP := (Blk.new w 26 #[.slice A n c]).alloc (.cells #[.int .i64 s.X, .int .i64 s.Y, .int .i64 s.D] 30)
  have bS := Blk.new (w.alloc (.cells #[.slice A n c] 26)) 30 #[.int .i64 s.X, .int .i64 s.Y, .int .i64 s.D]
  simp only [World.size_alloc] at bS
  have cP := fun o => bP.cell o
  clear hE hr hs_
  go_enter Tryz.func57, Tryz.ntmps57
  go_wp2
  go_loopw [10] (fun i wr => ∃ k : Nat, k ≤ n ∧ i = .int .i64 k ∧ Ext w wr ∧ Blk wr w.heap.size 26 #[.slice A n c] ∧ Blk wr (w.heap.size + 1) 30 #[.int .i64 s.X, .int .i64 s.Y, .int .i64 s.D] ∧ (hs.take k).all (fun h => decide (sideI h s ≤ 0)) = true) (fun i _ => n - (intOf i).toNat)
  case atStart => exact ⟨0, Nat.zero_le _, rfl, hx0, bP, bS, rfl⟩
  case round =>
  clear cP bP bS hx0
  obtain ⟨k, hk, rfl, hx, bP, bS, hall⟩ := hrel
  have Hall := Lib.hid hall
  clear hall
  by_cases hlt : k < n
  rotate_left
  · obtain rfl : k = n := by omega
    have H : Hid (holdsR hs s = !decide (k = 0)) := by
      have h := Hall.out
      rw [List.take_of_length_le (by have := HN.out; omega)] at h
      unfold Hid holdsR
      rw [h, HN.out]
      rfl

    have cP := fun o => bP.cell o
    go_wp2_with fail
    refine (implIsVoid_any A k c _ (by unfold maxLen; omega)).mono ?_
    rintro e w1 ⟨rfl, hx1⟩
    go_wp2
    go_ret
    exact ⟨ret_bool H.out.symm, hx.trans hx1⟩

  have hkl : k < hs.length := by have := HN.out; omega
  obtain ⟨b, off, rfl, hb, h0, h1, h2⟩ := (HR.out.ext hx).Half (k := k) hkl
  have hh := HI.out k hkl
  have Hy : Hid (sideI (hs[k]'hkl) s ≤ 0 → (hs.take (k + 1)).all (fun h => decide (sideI h s ≤ 0)) = true) := fun hp => by rw [all_take_succ _ _ _ hkl, decide_eq_true hp, Hall.out]; rfl
  have Hn : Hid (¬ sideI (hs[k]'hkl) s ≤ 0 → holdsR hs s = false) := fun hp => by unfold holdsR; rw [all_false_at _ _ _ hkl (decide_eq_false hp)]; rfl
  obtain ⟨h, hh_⟩ : ∃ h, hs[k]'hkl = h := ⟨_, rfl⟩
  rw [hh_] at h0 h1 h2 hh Hy Hn
  have HC := Lib.hid (fun w => HSd.out h w hh)
  clear hh_ hh hkl
  generalize sideI h s = z at *
  have hz := sgnI_pos (n := z)
  generalize sgnI z = g at *
  have bH := Blk.new wr 120 #[.int .i64 h.A, .int .i64 h.B, .int .i64 h.C]
  have hA := (Ext.refl wr).alloc (.cells #[.int .i64 h.A, .int .i64 h.B, .int .i64 h.C] 120)
  replace hx := hx.trans hA
  replace bP := bP.ext hA
  replace bS := bS.ext hA
  have cH := fun o => bH.cell o
  have cS := fun o => bS.cell o
  go_wp2_with fail
  refine (HC.out _).mono ?_
  rintro e w1 ⟨rfl, hx1⟩
  replace hx := hx.trans hx1
  replace bP := bP.ext hx1
  replace bS := bS.ext hx1
  clear cH cS h0 h1 h2
  by_cases hg : 0 < g
  · have H := Lib.hid (Hn.out (by omega))
    go_wp2
    go_ret
    exact ⟨ret_bool H.out.symm, hx⟩
  have H := Lib.hid (Hy.out (by omega))
  go_wp2
  go_roundw
  case rel => exact ⟨k + 1, by omega, by go_num, hx, bP, bS, H.out⟩
  case measure => simp [intOf]; omega


set_option maxHeartbeats 8000000 in
theorem implHasSpot_any (A : Option Addr) (n c : Nat) (hs : List Half) (s : Spot) (w : World) (hn : hs.length = n) (hr : Row w A (ints (flat Half.ints hs))) (hI : HalvesI hs) (hle : n ≤ maxLen) (hs_ : I64 s.X ∧ I64 s.Y ∧ I64 s.D) :
    Calls Tryz.prog 16 #[.agg #[.slice A n c], .agg #[.int .i64 s.X, .int .i64 s.Y, .int .i64 s.D]] w fun e w' => e = .returned (.bool (hasSpot hs s)) ∧ Ext w w' := by
  have HS := Lib.hid (fun w => implSpotOk_any s.X s.Y s.D w hs_.1 hs_.2.1 hs_.2.2)
  change Hid (∀ w, Calls Tryz.prog 56 #[.agg #[.int .i64 s.X, .int .i64 s.Y, .int .i64 s.D]] w fun e w' => e = .returned (.bool (spotOk s)) ∧ Ext w w') at HS
  have HO := Lib.hid (fun w hr => implRegionOk_any A n c hs w hn hr hI hle)
  have HH := Lib.hid (fun w hr hE hk => implHolds_ok A n c hs s w hn hr hE hle hk)
  have HR := Lib.hid hr
  have HE : Hid (regOk hs = true → hs.all halfOk = true) := regOk_all
  have hx : Ext w ((w.alloc (.cells #[.slice A n c] 26)).alloc (.cells #[.int .i64 s.X, .int .i64 s.Y, .int .i64 s.D] 30)) := ((Ext.refl w).alloc _).alloc _
  have bP := (Blk.new w 26 #[.slice A n c]).alloc (.cells #[.int .i64 s.X, .int .i64 s.Y, .int .i64 s.D] 30)
  have bS := Blk.new (w.alloc (.cells #[.slice A n c] 26)) 30 #[.int .i64 s.X, .int .i64 s.Y, .int .i64 s.D]
  simp only [World.size_alloc] at bS
  have HN : Hid (hs.length = n) := hn
  have HX : Hid (hasSpot hs s = (regOk hs && spotOk s && holdsR hs s)) := rfl
  have HV : Hid (n = 0 → holdsR hs s = false) := fun h => by unfold holdsR; rw [HN.out, decide_eq_true h]; simp
  clear hr hI hn
  generalize hasSpot hs s = X at *
  have HO1 := HE
  obtain ⟨o1, ho1⟩ : ∃ o, regOk hs = o := ⟨_, rfl⟩
  obtain ⟨o2, ho2⟩ : ∃ o, spotOk s = o := ⟨_, rfl⟩
  have Ho2 := Lib.hid ho2
  rw [ho1] at HO HX HE
  rw [ho2] at HS HX
  obtain ⟨o3, ho3⟩ : ∃ o, holdsR hs s = o := ⟨_, rfl⟩
  have HH' := HH
  rw [ho3] at HX HV
  have Ho3 := Lib.hid ho3
  clear ho1 ho2 ho3
  have cbP_9 := fun o => bP.cell o
  have cbS_10 := fun o => bS.cell o
  go_enter Tryz.func16, Tryz.ntmps16

  go_wp2_with fail
  refine (implIsVoid_any A n c _ hle).mono ?_
  rintro e w1 ⟨rfl, hx1⟩
  replace hx := hx.trans hx1
  replace bP := bP.ext hx1
  replace bS := bS.ext hx1
  have cbP_11 := fun o => bP.cell o
  have cbS_12 := fun o => bS.cell o
  by_cases h0 : n = 0
  · have H := Lib.hid (HV.out h0)
    rw [decide_eq_true h0]
    go_wp2
    go_ret
    exact ⟨ret_bool (by rw [HX.out, H.out]; simp), hx⟩
  rw [decide_eq_false h0]
  clear h0
  go_wp2_with fail
  refine (HS.out _).mono ?_
  rintro e w2 ⟨rfl, hx2⟩
  replace hx := hx.trans hx2
  replace bP := bP.ext hx2
  replace bS := bS.ext hx2
  have cbP_13 := fun o => bP.cell o
  have cbS_14 := fun o => bS.cell o
  cases o2
  · go_wp2
    go_ret
    exact ⟨ret_bool (by rw [HX.out]; simp), hx⟩
  go_wp2_with fail
  refine (HO.out _ (HR.out.ext hx)).mono ?_
  rintro e w3 ⟨rfl, hx3⟩
  replace hx := hx.trans hx3
  replace bP := bP.ext hx3
  replace bS := bS.ext hx3
  have cbP_15 := fun o => bP.cell o
  have cbS_16 := fun o => bS.cell o
  cases o1
  · go_wp2
    go_ret
    exact ⟨ret_bool (by rw [HX.out]; simp), hx⟩

  go_wp2_with fail
  refine (HH.out _ (HR.out.ext hx) (HE.out (by first | rfl | trivial)) Ho2.out).mono ?_
  rintro e w4 ⟨rfl, hx4⟩
  replace hx := hx.trans hx4
  replace bP := bP.ext hx4
  replace bS := bS.ext hx4
  have cbP_17 := fun o => bP.cell o
  have cbS_18 := fun o => bS.cell o
  rw [Ho3.out]
  go_wp2
  go_ret
  exact ⟨ret_bool (by rw [HX.out]; simp), hx⟩


end Go.Proofs.YtjghabbcjpfjeaaGreatDoor
/- Contracts of the next state: next of the program, NextSpot of the reference. (written by tools/mkNx.py) -/
namespace Go.Proofs.YtjghabbcjpfjeaaGreatDoor
open Go.ChangeShapes Go.WideShapes Go.ChangeAt Go.RowKit
set_option linter.unusedVariables false
set_option maxRecDepth 100000

def NextMade (x : Spot × Bool) (w : World) (e : Ending) (w' : World) : Prop := e = .returned (.tuple #[.agg #[.int .i64 x.1.X, .int .i64 x.1.Y, .int .i64 x.1.D], .bool x.2]) ∧ Ext w w'
theorem ext_tri {w V : World} {g : Nat} (h : Ext w V) (hg : w.heap.size ≤ g) (a b c : Value) : Ext w (((V.setCell ⟨g, 0, none⟩ a).setCell ⟨g, 1, none⟩ b).setCell ⟨g, 2, none⟩ c) :=
  ((h.setCell (p := ⟨g, 0, none⟩) hg _).setCell (p := ⟨g, 1, none⟩) hg _).setCell (p := ⟨g, 2, none⟩) hg _

set_option maxHeartbeats 16000000 in
theorem implNext_ok (r : Room) (A0 A6 A7 : Option Addr) (c0 c6 c7 : Nat) (s t : Spot) (u : Ratio) (w : World) (hv : RoomV r) (ha : RoomHere w r A0 A6 A7 c0 c6 c7) (hs : I64 s.X ∧ I64 s.Y ∧ I64 s.D) (ht : I64 t.X ∧ I64 t.Y ∧ I64 t.D) (hu : I64 u.N ∧ I64 u.D) :
    Calls Tryz.prog 59 #[.agg #[.slice A0 r.Map.length c0, .int .i64 r.Div, .int .i64 r.Bx, .int .i64 r.By, .int .i64 r.Low, .int .i64 r.High, .slice A6 r.Noise.length c6, .slice A7 r.Limits.length c7], .agg #[.int .i64 s.X, .int .i64 s.Y, .int .i64 s.D], .agg #[.int .i64 u.N, .int .i64 u.D], .agg #[.int .i64 t.X, .int .i64 t.Y, .int .i64 t.D]] w (NextMade (nextR (dynOf r) s u t) w) := by
  unfold NextMade
  obtain ⟨hd, hM⟩ := hv.dyn
  have HS := Lib.hid (fun w => implSpotOk_any s.X s.Y s.D w hs.1 hs.2.1 hs.2.2)
  change Hid (∀ w, Calls Tryz.prog 56 #[.agg #[.int .i64 s.X, .int .i64 s.Y, .int .i64 s.D]] w fun e w' => e = .returned (.bool (spotOk s)) ∧ Ext w w') at HS
  have HT := Lib.hid (fun w => implSpotOk_any t.X t.Y t.D w ht.1 ht.2.1 ht.2.2)
  change Hid (∀ w, Calls Tryz.prog 56 #[.agg #[.int .i64 t.X, .int .i64 t.Y, .int .i64 t.D]] w fun e w' => e = .returned (.bool (spotOk t)) ∧ Ext w w') at HT
  have HU := Lib.hid (fun w => isDriven_any u.N u.D w hu.1 hu.2)
  change Hid (∀ w, Calls Tryz.prog 47 #[.agg #[.int .i64 u.N, .int .i64 u.D]] w fun e w' => e = .returned (.bool (isDriven u)) ∧ Ext w w') at HU
  have HMp : Hid (SpotS s → ∀ w, Row w A0 (ints [(dynOf r).a, (dynOf r).b, (dynOf r).c, (dynOf r).d]) → Calls Tryz.prog 89 #[.agg #[.int .i64 s.X, .int .i64 s.Y, .int .i64 s.D], .slice A0 4 c0, .int .i64 r.Div] w fun e w' => e = .returned (.tuple #[.int .i64 (mapX (dynOf r) s), .int .i64 (mapY (dynOf r) s), .int .i64 (mapD (dynOf r) s)]) ∧ Ext w w') := fun hs w hm => mapped_ok (dynOf r) A0 c0 s w hd hs hm
  have HNo := Lib.hid (fun h => nextR_no (r := dynOf r) (s := s) (t := t) (u := u) h)
  have HYes := Lib.hid (fun h => nextR_yes (r := dynOf r) (s := s) (t := t) (u := u) h)
  have HSt := Lib.hid (fun h => StepS.of (r := dynOf r) (s := s) (t := t) (u := u) hd h)
  have HX : Hid (nextOk s t u = (spotOk s && spotOk t && decide (s.D ≤ 100000) && decide (t.D ≤ 1000) && decide (u.D ≤ 1000) && isDriven u)) := rfl
  have hm := ha.at_.m
  rw [hM] at hm
  have HR := Lib.hid hm
  have hx : Ext w (((((w.alloc (.cells #[.slice A0 r.Map.length c0, .int .i64 r.Div, .int .i64 r.Bx, .int .i64 r.By, .int .i64 r.Low, .int .i64 r.High, .slice A6 r.Noise.length c6, .slice A7 r.Limits.length c7] 28)).alloc (.cells #[.int .i64 s.X, .int .i64 s.Y, .int .i64 s.D] 30)).alloc (.cells #[.int .i64 u.N, .int .i64 u.D] 44)).alloc (.cells #[.int .i64 t.X, .int .i64 t.Y, .int .i64 t.D] 30)).alloc (.cells #[.int .i64 0, .int .i64 0, .int .i64 0] 30)) := by repeat (first | exact Ext.refl _ | refine Ext.alloc ?_ _)
  have bM : Blk (((((w.alloc (.cells #[.slice A0 r.Map.length c0, .int .i64 r.Div, .int .i64 r.Bx, .int .i64 r.By, .int .i64 r.Low, .int .i64 r.High, .slice A6 r.Noise.length c6, .slice A7 r.Limits.length c7] 28)).alloc (.cells #[.int .i64 s.X, .int .i64 s.Y, .int .i64 s.D] 30)).alloc (.cells #[.int .i64 u.N, .int .i64 u.D] 44)).alloc (.cells #[.int .i64 t.X, .int .i64 t.Y, .int .i64 t.D] 30)).alloc (.cells #[.int .i64 0, .int .i64 0, .int .i64 0] 30)) (w.heap.size) 28 #[.slice A0 r.Map.length c0, .int .i64 r.Div, .int .i64 r.Bx, .int .i64 r.By, .int .i64 r.Low, .int .i64 r.High, .slice A6 r.Noise.length c6, .slice A7 r.Limits.length c7] := by
    have q := Blk.new w 28 #[.slice A0 r.Map.length c0, .int .i64 r.Div, .int .i64 r.Bx, .int .i64 r.By, .int .i64 r.Low, .int .i64 r.High, .slice A6 r.Noise.length c6, .slice A7 r.Limits.length c7]
    replace q := q.alloc (.cells #[.int .i64 s.X, .int .i64 s.Y, .int .i64 s.D] 30)
    replace q := q.alloc (.cells #[.int .i64 u.N, .int .i64 u.D] 44)
    replace q := q.alloc (.cells #[.int .i64 t.X, .int .i64 t.Y, .int .i64 t.D] 30)
    replace q := q.alloc (.cells #[.int .i64 0, .int .i64 0, .int .i64 0] 30)
    simpa only [World.size_alloc] using q
  have bS : Blk (((((w.alloc (.cells #[.slice A0 r.Map.length c0, .int .i64 r.Div, .int .i64 r.Bx, .int .i64 r.By, .int .i64 r.Low, .int .i64 r.High, .slice A6 r.Noise.length c6, .slice A7 r.Limits.length c7] 28)).alloc (.cells #[.int .i64 s.X, .int .i64 s.Y, .int .i64 s.D] 30)).alloc (.cells #[.int .i64 u.N, .int .i64 u.D] 44)).alloc (.cells #[.int .i64 t.X, .int .i64 t.Y, .int .i64 t.D] 30)).alloc (.cells #[.int .i64 0, .int .i64 0, .int .i64 0] 30)) (w.heap.size + 1) 30 #[.int .i64 s.X, .int .i64 s.Y, .int .i64 s.D] := by
    have q := Blk.new (w.alloc (.cells #[.slice A0 r.Map.length c0, .int .i64 r.Div, .int .i64 r.Bx, .int .i64 r.By, .int .i64 r.Low, .int .i64 r.High, .slice A6 r.Noise.length c6, .slice A7 r.Limits.length c7] 28)) 30 #[.int .i64 s.X, .int .i64 s.Y, .int .i64 s.D]
    replace q := q.alloc (.cells #[.int .i64 u.N, .int .i64 u.D] 44)
    replace q := q.alloc (.cells #[.int .i64 t.X, .int .i64 t.Y, .int .i64 t.D] 30)
    replace q := q.alloc (.cells #[.int .i64 0, .int .i64 0, .int .i64 0] 30)
    simpa only [World.size_alloc] using q
  have bU : Blk (((((w.alloc (.cells #[.slice A0 r.Map.length c0, .int .i64 r.Div, .int .i64 r.Bx, .int .i64 r.By, .int .i64 r.Low, .int .i64 r.High, .slice A6 r.Noise.length c6, .slice A7 r.Limits.length c7] 28)).alloc (.cells #[.int .i64 s.X, .int .i64 s.Y, .int .i64 s.D] 30)).alloc (.cells #[.int .i64 u.N, .int .i64 u.D] 44)).alloc (.cells #[.int .i64 t.X, .int .i64 t.Y, .int .i64 t.D] 30)).alloc (.cells #[.int .i64 0, .int .i64 0, .int .i64 0] 30)) (w.heap.size + 1 + 1) 44 #[.int .i64 u.N, .int .i64 u.D] := by
    have q := Blk.new ((w.alloc (.cells #[.slice A0 r.Map.length c0, .int .i64 r.Div, .int .i64 r.Bx, .int .i64 r.By, .int .i64 r.Low, .int .i64 r.High, .slice A6 r.Noise.length c6, .slice A7 r.Limits.length c7] 28)).alloc (.cells #[.int .i64 s.X, .int .i64 s.Y, .int .i64 s.D] 30)) 44 #[.int .i64 u.N, .int .i64 u.D]
    replace q := q.alloc (.cells #[.int .i64 t.X, .int .i64 t.Y, .int .i64 t.D] 30)
    replace q := q.alloc (.cells #[.int .i64 0, .int .i64 0, .int .i64 0] 30)
    simpa only [World.size_alloc] using q
  have bT : Blk (((((w.alloc (.cells #[.slice A0 r.Map.length c0, .int .i64 r.Div, .int .i64 r.Bx, .int .i64 r.By, .int .i64 r.Low, .int .i64 r.High, .slice A6 r.Noise.length c6, .slice A7 r.Limits.length c7] 28)).alloc (.cells #[.int .i64 s.X, .int .i64 s.Y, .int .i64 s.D] 30)).alloc (.cells #[.int .i64 u.N, .int .i64 u.D] 44)).alloc (.cells #[.int .i64 t.X, .int .i64 t.Y, .int .i64 t.D] 30)).alloc (.cells #[.int .i64 0, .int .i64 0, .int .i64 0] 30)) (w.heap.size + 1 + 1 + 1) 30 #[.int .i64 t.X, .int .i64 t.Y, .int .i64 t.D] := by
    have q := Blk.new (((w.alloc (.cells #[.slice A0 r.Map.length c0, .int .i64 r.Div, .int .i64 r.Bx, .int .i64 r.By, .int .i64 r.Low, .int .i64 r.High, .slice A6 r.Noise.length c6, .slice A7 r.Limits.length c7] 28)).alloc (.cells #[.int .i64 s.X, .int .i64 s.Y, .int .i64 s.D] 30)).alloc (.cells #[.int .i64 u.N, .int .i64 u.D] 44)) 30 #[.int .i64 t.X, .int .i64 t.Y, .int .i64 t.D]
    replace q := q.alloc (.cells #[.int .i64 0, .int .i64 0, .int .i64 0] 30)
    simpa only [World.size_alloc] using q
  have bR : Blk (((((w.alloc (.cells #[.slice A0 r.Map.length c0, .int .i64 r.Div, .int .i64 r.Bx, .int .i64 r.By, .int .i64 r.Low, .int .i64 r.High, .slice A6 r.Noise.length c6, .slice A7 r.Limits.length c7] 28)).alloc (.cells #[.int .i64 s.X, .int .i64 s.Y, .int .i64 s.D] 30)).alloc (.cells #[.int .i64 u.N, .int .i64 u.D] 44)).alloc (.cells #[.int .i64 t.X, .int .i64 t.Y, .int .i64 t.D] 30)).alloc (.cells #[.int .i64 0, .int .i64 0, .int .i64 0] 30)) (w.heap.size + 1 + 1 + 1 + 1) 30 #[.int .i64 0, .int .i64 0, .int .i64 0] := by
    have q := Blk.new ((((w.alloc (.cells #[.slice A0 r.Map.length c0, .int .i64 r.Div, .int .i64 r.Bx, .int .i64 r.By, .int .i64 r.Low, .int .i64 r.High, .slice A6 r.Noise.length c6, .slice A7 r.Limits.length c7] 28)).alloc (.cells #[.int .i64 s.X, .int .i64 s.Y, .int .i64 s.D] 30)).alloc (.cells #[.int .i64 u.N, .int .i64 u.D] 44)).alloc (.cells #[.int .i64 t.X, .int .i64 t.Y, .int .i64 t.D] 30)) 30 #[.int .i64 0, .int .i64 0, .int .i64 0]
    simpa only [World.size_alloc] using q
  have hl4 : r.Map.length = 4 := by rw [hM]; rfl
  rw [hl4] at bM bS bU bT bR hx ⊢
  clear hl4 hM hm ha hv hd hs ht hu
  generalize nextR (dynOf r) s u t = X at *
  obtain ⟨o1, ho1⟩ : ∃ o, spotOk s = o := ⟨_, rfl⟩
  obtain ⟨o2, ho2⟩ : ∃ o, spotOk t = o := ⟨_, rfl⟩
  obtain ⟨o3, ho3⟩ : ∃ o, isDriven u = o := ⟨_, rfl⟩
  rw [ho1, ho2, ho3] at HX
  rw [ho1] at HS
  rw [ho2] at HT
  rw [ho3] at HU
  clear ho1 ho2 ho3
  have cbM_27 := fun o => bM.cell o
  have cbS_28 := fun o => bS.cell o
  have cbU_29 := fun o => bU.cell o
  have cbT_30 := fun o => bT.cell o
  have cbR_31 := fun o => bR.cell o
  have fbR_31 := fun o => bR.frozen o
  go_enter Tryz.func59, Tryz.ntmps59
  go_wp2_with fail
  refine (HS.out _).mono ?_
  rintro e w1 ⟨rfl, hx1⟩
  replace hx := hx.trans hx1
  replace bM := bM.ext hx1
  replace bS := bS.ext hx1
  replace bU := bU.ext hx1
  replace bT := bT.ext hx1
  replace bR := bR.ext hx1
  have cbM_32 := fun o => bM.cell o
  have cbS_33 := fun o => bS.cell o
  have cbU_34 := fun o => bU.cell o
  have cbT_35 := fun o => bT.cell o
  have cbR_36 := fun o => bR.cell o
  have fbR_36 := fun o => bR.frozen o
  cases o1
  · have H := Lib.hid (HNo.out (by rw [HX.out]; simp))
    go_wp2
    have bF := ((bR.set_ 0 (.int .i64 0)).set_ 1 (.int .i64 0)).set_ 2 (.int .i64 0)
    have cF := fun o => bF.cell o
    refine bodyPost_ret (v := .tuple #[.agg #[.int .i64 0, .int .i64 0, .int .i64 0], .bool false]) (by simp [results, Tryz.results59, go_sem, cF]) rfl ?_
    exact ⟨by rw [H.out], ext_tri hx (by omega) _ _ _⟩
  go_wp2_with fail
  refine (HT.out _).mono ?_
  rintro e w2 ⟨rfl, hx2⟩
  replace hx := hx.trans hx2
  replace bM := bM.ext hx2
  replace bS := bS.ext hx2
  replace bU := bU.ext hx2
  replace bT := bT.ext hx2
  replace bR := bR.ext hx2
  have cbM_37 := fun o => bM.cell o
  have cbS_38 := fun o => bS.cell o
  have cbU_39 := fun o => bU.cell o
  have cbT_40 := fun o => bT.cell o
  have cbR_41 := fun o => bR.cell o
  have fbR_41 := fun o => bR.frozen o
  cases o2
  · have H := Lib.hid (HNo.out (by rw [HX.out]; simp))
    go_wp2
    have bF := ((bR.set_ 0 (.int .i64 0)).set_ 1 (.int .i64 0)).set_ 2 (.int .i64 0)
    have cF := fun o => bF.cell o
    refine bodyPost_ret (v := .tuple #[.agg #[.int .i64 0, .int .i64 0, .int .i64 0], .bool false]) (by simp [results, Tryz.results59, go_sem, cF]) rfl ?_
    exact ⟨by rw [H.out], ext_tri hx (by omega) _ _ _⟩
  by_cases h3 : 100000 < s.D
  · have H := Lib.hid (HNo.out (by rw [HX.out]; rw [decide_eq_false (show ¬ s.D ≤ 100000 by omega)]; simp))
    go_wp2
    have bF := ((bR.set_ 0 (.int .i64 0)).set_ 1 (.int .i64 0)).set_ 2 (.int .i64 0)
    have cF := fun o => bF.cell o
    refine bodyPost_ret (v := .tuple #[.agg #[.int .i64 0, .int .i64 0, .int .i64 0], .bool false]) (by simp [results, Tryz.results59, go_sem, cF]) rfl ?_
    exact ⟨by rw [H.out], ext_tri hx (by omega) _ _ _⟩
  by_cases h4 : 1000 < t.D
  · have H := Lib.hid (HNo.out (by rw [HX.out]; rw [decide_eq_false (show ¬ t.D ≤ 1000 by omega)]; simp))
    go_wp2
    have bF := ((bR.set_ 0 (.int .i64 0)).set_ 1 (.int .i64 0)).set_ 2 (.int .i64 0)
    have cF := fun o => bF.cell o
    refine bodyPost_ret (v := .tuple #[.agg #[.int .i64 0, .int .i64 0, .int .i64 0], .bool false]) (by simp [results, Tryz.results59, go_sem, cF]) rfl ?_
    exact ⟨by rw [H.out], ext_tri hx (by omega) _ _ _⟩
  by_cases h5 : 1000 < u.D
  · have H := Lib.hid (HNo.out (by rw [HX.out]; rw [decide_eq_false (show ¬ u.D ≤ 1000 by omega)]; simp))
    go_wp2
    have bF := ((bR.set_ 0 (.int .i64 0)).set_ 1 (.int .i64 0)).set_ 2 (.int .i64 0)
    have cF := fun o => bF.cell o
    refine bodyPost_ret (v := .tuple #[.agg #[.int .i64 0, .int .i64 0, .int .i64 0], .bool false]) (by simp [results, Tryz.results59, go_sem, cF]) rfl ?_
    exact ⟨by rw [H.out], ext_tri hx (by omega) _ _ _⟩
  have b3 : decide (100000 < s.D) = false := decide_eq_false h3
  have b4 : decide (1000 < t.D) = false := decide_eq_false h4
  have b5 : decide (1000 < u.D) = false := decide_eq_false h5
  go_wp2_with fail
  refine (HU.out _).mono ?_
  rintro e w3 ⟨rfl, hx3⟩
  replace hx := hx.trans hx3
  replace bM := bM.ext hx3
  replace bS := bS.ext hx3
  replace bU := bU.ext hx3
  replace bT := bT.ext hx3
  replace bR := bR.ext hx3
  have cbM_42 := fun o => bM.cell o
  have cbS_43 := fun o => bS.cell o
  have cbU_44 := fun o => bU.cell o
  have cbT_45 := fun o => bT.cell o
  have cbR_46 := fun o => bR.cell o
  have fbR_46 := fun o => bR.frozen o
  cases o3
  · have H := Lib.hid (HNo.out (by rw [HX.out]; simp))
    go_wp2
    have bF := ((bR.set_ 0 (.int .i64 0)).set_ 1 (.int .i64 0)).set_ 2 (.int .i64 0)
    have cF := fun o => bF.cell o
    refine bodyPost_ret (v := .tuple #[.agg #[.int .i64 0, .int .i64 0, .int .i64 0], .bool false]) (by simp [results, Tryz.results59, go_sem, cF]) rfl ?_
    exact ⟨by rw [H.out], ext_tri hx (by omega) _ _ _⟩
  have hok : nextOk s t u = true := by rw [HX.out, decide_eq_true (show s.D ≤ 100000 by omega), decide_eq_true (show t.D ≤ 1000 by omega), decide_eq_true (show u.D ≤ 1000 by omega)]; rfl
  have hst := HSt.out hok
  have b := hst.bd
  have H := Lib.hid (HYes.out hok)
  have HMq := Lib.hid (HMp.out hst.s)
  have q1 := b.xu
  have q2 := b.yu
  have q3 : -100000000 ≤ r.Bx * u.N ∧ r.Bx * u.N ≤ 100000000 := b.bx
  have q4 : -100000000 ≤ r.By * u.N ∧ r.By * u.N ≤ 100000000 := b.by_
  have q5 : -200000000000000 ≤ r.Bx * u.N * mapD (dynOf r) s ∧ r.Bx * u.N * mapD (dynOf r) s ≤ 200000000000000 := b.bxd
  have q6 : -200000000000000 ≤ r.By * u.N * mapD (dynOf r) s ∧ r.By * u.N * mapD (dynOf r) s ≤ 200000000000000 := b.byd
  have q7 := b.du
  have q8 : -300000000000000000 ≤ (mapX (dynOf r) s * u.D + r.Bx * u.N * mapD (dynOf r) s) * t.D ∧ (mapX (dynOf r) s * u.D + r.Bx * u.N * mapD (dynOf r) s) * t.D ≤ 300000000000000000 := b.xt
  have q9 : -300000000000000000 ≤ (mapY (dynOf r) s * u.D + r.By * u.N * mapD (dynOf r) s) * t.D ∧ (mapY (dynOf r) s * u.D + r.By * u.N * mapD (dynOf r) s) * t.D ≤ 300000000000000000 := b.yt
  have q10 := b.tx
  have q11 := b.ty
  have q12 : 1 ≤ mapD (dynOf r) s * u.D * t.D ∧ mapD (dynOf r) s * u.D * t.D ≤ 2000000000000 := b.dt
  have eX : stepX (dynOf r) s t u = (mapX (dynOf r) s * u.D + r.Bx * u.N * mapD (dynOf r) s) * t.D + t.X * (mapD (dynOf r) s * u.D) := rfl
  have eY : stepY (dynOf r) s t u = (mapY (dynOf r) s * u.D + r.By * u.N * mapD (dynOf r) s) * t.D + t.Y * (mapD (dynOf r) s * u.D) := rfl
  have eD : stepD (dynOf r) s t u = mapD (dynOf r) s * u.D * t.D := rfl
  generalize stepX (dynOf r) s t u = SX at *
  generalize stepY (dynOf r) s t u = SY at *
  generalize stepD (dynOf r) s t u = SD at *
  generalize mapX (dynOf r) s = x at *
  generalize mapY (dynOf r) s = y at *
  generalize mapD (dynOf r) s = d at *
  have w1 : IntKind.i64.wrap (x * u.D) = x * u.D := IntWalk.i64_in _ (by omega)
  have w2 : IntKind.i64.wrap (r.Bx * u.N) = r.Bx * u.N := IntWalk.i64_in _ (by omega)
  have w3 : IntKind.i64.wrap (r.Bx * u.N * d) = r.Bx * u.N * d := IntWalk.i64_in _ (by omega)
  have w4 : IntKind.i64.wrap (x * u.D + r.Bx * u.N * d) = x * u.D + r.Bx * u.N * d := IntWalk.i64_in _ (by omega)
  have w5 : IntKind.i64.wrap (y * u.D) = y * u.D := IntWalk.i64_in _ (by omega)
  have w6 : IntKind.i64.wrap (r.By * u.N) = r.By * u.N := IntWalk.i64_in _ (by omega)
  have w7 : IntKind.i64.wrap (r.By * u.N * d) = r.By * u.N * d := IntWalk.i64_in _ (by omega)
  have w8 : IntKind.i64.wrap (y * u.D + r.By * u.N * d) = y * u.D + r.By * u.N * d := IntWalk.i64_in _ (by omega)
  have w9 : IntKind.i64.wrap (d * u.D) = d * u.D := IntWalk.i64_in _ (by omega)
  have w10 : IntKind.i64.wrap ((x * u.D + r.Bx * u.N * d) * t.D) = (x * u.D + r.Bx * u.N * d) * t.D := IntWalk.i64_in _ (by omega)
  have w11 : IntKind.i64.wrap (t.X * (d * u.D)) = t.X * (d * u.D) := IntWalk.i64_in _ (by omega)
  have w12 : IntKind.i64.wrap ((x * u.D + r.Bx * u.N * d) * t.D + t.X * (d * u.D)) = SX := by rw [eX]; exact IntWalk.i64_in _ (by omega)
  have w13 : IntKind.i64.wrap ((y * u.D + r.By * u.N * d) * t.D) = (y * u.D + r.By * u.N * d) * t.D := IntWalk.i64_in _ (by omega)
  have w14 : IntKind.i64.wrap (t.Y * (d * u.D)) = t.Y * (d * u.D) := IntWalk.i64_in _ (by omega)
  have w15 : IntKind.i64.wrap ((y * u.D + r.By * u.N * d) * t.D + t.Y * (d * u.D)) = SY := by rw [eY]; exact IntWalk.i64_in _ (by omega)
  have w16 : IntKind.i64.wrap (d * u.D * t.D) = SD := by rw [eD]; exact IntWalk.i64_in _ (by omega)
  have HSo := Lib.hid (fun w => implSpotOf_any SX SY SD w (by unfold I64; omega) (by unfold I64; omega) (by unfold I64; omega))
  rw [← H.out] at HSo
  clear q1 q2 q3 q4 q5 q6 q7 q8 q9 q10 q11 q12 eX eY eD hok hst b h3 h4 h5
  obtain ⟨⟨z1, z2, z3⟩, ok⟩ := X
  dsimp only at *
  go_wp2_with fail
  refine (HMq.out _ (HR.out.ext hx)).mono ?_
  rintro e w4 ⟨rfl, hx4⟩
  replace hx := hx.trans hx4
  replace bM := bM.ext hx4
  replace bS := bS.ext hx4
  replace bU := bU.ext hx4
  replace bT := bT.ext hx4
  replace bR := bR.ext hx4
  have cbM_47 := fun o => bM.cell o
  have cbS_48 := fun o => bS.cell o
  have cbU_49 := fun o => bU.cell o
  have cbT_50 := fun o => bT.cell o
  have cbR_51 := fun o => bR.cell o
  have fbR_51 := fun o => bR.frozen o
  go_wp2_with fail
  refine (HSo.out _).mono ?_
  rintro e w5 ⟨rfl, hx5⟩
  replace hx := hx.trans hx5
  replace bM := bM.ext hx5
  replace bS := bS.ext hx5
  replace bU := bU.ext hx5
  replace bT := bT.ext hx5
  replace bR := bR.ext hx5
  have cbM_52 := fun o => bM.cell o
  have cbS_53 := fun o => bS.cell o
  have cbU_54 := fun o => bU.cell o
  have cbT_55 := fun o => bT.cell o
  have cbR_56 := fun o => bR.cell o
  have fbR_56 := fun o => bR.frozen o
  go_wp2
  have bF := ((bR.set_ 0 (.int .i64 z1)).set_ 1 (.int .i64 z2)).set_ 2 (.int .i64 z3)
  have cF := fun o => bF.cell o
  refine bodyPost_ret (v := .tuple #[.agg #[.int .i64 z1, .int .i64 z2, .int .i64 z3], .bool ok]) (by simp [results, Tryz.results59, go_sem, cF]) rfl ?_
  exact ⟨rfl, ext_tri hx (by omega) _ _ _⟩


end Go.Proofs.YtjghabbcjpfjeaaGreatDoor
/- Contracts of InSpan and PickInput of the reference. (written by tools/mkPc.py) -/
namespace Go.Proofs.YtjghabbcjpfjeaaGreatDoor
open Go.ChangeShapes Go.WideShapes Go.ChangeAt Go.RowKit
set_option linter.unusedVariables false


theorem sPick_bad {w : Span} {n : Int} (h : spanOk w = false) : specPick w n = ⟨0, 0⟩ := by unfold specPick; rw [h]; rfl
theorem sPick_in {w : Span} {n : Int} (h : spanOk w = true) (h1 : inSpan w ⟨clampI (-1000) 1000 n, 1⟩ = true) : specPick w n = ⟨clampI (-1000) 1000 n, 1⟩ := by unfold specPick; rw [if_pos h, if_pos h1]
theorem sPick_mid {w : Span} {n : Int} (h : spanOk w = true) (h1 : inSpan w ⟨clampI (-1000) 1000 n, 1⟩ = false) (h2 : ratioCeil w.Low ≤ ratioFloor w.High) : specPick w n = ⟨clampI (ratioCeil w.Low) (ratioFloor w.High) (clampI (-1000) 1000 n), 1⟩ := by unfold specPick; rw [if_pos h, if_neg (by rw [h1]; decide), if_pos h2]
theorem sPick_end {w : Span} {n : Int} (h : spanOk w = true) (h1 : inSpan w ⟨clampI (-1000) 1000 n, 1⟩ = false) (h2 : ¬ ratioCeil w.Low ≤ ratioFloor w.High) : specPick w n = ratioMin w.High (ratioMax w.Low ⟨clampI (-1000) 1000 n, 1⟩) := by unfold specPick; rw [if_pos h, if_neg (by rw [h1]; decide), if_neg h2]
end Go.Proofs.YtjghabbcjpfjeaaGreatDoor
/- Contracts of one step of the loop, of both. (written by tools/mkStp.py) -/
namespace Go.Proofs.YtjghabbcjpfjeaaGreatDoor
open Go.ChangeShapes Go.WideShapes Go.ChangeAt Go.RowKit
set_option linter.unusedVariables false
set_option maxRecDepth 100000

/-- one step of the loop: the next state and the input -/
def stepR (r : Room) (ps : List Half) (s : Spot) (n : Int) (t : Spot) : Option (Spot × Ratio) :=
  if spotOk s = true ∧ (admAtR r ps s).2 = true ∧ (nextR (dynOf r) s (pickInput (admAtR r ps s).1 n) t).2 = true then some ((nextR (dynOf r) s (pickInput (admAtR r ps s).1 n) t).1, pickInput (admAtR r ps s).1 n) else none
def stepV : Option (Spot × Ratio) → Value
  | none => .tuple #[.agg #[.int .i64 0, .int .i64 0, .int .i64 0], .agg #[.int .i64 0, .int .i64 0], .bool false]
  | some x => .tuple #[.agg #[.int .i64 x.1.X, .int .i64 x.1.Y, .int .i64 x.1.D], .agg #[.int .i64 x.2.N, .int .i64 x.2.D], .bool true]
def StepMade (x : Option (Spot × Ratio)) (w : World) (e : Ending) (w' : World) : Prop := e = .returned (stepV x) ∧ Ext w w'
theorem stepR_no {r : Room} {ps : List Half} {s t : Spot} {n : Int} (h : ¬ (spotOk s = true ∧ (admAtR r ps s).2 = true ∧ (nextR (dynOf r) s (pickInput (admAtR r ps s).1 n) t).2 = true)) : stepR r ps s n t = none := if_neg h
theorem stepR_yes {r : Room} {ps : List Half} {s t : Spot} {n : Int} (h : spotOk s = true ∧ (admAtR r ps s).2 = true ∧ (nextR (dynOf r) s (pickInput (admAtR r ps s).1 n) t).2 = true) : stepR r ps s n t = some ((nextR (dynOf r) s (pickInput (admAtR r ps s).1 n) t).1, pickInput (admAtR r ps s).1 n) := if_pos h
theorem Blk.tt {V : World} {g k : Nat} {t t' : TypeId} {x0 x1 x2 y0 y1 : Value} (hne : g ≠ k) (b1 : Blk V g t #[x0, x1, x2]) (b2 : Blk V k t' #[y0, y1]) (p q v r s : Value) :
    Blk (((((V.setCell ⟨g, 0, none⟩ p).setCell ⟨g, 1, none⟩ q).setCell ⟨g, 2, none⟩ v).setCell ⟨k, 0, none⟩ r).setCell ⟨k, 1, none⟩ s) g t #[p, q, v] ∧ Blk (((((V.setCell ⟨g, 0, none⟩ p).setCell ⟨g, 1, none⟩ q).setCell ⟨g, 2, none⟩ v).setCell ⟨k, 0, none⟩ r).setCell ⟨k, 1, none⟩ s) k t' #[r, s] :=
  ⟨((((b1.set_ 0 p).set_ 1 q).set_ 2 v).far (p := ⟨k, 0, none⟩) hne r).far (p := ⟨k, 1, none⟩) hne s, (((((b2.far (p := ⟨g, 0, none⟩) (Ne.symm hne) p).far (p := ⟨g, 1, none⟩) (Ne.symm hne) q).far (p := ⟨g, 2, none⟩) (Ne.symm hne) v).set_ 0 r).set_ 1 s)⟩
theorem Ext.tt {w V : World} {g k : Nat} (h : Ext w V) (hg : w.heap.size ≤ g) (hk : w.heap.size ≤ k) (p q v r s : Value) : Ext w (((((V.setCell ⟨g, 0, none⟩ p).setCell ⟨g, 1, none⟩ q).setCell ⟨g, 2, none⟩ v).setCell ⟨k, 0, none⟩ r).setCell ⟨k, 1, none⟩ s) :=
  ((((h.setCell (p := ⟨g, 0, none⟩) hg p).setCell (p := ⟨g, 1, none⟩) hg q).setCell (p := ⟨g, 2, none⟩) hg v).setCell (p := ⟨k, 0, none⟩) hk r).setCell (p := ⟨k, 1, none⟩) hk s
theorem spot_I64' {s : Spot} (h : spotOk s = true) : I64 s.X ∧ I64 s.Y ∧ I64 s.D := by
  have := spot_I64 h
  exact ⟨this.1, this.2.1, this.2.2.1⟩
theorem ratio_I {u : Ratio} (h : ratioOk u = true) : I64 u.N ∧ I64 u.D := by
  have := ratioOk_bd h
  unfold I64
  omega
theorem span_I {w : Span} (h : spanOk w = true) : (I64 w.Low.N ∧ I64 w.Low.D) ∧ (I64 w.High.N ∧ I64 w.High.D) := by
  unfold spanOk at h
  simp only [Bool.and_eq_true] at h
  exact ⟨ratio_I h.1.1, ratio_I h.1.2⟩
theorem pickInput_ok {w : Span} (h : spanOk w = true) (n : Int) : ratioOk (pickInput w n) = true := by
  have hk := h
  unfold spanOk at hk
  simp only [Bool.and_eq_true] at hk
  have hc := clampI_bd (-1000) 1000 n (by omega)
  have cb := ratioCeil_bd w.Low
  have fb := ratioFloor_bd w.High
  unfold pickInput
  rw [if_pos h]
  split
  · split
    · exact ratioOk_one (by omega) (by omega)
    · exact hk.1.1
  · split
    · split
      · exact ratioOk_one (by omega) (by omega)
      · exact hk.1.2
    · exact ratioOk_one (by omega) (by omega)

set_option maxHeartbeats 16000000 in
theorem implStep0_ok (r : Room) (A0 A6 A7 : Option Addr) (c0 c6 c7 : Nat) (A : Option Addr) (n c : Nat) (ps E : List Half) (s t : Spot) (z : Int) (w : World) (hv : RoomV r) (ha : RoomHere w r A0 A6 A7 c0 c6 c7) (hn : E.length = n) (hr : Row w A (ints (flat Half.ints E))) (hE : erodeR ps r.Noise = (E, true)) (hne : E ≠ []) (hs : I64 s.X ∧ I64 s.Y ∧ I64 s.D) (ht : I64 t.X ∧ I64 t.Y ∧ I64 t.D) :
    Calls Tryz.prog 64 #[.agg #[.slice A0 r.Map.length c0, .int .i64 r.Div, .int .i64 r.Bx, .int .i64 r.By, .int .i64 r.Low, .int .i64 r.High, .slice A6 r.Noise.length c6, .slice A7 r.Limits.length c7], .agg #[.slice A n c], .agg #[.int .i64 s.X, .int .i64 s.Y, .int .i64 s.D], .int .i64 z, .agg #[.int .i64 t.X, .int .i64 t.Y, .int .i64 t.D]] w (StepMade (stepR r ps s z t) w) := by
  unfold StepMade
  have HS := Lib.hid (fun w => implSpotOk_any s.X s.Y s.D w hs.1 hs.2.1 hs.2.2)
  change Hid (∀ w, Calls Tryz.prog 56 #[.agg #[.int .i64 s.X, .int .i64 s.Y, .int .i64 s.D]] w fun e w' => e = .returned (.bool (spotOk s)) ∧ Ext w w') at HS
  have hEk : regOk E = true := by have := erodeR_ok ps r.Noise; rw [hE] at this; exact this
  have hl := regOk_len hEk
  have HAd := Lib.hid (fun w ha hr hs => implAdmit_ok r A0 A6 A7 c0 c6 c7 A n c E s w hv ha hn hr (regOk_all hEk) (by omega) hs)
  have HBig := Lib.hid (fun w h => implAdmit_big r A0 A6 A7 c0 c6 c7 A n c s w h)
  have HNx := Lib.hid (fun u w ha hu => implNext_ok r A0 A6 A7 c0 c6 c7 s t u w hv ha hs ht hu)
  have HSp : Hid ((admitR (dynOf r) E s).2 = true → spanOk (admitR (dynOf r) E s).1 = true) := admit_span
  have HNo := Lib.hid (fun h => stepR_no (r := r) (ps := ps) (s := s) (n := z) (t := t) h)
  have HYes := Lib.hid (fun h => stepR_yes (r := r) (ps := ps) (s := s) (n := z) (t := t) h)
  have HAy : Hid (s.D ≤ 100000 → admAtR r ps s = admitR (dynOf r) E s) := fun h => by
    have e := admAt_yes (r := r) (ps := ps) (s := s) ⟨by rw [hE], by rw [hE]; exact hne, h⟩
    rw [hE] at e
    exact e
  have HAn : Hid (¬ s.D ≤ 100000 → admAtR r ps s = (zeroSpan, false)) := fun h => admAt_no (fun q => h q.2.2)
  have HSs : Hid (spotOk s = true → s.D ≤ 100000 → SpotS s) := fun h1 h2 => spotS_of h1 h2
  have HA := Lib.hid ha
  have HR := Lib.hid hr
  have hx : Ext w ((((((w.alloc (.cells #[.slice A0 r.Map.length c0, .int .i64 r.Div, .int .i64 r.Bx, .int .i64 r.By, .int .i64 r.Low, .int .i64 r.High, .slice A6 r.Noise.length c6, .slice A7 r.Limits.length c7] 28)).alloc (.cells #[.slice A n c] 26)).alloc (.cells #[.int .i64 s.X, .int .i64 s.Y, .int .i64 s.D] 30)).alloc (.cells #[.int .i64 t.X, .int .i64 t.Y, .int .i64 t.D] 30)).alloc (.cells #[.int .i64 0, .int .i64 0, .int .i64 0] 30)).alloc (.cells #[.int .i64 0, .int .i64 0] 44)) := by repeat (first | exact Ext.refl _ | refine Ext.alloc ?_ _)
  have bM : Blk ((((((w.alloc (.cells #[.slice A0 r.Map.length c0, .int .i64 r.Div, .int .i64 r.Bx, .int .i64 r.By, .int .i64 r.Low, .int .i64 r.High, .slice A6 r.Noise.length c6, .slice A7 r.Limits.length c7] 28)).alloc (.cells #[.slice A n c] 26)).alloc (.cells #[.int .i64 s.X, .int .i64 s.Y, .int .i64 s.D] 30)).alloc (.cells #[.int .i64 t.X, .int .i64 t.Y, .int .i64 t.D] 30)).alloc (.cells #[.int .i64 0, .int .i64 0, .int .i64 0] 30)).alloc (.cells #[.int .i64 0, .int .i64 0] 44)) (w.heap.size) 28 #[.slice A0 r.Map.length c0, .int .i64 r.Div, .int .i64 r.Bx, .int .i64 r.By, .int .i64 r.Low, .int .i64 r.High, .slice A6 r.Noise.length c6, .slice A7 r.Limits.length c7] := by
    have q := Blk.new w 28 #[.slice A0 r.Map.length c0, .int .i64 r.Div, .int .i64 r.Bx, .int .i64 r.By, .int .i64 r.Low, .int .i64 r.High, .slice A6 r.Noise.length c6, .slice A7 r.Limits.length c7]
    replace q := q.alloc (.cells #[.slice A n c] 26)
    replace q := q.alloc (.cells #[.int .i64 s.X, .int .i64 s.Y, .int .i64 s.D] 30)
    replace q := q.alloc (.cells #[.int .i64 t.X, .int .i64 t.Y, .int .i64 t.D] 30)
    replace q := q.alloc (.cells #[.int .i64 0, .int .i64 0, .int .i64 0] 30)
    replace q := q.alloc (.cells #[.int .i64 0, .int .i64 0] 44)
    simpa only [World.size_alloc] using q
  have bP : Blk ((((((w.alloc (.cells #[.slice A0 r.Map.length c0, .int .i64 r.Div, .int .i64 r.Bx, .int .i64 r.By, .int .i64 r.Low, .int .i64 r.High, .slice A6 r.Noise.length c6, .slice A7 r.Limits.length c7] 28)).alloc (.cells #[.slice A n c] 26)).alloc (.cells #[.int .i64 s.X, .int .i64 s.Y, .int .i64 s.D] 30)).alloc (.cells #[.int .i64 t.X, .int .i64 t.Y, .int .i64 t.D] 30)).alloc (.cells #[.int .i64 0, .int .i64 0, .int .i64 0] 30)).alloc (.cells #[.int .i64 0, .int .i64 0] 44)) (w.heap.size + 1) 26 #[.slice A n c] := by
    have q := Blk.new (w.alloc (.cells #[.slice A0 r.Map.length c0, .int .i64 r.Div, .int .i64 r.Bx, .int .i64 r.By, .int .i64 r.Low, .int .i64 r.High, .slice A6 r.Noise.length c6, .slice A7 r.Limits.length c7] 28)) 26 #[.slice A n c]
    replace q := q.alloc (.cells #[.int .i64 s.X, .int .i64 s.Y, .int .i64 s.D] 30)
    replace q := q.alloc (.cells #[.int .i64 t.X, .int .i64 t.Y, .int .i64 t.D] 30)
    replace q := q.alloc (.cells #[.int .i64 0, .int .i64 0, .int .i64 0] 30)
    replace q := q.alloc (.cells #[.int .i64 0, .int .i64 0] 44)
    simpa only [World.size_alloc] using q
  have bS : Blk ((((((w.alloc (.cells #[.slice A0 r.Map.length c0, .int .i64 r.Div, .int .i64 r.Bx, .int .i64 r.By, .int .i64 r.Low, .int .i64 r.High, .slice A6 r.Noise.length c6, .slice A7 r.Limits.length c7] 28)).alloc (.cells #[.slice A n c] 26)).alloc (.cells #[.int .i64 s.X, .int .i64 s.Y, .int .i64 s.D] 30)).alloc (.cells #[.int .i64 t.X, .int .i64 t.Y, .int .i64 t.D] 30)).alloc (.cells #[.int .i64 0, .int .i64 0, .int .i64 0] 30)).alloc (.cells #[.int .i64 0, .int .i64 0] 44)) (w.heap.size + 1 + 1) 30 #[.int .i64 s.X, .int .i64 s.Y, .int .i64 s.D] := by
    have q := Blk.new ((w.alloc (.cells #[.slice A0 r.Map.length c0, .int .i64 r.Div, .int .i64 r.Bx, .int .i64 r.By, .int .i64 r.Low, .int .i64 r.High, .slice A6 r.Noise.length c6, .slice A7 r.Limits.length c7] 28)).alloc (.cells #[.slice A n c] 26)) 30 #[.int .i64 s.X, .int .i64 s.Y, .int .i64 s.D]
    replace q := q.alloc (.cells #[.int .i64 t.X, .int .i64 t.Y, .int .i64 t.D] 30)
    replace q := q.alloc (.cells #[.int .i64 0, .int .i64 0, .int .i64 0] 30)
    replace q := q.alloc (.cells #[.int .i64 0, .int .i64 0] 44)
    simpa only [World.size_alloc] using q
  have bT : Blk ((((((w.alloc (.cells #[.slice A0 r.Map.length c0, .int .i64 r.Div, .int .i64 r.Bx, .int .i64 r.By, .int .i64 r.Low, .int .i64 r.High, .slice A6 r.Noise.length c6, .slice A7 r.Limits.length c7] 28)).alloc (.cells #[.slice A n c] 26)).alloc (.cells #[.int .i64 s.X, .int .i64 s.Y, .int .i64 s.D] 30)).alloc (.cells #[.int .i64 t.X, .int .i64 t.Y, .int .i64 t.D] 30)).alloc (.cells #[.int .i64 0, .int .i64 0, .int .i64 0] 30)).alloc (.cells #[.int .i64 0, .int .i64 0] 44)) (w.heap.size + 1 + 1 + 1) 30 #[.int .i64 t.X, .int .i64 t.Y, .int .i64 t.D] := by
    have q := Blk.new (((w.alloc (.cells #[.slice A0 r.Map.length c0, .int .i64 r.Div, .int .i64 r.Bx, .int .i64 r.By, .int .i64 r.Low, .int .i64 r.High, .slice A6 r.Noise.length c6, .slice A7 r.Limits.length c7] 28)).alloc (.cells #[.slice A n c] 26)).alloc (.cells #[.int .i64 s.X, .int .i64 s.Y, .int .i64 s.D] 30)) 30 #[.int .i64 t.X, .int .i64 t.Y, .int .i64 t.D]
    replace q := q.alloc (.cells #[.int .i64 0, .int .i64 0, .int .i64 0] 30)
    replace q := q.alloc (.cells #[.int .i64 0, .int .i64 0] 44)
    simpa only [World.size_alloc] using q
  have bA : Blk ((((((w.alloc (.cells #[.slice A0 r.Map.length c0, .int .i64 r.Div, .int .i64 r.Bx, .int .i64 r.By, .int .i64 r.Low, .int .i64 r.High, .slice A6 r.Noise.length c6, .slice A7 r.Limits.length c7] 28)).alloc (.cells #[.slice A n c] 26)).alloc (.cells #[.int .i64 s.X, .int .i64 s.Y, .int .i64 s.D] 30)).alloc (.cells #[.int .i64 t.X, .int .i64 t.Y, .int .i64 t.D] 30)).alloc (.cells #[.int .i64 0, .int .i64 0, .int .i64 0] 30)).alloc (.cells #[.int .i64 0, .int .i64 0] 44)) (w.heap.size + 1 + 1 + 1 + 1) 30 #[.int .i64 0, .int .i64 0, .int .i64 0] := by
    have q := Blk.new ((((w.alloc (.cells #[.slice A0 r.Map.length c0, .int .i64 r.Div, .int .i64 r.Bx, .int .i64 r.By, .int .i64 r.Low, .int .i64 r.High, .slice A6 r.Noise.length c6, .slice A7 r.Limits.length c7] 28)).alloc (.cells #[.slice A n c] 26)).alloc (.cells #[.int .i64 s.X, .int .i64 s.Y, .int .i64 s.D] 30)).alloc (.cells #[.int .i64 t.X, .int .i64 t.Y, .int .i64 t.D] 30)) 30 #[.int .i64 0, .int .i64 0, .int .i64 0]
    replace q := q.alloc (.cells #[.int .i64 0, .int .i64 0] 44)
    simpa only [World.size_alloc] using q
  have bB : Blk ((((((w.alloc (.cells #[.slice A0 r.Map.length c0, .int .i64 r.Div, .int .i64 r.Bx, .int .i64 r.By, .int .i64 r.Low, .int .i64 r.High, .slice A6 r.Noise.length c6, .slice A7 r.Limits.length c7] 28)).alloc (.cells #[.slice A n c] 26)).alloc (.cells #[.int .i64 s.X, .int .i64 s.Y, .int .i64 s.D] 30)).alloc (.cells #[.int .i64 t.X, .int .i64 t.Y, .int .i64 t.D] 30)).alloc (.cells #[.int .i64 0, .int .i64 0, .int .i64 0] 30)).alloc (.cells #[.int .i64 0, .int .i64 0] 44)) (w.heap.size + 1 + 1 + 1 + 1 + 1) 44 #[.int .i64 0, .int .i64 0] := by
    have q := Blk.new (((((w.alloc (.cells #[.slice A0 r.Map.length c0, .int .i64 r.Div, .int .i64 r.Bx, .int .i64 r.By, .int .i64 r.Low, .int .i64 r.High, .slice A6 r.Noise.length c6, .slice A7 r.Limits.length c7] 28)).alloc (.cells #[.slice A n c] 26)).alloc (.cells #[.int .i64 s.X, .int .i64 s.Y, .int .i64 s.D] 30)).alloc (.cells #[.int .i64 t.X, .int .i64 t.Y, .int .i64 t.D] 30)).alloc (.cells #[.int .i64 0, .int .i64 0, .int .i64 0] 30)) 44 #[.int .i64 0, .int .i64 0]
    simpa only [World.size_alloc] using q
  clear hv ha hn hr hE hne hs ht hEk hl
  obtain ⟨o1, ho1⟩ : ∃ o, spotOk s = o := ⟨_, rfl⟩
  generalize stepR r ps s z t = X at *
  generalize admAtR r ps s = AT_ at *
  generalize admitR (dynOf r) E s = AR at *
  rw [ho1] at HS HNo HYes HSs
  clear ho1
  have cA := fun o => bA.cell o
  have cB := fun o => bB.cell o
  have cbM_143 := fun o => bM.cell o
  have cbP_144 := fun o => bP.cell o
  have cbS_145 := fun o => bS.cell o
  have cbT_146 := fun o => bT.cell o
  have cbA_147 := fun o => bA.cell o
  have fbA_147 := fun o => bA.frozen o
  have cbB_148 := fun o => bB.cell o
  have fbB_148 := fun o => bB.frozen o
  go_enter Tryz.func64, Tryz.ntmps64
  go_wp2_with fail
  refine (HS.out _).mono ?_
  rintro e w1 ⟨rfl, hx1⟩
  replace hx := hx.trans hx1
  replace bM := bM.ext hx1
  replace bP := bP.ext hx1
  replace bS := bS.ext hx1
  replace bT := bT.ext hx1
  replace bA := bA.ext hx1
  replace bB := bB.ext hx1
  have cbM_149 := fun o => bM.cell o
  have cbP_150 := fun o => bP.cell o
  have cbS_151 := fun o => bS.cell o
  have cbT_152 := fun o => bT.cell o
  have cbA_153 := fun o => bA.cell o
  have fbA_153 := fun o => bA.frozen o
  have cbB_154 := fun o => bB.cell o
  have fbB_154 := fun o => bB.frozen o
  cases o1
  · have H := Lib.hid (HNo.out (fun h => by cases h.1))
    go_wp2
    obtain ⟨z1, z2⟩ := Blk.tt (by omega) bA bB (.int .i64 0) (.int .i64 0) (.int .i64 0) (.int .i64 0) (.int .i64 0)
    have d1 := fun o => (z1).cell o
    have d2 := fun o => (z2).cell o
    clear cA cB
    refine bodyPost_ret (v := .tuple #[.agg #[.int .i64 0, .int .i64 0, .int .i64 0], .agg #[.int .i64 0, .int .i64 0], .bool false]) (by simp [results, Tryz.results64, go_sem, d1, d2]) rfl ?_
    exact ⟨by rw [H.out]; rfl, by first | (with_reducible exact ((hx).tt (by omega) (by omega) _ _ _ _ _)) | exact ((hx).tt (by omega) (by omega) _ _ _ _ _)⟩
  by_cases hD : s.D ≤ 100000
  rotate_left
  · have H := Lib.hid (HNo.out (fun h => by have := h.2.1; rw [HAn.out (by omega)] at this; cases this))
    go_wp2_with fail
    refine (HBig.out _ (by omega)).mono ?_
    rintro e w2 ⟨rfl, hx2⟩
    dsimp only [zeroSpan]
    replace hx := hx.trans hx2
    replace bM := bM.ext hx2
    replace bP := bP.ext hx2
    replace bS := bS.ext hx2
    replace bT := bT.ext hx2
    replace bA := bA.ext hx2
    replace bB := bB.ext hx2
    have cbM_155 := fun o => bM.cell o
    have cbP_156 := fun o => bP.cell o
    have cbS_157 := fun o => bS.cell o
    have cbT_158 := fun o => bT.cell o
    have cbA_159 := fun o => bA.cell o
    have fbA_159 := fun o => bA.frozen o
    have cbB_160 := fun o => bB.cell o
    have fbB_160 := fun o => bB.frozen o
    have hy2 := hx
    have bA2 := bA
    have bB2 := bB
    have lA := bA.lt
    have lB := bB.lt
    go_wp2
    obtain ⟨z1, z2⟩ := Blk.tt (by omega) bA2 bB2 (.int .i64 0) (.int .i64 0) (.int .i64 0) (.int .i64 0) (.int .i64 0)
    have d1 := fun o => (z1.alloc (.cells #[.int .i64 0, .int .i64 0, .int .i64 0, .int .i64 0] 46)).cell o
    have d2 := fun o => (z2.alloc (.cells #[.int .i64 0, .int .i64 0, .int .i64 0, .int .i64 0] 46)).cell o
    clear cA cB
    refine bodyPost_ret (v := .tuple #[.agg #[.int .i64 0, .int .i64 0, .int .i64 0], .agg #[.int .i64 0, .int .i64 0], .bool false]) (by simp [results, Tryz.results64, go_sem, d1, d2]) rfl ?_
    exact ⟨by rw [H.out]; rfl, by first | (with_reducible exact ((hy2).tt (by omega) (by omega) _ _ _ _ _).alloc _) | exact ((hy2).tt (by omega) (by omega) _ _ _ _ _).alloc _⟩
  have hAD := HAy.out hD
  have HSS := Lib.hid (HSs.out rfl hD)
  subst hAD
  go_wp2_with fail
  refine (HAd.out _ (HA.out.ext hx) (HR.out.ext hx) HSS.out).mono ?_
  rintro e w2 ⟨rfl, hx2⟩
  replace hx := hx.trans hx2
  replace bM := bM.ext hx2
  replace bP := bP.ext hx2
  replace bS := bS.ext hx2
  replace bT := bT.ext hx2
  replace bA := bA.ext hx2
  replace bB := bB.ext hx2
  have cbM_161 := fun o => bM.cell o
  have cbP_162 := fun o => bP.cell o
  have cbS_163 := fun o => bS.cell o
  have cbT_164 := fun o => bT.cell o
  have cbA_165 := fun o => bA.cell o
  have fbA_165 := fun o => bA.frozen o
  have cbB_166 := fun o => bB.cell o
  have fbB_166 := fun o => bB.frozen o
  obtain ⟨⟨⟨ln, ld⟩, ⟨hn_, hd_⟩⟩, ok⟩ := AT_
  dsimp only at *
  have bW := Blk.new w2 46 #[.int .i64 ln, .int .i64 ld, .int .i64 hn_, .int .i64 hd_]
  have hy2 := hx
  have bA2 := bA
  have bB2 := bB
  have lA := bA.lt
  have lB := bB.lt
  have ha2 := (Ext.refl w2).alloc (.cells #[.int .i64 ln, .int .i64 ld, .int .i64 hn_, .int .i64 hd_] 46)
  replace hx := hx.trans ha2
  replace bM := bM.ext ha2
  replace bP := bP.ext ha2
  replace bS := bS.ext ha2
  replace bT := bT.ext ha2
  replace bA := bA.ext ha2
  replace bB := bB.ext ha2
  have cbM_167 := fun o => bM.cell o
  have cbP_168 := fun o => bP.cell o
  have cbS_169 := fun o => bS.cell o
  have cbT_170 := fun o => bT.cell o
  have cbA_171 := fun o => bA.cell o
  have fbA_171 := fun o => bA.frozen o
  have cbB_172 := fun o => bB.cell o
  have fbB_172 := fun o => bB.frozen o
  cases ok
  · have H := Lib.hid (HNo.out (fun h => by cases h.2.1))
    go_wp2
    obtain ⟨z1, z2⟩ := Blk.tt (by omega) bA2 bB2 (.int .i64 0) (.int .i64 0) (.int .i64 0) (.int .i64 0) (.int .i64 0)
    have d1 := fun o => (z1.alloc (.cells #[.int .i64 ln, .int .i64 ld, .int .i64 hn_, .int .i64 hd_] 46)).cell o
    have d2 := fun o => (z2.alloc (.cells #[.int .i64 ln, .int .i64 ld, .int .i64 hn_, .int .i64 hd_] 46)).cell o
    clear cA cB
    refine bodyPost_ret (v := .tuple #[.agg #[.int .i64 0, .int .i64 0, .int .i64 0], .agg #[.int .i64 0, .int .i64 0], .bool false]) (by simp [results, Tryz.results64, go_sem, d1, d2]) rfl ?_
    exact ⟨by rw [H.out]; rfl, by first | (with_reducible exact ((hy2).tt (by omega) (by omega) _ _ _ _ _).alloc _) | exact ((hy2).tt (by omega) (by omega) _ _ _ _ _).alloc _⟩
  clear hy2 bA2 bB2
  have hsp := HSp.out rfl
  obtain ⟨⟨i1, i2⟩, ⟨i3, i4⟩⟩ := span_I hsp
  have HPk := Lib.hid (fun w => pickInput_any ln ld hn_ hd_ z w i1 i2 i3 i4)
  have hui := ratio_I (pickInput_ok hsp z)
  have HUI := Lib.hid hui
  generalize pickInput ⟨⟨ln, ld⟩, ⟨hn_, hd_⟩⟩ z = u at *
  clear hsp i1 i2 i3 i4 hui
  have HNu := Lib.hid (fun w ha => HNx.out u w ha HUI.out)
  obtain ⟨un, ud⟩ := u
  dsimp only at *
  generalize nextR (dynOf r) s ⟨un, ud⟩ t = NX at *
  obtain ⟨⟨x1, x2, x3⟩, ok⟩ := NX
  dsimp only at *
  go_wp2_with fail
  refine (HPk.out _).mono ?_
  rintro e w3 ⟨rfl, hx3⟩
  replace hx := hx.trans hx3
  replace bM := bM.ext hx3
  replace bP := bP.ext hx3
  replace bS := bS.ext hx3
  replace bT := bT.ext hx3
  replace bA := bA.ext hx3
  replace bB := bB.ext hx3
  replace bW := bW.ext hx3
  have cbM_173 := fun o => bM.cell o
  have cbP_174 := fun o => bP.cell o
  have cbS_175 := fun o => bS.cell o
  have cbT_176 := fun o => bT.cell o
  have cbA_177 := fun o => bA.cell o
  have fbA_177 := fun o => bA.frozen o
  have cbB_178 := fun o => bB.cell o
  have fbB_178 := fun o => bB.frozen o
  have cbW_179 := fun o => bW.cell o
  have lB3 := bB.lt
  have bU := Blk.new w3 44 #[.int .i64 un, .int .i64 ud]
  have ha3 := (Ext.refl w3).alloc (.cells #[.int .i64 un, .int .i64 ud] 44)
  replace hx := hx.trans ha3
  replace bM := bM.ext ha3
  replace bP := bP.ext ha3
  replace bS := bS.ext ha3
  replace bT := bT.ext ha3
  replace bA := bA.ext ha3
  replace bB := bB.ext ha3
  replace bW := bW.ext ha3
  have cbM_180 := fun o => bM.cell o
  have cbP_181 := fun o => bP.cell o
  have cbS_182 := fun o => bS.cell o
  have cbT_183 := fun o => bT.cell o
  have cbA_184 := fun o => bA.cell o
  have fbA_184 := fun o => bA.frozen o
  have cbB_185 := fun o => bB.cell o
  have fbB_185 := fun o => bB.frozen o
  have cbW_186 := fun o => bW.cell o
  go_wp2_with fail
  refine (HNu.out _ (HA.out.ext hx)).mono ?_
  rintro e w4 ⟨rfl, hx4⟩
  replace hx := hx.trans hx4
  replace bM := bM.ext hx4
  replace bP := bP.ext hx4
  replace bS := bS.ext hx4
  replace bT := bT.ext hx4
  replace bA := bA.ext hx4
  replace bB := bB.ext hx4
  replace bW := bW.ext hx4
  replace bU := bU.ext hx4
  have cbM_187 := fun o => bM.cell o
  have cbP_188 := fun o => bP.cell o
  have cbS_189 := fun o => bS.cell o
  have cbT_190 := fun o => bT.cell o
  have cbA_191 := fun o => bA.cell o
  have fbA_191 := fun o => bA.frozen o
  have cbB_192 := fun o => bB.cell o
  have fbB_192 := fun o => bB.frozen o
  have cbW_193 := fun o => bW.cell o
  have cbU_194 := fun o => bU.cell o
  have lU := bU.lt
  have cU4 := fun o => bU.cell o
  have cA4 := fun o => bA.cell o
  have cB4 := fun o => bB.cell o
  have fA4 := fun o => bA.frozen o
  have fB4 := fun o => bB.frozen o
  have bN := Blk.new w4 30 #[.int .i64 x1, .int .i64 x2, .int .i64 x3]
  have hy2 := hx
  have bA2 := bA
  have bB2 := bB
  have lA := bA.lt
  have lB := bB.lt
  have ha4 := (Ext.refl w4).alloc (.cells #[.int .i64 x1, .int .i64 x2, .int .i64 x3] 30)
  replace hx := hx.trans ha4
  replace bM := bM.ext ha4
  replace bP := bP.ext ha4
  replace bS := bS.ext ha4
  replace bT := bT.ext ha4
  replace bA := bA.ext ha4
  replace bB := bB.ext ha4
  replace bW := bW.ext ha4
  replace bU := bU.ext ha4
  have cbM_195 := fun o => bM.cell o
  have cbP_196 := fun o => bP.cell o
  have cbS_197 := fun o => bS.cell o
  have cbT_198 := fun o => bT.cell o
  have cbA_199 := fun o => bA.cell o
  have fbA_199 := fun o => bA.frozen o
  have cbB_200 := fun o => bB.cell o
  have fbB_200 := fun o => bB.frozen o
  have cbW_201 := fun o => bW.cell o
  have cbU_202 := fun o => bU.cell o
  cases ok
  · have H := Lib.hid (HNo.out (fun h => by cases h.2.2))
    go_wp2
    obtain ⟨z1, z2⟩ := Blk.tt (by omega) bA2 bB2 (.int .i64 0) (.int .i64 0) (.int .i64 0) (.int .i64 0) (.int .i64 0)
    have d1 := fun o => (z1.alloc (.cells #[.int .i64 x1, .int .i64 x2, .int .i64 x3] 30)).cell o
    have d2 := fun o => (z2.alloc (.cells #[.int .i64 x1, .int .i64 x2, .int .i64 x3] 30)).cell o
    clear cA cB
    refine bodyPost_ret (v := .tuple #[.agg #[.int .i64 0, .int .i64 0, .int .i64 0], .agg #[.int .i64 0, .int .i64 0], .bool false]) (by simp [results, Tryz.results64, go_sem, d1, d2]) rfl ?_
    exact ⟨by rw [H.out]; rfl, by first | (with_reducible exact ((hy2).tt (by omega) (by omega) _ _ _ _ _).alloc _) | exact ((hy2).tt (by omega) (by omega) _ _ _ _ _).alloc _⟩
  have H := Lib.hid (HYes.out (by first | exact ⟨rfl, rfl, rfl⟩ | simp))
  have n1 : w3.heap.size ≠ w.heap.size + 1 + 1 + 1 + 1 := by omega
  have n2 : w.heap.size + 1 + 1 + 1 + 1 ≠ w3.heap.size := by omega
  have n3 : w3.heap.size ≠ w.heap.size + 1 + 1 + 1 + 1 + 1 := by omega
  have n4 : w.heap.size + 1 + 1 + 1 + 1 + 1 ≠ w3.heap.size := by omega
  have n5 : w3.heap.size ≠ w4.heap.size := by omega
  go_wp2
  go_region
  all_goals
    go_wp2
    obtain ⟨y1, y2⟩ := Blk.tt (by omega) bA2 bB2 (.int .i64 x1) (.int .i64 x2) (.int .i64 x3) (.int .i64 un) (.int .i64 ud)
    have z1 := (y1.alloc (.cells #[.int .i64 x1, .int .i64 x2, .int .i64 x3] 30)).ext (Ext.refl _).drew
    have z2 := (y2.alloc (.cells #[.int .i64 x1, .int .i64 x2, .int .i64 x3] 30)).ext (Ext.refl _).drew
    have d1 := fun o => z1.cell o
    have d2 := fun o => z2.cell o
    clear cA cB cA4 cB4
    rw [H.out]
    refine bodyPost_ret (v := .tuple #[.agg #[.int .i64 x1, .int .i64 x2, .int .i64 x3], .agg #[.int .i64 un, .int .i64 ud], .bool true]) (by simp [results, Tryz.results64, go_sem, d1, d2]) rfl ?_
    exact ⟨rfl, ((hy2.tt (by omega) (by omega) _ _ _ _ _).alloc _).drew⟩


end Go.Proofs.YtjghabbcjpfjeaaGreatDoor
/- Plain words of a run of the loop: the states and the inputs, step by step; tracks in memory, their two rows in any order. -/
namespace Go.Proofs.YtjghabbcjpfjeaaGreatDoor
open Go.ChangeShapes Go.WideShapes Go.ChangeAt Go.RowKit
set_option linter.unusedVariables false

def trackK (r : Room) (ps : List Half) (s : Spot) (ws : List Int) (ns : List Spot) : Nat → Option Track
  | 0 => some ⟨[s], []⟩
  | k + 1 => match trackK r ps s ws ns k with
    | none => none
    | some T => match stepR r ps (T.Spots.getLastD s) (ws.getD k 0) (ns.getD (k % ns.length) ⟨0, 0, 0⟩) with
      | none => none
      | some x => some ⟨T.Spots ++ [x.1], T.Inputs ++ [x.2]⟩
def noTrack : Track := ⟨[], []⟩
def trackAll (r : Room) (ps : List Half) (s : Spot) (ws : List Int) (ns : List Spot) : Track × Bool := match trackK r ps s ws ns ws.length with
  | some T => (T, true)
  | none => (noTrack, false)
def runOk (r : Room) (ps : List Half) (s : Spot) (ws : List Int) (ns : List Spot) : Bool := decide (ws.length ≤ 20) && !decide (ns.length = 0) && hasSpot ps s && roomOk r
/-- a run of the loop -/
def trackR (r : Room) (ps : List Half) (s : Spot) (ws : List Int) (ns : List Spot) : Track × Bool := if runOk r ps s ws ns = true then trackAll r ps s ws ns else (noTrack, false)
section
variable {r : Room} {ps : List Half} {s : Spot} {ws : List Int} {ns : List Spot}
theorem trackR_no (h : runOk r ps s ws ns = false) : trackR r ps s ws ns = (noTrack, false) := if_neg (by rw [h]; decide)
theorem trackR_yes (h : runOk r ps s ws ns = true) : trackR r ps s ws ns = trackAll r ps s ws ns := if_pos h
theorem trackK_step {k : Nat} {T : Track} (h : trackK r ps s ws ns k = some T) : trackK r ps s ws ns (k + 1) = match stepR r ps (T.Spots.getLastD s) (ws.getD k 0) (ns.getD (k % ns.length) ⟨0, 0, 0⟩) with
      | none => none
      | some x => some ⟨T.Spots ++ [x.1], T.Inputs ++ [x.2]⟩ := by
  rw [trackK, h]
theorem trackK_len : ∀ (k : Nat) (T : Track), trackK r ps s ws ns k = some T → T.Spots.length = k + 1 ∧ T.Inputs.length = k
  | 0, T, h => by injection h with h; subst h; exact ⟨rfl, rfl⟩
  | k + 1, T, h => by
    cases e : trackK r ps s ws ns k with
    | none => rw [trackK, e] at h; cases h
    | some U =>
      rw [trackK_step e] at h
      obtain ⟨h1, h2⟩ := trackK_len k U e
      cases e2 : stepR r ps (U.Spots.getLastD s) (ws.getD k 0) (ns.getD (k % ns.length) ⟨0, 0, 0⟩) with
      | none => rw [e2] at h; cases h
      | some x =>
        rw [e2] at h
        injection h with h
        subst h
        simp only [List.length_append, List.length_cons, List.length_nil]
        omega
theorem trackK_none {k : Nat} (h : trackK r ps s ws ns k = none) : ∀ j, trackK r ps s ws ns (k + j) = none
  | 0 => h
  | j + 1 => by rw [← Nat.add_assoc, trackK, trackK_none h j]
theorem trackAll_none {k : Nat} (h : trackK r ps s ws ns k = none) (hk : k ≤ ws.length) : trackAll r ps s ws ns = (noTrack, false) := by
  have e := trackK_none h (ws.length - k)
  rw [show k + (ws.length - k) = ws.length by omega] at e
  unfold trackAll
  rw [e]
theorem trackAll_some {T : Track} (h : trackK r ps s ws ns ws.length = some T) : trackAll r ps s ws ns = (T, true) := by
  unfold trackAll
  rw [h]
end
/-- a track's two rows in memory, in any order -/
def TrackPt (w : World) (n0 n1 : Nat) (x0 x1 : List Value) (us : List Value) (lo hi : Nat) : Prop :=
  ∃ A0 c0 A1 c1 l0 h0 l1 h1, us = [.slice A0 n0 c0, .slice A1 n1 c1] ∧ Mine w l0 h0 30 3 (.slice A0 n0 c0) n0 x0 ∧ Mine w l1 h1 44 2 (.slice A1 n1 c1) n1 x1 ∧ lo ≤ l0 ∧ h0 ≤ hi ∧ lo ≤ l1 ∧ h1 ≤ hi ∧ (h0 ≤ l1 ∨ h1 ≤ l0)
def TrackM (w : World) (T : Track) (us : List Value) (lo hi : Nat) : Prop := TrackPt w T.Spots.length T.Inputs.length (ints (flat Spot.ints T.Spots)) (ints (flat Ratio.ints T.Inputs)) us lo hi
def TrackMk (w : World) (T : Track) (k : Int) (us : List Value) (lo hi : Nat) : Prop := TrackPt w T.Spots.length T.Inputs.length (ints (upTo k (T.Spots.length * 3))) (ints (upTo (k + ((T.Spots.length * 3 : Nat) : Int)) (T.Inputs.length * 2))) us lo hi
section
variable {w w' : World} {n0 n1 lo hi l h' : Nat} {x0 x1 us : List Value} {T : Track} {k : Int}
theorem TrackPt.ext (h : TrackPt w n0 n1 x0 x1 us lo hi) (hx : Ext w w') : TrackPt w' n0 n1 x0 x1 us lo hi := by
  obtain ⟨A0, c0, A1, c1, l0, h0, l1, h1, e, m0, m1, q⟩ := h
  exact ⟨A0, c0, A1, c1, l0, h0, l1, h1, e, m0.ext hx, m1.ext hx, q⟩
theorem TrackPt.touch (h : TrackPt w n0 n1 x0 x1 us lo hi) (k : Touch l h' w w') (hd : hi ≤ l ∨ h' ≤ lo) : TrackPt w' n0 n1 x0 x1 us lo hi := by
  obtain ⟨A0, c0, A1, c1, l0, h0, l1, h1, e, m0, m1, q⟩ := h
  exact ⟨A0, c0, A1, c1, l0, h0, l1, h1, e, m0.touch k (by omega), m1.touch k (by omega), q⟩
theorem TrackPt.wide {lo2 hi2 : Nat} (h : TrackPt w n0 n1 x0 x1 us lo hi) (h1 : lo2 ≤ lo) (h2 : hi ≤ hi2) : TrackPt w n0 n1 x0 x1 us lo2 hi2 := by
  obtain ⟨A0, c0, A1, c1, l0, h0, l1, h1, e, m0, m1, q⟩ := h
  exact ⟨A0, c0, A1, c1, l0, h0, l1, h1, e, m0, m1, by omega⟩
theorem TrackM.rows (h : TrackM w T us lo hi) : AggRow w (trackF T) us := by
  obtain ⟨A0, c0, A1, c1, l0, h0, l1, h1, e, m0, m1, q⟩ := h
  exact ⟨A0, c0, _, e, m0.row, m0.cap, m0.capm, A1, c1, _, rfl, m1.row, m1.cap, m1.capm, rfl⟩
theorem TrackMk.rows (h : TrackMk w T k us lo hi) : AggRow w (markF (trackF T) k) us := by
  obtain ⟨A0, c0, A1, c1, l0, h0, l1, h1, e, m0, m1, q⟩ := h
  exact ⟨A0, c0, _, e, m0.row, m0.cap, m0.capm, A1, c1, _, rfl, m1.row, m1.cap, m1.capm, rfl⟩
end
theorem mine_nil {w : World} {e : TypeId} {s lo hi : Nat} {cs : List Value} (h : cs = []) : Mine w lo hi e s (.slice none 0 0) 0 cs := by
  subst h
  exact ⟨World.ownsRow_nil _ _ _ _, fun g hg => by cases hg⟩
/-- one row of the call's own: empty, or in a block of its own -/
theorem own_cases {w : World} {base n c : Nat} {A : Option Addr} {e : TypeId} {s : Nat} {cs : List Value} (h : w.ownsRow base e s (.slice A n c) n cs) :
    (A = none ∧ n = 0 ∧ c = 0 ∧ cs = []) ∨ ∃ g, A = some ⟨g, 0, none⟩ ∧ base ≤ g ∧ g < w.heap.size ∧ Mine w g (g + 1) e s (.slice A n c) n cs := by
  rcases h.2 with ⟨hv, hn⟩ | ⟨g, cap, cur, hv, hg, h3, h4, h5, h6⟩
  · injection hv with h1 _ h3
    subst hn
    refine .inl ⟨h1, rfl, h3, ?_⟩
    have := h.1
    rw [Nat.zero_mul] at this
    exact List.eq_nil_of_length_eq_zero this
  · refine .inr ⟨g, ?_, hg, ?_, ⟨h.1, .inr ⟨g, cap, cur, hv, Nat.le_refl _, h3, h4, h5, h6⟩⟩, fun g2 hg2 => ?_⟩
    · injection hv
    · exact (Array.getElem?_eq_some_iff.1 h3).1
    · injection hv with hA
      subst hA
      cases hg2
      exact Nat.lt_succ_self _
/-- two rows of the call's own, in blocks of their own -/
theorem track_made {w : World} {lo : Nat} {A0 A1 : Option Addr} {n0 n1 c0 c1 : Nat} {x0 x1 : List Value} (h0 : w.ownsRow lo 30 3 (.slice A0 n0 c0) n0 x0) (h1 : w.ownsRow lo 44 2 (.slice A1 n1 c1) n1 x1)
    (hne : ∀ g1 g2, A0 = some ⟨g1, 0, none⟩ → A1 = some ⟨g2, 0, none⟩ → g1 ≠ g2) (hlo : lo ≤ w.heap.size) : TrackPt w n0 n1 x0 x1 [.slice A0 n0 c0, .slice A1 n1 c1] lo w.heap.size := by
  rcases own_cases h0 with ⟨rfl, rfl, rfl, e0⟩ | ⟨g0, rfl, k0, l0, m0⟩ <;> rcases own_cases h1 with ⟨rfl, rfl, rfl, e1⟩ | ⟨g1, rfl, k1, l1, m1⟩
  · exact ⟨_, _, _, _, lo, lo, lo, lo, rfl, mine_nil e0, mine_nil e1, by omega, by omega, by omega, by omega, by omega⟩
  · exact ⟨_, _, _, _, lo, lo, g1, g1 + 1, rfl, mine_nil e0, m1, by omega, by omega, by omega, by omega, by omega⟩
  · exact ⟨_, _, _, _, g0, g0 + 1, lo, lo, rfl, m0, mine_nil e1, by omega, by omega, by omega, by omega, by omega⟩
  · have := hne g0 g1 rfl rfl
    exact ⟨_, _, _, _, g0, g0 + 1, g1, g1 + 1, rfl, m0, m1, by omega, by omega, by omega, by omega, by omega⟩
def TrackMade (x : Track × Bool) (w : World) (e : Ending) (w' : World) : Prop :=
  ∃ us : List Value, e = .returned (.tuple #[.agg us.toArray, .bool x.2]) ∧ TrackM w' x.1 us w.heap.size w'.heap.size ∧ Ext w w'
theorem TrackMade.no {w w' : World} {e : Ending} {x : Track × Bool} (hx0 : x = (noTrack, false)) (he : e = .returned (.tuple #[.agg #[.slice none 0 0, .slice none 0 0], .bool false])) (hx : Ext w w') : TrackMade x w e w' := by
  rw [hx0]
  have hs := hx.size
  exact ⟨[.slice none 0 0, .slice none 0 0], he, ⟨none, 0, none, 0, w.heap.size, w.heap.size, w.heap.size, w.heap.size, rfl, mine_nil rfl, mine_nil rfl, by omega, by omega, by omega, by omega, by omega⟩, hx⟩
end Go.Proofs.YtjghabbcjpfjeaaGreatDoor
