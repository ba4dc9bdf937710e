/- Influences: the plain law. -/
import Derived.Test.YtnkkfjlnjhmahaaGeoK
import Derived.Test.YtnkkfjlnjhmahaaPz
namespace Go.Proofs.Ytnkkfjlnjhmahaa
set_option linter.unusedVariables false

theorem ratio_same {r s : Ratio} (hr : ratioOk r = true) (hs : ratioOk s = true) (h : r.N * s.D = s.N * r.D) : r = s := by
  refine ratio_cmp0 hr hs ?_ ?_
  · unfold ratioCmp; rw [if_pos ⟨hr, hs⟩]; unfold cmpI; rw [if_neg (by omega), if_neg (by omega)]; omega
  · unfold ratioCmp; rw [if_pos ⟨hs, hr⟩]; unfold cmpI; rw [if_neg (by omega), if_neg (by omega)]; omega
theorem ratioOf_same {n d n' d' : Int} (hn : -1000000000000000000 ≤ n ∧ n ≤ 1000000000000000000) (hd : 1 ≤ d) (hd2 : d ≤ 1000000000000000)
    (hn' : -1000000000000000000 ≤ n' ∧ n' ≤ 1000000000000000000) (hd' : 1 ≤ d') (hd2' : d' ≤ 1000000000000000) (h : n * d' = n' * d) : ratioOf n d = ratioOf n' d' := by
  obtain ⟨a1, a2, a3, a4, a5⟩ := ratioOf_good hn hd hd2
  obtain ⟨b1, b2, b3, b4, b5⟩ := ratioOf_good hn' hd' hd2'
  refine ratio_same a1 b1 ?_
  generalize ratioOf n d = r at *
  generalize ratioOf n' d' = s at *
  have p : (0 : Int) < d * d' := Int.mul_pos (by omega) (by omega)
  refine Int.eq_of_mul_eq_mul_right (Int.ne_of_gt p) ?_
  have e1 : r.N * s.D * (d * d') = n * d' * (r.D * s.D) := by rw [show r.N * s.D * (d * d') = r.N * d * (s.D * d') by grind, a2]; grind
  have e2 : s.N * r.D * (d * d') = n' * d * (r.D * s.D) := by rw [show s.N * r.D * (d * d') = s.N * d' * (r.D * d) by grind, b2]; grind
  rw [e1, e2, h]
/-- the greatest value is one of a corner, and no corner goes beyond -/
theorem supp_at {a b : Int} (ha : -50000 ≤ a ∧ a ≤ 50000) (hb : -50000 ≤ b ∧ b ≤ 50000) {p : List Half} (h : Shape p) :
    (∃ i, ∃ hi : i < (cornL p).length, (suppR p a b).N * (cornL p)[i].D = (a * (cornL p)[i].X + b * (cornL p)[i].Y) * (suppR p a b).D) ∧
    ∀ j (hj : j < (cornL p).length), (a * (cornL p)[j].X + b * (cornL p)[j].Y) * (suppR p a b).D ≤ (suppR p a b).N * (cornL p)[j].D := by
  obtain ⟨i, hi, e, hmost⟩ := farOf_at ha hb h
  have hB := h.spotB _ (List.getElem_mem hi)
  have hm := hB.mul ha hb
  have hd := hB.d1
  have hd2 := hB.d2
  unfold suppR
  rw [e]
  simp only
  obtain ⟨g1, g2, g3, g4, g5⟩ := ratioOf_good (n := a * (cornL p)[i].X + b * (cornL p)[i].Y) (d := (cornL p)[i].D) (by omega) hd (by omega)
  refine ⟨⟨i, hi, g2⟩, fun j hj => ?_⟩
  have k := hmost j hj
  generalize (cornL p)[i] = s at *
  generalize (cornL p)[j] = t at *
  generalize a * s.X + b * s.Y = n at *
  generalize a * t.X + b * t.Y = m at *
  generalize ratioOf n s.D = r at *
  refine Int.le_of_mul_le_mul_right (a := s.D) ?_ (by omega)
  have m1 := Int.mul_le_mul_of_nonneg_right k (show 0 ≤ r.D by omega)
  have e1 : m * r.D * s.D = m * s.D * r.D := by grind
  have e2 : r.N * t.D * s.D = n * t.D * r.D := by rw [show r.N * t.D * s.D = r.N * s.D * t.D by grind, g2]; grind
  omega
theorem supp_bd {a b M : Int} (hM : 0 ≤ M ∧ M ≤ 50000) (ha : -M ≤ a ∧ a ≤ M) (hb : -M ≤ b ∧ b ≤ M) {p : List Half} (h : Shape p) :
    -(2000 * M * (suppR p a b).D) ≤ (suppR p a b).N ∧ (suppR p a b).N ≤ 2000 * M * (suppR p a b).D := by
  obtain ⟨⟨i, hi, e⟩, _⟩ := supp_at (a := a) (b := b) (by omega) (by omega) h
  obtain ⟨_, q1, _⟩ := supp_ok (a := a) (b := b) (by omega) (by omega) h
  have hB := h.spotB _ (List.getElem_mem hi)
  have hm := hB.mul ha hb
  have hd := hB.d1
  generalize (cornL p)[i] = s at *
  generalize suppR p a b = r at *
  generalize a * s.X + b * s.Y = v at *
  have m1 := Int.mul_le_mul_of_nonneg_right hm.1 (show 0 ≤ r.D by omega)
  have m2 := Int.mul_le_mul_of_nonneg_right hm.2 (show 0 ≤ r.D by omega)
  constructor
  · refine Int.le_of_mul_le_mul_right (a := s.D) ?_ (by omega)
    rw [e]
    have : -(2000 * M * r.D) * s.D = -(2000 * M * s.D) * r.D := by grind
    omega
  · refine Int.le_of_mul_le_mul_right (a := s.D) ?_ (by omega)
    rw [e]
    have : 2000 * M * r.D * s.D = 2000 * M * s.D * r.D := by grind
    omega
/-- directions that are multiples -/
theorem supp_scale {a b g : Int} (hg : 0 ≤ g) (ha : -50000 ≤ a ∧ a ≤ 50000) (hb : -50000 ≤ b ∧ b ≤ 50000) (hga : -50000 ≤ g * a ∧ g * a ≤ 50000) (hgb : -50000 ≤ g * b ∧ g * b ≤ 50000) {p : List Half} (h : Shape p) :
    (suppR p (g * a) (g * b)).N * (suppR p a b).D = g * (suppR p a b).N * (suppR p (g * a) (g * b)).D := by
  obtain ⟨⟨i, hi, e⟩, u⟩ := supp_at hga hgb h
  obtain ⟨⟨j, hj, f⟩, v⟩ := supp_at ha hb h
  obtain ⟨_, q1, _⟩ := supp_ok hga hgb h
  obtain ⟨_, q2, _⟩ := supp_ok ha hb h
  have u := u j hj
  have v := v i hi
  have d1 := (h.spotB _ (List.getElem_mem hi)).d1
  have d2 := (h.spotB _ (List.getElem_mem hj)).d1
  generalize (cornL p)[i] = s at *
  generalize (cornL p)[j] = t at *
  generalize suppR p (g * a) (g * b) = r at *
  generalize suppR p a b = q at *
  have e' : r.N * s.D = g * (a * s.X + b * s.Y) * r.D := by rw [e]; grind
  have u' : g * (a * t.X + b * t.Y) * r.D ≤ r.N * t.D := by have : (g * a * t.X + g * b * t.Y) = g * (a * t.X + b * t.Y) := by grind
                                                            rw [← this]; exact u
  generalize a * s.X + b * s.Y = m at *
  generalize a * t.X + b * t.Y = n at *
  have le1 : r.N * q.D ≤ g * q.N * r.D := by
    refine Int.le_of_mul_le_mul_right (a := s.D) ?_ (by omega)
    have k := Int.mul_le_mul_of_nonneg_left v hg
    have k2 := Int.mul_le_mul_of_nonneg_right k (show 0 ≤ r.D by omega)
    have e1 : r.N * q.D * s.D = g * (m * q.D) * r.D := by rw [show r.N * q.D * s.D = r.N * s.D * q.D by grind, e']; grind
    have e2 : g * q.N * r.D * s.D = g * (q.N * s.D) * r.D := by grind
    omega
  have le2 : g * q.N * r.D ≤ r.N * q.D := by
    refine Int.le_of_mul_le_mul_right (a := t.D) ?_ (by omega)
    have k2 := Int.mul_le_mul_of_nonneg_right u' (show 0 ≤ q.D by omega)
    have e1 : g * q.N * r.D * t.D = g * n * r.D * q.D := by rw [show g * q.N * r.D * t.D = g * (q.N * t.D) * r.D by grind, f]; grind
    have e2 : r.N * q.D * t.D = r.N * t.D * q.D := by grind
    omega
  omega
/-- the width is not negative -/
theorem supp_width {a b : Int} (ha : -50000 ≤ a ∧ a ≤ 50000) (hb : -50000 ≤ b ∧ b ≤ 50000) {p : List Half} (h : Shape p) :
    0 ≤ (suppR p a b).N * (suppR p (-a) (-b)).D + (suppR p (-a) (-b)).N * (suppR p a b).D := by
  obtain ⟨⟨i, hi, e⟩, _⟩ := supp_at ha hb h
  obtain ⟨_, v⟩ := supp_at (a := -a) (b := -b) (by omega) (by omega) h
  obtain ⟨_, q1, _⟩ := supp_ok ha hb h
  obtain ⟨_, q2, _⟩ := supp_ok (a := -a) (b := -b) (by omega) (by omega) h
  have v := v i hi
  have d1 := (h.spotB _ (List.getElem_mem hi)).d1
  generalize (cornL p)[i] = s at *
  generalize suppR p (-a) (-b) = r at *
  generalize suppR p a b = q at *
  have v' : -(a * s.X + b * s.Y) * r.D ≤ r.N * s.D := by have : (-a * s.X + -b * s.Y) = -(a * s.X + b * s.Y) := by grind
                                                         rw [← this]; exact v
  generalize a * s.X + b * s.Y = m at *
  refine Int.le_of_mul_le_mul_right (a := s.D) ?_ (by omega)
  have k2 := Int.mul_le_mul_of_nonneg_right v' (show 0 ≤ q.D by omega)
  have e1 : (q.N * r.D + r.N * q.D) * s.D = m * q.D * r.D + r.N * s.D * q.D := by rw [← e]; grind
  have e2 : -m * r.D * q.D = -(m * q.D * r.D) := by grind
  omega

def infLow (p : List Half) (g : Int) : Ratio := ratioOf (-(suppR p (-g) 0).N) (100 * (suppR p (-g) 0).D)
def infHigh (p : List Half) (g : Int) : Ratio := ratioOf (suppR p g 0).N (100 * (suppR p g 0).D)
def hundred (r : Ratio) (t : Int) : Ratio := ratioOf (r.N * t) (r.D * 100)
def infR (p : List Half) (g : Int) : Ratio × Ratio × Bool :=
  if (-100 ≤ g ∧ g ≤ 100) ∧ p ≠ [] ∧ regOk p = true then (if 1000000 < (infLow p g).D ∨ 1000000 < (infHigh p g).D then (⟨0, 0⟩, ⟨0, 0⟩, false) else (infLow p g, infHigh p g, true)) else (⟨0, 0⟩, ⟨0, 0⟩, false)

theorem hund_bd {p : List Half} (h : Shape p) {a t : Int} (ha : -1 ≤ a ∧ a ≤ 1) (ht : -100 ≤ t ∧ t ≤ 100) :
    (-1000000000000000000 ≤ (suppR p a 0).N * t ∧ (suppR p a 0).N * t ≤ 1000000000000000000) ∧ 1 ≤ (suppR p a 0).D * 100 ∧ (suppR p a 0).D * 100 ≤ 1000000000000000 := by
  obtain ⟨_, q1, q2, _⟩ := supp_ok (a := a) (b := 0) (by omega) (by omega) h
  have b1 := supp_bd (a := a) (b := 0) (M := 1) (by omega) (by omega) (by omega) h
  have k := mul_bd (a := (suppR p a 0).N) (b := t) (A := 10000000000000) (B := 100) (by omega) ht
  omega
theorem inf_bd {p : List Half} (h : Shape p) {g : Int} (hg : -100 ≤ g ∧ g ≤ 100) :
    (-1000000000000000 ≤ (suppR p g 0).N ∧ (suppR p g 0).N ≤ 1000000000000000) ∧ 1 ≤ (suppR p g 0).D ∧ (suppR p g 0).D ≤ 5000000000 := by
  obtain ⟨_, q1, q2, _⟩ := supp_ok (a := g) (b := 0) (by omega) (by omega) h
  have b1 := supp_bd (a := g) (b := 0) (M := 100) (by omega) (by omega) (by omega) h
  omega
/-- a multiple of a direction, in hundredths -/
theorem inf_high {p : List Half} (h : Shape p) {a g : Int} (ha : a = 1 ∨ a = -1) (hg : 0 ≤ g ∧ g ≤ 100) : infHigh p (g * a) = hundred (suppR p a 0) g := by
  have hga : -100 ≤ g * a ∧ g * a ≤ 100 := by rcases ha with rfl | rfl <;> omega
  have s := supp_scale (a := a) (b := 0) (g := g) hg.1 (by omega) (by omega) (by omega) (by omega) h
  rw [Int.mul_zero] at s
  obtain ⟨i1, i2, i3⟩ := inf_bd h hga
  obtain ⟨j1, j2, j3⟩ := hund_bd h (a := a) (t := g) (by omega) (by omega)
  unfold infHigh hundred
  refine ratioOf_same (by omega) (by omega) (by omega) j1 j2 j3 ?_
  grind
theorem inf_low {p : List Half} (h : Shape p) {a g : Int} (ha : a = 1 ∨ a = -1) (hg : 0 ≤ g ∧ g ≤ 100) : infLow p (-(g * a)) = hundred (suppR p a 0) (-g) := by
  have hga : -100 ≤ g * a ∧ g * a ≤ 100 := by rcases ha with rfl | rfl <;> omega
  have s := supp_scale (a := a) (b := 0) (g := g) hg.1 (by omega) (by omega) (by omega) (by omega) h
  rw [Int.mul_zero] at s
  obtain ⟨i1, i2, i3⟩ := inf_bd h hga
  obtain ⟨j1, j2, j3⟩ := hund_bd h (a := a) (t := -g) (by omega) (by omega)
  unfold infLow hundred
  rw [Int.neg_neg]
  refine ratioOf_same (by omega) (by omega) (by omega) j1 j2 j3 ?_
  grind
theorem hundred_ok {p : List Half} (h : Shape p) {a t : Int} (ha : -1 ≤ a ∧ a ≤ 1) (ht : -100 ≤ t ∧ t ≤ 100) :
    ratioOk (hundred (suppR p a 0) t) = true ∧ (hundred (suppR p a 0) t).N * ((suppR p a 0).D * 100) = (suppR p a 0).N * t * (hundred (suppR p a 0) t).D ∧ 1 ≤ (hundred (suppR p a 0) t).D := by
  obtain ⟨j1, j2, j3⟩ := hund_bd h ha ht
  obtain ⟨g1, g2, g3, g4, g5⟩ := ratioOf_good j1 j2 j3
  exact ⟨g1, g2, g4⟩
/-- what the program takes for the least and the greatest -/
theorem inf_le {p : List Half} (h : Shape p) {g : Int} (hg : 0 ≤ g ∧ g ≤ 100) {a : Int} (ha : a = 1 ∨ a = -1) :
    ratioCmp (hundred (suppR p a 0) g) (hundred (suppR p (-a) 0) (-g)) ≥ 0 := by
  obtain ⟨o1, e1, d1⟩ := hundred_ok h (a := a) (t := g) (by omega) (by omega)
  obtain ⟨o2, e2, d2⟩ := hundred_ok h (a := -a) (t := -g) (by omega) (by omega)
  have wd := supp_width (a := a) (b := 0) (by omega) (by omega) h
  rw [Int.neg_zero] at wd
  obtain ⟨_, q1, _⟩ := supp_ok (a := a) (b := 0) (by omega) (by omega) h
  obtain ⟨_, q2, _⟩ := supp_ok (a := -a) (b := 0) (by omega) (by omega) h
  unfold ratioCmp
  rw [if_pos ⟨o1, o2⟩]
  generalize hundred (suppR p a 0) g = x at *
  generalize hundred (suppR p (-a) 0) (-g) = y at *
  generalize suppR p a 0 = r at *
  generalize suppR p (-a) 0 = s at *
  have : y.N * x.D ≤ x.N * y.D := by
    have p1 : (0 : Int) < r.D * 100 * (s.D * 100) := Int.mul_pos (by omega) (by omega)
    refine Int.le_of_mul_le_mul_right (a := r.D * 100 * (s.D * 100)) ?_ p1
    have f1 : y.N * x.D * (r.D * 100 * (s.D * 100)) = -(g * (s.N * r.D)) * (100 * (x.D * y.D)) := by rw [show y.N * x.D * (r.D * 100 * (s.D * 100)) = y.N * (s.D * 100) * (r.D * 100 * x.D) by grind, e2]; grind
    have f2 : x.N * y.D * (r.D * 100 * (s.D * 100)) = (g * (r.N * s.D)) * (100 * (x.D * y.D)) := by rw [show x.N * y.D * (r.D * 100 * (s.D * 100)) = x.N * (r.D * 100) * (s.D * 100 * y.D) by grind, e1]; grind
    rw [f1, f2]
    have p2 : (0 : Int) ≤ 100 * (x.D * y.D) := by have := Int.mul_pos (show 0 < x.D by omega) (show 0 < y.D by omega); omega
    refine Int.mul_le_mul_of_nonneg_right ?_ p2
    have k := Int.mul_nonneg hg.1 wd
    have : g * (r.N * s.D + s.N * r.D) = g * (r.N * s.D) + g * (s.N * r.D) := by grind
    omega
  unfold cmpI
  split
  · omega
  · split <;> omega
theorem min_of {x y : Ratio} (hx : ratioOk x = true) (hy : ratioOk y = true) (h : ratioCmp x y ≥ 0) : ratioMin x y = y ∧ ratioMax x y = x ∧ ratioMin y x = y ∧ ratioMax y x = x := by
  have hn : ratioCmp y x = -ratioCmp x y := by
    unfold ratioCmp
    rw [if_pos ⟨hy, hx⟩, if_pos ⟨hx, hy⟩]
    exact cmpI_neg _ _
  unfold ratioMin ratioMax
  rw [hx, hy]
  simp only [Bool.and_self, if_true]
  refine ⟨?_, if_pos h, if_pos (by omega), ?_⟩
  · split
    · exact ratio_cmp0 hx hy (by omega) (by omega)
    · rfl
  · split
    · exact ratio_cmp0 hy hx (by omega) (by omega)
    · rfl
/-- what the program returns -/
theorem inf_impl {p : List Half} (h : Shape p) {g : Int} (hg : -100 ≤ g ∧ g ≤ 100) :
    ratioMin (hundred (suppR p 1 0) g) (hundred (suppR p (-1) 0) (-g)) = infLow p g ∧ ratioMax (hundred (suppR p 1 0) g) (hundred (suppR p (-1) 0) (-g)) = infHigh p g ∧
    ratioOk (hundred (suppR p 1 0) g) = true ∧ ratioOk (hundred (suppR p (-1) 0) (-g)) = true ∧
    ((1000000 < (hundred (suppR p 1 0) g).D ∨ 1000000 < (hundred (suppR p (-1) 0) (-g)).D) ↔ (1000000 < (infLow p g).D ∨ 1000000 < (infHigh p g).D)) := by
  obtain ⟨o1, _⟩ := hundred_ok h (a := 1) (t := g) (by omega) (by omega)
  obtain ⟨o2, _⟩ := hundred_ok h (a := -1) (t := -g) (by omega) (by omega)
  by_cases h0 : 0 ≤ g
  · have a1 := inf_high h (a := 1) (g := g) (.inl rfl) (by omega)
    have a2 := inf_low h (a := -1) (g := g) (.inr rfl) (by omega)
    rw [Int.mul_one] at a1
    rw [show -(g * -1) = g by omega] at a2
    obtain ⟨m1, m2, _⟩ := min_of o1 o2 (inf_le h (by omega) (.inl rfl))
    rw [m1, m2, a1, a2]
    exact ⟨rfl, rfl, o1, o2, Or.comm⟩
  · have a1 := inf_high h (a := -1) (g := -g) (.inr rfl) (by omega)
    have a2 := inf_low h (a := 1) (g := -g) (.inl rfl) (by omega)
    rw [show -g * -1 = g by omega] at a1
    rw [show -(-g * 1) = g by omega, Int.neg_neg] at a2
    have k := inf_le h (g := -g) (by omega) (a := -1) (.inr rfl)
    rw [Int.neg_neg, Int.neg_neg] at k
    obtain ⟨_, _, m1, m2⟩ := min_of o2 o1 k
    rw [m1, m2, a1, a2]
    exact ⟨rfl, rfl, o1, o2, Iff.rfl⟩
end Go.Proofs.Ytnkkfjlnjhmahaa
