/- Plain geometry: the crossings that the reference looks at, as fractions; which of them lie in all half planes, which differ. -/
import Derived.Test.YtlgkfjhbimffiaaDoorGeoW
namespace Go.Proofs.YtlgkfjhbimffiaaDoor
set_option linter.unusedVariables false

/-- a crossing as fractions of one positive denominator -/
def ptX (k i : Half) : Int := if cross k i < 0 then -(k.C * i.B - i.C * k.B) else k.C * i.B - i.C * k.B
def ptY (k i : Half) : Int := if cross k i < 0 then -(k.A * i.C - i.A * k.C) else k.A * i.C - i.A * k.C
def inPt (x y d : Int) (m : Half) : Bool := decide (m.A * x + m.B * y ≤ m.C * d)
def inBox (x y d : Int) : Bool := decide (d ≠ 0) && decide (x ≤ 1000 * d) && decide (-1000 * d ≤ x) && decide (y ≤ 1000 * d) && decide (-1000 * d ≤ y)
def insideB (S : List Half) (k i : Half) : Bool := inBox (ptX k i) (ptY k i) (frD k i) && S.all (inPt (ptX k i) (ptY k i) (frD k i))
theorem inPt_sat {k i m : Half} (hn : cross k i ≠ 0) : inPt (ptX k i) (ptY k i) (frD k i) m = true ↔ sat k i m := by
  unfold inPt ptX ptY frD sat
  rw [decide_eq_true_eq]
  have e : m.C * cross k i - (m.A * (k.C * i.B - i.C * k.B) + m.B * (k.A * i.C - i.A * k.C)) = det3 k i m := by unfold det3 cross; grind
  rcases Int.lt_or_gt_of_ne hn with h | h
  · rw [if_pos h, if_pos h, if_pos h]
    constructor
    · intro h1
      refine .inr ⟨h, ?_⟩
      have e2 : m.C * -cross k i - (m.A * -(k.C * i.B - i.C * k.B) + m.B * -(k.A * i.C - i.A * k.C)) = -det3 k i m := by rw [← e]; grind
      omega
    · rintro (⟨h1, _⟩ | ⟨_, h1⟩)
      · omega
      · have e2 : m.C * -cross k i - (m.A * -(k.C * i.B - i.C * k.B) + m.B * -(k.A * i.C - i.A * k.C)) = -det3 k i m := by rw [← e]; grind
        omega
  · rw [if_neg (by omega), if_neg (by omega), if_neg (by omega)]
    constructor
    · intro h1
      exact .inl ⟨h, by omega⟩
    · rintro (⟨_, h1⟩ | ⟨h1, _⟩)
      · omega
      · omega
theorem frD_zero {k i : Half} : frD k i = 0 ↔ cross k i = 0 := by unfold frD; split <;> omega
theorem le_of_mulP {a x y : Int} (ha : 0 < a) (h : a * x ≤ a * y) : x ≤ y := Int.le_of_mul_le_mul_left h ha
theorem box_of {S : List Half} (f : Framed S) {x y d : Int} (hd : 0 < d) (h : ∀ m ∈ S, inPt x y d m = true) : inBox x y d = true := by
  obtain ⟨a, ha, a1, a2, a3⟩ := f.e1
  obtain ⟨b, hb, b1, b2, b3⟩ := f.e2
  obtain ⟨c, hc, c1, c2, c3⟩ := f.e3
  obtain ⟨e, he, d1, d2, d3⟩ := f.e4
  have ga := h a ha
  have gb := h b hb
  have gc := h c hc
  have ge := h e he
  unfold inPt at ga gb gc ge
  rw [decide_eq_true_eq] at ga gb gc ge
  rw [a2, Int.zero_mul, Int.add_zero] at ga
  rw [b1, Int.zero_mul, Int.zero_add] at gb
  rw [c2, Int.zero_mul, Int.add_zero] at gc
  rw [d1, Int.zero_mul, Int.zero_add] at ge
  have k1 := Int.mul_le_mul_of_nonneg_right a3 (Int.le_of_lt hd)
  have k2 := Int.mul_le_mul_of_nonneg_right b3 (Int.le_of_lt hd)
  have k3 := Int.mul_le_mul_of_nonneg_right c3 (Int.le_of_lt hd)
  have k4 := Int.mul_le_mul_of_nonneg_right d3 (Int.le_of_lt hd)
  have r1 : x ≤ 1000 * d := le_of_mulP a1 (by rw [show a.A * (1000 * d) = 1000 * a.A * d by grind]; omega)
  have r2 : y ≤ 1000 * d := le_of_mulP b2 (by rw [show b.B * (1000 * d) = 1000 * b.B * d by grind]; omega)
  have r3 : -x ≤ 1000 * d := le_of_mulP (a := -c.A) (by omega) (by rw [show -c.A * (1000 * d) = 1000 * -c.A * d by grind, show -c.A * -x = c.A * x by grind]; omega)
  have r4 : -y ≤ 1000 * d := le_of_mulP (a := -e.B) (by omega) (by rw [show -e.B * (1000 * d) = 1000 * -e.B * d by grind, show -e.B * -y = e.B * y by grind]; omega)
  unfold inBox
  simp only [Bool.and_eq_true, decide_eq_true_eq]
  refine ⟨⟨⟨⟨?_, ?_⟩, ?_⟩, ?_⟩, ?_⟩ <;> omega
theorem inside_iff {S : List Half} (hS : Good S) {k i : Half} : insideB S k i = true ↔ cross k i ≠ 0 ∧ ∀ m ∈ S, sat k i m := by
  unfold insideB
  rw [Bool.and_eq_true, List.all_eq_true]
  constructor
  · rintro ⟨h1, h2⟩
    have hn : cross k i ≠ 0 := by
      intro e
      unfold inBox at h1
      rw [frD_zero.2 e] at h1
      simp at h1
    exact ⟨hn, fun m hm => (inPt_sat hn).1 (h2 m hm)⟩
  · rintro ⟨hn, h2⟩
    have h3 : ∀ m ∈ S, inPt (ptX k i) (ptY k i) (frD k i) m = true := fun m hm => (inPt_sat hn).2 (h2 m hm)
    exact ⟨box_of hS.fr (frD_pos hn) h3, h3⟩

/-- two crossings on the border of k are one point -/
theorem same_point {k i j : Half} (hz : nz k) : (ptX k i * frD k j = ptX k j * frD k i ∧ ptY k i * frD k j = ptY k j * frD k i) ↔ det3 k i j = 0 := by
  have eX : (k.C * i.B - i.C * k.B) * cross k j - (k.C * j.B - j.C * k.B) * cross k i = k.B * det3 k i j := by unfold det3 cross; grind
  have eY : (k.A * i.C - i.A * k.C) * cross k j - (k.A * j.C - j.A * k.C) * cross k i = -(k.A * det3 k i j) := by unfold det3 cross; grind
  have hX : (ptX k i * frD k j = ptX k j * frD k i) ↔ k.B * det3 k i j = 0 := by
    unfold ptX frD
    split <;> split <;> (try rw [Int.neg_mul]) <;> (try rw [Int.mul_neg]) <;> (try rw [Int.neg_mul]) <;> (try rw [Int.mul_neg]) <;> omega
  have hY : (ptY k i * frD k j = ptY k j * frD k i) ↔ k.A * det3 k i j = 0 := by
    unfold ptY frD
    split <;> split <;> (try rw [Int.neg_mul]) <;> (try rw [Int.mul_neg]) <;> (try rw [Int.neg_mul]) <;> (try rw [Int.mul_neg]) <;> omega
  rw [hX, hY, Int.mul_eq_zero, Int.mul_eq_zero]
  unfold nz at hz
  omega

/-- a spot in lowest terms -/
def gcd3 (x y d : Int) : Nat := Nat.gcd (Int.gcd x y) d.natAbs
def lowSpot (x y d : Int) : Spot := ⟨x / (gcd3 x y d : Int), y / (gcd3 x y d : Int), d / (gcd3 x y d : Int)⟩
theorem gcd3_pos {x y d : Int} (hd : 0 < d) : 0 < gcd3 x y d := by
  unfold gcd3
  exact Nat.gcd_pos_of_pos_right _ (by omega)
theorem gcd3_dvd (x y d : Int) : (gcd3 x y d : Int) ∣ x ∧ (gcd3 x y d : Int) ∣ y ∧ (gcd3 x y d : Int) ∣ d := by
  unfold gcd3
  have h1 : ((Nat.gcd (Int.gcd x y) d.natAbs : Nat) : Int) ∣ (Int.gcd x y : Int) := Int.natCast_dvd_natCast.2 (Nat.gcd_dvd_left _ _)
  refine ⟨Int.dvd_trans h1 (Int.gcd_dvd_left ..), Int.dvd_trans h1 (Int.gcd_dvd_right ..), ?_⟩
  have h2 := Nat.gcd_dvd_right (Int.gcd x y) d.natAbs
  exact Int.dvd_natAbs.1 (Int.natCast_dvd_natCast.2 h2)
theorem low_mul (x y d : Int) : (lowSpot x y d).X * (gcd3 x y d : Int) = x ∧ (lowSpot x y d).Y * (gcd3 x y d : Int) = y ∧ (lowSpot x y d).D * (gcd3 x y d : Int) = d := by
  obtain ⟨h1, h2, h3⟩ := gcd3_dvd x y d
  exact ⟨Int.ediv_mul_cancel h1, Int.ediv_mul_cancel h2, Int.ediv_mul_cancel h3⟩
theorem low_gcd {x y d : Int} (hd : 0 < d) : gcd3 (lowSpot x y d).X (lowSpot x y d).Y (lowSpot x y d).D = 1 := by
  obtain ⟨h1, h2, h3⟩ := low_mul x y d
  have hp := gcd3_pos (x := x) (y := y) hd
  generalize hg : gcd3 x y d = g at *
  have hx : x.natAbs = (lowSpot x y d).X.natAbs * g := by rw [← Int.natAbs_natCast g, ← Int.natAbs_mul, h1]
  have hy : y.natAbs = (lowSpot x y d).Y.natAbs * g := by rw [← Int.natAbs_natCast g, ← Int.natAbs_mul, h2]
  have hdd : d.natAbs = (lowSpot x y d).D.natAbs * g := by rw [← Int.natAbs_natCast g, ← Int.natAbs_mul, h3]
  unfold gcd3 Int.gcd at hg ⊢
  rw [hx, hy, hdd, Nat.gcd_mul_right, Nat.gcd_mul_right] at hg
  exact Nat.eq_of_mul_eq_mul_right hp (by rw [hg, Nat.one_mul])
theorem gcd3_mul (a b c : Int) (k : Nat) : gcd3 (a * k) (b * k) (c * k) = gcd3 a b c * k := by
  unfold gcd3 Int.gcd
  rw [Int.natAbs_mul, Int.natAbs_mul, Int.natAbs_mul, Int.natAbs_natCast, Nat.gcd_mul_right, Nat.gcd_mul_right]
theorem low_pos {x y d : Int} (hd : 0 < d) : 0 < (lowSpot x y d).D := by
  obtain ⟨_, _, h3⟩ := low_mul x y d
  have hp := gcd3_pos (x := x) (y := y) hd
  rcases Int.lt_or_le 0 (lowSpot x y d).D with h | h
  · exact h
  · have := Int.mul_le_mul_of_nonneg_right h (show (0 : Int) ≤ (gcd3 x y d : Int) by omega)
    omega
theorem low_eq {x y d x' y' d' : Int} (hd : 0 < d) (hd' : 0 < d') : lowSpot x y d = lowSpot x' y' d' ↔ (x * d' = x' * d ∧ y * d' = y' * d) := by
  obtain ⟨h1, h2, h3⟩ := low_mul x y d
  obtain ⟨k1, k2, k3⟩ := low_mul x' y' d'
  have hg := low_gcd (x := x) (y := y) hd
  have kg := low_gcd (x := x') (y := y') hd'
  have hp := low_pos (x := x) (y := y) hd
  have kp := low_pos (x := x') (y := y') hd'
  have gp := gcd3_pos (x := x) (y := y) hd
  have gp' := gcd3_pos (x := x') (y := y') hd'
  generalize lowSpot x y d = s at *
  generalize lowSpot x' y' d' = t at *
  generalize gcd3 x y d = g at *
  generalize gcd3 x' y' d' = g' at *
  constructor
  · rintro rfl
    rw [← h1, ← h2, ← h3, ← k1, ← k2, ← k3]
    constructor <;> grind
  · rintro ⟨e1, e2⟩
    have f1 : s.X * t.D = t.X * s.D := by
      have e : (s.X * t.D) * ((g : Int) * g') = (t.X * s.D) * ((g : Int) * g') := by
        rw [show (s.X * t.D) * ((g : Int) * g') = (s.X * g) * (t.D * g') by grind, show (t.X * s.D) * ((g : Int) * g') = (t.X * g') * (s.D * g) by grind, h1, k3, k1, h3, e1]
      exact Int.eq_of_mul_eq_mul_right (by have : 0 < (g : Int) * g' := Int.mul_pos (by omega) (by omega); omega) e
    have f2 : s.Y * t.D = t.Y * s.D := by
      have e : (s.Y * t.D) * ((g : Int) * g') = (t.Y * s.D) * ((g : Int) * g') := by
        rw [show (s.Y * t.D) * ((g : Int) * g') = (s.Y * g) * (t.D * g') by grind, show (t.Y * s.D) * ((g : Int) * g') = (t.Y * g') * (s.D * g) by grind, h2, k3, k2, h3, e2]
      exact Int.eq_of_mul_eq_mul_right (by have : 0 < (g : Int) * g' := Int.mul_pos (by omega) (by omega); omega) e
    have q1 := gcd3_mul s.X s.Y s.D t.D.toNat
    have q2 := gcd3_mul t.X t.Y t.D s.D.toNat
    rw [show (t.D.toNat : Int) = t.D by omega, f1, f2, hg] at q1
    rw [show (s.D.toNat : Int) = s.D by omega, show t.D * s.D = s.D * t.D by grind, kg] at q2
    have hD : s.D = t.D := by rw [q1] at q2; omega
    rw [hD] at f1 f2
    have f3 := Int.eq_of_mul_eq_mul_right (by omega) f1
    have f4 := Int.eq_of_mul_eq_mul_right (by omega) f2
    cases s; cases t; simp_all
def lowPt (k i : Half) : Spot := lowSpot (ptX k i) (ptY k i) (frD k i)
theorem lowPt_eq {k i j : Half} (hz : nz k) (hi : cross k i ≠ 0) (hj : cross k j ≠ 0) : lowPt k i = lowPt k j ↔ det3 k i j = 0 := by
  unfold lowPt
  rw [low_eq (frD_pos hi) (frD_pos hj), same_point hz]
theorem edge_yes {S : List Half} (hS : Good S) {k f j : Half} (hk : k ∈ S) (hf : f ∈ S) (hj : j ∈ S) (hif : insideB S k f = true) (hij : insideB S k j = true) (hd : lowPt k f ≠ lowPt k j) : edgeSb S k = true := by
  obtain ⟨c1, s1⟩ := (inside_iff hS).1 hif
  obtain ⟨c2, s2⟩ := (inside_iff hS).1 hij
  rw [edgeSb_iff]
  exact ⟨f, hf, j, hj, c1, c2, s1, s2, fun e => hd ((lowPt_eq (hS.nz k hk) c1 c2).2 e)⟩
theorem edge_no {S : List Half} (hS : Good S) {k f : Half} (hk : k ∈ S) (h : ∀ j ∈ S, insideB S k j = true → lowPt k f = lowPt k j) : edgeSb S k = false := by
  cases he : edgeSb S k
  · rfl
  · exfalso
    obtain ⟨i, hi, j, hj, c1, c2, s1, s2, hd⟩ := edgeSb_iff.1 he
    have e1 := h i hi ((inside_iff hS).2 ⟨c1, s1⟩)
    have e2 := h j hj ((inside_iff hS).2 ⟨c2, s2⟩)
    exact hd ((lowPt_eq (hS.nz k hk) c1 c2).1 (e1.symm.trans e2))
theorem edge_none {S : List Half} (hS : Good S) {k : Half} (hk : k ∈ S) (h : ∀ j ∈ S, insideB S k j = false) : edgeSb S k = false :=
  edge_no hS hk (f := k) (fun j hj hi => by rw [h j hj] at hi; cases hi)
theorem inside_self (S : List Half) (k : Half) : insideB S k k = false := by
  unfold insideB inBox
  rw [frD_zero.2 (cross_self k)]
  simp
/-- numbers of a crossing are small -/
theorem mul_bd {a b A B : Int} (ha : -A ≤ a ∧ a ≤ A) (hb : -B ≤ b ∧ b ≤ B) : -(A * B) ≤ a * b ∧ a * b ≤ A * B := by
  have hA : 0 ≤ A := by omega
  have hB : 0 ≤ B := by omega
  have h1 : (a * b).natAbs ≤ (A * B).natAbs := by
    rw [Int.natAbs_mul, Int.natAbs_mul]
    exact Nat.mul_le_mul (by omega) (by omega)
  have h2 : 0 ≤ A * B := Int.mul_nonneg hA hB
  omega
structure SmallH (h : Half) : Prop where
  a : -50000 ≤ h.A ∧ h.A ≤ 50000
  b : -50000 ≤ h.B ∧ h.B ≤ 50000
  c : -100000000 ≤ h.C ∧ h.C ≤ 100000000
theorem small_ok {h : Half} (hk : halfOk h = true) : SmallH h := by
  obtain ⟨h1, h2, h3, h4, h5, h6, _⟩ := halfOk_bd hk
  exact ⟨⟨h1, h2⟩, ⟨h3, h4⟩, ⟨h5, h6⟩⟩
theorem pt_bd {k i : Half} (hk : SmallH k) (hi : SmallH i) : (-10000000000000 ≤ ptX k i ∧ ptX k i ≤ 10000000000000) ∧ (-10000000000000 ≤ ptY k i ∧ ptY k i ≤ 10000000000000) ∧ 0 ≤ frD k i ∧ frD k i ≤ 5000000000 := by
  have x1 := mul_bd hk.c hi.b
  have x2 := mul_bd hi.c hk.b
  have x3 := mul_bd hk.a hi.c
  have x4 := mul_bd hi.a hk.c
  have x5 := mul_bd hk.a hi.b
  have x6 := mul_bd hk.b hi.a
  unfold ptX ptY frD cross
  refine ⟨?_, ?_, ?_⟩
  · split <;> omega
  · split <;> omega
  · split <;> omega
theorem fr_bd {k i : Half} (hk : SmallH k) (hi : SmallH i) : -1000000000000000000 ≤ frN k i ∧ frN k i ≤ 1000000000000000000 := by
  have x1 := mul_bd hk.a hk.a
  have x2 := mul_bd hk.b hk.b
  have x3 := mul_bd hk.a hi.a
  have x4 := mul_bd hk.b hi.b
  have s0 : -5000000000 ≤ sqH k ∧ sqH k ≤ 5000000000 := by unfold sqH; omega
  have x5 := mul_bd hi.c s0
  have s1 : -5000000000 ≤ k.A * i.A + k.B * i.B ∧ k.A * i.A + k.B * i.B ≤ 5000000000 := by omega
  have x6 := mul_bd hk.c s1
  unfold frN
  split <;> omega
end Go.Proofs.YtlgkfjhbimffiaaDoor
