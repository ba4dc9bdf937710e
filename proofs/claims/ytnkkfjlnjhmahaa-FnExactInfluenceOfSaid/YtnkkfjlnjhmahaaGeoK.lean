/- Regions moved, grown, pulled back, met: the plain laws; where the program and the reference go different ways they come to the same. -/
import Derived.Test.YtnkkfjlnjhmahaaGeoC
import Derived.Test.YtnkkfjlnjhmahaaPz
namespace Go.Proofs.Ytnkkfjlnjhmahaa
set_option linter.unusedVariables false

/-- the half plane of three numbers, made small -/
def halfOfZ (a b c : Int) : Half × Bool :=
  if (isLeastI a = false ∧ isLeastI b = false ∧ isLeastI c = false) ∧ halfOk ⟨a / (gcd3 a b c : Int), b / (gcd3 a b c : Int), c / (gcd3 a b c : Int)⟩ = true then (⟨a / (gcd3 a b c : Int), b / (gcd3 a b c : Int), c / (gcd3 a b c : Int)⟩, true) else (⟨0, 0, 0⟩, false)
theorem halfOfZ_ok {a b c : Int} (h : (halfOfZ a b c).2 = true) : halfOk (halfOfZ a b c).1 = true := by
  unfold halfOfZ at h ⊢
  split
  · rename_i h1; exact h1.2
  · rename_i h1; rw [if_neg h1] at h; cases h
theorem halfOfZ_no {a b c : Int} (h : (halfOfZ a b c).2 = false) : halfOfZ a b c = (⟨0, 0, 0⟩, false) := by
  unfold halfOfZ at h ⊢
  split
  · rename_i h1; rw [if_pos h1] at h; cases h
  · rfl
theorem gcd3_dvd' (x y d : Int) : ((gcd3 x y d : Nat) : Int) ∣ x ∧ ((gcd3 x y d : Nat) : Int) ∣ y := ⟨(gcd3_dvd x y d).1, (gcd3_dvd x y d).2.1⟩
/-- a great denominator leaves no half plane -/
theorem half_big {A B N D : Int} (hz : A ≠ 0 ∨ B ≠ 0) (hD : 50000 < D) (hg : Int.gcd N D = 1) : (halfOfZ (A * D) (B * D) N).2 = false := by
  unfold halfOfZ
  rw [if_neg]
  rintro ⟨_, hk⟩
  obtain ⟨b1, b2, b3, b4, _⟩ := halfOk_bd hk
  simp only at b1 b2 b3 b4
  -- g divides A and B
  have hgc : Nat.Coprime (gcd3 (A * D) (B * D) N) D.natAbs := by
    have h1 : (gcd3 (A * D) (B * D) N) ∣ N.natAbs := Nat.gcd_dvd_right _ _
    have h2 : Nat.Coprime N.natAbs D.natAbs := hg
    exact Nat.Coprime.coprime_dvd_left h1 h2
  have div : ∀ X : Int, ((gcd3 (A * D) (B * D) N : Nat) : Int) ∣ X * D → ((gcd3 (A * D) (B * D) N : Nat) : Int) ∣ X := by
    intro X h
    rw [Int.ofNat_dvd_left] at h ⊢
    rw [Int.natAbs_mul] at h
    exact Nat.Coprime.dvd_of_dvd_mul_right hgc h
  obtain ⟨d1, d2⟩ := gcd3_dvd' (A * D) (B * D) N
  have hpos : 0 < gcd3 (A * D) (B * D) N := by
    unfold gcd3
    refine Nat.gcd_pos_of_pos_left _ ?_
    rcases hz with h | h
    · exact Int.gcd_pos_of_ne_zero_left _ (Int.mul_ne_zero h (by omega))
    · exact Int.gcd_pos_of_ne_zero_right _ (Int.mul_ne_zero h (by omega))
  have big : ∀ X : Int, X ≠ 0 → ((gcd3 (A * D) (B * D) N : Nat) : Int) ∣ X * D → ¬ (-50000 ≤ X * D / ((gcd3 (A * D) (B * D) N : Nat) : Int) ∧ X * D / ((gcd3 (A * D) (B * D) N : Nat) : Int) ≤ 50000) := by
    intro X hX hd
    obtain ⟨k, hk⟩ := div X hd
    rw [hk, Int.mul_assoc, Int.mul_ediv_cancel_left _ (by omega)]
    have hk0 : k ≠ 0 := by rintro rfl; rw [Int.mul_zero] at hk; exact hX hk
    rcases Int.lt_or_le 0 k with h | h
    · have := Int.mul_le_mul_of_nonneg_right (show 1 ≤ k by omega) (show 0 ≤ D by omega)
      omega
    · have := Int.mul_le_mul_of_nonneg_right (show k ≤ -1 by omega) (show 0 ≤ D by omega)
      omega
  rcases hz with h | h
  · exact big A h d1 ⟨b1, b2⟩
  · exact big B h d2 ⟨b3, b4⟩

def halfAt0 (hs : List Half) (i : Nat) : Half := hs.getD i ⟨0, 0, 0⟩
theorem halfAt0_at {hs : List Half} {i : Nat} (h : i < hs.length) : halfAt0 hs i = hs[i] := by simp [halfAt0, h]
/-- the corners of a region -/
def cornL (hs : List Half) : List Spot := (List.range hs.length).map fun i => lowPt (halfAt0 hs i) (halfAt0 hs ((i + 1) % hs.length))
theorem cornL_len (hs : List Half) : (cornL hs).length = hs.length := by simp [cornL]
def spotAt (l : List Spot) (k : Nat) : Spot := l.getD k ⟨0, 0, 0⟩
theorem spotAt_at {l : List Spot} {i : Nat} (h : i < l.length) : spotAt l i = l[i] := by simp [spotAt, h]
/-- the first of the farthest spots, and its value as a fraction -/
def farTo (a b : Int) (l : List Spot) : Nat → Int × Int × Int
  | 0 => (-1, 0, 0)
  | k + 1 => if (farTo a b l k).2.2 = 0 ∨ (farTo a b l k).2.1 * (spotAt l k).D < (a * (spotAt l k).X + b * (spotAt l k).Y) * (farTo a b l k).2.2
      then ((k : Int), a * (spotAt l k).X + b * (spotAt l k).Y, (spotAt l k).D) else farTo a b l k
def farOf (a b : Int) (hs : List Half) : Int × Int × Int := farTo a b (cornL hs) hs.length
/-- the greatest value in a direction -/
def suppR (hs : List Half) (a b : Int) : Ratio := ratioOf (farOf a b hs).2.1 (farOf a b hs).2.2

/-- a spot of the plane: what all corners are -/
structure SpotB (s : Spot) : Prop where
  d1 : 1 ≤ s.D
  d2 : s.D ≤ 5000000000
  x1 : -(1000 * s.D) ≤ s.X
  x2 : s.X ≤ 1000 * s.D
  y1 : -(1000 * s.D) ≤ s.Y
  y2 : s.Y ≤ 1000 * s.D
theorem low_B {x y d : Int} (hd : 0 < d) (hd2 : d ≤ 5000000000) (hb : inBox x y d = true) : SpotB (lowSpot x y d) := by
  obtain ⟨e1, e2, e3⟩ := low_mul x y d
  have hg : (0 : Int) < (gcd3 x y d : Int) := by have := gcd3_pos (x := x) (y := y) hd; omega
  have hp := low_pos (x := x) (y := y) hd
  unfold inBox at hb
  simp only [Bool.and_eq_true, decide_eq_true_eq] at hb
  obtain ⟨⟨⟨⟨_, b1⟩, b2⟩, b3⟩, b4⟩ := hb
  generalize lowSpot x y d = s at *
  generalize (gcd3 x y d : Int) = g at *
  have le : ∀ u v : Int, u * g ≤ v * g → u ≤ v := fun u v h => Int.le_of_mul_le_mul_right h hg
  have hle : s.D ≤ d := by
    have := Int.mul_le_mul_of_nonneg_left (show 1 ≤ g by omega) (Int.le_of_lt hp)
    omega
  refine ⟨by omega, by omega, le _ _ ?_, le _ _ ?_, le _ _ ?_, le _ _ ?_⟩
  · rw [Int.neg_mul, Int.mul_assoc, e3, e1]; omega
  · rw [Int.mul_assoc, e3, e1]; omega
  · rw [Int.neg_mul, Int.mul_assoc, e3, e2]; omega
  · rw [Int.mul_assoc, e3, e2]; omega
theorem Shape.corn {p : List Half} (h : Shape p) {i : Nat} (hi : i < p.length) (hu : (i + 1) % p.length < p.length) : (cornL p)[i]'(by rw [cornL_len]; exact hi) = lowPt p[i] p[(i + 1) % p.length] := by
  unfold cornL
  rw [List.getElem_map, List.getElem_range, halfAt0_at hi, halfAt0_at hu]
theorem Shape.spotB {p : List Half} (h : Shape p) : ∀ s ∈ cornL p, SpotB s := by
  intro s hs
  obtain ⟨i, hi, rfl⟩ := List.getElem_of_mem hs
  rw [cornL_len] at hi
  have hu := Nat.mod_lt (i + 1) h.pos
  rw [h.corn hi hu]
  have co := h.corner hi hu
  have hk := small_ok (all_ok h.all _ (List.getElem_mem hi))
  have hj := small_ok (all_ok h.all _ (List.getElem_mem hu))
  have hb := pt_bd hk hj
  exact low_B (by rw [co.frD]; exact co.1) (by omega) (co.box h.good)
theorem Shape.cornIn {p : List Half} (h : Shape p) : ∀ s ∈ cornL p, ∀ m ∈ listOf p, inH m s := by
  intro s hs
  obtain ⟨i, hi, rfl⟩ := List.getElem_of_mem hs
  rw [cornL_len] at hi
  have hu := Nat.mod_lt (i + 1) h.pos
  rw [h.corn hi hu]
  exact h.in_ hi hu
theorem SpotB.mul {s : Spot} (h : SpotB s) {a b M : Int} (ha : -M ≤ a ∧ a ≤ M) (hb : -M ≤ b ∧ b ≤ M) : -(2000 * M * s.D) ≤ a * s.X + b * s.Y ∧ a * s.X + b * s.Y ≤ 2000 * M * s.D := by
  have h1 := mul_bd (a := a) (b := s.X) (A := M) (B := 1000 * s.D) ha ⟨h.x1, h.x2⟩
  have h2 := mul_bd (a := b) (b := s.Y) (A := M) (B := 1000 * s.D) hb ⟨h.y1, h.y2⟩
  have e : M * (1000 * s.D) + M * (1000 * s.D) = 2000 * M * s.D := by grind
  omega
/-- the state of the search -/
theorem farTo_inv {a b M : Int} (ha : -M ≤ a ∧ a ≤ M) (hb : -M ≤ b ∧ b ≤ M) {l : List Spot} (hl : ∀ s ∈ l, SpotB s) : ∀ k, k ≤ l.length →
    (k = 0 ∧ farTo a b l k = (-1, 0, 0)) ∨ (0 < k ∧ ∃ i, ∃ hi : i < l.length, i < k ∧ farTo a b l k = ((i : Int), a * l[i].X + b * l[i].Y, l[i].D) ∧ ∀ j (hj : j < l.length), j < k → (a * l[j].X + b * l[j].Y) * l[i].D ≤ (a * l[i].X + b * l[i].Y) * l[j].D) := by
  intro k
  induction k with
  | zero => intro _; exact .inl ⟨rfl, rfl⟩
  | succ k ih =>
    intro hk
    have hkl : k < l.length := by omega
    rcases ih (by omega) with ⟨h1, h2⟩ | ⟨h1, i, hi, hik, h2, h3⟩
    · subst h1
      refine .inr ⟨by omega, 0, hkl, by omega, ?_, fun j hj hj1 => ?_⟩
      · rw [farTo, h2, if_pos (.inl rfl), spotAt_at hkl]
      · obtain rfl : j = 0 := by omega
        exact Int.le_refl _
    · have di := (hl _ (List.getElem_mem hi)).d1
      have dk := (hl _ (List.getElem_mem hkl)).d1
      by_cases hlt : (a * l[i].X + b * l[i].Y) * l[k].D < (a * l[k].X + b * l[k].Y) * l[i].D
      · refine .inr ⟨by omega, k, hkl, by omega, ?_, fun j hj hj1 => ?_⟩
        · rw [farTo, h2, spotAt_at hkl, if_pos (.inr hlt)]
        · by_cases e : j = k
          · subst e; exact Int.le_refl _
          · have dj := (hl _ (List.getElem_mem hj)).d1
            exact fr_trans (b := l[j].D) (d := l[i].D) (f := l[k].D) (by omega) (by omega) (by omega) (h3 j hj (by omega)) (by omega)
      · refine .inr ⟨by omega, i, hi, by omega, ?_, fun j hj hj1 => ?_⟩
        · rw [farTo, h2, spotAt_at hkl, if_neg]
          rintro (h | h)
          · simp only at h; omega
          · exact hlt h
        · by_cases e : j = k
          · subst e; omega
          · exact h3 j hj (by omega)
theorem farOf_at {a b M : Int} (ha : -M ≤ a ∧ a ≤ M) (hb : -M ≤ b ∧ b ≤ M) {p : List Half} (h : Shape p) :
    ∃ i, ∃ hi : i < (cornL p).length, farOf a b p = ((i : Int), a * (cornL p)[i].X + b * (cornL p)[i].Y, (cornL p)[i].D) ∧ ∀ j (hj : j < (cornL p).length), (a * (cornL p)[j].X + b * (cornL p)[j].Y) * (cornL p)[i].D ≤ (a * (cornL p)[i].X + b * (cornL p)[i].Y) * (cornL p)[j].D := by
  have hp := h.pos
  have hc := cornL_len p
  rcases farTo_inv ha hb h.spotB p.length (by omega) with ⟨h1, _⟩ | ⟨_, i, hi, _, h2, h3⟩
  · omega
  · exact ⟨i, hi, h2, fun j hj => h3 j hj (by omega)⟩
/-- the greatest value: a valid fraction that no spot of the region goes beyond -/
theorem supp_ok {a b : Int} (ha : -50000 ≤ a ∧ a ≤ 50000) (hb : -50000 ≤ b ∧ b ≤ 50000) {p : List Half} (h : Shape p) :
    ratioOk (suppR p a b) = true ∧ 1 ≤ (suppR p a b).D ∧ (suppR p a b).D ≤ 5000000000 ∧ -(100000000 * (suppR p a b).D) ≤ (suppR p a b).N ∧ (suppR p a b).N ≤ 100000000 * (suppR p a b).D := by
  obtain ⟨i, hi, e, _⟩ := farOf_at ha hb h
  have hB := h.spotB _ (List.getElem_mem hi)
  have hm := hB.mul ha hb
  have hd := hB.d1
  have hd2 := hB.d2
  unfold suppR
  rw [e]
  simp only
  obtain ⟨g1, g2, g3, g4, g5⟩ := ratioOf_good (n := a * (cornL p)[i].X + b * (cornL p)[i].Y) (d := (cornL p)[i].D) (by omega) hd (by omega)
  generalize (cornL p)[i] = s at *
  generalize a * s.X + b * s.Y = n at *
  generalize ratioOf n s.D = r at *
  have le : ∀ u v : Int, u * s.D ≤ v * s.D → u ≤ v := fun u v h => Int.le_of_mul_le_mul_right h (by omega)
  have m1 := Int.mul_le_mul_of_nonneg_right hm.1 (show 0 ≤ r.D by omega)
  have m2 := Int.mul_le_mul_of_nonneg_right hm.2 (show 0 ≤ r.D by omega)
  refine ⟨g1, g4, by omega, le _ _ ?_, le _ _ ?_⟩
  · rw [g2]
    have : -(100000000 * r.D) * s.D = -(2000 * 50000 * s.D) * r.D := by grind
    omega
  · rw [g2]
    have : 100000000 * r.D * s.D = 2000 * 50000 * s.D * r.D := by grind
    omega
/-- no spot of the region goes beyond -/
theorem supp_most {a b : Int} (ha : -50000 ≤ a ∧ a ≤ 50000) (hb : -50000 ≤ b ∧ b ≤ 50000) {p : List Half} (h : Shape p) {t : Spot} (ht : 0 < t.D) (hin : ∀ x ∈ p, inH x t) :
    (a * t.X + b * t.Y) * (suppR p a b).D ≤ (suppR p a b).N * t.D := by
  obtain ⟨i, hi, e, hmost⟩ := farOf_at ha hb h
  have hB := h.spotB _ (List.getElem_mem hi)
  have hm := hB.mul ha hb
  have hd := hB.d1
  have hd2 := hB.d2
  unfold suppR
  rw [e]
  simp only
  obtain ⟨g1, g2, g3, g4, g5⟩ := ratioOf_good (n := a * (cornL p)[i].X + b * (cornL p)[i].Y) (d := (cornL p)[i].D) (by omega) hd (by omega)
  have key : (a * t.X + b * t.Y) * (cornL p)[i].D ≤ (a * (cornL p)[i].X + b * (cornL p)[i].Y) * t.D := by
    by_cases hz : a = 0 ∧ b = 0
    · obtain ⟨rfl, rfl⟩ := hz; simp
    · obtain ⟨k, hk, hu, hall⟩ := h.most (m := ⟨a, b, 0⟩) (by unfold Go.Proofs.Ytnkkfjlnjhmahaa.nz; simp only; omega)
      have hkc : k < (cornL p).length := by rw [cornL_len]; exact hk
      have h1 := hall t ht hin
      rw [← h.corn hk hu] at h1
      have h2 := hmost k (by rw [cornL_len]; exact hk)
      have hBk := h.spotB _ (List.getElem_mem (show k < (cornL p).length by rw [cornL_len]; exact hk))
      exact fr_trans (b := t.D) (d := (cornL p)[k].D) (f := (cornL p)[i].D) ht hBk.d1 (by omega) h1 h2
  generalize (cornL p)[i] = s at *
  generalize a * s.X + b * s.Y = n at *
  generalize ratioOf n s.D = r at *
  have m1 := Int.mul_le_mul_of_nonneg_right key (show 0 ≤ r.D by omega)
  refine Int.le_of_mul_le_mul_right (a := s.D) ?_ (by omega)
  have e1 : (a * t.X + b * t.Y) * r.D * s.D = (a * t.X + b * t.Y) * s.D * r.D := by grind
  have e2 : r.N * t.D * s.D = n * t.D * r.D := by rw [show r.N * t.D * s.D = r.N * s.D * t.D by grind, g2]; grind
  omega

/-- a half plane moved in by a region -/
def erodeH (w : List Half) (h : Half) : Half × Bool := halfOfZ (h.A * (suppR w h.A h.B).D) (h.B * (suppR w h.A h.B).D) (h.C * (suppR w h.A h.B).D - (suppR w h.A h.B).N)
/-- all half planes turned; one that does not go ends it -/
def movedR (f : Half → Half × Bool) (p : List Half) : List Half × Bool := if p = [] then ([], true) else if p.all (fun h => (f h).2) = true then fitR (madeOf (p.map fun h => (f h).1)) else ([], false)
def erodeR (p w : List Half) : List Half × Bool := movedR (erodeH w) p
/-- the tops of the reference: C less the support, as a fraction -/
theorem erode_top {h : Half} (hk : halfOk h = true) {w : List Half} (hw : Shape w) :
    ratioOf (h.C * (suppR w h.A h.B).D + -(suppR w h.A h.B).N) ((suppR w h.A h.B).D) = ⟨h.C * (suppR w h.A h.B).D - (suppR w h.A h.B).N, (suppR w h.A h.B).D⟩ ∧ ratioOk ⟨h.C * (suppR w h.A h.B).D - (suppR w h.A h.B).N, (suppR w h.A h.B).D⟩ = true := by
  obtain ⟨b1, b2, b3, b4, b5, b6, hz, _⟩ := halfOk_bd hk
  obtain ⟨k1, k2, k3, k4, k5⟩ := supp_ok (a := h.A) (b := h.B) ⟨b1, b2⟩ ⟨b3, b4⟩ hw
  have hg := ratioOk_gcd k1
  generalize suppR w h.A h.B = s at *
  have m := mul_bd (a := h.C) (b := s.D) (A := 100000000) (B := s.D) ⟨b5, b6⟩ ⟨by omega, by omega⟩
  have e : h.C * s.D + -s.N = h.C * s.D - s.N := by omega
  rw [e]
  have hgc : Int.gcd (h.C * s.D - s.N) s.D = 1 := by
    rw [← hg]
    have : h.C * s.D - s.N = -s.N + h.C * s.D := by omega
    rw [this, Int.gcd_add_mul_right_left, Int.neg_gcd]
  have hok : ratioOk ⟨h.C * s.D - s.N, s.D⟩ = true := by
    unfold ratioOk inR
    simp only [Bool.and_eq_true, decide_eq_true_eq]
    refine ⟨⟨⟨k2, by omega⟩, by omega, by omega⟩, ?_⟩
    unfold gcdI
    rw [if_neg (by simp only [isLeastI, decide_eq_true_eq]; omega), hgc]
    rfl
  refine ⟨?_, hok⟩
  obtain ⟨g1, g2, _⟩ := ratioOf_good (n := h.C * s.D - s.N) (d := s.D) (by omega) (by omega) (by omega)
  exact ratio_eq g1 hok g2
/-- a top with a great denominator leaves nothing -/
theorem erode_big {h : Half} (hk : halfOk h = true) {w : List Half} (hw : Shape w) (hD : 50000 < (suppR w h.A h.B).D) : (erodeH w h).2 = false := by
  obtain ⟨b1, b2, b3, b4, b5, b6, hz, _⟩ := halfOk_bd hk
  have := ratioOk_gcd (erode_top hk hw).2
  exact half_big hz hD this
theorem supp_big {a b : Int} (ha : -50000 ≤ a ∧ a ≤ 50000) (hb : -50000 ≤ b ∧ b ≤ 50000) (hz : a ≠ 0 ∨ b ≠ 0) {p : List Half} (h : Shape p) (hD : 50000 < (suppR p a b).D) : (halfOfZ (a * (suppR p a b).D) (b * (suppR p a b).D) (suppR p a b).N).2 = false :=
  half_big hz hD (ratioOk_gcd (supp_ok ha hb h).1)
theorem moved_ok {f : Half → Half × Bool} (hf : ∀ h, (f h).2 = true → halfOk (f h).1 = true) (p : List Half) : regOk (movedR f p).1 = true := by
  unfold movedR
  split
  · rfl
  · split
    · rename_i h
      refine fit_regOk (List.all_eq_true.2 fun x hx => ?_)
      obtain ⟨y, hy, rfl⟩ := List.mem_map.1 hx
      exact hf y (List.all_eq_true.1 h y hy)
    · rfl
theorem erodeR_ok (p w : List Half) : regOk (erodeR p w).1 = true := moved_ok (fun _ h => halfOfZ_ok h) p

/-- a half plane grown along (bx, by) -/
def growH (bx by_ low high : Int) (h : Half) : Half × Bool := halfOfZ h.A h.B (h.C + (if -low * (h.A * bx + h.B * by_) < -high * (h.A * bx + h.B * by_) then -high * (h.A * bx + h.B * by_) else -low * (h.A * bx + h.B * by_)))
def sideH (p : List Half) (a b : Int) : Half × Bool := halfOfZ (a * (suppR p a b).D) (b * (suppR p a b).D) (suppR p a b).N
/-- the direction along which a region is grown -/
def dirA (bx by_ : Int) : Int := (-by_).tdiv (Int.gcd bx by_ : Int)
def dirB (bx by_ : Int) : Int := bx.tdiv (Int.gcd bx by_ : Int)
def growR (p : List Half) (bx by_ low high : Int) : List Half × Bool :=
  if p = [] ∨ (bx = 0 ∧ by_ = 0) then (p, true) else
  if (sideH p (dirA bx by_) (dirB bx by_)).2 = true ∧ (sideH p (-dirA bx by_) (-dirB bx by_)).2 = true ∧ p.all (fun h => (growH bx by_ low high h).2) = true
  then fitR (madeOf ([(sideH p (dirA bx by_) (dirB bx by_)).1, (sideH p (-dirA bx by_) (-dirB bx by_)).1] ++ p.map fun h => (growH bx by_ low high h).1)) else ([], false)
theorem growR_ok {p : List Half} (hp : regOk p = true) (bx by_ low high : Int) : regOk (growR p bx by_ low high).1 = true := by
  unfold growR
  split
  · exact hp
  · split
    · rename_i h
      obtain ⟨h1, h2, h3⟩ := h
      refine fit_regOk (List.all_eq_true.2 fun x hx => ?_)
      rcases List.mem_append.1 hx with h | h
      · simp only [List.mem_cons, List.not_mem_nil, or_false] at h
        rcases h with rfl | rfl
        · exact halfOfZ_ok h1
        · exact halfOfZ_ok h2
      · obtain ⟨y, hy, rfl⟩ := List.mem_map.1 h
        exact halfOfZ_ok (List.all_eq_true.1 h3 y hy)
    · rfl
def pullH (a b c d q : Int) (h : Half) : Half × Bool := halfOfZ (h.A * a + h.B * c) (h.A * b + h.B * d) (h.C * q)
def pullR (p : List Half) (a b c d q : Int) : List Half × Bool := movedR (pullH a b c d q) p
theorem pullR_ok (p : List Half) (a b c d q : Int) : regOk (pullR p a b c d q).1 = true := moved_ok (fun _ h => halfOfZ_ok h) p
/-- the meet of two valid regions -/
def meetR (p q : List Half) : List Half × Bool := if 40 < p.length + q.length then ([], false) else if p = [] ∨ q = [] then ([], true) else (madeOf (p ++ q), true)
theorem meet_fit {p q : List Half} (hp : regOk p = true) (hq : regOk q = true) (hl : p.length + q.length ≤ 40) (h1 : p ≠ []) (h2 : q ≠ []) : fitR (madeOf (p ++ q)) = (madeOf (p ++ q), true) :=
  made_cut_fit hp h1 (regOk_made hq h2).1 hl
theorem meetR_ok {p q : List Half} (hp : regOk p = true) (hq : regOk q = true) : regOk (meetR p q).1 = true := by
  unfold meetR
  split
  · rfl
  · split
    · rfl
    · rename_i h1 h2
      obtain ⟨a1, _, _⟩ := regOk_made hp (fun e => h2 (.inl e))
      obtain ⟨b1, _, _⟩ := regOk_made hq (fun e => h2 (.inr e))
      have := fit_regOk (hs := p ++ q) (by rw [List.all_append, a1, b1]; rfl)
      rwa [meet_fit hp hq (by omega) (fun e => h2 (.inl e)) (fun e => h2 (.inr e))] at this
def cutR (p : List Half) (h : Half) : List Half × Bool := if regOk p = true ∧ halfOk h = true ∧ p.length < 40 then (if p = [] then ([], true) else (madeOf (p ++ [h]), true)) else ([], false)
theorem cutR_ok (p : List Half) (h : Half) : regOk (cutR p h).1 = true := by
  unfold cutR
  split
  · rename_i h1
    split
    · rfl
    · rename_i hne
      obtain ⟨a1, _, _⟩ := regOk_made h1.1 hne
      have := fit_regOk (hs := p ++ [h]) (by rw [List.all_append, a1]; simp [h1.2.1])
      rwa [made_cut_fit h1.1 hne (by simp [h1.2.1]) (by have := h1.2.2; simp; omega)] at this
  · rfl
end Go.Proofs.Ytnkkfjlnjhmahaa
