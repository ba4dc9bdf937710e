/- Plain geometry of half planes: directions, their order, the tightest half plane of each direction. -/
import Derived.Test.YtlgkfjhbimffiaaDoorPlain
namespace Go.Proofs.YtlgkfjhbimffiaaDoor
set_option linter.unusedVariables false

def cross (g h : Half) : Int := g.A * h.B - g.B * h.A
def det3 (k i j : Half) : Int := k.C * cross i j - i.C * cross k j + j.C * cross k i
theorem cross_self (h : Half) : cross h h = 0 := by unfold cross; grind
theorem cross_anti (g h : Half) : cross h g = -cross g h := by unfold cross; grind
theorem det3_cyc (k i j : Half) : det3 i j k = det3 k i j := by unfold det3 cross; grind
theorem det3_swap (k i j : Half) : det3 i k j = -det3 k i j := by unfold det3 cross; grind
theorem det3_swap2 (k i j : Half) : det3 k j i = -det3 k i j := by unfold det3 cross; grind
theorem plucker (b i k m : Half) : cross b k * det3 b i m = cross b i * det3 b k m + cross b m * det3 b i k := by unfold det3 cross; grind
theorem plucker2 (x a b c : Half) : cross x b * cross a c = cross x c * cross a b + cross x a * cross b c := by unfold cross; grind
theorem pluckerB (a b c : Half) : b.B * cross a c = c.B * cross a b + a.B * cross b c := by unfold cross; grind
theorem pluckerA (a b c : Half) : b.A * cross a c = c.A * cross a b + a.A * cross b c := by unfold cross; grind

def isUpper (h : Half) : Bool := decide (0 < h.B) || (decide (h.B = 0) && decide (0 < h.A))
def before (g h : Half) : Bool := if isUpper g != isUpper h then isUpper g else decide (0 < cross g h)
def sameDir (g h : Half) : Bool := decide (cross g h = 0) && (isUpper g == isUpper h)
def nz (h : Half) : Prop := h.A ≠ 0 ∨ h.B ≠ 0
def sizeH (h : Half) : Int := if h.A ≠ 0 then (if h.A < -h.A then -h.A else h.A) else (if h.B < -h.B then -h.B else h.B)

theorem up_iff (h : Half) : isUpper h = true ↔ (0 < h.B ∨ (h.B = 0 ∧ 0 < h.A)) := by simp [isUpper]
theorem up_not (h : Half) (hz : nz h) : isUpper h = false ↔ (h.B < 0 ∨ (h.B = 0 ∧ h.A < 0)) := by
  unfold nz at hz
  rw [← Bool.not_eq_true, up_iff]
  omega
theorem before_iff (g h : Half) : before g h = true ↔ ((isUpper g = true ∧ isUpper h = false) ∨ (isUpper g = isUpper h ∧ 0 < cross g h)) := by
  unfold before
  cases isUpper g <;> cases isUpper h <;> simp
theorem sameDir_iff (g h : Half) : sameDir g h = true ↔ (cross g h = 0 ∧ isUpper g = isUpper h) := by simp [sameDir]
theorem before_irr (g : Half) : before g g = false := by
  rw [← Bool.not_eq_true, before_iff, cross_self]; simp
theorem before_asymm {g h : Half} (h1 : before g h = true) : before h g = false := by
  rw [← Bool.not_eq_true, before_iff, cross_anti]
  rw [before_iff] at h1
  rcases h1 with ⟨a, b⟩ | ⟨a, b⟩
  · rw [a, b]; simp
  · rw [a]; simp; omega
theorem sameDir_refl (g : Half) : sameDir g g = true := by rw [sameDir_iff, cross_self]; simp
theorem sameDir_symm {g h : Half} (h1 : sameDir g h = true) : sameDir h g = true := by
  rw [sameDir_iff] at h1 ⊢
  rw [cross_anti]
  exact ⟨by omega, h1.2.symm⟩
theorem before_not_same {g h : Half} (h1 : before g h = true) : sameDir g h = false := by
  rw [← Bool.not_eq_true, sameDir_iff]
  rw [before_iff] at h1
  rcases h1 with ⟨a, b⟩ | ⟨a, b⟩
  · rw [a, b]; simp
  · omega
theorem before_tri (g h : Half) : before g h = true ∨ sameDir g h = true ∨ before h g = true := by
  rw [before_iff, sameDir_iff, before_iff, cross_anti g h]
  cases hg : isUpper g <;> cases hh : isUpper h <;> simp <;> omega

/-- half planes of one half turn: the order by the cross product -/
theorem cross_trans {a b c : Half} (ha : nz a) (hb : nz b) (hc : nz c) (h1 : isUpper a = isUpper b) (h2 : isUpper b = isUpper c) (h3 : 0 ≤ cross a b) (h4 : 0 ≤ cross b c) (h5 : 0 < cross a b ∨ 0 < cross b c) : 0 < cross a c := by
  have e1 := pluckerB a b c
  have e2 := pluckerA a b c
  cases hu : isUpper b with
  | true =>
    have ua := (up_iff a).1 (by rw [h1, hu])
    have ub := (up_iff b).1 hu
    have uc := (up_iff c).1 (by rw [← h2, hu])
    by_cases hb0 : b.B = 0
    · have hbA : 0 < b.A := by omega
      -- cross a b = -a.B * b.A
      have e3 : cross a b = -(a.B * b.A) := by unfold cross; rw [hb0]; grind
      have haB : a.B = 0 := by
        rcases Int.lt_trichotomy a.B 0 with h | h | h
        · omega
        · exact h
        · have := Int.mul_pos h hbA; omega
      have haA : 0 < a.A := by omega
      have e4 : cross a b = 0 := by rw [e3, haB]; simp
      have hbc : 0 < cross b c := by omega
      have e5 : cross b c = b.A * c.B := by unfold cross; rw [hb0]; grind
      have e6 : cross a c = a.A * c.B := by unfold cross; rw [haB]; grind
      have hcB : 0 < c.B := by
        rcases Int.lt_trichotomy c.B 0 with h | h | h
        · omega
        · rw [h] at e5; simp at e5; omega
        · exact h
      rw [e6]; exact Int.mul_pos haA hcB
    · have hbB : 0 < b.B := by omega
      have haB : 0 ≤ a.B := by omega
      have hcB : 0 ≤ c.B := by omega
      have p1 := Int.mul_nonneg hcB h3
      have p2 := Int.mul_nonneg haB h4
      rcases Int.lt_or_le 0 (cross a c) with h | h
      · exact h
      · exfalso
        have p3 : b.B * cross a c ≤ 0 := by
          have := Int.mul_nonneg (Int.le_of_lt hbB) (show 0 ≤ -cross a c by omega)
          rw [Int.mul_neg] at this; omega
        have z1 : c.B * cross a b = 0 := by omega
        have z2 : a.B * cross b c = 0 := by omega
        rcases Int.mul_eq_zero.1 z1 with h6 | h6 <;> rcases Int.mul_eq_zero.1 z2 with h7 | h7
        · -- both on the axis
          have e7 : cross b c = -(b.B * c.A) := by unfold cross; rw [h6]; grind
          have hcA : 0 < c.A := by omega
          have := Int.mul_pos hbB hcA
          omega
        · have e7 : cross b c = -(b.B * c.A) := by unfold cross; rw [h6]; grind
          have hcA : 0 < c.A := by omega
          have := Int.mul_pos hbB hcA
          omega
        · have h8 : 0 < cross b c := by omega
          have e8 : cross a b = a.A * b.B := by unfold cross; rw [h7]; grind
          have haA : 0 < a.A := by omega
          have := Int.mul_pos haA hbB
          omega
        · omega
  | false =>
    have ua := (up_not a ha).1 (by rw [h1, hu])
    have ub := (up_not b hb).1 hu
    have uc := (up_not c hc).1 (by rw [← h2, hu])
    by_cases hb0 : b.B = 0
    · have hbA : b.A < 0 := by omega
      have e3 : cross a b = -(a.B * b.A) := by unfold cross; rw [hb0]; grind
      have haB : a.B = 0 := by
        rcases Int.lt_trichotomy a.B 0 with h | h | h
        · have := Int.mul_pos_of_neg_of_neg h hbA; omega
        · exact h
        · omega
      have haA : a.A < 0 := by omega
      have e4 : cross a b = 0 := by rw [e3, haB]; simp
      have hbc : 0 < cross b c := by omega
      have e5 : cross b c = b.A * c.B := by unfold cross; rw [hb0]; grind
      have e6 : cross a c = a.A * c.B := by unfold cross; rw [haB]; grind
      have hcB : c.B < 0 := by
        rcases Int.lt_trichotomy c.B 0 with h | h | h
        · exact h
        · rw [h] at e5; simp at e5; omega
        · omega
      rw [e6]; exact Int.mul_pos_of_neg_of_neg haA hcB
    · have hbB : b.B < 0 := by omega
      have haB : a.B ≤ 0 := by omega
      have hcB : c.B ≤ 0 := by omega
      have p1 := Int.mul_nonneg (show 0 ≤ -c.B by omega) h3
      have p2 := Int.mul_nonneg (show 0 ≤ -a.B by omega) h4
      rw [Int.neg_mul] at p1 p2
      rcases Int.lt_or_le 0 (cross a c) with h | h
      · exact h
      · exfalso
        have p3 : 0 ≤ b.B * cross a c := Int.mul_nonneg_of_nonpos_of_nonpos (by omega) h
        have z1 : c.B * cross a b = 0 := by omega
        have z2 : a.B * cross b c = 0 := by omega
        rcases Int.mul_eq_zero.1 z1 with h6 | h6 <;> rcases Int.mul_eq_zero.1 z2 with h7 | h7
        · have e7 : cross b c = -(b.B * c.A) := by unfold cross; rw [h6]; grind
          have hcA : c.A < 0 := by omega
          have := Int.mul_pos_of_neg_of_neg hbB hcA
          omega
        · have e7 : cross b c = -(b.B * c.A) := by unfold cross; rw [h6]; grind
          have hcA : c.A < 0 := by omega
          have := Int.mul_pos_of_neg_of_neg hbB hcA
          omega
        · have h8 : 0 < cross b c := by omega
          have e8 : cross a b = a.A * b.B := by unfold cross; rw [h7]; grind
          have haA : a.A < 0 := by omega
          have := Int.mul_pos_of_neg_of_neg haA hbB
          omega
        · omega
/-- two of one half turn and one line have one direction -/
theorem cross_zero {a b c : Half} (ha : nz a) (hb : nz b) (hc : nz c) (h1 : isUpper a = isUpper b) (h2 : isUpper b = isUpper c) (h3 : cross a b = 0) (h4 : cross b c = 0) : cross a c = 0 := by
  have e1 := pluckerB a b c
  have e2 := pluckerA a b c
  rw [h3, h4, Int.mul_zero, Int.mul_zero, Int.add_zero] at e1 e2
  unfold nz at hb
  rcases Int.mul_eq_zero.1 e1 with e1 | e1
  · rcases Int.mul_eq_zero.1 e2 with e2 | e2
    · omega
    · exact e2
  · exact e1
theorem before_trans {a b c : Half} (ha : nz a) (hb : nz b) (hc : nz c) (h1 : before a b = true) (h2 : before b c = true) : before a c = true := by
  rw [before_iff] at h1 h2 ⊢
  rcases h1 with ⟨a1, a2⟩ | ⟨a1, a2⟩ <;> rcases h2 with ⟨b1, b2⟩ | ⟨b1, b2⟩
  · rw [a2] at b1; cases b1
  · exact .inl ⟨a1, by rw [← b1]; exact a2⟩
  · exact .inl ⟨by rw [a1]; exact b1, b2⟩
  · exact .inr ⟨a1.trans b1, cross_trans ha hb hc a1 b1 (by omega) (by omega) (.inl a2)⟩
theorem same_trans {a b c : Half} (ha : nz a) (hb : nz b) (hc : nz c) (h1 : sameDir a b = true) (h2 : sameDir b c = true) : sameDir a c = true := by
  rw [sameDir_iff] at h1 h2 ⊢
  exact ⟨cross_zero ha hb hc h1.2 h2.2 h1.1 h2.1, h1.2.trans h2.2⟩
theorem before_same {a b c : Half} (ha : nz a) (hb : nz b) (hc : nz c) (h1 : before a b = true) (h2 : sameDir b c = true) : before a c = true := by
  rw [before_iff] at h1 ⊢
  rw [sameDir_iff] at h2
  rcases h1 with ⟨a1, a2⟩ | ⟨a1, a2⟩
  · exact .inl ⟨a1, by rw [← h2.2]; exact a2⟩
  · exact .inr ⟨a1.trans h2.2, cross_trans ha hb hc a1 h2.2 (by omega) (by omega) (.inl a2)⟩
theorem same_before {a b c : Half} (ha : nz a) (hb : nz b) (hc : nz c) (h1 : sameDir a b = true) (h2 : before b c = true) : before a c = true := by
  rw [before_iff] at h2 ⊢
  rw [sameDir_iff] at h1
  rcases h2 with ⟨a1, a2⟩ | ⟨a1, a2⟩
  · exact .inl ⟨by rw [h1.2]; exact a1, a2⟩
  · exact .inr ⟨h1.2.trans a1, cross_trans ha hb hc h1.2 a1 (by omega) (by omega) (.inr a2)⟩

theorem sizeH_pos {h : Half} (hz : nz h) : 0 < sizeH h := by
  unfold nz at hz
  unfold sizeH
  split <;> split <;> omega
/-- half planes of one direction are multiples of each other -/
theorem same_scale {g h : Half} (hg : nz g) (hh : nz h) (hs : sameDir g h = true) : sizeH h * g.A = sizeH g * h.A ∧ sizeH h * g.B = sizeH g * h.B := by
  rw [sameDir_iff] at hs
  obtain ⟨h1, h2⟩ := hs
  have e : g.A * h.B = g.B * h.A := by unfold cross at h1; omega
  have key : (g.A = 0 ↔ h.A = 0) ∧ (0 < g.A ↔ 0 < h.A) ∧ (g.B = 0 ↔ h.B = 0) ∧ (0 < g.B ↔ 0 < h.B) := by
    have hB : (g.B = 0 ↔ h.B = 0) ∧ (0 < g.B ↔ 0 < h.B) := by
      cases hu : isUpper g with
      | true =>
        have u1 := (up_iff g).1 hu
        have u2 := (up_iff h).1 (by rw [← h2, hu])
        rcases Int.lt_or_le 0 g.B with a | a <;> rcases Int.lt_or_le 0 h.B with b | b
        · omega
        · have : h.B = 0 := by omega
          rw [this] at e
          have := Int.mul_pos a (show 0 < h.A by omega)
          simp at e; omega
        · have : g.B = 0 := by omega
          rw [this] at e
          have := Int.mul_pos (show 0 < g.A by omega) b
          simp at e; omega
        · omega
      | false =>
        have u1 := (up_not g hg).1 hu
        have u2 := (up_not h hh).1 (by rw [← h2, hu])
        rcases Int.lt_or_le g.B 0 with a | a <;> rcases Int.lt_or_le h.B 0 with b | b
        · omega
        · have : h.B = 0 := by omega
          rw [this] at e
          have := Int.mul_pos_of_neg_of_neg a (show h.A < 0 by omega)
          simp at e; omega
        · have : g.B = 0 := by omega
          rw [this] at e
          have := Int.mul_pos_of_neg_of_neg (show g.A < 0 by omega) b
          simp at e; omega
        · omega
    have hA : (0 < g.A ↔ 0 < h.A) ∧ (g.A = 0 ↔ h.A = 0) := by
      rcases Int.lt_trichotomy g.B 0 with a | a | a
      · have b : h.B < 0 := by omega
        constructor
        · constructor
          · intro c
            rcases Int.lt_or_le 0 h.A with d | d
            · exact d
            · have := Int.mul_neg_of_pos_of_neg c b
              have := Int.mul_nonneg_of_nonpos_of_nonpos (show g.B ≤ 0 by omega) d
              omega
          · intro c
            rcases Int.lt_or_le 0 g.A with d | d
            · exact d
            · have := Int.mul_neg_of_neg_of_pos a c
              have := Int.mul_nonneg_of_nonpos_of_nonpos d (show h.B ≤ 0 by omega)
              omega
        · constructor
          · intro c; rw [c, Int.zero_mul] at e; rcases Int.mul_eq_zero.1 e.symm with e | e <;> omega
          · intro c; rw [c, Int.mul_zero] at e; rcases Int.mul_eq_zero.1 e with e | e <;> omega
      · have b : h.B = 0 := hB.1.1 a
        unfold nz at hg hh
        rw [isUpper, isUpper] at h2
        simp [a, b] at h2
        omega
      · have b : 0 < h.B := hB.2.1 a
        constructor
        · constructor
          · intro c
            rcases Int.lt_or_le 0 h.A with d | d
            · exact d
            · have := Int.mul_pos c b
              have := Int.mul_nonneg (show 0 ≤ g.B by omega) (show 0 ≤ -h.A by omega)
              rw [Int.mul_neg] at this
              omega
          · intro c
            rcases Int.lt_or_le 0 g.A with d | d
            · exact d
            · have := Int.mul_pos a c
              have := Int.mul_nonneg (show 0 ≤ -g.A by omega) (show 0 ≤ h.B by omega)
              rw [Int.neg_mul] at this
              omega
        · constructor
          · intro c; rw [c, Int.zero_mul] at e; rcases Int.mul_eq_zero.1 e.symm with e | e <;> omega
          · intro c; rw [c, Int.mul_zero] at e; rcases Int.mul_eq_zero.1 e with e | e <;> omega
    exact ⟨hA.2, hA.1, hB⟩
  obtain ⟨k1, k2, k3, k4⟩ := key
  unfold sizeH
  by_cases c : g.A = 0
  · have d := k1.1 c
    rw [if_neg (show ¬ h.A ≠ 0 by omega), if_neg (show ¬ g.A ≠ 0 by omega)]
    refine ⟨by rw [c, d]; simp, ?_⟩
    split <;> split <;> first | omega | (rw [Int.neg_mul, Int.neg_mul, Int.mul_comm]) | (rw [Int.mul_comm])
  · have d : ¬ h.A = 0 := fun x => c (k1.2 x)
    rw [if_pos c, if_pos d]
    split <;> split <;> first | (constructor <;> grind) | omega
end Go.Proofs.YtlgkfjhbimffiaaDoor
