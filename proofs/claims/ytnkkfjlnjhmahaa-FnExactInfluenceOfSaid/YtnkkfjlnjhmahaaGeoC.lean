/- Corners of a region: they lie in it; a direction is greatest at one of them. -/
import Derived.Test.YtnkkfjlnjhmahaaGeoM
import Derived.Test.YtnkkfjlnjhmahaaPz
namespace Go.Proofs.Ytnkkfjlnjhmahaa
set_option linter.unusedVariables false

/-- every direction lies between two edges that meet in a corner -/
theorem implied_dir {S : List Half} (hS : Good S) (ho : openP S) (hne : edges S ≠ []) {m : Half} (zm : nz m) :
    ∃ t, ∃ ht : t < (edges S).length, ∃ hu : (t + 1) % (edges S).length < (edges S).length, Corner S (edges S)[t] (edges S)[(t + 1) % (edges S).length] ∧ 0 ≤ cross (edges S)[t] m ∧ 0 ≤ cross m (edges S)[(t + 1) % (edges S).length] := by
  have sE := edges_srt hS.srt
  have zE : Nz (edges S) := fun x hx => hS.nz x (edges_mem.1 hx).1
  have hn0 : 0 < (edges S).length := List.length_pos_iff.2 hne
  -- the number of edges that do not come behind m
  have key : ∀ n, n ≤ (edges S).length → (∀ t (ht : t < (edges S).length), t < n → before m (edges S)[t] = false) ∨
      (∃ t, ∃ ht : t < (edges S).length, before m (edges S)[t] = true ∧ ∀ u (hu : u < (edges S).length), u < t → before m (edges S)[u] = false) := by
    intro n
    induction n with
    | zero => intro _; exact .inl fun t _ h => by omega
    | succ n ih =>
      intro hn
      rcases ih (by omega) with h | h
      · cases hb : before m ((edges S)[n]'(by omega)) with
        | true => exact .inr ⟨n, by omega, hb, fun u hu hlt => h u hu hlt⟩
        | false =>
          refine .inl fun t ht hlt => ?_
          by_cases e : t = n
          · subst e; exact hb
          · exact h t ht (by omega)
      · exact .inr h
  have weak : ∀ t (ht : t < (edges S).length), before m (edges S)[t] = false → sameDir (edges S)[t] m = true ∨ before (edges S)[t] m = true := by
    intro t ht hb
    rcases before_tri (edges S)[t] m with h | h | h
    · exact .inr h
    · exact .inl h
    · rw [hb] at h; cases h
  have corner : ∀ t (ht : t < (edges S).length) (hu : (t + 1) % (edges S).length < (edges S).length), Corner S (edges S)[t] (edges S)[(t + 1) % (edges S).length] := fun t ht hu => next_at hS ho ht hu
  rcases key (edges S).length (Nat.le_refl _) with h | ⟨t, ht, hb, hlow⟩
  · -- all edges come before m, or have its direction: the last and the first
    have hl : (edges S).length - 1 < (edges S).length := by omega
    have em : ((edges S).length - 1 + 1) % (edges S).length = 0 := by rw [show (edges S).length - 1 + 1 = (edges S).length by omega]; exact Nat.mod_self _
    have co := corner _ hl (by rw [em]; exact hn0)
    simp only [em] at co
    have za := zE _ (List.getElem_mem hl)
    have zb := zE _ (List.getElem_mem hn0)
    refine ⟨_, hl, by rw [em]; exact hn0, ?_⟩
    simp only [em]
    refine ⟨co, ?_⟩
    have hne1 : (edges S).length ≠ 1 := by
      intro e1
      have := co.1
      simp only [e1] at this
      rw [cross_self] at this
      omega
    have b0 := sE.at_ hn0 hl (by omega)
    rcases weak _ hl (h _ hl hl) with w | w
    · refine ⟨by rw [same_cross w]; omega, ?_⟩
      have e1 := same_turn (c := (edges S)[0]) za zm w
      have := Int.mul_pos (sizeH_pos zm) co.1
      exact pos_of_mul (sizeH_pos za) (by omega)
    · obtain ⟨c1, c2⟩ := mid2 za zm zb b0 w co.1
      omega
  · by_cases ht0 : t = 0
    · subst ht0
      have hl : (edges S).length - 1 < (edges S).length := by omega
      have em : ((edges S).length - 1 + 1) % (edges S).length = 0 := by rw [show (edges S).length - 1 + 1 = (edges S).length by omega]; exact Nat.mod_self _
      have co := corner _ hl (by rw [em]; exact hn0)
      simp only [em] at co
      have za := zE _ (List.getElem_mem hl)
      have zb := zE _ (List.getElem_mem hn0)
      refine ⟨_, hl, by rw [em]; exact hn0, ?_⟩
      simp only [em]
      refine ⟨co, ?_⟩
      have hne1 : (edges S).length ≠ 1 := by
        intro e1
        have := co.1
        simp only [e1] at this
        rw [cross_self] at this
        omega
      have b0 := sE.at_ hn0 hl (by omega)
      obtain ⟨c1, c2⟩ := mid3 za zm zb hb b0 co.1
      omega
    · have ht1 : t - 1 < (edges S).length := by omega
      have em : (t - 1 + 1) % (edges S).length = t := by rw [show t - 1 + 1 = t by omega]; exact Nat.mod_eq_of_lt ht
      have co := corner _ ht1 (by rw [em]; exact ht)
      simp only [em] at co
      have za := zE _ (List.getElem_mem ht1)
      have zb := zE _ (List.getElem_mem ht)
      refine ⟨_, ht1, by rw [em]; exact ht, ?_⟩
      simp only [em]
      refine ⟨co, ?_⟩
      rcases weak _ ht1 (hlow _ ht1 (by omega)) with w | w
      · refine ⟨by rw [same_cross w]; omega, ?_⟩
        have e1 := same_turn (c := (edges S)[t]) za zm w
        have := Int.mul_pos (sizeH_pos zm) co.1
        exact pos_of_mul (sizeH_pos za) (by omega)
      · obtain ⟨c1, c2⟩ := mid1 za zm zb w hb co.1
        omega

/-- the list of which a region is made -/
def listOf (p : List Half) : List Half := sortedH (frame ++ p)
structure Shape (p : List Half) : Prop where
  good : Good (listOf p)
  open_ : openP (listOf p)
  eq : edges (listOf p) = p
  all : p.all halfOk = true
  len : p.length ≤ 40
  ne : p ≠ []
theorem shape_of {p : List Half} (h : regOk p = true) (hne : p ≠ []) : Shape p := by
  obtain ⟨h1, h2, h3⟩ := regOk_made h hne
  obtain ⟨ho, he⟩ := made_eq_edges (hs := p) (by rw [h3]; exact hne)
  exact ⟨made_good h1, ho, by unfold listOf; rw [← he, h3], h1, h2, hne⟩
theorem Shape.sub {p : List Half} (h : Shape p) : ∀ x ∈ p, x ∈ listOf p := fun x hx => (edges_mem.1 (by rw [h.eq]; exact hx)).1
theorem Shape.pos {p : List Half} (h : Shape p) : 0 < p.length := List.length_pos_iff.2 h.ne
theorem Shape.nz {p : List Half} (h : Shape p) : Nz p := ok_nz (all_ok h.all)
theorem Shape.corner {p : List Half} (h : Shape p) {t : Nat} (ht : t < p.length) (hu : (t + 1) % p.length < p.length) : Corner (listOf p) p[t] p[(t + 1) % p.length] := by
  have e := h.eq
  have := next_at h.good h.open_ (t := t) (by rw [e]; exact ht) (by rw [e]; exact hu)
  simp only [e] at this
  exact this
theorem Shape.dir {p : List Half} (h : Shape p) {m : Half} (zm : Go.Proofs.Ytnkkfjlnjhmahaa.nz m) :
    ∃ t, ∃ ht : t < p.length, ∃ hu : (t + 1) % p.length < p.length, Corner (listOf p) p[t] p[(t + 1) % p.length] ∧ 0 ≤ cross p[t] m ∧ 0 ≤ cross m p[(t + 1) % p.length] := by
  have e := h.eq
  have := implied_dir h.good h.open_ (by rw [e]; exact h.ne) zm
  simp only [e] at this
  exact this
theorem Corner.sat {S : List Half} {k j : Half} (h : Corner S k j) : ∀ m ∈ S, sat k j m := fun m hm => .inl ⟨h.1, h.2 m hm⟩
theorem Corner.inside {S : List Half} (hS : Good S) {k j : Half} (h : Corner S k j) : insideB S k j = true := (inside_iff hS).2 ⟨by have := h.1; omega, h.sat⟩
theorem Corner.frD {S : List Half} {k j : Half} (h : Corner S k j) : frD k j = cross k j := by
  unfold Go.Proofs.Ytnkkfjlnjhmahaa.frD; rw [if_neg (by have := h.1; omega)]
theorem Corner.box {S : List Half} (hS : Good S) {k j : Half} (h : Corner S k j) : inBox (ptX k j) (ptY k j) (Go.Proofs.Ytnkkfjlnjhmahaa.frD k j) = true := by
  have := h.inside hS
  unfold insideB at this
  rw [Bool.and_eq_true] at this
  exact this.1
theorem Corner.inPt {S : List Half} (hS : Good S) {k j : Half} (h : Corner S k j) : ∀ m ∈ S, inPt (ptX k j) (ptY k j) (Go.Proofs.Ytnkkfjlnjhmahaa.frD k j) m = true := by
  have := h.inside hS
  unfold insideB at this
  rw [Bool.and_eq_true] at this
  exact List.all_eq_true.1 this.2
/-- a spot lies in a half plane, and in all of a list -/
def inH (h : Half) (s : Spot) : Prop := h.A * s.X + h.B * s.Y ≤ h.C * s.D
theorem low_inH {x y d : Int} (hd : 0 < d) (h : Half) : inH h (lowSpot x y d) ↔ inPt x y d h = true := by
  obtain ⟨e1, e2, e3⟩ := low_mul x y d
  have hg : (0 : Int) < (gcd3 x y d : Int) := by have := gcd3_pos (x := x) (y := y) hd; omega
  unfold inH inPt
  rw [decide_eq_true_eq]
  generalize lowSpot x y d = s at *
  generalize (gcd3 x y d : Int) = g at *
  subst e1 e2 e3
  constructor
  · intro q
    have := Int.mul_le_mul_of_nonneg_right q (Int.le_of_lt hg)
    grind
  · intro q
    refine Int.le_of_mul_le_mul_right (a := g) ?_ hg
    grind
theorem Shape.in_ {p : List Half} (h : Shape p) {t : Nat} (ht : t < p.length) (hu : (t + 1) % p.length < p.length) : ∀ m ∈ listOf p, inH m (lowPt p[t] p[(t + 1) % p.length]) := fun m hm => by
  have co := h.corner ht hu
  exact (low_inH (by rw [co.frD]; exact co.1) m).2 (co.inPt h.good m hm)
/-- the list follows from the region: what lies in its edges lies in all -/
theorem Shape.follows {p : List Half} (h : Shape p) {s : Spot} (hd : 0 < s.D) (hs : ∀ x ∈ p, inH x s) : ∀ m ∈ listOf p, inH m s := by
  intro m hm
  obtain ⟨t, ht, hu, co, c1, c2⟩ := h.dir (h.good.nz m hm)
  have h1 := hs _ (List.getElem_mem ht)
  have h2 := hs _ (List.getElem_mem hu)
  obtain ⟨c0, c3⟩ := co
  have c4 := c3 m hm
  generalize p[t] = a at *
  generalize p[(t + 1) % p.length] = b at *
  unfold inH at *
  have q1 := Int.mul_le_mul_of_nonneg_left h1 c2
  have q2 := Int.mul_le_mul_of_nonneg_left h2 c1
  have q3 := Int.mul_nonneg c4 (Int.le_of_lt hd)
  refine Int.le_of_mul_le_mul_left (a := cross a b) ?_ c0
  have e1 : cross a b * (m.A * s.X + m.B * s.Y) = cross m b * (a.A * s.X + a.B * s.Y) + cross a m * (b.A * s.X + b.B * s.Y) := by unfold cross; grind
  have e2 : cross a b * (m.C * s.D) = cross m b * (a.C * s.D) + cross a m * (b.C * s.D) + det3 a b m * s.D := by unfold det3 cross; grind
  omega
/-- a direction is greatest at a corner -/
theorem Shape.most {p : List Half} (h : Shape p) {m : Half} (zm : Go.Proofs.Ytnkkfjlnjhmahaa.nz m) : ∃ t, ∃ ht : t < p.length, ∃ hu : (t + 1) % p.length < p.length, ∀ s : Spot, 0 < s.D → (∀ x ∈ p, inH x s) →
    (m.A * s.X + m.B * s.Y) * (lowPt p[t] p[(t + 1) % p.length]).D ≤ (m.A * (lowPt p[t] p[(t + 1) % p.length]).X + m.B * (lowPt p[t] p[(t + 1) % p.length]).Y) * s.D := by
  obtain ⟨t, ht, hu, co, c1, c2⟩ := h.dir zm
  refine ⟨t, ht, hu, fun s hd hs => ?_⟩
  have h1 := hs _ (List.getElem_mem ht)
  have h2 := hs _ (List.getElem_mem hu)
  have hf := co.frD
  obtain ⟨c0, _⟩ := co
  generalize p[t] = a at *
  generalize p[(t + 1) % p.length] = b at *
  obtain ⟨e1, e2, e3⟩ := low_mul (ptX a b) (ptY a b) (Go.Proofs.Ytnkkfjlnjhmahaa.frD a b)
  have hg : (0 : Int) < (gcd3 (ptX a b) (ptY a b) (Go.Proofs.Ytnkkfjlnjhmahaa.frD a b) : Int) := by have := gcd3_pos (x := ptX a b) (y := ptY a b) (d := Go.Proofs.Ytnkkfjlnjhmahaa.frD a b) (by omega); omega
  change (m.A * s.X + m.B * s.Y) * (lowSpot (ptX a b) (ptY a b) (Go.Proofs.Ytnkkfjlnjhmahaa.frD a b)).D ≤ (m.A * (lowSpot (ptX a b) (ptY a b) (Go.Proofs.Ytnkkfjlnjhmahaa.frD a b)).X + m.B * (lowSpot (ptX a b) (ptY a b) (Go.Proofs.Ytnkkfjlnjhmahaa.frD a b)).Y) * s.D
  generalize lowSpot (ptX a b) (ptY a b) (Go.Proofs.Ytnkkfjlnjhmahaa.frD a b) = q at *
  generalize (gcd3 (ptX a b) (ptY a b) (Go.Proofs.Ytnkkfjlnjhmahaa.frD a b) : Int) = g at *
  rw [hf] at e3
  have ex : ptX a b = a.C * b.B - b.C * a.B := by unfold ptX; rw [if_neg (by omega)]
  have ey : ptY a b = a.A * b.C - b.A * a.C := by unfold ptY; rw [if_neg (by omega)]
  rw [ex] at e1
  rw [ey] at e2
  unfold inH at h1 h2
  have q1 := Int.mul_le_mul_of_nonneg_left h1 c2
  have q2 := Int.mul_le_mul_of_nonneg_left h2 c1
  refine Int.le_of_mul_le_mul_right (a := g) ?_ hg
  have f1 : (m.A * s.X + m.B * s.Y) * q.D * g = cross m b * (a.A * s.X + a.B * s.Y) + cross a m * (b.A * s.X + b.B * s.Y) := by
    rw [Int.mul_assoc, e3]; unfold cross; grind
  have f2 : (m.A * q.X + m.B * q.Y) * s.D * g = cross m b * (a.C * s.D) + cross a m * (b.C * s.D) := by
    have : (m.A * q.X + m.B * q.Y) * s.D * g = (m.A * (q.X * g) + m.B * (q.Y * g)) * s.D := by grind
    rw [this, e1, e2]; unfold cross; grind
  omega
end Go.Proofs.Ytnkkfjlnjhmahaa
