/- Plain geometry: the reference's way to tell directions and the tighter half plane. -/
import Derived.Test.YtlgkfjhbimffiaaDoorGeoQ
namespace Go.Proofs.YtlgkfjhbimffiaaDoor
set_option linter.unusedVariables false
def dotH (g h : Half) : Int := g.A * h.A + g.B * h.B
theorem dot_same {g h : Half} (hg : nz g) (hh : nz h) (h0 : cross g h = 0) : 0 < dotH g h ↔ isUpper g = isUpper h := by
  have pg := sizeH_pos hg
  have ph := sizeH_pos hh
  have sq := sq_pos hh
  by_cases hs : sameDir g h = true
  · obtain ⟨e1, e2⟩ := same_scale hg hh hs
    have e : sizeH h * dotH g h = sizeH g * sqH h := by
      unfold dotH sqH
      rw [Int.mul_add, ← Int.mul_assoc, ← Int.mul_assoc, e1, e2, Int.mul_assoc, Int.mul_assoc, ← Int.mul_add]
    have hp : 0 < sizeH h * dotH g h := by rw [e]; exact Int.mul_pos pg sq
    exact ⟨fun _ => ((sameDir_iff g h).1 hs).2, fun _ => pos_of_mul' ph hp⟩
  · have hs' : sameDir g h = false := by simpa using hs
    obtain ⟨e1, e2⟩ := opp_scale hg hh h0 hs'
    have e : sizeH h * dotH g h = -(sizeH g * sqH h) := by
      unfold dotH sqH
      rw [Int.mul_add, ← Int.mul_assoc, ← Int.mul_assoc, e1, e2, Int.neg_mul, Int.neg_mul, Int.mul_assoc, Int.mul_assoc, Int.mul_add]
      omega
    have hp : sizeH h * dotH g h < 0 := by rw [e]; have := Int.mul_pos pg sq; omega
    constructor
    · intro h1
      have := Int.mul_pos ph h1
      omega
    · intro h1
      exact absurd ((sameDir_iff g h).2 ⟨h0, h1⟩) hs
theorem sameDir_dot {g h : Half} (hg : nz g) (hh : nz h) : sameDir g h = (decide (g.A * h.B = h.A * g.B) && decide (0 < dotH g h)) := by
  rw [Bool.eq_iff_iff, sameDir_iff, Bool.and_eq_true, decide_eq_true_eq, decide_eq_true_eq]
  have e : cross g h = 0 ↔ g.A * h.B = h.A * g.B := by
    unfold cross
    rw [Int.mul_comm h.A g.B]
    omega
  constructor
  · rintro ⟨h1, h2⟩
    exact ⟨e.1 h1, (dot_same hg hh h1).2 h2⟩
  · rintro ⟨h1, h2⟩
    exact ⟨e.2 h1, (dot_same hg hh (e.2 h1)).1 h2⟩
def absA (x : Int) : Int := if x < -x then -x else x
def oneH (h : Half) : Int := absA h.A + absA h.B
theorem absA_mul {s x : Int} (hs : 0 < s) : s * absA x = absA (s * x) := by
  unfold absA
  rcases Int.lt_or_le x 0 with h | h
  · have := Int.mul_neg_of_pos_of_neg hs h
    rw [if_pos (by omega), if_pos (by omega)]
    rw [Int.mul_neg]
  · have := Int.mul_nonneg (Int.le_of_lt hs) h
    rw [if_neg (by omega), if_neg (by omega)]
theorem oneH_pos {h : Half} (hz : nz h) : 0 < oneH h := by
  unfold oneH absA nz at *
  split <;> split <;> omega
theorem tighter_one {g h : Half} (hg : nz g) (hh : nz h) (hs : sameDir g h = true) : tighter g h = if h.C * oneH g < g.C * oneH h then h else g := by
  obtain ⟨e1, e2⟩ := same_scale hg hh hs
  have pg := sizeH_pos hg
  have ph := sizeH_pos hh
  have qh := oneH_pos hh
  have e : sizeH h * oneH g = sizeH g * oneH h := by
    unfold oneH
    rw [Int.mul_add, Int.mul_add, absA_mul ph, absA_mul ph, absA_mul pg, absA_mul pg, e1, e2]
  have key : h.C * oneH g < g.C * oneH h ↔ h.C * sizeH g < g.C * sizeH h := by
    have x1 : sizeH h * (h.C * oneH g) = oneH h * (h.C * sizeH g) := by
      rw [← Int.mul_assoc, Int.mul_comm (sizeH h) h.C, Int.mul_assoc, e]; grind
    have x2 : sizeH h * (g.C * oneH h) = oneH h * (g.C * sizeH h) := by grind
    constructor
    · intro h1
      have := Int.mul_lt_mul_of_pos_left h1 ph
      rw [x1, x2] at this
      exact Int.lt_of_mul_lt_mul_left this (Int.le_of_lt qh)
    · intro h1
      have := Int.mul_lt_mul_of_pos_left h1 qh
      rw [← x1, ← x2] at this
      exact Int.lt_of_mul_lt_mul_left this (Int.le_of_lt ph)
  unfold tighter
  by_cases c : h.C * sizeH g < g.C * sizeH h
  · rw [if_pos c, if_pos (key.2 c)]
  · rw [if_neg c, if_neg (fun x => c (key.1 x))]
def upI (h : Half) : Int := if isUpper h = true then 0 else 1
end Go.Proofs.YtlgkfjhbimffiaaDoor
