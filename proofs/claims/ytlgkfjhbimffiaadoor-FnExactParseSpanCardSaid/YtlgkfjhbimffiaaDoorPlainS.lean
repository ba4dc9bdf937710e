/- Plain models of spans and of asks made of them. -/
import Derived.Test.YtlgkfjhbimffiaaDoorPlainQ
namespace Go.Proofs.YtlgkfjhbimffiaaDoor
set_option linter.unusedVariables false
def clampI (lo hi n : Int) : Int := if lo < (if n < hi then n else hi) then (if n < hi then n else hi) else lo
def askMade (w : Span) (wish rank : Int) : Ask := ⟨ratioCeil w.Low, ratioFloor w.High, clampI (ratioCeil w.Low) (ratioFloor w.High) wish, rank⟩
def askOf (w : Span) (wish rank : Int) : Ask × Bool := if spanOk w = true ∧ askOk (askMade w wish rank) = true then (askMade w wish rank, true) else (⟨0, 0, 0, 0⟩, false)
theorem askOf_good {w : Span} {wish rank : Int} (h : spanOk w = true) (h2 : askOk (askMade w wish rank) = true) : askOf w wish rank = (askMade w wish rank, true) := if_pos ⟨h, h2⟩
theorem askOf_bad {w : Span} {wish rank : Int} (h : ¬ (spanOk w = true ∧ askOk (askMade w wish rank) = true)) : askOf w wish rank = (⟨0, 0, 0, 0⟩, false) := if_neg h
theorem askOk_mk (lo hi c n rank : Int) (h : c = max lo (min hi n)) : askOk ⟨lo, hi, c, rank⟩ = (decide (lo ≤ hi) && inR lo (-1000) 1000 && inR hi (-1000) 1000 && inR rank 0 100) := by
  rw [Bool.eq_iff_iff]
  simp [askOk, inR]
  omega
theorem askMade_ok (w : Span) (wish rank : Int) : askOk (askMade w wish rank) = (decide (ratioCeil w.Low ≤ ratioFloor w.High) && inR (ratioCeil w.Low) (-1000) 1000 && inR (ratioFloor w.High) (-1000) 1000 && inR rank 0 100) :=
  askOk_mk _ _ _ wish _ (by unfold clampI; split <;> split <;> omega)
theorem ratioCeil_bd (r : Ratio) : -1000000000000000000 ≤ ratioCeil r ∧ ratioCeil r ≤ 1000000000000000000 := by
  unfold ratioCeil
  split
  · rename_i h
    obtain ⟨h1, h2, h3, h4⟩ := ratioOk_bd h
    have := floorI_range (a := -r.N) (b := r.D) (M := 1000000000000000000) (by omega) (by omega) (by omega) (by omega)
    omega
  · omega
theorem ratioFloor_bd (r : Ratio) : -1000000000000000000 ≤ ratioFloor r ∧ ratioFloor r ≤ 1000000000000000000 := by
  unfold ratioFloor
  split
  · rename_i h
    obtain ⟨h1, h2, h3, h4⟩ := ratioOk_bd h
    exact floorI_range (by omega) (by omega) (by omega) (by omega)
  · omega
end Go.Proofs.YtlgkfjhbimffiaaDoor
