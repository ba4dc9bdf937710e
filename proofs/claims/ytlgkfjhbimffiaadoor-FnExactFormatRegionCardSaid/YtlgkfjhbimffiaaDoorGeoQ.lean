/- Plain geometry: what isEdge tells. -/
import Derived.Test.YtlgkfjhbimffiaaDoorGeoP
namespace Go.Proofs.YtlgkfjhbimffiaaDoor
set_option linter.unusedVariables false
theorem frN_pt (h g : Half) : h.A * ptY h g - h.B * ptX h g = frN h g := by
  unfold ptY ptX frN sqH
  split <;> grind
/-- what isEdge tells -/
def edgeV (S : List Half) (k : Nat) : Bool := !allN (roomAt S k) S.length
def edgeE (S : List Half) (k : Nat) : Bool := if edgeV S k = true then false else edgeFb S (S.getD k ⟨0, 0, 0⟩)
theorem edge_good {S : List Half} {k : Nat} (h : allN (roomAt S k) S.length = true) : edgeV S k = false ∧ edgeE S k = edgeFb S (S.getD k ⟨0, 0, 0⟩) := by
  have e : edgeV S k = false := by unfold edgeV; rw [h]; rfl
  exact ⟨e, by unfold edgeE; rw [e]; rfl⟩
theorem edge_bad {S : List Half} {k i : Nat} (hi : i < S.length) (h : roomAt S k i = false) : edgeV S k = true ∧ edgeE S k = false := by
  have e : edgeV S k = true := by unfold edgeV; rw [allN_not hi h]; rfl
  exact ⟨e, by unfold edgeE; rw [e]; rfl⟩
theorem getD_at {S : List Half} {k : Nat} (hk : k < S.length) : S.getD k ⟨0, 0, 0⟩ = S[k] := by simp [List.getD_eq_getElem?_getD, hk]
theorem roomAt_iff {S : List Half} {k i : Nat} (hk : k < S.length) (hi : i < S.length) : roomAt S k i = (decide (i = k) || decide (cross S[k] S[i] ≠ 0) || decide (0 < room S[i] S[k])) := by
  unfold roomAt; rw [getD_at hk, getD_at hi]
theorem Best.is_lo {S : List Half} {k : Half} {F : Mark} (hS : Good S) (hk : k ∈ S) (hF : Best true k S F) : F.is = true := by
  obtain ⟨lo, hlo, clo⟩ := hS.fr.lo (hS.nz k hk)
  rcases hF with ⟨_, h2⟩ | ⟨f1, _⟩
  · exact absurd (show onSide true k lo from clo) (h2 lo hlo)
  · exact f1
theorem Best.is_hi {S : List Half} {k : Half} {T : Mark} (hS : Good S) (hk : k ∈ S) (hT : Best false k S T) : T.is = true := by
  obtain ⟨hi, hhi, chi⟩ := hS.fr.hi (hS.nz k hk)
  rcases hT with ⟨_, h2⟩ | ⟨t1, _⟩
  · exact absurd (show onSide false k hi from by unfold onSide; simpa using chi) (h2 hi hhi)
  · exact t1
end Go.Proofs.YtlgkfjhbimffiaaDoor
