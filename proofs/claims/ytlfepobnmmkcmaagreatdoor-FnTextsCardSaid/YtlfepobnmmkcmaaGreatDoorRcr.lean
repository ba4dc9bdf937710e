/- What is written of a valid room is read again. -/
import Derived.Test.YtlfepobnmmkcmaaGreatDoorUz
import Derived.Test.YtlfepobnmmkcmaaGreatDoorPm
import Derived.Test.YtlfepobnmmkcmaaGreatDoorRz
namespace Go.Proofs.YtlfepobnmmkcmaaGreatDoor
set_option linter.unusedVariables false
set_option maxRecDepth 100000

theorem regionT_chars {hs : List Half} (hk : regOk hs = true) : ∀ c ∈ regionT hs, c ≠ 124 := by
  intro c hc e
  subst e
  by_cases hne : hs = []
  · rw [regionT_void hne] at hc
    revert hc; decide
  · rw [regionT_ok hne hk] at hc
    rcases join_mem hc with ⟨x, hx, h⟩ | h
    · obtain ⟨n, _, rfl⟩ := List.mem_map.1 hx
      exact halfT_not (by decide) (by decide) h
    · revert h; decide
theorem room_again {r : Room} (hk : roomOk r = true) : roomR (roomT r) = (r, true) := by
  have hv := room_valid hk
  obtain ⟨hFI, _⟩ := hv.fi
  have e : roomT r = joinT (numsR r) ++ [124] ++ regionT r.Noise ++ [124] ++ regionT r.Limits := if_pos hk
  have c1 : (124 : UInt8) ∉ joinT (numsR r) := fun h => by
    rcases joinT_chars _ h with h | h
    · revert h; decide
    · revert h; decide
  have c2 : (124 : UInt8) ∉ regionT r.Noise := fun h => regionT_chars hv.noise _ h rfl
  have c3 : (124 : UInt8) ∉ regionT r.Limits := fun h => regionT_chars hv.limits _ h rfl
  have hs : splitC 124 (roomT r) = [joinT (numsR r), regionT r.Noise, regionT r.Limits] := by
    rw [e, show joinT (numsR r) ++ [124] ++ regionT r.Noise ++ [124] ++ regionT r.Limits = joinT (numsR r) ++ 124 :: (regionT r.Noise ++ 124 :: regionT r.Limits) by simp, splitC_cons c1, splitC_cons c2, splitC_last c3]
  obtain ⟨a, b, c, d, hM⟩ := roomOk_map hk
  have hn : numsR r = [a, b, c, d, r.Div, r.Bx, r.By, r.Low, r.High] := by unfold numsR; rw [hM]; rfl
  have hN : numsL (joinT (numsR r)) = [a, b, c, d, r.Div, r.Bx, r.By, r.Low, r.High] := by
    rw [nums_join (by rw [hn]; simp) (numsR_I hFI), hn]
  have hP : roomP (joinT (numsR r)) (regionT r.Noise) (regionT r.Limits) = r := by
    unfold roomP
    rw [hN, region_again hv.noise, region_again hv.limits]
    cases r
    simp only at hM
    subst hM
    rfl
  have hG : roomG (roomT r) (joinT (numsR r)) (regionT r.Noise) (regionT r.Limits) := by
    refine ⟨by rw [hN]; rfl, by rw [region_again hv.noise], by rw [region_again hv.limits], ?_⟩
    rw [hP]
  rw [roomR_yes hs hG, hP]
end Go.Proofs.YtlfepobnmmkcmaaGreatDoor
