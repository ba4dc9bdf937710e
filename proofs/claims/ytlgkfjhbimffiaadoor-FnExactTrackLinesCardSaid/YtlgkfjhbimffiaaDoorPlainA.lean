/- Plain models: inputs picked of a span, its whole inputs; an ask made of it asks for admitted inputs. -/
import Derived.Test.YtlgkfjhbimffiaaDoorPlainM
namespace Go.Proofs.YtlgkfjhbimffiaaDoor
set_option linter.unusedVariables false
def isDriven (u : Ratio) : Bool := ratioOk u && inR u.N (-1000 * u.D) (1000 * u.D)
def wholeInputs (w : Span) : Int :=
  if spanOk w = true ∧ isDriven w.Low = true ∧ isDriven w.High = true then (if ratioFloor w.High - ratioCeil w.Low + 1 < 0 then 0 else ratioFloor w.High - ratioCeil w.Low + 1) else 0
def inSpan (w : Span) (u : Ratio) : Bool := spanOk w && ratioOk u && decide (ratioCmp w.Low u ≤ 0) && decide (ratioCmp u w.High ≤ 0)
def pickInput (w : Span) (wish : Int) : Ratio :=
  if spanOk w = true then
    (if ratioCmp ⟨clampI (-1000) 1000 wish, 1⟩ w.Low < 0 then (if ratioCmp ⟨ratioCeil w.Low, 1⟩ w.High ≤ 0 then ⟨ratioCeil w.Low, 1⟩ else w.Low)
    else if ratioCmp ⟨clampI (-1000) 1000 wish, 1⟩ w.High > 0 then (if ratioCmp ⟨ratioFloor w.High, 1⟩ w.Low ≥ 0 then ⟨ratioFloor w.High, 1⟩ else w.High)
    else ⟨clampI (-1000) 1000 wish, 1⟩)
  else ⟨0, 0⟩
theorem clampI_bd (lo hi n : Int) (h : lo ≤ hi) : lo ≤ clampI lo hi n ∧ clampI lo hi n ≤ hi := by unfold clampI; split <;> split <;> omega
theorem ratioOk_one {n : Int} (h1 : -1000000000000000000 ≤ n) (h2 : n ≤ 1000000000000000000) : ratioOk ⟨n, 1⟩ = true := by
  simp only [ratioOk, inR, gcdI, isLeastI, Bool.and_eq_true, decide_eq_true_eq]
  refine ⟨⟨⟨by omega, by omega⟩, by omega, by omega⟩, ?_⟩
  rw [if_neg (by omega), Int.gcd_one]; rfl
theorem cmpI_le {x y : Int} : cmpI x y ≤ 0 ↔ x ≤ y := by unfold cmpI; split <;> (try split) <;> omega
theorem cmpI_neg_iff {x y : Int} : cmpI x y < 0 ↔ x < y := by unfold cmpI; split <;> (try split) <;> omega
theorem cmpI_pos_iff {x y : Int} : 0 < cmpI x y ↔ y < x := by unfold cmpI; split <;> (try split) <;> omega
/-- a whole number against a fraction -/
theorem cmp_whole {n : Int} {r : Ratio} (hr : ratioOk r = true) (h1 : -1000000000000000000 ≤ n) (h2 : n ≤ 1000000000000000000) : ratioCmp ⟨n, 1⟩ r = cmpI (n * r.D) r.N := by
  unfold ratioCmp; rw [if_pos ⟨ratioOk_one h1 h2, hr⟩, Int.mul_one]
theorem cmp_whole' {n : Int} {r : Ratio} (hr : ratioOk r = true) (h1 : -1000000000000000000 ≤ n) (h2 : n ≤ 1000000000000000000) : ratioCmp r ⟨n, 1⟩ = cmpI r.N (n * r.D) := by
  unfold ratioCmp; rw [if_pos ⟨hr, ratioOk_one h1 h2⟩, Int.mul_one]
theorem floor_le {r : Ratio} (hr : ratioOk r = true) {n : Int} : n ≤ ratioFloor r ↔ n * r.D ≤ r.N := by
  obtain ⟨b1, _⟩ := ratioOk_bd hr
  unfold ratioFloor; rw [if_pos hr]
  unfold floorI
  exact Int.le_ediv_iff_mul_le (by omega)
theorem ceil_le {r : Ratio} (hr : ratioOk r = true) {n : Int} : ratioCeil r ≤ n ↔ r.N ≤ n * r.D := by
  obtain ⟨b1, _⟩ := ratioOk_bd hr
  unfold ratioCeil; rw [if_pos hr]
  unfold floorI
  have := Int.le_ediv_iff_mul_le (a := -n) (b := -r.N) (c := r.D) (by omega)
  rw [Int.neg_mul] at this
  omega
/-- what is said of an ask that was made of a drawn span -/
theorem ask_drawn {w : Span} {wish : Int} (hw : spanOk w = true) (h1 : -300 ≤ w.Low.N ∧ w.Low.N ≤ 300) (h2 : 1 ≤ w.Low.D ∧ w.Low.D ≤ 12) (h3 : -300 ≤ w.High.N ∧ w.High.N ≤ 300) (h4 : 1 ≤ w.High.D ∧ w.High.D ≤ 12) (hn : -50 ≤ wish ∧ wish ≤ 49) :
    ((askOf w wish 3).2 = decide (0 < wholeInputs w)) ∧ ((askOf w wish 3).2 = true → inSpan w ⟨(askOf w wish 3).1.Low, 1⟩ = true ∧ inSpan w ⟨(askOf w wish 3).1.High, 1⟩ = true ∧
      (askOf w wish 3).1.High - (askOf w wish 3).1.Low + 1 = wholeInputs w ∧ askOk (askOf w wish 3).1 = true ∧ pickInput w wish = ⟨(askOf w wish 3).1.Wish, 1⟩) ∧
      -300 ≤ (askOf w wish 3).1.Low ∧ (askOf w wish 3).1.Low ≤ 300 ∧ -300 ≤ (askOf w wish 3).1.High ∧ (askOf w wish 3).1.High ≤ 300 ∧ -300 ≤ (askOf w wish 3).1.Wish ∧ (askOf w wish 3).1.Wish ≤ 300 ∧ 0 ≤ wholeInputs w ∧ wholeInputs w ≤ 601 := by
  have hw' := hw
  simp only [spanOk, Bool.and_eq_true, decide_eq_true_eq] at hw'
  obtain ⟨⟨okL, okH⟩, hc⟩ := hw'
  have hcmp : w.Low.N * w.High.D ≤ w.High.N * w.Low.D := by
    unfold ratioCmp at hc; rw [if_pos ⟨okL, okH⟩] at hc; exact cmpI_le.1 hc
  have dL : isDriven w.Low = true := by simp only [isDriven, inR, Bool.and_eq_true, decide_eq_true_eq]; exact ⟨okL, by omega, by omega⟩
  have dH : isDriven w.High = true := by simp only [isDriven, inR, Bool.and_eq_true, decide_eq_true_eq]; exact ⟨okH, by omega, by omega⟩
  have bL : -300 ≤ ratioCeil w.Low ∧ ratioCeil w.Low ≤ 300 := by
    constructor
    · have := (ceil_le okL (n := -301)); omega
    · exact (ceil_le okL).2 (by omega)
  have bH : -300 ≤ ratioFloor w.High ∧ ratioFloor w.High ≤ 300 := by
    constructor
    · exact (floor_le okH).2 (by omega)
    · have := (floor_le okH (n := 301)); omega
  have bC := clampI_bd (-1000) 1000 wish (by omega)
  have eC : clampI (-1000) 1000 wish = wish := by unfold clampI; split <;> split <;> omega
  have eW : wholeInputs w = if ratioFloor w.High - ratioCeil w.Low + 1 < 0 then 0 else ratioFloor w.High - ratioCeil w.Low + 1 := by unfold wholeInputs; rw [if_pos ⟨hw, dL, dH⟩]
  have eM := askMade_ok w wish 3
  by_cases hlh : ratioCeil w.Low ≤ ratioFloor w.High
  · have hM : askOk (askMade w wish 3) = true := by rw [eM]; simp [inR]; omega
    have bW := clampI_bd (ratioCeil w.Low) (ratioFloor w.High) wish hlh
    rw [askOf_good hw hM]
    have e1 : (askMade w wish 3).Low = ratioCeil w.Low := rfl
    have e2 : (askMade w wish 3).High = ratioFloor w.High := rfl
    have e3 : (askMade w wish 3).Wish = clampI (ratioCeil w.Low) (ratioFloor w.High) wish := rfl
    simp only [e1, e2, e3]
    rw [if_neg (by omega)] at eW
    have cl := (ceil_le okL (n := ratioCeil w.Low)).1 (Int.le_refl _)
    have fh := (floor_le okH (n := ratioFloor w.High)).1 (Int.le_refl _)
    have cl2 := (ceil_le okL (n := ratioFloor w.High)).1 hlh
    have fh2 := (floor_le okH (n := ratioCeil w.Low)).1 hlh
    refine ⟨by rw [eW]; simp; omega, fun _ => ⟨?_, ?_, by omega, hM, ?_⟩, by omega, by omega, by omega, by omega, by omega, by omega, by omega, by omega⟩
    · simp only [inSpan, Bool.and_eq_true, decide_eq_true_eq]
      refine ⟨⟨⟨hw, ratioOk_one (by omega) (by omega)⟩, ?_⟩, ?_⟩
      · rw [cmp_whole' okL (by omega) (by omega)]; exact cmpI_le.2 cl
      · rw [cmp_whole okH (by omega) (by omega)]; exact cmpI_le.2 fh2
    · simp only [inSpan, Bool.and_eq_true, decide_eq_true_eq]
      refine ⟨⟨⟨hw, ratioOk_one (by omega) (by omega)⟩, ?_⟩, ?_⟩
      · rw [cmp_whole' okL (by omega) (by omega)]; exact cmpI_le.2 cl2
      · rw [cmp_whole okH (by omega) (by omega)]; exact cmpI_le.2 fh
    · unfold pickInput
      rw [if_pos hw, eC, cmp_whole okL (by omega) (by omega), cmp_whole okH (by omega) (by omega), cmp_whole okH (by omega) (by omega), cmp_whole okL (by omega) (by omega)]
      have t1 := ceil_le okL (n := wish)
      have t2 := floor_le okH (n := wish)
      by_cases c1 : wish * w.Low.D < w.Low.N
      · rw [if_pos (cmpI_neg_iff.2 c1), if_pos (cmpI_le.2 fh2)]
        congr 1
        unfold clampI; split <;> split <;> omega
      · rw [if_neg (fun h => c1 (cmpI_neg_iff.1 h))]
        by_cases c2 : w.High.N < wish * w.High.D
        · rw [if_pos (cmpI_pos_iff.2 c2), if_pos (by rcases Int.lt_or_le (cmpI (ratioFloor w.High * w.Low.D) w.Low.N) 0 with h | h; exact absurd (cmpI_neg_iff.1 h) (by omega); exact h)]
          congr 1
          unfold clampI; split <;> split <;> omega
        · rw [if_neg (fun h => c2 (cmpI_pos_iff.1 h))]
          congr 1
          unfold clampI; split <;> split <;> omega
  · have hM : ¬ (spanOk w = true ∧ askOk (askMade w wish 3) = true) := by rw [eM]; simp; intro _ h; omega
    rw [askOf_bad hM]
    simp only
    have e0 : wholeInputs w = 0 := by rw [eW]; split <;> omega
    rw [e0]
    exact ⟨by simp, fun h => (by cases h), by omega, by omega, by omega, by omega, by omega, by omega, by omega, by omega⟩
end Go.Proofs.YtlgkfjhbimffiaaDoor
