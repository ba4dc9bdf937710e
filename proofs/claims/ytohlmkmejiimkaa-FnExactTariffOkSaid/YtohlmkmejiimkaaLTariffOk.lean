/- The law FnExactTariffOk returns true for every tariff: TariffOk of the program and of the reference compute one function. No condition. -/
import Derived.Test.YtohlmkmejiimkaaOpen
import Derived.Test.YtohlmkmejiimkaaT
import Derived.Deep.RegionHeld3
namespace Go.Proofs.Ytohlmkmejiimkaa
open Go.ChangeShapes Go.WideShapes Go.ChangeAt Go.RowKit

set_option maxHeartbeats 400000 in
theorem lawTariffOk (A : Option Addr) (n c : Nat) (xs : List Int) (w : World) (hn : xs.length = n) (hr : Row w A (ints xs)) (hle : n ≤ maxLen) :
    Calls Try.prog 7 #[.agg #[.slice A n c]] w fun e w' => e = .returned (.bool true) ∧ Ext w w' := by
  have hy0 : Ext w (w.alloc (.cells #[.slice A n c] 37)) := (Ext.refl w).alloc _
  have hB := Ext.refl (w.alloc (.cells #[.slice A n c] 37))
  go_enter Try.func7, Try.ntmps7
  go_wp2_with fail
  refine (szTariff_any _ _ _ _ _ (by omega) (by omega) hle).mono ?_
  rintro e w0 ⟨rfl, hx0⟩
  have hB := hB.trans hx0
  have hc0 := fun o => hB.use.1 w.heap.size o (by simp <;> omega)
  unfold maxLen at hle
  by_cases hbig : n ≤ 1048576
  · rw [szI_pos (by omega)]
    have hbig' : ¬ 1048576 - (n : Int) < 0 := by omega
    go_wp2_with fail
    refine (toTariff_any _ _ _ xs _ hn (hr.ext (hy0.trans hB)) hbig).mono ?_
    rintro e w1 ⟨g1, rfl, ho1, hx1⟩
    have hB := hB.trans hx1
    have hc1 := fun o => hB.use.1 w.heap.size o (by simp <;> omega)
    go_wp2_with fail
    refine (specTariffOk_any _ _ _ xs _ hn (Row.of_own ho1) (by unfold maxLen; omega)).mono ?_
    rintro e w2 ⟨rfl, hx2⟩
    have hB := hB.trans hx2
    have hc2 := fun o => hB.use.1 w.heap.size o (by simp <;> omega)
    go_wp2_with fail
    refine (toTariff_any _ _ _ xs _ hn (hr.ext (hy0.trans hB)) hbig).mono ?_
    rintro e w3 ⟨g2, rfl, ho2, hx3⟩
    have hB := hB.trans hx3
    have hc3 := fun o => hB.use.1 w.heap.size o (by simp <;> omega)
    go_wp2_with fail
    have ha3 := (Ext.refl w3).alloc (.cells #[.slice (some ⟨g2, 0, none⟩) n n] 40)
    refine (implTariffOk_any _ _ _ xs _ hn ((Row.of_own ho2).ext ha3) (by unfold maxLen; omega)).mono ?_
    rintro e w4 ⟨rfl, hx4⟩
    have hB := (hB.trans ha3).trans hx4
    have hc4 := fun o => hB.use.1 w.heap.size o (by simp <;> omega)
    have hd4 := fun o => hx4.use.1 w3.heap.size o (by simp <;> omega)
    have hr4 : Row w4 A (ints xs) := hr.ext (hy0.trans hB)
    have ho4 := own_ext (own_ext ho2 ha3) hx4
    go_wp2_with fail
    go_region_held3 (fun w' => w'.cell? ⟨w3.heap.size, 0, none⟩ = some (.slice (some ⟨g2, 0, none⟩) n n) ∧ w'.cell? ⟨w.heap.size, 0, none⟩ = some (.slice A n c))
      (go_keep)
      (first
        | (go_at_call 22; refine (toTariff_any _ _ _ xs _ hn (by exact hr4) hbig).mono ?_; rintro e w5 ⟨g3, rfl, ho5, hx5⟩; have hx5 : Ext w4 w5 := (by first | exact hx5 | exact (Ext.refl w4).drew.trans hx5); have hB := hB.trans hx5; have hc5 := fun o => hB.use.1 w.heap.size o (by simp <;> omega); have hd5 := fun o => (hx4.trans hx5).use.1 w3.heap.size o (by simp <;> omega))
        | (go_at_call 24; refine (eqTariff_any _ _ _ _ _ _ xs xs _ hn hn (by exact Row.of_own (own_ext ho4 hx5)) (by exact Row.of_own ho5) (by unfold maxLen; omega) (by unfold maxLen; omega)).mono ?_; rintro e w6 ⟨rfl, hx6⟩; have hx6 : Ext w5 w6 := (by first | exact hx6 | exact (Ext.refl w5).drew.trans hx6); have hB := hB.trans hx6; have hc6 := fun o => hB.use.1 w.heap.size o (by simp <;> omega); have hd6 := fun o => ((hx4.trans hx5).trans hx6).use.1 w3.heap.size o (by simp <;> omega); simp only [decide_true]))
    all_goals go_wp2
    all_goals go_ret
    all_goals exact ⟨rfl, hy0.trans hB⟩
  · rw [szI_neg (by omega)]
    go_wp2
    go_ret
    exact ⟨rfl, hy0.trans hB⟩

namespace lFnExactTariffOk
set_option maxRecDepth 100000 in
theorem lifted (os : Os) (started : os.Started) (H : Type) (enc : TypeId × Value → H) :
    ReturnsInHanded {} Try.checked os 7 .any (Rows.fnExactTariffOkSpec.pre6 enc Try.prog Try.f7 Rows.fnExactTariffOkRow.domain false) (Rows.fnExactTariffOkSpec.post enc Try.prog Try.f7 false true false false) := by
  refine returnsInHanded_of_change (C := Try.checked) own started (by kernel_rfl) Try.func7
    (ChangeSpec.witness6 (enc := enc) (C := Try.checked) false ⟨#[], #[.agg #[.slice none 0 0]], []⟩ 8 (by kernel_rfl) (by kernel_rfl) (by kernel_rfl) (by kernel_rfl)) ?_
  intro W base args ds gs before hval0 hW _ _
  have hval : ∀ (j : Nat) t v, Try.f7.params[j]? = some t → args[j]? = some v → Value.okWide Try.prog W .any base t v := hval0
  have hW' := hW
  obtain ⟨p, q, hA0, hV, rfl, _, _⟩ := hW
  have hA : DataW.TrodAll enc Try.prog W 0 (fun _ => true) true Try.f7.params.toList args.toList ds p := hA0
  rw [Try.params7] at hA hval
  obtain ⟨v0, vs0, d0, ds0, p0, q0, hargs, rfl, rfl, h0, r0⟩ := trodAll_cons hA
  obtain ⟨rfl, rfl, rfl⟩ := trodAll_nil r0
  obtain rfl : args = #[v0] := by cases args; simp_all
  obtain ⟨rfl, rfl⟩ := trodVars_none hV
  have hv0 := hval 0 37 v0 rfl rfl
  clear hA0 hval hval0
  obtain ⟨cs, rfl, _⟩ := okWide_struct Try.underlying37 hv0
  obtain ⟨fuel, hf⟩ := h0
  obtain ⟨A, n, c, xs, hcs, hl, hr, hnc, hm, _⟩ := open_struct1_slice (n := 2) Try.underlying37 rfl (by kernel_rfl) rfl (by kernel_rfl) Try.underlying32 (by kernel_rfl) hf
  obtain rfl : cs = #[.slice A n c] := by cases cs; simpa [Value.cells] using hcs
  refine (lawTariffOk A n c xs W (hl.trans (by rw [(by kernel_rfl : Try.prog.cellsOf 3 = 1)]; omega)) hr (by omega)).mono fun e W' ⟨he, hx⟩ => ?_
  subst he
  exact ⟨_, rfl, law_post (tb := 4) laidOut (by kernel_rfl) rfl Try.underlying4 rfl hW' rfl rfl rfl hx⟩
theorem over : Rows.fnExactTariffOkRow.holds Try.pinned (OpenSpec.ofChange Rows.fnExactTariffOkSpec) :=
  OpenClaim.holds_of_wide 7 Try.f7 rfl rfl rfl rfl rfl rfl rfl ⟨rfl, rfl, rfl, rfl, rfl⟩ rfl rfl rfl rfl rfl (by kernel_rfl) Try.func7 (by kernel_rfl)
    (of_decide_eq_true (by kernel_rfl)) (by unfold Func.isWrapper; first | (rw [if_pos (by decide +kernel)]; kernel_rfl) | (rw [if_neg (by decide +kernel)]; exact ⟨rfl, rfl⟩))
    (fun os started H enc _ => lifted os started H enc)
theorem proved : Rows.FnExactTariffOkSaid := over
end lFnExactTariffOk
end Go.Proofs.Ytohlmkmejiimkaa
