/- The law FnExactPriceAt returns true for all arguments: PriceAt of the program and of the reference compute one function. No condition. -/
import Derived.Test.YtccfkglcjmkgcaaOpen
import Derived.Test.YtccfkglcjmkgcaaP
import Derived.Deep.RegionHeld3
namespace Go.Proofs.Ytccfkglcjmkgcaa
open Go.ChangeShapes Go.WideShapes Go.ChangeAt Go.RowKit

set_option maxHeartbeats 400000 in
theorem lawPriceAt (A0 : Option Addr) (n0 c0 : Nat) (xs0 : List Int) (z1 : Int) (w : World) (hn0 : xs0.length = n0) (hr0 : Row w A0 (ints xs0)) (hle0 : n0 ≤ maxLen) :
    Calls Try.prog 3 #[.agg #[.slice A0 n0 c0], .int .i64 z1] w fun e w' => e = .returned (.bool true) ∧ Ext w w' := by
  have hy : Ext w (w.alloc (.cells #[.slice A0 n0 c0] 24)) := by repeat (first | exact Ext.refl _ | refine Ext.alloc ?_ _)
  have hB := Ext.refl (w.alloc (.cells #[.slice A0 n0 c0] 24))
  replace hr0 := hr0.ext hy
  have Hle0 := Lib.hid hle0
  unfold maxLen at hle0
  go_enter Try.func3, Try.ntmps3
  go_wp2_with fail
  refine (szTariff_any _ _ _ _ _ (by omega) (by omega) Hle0.out).mono ?_
  rintro e w1 ⟨rfl, hx1⟩
  replace hy := hy.trans hx1
  replace hr0 := hr0.ext hx1
  replace hB := hB.trans hx1
  have hc0_1 := fun o => hB.use.1 (w.heap.size) o (by simp <;> omega)
  by_cases hbig0 : n0 ≤ 1048576
  rotate_left
  · rw [szI_neg (by omega)]
    go_wp2
    go_ret
    exact ⟨rfl, hy⟩
  rw [szI_pos (by omega)]
  have hbj0 : ¬ 1048576 - (n0 : Int) < 0 := by omega
  go_wp2_with fail
  refine (toTariff_any _ _ _ xs0 _ hn0 hr0 hbig0).mono ?_
  rintro e w2 ⟨g2, rfl, ho2, hx2⟩
  replace hy := hy.trans hx2
  replace hr0 := hr0.ext hx2
  replace hB := hB.trans hx2
  have hc0_2 := fun o => hB.use.1 (w.heap.size) o (by simp <;> omega)
  go_wp2_with fail
  refine (specPriceAt_any _ _ _ xs0 _ _ hn0 (Row.of_own ho2) (by unfold maxLen; omega)).mono ?_
  rintro e w3 ⟨rfl, hx3⟩
  replace hy := hy.trans hx3
  replace hr0 := hr0.ext hx3
  replace ho2 := own_ext ho2 hx3
  replace hB := hB.trans hx3
  have hc0_3 := fun o => hB.use.1 (w.heap.size) o (by simp <;> omega)
  go_wp2_with fail
  refine (toTariff_any _ _ _ xs0 _ hn0 hr0 hbig0).mono ?_
  rintro e w4 ⟨g4, rfl, ho4, hx4⟩
  replace hy := hy.trans hx4
  replace hr0 := hr0.ext hx4
  replace ho2 := own_ext ho2 hx4
  replace hB := hB.trans hx4
  have hc0_4 := fun o => hB.use.1 (w.heap.size) o (by simp <;> omega)
  have ha4 := (Ext.refl w4).alloc (.cells #[.slice (some ⟨g4, 0, none⟩) n0 n0] 27)
  replace hy := hy.trans ha4
  replace hr0 := hr0.ext ha4
  replace ho2 := own_ext ho2 ha4
  replace ho4 := own_ext ho4 ha4
  replace hB := hB.trans ha4
  have hc0_5 := fun o => hB.use.1 (w.heap.size) o (by simp <;> omega)
  have hL4 := Ext.refl (w4.alloc (.cells #[.slice (some ⟨g4, 0, none⟩) n0 n0] 27))
  go_wp2_with fail
  refine (implPriceAt_any _ _ _ xs0 _ _ hn0 (Row.of_own ho4) (by unfold maxLen; omega)).mono ?_
  rintro e w5 ⟨rfl, hx5⟩
  replace hy := hy.trans hx5
  replace hr0 := hr0.ext hx5
  replace ho2 := own_ext ho2 hx5
  replace ho4 := own_ext ho4 hx5
  replace hB := hB.trans hx5
  replace hL4 := hL4.trans hx5
  have hc0_6 := fun o => hB.use.1 (w.heap.size) o (by simp <;> omega)
  have hd4_6 := fun o => hL4.use.1 w4.heap.size o (by simp <;> omega)
  go_wp2_with fail
  go_region_held3 (fun w' => w'.cell? ⟨w4.heap.size, 0, none⟩ = some (.slice (some ⟨g4, 0, none⟩) n0 n0) ∧ w'.cell? ⟨w.heap.size, 0, none⟩ = some (.slice A0 n0 c0))
    (go_keep)
    (first
      | (go_at_call 17; refine (toTariff_any _ _ _ xs0 _ hn0 (by exact hr0) hbig0).mono ?_; rintro e w6 ⟨g6, rfl, ho6, hx6⟩; have hx6 : Ext w5 w6 := (by first | exact hx6 | exact (Ext.refl w5).drew.trans hx6); have hy := hy.trans hx6; have hr0 := hr0.ext hx6; have ho2 := own_ext ho2 hx6; have ho4 := own_ext ho4 hx6; have hB := hB.trans hx6; have hL4 := hL4.trans hx6; have hc0_7 := fun o => hB.use.1 (w.heap.size) o (by simp <;> omega); have hd4_7 := fun o => hL4.use.1 w4.heap.size o (by simp <;> omega))
      | (go_at_call 19; refine (eqTariff_any _ _ _ _ _ _ xs0 xs0 _ hn0 hn0 (by exact Row.of_own ho4) (by exact Row.of_own ho6) (by unfold maxLen; omega) (by unfold maxLen; omega)).mono ?_; rintro e w7 ⟨rfl, hx7⟩; have hx7 : Ext w6 w7 := (by first | exact hx7 | exact (Ext.refl w6).drew.trans hx7); have hy := hy.trans hx7; have hr0 := hr0.ext hx7; have ho2 := own_ext ho2 hx7; have ho4 := own_ext ho4 hx7; have ho6 := own_ext ho6 hx7; have hB := hB.trans hx7; have hL4 := hL4.trans hx7; have hc0_8 := fun o => hB.use.1 (w.heap.size) o (by simp <;> omega); have hd4_8 := fun o => hL4.use.1 w4.heap.size o (by simp <;> omega); simp only [decide_true]))
  all_goals go_wp2
  all_goals go_ret
  all_goals exact ⟨rfl, hy⟩

namespace lFnExactPriceAt
set_option maxRecDepth 100000 in
theorem lifted (os : Os) (started : os.Started) (H : Type) (enc : TypeId × Value → H) :
    ReturnsInHanded {} Try.checked os 3 .any (Rows.fnExactPriceAtSpec.pre6 enc Try.prog Try.f3 Rows.fnExactPriceAtRow.domain false) (Rows.fnExactPriceAtSpec.post enc Try.prog Try.f3 false true false false) := by
  refine returnsInHanded_of_change (C := Try.checked) own started (by kernel_rfl) Try.func3
    (ChangeSpec.witness6 (enc := enc) (C := Try.checked) false ⟨#[], #[.agg #[.slice none 0 0], .int .i64 0], []⟩ 8 (by kernel_rfl) (by kernel_rfl) (by kernel_rfl) (by kernel_rfl)) ?_
  intro W base args ds gs before hval0 hW _ _
  have hval : ∀ (j : Nat) t v, Try.f3.params[j]? = some t → args[j]? = some v → Value.okWide Try.prog W .any base t v := hval0
  have hW' := hW
  obtain ⟨p, q, hA0, hV, rfl, _, _⟩ := hW
  have hA : DataW.TrodAll enc Try.prog W 0 (fun _ => true) true Try.f3.params.toList args.toList ds p := hA0
  rw [Try.params3] at hA hval
  obtain ⟨v0, vs0, d0, ds0, p0, q0, hargs, rfl, rfl, h0, r0⟩ := trodAll_cons hA
  obtain ⟨v1, vs1, d1, ds1, p1, q1, rfl, rfl, rfl, h1, r1⟩ := trodAll_cons r0
  obtain ⟨rfl, rfl, rfl⟩ := trodAll_nil r1
  obtain rfl : args = #[v0, v1] := by cases args; simp_all
  obtain ⟨rfl, rfl⟩ := trodVars_none hV
  have hv0 := hval 0 24 v0 rfl rfl
  have hv1 := hval 1 3 v1 rfl rfl
  clear hA0 hval hval0
  obtain ⟨cs0, rfl, _⟩ := okWide_struct Try.underlying24 hv0
  obtain ⟨fuel0, hf0⟩ := h0
  obtain ⟨A0, n0, c0, xs0, hcs0, hl0, hr0, hnc0, hm0, _⟩ := open_struct1_slice (n := 2) Try.underlying24 rfl (by kernel_rfl) rfl (by kernel_rfl) Try.underlying22 (by kernel_rfl) hf0
  obtain rfl : cs0 = #[.slice A0 n0 c0] := by cases cs0; simpa [Value.cells] using hcs0
  rw [(by kernel_rfl : Try.prog.cellsOf 3 = 1), Nat.mul_one] at hl0
  obtain ⟨z1, rfl, hz1⟩ := openArg_int Try.underlying3 hv1 h1
  refine (lawPriceAt A0 n0 c0 xs0 z1 W hl0 hr0 (by omega)).mono fun e W' ⟨he, hx⟩ => ?_
  subst he
  exact ⟨_, rfl, law_post (tb := 4) laidOut (by kernel_rfl) rfl Try.underlying4 rfl hW' rfl rfl rfl hx⟩
theorem over : Rows.fnExactPriceAtRow.holds Try.pinned (OpenSpec.ofChange Rows.fnExactPriceAtSpec) :=
  OpenClaim.holds_of_wide 3 Try.f3 rfl rfl rfl rfl rfl rfl rfl ⟨rfl, rfl, rfl, rfl, rfl⟩ rfl rfl rfl rfl rfl (by kernel_rfl) Try.func3 (by kernel_rfl)
    (of_decide_eq_true (by kernel_rfl)) (by unfold Func.isWrapper; first | (rw [if_pos (by decide +kernel)]; kernel_rfl) | (rw [if_neg (by decide +kernel)]; exact ⟨rfl, rfl⟩))
    (fun os started H enc _ => lifted os started H enc)
theorem proved : Rows.FnExactPriceAtSaid := over
end lFnExactPriceAt
end Go.Proofs.Ytccfkglcjmkgcaa
