/- The law FnExactKeepsAll returns true for all arguments: KeepsAll of the program and of the reference compute one function. No condition. -/
import Derived.Test.YtccfkglcjmkgcaaOpen
import Derived.Test.YtccfkglcjmkgcaaG
namespace Go.Proofs.Ytccfkglcjmkgcaa
open Go.ChangeShapes Go.WideShapes Go.ChangeAt Go.RowKit
set_option linter.unusedVariables false

set_option maxHeartbeats 1000000 in
theorem lawKeepsAll (A0 : Option Addr) (n0 c0 : Nat) (xs0 : List Rule) (A1 : Option Addr) (n1 c1 : Nat) (xs1 : List Int) (w : World) (hn0 : xs0.length = n0) (hr0 : Row w A0 (ints (flat Rule.ints xs0))) (hle0 : n0 ≤ maxLen) (hn1 : xs1.length = n1) (hr1 : Row w A1 (ints xs1)) (hle1 : n1 ≤ maxLen) :
    Calls Try.prog 14 #[.slice A0 n0 c0, .slice A1 n1 c1] w fun e w' => e = .returned (.bool true) ∧ Ext w w' := by
  have hy := Ext.refl w
  have Hle0 := Lib.hid hle0
  unfold maxLen at hle0
  have Hle1 := Lib.hid hle1
  unfold maxLen at hle1
  by_cases hbig1 : n1 ≤ 1048576
  rotate_left
  · go_enter Try.func14, Try.ntmps14
    go_wp2
    go_ret
    exact ⟨rfl, hy⟩
  have hbj1 : ¬ (1048576 : Int) < (n1 : Int) := by omega
  go_enter Try.func14, Try.ntmps14
  go_wp2_with fail
  refine (szRuleS_any _ _ _ _ _ (by omega) (by omega) Hle0.out).mono ?_
  rintro e w' ⟨rfl, rfl⟩
  by_cases hbig0 : n0 ≤ 1048576
  rotate_left
  · rw [szI_neg (by omega)]
    go_wp2
    go_ret
    exact ⟨rfl, hy⟩
  rw [szI_pos (by omega)]
  have hbj0 : ¬ 1048576 - (n0 : Int) < 0 := by omega
  go_wp2_with fail
  refine (toRuleS_any _ _ _ xs0 _ hn0 hr0 hbig0).mono ?_
  rintro e w1 ⟨g1, rfl, ho1, hx1⟩
  replace hy := hy.trans hx1
  replace hr0 := hr0.ext hx1
  replace hr1 := hr1.ext hx1
  go_wp2_with fail
  refine (toIntS_any _ _ _ xs1 _ hn1 hr1 hbig1).mono ?_
  rintro e w2 ⟨g2, rfl, ho2, hx2⟩
  replace hy := hy.trans hx2
  replace hr0 := hr0.ext hx2
  replace hr1 := hr1.ext hx2
  replace ho1 := own_ext ho1 hx2
  go_wp2_with fail
  refine (specKeepsAll_any _ _ _ _ _ _ xs0 xs1 _ hn0 hn1 (Row.of_own ho1) (Row.of_own ho2) (by unfold maxLen; omega) (Nat.le_refl _) (by unfold maxLen; omega)).mono ?_
  rintro e w3 ⟨rfl, hx3⟩
  replace hy := hy.trans hx3
  replace hr0 := hr0.ext hx3
  replace hr1 := hr1.ext hx3
  replace ho1 := own_ext ho1 hx3
  replace ho2 := own_ext ho2 hx3
  go_wp2_with fail
  refine (toRuleS_any _ _ _ xs0 _ hn0 hr0 hbig0).mono ?_
  rintro e w4 ⟨g4, rfl, ho4, hx4⟩
  replace hy := hy.trans hx4
  replace hr0 := hr0.ext hx4
  replace hr1 := hr1.ext hx4
  replace ho1 := own_ext ho1 hx4
  replace ho2 := own_ext ho2 hx4
  go_wp2_with fail
  refine (toIntS_any _ _ _ xs1 _ hn1 hr1 hbig1).mono ?_
  rintro e w5 ⟨g5, rfl, ho5, hx5⟩
  replace hy := hy.trans hx5
  replace hr0 := hr0.ext hx5
  replace hr1 := hr1.ext hx5
  replace ho1 := own_ext ho1 hx5
  replace ho2 := own_ext ho2 hx5
  replace ho4 := own_ext ho4 hx5
  go_wp2_with fail
  refine (implKeepsAll_any _ _ _ _ _ _ xs0 xs1 _ hn0 hn1 (Row.of_own ho4) (Row.of_own ho5) (by unfold maxLen; omega) (Nat.le_refl _) (by unfold maxLen; omega)).mono ?_
  rintro e w6 ⟨rfl, hx6⟩
  replace hy := hy.trans hx6
  replace hr0 := hr0.ext hx6
  replace hr1 := hr1.ext hx6
  replace ho1 := own_ext ho1 hx6
  replace ho2 := own_ext ho2 hx6
  replace ho4 := own_ext ho4 hx6
  replace ho5 := own_ext ho5 hx6
  go_wp2_with fail
  refine (toRuleS_any _ _ _ xs0 _ hn0 hr0 hbig0).mono ?_
  rintro e w7 ⟨g7, rfl, ho7, hx7⟩
  replace hy := hy.trans hx7
  replace hr0 := hr0.ext hx7
  replace hr1 := hr1.ext hx7
  replace ho1 := own_ext ho1 hx7
  replace ho2 := own_ext ho2 hx7
  replace ho4 := own_ext ho4 hx7
  replace ho5 := own_ext ho5 hx7
  go_wp2_with fail
  refine (eqRuleS_any _ _ _ _ _ _ xs0 xs0 _ hn0 hn0 (Row.of_own ho4) (Row.of_own ho7) (by unfold maxLen; omega) (by unfold maxLen; omega)).mono ?_
  rintro e w8 ⟨rfl, hx8⟩
  replace hy := hy.trans hx8
  replace hr0 := hr0.ext hx8
  replace hr1 := hr1.ext hx8
  replace ho1 := own_ext ho1 hx8
  replace ho2 := own_ext ho2 hx8
  replace ho4 := own_ext ho4 hx8
  replace ho5 := own_ext ho5 hx8
  replace ho7 := own_ext ho7 hx8
  simp only [decide_true]
  go_wp2_with fail
  refine (toIntS_any _ _ _ xs1 _ hn1 hr1 hbig1).mono ?_
  rintro e w9 ⟨g9, rfl, ho9, hx9⟩
  replace hy := hy.trans hx9
  replace hr0 := hr0.ext hx9
  replace hr1 := hr1.ext hx9
  replace ho1 := own_ext ho1 hx9
  replace ho2 := own_ext ho2 hx9
  replace ho4 := own_ext ho4 hx9
  replace ho5 := own_ext ho5 hx9
  replace ho7 := own_ext ho7 hx9
  go_wp2_with fail
  refine (eqIntS_any _ _ _ _ _ _ xs1 xs1 _ hn1 hn1 (Row.of_own ho5) (Row.of_own ho9) (by unfold maxLen; omega) (by unfold maxLen; omega)).mono ?_
  rintro e w10 ⟨rfl, hx10⟩
  replace hy := hy.trans hx10
  replace hr0 := hr0.ext hx10
  replace hr1 := hr1.ext hx10
  replace ho1 := own_ext ho1 hx10
  replace ho2 := own_ext ho2 hx10
  replace ho4 := own_ext ho4 hx10
  replace ho5 := own_ext ho5 hx10
  replace ho7 := own_ext ho7 hx10
  replace ho9 := own_ext ho9 hx10
  simp only [decide_true]
  go_wp2
  go_ret
  exact ⟨rfl, hy⟩

namespace lFnExactKeepsAll
set_option maxRecDepth 100000 in
theorem lifted (os : Os) (started : os.Started) (H : Type) (enc : TypeId × Value → H) :
    ReturnsInHanded {} Try.checked os 14 .any (Rows.fnExactKeepsAllSpec.pre6 enc Try.prog Try.f14 Rows.fnExactKeepsAllRow.domain false) (Rows.fnExactKeepsAllSpec.post enc Try.prog Try.f14 false true false false) := by
  refine returnsInHanded_of_change (C := Try.checked) own started (by kernel_rfl) Try.func14
    (ChangeSpec.witness6 (enc := enc) (C := Try.checked) false ⟨#[], #[.slice none 0 0, .slice none 0 0], []⟩ 8 (by kernel_rfl) (by kernel_rfl) (by kernel_rfl) (by kernel_rfl)) ?_
  intro W base args ds gs before hval0 hW _ _
  have hval : ∀ (j : Nat) t v, Try.f14.params[j]? = some t → args[j]? = some v → Value.okWide Try.prog W .any base t v := hval0
  have hW' := hW
  obtain ⟨p, q, hA0, hV, rfl, _, _⟩ := hW
  have hA : DataW.TrodAll enc Try.prog W 0 (fun _ => true) true Try.f14.params.toList args.toList ds p := hA0
  rw [Try.params14] at hA hval
  obtain ⟨v0, vs0, d0, ds0, p0, q0, hargs, rfl, rfl, h0, r0⟩ := trodAll_cons hA
  obtain ⟨v1, vs1, d1, ds1, p1, q1, rfl, rfl, rfl, h1, r1⟩ := trodAll_cons r0
  obtain ⟨rfl, rfl, rfl⟩ := trodAll_nil r1
  obtain rfl : args = #[v0, v1] := by cases args; simp_all
  obtain ⟨rfl, rfl⟩ := trodVars_none hV
  have hv0 := hval 0 42 v0 rfl rfl
  have hv1 := hval 1 22 v1 rfl rfl
  clear hA0 hval hval0
  obtain ⟨A0, n0, c0, zs0, rfl, hl0, hr0, hnc0, hm0, _⟩ := openArg_slice (n := 5) Try.underlying42 (by kernel_rfl) hv0 h0
  rw [(by kernel_rfl : Try.prog.cellsOf 55 = 5)] at hl0
  obtain ⟨xs0, hll0, rfl⟩ := unflat Rule.unints n0 zs0 hl0
  obtain ⟨A1, n1, c1, xs1, rfl, hl1, hr1, hnc1, hm1, _⟩ := openArg_slice (n := 2) Try.underlying22 (by kernel_rfl) hv1 h1
  rw [(by kernel_rfl : Try.prog.cellsOf 3 = 1), Nat.mul_one] at hl1
  refine (lawKeepsAll A0 n0 c0 xs0 A1 n1 c1 xs1 W hll0 hr0 (by omega) hl1 hr1 (by omega)).mono fun e W' ⟨he, hx⟩ => ?_
  subst he
  exact ⟨_, rfl, law_post (tb := 4) laidOut (by kernel_rfl) rfl Try.underlying4 rfl hW' rfl rfl rfl hx⟩
theorem over : Rows.fnExactKeepsAllRow.holds Try.pinned (OpenSpec.ofChange Rows.fnExactKeepsAllSpec) :=
  OpenClaim.holds_of_wide 14 Try.f14 rfl rfl rfl rfl rfl rfl rfl ⟨rfl, rfl, rfl, rfl, rfl⟩ rfl rfl rfl rfl rfl (by kernel_rfl) Try.func14 (by kernel_rfl)
    (of_decide_eq_true (by kernel_rfl)) (by unfold Func.isWrapper; first | (rw [if_pos (by decide +kernel)]; kernel_rfl) | (rw [if_neg (by decide +kernel)]; exact ⟨rfl, rfl⟩))
    (fun os started H enc _ => lifted os started H enc)
theorem proved : Rows.FnExactKeepsAllSaid := over
end lFnExactKeepsAll
end Go.Proofs.Ytccfkglcjmkgcaa
