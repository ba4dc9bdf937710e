/- The law FnExactUnusedOf returns true for all arguments: UnusedOf of the program and of the reference compute one function. No condition. -/
import Derived.Test.YtccfkglcjmkgcaaOpen
import Derived.Test.YtccfkglcjmkgcaaJ
namespace Go.Proofs.Ytccfkglcjmkgcaa
open Go.ChangeShapes Go.WideShapes Go.ChangeAt Go.RowKit
set_option linter.unusedVariables false

set_option maxHeartbeats 1000000 in
theorem lawUnusedOf (A0 : Option Addr) (n0 c0 : Nat) (xs0 : List Ask) (z1 : Int) (A2 : Option Addr) (n2 c2 : Nat) (xs2 : List Int) (w : World) (hn0 : xs0.length = n0) (hr0 : Row w A0 (ints (flat Ask.ints xs0))) (hle0 : n0 ≤ maxLen) (hn2 : xs2.length = n2) (hr2 : Row w A2 (ints xs2)) (hle2 : n2 ≤ maxLen) :
    Calls Try.prog 10 #[.slice A0 n0 c0, .int .i64 z1, .slice A2 n2 c2] w fun e w' => e = .returned (.bool true) ∧ Ext w w' := by
  have hy := Ext.refl w
  have Hle0 := Lib.hid hle0
  unfold maxLen at hle0
  have Hle2 := Lib.hid hle2
  unfold maxLen at hle2
  by_cases hbig2 : n2 ≤ 1048576
  rotate_left
  · go_enter Try.func10, Try.ntmps10
    go_wp2
    go_ret
    exact ⟨rfl, hy⟩
  have hbj2 : ¬ (1048576 : Int) < (n2 : Int) := by omega
  go_enter Try.func10, Try.ntmps10
  go_wp2_with fail
  refine (szAskS_any _ _ _ _ _ (by omega) (by omega) Hle0.out).mono ?_
  rintro e w' ⟨rfl, rfl⟩
  by_cases hbig0 : n0 ≤ 1048576
  rotate_left
  · rw [szI_neg (by omega)]
    go_wp2
    go_ret
    exact ⟨rfl, hy⟩
  rw [szI_pos (by omega)]
  have hbj0 : ¬ 1048576 - (n0 : Int) < 0 := by omega
  go_wp2_with fail
  refine (toAskS_any _ _ _ xs0 _ hn0 hr0 hbig0).mono ?_
  rintro e w1 ⟨g1, rfl, ho1, hx1⟩
  replace hy := hy.trans hx1
  replace hr0 := hr0.ext hx1
  replace hr2 := hr2.ext hx1
  go_wp2_with fail
  refine (toIntS_any _ _ _ xs2 _ hn2 hr2 hbig2).mono ?_
  rintro e w2 ⟨g2, rfl, ho2, hx2⟩
  replace hy := hy.trans hx2
  replace hr0 := hr0.ext hx2
  replace hr2 := hr2.ext hx2
  replace ho1 := own_ext ho1 hx2
  go_wp2_with fail
  refine (specUnused_any _ _ _ _ _ _ xs0 _ xs2 _ hn0 hn2 (Row.of_own ho1) (Row.of_own ho2) (by unfold maxLen; omega) (by unfold maxLen; omega)).mono ?_
  rintro e w3 ⟨rfl, hx3⟩
  replace hy := hy.trans hx3
  replace hr0 := hr0.ext hx3
  replace hr2 := hr2.ext hx3
  replace ho1 := own_ext ho1 hx3
  replace ho2 := own_ext ho2 hx3
  go_wp2_with fail
  refine (toAskS_any _ _ _ xs0 _ hn0 hr0 hbig0).mono ?_
  rintro e w4 ⟨g4, rfl, ho4, hx4⟩
  replace hy := hy.trans hx4
  replace hr0 := hr0.ext hx4
  replace hr2 := hr2.ext hx4
  replace ho1 := own_ext ho1 hx4
  replace ho2 := own_ext ho2 hx4
  go_wp2_with fail
  refine (toIntS_any _ _ _ xs2 _ hn2 hr2 hbig2).mono ?_
  rintro e w5 ⟨g5, rfl, ho5, hx5⟩
  replace hy := hy.trans hx5
  replace hr0 := hr0.ext hx5
  replace hr2 := hr2.ext hx5
  replace ho1 := own_ext ho1 hx5
  replace ho2 := own_ext ho2 hx5
  replace ho4 := own_ext ho4 hx5
  go_wp2_with fail
  refine (implUnused_any _ _ _ _ _ _ xs0 _ xs2 _ hn0 hn2 (Row.of_own ho4) (Row.of_own ho5) (by unfold maxLen; omega) (by unfold maxLen; omega)).mono ?_
  rintro e w6 ⟨rfl, hx6⟩
  replace hy := hy.trans hx6
  replace hr0 := hr0.ext hx6
  replace hr2 := hr2.ext hx6
  replace ho1 := own_ext ho1 hx6
  replace ho2 := own_ext ho2 hx6
  replace ho4 := own_ext ho4 hx6
  replace ho5 := own_ext ho5 hx6
  go_wp2_with fail
  refine (toAskS_any _ _ _ xs0 _ hn0 hr0 hbig0).mono ?_
  rintro e w7 ⟨g7, rfl, ho7, hx7⟩
  replace hy := hy.trans hx7
  replace hr0 := hr0.ext hx7
  replace hr2 := hr2.ext hx7
  replace ho1 := own_ext ho1 hx7
  replace ho2 := own_ext ho2 hx7
  replace ho4 := own_ext ho4 hx7
  replace ho5 := own_ext ho5 hx7
  go_wp2_with fail
  refine (eqAskS_any _ _ _ _ _ _ xs0 xs0 _ hn0 hn0 (Row.of_own ho4) (Row.of_own ho7) (by unfold maxLen; omega) (by unfold maxLen; omega)).mono ?_
  rintro e w8 ⟨rfl, hx8⟩
  replace hy := hy.trans hx8
  replace hr0 := hr0.ext hx8
  replace hr2 := hr2.ext hx8
  replace ho1 := own_ext ho1 hx8
  replace ho2 := own_ext ho2 hx8
  replace ho4 := own_ext ho4 hx8
  replace ho5 := own_ext ho5 hx8
  replace ho7 := own_ext ho7 hx8
  simp only [decide_true]
  go_wp2_with fail
  refine (toIntS_any _ _ _ xs2 _ hn2 hr2 hbig2).mono ?_
  rintro e w9 ⟨g9, rfl, ho9, hx9⟩
  replace hy := hy.trans hx9
  replace hr0 := hr0.ext hx9
  replace hr2 := hr2.ext hx9
  replace ho1 := own_ext ho1 hx9
  replace ho2 := own_ext ho2 hx9
  replace ho4 := own_ext ho4 hx9
  replace ho5 := own_ext ho5 hx9
  replace ho7 := own_ext ho7 hx9
  go_wp2_with fail
  refine (eqIntS_any _ _ _ _ _ _ xs2 xs2 _ hn2 hn2 (Row.of_own ho5) (Row.of_own ho9) (by unfold maxLen; omega) (by unfold maxLen; omega)).mono ?_
  rintro e w10 ⟨rfl, hx10⟩
  replace hy := hy.trans hx10
  replace hr0 := hr0.ext hx10
  replace hr2 := hr2.ext hx10
  replace ho1 := own_ext ho1 hx10
  replace ho2 := own_ext ho2 hx10
  replace ho4 := own_ext ho4 hx10
  replace ho5 := own_ext ho5 hx10
  replace ho7 := own_ext ho7 hx10
  replace ho9 := own_ext ho9 hx10
  simp only [decide_true]
  go_wp2
  go_ret
  exact ⟨rfl, hy⟩

namespace lFnExactUnusedOf
set_option maxRecDepth 100000 in
theorem lifted (os : Os) (started : os.Started) (H : Type) (enc : TypeId × Value → H) :
    ReturnsInHanded {} Try.checked os 10 .any (Rows.fnExactUnusedOfSpec.pre6 enc Try.prog Try.f10 Rows.fnExactUnusedOfRow.domain false) (Rows.fnExactUnusedOfSpec.post enc Try.prog Try.f10 false true false false) := by
  refine returnsInHanded_of_change (C := Try.checked) own started (by kernel_rfl) Try.func10
    (ChangeSpec.witness6 (enc := enc) (C := Try.checked) false ⟨#[], #[.slice none 0 0, .int .i64 0, .slice none 0 0], []⟩ 8 (by kernel_rfl) (by kernel_rfl) (by kernel_rfl) (by kernel_rfl)) ?_
  intro W base args ds gs before hval0 hW _ _
  have hval : ∀ (j : Nat) t v, Try.f10.params[j]? = some t → args[j]? = some v → Value.okWide Try.prog W .any base t v := hval0
  have hW' := hW
  obtain ⟨p, q, hA0, hV, rfl, _, _⟩ := hW
  have hA : DataW.TrodAll enc Try.prog W 0 (fun _ => true) true Try.f10.params.toList args.toList ds p := hA0
  rw [Try.params10] at hA hval
  obtain ⟨v0, vs0, d0, ds0, p0, q0, hargs, rfl, rfl, h0, r0⟩ := trodAll_cons hA
  obtain ⟨v1, vs1, d1, ds1, p1, q1, rfl, rfl, rfl, h1, r1⟩ := trodAll_cons r0
  obtain ⟨v2, vs2, d2, ds2, p2, q2, rfl, rfl, rfl, h2, r2⟩ := trodAll_cons r1
  obtain ⟨rfl, rfl, rfl⟩ := trodAll_nil r2
  obtain rfl : args = #[v0, v1, v2] := by cases args; simp_all
  obtain ⟨rfl, rfl⟩ := trodVars_none hV
  have hv0 := hval 0 31 v0 rfl rfl
  have hv1 := hval 1 3 v1 rfl rfl
  have hv2 := hval 2 22 v2 rfl rfl
  clear hA0 hval hval0
  obtain ⟨A0, n0, c0, zs0, rfl, hl0, hr0, hnc0, hm0, _⟩ := openArg_slice (n := 5) Try.underlying31 (by kernel_rfl) hv0 h0
  rw [(by kernel_rfl : Try.prog.cellsOf 74 = 4)] at hl0
  obtain ⟨xs0, hll0, rfl⟩ := unflat Ask.unints n0 zs0 hl0
  obtain ⟨z1, rfl, hz1⟩ := openArg_int Try.underlying3 hv1 h1
  obtain ⟨A2, n2, c2, xs2, rfl, hl2, hr2, hnc2, hm2, _⟩ := openArg_slice (n := 2) Try.underlying22 (by kernel_rfl) hv2 h2
  rw [(by kernel_rfl : Try.prog.cellsOf 3 = 1), Nat.mul_one] at hl2
  refine (lawUnusedOf A0 n0 c0 xs0 z1 A2 n2 c2 xs2 W hll0 hr0 (by omega) hl2 hr2 (by omega)).mono fun e W' ⟨he, hx⟩ => ?_
  subst he
  exact ⟨_, rfl, law_post (tb := 4) laidOut (by kernel_rfl) rfl Try.underlying4 rfl hW' rfl rfl rfl hx⟩
theorem over : Rows.fnExactUnusedOfRow.holds Try.pinned (OpenSpec.ofChange Rows.fnExactUnusedOfSpec) :=
  OpenClaim.holds_of_wide 10 Try.f10 rfl rfl rfl rfl rfl rfl rfl ⟨rfl, rfl, rfl, rfl, rfl⟩ rfl rfl rfl rfl rfl (by kernel_rfl) Try.func10 (by kernel_rfl)
    (of_decide_eq_true (by kernel_rfl)) (by unfold Func.isWrapper; first | (rw [if_pos (by decide +kernel)]; kernel_rfl) | (rw [if_neg (by decide +kernel)]; exact ⟨rfl, rfl⟩))
    (fun os started H enc _ => lifted os started H enc)
theorem proved : Rows.FnExactUnusedOfSaid := over
end lFnExactUnusedOf
end Go.Proofs.Ytccfkglcjmkgcaa
