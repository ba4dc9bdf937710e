/- The law FnExactLeastCap returns true for all arguments: LeastCap of the program and of the reference compute one function. No condition. -/
import Derived.Test.YtccfkglcjmkgcaaOpen
import Derived.Test.YtccfkglcjmkgcaaC
namespace Go.Proofs.Ytccfkglcjmkgcaa
open Go.ChangeShapes Go.WideShapes Go.ChangeAt Go.RowKit

set_option maxHeartbeats 400000 in
theorem lawLeastCap (A0 : Option Addr) (n0 c0 : Nat) (xs0 : List Ask) (w : World) (hn0 : xs0.length = n0) (hr0 : Row w A0 (ints (flat Ask.ints xs0))) (hle0 : n0 ≤ maxLen) :
    Calls Try.prog 5 #[.slice A0 n0 c0] w fun e w' => e = .returned (.bool true) ∧ Ext w w' := by
  have hy := Ext.refl w
  have Hle0 := Lib.hid hle0
  unfold maxLen at hle0
  go_enter Try.func5, Try.ntmps5
  go_wp2_with fail
  refine (szAskS_any _ _ _ _ _ (by omega) (by omega) Hle0.out).mono ?_
  rintro e w' ⟨rfl, rfl⟩
  by_cases hbig0 : n0 ≤ 1048576
  rotate_left
  · rw [szI_neg (by omega)]
    go_wp2
    go_ret
    exact ⟨rfl, hy⟩
  rw [szI_pos (by omega)]
  have hbj0 : ¬ 1048576 - (n0 : Int) < 0 := by omega
  go_wp2_with fail
  refine (toAskS_any _ _ _ xs0 _ hn0 hr0 hbig0).mono ?_
  rintro e w1 ⟨g1, rfl, ho1, hx1⟩
  replace hy := hy.trans hx1
  replace hr0 := hr0.ext hx1
  go_wp2_with fail
  refine (specLeastCap_any _ _ _ xs0 _ hn0 (Row.of_own ho1) (by unfold maxLen; omega)).mono ?_
  rintro e w2 ⟨rfl, hx2⟩
  replace hy := hy.trans hx2
  replace hr0 := hr0.ext hx2
  replace ho1 := own_ext ho1 hx2
  go_wp2_with fail
  refine (toAskS_any _ _ _ xs0 _ hn0 hr0 hbig0).mono ?_
  rintro e w3 ⟨g3, rfl, ho3, hx3⟩
  replace hy := hy.trans hx3
  replace hr0 := hr0.ext hx3
  replace ho1 := own_ext ho1 hx3
  go_wp2_with fail
  refine (implLeastCap_any _ _ _ xs0 _ hn0 (Row.of_own ho3) (by unfold maxLen; omega)).mono ?_
  rintro e w4 ⟨rfl, hx4⟩
  replace hy := hy.trans hx4
  replace hr0 := hr0.ext hx4
  replace ho1 := own_ext ho1 hx4
  replace ho3 := own_ext ho3 hx4
  go_wp2_with fail
  refine (toAskS_any _ _ _ xs0 _ hn0 hr0 hbig0).mono ?_
  rintro e w5 ⟨g5, rfl, ho5, hx5⟩
  replace hy := hy.trans hx5
  replace hr0 := hr0.ext hx5
  replace ho1 := own_ext ho1 hx5
  replace ho3 := own_ext ho3 hx5
  go_wp2_with fail
  refine (eqAskS_any _ _ _ _ _ _ xs0 xs0 _ hn0 hn0 (Row.of_own ho3) (Row.of_own ho5) (by unfold maxLen; omega) (by unfold maxLen; omega)).mono ?_
  rintro e w6 ⟨rfl, hx6⟩
  replace hy := hy.trans hx6
  replace hr0 := hr0.ext hx6
  replace ho1 := own_ext ho1 hx6
  replace ho3 := own_ext ho3 hx6
  replace ho5 := own_ext ho5 hx6
  simp only [decide_true]
  go_wp2
  go_ret
  exact ⟨rfl, hy⟩

namespace lFnExactLeastCap
set_option maxRecDepth 100000 in
theorem lifted (os : Os) (started : os.Started) (H : Type) (enc : TypeId × Value → H) :
    ReturnsInHanded {} Try.checked os 5 .any (Rows.fnExactLeastCapSpec.pre6 enc Try.prog Try.f5 Rows.fnExactLeastCapRow.domain false) (Rows.fnExactLeastCapSpec.post enc Try.prog Try.f5 false true false false) := by
  refine returnsInHanded_of_change (C := Try.checked) own started (by kernel_rfl) Try.func5
    (ChangeSpec.witness6 (enc := enc) (C := Try.checked) false ⟨#[], #[.slice none 0 0], []⟩ 8 (by kernel_rfl) (by kernel_rfl) (by kernel_rfl) (by kernel_rfl)) ?_
  intro W base args ds gs before hval0 hW _ _
  have hval : ∀ (j : Nat) t v, Try.f5.params[j]? = some t → args[j]? = some v → Value.okWide Try.prog W .any base t v := hval0
  have hW' := hW
  obtain ⟨p, q, hA0, hV, rfl, _, _⟩ := hW
  have hA : DataW.TrodAll enc Try.prog W 0 (fun _ => true) true Try.f5.params.toList args.toList ds p := hA0
  rw [Try.params5] at hA hval
  obtain ⟨v0, vs0, d0, ds0, p0, q0, hargs, rfl, rfl, h0, r0⟩ := trodAll_cons hA
  obtain ⟨rfl, rfl, rfl⟩ := trodAll_nil r0
  obtain rfl : args = #[v0] := by cases args; simp_all
  obtain ⟨rfl, rfl⟩ := trodVars_none hV
  have hv0 := hval 0 31 v0 rfl rfl
  clear hA0 hval hval0
  obtain ⟨A0, n0, c0, zs0, rfl, hl0, hr0, hnc0, hm0, _⟩ := openArg_slice (n := 5) Try.underlying31 (by kernel_rfl) hv0 h0
  rw [(by kernel_rfl : Try.prog.cellsOf 74 = 4)] at hl0
  obtain ⟨xs0, hll0, rfl⟩ := unflat Ask.unints n0 zs0 hl0
  refine (lawLeastCap A0 n0 c0 xs0 W hll0 hr0 (by omega)).mono fun e W' ⟨he, hx⟩ => ?_
  subst he
  exact ⟨_, rfl, law_post (tb := 4) laidOut (by kernel_rfl) rfl Try.underlying4 rfl hW' rfl rfl rfl hx⟩
theorem over : Rows.fnExactLeastCapRow.holds Try.pinned (OpenSpec.ofChange Rows.fnExactLeastCapSpec) :=
  OpenClaim.holds_of_wide 5 Try.f5 rfl rfl rfl rfl rfl rfl rfl ⟨rfl, rfl, rfl, rfl, rfl⟩ rfl rfl rfl rfl rfl (by kernel_rfl) Try.func5 (by kernel_rfl)
    (of_decide_eq_true (by kernel_rfl)) (by unfold Func.isWrapper; first | (rw [if_pos (by decide +kernel)]; kernel_rfl) | (rw [if_neg (by decide +kernel)]; exact ⟨rfl, rfl⟩))
    (fun os started H enc _ => lifted os started H enc)
theorem proved : Rows.FnExactLeastCapSaid := over
end lFnExactLeastCap
end Go.Proofs.Ytccfkglcjmkgcaa
