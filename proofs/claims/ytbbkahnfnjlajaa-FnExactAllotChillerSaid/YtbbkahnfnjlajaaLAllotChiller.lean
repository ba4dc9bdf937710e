/- The law FnExactAllotChiller returns true for all arguments: AllotChiller of the program and of the reference compute one function. No condition. -/
import Derived.Test.YtbbkahnfnjlajaaOpen
import Derived.Test.YtbbkahnfnjlajaaAl
namespace Go.Proofs.Ytbbkahnfnjlajaa
open Go.ChangeShapes Go.WideShapes Go.ChangeAt Go.RowKit
set_option linter.unusedVariables false

set_option maxHeartbeats 4000000 in
theorem lawAllotChiller (A0 : Option Addr) (n0 c0 : Nat) (xs0 : List Ask) (z1 : Int) (w : World) (hn0 : xs0.length = n0) (hr0 : Row w A0 (ints (flat Ask.ints xs0))) (hle0 : n0 ≤ maxLen) (hz1 : I64 z1) :
    Calls Try.prog 7 #[.slice A0 n0 c0, .int .i64 z1] w fun e w' => e = .returned (.bool true) ∧ Ext w w' := by
  have hy := Ext.refl w
  have Hle0 := Lib.hid hle0
  unfold maxLen at hle0
  have hr00 := hr0
  go_enter Try.func7, Try.ntmps7
  go_wp2_with fail
  refine (szAskS_any _ _ _ _ _ (by omega) (by omega) Hle0.out).mono ?_
  rintro e w' ⟨rfl, rfl⟩
  by_cases hbig0 : n0 ≤ 1048576
  rotate_left
  · rw [szI_neg (by omega)]
    go_wp2
    go_ret
    exact ⟨rfl, hy⟩
  rw [szI_pos (by omega)]
  have hbj0 : ¬ 1048576 - (n0 : Int) < 0 := by omega
  have hL := allotOf_le xs0 z1
  have hbb : (allotOk xs0 z1 != allotOk xs0 z1) = false := by simp
  go_wp2_with fail
  refine (toAskS_any _ _ _ xs0 _ hn0 hr0 hbig0).mono ?_
  rintro e w1 ⟨g1, rfl, ho1, hx1⟩
  replace hy := hy.trans hx1
  replace hr0 := hr0.ext hx1
  have HI1 := Lib.hid (fun g (hg : Value.ownBlock (.slice (some ⟨g1, 0, none⟩) n0 n0) = some g) => own_lt ho1 hg)
  have hsz1 := Ext.size hx1
  go_wp2_with fail
  refine (specAllot_any _ _ _ xs0 _ _ hn0 (Row.of_own ho1) (by unfold maxLen; omega) hz1).mono ?_
  rintro e w2 ⟨B2, b2, rfl, ho2, hx2⟩
  replace hy := hy.trans hx2
  replace hr0 := hr0.ext hx2
  replace ho1 := own_ext ho1 hx2
  have HI2 := Lib.hid (fun g (hg : Value.ownBlock (.slice B2 (allotOf xs0 z1).length b2) = some g) => own_lt ho2 hg)
  have hsz2 := Ext.size hx2
  clear ho1
  go_wp2_with fail
  refine (toAskS_any _ _ _ xs0 _ hn0 hr0 hbig0).mono ?_
  rintro e w3 ⟨g3, rfl, ho3, hx3⟩
  replace hy := hy.trans hx3
  replace hr0 := hr0.ext hx3
  replace ho2 := own_ext ho2 hx3
  have HI3 := Lib.hid (fun g (hg : Value.ownBlock (.slice (some ⟨g3, 0, none⟩) n0 n0) = some g) => own_lt ho3 hg)
  have hsz3 := Ext.size hx3
  go_wp2_with fail
  refine (implAllot_any _ _ _ xs0 _ _ hn0 (Row.of_own ho3) (by unfold maxLen; omega) hz1).mono ?_
  rintro e w4 ⟨B4, b4, rfl, ho4, hx4⟩
  replace hy := hy.trans hx4
  replace hr0 := hr0.ext hx4
  replace ho2 := own_ext ho2 hx4
  replace ho3 := own_ext ho3 hx4
  have HI4 := Lib.hid (fun g (hg : Value.ownBlock (.slice B4 (allotOf xs0 z1).length b4) = some g) => own_lt ho4 hg)
  have hsz4 := Ext.size hx4
  go_wp2_with fail
  refine (eqIntS_any _ _ _ _ _ _ (allotOf xs0 z1) (allotOf xs0 z1) _ rfl rfl (Row.of_own ho4) (Row.of_own ho2) (by unfold maxLen; omega) (by unfold maxLen; omega)).mono ?_
  rintro e w5 ⟨rfl, hx5⟩
  replace hy := hy.trans hx5
  replace hr0 := hr0.ext hx5
  replace ho2 := own_ext ho2 hx5
  replace ho3 := own_ext ho3 hx5
  replace ho4 := own_ext ho4 hx5
  have hsz5 := Ext.size hx5
  simp only [decide_true]
  go_wp2_with fail
  refine (toAskS_any _ _ _ xs0 _ hn0 hr0 hbig0).mono ?_
  rintro e w6 ⟨g6, rfl, ho6, hx6⟩
  replace hy := hy.trans hx6
  replace hr0 := hr0.ext hx6
  replace ho2 := own_ext ho2 hx6
  replace ho3 := own_ext ho3 hx6
  replace ho4 := own_ext ho4 hx6
  have HI6 := Lib.hid (fun g (hg : Value.ownBlock (.slice (some ⟨g6, 0, none⟩) n0 n0) = some g) => own_lt ho6 hg)
  have hsz6 := Ext.size hx6
  go_wp2_with fail
  refine (eqAskS_any _ _ _ _ _ _ xs0 xs0 _ hn0 hn0 (Row.of_own ho3) (Row.of_own ho6) (by unfold maxLen; omega) (by unfold maxLen; omega)).mono ?_
  rintro e w7 ⟨rfl, hx7⟩
  replace hy := hy.trans hx7
  replace hr0 := hr0.ext hx7
  replace ho2 := own_ext ho2 hx7
  replace ho3 := own_ext ho3 hx7
  replace ho4 := own_ext ho4 hx7
  replace ho6 := own_ext ho6 hx7
  have hsz7 := Ext.size hx7
  simp only [decide_true]
  clear ho6
  go_wp2_with fail
  refine (markAskS_any _ _ _ _ _ _ _ ho3 (by omega) (by omega) (by omega)).mono ?_
  rintro e w8 ⟨rfl, hm8, hk8⟩
  replace hy := hy.only hk8 (fun g hg => by have h1 := HI3.out g hg; omega)
  replace hr0 := hr0.only0 hr00 hk8 (fun g hg => by have h1 := HI3.out g hg; omega)
  replace ho2 := own_only ho2 hk8 (fun g hg he => by have h1 := HI3.out g hg; have h2 := HI2.out g he; omega)
  replace ho4 := own_only ho4 hk8 (fun g hg he => by have h1 := HI3.out g hg; have h2 := HI4.out g he; omega)
  replace ho3 := hm8
  have hsz8 := Only.size hk8
  go_wp2_with fail
  refine (eqIntS_any _ _ _ _ _ _ (allotOf xs0 z1) (allotOf xs0 z1) _ rfl rfl (Row.of_own ho4) (Row.of_own ho2) (by unfold maxLen; omega) (by unfold maxLen; omega)).mono ?_
  rintro e w9 ⟨rfl, hx9⟩
  replace hy := hy.trans hx9
  replace hr0 := hr0.ext hx9
  replace ho2 := own_ext ho2 hx9
  replace ho3 := own_ext ho3 hx9
  replace ho4 := own_ext ho4 hx9
  have hsz9 := Ext.size hx9
  simp only [decide_true]
  go_wp2_with fail
  refine (markIntS_any _ _ _ _ _ _ _ ho4 (by omega) (by omega) (by omega)).mono ?_
  rintro e w10 ⟨rfl, hm10, hk10⟩
  replace hy := hy.only hk10 (fun g hg => by have h1 := HI4.out g hg; omega)
  replace hr0 := hr0.only0 hr00 hk10 (fun g hg => by have h1 := HI4.out g hg; omega)
  replace ho2 := own_only ho2 hk10 (fun g hg he => by have h1 := HI4.out g hg; have h2 := HI2.out g he; omega)
  replace ho3 := own_only ho3 hk10 (fun g hg he => by have h1 := HI4.out g hg; have h2 := HI3.out g he; omega)
  replace ho4 := hm10
  have hsz10 := Only.size hk10
  go_wp2_with fail
  refine (heldIntS_any _ _ _ _ _ (Row.of_own ho4) (by omega) (by omega) (by omega)).mono ?_
  rintro e w' ⟨rfl, rfl⟩
  go_wp2_with fail
  refine (toAskS_any _ _ _ xs0 _ hn0 hr0 hbig0).mono ?_
  rintro e w11 ⟨g11, rfl, ho11, hx11⟩
  replace hy := hy.trans hx11
  replace hr0 := hr0.ext hx11
  replace ho2 := own_ext ho2 hx11
  replace ho3 := own_ext ho3 hx11
  replace ho4 := own_ext ho4 hx11
  have HI11 := Lib.hid (fun g (hg : Value.ownBlock (.slice (some ⟨g11, 0, none⟩) n0 n0) = some g) => own_lt ho11 hg)
  have hsz11 := Ext.size hx11
  go_wp2_with fail
  refine (implAllot_any _ _ _ xs0 _ _ hn0 (Row.of_own ho11) (by unfold maxLen; omega) hz1).mono ?_
  rintro e w12 ⟨B12, b12, rfl, ho12, hx12⟩
  replace hy := hy.trans hx12
  replace hr0 := hr0.ext hx12
  replace ho2 := own_ext ho2 hx12
  replace ho3 := own_ext ho3 hx12
  replace ho4 := own_ext ho4 hx12
  replace ho11 := own_ext ho11 hx12
  have HI12 := Lib.hid (fun g (hg : Value.ownBlock (.slice B12 (allotOf xs0 z1).length b12) = some g) => own_lt ho12 hg)
  have hsz12 := Ext.size hx12
  go_wp2_with fail
  refine (eqIntS_any _ _ _ _ _ _ (allotOf xs0 z1) (allotOf xs0 z1) _ rfl rfl (Row.of_own ho12) (Row.of_own ho2) (by unfold maxLen; omega) (by unfold maxLen; omega)).mono ?_
  rintro e w13 ⟨rfl, hx13⟩
  replace hy := hy.trans hx13
  replace hr0 := hr0.ext hx13
  replace ho2 := own_ext ho2 hx13
  replace ho3 := own_ext ho3 hx13
  replace ho4 := own_ext ho4 hx13
  replace ho11 := own_ext ho11 hx13
  replace ho12 := own_ext ho12 hx13
  have hsz13 := Ext.size hx13
  simp only [decide_true]
  go_wp2_with fail
  refine (heldIntS_any _ _ _ _ _ (Row.of_own ho4) (by omega) (by omega) (by omega)).mono ?_
  rintro e w' ⟨rfl, rfl⟩
  go_wp2
  go_ret
  exact ⟨rfl, hy⟩

namespace lFnExactAllotChiller
set_option maxRecDepth 100000 in
theorem lifted (os : Os) (started : os.Started) (H : Type) (enc : TypeId × Value → H) :
    ReturnsInHanded {} Try.checked os 7 .any (Rows.fnExactAllotChillerSpec.pre6 enc Try.prog Try.f7 Rows.fnExactAllotChillerRow.domain false) (Rows.fnExactAllotChillerSpec.post enc Try.prog Try.f7 false true false false) := by
  refine returnsInHanded_of_change (C := Try.checked) own started (by kernel_rfl) Try.func7
    (ChangeSpec.witness6 (enc := enc) (C := Try.checked) false ⟨#[], #[.slice none 0 0, .int .i64 0], []⟩ 8 (by kernel_rfl) (by kernel_rfl) (by kernel_rfl) (by kernel_rfl)) ?_
  intro W base args ds gs before hval0 hW _ _
  have hval : ∀ (j : Nat) t v, Try.f7.params[j]? = some t → args[j]? = some v → Value.okWide Try.prog W .any base t v := hval0
  have hW' := hW
  obtain ⟨p, q, hA0, hV, rfl, _, _⟩ := hW
  have hA : DataW.TrodAll enc Try.prog W 0 (fun _ => true) true Try.f7.params.toList args.toList ds p := hA0
  rw [Try.params7] at hA hval
  obtain ⟨v0, vs0, d0, ds0, p0, q0, hargs, rfl, rfl, h0, r0⟩ := trodAll_cons hA
  obtain ⟨v1, vs1, d1, ds1, p1, q1, rfl, rfl, rfl, h1, r1⟩ := trodAll_cons r0
  obtain ⟨rfl, rfl, rfl⟩ := trodAll_nil r1
  obtain rfl : args = #[v0, v1] := by cases args; simp_all
  obtain ⟨rfl, rfl⟩ := trodVars_none hV
  have hv0 := hval 0 50 v0 rfl rfl
  have hv1 := hval 1 3 v1 rfl rfl
  clear hA0 hval hval0
  obtain ⟨A0, n0, c0, zs0, rfl, hl0, hr0, hnc0, hm0, _⟩ := openArg_slice (n := 5) Try.underlying50 (by kernel_rfl) hv0 h0
  rw [(by kernel_rfl : Try.prog.cellsOf 91 = 4)] at hl0
  obtain ⟨xs0, hll0, rfl⟩ := unflat Ask.unints n0 zs0 hl0
  obtain ⟨z1, rfl, hz1⟩ := openArg_int Try.underlying3 hv1 h1
  refine (lawAllotChiller A0 n0 c0 xs0 z1 W hll0 hr0 (by omega) hz1).mono fun e W' ⟨he, hx⟩ => ?_
  subst he
  exact ⟨_, rfl, law_post (tb := 4) laidOut (by kernel_rfl) rfl Try.underlying4 rfl hW' rfl rfl rfl hx⟩
theorem over : Rows.fnExactAllotChillerRow.holds Try.pinned (OpenSpec.ofChange Rows.fnExactAllotChillerSpec) :=
  OpenClaim.holds_of_wide 7 Try.f7 rfl rfl rfl rfl rfl rfl rfl ⟨rfl, rfl, rfl, rfl, rfl⟩ rfl rfl rfl rfl rfl (by kernel_rfl) Try.func7 (by kernel_rfl)
    (of_decide_eq_true (by kernel_rfl)) (by unfold Func.isWrapper; first | (rw [if_pos (by decide +kernel)]; kernel_rfl) | (rw [if_neg (by decide +kernel)]; exact ⟨rfl, rfl⟩))
    (fun os started H enc _ => lifted os started H enc)
theorem proved : Rows.FnExactAllotChillerSaid := over
end lFnExactAllotChiller
end Go.Proofs.Ytbbkahnfnjlajaa
