/- The law FnExactAsksOk returns true for every slice of asks: AsksOk of the program and of the reference compute one function. No condition. -/
import Derived.Test.YtohlmkmejiimkaaOpen
import Derived.Test.YtohlmkmejiimkaaK
namespace Go.Proofs.Ytohlmkmejiimkaa
open Go.ChangeShapes Go.WideShapes Go.ChangeAt Go.RowKit

set_option maxHeartbeats 400000 in
theorem lawAsksOk (A : Option Addr) (n c : Nat) (xs : List Ask) (w : World) (hn : xs.length = n) (hr : Row w A (ints (flat Ask.ints xs))) (hle : n ≤ maxLen) :
    Calls Try.prog 8 #[.slice A n c] w fun e w' => e = .returned (.bool true) ∧ Ext w w' := by
  go_enter Try.func8, Try.ntmps8
  go_wp2_with fail
  refine (szAskS_any _ _ _ _ _ (by omega) (by omega) hle).mono ?_
  rintro e w' ⟨rfl, rfl⟩
  unfold maxLen at hle
  by_cases hbig : n ≤ 1048576
  · rw [szI_pos (by omega)]
    have hbig' : ¬ 1048576 - (n : Int) < 0 := by omega
    go_wp2_with fail
    refine (toAskS_any _ _ _ xs _ hn hr hbig).mono ?_
    rintro e w1 ⟨g1, rfl, ho1, hx1⟩
    go_wp2_with fail
    refine (specAsksOk_any _ _ _ xs _ hn (Row.of_own ho1) (by unfold maxLen; omega)).mono ?_
    rintro e w2 ⟨rfl, hx2⟩
    go_wp2_with fail
    have hy2 := hx1.trans hx2
    refine (toAskS_any _ _ _ xs _ hn (hr.ext hy2) hbig).mono ?_
    rintro e w3 ⟨g2, rfl, ho2, hx3⟩
    go_wp2_with fail
    have hy3 := hy2.trans hx3
    refine (implAsksOk_any _ _ _ xs _ hn (Row.of_own ho2) (by unfold maxLen; omega)).mono ?_
    rintro e w4 ⟨rfl, hx4⟩
    go_wp2_with fail
    have hy4 := hy3.trans hx4
    refine (toAskS_any _ _ _ xs _ hn (hr.ext hy4) hbig).mono ?_
    rintro e w5 ⟨g3, rfl, ho3, hx5⟩
    go_wp2_with fail
    have hy5 := hy4.trans hx5
    refine (eqAskS_any _ _ _ _ _ _ xs xs _ hn hn (Row.of_own (own_ext (own_ext ho2 hx4) hx5)) (Row.of_own ho3) (by unfold maxLen; omega) (by unfold maxLen; omega)).mono ?_
    rintro e w6 ⟨rfl, hx6⟩
    simp only [decide_true]
    go_wp2
    go_ret
    exact ⟨rfl, hy5.trans hx6⟩
  · rw [szI_neg (by omega)]
    go_wp2
    go_ret
    exact ⟨rfl, Ext.refl _⟩

namespace lFnExactAsksOk
set_option maxRecDepth 100000 in
theorem lifted (os : Os) (started : os.Started) (H : Type) (enc : TypeId × Value → H) :
    ReturnsInHanded {} Try.checked os 8 .any (Rows.fnExactAsksOkSpec.pre6 enc Try.prog Try.f8 Rows.fnExactAsksOkRow.domain false) (Rows.fnExactAsksOkSpec.post enc Try.prog Try.f8 false true false false) := by
  refine returnsInHanded_of_change (C := Try.checked) own started (by kernel_rfl) Try.func8
    (ChangeSpec.witness6 (enc := enc) (C := Try.checked) false ⟨#[], #[.slice none 0 0], []⟩ 8 (by kernel_rfl) (by kernel_rfl) (by kernel_rfl) (by kernel_rfl)) ?_
  intro W base args ds gs before hval0 hW _ _
  have hval : ∀ (j : Nat) t v, Try.f8.params[j]? = some t → args[j]? = some v → Value.okWide Try.prog W .any base t v := hval0
  have hW' := hW
  obtain ⟨p, q, hA0, hV, rfl, _, _⟩ := hW
  have hA : DataW.TrodAll enc Try.prog W 0 (fun _ => true) true Try.f8.params.toList args.toList ds p := hA0
  rw [Try.params8] at hA hval
  obtain ⟨v0, vs0, d0, ds0, p0, q0, hargs, rfl, rfl, h0, r0⟩ := trodAll_cons hA
  obtain ⟨rfl, rfl, rfl⟩ := trodAll_nil r0
  obtain rfl : args = #[v0] := by cases args; simp_all
  obtain ⟨rfl, rfl⟩ := trodVars_none hV
  have hv0 := hval 0 44 v0 rfl rfl
  clear hA0 hval hval0
  obtain ⟨A, n, c, zs, rfl, hl, hr, hnc, hm, _⟩ := openArg_slice (n := 5) Try.underlying44 (by kernel_rfl) hv0 h0
  rw [(by kernel_rfl : Try.prog.cellsOf 57 = 4)] at hl
  obtain ⟨xs, hn, rfl⟩ := unflat Ask.unints n zs hl
  refine (lawAsksOk A n c xs W hn hr (by omega)).mono fun e W' ⟨he, hx⟩ => ?_
  subst he
  exact ⟨_, rfl, law_post (tb := 4) laidOut (by kernel_rfl) rfl Try.underlying4 rfl hW' rfl rfl rfl hx⟩
theorem over : Rows.fnExactAsksOkRow.holds Try.pinned (OpenSpec.ofChange Rows.fnExactAsksOkSpec) :=
  OpenClaim.holds_of_wide 8 Try.f8 rfl rfl rfl rfl rfl rfl rfl ⟨rfl, rfl, rfl, rfl, rfl⟩ rfl rfl rfl rfl rfl (by kernel_rfl) Try.func8 (by kernel_rfl)
    (of_decide_eq_true (by kernel_rfl)) (by unfold Func.isWrapper; first | (rw [if_pos (by decide +kernel)]; kernel_rfl) | (rw [if_neg (by decide +kernel)]; exact ⟨rfl, rfl⟩))
    (fun os started H enc _ => lifted os started H enc)
theorem proved : Rows.FnExactAsksOkSaid := over
end lFnExactAsksOk
end Go.Proofs.Ytohlmkmejiimkaa
