/- The law FnExactSeriesOk returns true for every slice: SeriesOk of the program and of the reference compute one function. No condition. -/
import Derived.Test.YtohlmkmejiimkaaOpen
import Derived.Test.YtohlmkmejiimkaaS
namespace Go.Proofs.Ytohlmkmejiimkaa
open Go.ChangeShapes Go.WideShapes Go.ChangeAt Go.RowKit

set_option maxHeartbeats 400000 in
theorem lawSeriesOk (A : Option Addr) (n c : Nat) (xs : List Int) (w : World) (hn : xs.length = n) (hr : Row w A (ints xs)) (hle : n ≤ maxLen) :
    Calls Try.prog 6 #[.slice A n c] w fun e w' => e = .returned (.bool true) ∧ Ext w w' := by
  unfold maxLen at hle
  by_cases hbig : n ≤ 1048576
  · have hbig' : ¬ (1048576 : Int) < (n : Int) := by omega
    go_enter Try.func6, Try.ntmps6
    go_wp2_with fail
    refine (toIntS_any _ _ _ xs _ hn hr hbig).mono ?_
    rintro e w1 ⟨g1, rfl, ho1, hx1⟩
    go_wp2_with fail
    refine (specSeriesOk_any _ _ _ xs _ hn (Row.of_own ho1) (by unfold maxLen; omega)).mono ?_
    rintro e w' ⟨rfl, rfl⟩
    go_wp2_with fail
    refine (toIntS_any _ _ _ xs _ hn (hr.ext hx1) hbig).mono ?_
    rintro e w2 ⟨g2, rfl, ho2, hx2⟩
    go_wp2_with fail
    refine (implSeriesOk_any _ _ _ xs _ hn (Row.of_own ho2) (by unfold maxLen; omega)).mono ?_
    rintro e w' ⟨rfl, rfl⟩
    go_wp2_with fail
    refine (toIntS_any _ _ _ xs _ hn ((hr.ext hx1).ext hx2) hbig).mono ?_
    rintro e w3 ⟨g3, rfl, ho3, hx3⟩
    go_wp2_with fail
    refine (eqIntS_any _ _ _ _ _ _ xs xs _ hn hn (Row.of_own (own_ext ho2 hx3)) (Row.of_own ho3) (by unfold maxLen; omega) (by unfold maxLen; omega)).mono ?_
    rintro e w4 ⟨rfl, hx4⟩
    simp only [decide_true]
    go_wp2
    go_ret
    exact ⟨rfl, ((hx1.trans hx2).trans hx3).trans hx4⟩
  · go_enter Try.func6, Try.ntmps6
    go_wp2
    go_ret
    exact ⟨rfl, Ext.refl _⟩

namespace lFnExactSeriesOk
set_option maxRecDepth 100000 in
theorem lifted (os : Os) (started : os.Started) (H : Type) (enc : TypeId × Value → H) :
    ReturnsInHanded {} Try.checked os 6 .any (Rows.fnExactSeriesOkSpec.pre6 enc Try.prog Try.f6 Rows.fnExactSeriesOkRow.domain false) (Rows.fnExactSeriesOkSpec.post enc Try.prog Try.f6 false true false false) := by
  refine returnsInHanded_of_change (C := Try.checked) own started (by kernel_rfl) Try.func6
    (ChangeSpec.witness6 (enc := enc) (C := Try.checked) false ⟨#[], #[.slice none 0 0], []⟩ 8 (by kernel_rfl) (by kernel_rfl) (by kernel_rfl) (by kernel_rfl)) ?_
  intro W base args ds gs before hval0 hW _ _
  have hval : ∀ (j : Nat) t v, Try.f6.params[j]? = some t → args[j]? = some v → Value.okWide Try.prog W .any base t v := hval0
  have hW' := hW
  obtain ⟨p, q, hA0, hV, rfl, _, _⟩ := hW
  have hA : DataW.TrodAll enc Try.prog W 0 (fun _ => true) true Try.f6.params.toList args.toList ds p := hA0
  rw [Try.params6] at hA hval
  obtain ⟨v0, vs0, d0, ds0, p0, q0, hargs, rfl, rfl, h0, r0⟩ := trodAll_cons hA
  obtain ⟨rfl, rfl, rfl⟩ := trodAll_nil r0
  obtain rfl : args = #[v0] := by cases args; simp_all
  obtain ⟨rfl, rfl⟩ := trodVars_none hV
  have hv0 := hval 0 32 v0 rfl rfl
  clear hA0 hval hval0
  obtain ⟨A, n, c, xs, rfl, hl, hr, hnc, hm, _⟩ := openArg_slice (n := 2) Try.underlying32 (by kernel_rfl) hv0 h0
  refine (lawSeriesOk A n c xs W (hl.trans (by rw [(by kernel_rfl : Try.prog.cellsOf 3 = 1)]; omega)) hr (by omega)).mono fun e W' ⟨he, hx⟩ => ?_
  subst he
  exact ⟨_, rfl, law_post (tb := 4) laidOut (by kernel_rfl) rfl Try.underlying4 rfl hW' rfl rfl rfl hx⟩
theorem over : Rows.fnExactSeriesOkRow.holds Try.pinned (OpenSpec.ofChange Rows.fnExactSeriesOkSpec) :=
  OpenClaim.holds_of_wide 6 Try.f6 rfl rfl rfl rfl rfl rfl rfl ⟨rfl, rfl, rfl, rfl, rfl⟩ rfl rfl rfl rfl rfl (by kernel_rfl) Try.func6 (by kernel_rfl)
    (of_decide_eq_true (by kernel_rfl)) (by unfold Func.isWrapper; first | (rw [if_pos (by decide +kernel)]; kernel_rfl) | (rw [if_neg (by decide +kernel)]; exact ⟨rfl, rfl⟩))
    (fun os started H enc _ => lifted os started H enc)
theorem proved : Rows.FnExactSeriesOkSaid := over
end lFnExactSeriesOk
end Go.Proofs.Ytohlmkmejiimkaa
