/- The law FnExactCheapPeriods returns true for all arguments: CheapPeriods of the program and of the reference give the same places. No condition. -/
import Derived.Test.YtdkgcaifagigfaaHz
import Derived.Test.YtdkgcaifagigfaaCp
import Derived.Test.YtdkgcaifagigfaaMs
import Derived.Test.YtdkgcaifagigfaaMTariff
import Derived.Deep.RegionHeld3
namespace Go.Proofs.Ytdkgcaifagigfaa
open Go.ChangeShapes Go.WideShapes Go.ChangeAt Go.RowKit
set_option linter.unusedVariables false
set_option maxRecDepth 100000

theorem AggAt.tariff {w : World} {lo hi n c : Nat} {r : Tariff} {A : Option Addr} (h : AggAt w (tariffF r) [.slice A n c] lo hi) : Row w A (ints r.Prices) := by
  obtain ⟨_, _, _, _, hv, q, _⟩ := h
  injection hv with h1
  injection h1 with h2 h3 h4
  subst h2; subst h3; subst h4
  exact q.row
theorem IntsGot.mine {l : List Int} {w w' : World} {e : Ending} (h : IntsGot l w e w') : ∃ A c, e = .returned (.slice A l.length c) ∧ Mine w' w.heap.size w'.heap.size 3 1 (.slice A l.length c) l.length (ints l) ∧ Ext w w' := by
  obtain ⟨A, c, h1, h2, h3⟩ := h
  exact ⟨A, c, h1, Mine.of_own h2, h3⟩
set_option maxHeartbeats 8000000 in
theorem lawCheapPeriods (r0 : Tariff) (vs0 : List Value) (z1 : Int) (w : World) (h0 : AggRow w (tariffF r0) vs0) (hI0 : tariffFI r0) (hz1 : I64 z1) :
    Calls Try.prog 3 #[.agg vs0.toArray, .int .i64 z1] w fun e w' => e = .returned (.bool true) ∧ Ext w w' := by
  obtain ⟨A0_0, c0_0, _, rfl, p0r0, p0n0, p0m0, rfl⟩ := h0
  have hy : Ext w (w.alloc (.cells #[.slice A0_0 r0.Prices.length c0_0] 24)) := by repeat (first | exact Ext.refl _ | refine Ext.alloc ?_ _)
  have bA0 : Blk (w.alloc (.cells #[.slice A0_0 r0.Prices.length c0_0] 24)) (w.heap.size) 24 #[.slice A0_0 r0.Prices.length c0_0] := by
    have q := Blk.new w 24 #[.slice A0_0 r0.Prices.length c0_0]
    simpa only [World.size_alloc] using q
  go_enter Try.func3, Try.ntmps3
  go_wp2_with fail
  refine (szTariff_m r0 [.slice A0_0 r0.Prices.length c0_0] (1048576) _ ⟨_, _, _, rfl, p0r0.ext hy, p0n0, p0m0, rfl⟩ (by omega) (by omega)).mono ?_
  rintro e w1 ⟨rfl, hx1⟩
  replace hy := hy.trans hx1
  replace bA0 := bA0.ext hx1
  have cbA0_1 := fun o => bA0.cell o
  have hbd0 := szL_bd (lenF (tariffF r0)) (1048576) (by omega)
  have hle0 := szL_le (lenF (tariffF r0)) (1048576)
  generalize szL (lenF (tariffF r0)) (1048576) = l0 at hbd0 hle0 ⊢
  obtain ⟨hp0, hq0⟩ := hbd0
  by_cases hc0 : l0 < 0
  · go_wp2
    go_ret
    exact ⟨rfl, hy⟩
  have hb0 : ∀ n ∈ lenF (tariffF r0), n ≤ 1048576 := fun n hn => by have := hle0 (by omega) n hn; omega
  clear hle0
  have hB0 := hb0
  rw [tariffF_len] at hB0
  have b0_0 : r0.Prices.length ≤ 1048576 := hB0 _ (by simp)
  clear hB0
  have hs00 := hy.size
  have hsA0 := bA0.lt
  have hN : (cheapPeriods r0.Prices z1).length ≤ 1048576 := Nat.le_trans (cheapPeriods_le _ _) b0_0
  go_wp2_with fail
  refine (toTariff_m r0 [.slice A0_0 r0.Prices.length c0_0] _ ⟨_, _, _, rfl, p0r0.ext hy, p0n0, p0m0, rfl⟩ hb0).mono ?_
  rintro e w2 ⟨ua, rfl, ta, hx2⟩
  replace hy := hy.trans hx2
  replace bA0 := bA0.ext hx2
  have cbA0_2 := fun o => bA0.cell o
  have hs2 := Ext.size hx2
  try simp only [World.size_alloc] at hs2
  obtain ⟨Aa_0, ca_0, _, qa_0, rfl, oa_0, la_0, rfl, lea⟩ := ta
  have ta : AggAt w2 (tariffF r0) [.slice Aa_0 r0.Prices.length ca_0] _ _ := ⟨_, _, _, qa_0, rfl, oa_0, la_0, rfl, lea⟩
  try simp only [World.size_alloc] at ta
  clear oa_0 la_0
  clear lea
  go_wp2_with fail
  refine ((specCheapPeriods_any _ _ _ r0.Prices z1 _ rfl ta.tariff (by unfold maxLen; omega)).mono fun _ _ h => h.mine).mono ?_
  rintro e w3 ⟨Aw, cw, rfl, tw, hx3⟩
  replace hy := hy.trans hx3
  replace bA0 := bA0.ext hx3
  replace ta := ta.ext hx3
  have cbA0_3 := fun o => bA0.cell o
  have hs3 := Ext.size hx3
  try simp only [World.size_alloc] at hs3
  try simp only [World.size_alloc] at tw
  clear ta
  go_wp2_with fail
  refine (toTariff_m r0 [.slice A0_0 r0.Prices.length c0_0] _ ⟨_, _, _, rfl, p0r0.ext hy, p0n0, p0m0, rfl⟩ hb0).mono ?_
  rintro e w4 ⟨ux, rfl, tx, hx4⟩
  replace hy := hy.trans hx4
  replace bA0 := bA0.ext hx4
  replace tw := tw.ext hx4
  have cbA0_4 := fun o => bA0.cell o
  have hs4 := Ext.size hx4
  try simp only [World.size_alloc] at hs4
  obtain ⟨Ax_0, cx_0, _, qx_0, rfl, ox_0, lx_0, rfl, lex⟩ := tx
  have tx : AggAt w4 (tariffF r0) [.slice Ax_0 r0.Prices.length cx_0] _ _ := ⟨_, _, _, qx_0, rfl, ox_0, lx_0, rfl, lex⟩
  try simp only [World.size_alloc] at tx
  clear ox_0 lx_0
  clear lex
  have bX := Blk.new w4 27 #[.slice Ax_0 r0.Prices.length cx_0]
  have ha4 := (Ext.refl w4).alloc (.cells #[.slice Ax_0 r0.Prices.length cx_0] 27)
  replace hy := hy.trans ha4
  replace bA0 := bA0.ext ha4
  replace tw := tw.ext ha4
  replace tx := tx.ext ha4
  have cbA0_5 := fun o => bA0.cell o
  have hsX : w4.heap.size ≤ w4.heap.size := Nat.le_refl _
  go_wp2_with fail
  refine ((implCheapPeriods_any _ _ _ r0.Prices z1 _ rfl tx.tariff (by unfold maxLen; omega)).mono fun _ _ h => h.mine).mono ?_
  rintro e w5 ⟨Ag, cg, rfl, tg, hx5⟩
  replace hy := hy.trans hx5
  replace bA0 := bA0.ext hx5
  replace tw := tw.ext hx5
  replace tx := tx.ext hx5
  replace bX := bX.ext hx5
  have cbA0_6 := fun o => bA0.cell o
  have cbX_7 := fun o => bX.cell o
  have hs5 := Ext.size hx5
  try simp only [World.size_alloc] at hs5
  try simp only [World.size_alloc] at tg
  go_wp2_with fail
  refine (eqIntS_same _ _ _ _ _ (cheapPeriods r0.Prices z1) _ rfl tg.row tw.row (by unfold maxLen; omega)).mono ?_
  rintro e w6 ⟨rfl, hx6⟩
  replace hy := hy.trans hx6
  replace bA0 := bA0.ext hx6
  replace tw := tw.ext hx6
  replace tx := tx.ext hx6
  replace bX := bX.ext hx6
  replace tg := tg.ext hx6
  have cbA0_8 := fun o => bA0.cell o
  have cbX_9 := fun o => bX.cell o
  have hs6 := Ext.size hx6
  try simp only [World.size_alloc] at hs6
  have hrowA : AggRow (w6) (tariffF r0) [.slice A0_0 r0.Prices.length c0_0] := ⟨_, _, _, rfl, p0r0.ext hy, p0n0, p0m0, rfl⟩
  go_wp2_with fail
  have hcur := Ext.refl (w6)
  go_region_held3 (fun w' => w'.cell? ⟨w4.heap.size, 0, none⟩ = some (.slice Ax_0 r0.Prices.length cx_0) ∧ w'.cell? ⟨w.heap.size, 0, none⟩ = some (.slice A0_0 r0.Prices.length c0_0))
    (go_keep)
    (first
      | (go_at_call 6; (with_reducible refine (toTariff_m r0 [.slice A0_0 r0.Prices.length c0_0] _ (by first | exact hrowA.ext hcur | exact hrowA.ext hcur.drew) hb0).mono ?_); rintro e w9 ⟨us9, rfl, hat9, hx9⟩; replace hcur := Ext.trans (by first | exact hcur | exact hcur.drew) hx9; have cX9 := fun o => (bX.ext hcur).cell o; have cA9 := fun o => (bA0.ext hcur).cell o; have hrow9 := hat9.rows)
      | (go_at_call 9; (with_reducible refine (eqTariff_same r0 [.slice Ax_0 r0.Prices.length cx_0] us9 _ (by exact tx.rows.ext hcur) (by exact hrow9)).mono ?_); rintro e w9 ⟨rfl, hx9⟩; replace hcur := Ext.trans (by first | exact hcur | exact hcur.drew) hx9; have cX9 := fun o => (bX.ext hcur).cell o; have cA9 := fun o => (bA0.ext hcur).cell o))
  replace hy := hy.trans hcur
  replace bA0 := bA0.ext hcur
  replace tw := tw.ext hcur
  replace tx := tx.ext hcur
  replace bX := bX.ext hcur
  replace tg := tg.ext hcur
  have cbA0_10 := fun o => bA0.cell o
  have cbX_11 := fun o => bX.cell o
  have hsH6 := Ext.size hcur
  clear hcur
  have hcn7 : cntF (tariffF r0) = r0.Prices.length * 1 := by simp only [tariffF, cntF, intF]; omega
  have hcb7 : cntF (tariffF r0) ≤ 100000000 := by omega
  clear hcn7
  go_wp2_with fail
  refine (markTariff_m r0 [.slice Ax_0 r0.Prices.length cx_0] _ _ _ _ tx (by omega) (by omega) (by omega)).mono ?_
  rintro e w7 ⟨rfl, txq, k7⟩
  replace hy := hy.touch k7 (by omega)
  replace bA0 := bA0.touch k7 (by omega)
  have dbA0_1 := fun o => bA0.cell o
  replace tw := tw.touch k7 (by omega)
  replace bX := bX.touch k7 (by omega)
  have dbX_2 := fun o => bX.cell o
  replace tg := tg.touch k7 (by omega)
  have hsk7 := k7.size
  try simp only [World.size_alloc] at hsk7
  clear tx txq
  generalize cntF (tariffF r0) = kc7 at hcb7 ⊢
  go_wp2_with fail
  refine (eqIntS_same _ _ _ _ _ (cheapPeriods r0.Prices z1) _ rfl tg.row tw.row (by unfold maxLen; omega)).mono ?_
  rintro e w8 ⟨rfl, hx8⟩
  replace hy := hy.trans hx8
  replace bA0 := bA0.ext hx8
  replace tw := tw.ext hx8
  replace bX := bX.ext hx8
  replace tg := tg.ext hx8
  have cbA0_12 := fun o => bA0.cell o
  have cbX_13 := fun o => bX.cell o
  have hs8 := Ext.size hx8
  try simp only [World.size_alloc] at hs8
  go_wp2_with fail
  refine (markIntS_m _ _ _ _ _ _ _ _ tg (by omega) (by omega) (by omega)).mono ?_
  rintro e w9 ⟨rfl, tgq, k9⟩
  replace hy := hy.touch k9 (by omega)
  replace bA0 := bA0.touch k9 (by omega)
  have dbA0_3 := fun o => bA0.cell o
  replace tw := tw.touch k9 (by omega)
  replace bX := bX.touch k9 (by omega)
  have dbX_4 := fun o => bX.cell o
  have hsk9 := k9.size
  try simp only [World.size_alloc] at hsk9
  clear tg
  go_wp2_with fail
  refine (heldIntS_m _ _ _ _ _ tgq.row (by omega) (by omega) (by omega)).mono ?_
  rintro e w' ⟨rfl, rfl⟩
  go_wp2_with fail
  refine (toTariff_m r0 [.slice A0_0 r0.Prices.length c0_0] _ ⟨_, _, _, rfl, p0r0.ext hy, p0n0, p0m0, rfl⟩ hb0).mono ?_
  rintro e w10 ⟨uy, rfl, ty, hx10⟩
  replace hy := hy.trans hx10
  replace bA0 := bA0.ext hx10
  replace tw := tw.ext hx10
  replace bX := bX.ext hx10
  replace tgq := tgq.ext hx10
  have cbA0_14 := fun o => bA0.cell o
  have cbX_15 := fun o => bX.cell o
  have hs10 := Ext.size hx10
  try simp only [World.size_alloc] at hs10
  obtain ⟨Ay_0, cy_0, _, qy_0, rfl, oy_0, ly_0, rfl, ley⟩ := ty
  have ty : AggAt w10 (tariffF r0) [.slice Ay_0 r0.Prices.length cy_0] _ _ := ⟨_, _, _, qy_0, rfl, oy_0, ly_0, rfl, ley⟩
  try simp only [World.size_alloc] at ty
  clear oy_0 ly_0
  clear ley
  go_wp2_with fail
  refine ((implCheapPeriods_any _ _ _ r0.Prices z1 _ rfl ty.tariff (by unfold maxLen; omega)).mono fun _ _ h => h.mine).mono ?_
  rintro e w11 ⟨Ah, ch, rfl, th, hx11⟩
  replace hy := hy.trans hx11
  replace bA0 := bA0.ext hx11
  replace tw := tw.ext hx11
  replace bX := bX.ext hx11
  replace tgq := tgq.ext hx11
  replace ty := ty.ext hx11
  have cbA0_16 := fun o => bA0.cell o
  have cbX_17 := fun o => bX.cell o
  have hs11 := Ext.size hx11
  try simp only [World.size_alloc] at hs11
  try simp only [World.size_alloc] at th
  go_wp2_with fail
  refine (eqIntS_same _ _ _ _ _ (cheapPeriods r0.Prices z1) _ rfl th.row tw.row (by unfold maxLen; omega)).mono ?_
  rintro e w12 ⟨rfl, hx12⟩
  replace hy := hy.trans hx12
  replace bA0 := bA0.ext hx12
  replace tw := tw.ext hx12
  replace bX := bX.ext hx12
  replace tgq := tgq.ext hx12
  replace ty := ty.ext hx12
  replace th := th.ext hx12
  have cbA0_18 := fun o => bA0.cell o
  have cbX_19 := fun o => bX.cell o
  have hs12 := Ext.size hx12
  try simp only [World.size_alloc] at hs12
  go_wp2_with fail
  refine (heldIntS_m _ _ _ _ _ tgq.row (by omega) (by omega) (by omega)).mono ?_
  rintro e w' ⟨rfl, rfl⟩
  go_wp2
  go_ret
  exact ⟨rfl, hy⟩

namespace lFnExactCheapPeriods
set_option maxRecDepth 100000 in
theorem lifted (os : Os) (started : os.Started) (H : Type) (enc : TypeId × Value → H) :
    ReturnsInHanded {} Try.checked os 3 .any (Rows.fnExactCheapPeriodsSpec.pre6 enc Try.prog Try.f3 Rows.fnExactCheapPeriodsRow.domain false) (Rows.fnExactCheapPeriodsSpec.post enc Try.prog Try.f3 false true false false) := by
  refine returnsInHanded_of_change (C := Try.checked) own started (by kernel_rfl) Try.func3
    (ChangeSpec.witness6 (enc := enc) (C := Try.checked) false ⟨#[], #[.agg #[.slice none 0 0], .int .i64 0], []⟩ 8 (by kernel_rfl) (by kernel_rfl) (by kernel_rfl) (by kernel_rfl)) ?_
  intro W base args ds gs before hval0 hW _ _
  have hval : ∀ (j : Nat) t v, Try.f3.params[j]? = some t → args[j]? = some v → Value.okWide Try.prog W .any base t v := hval0
  have hW' := hW
  obtain ⟨p, q, hA0, hV, rfl, _, _⟩ := hW
  have hA : DataW.TrodAll enc Try.prog W 0 (fun _ => true) true Try.f3.params.toList args.toList ds p := hA0
  rw [Try.params3] at hA hval
  obtain ⟨v0, vs0, d0, ds0, p0, q0, hargs, rfl, rfl, h0, r0⟩ := trodAll_cons hA
  obtain ⟨v1, vs1, d1, ds1, p1, q1, rfl, rfl, rfl, h1, r1⟩ := trodAll_cons r0
  obtain ⟨rfl, rfl, rfl⟩ := trodAll_nil r1
  obtain rfl : args = #[v0, v1] := by cases args; simp_all
  obtain ⟨rfl, rfl⟩ := trodVars_none hV
  have hv0 := hval 0 24 v0 rfl rfl
  have hv1 := hval 1 3 v1 rfl rfl
  clear hA0 hval hval0
  obtain ⟨vs0, rfl, hk0⟩ := openArg_mix (n := 8) Try.underlying24 (by kernel_rfl) hv0 h0
  obtain ⟨m0, ha0, hI0⟩ := tariffF_open hk0
  obtain ⟨z1, rfl, hz1⟩ := openArg_int Try.underlying3 hv1 h1
  refine (lawCheapPeriods m0 vs0 z1 W ha0 hI0 hz1).mono fun e W' ⟨he, hx⟩ => ?_
  subst he
  exact ⟨_, rfl, law_post (tb := 4) laidOut (by kernel_rfl) rfl Try.underlying4 rfl hW' rfl rfl rfl hx⟩
theorem over : Rows.fnExactCheapPeriodsRow.holds Try.pinned (OpenSpec.ofChange Rows.fnExactCheapPeriodsSpec) :=
  OpenClaim.holds_of_wide 3 Try.f3 rfl rfl rfl rfl rfl rfl rfl ⟨rfl, rfl, rfl, rfl, rfl⟩ rfl rfl rfl rfl rfl (by kernel_rfl) Try.func3 (by kernel_rfl)
    (of_decide_eq_true (by kernel_rfl)) (by unfold Func.isWrapper; first | (rw [if_pos (by decide +kernel)]; kernel_rfl) | (rw [if_neg (by decide +kernel)]; exact ⟨rfl, rfl⟩))
    (fun os started H enc _ => lifted os started H enc)
theorem proved : Rows.FnExactCheapPeriodsSaid := over
end lFnExactCheapPeriods
end Go.Proofs.Ytdkgcaifagigfaa
