/- The law FnExactInfluenceOf returns true for all arguments: InfluenceOf of the program and of the reference give the same fractions. No condition beyond the row's own. -/
import Derived.Test.YtnkkfjlnjhmahaaHz
import Derived.Test.YtnkkfjlnjhmahaaIf
import Derived.Test.YtnkkfjlnjhmahaaRows
import Derived.Test.YtnkkfjlnjhmahaaMn
import Derived.Test.YtnkkfjlnjhmahaaMRegion
import Derived.Deep.RegionHeld3
namespace Go.Proofs.Ytnkkfjlnjhmahaa
open Go.ChangeShapes Go.WideShapes Go.ChangeAt Go.RowKit
set_option linter.unusedVariables false
set_option maxRecDepth 100000

set_option maxHeartbeats 4000000 in
theorem lawInfluenceOf (r0 : List Half) (vs0 : List Value) (w : World) (h0 : AggRow w (regionF r0) vs0) (hI0 : regionFI r0) (g : Int) (hg : I64 g) :
    Calls Try.prog 4 #[.agg vs0.toArray, .int .i64 g] w fun e w' => e = .returned (.bool true) ∧ Ext w w' := by
  obtain ⟨A0_0, c0_0, _, rfl, p0r0, p0n0, p0m0, rfl⟩ := h0
  have hy : Ext w (w.alloc (.cells #[.slice A0_0 r0.length c0_0] 41)) := by repeat (first | exact Ext.refl _ | refine Ext.alloc ?_ _)
  have bA0 : Blk (w.alloc (.cells #[.slice A0_0 r0.length c0_0] 41)) (w.heap.size) 41 #[.slice A0_0 r0.length c0_0] := by
    have q := Blk.new w 41 #[.slice A0_0 r0.length c0_0]
    simpa only [World.size_alloc] using q
  go_enter Try.func4, Try.ntmps4
  go_wp2_with fail
  refine (szRegion_m r0 [.slice A0_0 r0.length c0_0] (1048576) _ ⟨_, _, _, rfl, p0r0.ext hy, p0n0, p0m0, rfl⟩ (by omega) (by omega)).mono ?_
  rintro e w1 ⟨rfl, hx1⟩
  replace hy := hy.trans hx1
  replace bA0 := bA0.ext hx1
  have cbA0_1 := fun o => bA0.cell o
  have hbd0 := szL_bd (lenF (regionF r0)) (1048576) (by omega)
  have hle0 := szL_le (lenF (regionF r0)) (1048576)
  generalize szL (lenF (regionF r0)) (1048576) = l0 at hbd0 hle0 ⊢
  obtain ⟨hp0, hq0⟩ := hbd0
  by_cases hc0 : l0 < 0
  · go_wp2
    go_ret
    exact ⟨rfl, hy⟩
  have hb0 : ∀ n ∈ lenF (regionF r0), n ≤ 1048576 := fun n hn => by have := hle0 (by omega) n hn; omega
  clear hle0
  have hB0 := hb0
  rw [regionF_len] at hB0
  have b0_0 : r0.length ≤ 1048576 := hB0 _ (by simp)
  clear hB0
  have hs00 := hy.size
  have hsA0 := bA0.lt
  go_wp2_with fail
  refine (toRegion_m r0 [.slice A0_0 r0.length c0_0] _ ⟨_, _, _, rfl, p0r0.ext hy, p0n0, p0m0, rfl⟩ hb0).mono ?_
  rintro e w2 ⟨ua, rfl, ta, hx2⟩
  replace hy := hy.trans hx2
  replace bA0 := bA0.ext hx2
  have cbA0_2 := fun o => bA0.cell o
  have hs2 := Ext.size hx2
  try simp only [World.size_alloc] at hs2
  obtain ⟨Aa_0, ca_0, _, qa_0, rfl, oa_0, la_0, rfl, lea⟩ := ta
  have ta : AggAt w2 (regionF r0) [.slice Aa_0 r0.length ca_0] _ _ := ⟨_, _, _, qa_0, rfl, oa_0, la_0, rfl, lea⟩
  try simp only [World.size_alloc] at ta
  clear oa_0 la_0
  clear lea
  go_wp2_with fail
  refine (specInfluenceOf_any _ _ _ g r0 _ rfl ta.rows_of (regionAt_none ta) hI0 (by unfold maxLen; omega) hg).mono ?_
  rintro e w3 ⟨rfl, hx3⟩
  replace hy := hy.trans hx3
  replace bA0 := bA0.ext hx3
  replace ta := ta.ext hx3
  have cbA0_3 := fun o => bA0.cell o
  have hs3 := Ext.size hx3
  try simp only [World.size_alloc] at hs3
  obtain ⟨R, hR⟩ : ∃ R, infR r0 g = R := ⟨_, rfl⟩
  rw [hR]
  have HRr := Lib.hid hR
  clear hR
  obtain ⟨⟨pN, pD⟩, ⟨qN, qD⟩, k⟩ := R
  dsimp only
  have b1 := (Blk.new w3 44 #[.int .i64 pN, .int .i64 pD]).alloc (.cells #[.int .i64 qN, .int .i64 qD] 44)
  have b2 := Blk.new (w3.alloc (.cells #[.int .i64 pN, .int .i64 pD] 44)) 44 #[.int .i64 qN, .int .i64 qD]
  simp only [World.size_alloc] at b2
  have hA3 : Ext w3 ((w3.alloc (.cells #[.int .i64 pN, .int .i64 pD] 44)).alloc (.cells #[.int .i64 qN, .int .i64 qD] 44)) := ((Ext.refl w3).alloc _).alloc _
  replace hy := hy.trans hA3
  replace bA0 := bA0.ext hA3
  replace ta := ta.ext hA3
  have cbA0_4 := fun o => bA0.cell o
  go_wp2_with fail
  refine (toRegion_m r0 [.slice A0_0 r0.length c0_0] _ ⟨_, _, _, rfl, p0r0.ext hy, p0n0, p0m0, rfl⟩ hb0).mono ?_
  rintro e w4 ⟨ux, rfl, tx, hx4⟩
  replace hy := hy.trans hx4
  replace bA0 := bA0.ext hx4
  replace ta := ta.ext hx4
  replace b1 := b1.ext hx4
  replace b2 := b2.ext hx4
  have cbA0_5 := fun o => bA0.cell o
  have cb1_6 := fun o => b1.cell o
  have cb2_7 := fun o => b2.cell o
  have hs4 := Ext.size hx4
  try simp only [World.size_alloc] at hs4
  obtain ⟨Ax_0, cx_0, _, qx_0, rfl, ox_0, lx_0, rfl, lex⟩ := tx
  have tx : AggAt w4 (regionF r0) [.slice Ax_0 r0.length cx_0] _ _ := ⟨_, _, _, qx_0, rfl, ox_0, lx_0, rfl, lex⟩
  try simp only [World.size_alloc] at tx
  clear ox_0 lx_0
  clear lex
  have bX := Blk.new w4 25 #[.slice Ax_0 r0.length cx_0]
  have ha4 := (Ext.refl w4).alloc (.cells #[.slice Ax_0 r0.length cx_0] 25)
  replace hy := hy.trans ha4
  replace bA0 := bA0.ext ha4
  replace ta := ta.ext ha4
  replace b1 := b1.ext ha4
  replace b2 := b2.ext ha4
  replace tx := tx.ext ha4
  have cbA0_8 := fun o => bA0.cell o
  have cb1_9 := fun o => b1.cell o
  have cb2_10 := fun o => b2.cell o
  have hsX : w4.heap.size ≤ w4.heap.size := Nat.le_refl _
  go_wp2_with fail
  refine (implInfluenceOf_any _ _ _ g r0 _ rfl tx.rows_of hI0 (by unfold maxLen; omega) hg).mono ?_
  rintro e w5 ⟨rfl, hx5⟩
  replace hy := hy.trans hx5
  replace bA0 := bA0.ext hx5
  replace ta := ta.ext hx5
  replace b1 := b1.ext hx5
  replace b2 := b2.ext hx5
  replace tx := tx.ext hx5
  replace bX := bX.ext hx5
  have cbA0_11 := fun o => bA0.cell o
  have cb1_12 := fun o => b1.cell o
  have cb2_13 := fun o => b2.cell o
  have cbX_14 := fun o => bX.cell o
  have hs5 := Ext.size hx5
  try simp only [World.size_alloc] at hs5
  rw [HRr.out]
  dsimp only
  have b3 := (Blk.new w5 44 #[.int .i64 pN, .int .i64 pD]).alloc (.cells #[.int .i64 qN, .int .i64 qD] 44)
  have b4 := Blk.new (w5.alloc (.cells #[.int .i64 pN, .int .i64 pD] 44)) 44 #[.int .i64 qN, .int .i64 qD]
  simp only [World.size_alloc] at b4
  have hA5 : Ext w5 ((w5.alloc (.cells #[.int .i64 pN, .int .i64 pD] 44)).alloc (.cells #[.int .i64 qN, .int .i64 qD] 44)) := ((Ext.refl w5).alloc _).alloc _
  replace hy := hy.trans hA5
  replace bA0 := bA0.ext hA5
  replace ta := ta.ext hA5
  replace b1 := b1.ext hA5
  replace b2 := b2.ext hA5
  replace tx := tx.ext hA5
  replace bX := bX.ext hA5
  have cbA0_15 := fun o => bA0.cell o
  have cb1_16 := fun o => b1.cell o
  have cb2_17 := fun o => b2.cell o
  have cbX_18 := fun o => bX.cell o
  have HE1 : Hid (∀ w, Calls Try.prog 14 #[.agg #[.int .i64 pN, .int .i64 pD], .agg #[.int .i64 pN, .int .i64 pD]] w fun e w' => e = .returned (.bool true) ∧ Ext w w') := fun w => (eqRatio_any pN pD pN pD w).mono fun e w' h => ⟨h.1.trans (ret_true (by simp)), h.2⟩
  have HE2 : Hid (∀ w, Calls Try.prog 14 #[.agg #[.int .i64 qN, .int .i64 qD], .agg #[.int .i64 qN, .int .i64 qD]] w fun e w' => e = .returned (.bool true) ∧ Ext w w') := fun w => (eqRatio_any qN qD qN qD w).mono fun e w' h => ⟨h.1.trans (ret_true (by simp)), h.2⟩
  have hk : (k != k) = false := by simp
  go_wp2_with fail
  refine (HE1.out _).mono ?_
  rintro e w6 ⟨rfl, hx6⟩
  replace hy := hy.trans hx6
  replace bA0 := bA0.ext hx6
  replace ta := ta.ext hx6
  replace b1 := b1.ext hx6
  replace b2 := b2.ext hx6
  replace tx := tx.ext hx6
  replace bX := bX.ext hx6
  replace b3 := b3.ext hx6
  replace b4 := b4.ext hx6
  have cbA0_19 := fun o => bA0.cell o
  have cb1_20 := fun o => b1.cell o
  have cb2_21 := fun o => b2.cell o
  have cbX_22 := fun o => bX.cell o
  have cb3_23 := fun o => b3.cell o
  have cb4_24 := fun o => b4.cell o
  go_wp2_with fail
  refine (HE2.out _).mono ?_
  rintro e w7 ⟨rfl, hx7⟩
  replace hy := hy.trans hx7
  replace bA0 := bA0.ext hx7
  replace ta := ta.ext hx7
  replace b1 := b1.ext hx7
  replace b2 := b2.ext hx7
  replace tx := tx.ext hx7
  replace bX := bX.ext hx7
  replace b3 := b3.ext hx7
  replace b4 := b4.ext hx7
  have cbA0_25 := fun o => bA0.cell o
  have cb1_26 := fun o => b1.cell o
  have cb2_27 := fun o => b2.cell o
  have cbX_28 := fun o => bX.cell o
  have cb3_29 := fun o => b3.cell o
  have cb4_30 := fun o => b4.cell o
  have hrowA : AggRow (w7) (regionF r0) [.slice A0_0 r0.length c0_0] := ⟨_, _, _, rfl, p0r0.ext hy, p0n0, p0m0, rfl⟩
  go_wp2_with fail
  have hcur := Ext.refl (w7)
  go_region_held3 (fun w' => w'.cell? ⟨w4.heap.size, 0, none⟩ = some (.slice Ax_0 r0.length cx_0) ∧ w'.cell? ⟨w.heap.size, 0, none⟩ = some (.slice A0_0 r0.length c0_0))
    (go_keep)
    (first
      | (go_at_call 12; (with_reducible refine (toRegion_m r0 [.slice A0_0 r0.length c0_0] _ (by first | exact hrowA.ext hcur | exact hrowA.ext hcur.drew) hb0).mono ?_); rintro e w9 ⟨us9, rfl, hat9, hx9⟩; replace hcur := Ext.trans (by first | exact hcur | exact hcur.drew) hx9; have cX9 := fun o => (bX.ext hcur).cell o; have cA9 := fun o => (bA0.ext hcur).cell o; have hrow9 := hat9.rows)
      | (go_at_call 15; (with_reducible refine (eqRegion_same r0 [.slice Ax_0 r0.length cx_0] us9 _ (by exact tx.rows.ext hcur) (by exact hrow9)).mono ?_); rintro e w9 ⟨rfl, hx9⟩; replace hcur := Ext.trans (by first | exact hcur | exact hcur.drew) hx9; have cX9 := fun o => (bX.ext hcur).cell o; have cA9 := fun o => (bA0.ext hcur).cell o))
  replace hy := hy.trans hcur
  replace bA0 := bA0.ext hcur
  replace ta := ta.ext hcur
  replace b1 := b1.ext hcur
  replace b2 := b2.ext hcur
  replace tx := tx.ext hcur
  replace bX := bX.ext hcur
  replace b3 := b3.ext hcur
  replace b4 := b4.ext hcur
  have cbA0_31 := fun o => bA0.cell o
  have cb1_32 := fun o => b1.cell o
  have cb2_33 := fun o => b2.cell o
  have cbX_34 := fun o => bX.cell o
  have cb3_35 := fun o => b3.cell o
  have cb4_36 := fun o => b4.cell o
  have hsH5 := Ext.size hcur
  clear hcur
  go_wp2
  go_ret
  exact ⟨rfl, hy⟩

namespace lFnExactInfluenceOf
set_option maxRecDepth 100000 in
theorem lifted (os : Os) (started : os.Started) (H : Type) (enc : TypeId × Value → H) :
    ReturnsInHanded {} Try.checked os 4 .any (Rows.fnExactInfluenceOfSpec.pre6 enc Try.prog Try.f4 Rows.fnExactInfluenceOfRow.domain false) (Rows.fnExactInfluenceOfSpec.post enc Try.prog Try.f4 false true false false) := by
  refine returnsInHanded_of_change (C := Try.checked) own started (by kernel_rfl) Try.func4
    (ChangeSpec.witness6 (enc := enc) (C := Try.checked) false ⟨#[], #[.agg #[.slice none 0 0], .int .i64 0], []⟩ 8 (by kernel_rfl) (by kernel_rfl) (by kernel_rfl) (by kernel_rfl)) ?_
  intro W base args ds gs before hval0 hW _ _
  have hval : ∀ (j : Nat) t v, Try.f4.params[j]? = some t → args[j]? = some v → Value.okWide Try.prog W .any base t v := hval0
  have hW' := hW
  obtain ⟨p, q, hA0, hV, rfl, _, _⟩ := hW
  have hA : DataW.TrodAll enc Try.prog W 0 (fun _ => true) true Try.f4.params.toList args.toList ds p := hA0
  rw [Try.params4] at hA hval
  obtain ⟨v0, vs0, d0, ds0, p0, q0, hargs, rfl, rfl, h0, r0⟩ := trodAll_cons hA
  obtain ⟨v1, vs1, d1, ds1, p1, q1, rfl, rfl, rfl, h1, r1⟩ := trodAll_cons r0
  obtain ⟨rfl, rfl, rfl⟩ := trodAll_nil r1
  obtain rfl : args = #[v0, v1] := by cases args; simp_all
  obtain ⟨rfl, rfl⟩ := trodVars_none hV
  have hv0 := hval 0 41 v0 rfl rfl
  have hv1 := hval 1 3 v1 rfl rfl
  clear hA0 hval hval0
  obtain ⟨vs0, rfl, hk0⟩ := openArg_mix (n := 8) Try.underlying41 (by kernel_rfl) hv0 h0
  obtain ⟨m0, ha0, hI0⟩ := regionF_open hk0
  obtain ⟨z, rfl, hz⟩ := openArg_int Try.underlying3 hv1 h1
  refine (lawInfluenceOf m0 vs0 W ha0 hI0 z hz).mono fun e W' ⟨he, hx⟩ => ?_
  subst he
  exact ⟨_, rfl, law_post (tb := 4) laidOut (by kernel_rfl) rfl Try.underlying4 rfl hW' rfl rfl rfl hx⟩
theorem over : Rows.fnExactInfluenceOfRow.holds Try.pinned (OpenSpec.ofChange Rows.fnExactInfluenceOfSpec) :=
  OpenClaim.holds_of_wide 4 Try.f4 rfl rfl rfl rfl rfl rfl rfl ⟨rfl, rfl, rfl, rfl, rfl⟩ rfl rfl rfl rfl rfl (by kernel_rfl) Try.func4 (by kernel_rfl)
    (of_decide_eq_true (by kernel_rfl)) (by unfold Func.isWrapper; first | (rw [if_pos (by decide +kernel)]; kernel_rfl) | (rw [if_neg (by decide +kernel)]; exact ⟨rfl, rfl⟩))
    (fun os started H enc _ => lifted os started H enc)
theorem proved : Rows.FnExactInfluenceOfSaid := over
end lFnExactInfluenceOf
end Go.Proofs.Ytnkkfjlnjhmahaa
