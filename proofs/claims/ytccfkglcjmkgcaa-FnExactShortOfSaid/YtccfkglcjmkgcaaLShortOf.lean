/- The law FnExactShortOf returns true for all arguments: ShortOf of the program and of the reference compute one function. No condition. -/
import Derived.Test.YtccfkglcjmkgcaaOpen
import Derived.Test.YtccfkglcjmkgcaaJ
namespace Go.Proofs.Ytccfkglcjmkgcaa
open Go.ChangeShapes Go.WideShapes Go.ChangeAt Go.RowKit
set_option linter.unusedVariables false

set_option maxHeartbeats 2000000 in
theorem lawShortOf (A0 : Option Addr) (n0 c0 : Nat) (xs0 : List Ask) (A1 : Option Addr) (n1 c1 : Nat) (xs1 : List Int) (w : World) (hn0 : xs0.length = n0) (hr0 : Row w A0 (ints (flat Ask.ints xs0))) (hle0 : n0 ≤ maxLen) (hn1 : xs1.length = n1) (hr1 : Row w A1 (ints xs1)) (hle1 : n1 ≤ maxLen) :
    Calls Try.prog 12 #[.slice A0 n0 c0, .slice A1 n1 c1] w fun e w' => e = .returned (.bool true) ∧ Ext w w' := by
  have hy := Ext.refl w
  have Hle0 := Lib.hid hle0
  unfold maxLen at hle0
  have Hle1 := Lib.hid hle1
  unfold maxLen at hle1
  have hr00 := hr0
  have hr10 := hr1
  by_cases hbig1 : n1 ≤ 1048576
  rotate_left
  · go_enter Try.func12, Try.ntmps12
    go_wp2
    go_ret
    exact ⟨rfl, hy⟩
  have hbj1 : ¬ (1048576 : Int) < (n1 : Int) := by omega
  go_enter Try.func12, Try.ntmps12
  go_wp2_with fail
  refine (szAskS_any _ _ _ _ _ (by omega) (by omega) Hle0.out).mono ?_
  rintro e w' ⟨rfl, rfl⟩
  by_cases hbig0 : n0 ≤ 1048576
  rotate_left
  · rw [szI_neg (by omega)]
    go_wp2
    go_ret
    exact ⟨rfl, hy⟩
  rw [szI_pos (by omega)]
  have hbj0 : ¬ 1048576 - (n0 : Int) < 0 := by omega
  have hL := shortOf_len xs0 xs1
  go_wp2_with fail
  refine (toAskS_any _ _ _ xs0 _ hn0 hr0 hbig0).mono ?_
  rintro e w1 ⟨g1, rfl, ho1, hx1⟩
  replace hy := hy.trans hx1
  replace hr0 := hr0.ext hx1
  replace hr1 := hr1.ext hx1
  have HI1 := Lib.hid (fun g (hg : Value.ownBlock (.slice (some ⟨g1, 0, none⟩) n0 n0) = some g) => own_lt ho1 hg)
  have hsz1 := Ext.size hx1
  go_wp2_with fail
  refine (toIntS_any _ _ _ xs1 _ hn1 hr1 hbig1).mono ?_
  rintro e w2 ⟨g2, rfl, ho2, hx2⟩
  replace hy := hy.trans hx2
  replace hr0 := hr0.ext hx2
  replace hr1 := hr1.ext hx2
  replace ho1 := own_ext ho1 hx2
  have HI2 := Lib.hid (fun g (hg : Value.ownBlock (.slice (some ⟨g2, 0, none⟩) n1 n1) = some g) => own_lt ho2 hg)
  have hsz2 := Ext.size hx2
  go_wp2_with fail
  refine (specShortOf_any _ _ _ _ _ _ xs0 xs1 _ hn0 hn1 (Row.of_own ho1) (Row.of_own ho2) (by unfold maxLen; omega) (by unfold maxLen; omega)).mono ?_
  rintro e w3 ⟨B3, b3, rfl, ho3, hx3⟩
  replace hy := hy.trans hx3
  replace hr0 := hr0.ext hx3
  replace hr1 := hr1.ext hx3
  replace ho1 := own_ext ho1 hx3
  replace ho2 := own_ext ho2 hx3
  have HI3 := Lib.hid (fun g (hg : Value.ownBlock (.slice B3 (shortOf xs0 xs1).length b3) = some g) => own_lt ho3 hg)
  have hsz3 := Ext.size hx3
  clear ho1 ho2
  go_wp2_with fail
  refine (toAskS_any _ _ _ xs0 _ hn0 hr0 hbig0).mono ?_
  rintro e w4 ⟨g4, rfl, ho4, hx4⟩
  replace hy := hy.trans hx4
  replace hr0 := hr0.ext hx4
  replace hr1 := hr1.ext hx4
  replace ho3 := own_ext ho3 hx4
  have HI4 := Lib.hid (fun g (hg : Value.ownBlock (.slice (some ⟨g4, 0, none⟩) n0 n0) = some g) => own_lt ho4 hg)
  have hsz4 := Ext.size hx4
  go_wp2_with fail
  refine (toIntS_any _ _ _ xs1 _ hn1 hr1 hbig1).mono ?_
  rintro e w5 ⟨g5, rfl, ho5, hx5⟩
  replace hy := hy.trans hx5
  replace hr0 := hr0.ext hx5
  replace hr1 := hr1.ext hx5
  replace ho3 := own_ext ho3 hx5
  replace ho4 := own_ext ho4 hx5
  have HI5 := Lib.hid (fun g (hg : Value.ownBlock (.slice (some ⟨g5, 0, none⟩) n1 n1) = some g) => own_lt ho5 hg)
  have hsz5 := Ext.size hx5
  go_wp2_with fail
  refine (implShortOf_any _ _ _ _ _ _ xs0 xs1 _ hn0 hn1 (Row.of_own ho4) (Row.of_own ho5) (by unfold maxLen; omega) (by unfold maxLen; omega)).mono ?_
  rintro e w6 ⟨B6, b6, rfl, ho6, hx6⟩
  replace hy := hy.trans hx6
  replace hr0 := hr0.ext hx6
  replace hr1 := hr1.ext hx6
  replace ho3 := own_ext ho3 hx6
  replace ho4 := own_ext ho4 hx6
  replace ho5 := own_ext ho5 hx6
  have HI6 := Lib.hid (fun g (hg : Value.ownBlock (.slice B6 (shortOf xs0 xs1).length b6) = some g) => own_lt ho6 hg)
  have hsz6 := Ext.size hx6
  go_wp2_with fail
  refine (eqIntS_any _ _ _ _ _ _ (shortOf xs0 xs1) (shortOf xs0 xs1) _ rfl rfl (Row.of_own ho6) (Row.of_own ho3) (by unfold maxLen; omega) (by unfold maxLen; omega)).mono ?_
  rintro e w7 ⟨rfl, hx7⟩
  replace hy := hy.trans hx7
  replace hr0 := hr0.ext hx7
  replace hr1 := hr1.ext hx7
  replace ho3 := own_ext ho3 hx7
  replace ho4 := own_ext ho4 hx7
  replace ho5 := own_ext ho5 hx7
  replace ho6 := own_ext ho6 hx7
  have hsz7 := Ext.size hx7
  simp only [decide_true]
  go_wp2_with fail
  refine (toAskS_any _ _ _ xs0 _ hn0 hr0 hbig0).mono ?_
  rintro e w8 ⟨g8, rfl, ho8, hx8⟩
  replace hy := hy.trans hx8
  replace hr0 := hr0.ext hx8
  replace hr1 := hr1.ext hx8
  replace ho3 := own_ext ho3 hx8
  replace ho4 := own_ext ho4 hx8
  replace ho5 := own_ext ho5 hx8
  replace ho6 := own_ext ho6 hx8
  have HI8 := Lib.hid (fun g (hg : Value.ownBlock (.slice (some ⟨g8, 0, none⟩) n0 n0) = some g) => own_lt ho8 hg)
  have hsz8 := Ext.size hx8
  go_wp2_with fail
  refine (eqAskS_any _ _ _ _ _ _ xs0 xs0 _ hn0 hn0 (Row.of_own ho4) (Row.of_own ho8) (by unfold maxLen; omega) (by unfold maxLen; omega)).mono ?_
  rintro e w9 ⟨rfl, hx9⟩
  replace hy := hy.trans hx9
  replace hr0 := hr0.ext hx9
  replace hr1 := hr1.ext hx9
  replace ho3 := own_ext ho3 hx9
  replace ho4 := own_ext ho4 hx9
  replace ho5 := own_ext ho5 hx9
  replace ho6 := own_ext ho6 hx9
  replace ho8 := own_ext ho8 hx9
  have hsz9 := Ext.size hx9
  simp only [decide_true]
  clear ho8
  go_wp2_with fail
  refine (toIntS_any _ _ _ xs1 _ hn1 hr1 hbig1).mono ?_
  rintro e w10 ⟨g10, rfl, ho10, hx10⟩
  replace hy := hy.trans hx10
  replace hr0 := hr0.ext hx10
  replace hr1 := hr1.ext hx10
  replace ho3 := own_ext ho3 hx10
  replace ho4 := own_ext ho4 hx10
  replace ho5 := own_ext ho5 hx10
  replace ho6 := own_ext ho6 hx10
  have HI10 := Lib.hid (fun g (hg : Value.ownBlock (.slice (some ⟨g10, 0, none⟩) n1 n1) = some g) => own_lt ho10 hg)
  have hsz10 := Ext.size hx10
  go_wp2_with fail
  refine (eqIntS_any _ _ _ _ _ _ xs1 xs1 _ hn1 hn1 (Row.of_own ho5) (Row.of_own ho10) (by unfold maxLen; omega) (by unfold maxLen; omega)).mono ?_
  rintro e w11 ⟨rfl, hx11⟩
  replace hy := hy.trans hx11
  replace hr0 := hr0.ext hx11
  replace hr1 := hr1.ext hx11
  replace ho3 := own_ext ho3 hx11
  replace ho4 := own_ext ho4 hx11
  replace ho5 := own_ext ho5 hx11
  replace ho6 := own_ext ho6 hx11
  replace ho10 := own_ext ho10 hx11
  have hsz11 := Ext.size hx11
  simp only [decide_true]
  clear ho10
  go_wp2_with fail
  refine (markAskS_any _ _ _ _ _ _ _ ho4 (by omega) (by omega) (by omega)).mono ?_
  rintro e w12 ⟨rfl, hm12, hk12⟩
  replace hy := hy.only hk12 (fun g hg => by have h1 := HI4.out g hg; omega)
  replace hr0 := hr0.only0 hr00 hk12 (fun g hg => by have h1 := HI4.out g hg; omega)
  replace hr1 := hr1.only0 hr10 hk12 (fun g hg => by have h1 := HI4.out g hg; omega)
  replace ho3 := own_only ho3 hk12 (fun g hg he => by have h1 := HI4.out g hg; have h2 := HI3.out g he; omega)
  replace ho5 := own_only ho5 hk12 (fun g hg he => by have h1 := HI4.out g hg; have h2 := HI5.out g he; omega)
  replace ho6 := own_only ho6 hk12 (fun g hg he => by have h1 := HI4.out g hg; have h2 := HI6.out g he; omega)
  replace ho4 := hm12
  have hsz12 := Only.size hk12
  go_wp2_with fail
  refine (markIntS_any _ _ _ _ _ _ _ ho5 (by omega) (by omega) (by omega)).mono ?_
  rintro e w13 ⟨rfl, hm13, hk13⟩
  replace hy := hy.only hk13 (fun g hg => by have h1 := HI5.out g hg; omega)
  replace hr0 := hr0.only0 hr00 hk13 (fun g hg => by have h1 := HI5.out g hg; omega)
  replace hr1 := hr1.only0 hr10 hk13 (fun g hg => by have h1 := HI5.out g hg; omega)
  replace ho3 := own_only ho3 hk13 (fun g hg he => by have h1 := HI5.out g hg; have h2 := HI3.out g he; omega)
  replace ho4 := own_only ho4 hk13 (fun g hg he => by have h1 := HI5.out g hg; have h2 := HI4.out g he; omega)
  replace ho6 := own_only ho6 hk13 (fun g hg he => by have h1 := HI5.out g hg; have h2 := HI6.out g he; omega)
  replace ho5 := hm13
  have hsz13 := Only.size hk13
  go_wp2_with fail
  refine (eqIntS_any _ _ _ _ _ _ (shortOf xs0 xs1) (shortOf xs0 xs1) _ rfl rfl (Row.of_own ho6) (Row.of_own ho3) (by unfold maxLen; omega) (by unfold maxLen; omega)).mono ?_
  rintro e w14 ⟨rfl, hx14⟩
  replace hy := hy.trans hx14
  replace hr0 := hr0.ext hx14
  replace hr1 := hr1.ext hx14
  replace ho3 := own_ext ho3 hx14
  replace ho4 := own_ext ho4 hx14
  replace ho5 := own_ext ho5 hx14
  replace ho6 := own_ext ho6 hx14
  have hsz14 := Ext.size hx14
  simp only [decide_true]
  go_wp2_with fail
  refine (markIntS_any _ _ _ _ _ _ _ ho6 (by omega) (by omega) (by omega)).mono ?_
  rintro e w15 ⟨rfl, hm15, hk15⟩
  replace hy := hy.only hk15 (fun g hg => by have h1 := HI6.out g hg; omega)
  replace hr0 := hr0.only0 hr00 hk15 (fun g hg => by have h1 := HI6.out g hg; omega)
  replace hr1 := hr1.only0 hr10 hk15 (fun g hg => by have h1 := HI6.out g hg; omega)
  replace ho3 := own_only ho3 hk15 (fun g hg he => by have h1 := HI6.out g hg; have h2 := HI3.out g he; omega)
  replace ho4 := own_only ho4 hk15 (fun g hg he => by have h1 := HI6.out g hg; have h2 := HI4.out g he; omega)
  replace ho5 := own_only ho5 hk15 (fun g hg he => by have h1 := HI6.out g hg; have h2 := HI5.out g he; omega)
  replace ho6 := hm15
  have hsz15 := Only.size hk15
  go_wp2_with fail
  refine (heldIntS_any _ _ _ _ _ (Row.of_own ho6) (by omega) (by omega) (by omega)).mono ?_
  rintro e w' ⟨rfl, rfl⟩
  go_wp2_with fail
  refine (toAskS_any _ _ _ xs0 _ hn0 hr0 hbig0).mono ?_
  rintro e w16 ⟨g16, rfl, ho16, hx16⟩
  replace hy := hy.trans hx16
  replace hr0 := hr0.ext hx16
  replace hr1 := hr1.ext hx16
  replace ho3 := own_ext ho3 hx16
  replace ho4 := own_ext ho4 hx16
  replace ho5 := own_ext ho5 hx16
  replace ho6 := own_ext ho6 hx16
  have HI16 := Lib.hid (fun g (hg : Value.ownBlock (.slice (some ⟨g16, 0, none⟩) n0 n0) = some g) => own_lt ho16 hg)
  have hsz16 := Ext.size hx16
  go_wp2_with fail
  refine (toIntS_any _ _ _ xs1 _ hn1 hr1 hbig1).mono ?_
  rintro e w17 ⟨g17, rfl, ho17, hx17⟩
  replace hy := hy.trans hx17
  replace hr0 := hr0.ext hx17
  replace hr1 := hr1.ext hx17
  replace ho3 := own_ext ho3 hx17
  replace ho4 := own_ext ho4 hx17
  replace ho5 := own_ext ho5 hx17
  replace ho6 := own_ext ho6 hx17
  replace ho16 := own_ext ho16 hx17
  have HI17 := Lib.hid (fun g (hg : Value.ownBlock (.slice (some ⟨g17, 0, none⟩) n1 n1) = some g) => own_lt ho17 hg)
  have hsz17 := Ext.size hx17
  go_wp2_with fail
  refine (implShortOf_any _ _ _ _ _ _ xs0 xs1 _ hn0 hn1 (Row.of_own ho16) (Row.of_own ho17) (by unfold maxLen; omega) (by unfold maxLen; omega)).mono ?_
  rintro e w18 ⟨B18, b18, rfl, ho18, hx18⟩
  replace hy := hy.trans hx18
  replace hr0 := hr0.ext hx18
  replace hr1 := hr1.ext hx18
  replace ho3 := own_ext ho3 hx18
  replace ho4 := own_ext ho4 hx18
  replace ho5 := own_ext ho5 hx18
  replace ho6 := own_ext ho6 hx18
  replace ho16 := own_ext ho16 hx18
  replace ho17 := own_ext ho17 hx18
  have HI18 := Lib.hid (fun g (hg : Value.ownBlock (.slice B18 (shortOf xs0 xs1).length b18) = some g) => own_lt ho18 hg)
  have hsz18 := Ext.size hx18
  go_wp2_with fail
  refine (eqIntS_any _ _ _ _ _ _ (shortOf xs0 xs1) (shortOf xs0 xs1) _ rfl rfl (Row.of_own ho18) (Row.of_own ho3) (by unfold maxLen; omega) (by unfold maxLen; omega)).mono ?_
  rintro e w19 ⟨rfl, hx19⟩
  replace hy := hy.trans hx19
  replace hr0 := hr0.ext hx19
  replace hr1 := hr1.ext hx19
  replace ho3 := own_ext ho3 hx19
  replace ho4 := own_ext ho4 hx19
  replace ho5 := own_ext ho5 hx19
  replace ho6 := own_ext ho6 hx19
  replace ho16 := own_ext ho16 hx19
  replace ho17 := own_ext ho17 hx19
  replace ho18 := own_ext ho18 hx19
  have hsz19 := Ext.size hx19
  simp only [decide_true]
  go_wp2_with fail
  refine (heldIntS_any _ _ _ _ _ (Row.of_own ho6) (by omega) (by omega) (by omega)).mono ?_
  rintro e w' ⟨rfl, rfl⟩
  go_wp2
  go_ret
  exact ⟨rfl, hy⟩

namespace lFnExactShortOf
set_option maxRecDepth 100000 in
theorem lifted (os : Os) (started : os.Started) (H : Type) (enc : TypeId × Value → H) :
    ReturnsInHanded {} Try.checked os 12 .any (Rows.fnExactShortOfSpec.pre6 enc Try.prog Try.f12 Rows.fnExactShortOfRow.domain false) (Rows.fnExactShortOfSpec.post enc Try.prog Try.f12 false true false false) := by
  refine returnsInHanded_of_change (C := Try.checked) own started (by kernel_rfl) Try.func12
    (ChangeSpec.witness6 (enc := enc) (C := Try.checked) false ⟨#[], #[.slice none 0 0, .slice none 0 0], []⟩ 8 (by kernel_rfl) (by kernel_rfl) (by kernel_rfl) (by kernel_rfl)) ?_
  intro W base args ds gs before hval0 hW _ _
  have hval : ∀ (j : Nat) t v, Try.f12.params[j]? = some t → args[j]? = some v → Value.okWide Try.prog W .any base t v := hval0
  have hW' := hW
  obtain ⟨p, q, hA0, hV, rfl, _, _⟩ := hW
  have hA : DataW.TrodAll enc Try.prog W 0 (fun _ => true) true Try.f12.params.toList args.toList ds p := hA0
  rw [Try.params12] at hA hval
  obtain ⟨v0, vs0, d0, ds0, p0, q0, hargs, rfl, rfl, h0, r0⟩ := trodAll_cons hA
  obtain ⟨v1, vs1, d1, ds1, p1, q1, rfl, rfl, rfl, h1, r1⟩ := trodAll_cons r0
  obtain ⟨rfl, rfl, rfl⟩ := trodAll_nil r1
  obtain rfl : args = #[v0, v1] := by cases args; simp_all
  obtain ⟨rfl, rfl⟩ := trodVars_none hV
  have hv0 := hval 0 31 v0 rfl rfl
  have hv1 := hval 1 22 v1 rfl rfl
  clear hA0 hval hval0
  obtain ⟨A0, n0, c0, zs0, rfl, hl0, hr0, hnc0, hm0, _⟩ := openArg_slice (n := 5) Try.underlying31 (by kernel_rfl) hv0 h0
  rw [(by kernel_rfl : Try.prog.cellsOf 74 = 4)] at hl0
  obtain ⟨xs0, hll0, rfl⟩ := unflat Ask.unints n0 zs0 hl0
  obtain ⟨A1, n1, c1, xs1, rfl, hl1, hr1, hnc1, hm1, _⟩ := openArg_slice (n := 2) Try.underlying22 (by kernel_rfl) hv1 h1
  rw [(by kernel_rfl : Try.prog.cellsOf 3 = 1), Nat.mul_one] at hl1
  refine (lawShortOf A0 n0 c0 xs0 A1 n1 c1 xs1 W hll0 hr0 (by omega) hl1 hr1 (by omega)).mono fun e W' ⟨he, hx⟩ => ?_
  subst he
  exact ⟨_, rfl, law_post (tb := 4) laidOut (by kernel_rfl) rfl Try.underlying4 rfl hW' rfl rfl rfl hx⟩
theorem over : Rows.fnExactShortOfRow.holds Try.pinned (OpenSpec.ofChange Rows.fnExactShortOfSpec) :=
  OpenClaim.holds_of_wide 12 Try.f12 rfl rfl rfl rfl rfl rfl rfl ⟨rfl, rfl, rfl, rfl, rfl⟩ rfl rfl rfl rfl rfl (by kernel_rfl) Try.func12 (by kernel_rfl)
    (of_decide_eq_true (by kernel_rfl)) (by unfold Func.isWrapper; first | (rw [if_pos (by decide +kernel)]; kernel_rfl) | (rw [if_neg (by decide +kernel)]; exact ⟨rfl, rfl⟩))
    (fun os started H enc _ => lifted os started H enc)
theorem proved : Rows.FnExactShortOfSaid := over
end lFnExactShortOf
end Go.Proofs.Ytccfkglcjmkgcaa
