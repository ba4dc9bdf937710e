/- The law FnAsks returns true for every code: an ask of a drawn span asks for admitted whole inputs. No condition. -/
import Derived.Test.YtbbkahnfnjlajaaOpen
import Derived.Test.YtbbkahnfnjlajaaDm
import Derived.Test.YtbbkahnfnjlajaaPk
namespace Go.Proofs.Ytbbkahnfnjlajaa
open Go.ChangeShapes Go.WideShapes Go.ChangeAt Go.RowKit
set_option linter.unusedVariables false

set_option maxRecDepth 100000 in
set_option maxHeartbeats 4000000 in
theorem lawAsks (A : Option Addr) (n c : Nat) (bs : List Int) (w : World) (hn : bs.length = n) (hr : Row w A (u8s bs)) (hm : n ≤ maxLen) :
    Calls Try.prog 5 #[.slice A n c] w fun e w' => e = .returned (.bool true) ∧ Ext w w' := by
  unfold maxLen at hm
  by_cases hbig : (1048576 : Int) < (n : Int)
  · go_enter Try.func5, Try.ntmps5
    go_wp2
    go_ret
    exact ⟨rfl, Ext.refl _⟩
  have hle : n ≤ 1048576 := by omega
  go_enter Try.func5, Try.ntmps5
  go_wp2_with fail
  refine (makeSpan_any _ _ _ bs _ _ hn hr hle (by simp [I64])).mono ?_
  rintro e w1 ⟨⟨s, t, u, v, rfl, hok, hs1, hs2, ht1, ht2, hu1, hu2, hv1, hv2⟩, hy⟩
  have bS := Blk.new w1 29 #[.int .i64 s, .int .i64 t, .int .i64 u, .int .i64 v]
  replace hy := hy.alloc (.cells #[.int .i64 s, .int .i64 t, .int .i64 u, .int .i64 v] 29)
  have hr1 := hr.ext hy
  have cS := fun o => bS.cell o
  go_wp2_with fail
  refine (makeNum_any _ _ _ bs _ _ hn hr1 hle (by simp [I64])).mono ?_
  rintro e w2 ⟨x, rfl, hx0, hx1, hx2⟩
  replace hy := hy.trans hx2
  replace bS := bS.ext hx2
  have cbS_1 := fun o => bS.cell o
  have hD := ask_drawn (w := ⟨⟨s, t⟩, ⟨u, v⟩⟩) (wish := x % 100 - 50) hok ⟨hs1, hs2⟩ ⟨ht1, ht2⟩ ⟨hu1, hu2⟩ ⟨hv1, hv2⟩ (by omega)
  obtain ⟨wish, hwish⟩ : ∃ y, x % 100 - 50 = y := ⟨_, rfl⟩
  have hwb : -50 ≤ wish ∧ wish ≤ 49 := by omega
  rw [hwish] at hD
  have Is : I64 s := by unfold I64; omega
  have It : I64 t := by unfold I64; omega
  have Iu : I64 u := by unfold I64; omega
  have Iv : I64 v := by unfold I64; omega
  clear hs1 hs2 ht1 ht2 hu1 hu2 hv1 hv2 hbig
  have HOK := Lib.hid hok
  clear hok
  obtain ⟨hD1, hD2, b1, b2, b3, b4, b5, b6, b7, b8⟩ := hD
  have HD2 := Lib.hid hD2
  clear hD2
  have HD1 := Lib.hid hD1
  clear hD1
  go_wp2_with fail
  refine (implAskOf_any _ _ _ _ _ _ _ Is It Iu Iv).mono ?_
  rintro e w3 ⟨rfl, hx3⟩
  replace hy := hy.trans hx3
  replace bS := bS.ext hx3
  have cbS_2 := fun o => bS.cell o
  obtain ⟨a, ok, ha⟩ : ∃ a ok, askOf ⟨⟨s, t⟩, ⟨u, v⟩⟩ wish 3 = (a, ok) := ⟨_, _, rfl⟩
  rw [ha] at HD1 HD2 b1 b2 b3 b4 b5 b6
  rw [ha]
  simp only at b1 b2 b3 b4 b5 b6
  have bA := Blk.new w3 34 #[.int .i64 a.Low, .int .i64 a.High, .int .i64 a.Wish, .int .i64 a.Rank]
  have cA := fun o => bA.cell o
  have ha3 := (Ext.refl w3).alloc (.cells #[.int .i64 a.Low, .int .i64 a.High, .int .i64 a.Wish, .int .i64 a.Rank] 34)
  replace hy := hy.trans ha3
  replace bS := bS.ext ha3
  have cbS_3 := fun o => bS.cell o
  go_wp2_with fail
  refine (implSpanOk_any _ _ _ _ _ Is It Iu Iv).mono ?_
  rintro e w4 ⟨rfl, hx4⟩
  replace hy := hy.trans hx4
  replace bS := bS.ext hx4
  replace bA := bA.ext hx4
  have cbS_4 := fun o => bS.cell o
  have cbA_5 := fun o => bA.cell o
  rw [HOK.out]
  go_wp2_with fail
  refine (wholeInputs_any _ _ _ _ _ Is It Iu Iv).mono ?_
  rintro e w5 ⟨rfl, hx5⟩
  replace hy := hy.trans hx5
  replace bS := bS.ext hx5
  replace bA := bA.ext hx5
  have cbS_6 := fun o => bS.cell o
  have cbA_7 := fun o => bA.cell o
  obtain ⟨N, hN⟩ : ∃ N, wholeInputs ⟨⟨s, t⟩, ⟨u, v⟩⟩ = N := ⟨_, rfl⟩
  rw [hN] at HD1 HD2 b7 b8
  have HN := Lib.hid hN
  rw [hN]
  clear hN
  have hd1 : ok = decide (0 < N) := HD1.out
  rw [hd1] at HD2
  rw [hd1]
  clear hd1 HD1
  by_cases hpos : 0 < N
  · have hdec : decide (0 < N) = true := by simpa using hpos
    obtain ⟨g1, g2, g3, g4, g5⟩ := HD2.out hdec
    change inSpan ⟨⟨s, t⟩, ⟨u, v⟩⟩ ⟨a.Low, 1⟩ = true at g1
    change inSpan ⟨⟨s, t⟩, ⟨u, v⟩⟩ ⟨a.High, 1⟩ = true at g2
    change a.High - a.Low + 1 = N at g3
    change askOk a = true at g4
    change pickInput ⟨⟨s, t⟩, ⟨u, v⟩⟩ wish = ⟨a.Wish, 1⟩ at g5
    have G1 := Lib.hid g1
    have G2 := Lib.hid g2
    have G4 : Hid (asksOk [a] = true) := by unfold Hid asksOk; simp [g4]
    have G5 := Lib.hid g5
    clear g1 g2 g4 g5
    have q1 : IntKind.i64.wrap (a.High - a.Low) = a.High - a.Low := IntWalk.i64_in _ (by omega)
    have q2 : IntKind.i64.wrap (a.High - a.Low + 1) = N := by rw [IntWalk.i64_in _ (by omega)]; exact g3
    have r1 := ratioOf_one (n := a.Low) (by omega)
    have r2 := ratioOf_one (n := a.High) (by omega)
    have r3 := ratioOf_one (n := a.Wish) (by omega)
    clear g3
    go_wp2_with fail
    have hcur := Ext.refl w5
    have hlS := bS.lt
    have hlA := bA.lt
    go_region_held3 (fun w' => w'.cell? ⟨w1.heap.size, 0, none⟩ = some (.int .i64 s) ∧ w'.cell? ⟨w1.heap.size, 1, none⟩ = some (.int .i64 t) ∧ w'.cell? ⟨w1.heap.size, 2, none⟩ = some (.int .i64 u) ∧ w'.cell? ⟨w1.heap.size, 3, none⟩ = some (.int .i64 v) ∧ w'.cell? ⟨w3.heap.size, 0, none⟩ = some (.int .i64 a.Low) ∧ w'.cell? ⟨w3.heap.size, 1, none⟩ = some (.int .i64 a.High) ∧ w'.cell? ⟨w3.heap.size, 2, none⟩ = some (.int .i64 a.Wish) ∧ w'.cell? ⟨w3.heap.size, 3, none⟩ = some (.int .i64 a.Rank))
      (go_keep)
      (first
        | (go_at_call 21; refine (implRatioOf_any _ _ _ (by unfold I64; omega) (by simp [I64])).mono ?_; rintro e w9 ⟨rfl, hx9⟩; replace hcur := Ext.trans (by first | exact hcur | exact hcur.drew | exact hcur.alloc _) hx9; have cS9 := fun o => (bS.ext hcur).cell o; have cA9 := fun o => (bA.ext hcur).cell o; first | rw [r1] | rw [r2] | rw [r3])
        | (go_at_call 20; refine (inSpan_any _ _ _ _ _ _ _ Is It Iu Iv (by unfold I64; omega) (by simp [I64])).mono ?_; rintro e w9 ⟨rfl, hx9⟩; replace hcur := Ext.trans (by first | exact hcur | exact hcur.drew | exact hcur.alloc _) hx9; have cS9 := fun o => (bS.ext hcur).cell o; have cA9 := fun o => (bA.ext hcur).cell o; first | rw [G1.out] | rw [G2.out])
        | (go_at_call 19; refine (wholeInputs_any _ _ _ _ _ Is It Iu Iv).mono ?_; rintro e w9 ⟨rfl, hx9⟩; replace hcur := Ext.trans (by first | exact hcur | exact hcur.drew | exact hcur.alloc _) hx9; have cS9 := fun o => (bS.ext hcur).cell o; have cA9 := fun o => (bA.ext hcur).cell o; rw [HN.out])
        | (go_at_call 23; refine (pickInput_any _ _ _ _ _ _ Is It Iu Iv).mono ?_; rintro e w9 ⟨rfl, hx9⟩; replace hcur := Ext.trans (by first | exact hcur | exact hcur.drew | exact hcur.alloc _) hx9; have cS9 := fun o => (bS.ext hcur).cell o; have cA9 := fun o => (bA.ext hcur).cell o; rw [G5.out])
        | (go_at_call 22; refine (implAsksOk_any _ 1 _ [a] _ rfl (.inr ⟨_, 0, rfl, fun j v hj => by rw [(Blk.new _ _ _).cell, Nat.zero_add]; simpa [ints, flat, Ask.ints] using hj⟩) (by unfold maxLen; omega)).mono ?_; rintro e w9 ⟨rfl, hx9⟩; replace hcur := Ext.trans (by first | exact hcur | exact hcur.drew | exact hcur.alloc _) hx9; have cS9 := fun o => (bS.ext hcur).cell o; have cA9 := fun o => (bA.ext hcur).cell o; rw [G4.out]))
    all_goals
      go_wp2
      go_ret
      exact ⟨rfl, hy.trans hcur⟩
  · have hdec : decide (0 < N) = false := by simpa using hpos
    go_wp2
    go_ret
    exact ⟨rfl, hy⟩

namespace lFnAsks
set_option maxRecDepth 100000 in
theorem lifted (os : Os) (started : os.Started) (H : Type) (enc : TypeId × Value → H) :
    ReturnsInHanded {} Try.checked os 5 .any (Rows.fnAsksSpec.pre6 enc Try.prog Try.f5 Rows.fnAsksRow.domain false) (Rows.fnAsksSpec.post enc Try.prog Try.f5 false true false false) := by
  refine returnsInHanded_of_change (C := Try.checked) own started (by kernel_rfl) Try.func5
    (ChangeSpec.witness6 (enc := enc) (C := Try.checked) false ⟨#[], #[.slice none 0 0], []⟩ 8 (by kernel_rfl) (by kernel_rfl) (by kernel_rfl) (by kernel_rfl)) ?_
  intro W base args ds gs before hval0 hW _ _
  have hval : ∀ (j : Nat) t v, Try.f5.params[j]? = some t → args[j]? = some v → Value.okWide Try.prog W .any base t v := hval0
  have hW' := hW
  obtain ⟨p, q, hA0, hV, rfl, _, _⟩ := hW
  have hA : DataW.TrodAll enc Try.prog W 0 (fun _ => true) true Try.f5.params.toList args.toList ds p := hA0
  rw [Try.params5] at hA hval
  obtain ⟨v0, vs0, d0, ds0, p0, q0, hargs, rfl, rfl, h0, r0⟩ := trodAll_cons hA
  obtain ⟨rfl, rfl, rfl⟩ := trodAll_nil r0
  obtain rfl : args = #[v0] := by cases args; simp_all
  obtain ⟨rfl, rfl⟩ := trodVars_none hV
  have hv0 := hval 0 39 v0 rfl rfl
  clear hA0 hval hval0
  obtain ⟨A0, n0, c0, bs0, rfl, hl0, hr0, hlc0, hm0⟩ := openArg_bytes Try.underlying39 Try.underlying5 (by kernel_rfl) hv0 h0
  refine (lawAsks A0 n0 c0 bs0 W hl0 hr0 (by omega)).mono fun e W' ⟨he, hx⟩ => ?_
  subst he
  exact ⟨_, rfl, law_post (tb := 4) laidOut (by kernel_rfl) rfl Try.underlying4 rfl hW' rfl rfl rfl hx⟩
theorem over : Rows.fnAsksRow.holds Try.pinned (OpenSpec.ofChange Rows.fnAsksSpec) :=
  OpenClaim.holds_of_wide 5 Try.f5 rfl rfl rfl rfl rfl rfl rfl ⟨rfl, rfl, rfl, rfl, rfl⟩ rfl rfl rfl rfl rfl (by kernel_rfl) Try.func5 (by kernel_rfl)
    (of_decide_eq_true (by kernel_rfl)) (by unfold Func.isWrapper; first | (rw [if_pos (by decide +kernel)]; kernel_rfl) | (rw [if_neg (by decide +kernel)]; exact ⟨rfl, rfl⟩))
    (fun os started H enc _ => lifted os started H enc)
theorem proved : Rows.FnAsksSaid := over
end lFnAsks
end Go.Proofs.Ytbbkahnfnjlajaa
