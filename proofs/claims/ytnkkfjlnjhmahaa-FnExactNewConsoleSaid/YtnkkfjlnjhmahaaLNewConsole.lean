/- The law FnExactNewConsole returns true: NewConsole of the program and of the reference give the same console. No condition beyond the row's own. -/
import Derived.Test.YtnkkfjlnjhmahaaHz
import Derived.Test.YtnkkfjlnjhmahaaOps
import Derived.Test.YtnkkfjlnjhmahaaNc
import Derived.Test.YtnkkfjlnjhmahaaRows
import Derived.Deep.RegionHeld3
import Derived.Deep.WholeRow
namespace Go.Proofs.Ytnkkfjlnjhmahaa
open Go.ChangeShapes Go.WideShapes Go.ChangeAt Go.RowKit
set_option linter.unusedVariables false
set_option maxRecDepth 100000

theorem newConsole_cnt : cntF (consoleF newConsole) ≤ 100000000 := by
  have h1 := @box_len (-1) (-1) 1 1
  have h2 := @box_len (-10) (-10) 10 10
  have e1 : (boxR (-1) (-1) 1 1).1.length ≤ 8 := by unfold boxR; split <;> simp; exact h1
  have e2 : (boxR (-10) (-10) 10 10).1.length ≤ 8 := by unfold boxR; split <;> simp; exact h2
  simp only [newConsole, newRoom, noRoom, consoleF, cntF, halfF, intF, askF, List.length_cons, List.length_nil]
  omega
theorem cons_cells {w : World} {K : Console} {us : List Value} {rs : List (Nat × Nat)} (h : AggSep w (consoleF K) us rs) : us.length = 22 ∧ us.toArray.all (·.oneCell') = true := by
  obtain ⟨A0, c0, _, a0, b0, _, rfl, rfl, o0, l0, _, rfl, _, rfl, _, rfl, _, rfl, _, rfl, A6, c6, _, a6, b6, _, rfl, rfl, o6, l6, A7, c7, _, a7, b7, _, rfl, rfl, o7, l7, _, rfl, _, rfl, _, rfl, A11, c11, _, a11, b11, _, rfl, rfl, o11, l11, _, rfl, _, rfl, _, rfl, _, rfl, _, rfl, A17, c17, _, a17, b17, _, rfl, rfl, o17, l17, A18, c18, _, a18, b18, _, rfl, rfl, o18, l18, A19, c19, _, a19, b19, _, rfl, rfl, o19, l19, A20, c20, _, a20, b20, _, rfl, rfl, o20, l20, A21, c21, _, a21, b21, _, rfl, rfl, o21, l21, rfl, rfl⟩ := h
  exact ⟨rfl, by kernel_rfl⟩
theorem cons_size {us : List Value} (h : us.length = 22) : (Try.prog.info? 34).map (·.size) = some us.toArray.size := by
  rw [List.size_toArray, h]
  kernel_rfl
set_option maxHeartbeats 8000000 in
theorem lawNewConsole (w : World) : Calls Try.prog 3 #[] w fun e w' => e = .returned (.bool true) ∧ Ext w w' := by
  have HS := Lib.hid specNewConsole_any
  have HI := Lib.hid implNewConsole_any
  have hcn := newConsole_cnt
  generalize newConsole = K at HS HI hcn
  have hE := endF_eq (consoleF K) 1
  have hy := Ext.refl w
  go_enter Try.func3, Try.ntmps3
  go_wp2_with (fail)
  refine (HS.out _).mono ?_
  rintro e w1 ⟨ua, ra, rfl, ta, pa, qa, hx1⟩
  replace hy := hy.trans hx1
  have hs1 := Ext.size hx1
  (try simp only [World.size_alloc] at hs1 qa)
  have za := cons_cells ta
  have ba := Blk.new w1 34 ua.toArray
  have ha1 := (Ext.refl w1).alloc (.cells ua.toArray 34)
  replace hy := hy.trans ha1
  replace ta := ta.ext ha1
  have bz1 := Blk.new w1 34 #[.slice none 0 0, .int .i64 0, .int .i64 0, .int .i64 0, .int .i64 0, .int .i64 0, .slice none 0 0, .slice none 0 0, .int .i64 0, .int .i64 0, .int .i64 0, .slice none 0 0, .int .i64 0, .int .i64 0, .int .i64 0, .int .i64 0, .int .i64 0, .slice none 0 0, .slice none 0 0, .slice none 0 0, .slice none 0 0, .slice none 0 0]
  go_wp2_with (first | (refine wpList_store_row (P := Try.prog) rfl 34 _ _ rfl w1.heap.size ua.toArray rfl rfl 34 _ bz1 (cons_size za.1) (show 22 = ua.toArray.size from za.1.symm) za.2 ?_; rw [World.setRow_alloc_new]) | (refine wpList_load_row (P := Try.prog) rfl 34 _ rfl _ rfl 34 _ _ _ ba Try.underlying34 rfl (cons_size za.1) ?_))
  refine (HI.out _).mono ?_
  rintro e w2 ⟨ug, rg, rfl, tg, pg, qg, hx2⟩
  replace hy := hy.trans hx2
  replace ta := ta.ext hx2
  replace ba := ba.ext hx2
  have hs2 := Ext.size hx2
  (try simp only [World.size_alloc] at hs2 qg)
  have zg := cons_cells tg
  have bg := Blk.new w2 34 ug.toArray
  have ha2 := (Ext.refl w2).alloc (.cells ug.toArray 34)
  replace hy := hy.trans ha2
  replace ta := ta.ext ha2
  replace ba := ba.ext ha2
  replace tg := tg.ext ha2
  have bz2 := Blk.new w2 34 #[.slice none 0 0, .int .i64 0, .int .i64 0, .int .i64 0, .int .i64 0, .int .i64 0, .slice none 0 0, .slice none 0 0, .int .i64 0, .int .i64 0, .int .i64 0, .slice none 0 0, .int .i64 0, .int .i64 0, .int .i64 0, .int .i64 0, .int .i64 0, .slice none 0 0, .slice none 0 0, .slice none 0 0, .slice none 0 0, .slice none 0 0]
  go_wp2_with (first | (refine wpList_store_row (P := Try.prog) rfl 34 _ _ rfl w2.heap.size ug.toArray rfl rfl 34 _ bz2 (cons_size zg.1) (show 22 = ug.toArray.size from zg.1.symm) zg.2 ?_; rw [World.setRow_alloc_new]) | (refine wpList_load_row (P := Try.prog) rfl 34 _ rfl _ rfl 34 _ _ _ ba Try.underlying34 rfl (cons_size za.1) ?_) | (refine wpList_load_row (P := Try.prog) rfl 34 _ rfl _ rfl 34 _ _ _ bg Try.underlying34 rfl (cons_size zg.1) ?_))
  refine (eqConsole_same K ug ua _ tg.rows ta.rows).mono ?_
  rintro e w3 ⟨rfl, hx3⟩
  replace hy := hy.trans hx3
  replace ta := ta.ext hx3
  replace ba := ba.ext hx3
  replace tg := tg.ext hx3
  replace bg := bg.ext hx3
  have hs3 := Ext.size hx3
  (try simp only [World.size_alloc] at hs3)
  have qg1 : ∀ p ∈ rg, w1.heap.size + 1 ≤ p.1 ∧ p.2 ≤ w2.heap.size := qg
  go_wp2_with (first | (refine wpList_store_row (P := Try.prog) rfl 34 _ _ rfl w2.heap.size ug.toArray rfl rfl 34 _ bz2 (cons_size zg.1) (show 22 = ug.toArray.size from zg.1.symm) zg.2 ?_; rw [World.setRow_alloc_new]) | (refine wpList_load_row (P := Try.prog) rfl 34 _ rfl _ rfl 34 _ _ _ ba Try.underlying34 rfl (cons_size za.1) ?_) | (refine wpList_load_row (P := Try.prog) rfl 34 _ rfl _ rfl 34 _ _ _ bg Try.underlying34 rfl (cons_size zg.1) ?_))
  refine (markConsole_s K ug _ rg _ tg pg (fun p hp => by have := qg1 p hp; omega) (by omega) (by omega)).mono ?_
  rintro e w4 ⟨rfl, tgq, k4r⟩
  have k4 := k4r.touch qg1
  replace hy := hy.touch k4 (by omega)
  replace ba := ba.touch k4 (by omega)
  replace bg := bg.touch k4 (by omega)
  replace ta := ta.touch k4 (fun q hq => by have := qa q hq; omega)
  have hsk4 := k4.size
  (try simp only [World.size_alloc] at hsk4)
  clear tg
  rw [hE]
  go_wp2_with (first | (refine wpList_store_row (P := Try.prog) rfl 34 _ _ rfl w2.heap.size ug.toArray rfl rfl 34 _ bz2 (cons_size zg.1) (show 22 = ug.toArray.size from zg.1.symm) zg.2 ?_; rw [World.setRow_alloc_new]) | (refine wpList_load_row (P := Try.prog) rfl 34 _ rfl _ rfl 34 _ _ _ ba Try.underlying34 rfl (cons_size za.1) ?_) | (refine wpList_load_row (P := Try.prog) rfl 34 _ rfl _ rfl 34 _ _ _ bg Try.underlying34 rfl (cons_size zg.1) ?_))
  refine (heldConsole_m K ug _ _ tgq.rows (by omega) (by omega)).mono ?_
  rintro e w5 ⟨rfl, hx5⟩
  replace hy := hy.trans hx5
  replace ta := ta.ext hx5
  replace ba := ba.ext hx5
  replace bg := bg.ext hx5
  replace tgq := tgq.ext hx5
  have hs5 := Ext.size hx5
  (try simp only [World.size_alloc] at hs5)
  go_wp2_with (first | (refine wpList_store_row (P := Try.prog) rfl 34 _ _ rfl w2.heap.size ug.toArray rfl rfl 34 _ bz2 (cons_size zg.1) (show 22 = ug.toArray.size from zg.1.symm) zg.2 ?_; rw [World.setRow_alloc_new]) | (refine wpList_load_row (P := Try.prog) rfl 34 _ rfl _ rfl 34 _ _ _ ba Try.underlying34 rfl (cons_size za.1) ?_) | (refine wpList_load_row (P := Try.prog) rfl 34 _ rfl _ rfl 34 _ _ _ bg Try.underlying34 rfl (cons_size zg.1) ?_))
  refine (HI.out _).mono ?_
  rintro e w6 ⟨uh, rh, rfl, th, ph, qh, hx6⟩
  replace hy := hy.trans hx6
  replace ta := ta.ext hx6
  replace ba := ba.ext hx6
  replace bg := bg.ext hx6
  replace tgq := tgq.ext hx6
  have hs6 := Ext.size hx6
  (try simp only [World.size_alloc] at hs6 qh)
  have zh := cons_cells th
  have bh := Blk.new w6 34 uh.toArray
  have ha6 := (Ext.refl w6).alloc (.cells uh.toArray 34)
  replace hy := hy.trans ha6
  replace ta := ta.ext ha6
  replace ba := ba.ext ha6
  replace bg := bg.ext ha6
  replace tgq := tgq.ext ha6
  replace th := th.ext ha6
  have bz6 := Blk.new w6 34 #[.slice none 0 0, .int .i64 0, .int .i64 0, .int .i64 0, .int .i64 0, .int .i64 0, .slice none 0 0, .slice none 0 0, .int .i64 0, .int .i64 0, .int .i64 0, .slice none 0 0, .int .i64 0, .int .i64 0, .int .i64 0, .int .i64 0, .int .i64 0, .slice none 0 0, .slice none 0 0, .slice none 0 0, .slice none 0 0, .slice none 0 0]
  go_wp2_with (first | (refine wpList_store_row (P := Try.prog) rfl 34 _ _ rfl w6.heap.size uh.toArray rfl rfl 34 _ bz6 (cons_size zh.1) (show 22 = uh.toArray.size from zh.1.symm) zh.2 ?_; rw [World.setRow_alloc_new]) | (refine wpList_load_row (P := Try.prog) rfl 34 _ rfl _ rfl 34 _ _ _ ba Try.underlying34 rfl (cons_size za.1) ?_) | (refine wpList_load_row (P := Try.prog) rfl 34 _ rfl _ rfl 34 _ _ _ bg Try.underlying34 rfl (cons_size zg.1) ?_) | (refine wpList_load_row (P := Try.prog) rfl 34 _ rfl _ rfl 34 _ _ _ bh Try.underlying34 rfl (cons_size zh.1) ?_))
  refine (eqConsole_same K uh ua _ th.rows ta.rows).mono ?_
  rintro e w7 ⟨rfl, hx7⟩
  replace hy := hy.trans hx7
  replace ta := ta.ext hx7
  replace ba := ba.ext hx7
  replace bg := bg.ext hx7
  replace tgq := tgq.ext hx7
  replace th := th.ext hx7
  replace bh := bh.ext hx7
  go_wp2_with (first | (refine wpList_store_row (P := Try.prog) rfl 34 _ _ rfl w6.heap.size uh.toArray rfl rfl 34 _ bz6 (cons_size zh.1) (show 22 = uh.toArray.size from zh.1.symm) zh.2 ?_; rw [World.setRow_alloc_new]) | (refine wpList_load_row (P := Try.prog) rfl 34 _ rfl _ rfl 34 _ _ _ ba Try.underlying34 rfl (cons_size za.1) ?_) | (refine wpList_load_row (P := Try.prog) rfl 34 _ rfl _ rfl 34 _ _ _ bg Try.underlying34 rfl (cons_size zg.1) ?_) | (refine wpList_load_row (P := Try.prog) rfl 34 _ rfl _ rfl 34 _ _ _ bh Try.underlying34 rfl (cons_size zh.1) ?_))
  refine (heldConsole_m K ug _ _ tgq.rows (by omega) (by omega)).mono ?_
  rintro e w8 ⟨rfl, hx8⟩
  replace hy := hy.trans hx8
  replace ta := ta.ext hx8
  replace ba := ba.ext hx8
  replace bg := bg.ext hx8
  replace tgq := tgq.ext hx8
  replace th := th.ext hx8
  replace bh := bh.ext hx8
  go_wp2
  go_ret
  exact ⟨rfl, hy⟩

namespace lFnExactNewConsole
set_option maxRecDepth 100000 in
theorem lifted (os : Os) (started : os.Started) (H : Type) (enc : TypeId × Value → H) :
    ReturnsInHanded {} Try.checked os 3 .any (Rows.fnExactNewConsoleSpec.pre6 enc Try.prog Try.f3 Rows.fnExactNewConsoleRow.domain false) (Rows.fnExactNewConsoleSpec.post enc Try.prog Try.f3 false true false false) := by
  refine returnsInHanded_of_change (C := Try.checked) own started (by kernel_rfl) Try.func3
    (ChangeSpec.witness6 (enc := enc) (C := Try.checked) false ⟨#[], #[], []⟩ 8 (by kernel_rfl) (by kernel_rfl) (by kernel_rfl) (by kernel_rfl)) ?_
  intro W base args ds gs before hval0 hW _ _
  have hval : ∀ (j : Nat) t v, Try.f3.params[j]? = some t → args[j]? = some v → Value.okWide Try.prog W .any base t v := hval0
  have hW' := hW
  obtain ⟨p, q, hA0, hV, rfl, _, _⟩ := hW
  have hA : DataW.TrodAll enc Try.prog W 0 (fun _ => true) true Try.f3.params.toList args.toList ds p := hA0
  rw [Try.params3] at hA hval
  obtain ⟨hz, rfl, rfl⟩ := trodAll_nil hA
  obtain rfl : args = #[] := by cases args; simp_all
  obtain ⟨rfl, rfl⟩ := trodVars_none hV
  clear hA0 hval hval0
  refine (lawNewConsole W).mono fun e W' ⟨he, hx⟩ => ?_
  subst he
  exact ⟨_, rfl, law_post (tb := 4) laidOut (by kernel_rfl) rfl Try.underlying4 rfl hW' rfl rfl rfl hx⟩
theorem over : Rows.fnExactNewConsoleRow.holds Try.pinned (OpenSpec.ofChange Rows.fnExactNewConsoleSpec) :=
  OpenClaim.holds_of_wide 3 Try.f3 rfl rfl rfl rfl rfl rfl rfl ⟨rfl, rfl, rfl, rfl, rfl⟩ rfl rfl rfl rfl rfl (by kernel_rfl) Try.func3 (by kernel_rfl)
    (of_decide_eq_true (by kernel_rfl)) (by unfold Func.isWrapper; first | (rw [if_pos (by decide +kernel)]; kernel_rfl) | (rw [if_neg (by decide +kernel)]; exact ⟨rfl, rfl⟩))
    (fun os started H enc _ => lifted os started H enc)
theorem proved : Rows.FnExactNewConsoleSaid := over
end lFnExactNewConsole
end Go.Proofs.Ytnkkfjlnjhmahaa
