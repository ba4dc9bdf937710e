/- What the drawing functions of fractions and spans return. -/
import Derived.Test.YtlfepobnmmkcmaaGreatDoorDz
import Derived.Test.YtlfepobnmmkcmaaGreatDoorRat
import Derived.Test.YtlfepobnmmkcmaaGreatDoorPz
namespace Go.Proofs.YtlfepobnmmkcmaaGreatDoor
open Go.ChangeShapes Go.WideShapes Go.ChangeAt Go.RowKit
set_option linter.unusedVariables false

set_option maxHeartbeats 1000000 in
theorem makeNum_any (A : Option Addr) (n c : Nat) (bs : List Int) (m : Int) (w : World) (hn : bs.length = n) (hr : Row w A (u8s bs)) (hle : n ≤ 1048576) (hm : I64 m) :
    Calls Tryz.prog 24 #[.slice A n c, .int .i64 m] w fun e w' => ∃ x : Int, e = .returned (.int .i64 x) ∧ 0 ≤ x ∧ x < 65536 ∧ Ext w w' := by
  go_enter Tryz.func24, Tryz.ntmps24
  go_wp2_with fail
  refine (l26New_any _ _ _ bs _ _ hn hr hle hm).mono ?_
  rintro e w1 ⟨g, rfl, hc1⟩
  go_wp2_with fail
  refine (l01Byte_any _ _ _ _ _ bs _ hn hr hle hc1).mono ?_
  rintro e w2 ⟨⟨x, rfl, hx0, hx1⟩, hc2, ho2⟩
  go_wp2_with fail
  refine (l01Byte_any _ _ _ _ _ bs _ hn hr hle hc2).mono ?_
  rintro e w3 ⟨⟨y, rfl, hy0, hy1⟩, hc3, ho3⟩
  go_wp2
  go_ret
  exact ⟨_, rfl, by omega, by omega, hc3.ext⟩

theorem ratioOf_I64 {x d : Int} (hx : -1000000000000000000 ≤ x ∧ x ≤ 1000000000000000000) (hd : 1 ≤ d ∧ d ≤ 1000000000000000) : I64 (ratioOf x d).N ∧ I64 (ratioOf x d).D := by
  obtain ⟨h1, h2, h3, h4, h5⟩ := ratioOf_good (n := x) (d := d) hx hd.1 hd.2
  unfold I64
  omega
set_option maxHeartbeats 1000000 in
theorem l02Draw_any (w0 : World) (g : Nat) (A : Option Addr) (n c : Nat) (bs : List Int) (w : World) (hn : bs.length = n) (hr : Row w0 A (u8s bs)) (hle : n ≤ 1048576) (hc : Cur w0 w g A n c) :
    Calls Tryz.prog 90 #[.pointer (some ⟨g, 0, none⟩)] w fun e w' => (∃ x d : Int, -200 ≤ x ∧ x ≤ 199 ∧ 1 ≤ d ∧ d ≤ 12 ∧ e = .returned (.agg #[.int .i64 (ratioOf x d).N, .int .i64 (ratioOf x d).D])) ∧ Cur w0 w' g A n c ∧ Only (some g) w w' := by
  have hc0 := hc.fwd ((Ext.refl w).alloc (.cells #[.int .i64 0, .int .i64 0] 44))
  have b0 := Blk.new w 44 #[.int .i64 0, .int .i64 0]
  have hgl := hc.lt
  have ho0 : Only (some g) w (w.alloc (.cells #[.int .i64 0, .int .i64 0] 44)) := (Only.refl _ w).alloc _
  go_enter Tryz.func90, Tryz.ntmps90
  go_wp2_with fail
  refine (l01Below_any _ _ _ _ _ bs _ _ hn hr hle hc0 (by simp [I64])).mono ?_
  rintro e w1 ⟨⟨x, rfl, hx0, hx1, _⟩, hc1, ho1⟩
  replace b0 := b0.only ho1 (by omega)
  have hx1 := hx1 (by omega)
  go_wp2_with fail
  refine (l01Below_any _ _ _ _ _ bs _ _ hn hr hle hc1 (by simp [I64])).mono ?_
  rintro e w2 ⟨⟨d, rfl, hd0, hd1, _⟩, hc2, ho2⟩
  replace b0 := b0.only ho2 (by omega)
  have hd1 := hd1 (by omega)
  have hI := ratioOf_I64 (x := x - 200) (d := 1 + d) (by omega) (by omega)
  go_wp2_with fail
  refine (specRatioOf_any _ _ _ (by unfold I64; omega) (by unfold I64; omega)).mono ?_
  rintro e w3 ⟨rfl, hx3⟩
  replace b0 := b0.ext hx3
  have c0 := fun o => b0.cell o
  have f0 := fun o => b0.frozen o
  have hs := hc.ext.size
  go_wp2
  refine bodyPost_ret (v := .agg #[.int .i64 (ratioOf (x - 200) (1 + d)).N, .int .i64 (ratioOf (x - 200) (1 + d)).D]) (by simp [results, Tryz.results90, go_sem, c0]) rfl ⟨⟨_, _, by omega, by omega, by omega, by omega, rfl⟩, ?_, ?_⟩
  · obtain ⟨he, hle', i, k, hi, hk, hb⟩ := hc2.fwd hx3
    exact ⟨(he.setCell (by simp <;> omega) _).setCell (by simp <;> omega) _, hle', i, k, hi, hk, (hb.far (by simp <;> omega) _).far (by simp <;> omega) _⟩
  · exact ((((ho0.trans ho1).trans ho2).trans (Only.of_ext hx3)).setNew (by simp <;> omega) _).setNew (by simp <;> omega) _

set_option maxHeartbeats 1000000 in
theorem makeSpan_any (A : Option Addr) (n c : Nat) (bs : List Int) (m : Int) (w : World) (hn : bs.length = n) (hr : Row w A (u8s bs)) (hle : n ≤ 1048576) (hm : I64 m) :
    Calls Tryz.prog 34 #[.slice A n c, .int .i64 m] w fun e w' => (∃ s t u v : Int, e = .returned (.agg #[.int .i64 s, .int .i64 t, .int .i64 u, .int .i64 v]) ∧
      spanOk ⟨⟨s, t⟩, ⟨u, v⟩⟩ = true ∧ -300 ≤ s ∧ s ≤ 300 ∧ 1 ≤ t ∧ t ≤ 12 ∧ -300 ≤ u ∧ u ≤ 300 ∧ 1 ≤ v ∧ v ≤ 12) ∧ Ext w w' := by
  have hx0 : Ext w (w.alloc (.cells #[.int .i64 0, .int .i64 0, .int .i64 0, .int .i64 0] 46)) := (Ext.refl w).alloc _
  have b0 := Blk.new w 46 #[.int .i64 0, .int .i64 0, .int .i64 0, .int .i64 0]
  have hr0 := hr.ext hx0
  go_enter Tryz.func34, Tryz.ntmps34
  go_wp2_with fail
  refine (l26New_any _ _ _ bs _ _ hn hr0 hle hm).mono ?_
  rintro e w1 ⟨g, rfl, hc1⟩
  have hg1 := hc1.le
  replace b0 := b0.ext hc1.ext
  have hl0 := b0.lt
  go_wp2_with fail
  refine (l02Draw_any _ _ _ _ _ bs _ hn hr0 hle hc1).mono ?_
  rintro e w2 ⟨⟨x, d, hx1, hx2, hd1, hd2, rfl⟩, hc2, ho2⟩
  replace b0 := b0.only ho2 (by simp at hg1; omega)
  have hI := ratioOf_I64 (x := x) (d := d) (by omega) (by omega)
  have hs := fun k hk => span_drawn (x := x) (d := d) (k := k) ⟨hx1, hx2⟩ ⟨hd1, hd2⟩ hk
  obtain ⟨_, q1, q2, q3, q4, _⟩ := hs 0 (by omega)
  have Hs := Lib.hid hs
  clear hs
  generalize ratioOf x d = r at *
  have hc2' := hc2.fwd ((Ext.refl w2).alloc (.cells #[.int .i64 r.N, .int .i64 r.D] 44))
  have b1 := Blk.new w2 44 #[.int .i64 r.N, .int .i64 r.D]
  replace b0 := b0.alloc (.cells #[.int .i64 r.N, .int .i64 r.D] 44)
  have c1 := fun o => b1.cell o
  have hgl := hc2.lt
  go_wp2_with fail
  have hne : ¬ w2.heap.size = w.heap.size := by have := hc2.lt; simp at hg1; omega
  have hne' : ¬ w.heap.size = w2.heap.size := fun e => hne e.symm
  go_region_held3 (fun w' => w'.cell? ⟨w2.heap.size, 0, none⟩ = some (.int .i64 r.N) ∧ w'.cell? ⟨w2.heap.size, 1, none⟩ = some (.int .i64 r.D))
    (go_keep)
    (first
      | (go_at_call 48; refine (l01Below_any _ _ _ _ _ bs _ _ hn hr0 hle (by exact hc2'.fwd ((Ext.refl _).drew)) (by simp [I64])).mono ?_; rintro e w3 ⟨⟨k, rfl, hk0, hk1, _⟩, hc3, ho3⟩; replace hk1 := hk1 (by omega); replace b0 := Blk.only (by exact b0) ho3 (by simp at hg1; omega); replace b1 := Blk.only (by exact b1) ho3 (by omega); have c3 := fun o => b1.cell o; have hwr : IntKind.i64.wrap (r.N + k) = r.N + k := by (rw [wrapS]; omega))
      | (go_at_call 91; refine (specRatioOf_any _ _ _ (by unfold I64; omega) (by unfold I64; omega)).mono ?_; rintro e w4 ⟨rfl, hx4⟩; replace b0 := b0.ext hx4; replace b1 := b1.ext hx4; have c4 := fun o => b1.cell o; have d4 := fun o => b0.cell o; have f4 := fun o => b0.frozen o))
  go_wp2
  have hs' := Hs.out k (by omega)
  have hsz := hc1.ext.size
  refine bodyPost_ret (v := .agg #[.int .i64 r.N, .int .i64 r.D, .int .i64 (ratioOf (r.N + k) r.D).N, .int .i64 (ratioOf (r.N + k) r.D).D]) (by simp [results, Tryz.results34, go_sem, d4]) rfl ⟨⟨_, _, _, _, rfl, hs'⟩, ?_⟩
  have he := (hx0.trans hc3.ext).trans hx4
  exact (((he.setCell (by simp <;> omega) _).setCell (by simp <;> omega) _).setCell (by simp <;> omega) _).setCell (by simp <;> omega) _
end Go.Proofs.YtlfepobnmmkcmaaGreatDoor
