/- What the drawing function of asks returns: valid asks and a total. -/
import Derived.Test.YtbbkahnfnjlajaaDoorDm
import Derived.Test.YtbbkahnfnjlajaaDoorC
import Derived.Test.YtbbkahnfnjlajaaDoorPlainL
namespace Go.Proofs.YtbbkahnfnjlajaaDoor
open Go.ChangeShapes Go.WideShapes Go.ChangeAt Go.RowKit
set_option linter.unusedVariables false
set_option maxRecDepth 100000

theorem Cur.grown {w0 w w' : World} {g : Nat} {A : Option Addr} {n c : Nat} {row : Option Nat} (h : Cur w0 w g A n c) (hg : w.grownBy w' row) (hr : ∀ k, row = some k → w0.heap.size ≤ k ∧ k ≠ g) : Cur w0 w' g A n c := by
  obtain ⟨i, k, hi, hn, hb⟩ := h.blk
  exact ⟨h.ext.grown hg (fun k hk => (hr k hk).1), h.le, i, k, hi, hn, (hg.block g hb.lt (fun e => (hr g e.symm).2 rfl)).trans hb⟩
theorem oneCell_ints' (xs : List Int) : ∀ v ∈ ints xs, v.oneCell' = true := by
  intro v hv
  obtain ⟨z, _, rfl⟩ := List.mem_map.1 hv
  rfl
theorem ask_info : (Tryd.prog.info? 52).map (fun i => (i.zero, i.size, i.bytes)) = some (some (.agg #[.int .i64 0, .int .i64 0, .int .i64 0, .int .i64 0]), 4, 32) := by kernel_rfl
def AsksMade (w0 : World) (g : Nat) (A : Option Addr) (n c : Nat) (w : World) (e : Ending) (w' : World) : Prop :=
  ∃ B d m xs, e = .returned (.slice B m d) ∧ m = xs.length ∧ asksOk xs = true ∧ w'.ownsRow w.heap.size 52 4 (.slice B m d) m (ints (flat Ask.ints xs)) ∧ Cur w0 w' g A n c
theorem asks_add (l : List Ask) (s : Ask) : ints (flat Ask.ints (l ++ [s])) = ints (flat Ask.ints l) ++ ints s.ints := by
  unfold flat; rw [List.flatMap_append, ints_append]; simp
set_option maxHeartbeats 4000000 in
theorem l20Asks_any (w0 : World) (g : Nat) (A : Option Addr) (n c : Nat) (bs : List Int) (w : World) (hn : bs.length = n) (hr : Row w0 A (u8s bs)) (hle : n ≤ 1048576) (hc : Cur w0 w g A n c) :
    Calls Tryd.prog 55 #[.pointer (some ⟨g, 0, none⟩)] w (AsksMade w0 g A n c w) := by
  obtain ⟨i0, hi0, hz0, hz1, hz2⟩ := info_parts ask_info
  have hgl := hc.lt
  have hw0 := hc.ext.size
  have hc0 := hc.fwd ((Ext.refl w).alloc (.cells #[] 52))
  have hlit : (w.alloc (.cells #[] 52)).ownsRow w.heap.size 52 4 (.slice (some ⟨w.heap.size, 0, none⟩) 0 0) 0 (ints (flat Ask.ints [])) := World.ownsRow_lit w #[] 0 (Nat.le_refl _) (by unfold maxLen; omega) rfl
  have HRw := Lib.hid hr
  have HNb := Lib.hid hn
  clear hr hn
  go_enter Tryd.func55, Tryd.ntmps55
  go_wp2_with fail
  refine (l01Below_any _ _ _ _ _ bs _ _ HNb.out HRw.out hle hc0 (by simp [I64])).mono ?_
  rintro e w1 ⟨⟨x, rfl, hx0, hx1, _⟩, hc1, ho1⟩
  have hx5 := hx1 (by omega)
  have hown1 := own_only hlit ho1 (fun k hk => by injection hk with hk; subst hk; simp [Value.ownBlock]; omega)
  clear hc0 hlit hx1
  obtain ⟨t, rfl⟩ := Int.eq_ofNat_of_zero_le hx0
  go_wp2
  go_loopw [3, 4] (fun v i wr => ∃ (k : Nat) (xs : List Ask), i = .int .i64 k ∧ xs.length + k ≤ 4 ∧ xs.all askOk = true ∧ w.heap.size ≤ wr.heap.size ∧ Cur w0 wr g A n c ∧ wr.ownsRow w.heap.size 52 4 v xs.length (ints (flat Ask.ints xs))) (fun _ i _ => (intOf i).toNat)
  case atStart => exact ⟨t, [], rfl, by simp; omega, rfl, by have := ho1.size; simp at this; omega, hc1, hown1⟩
  case round =>
  obtain ⟨k, xs, rfl, hlen, hall, hws, hcr, hown⟩ := hrel
  have Hall := Lib.hid hall
  clear hall hc1 hown1 ho1
  by_cases hk : 0 < k
  rotate_left
  · obtain rfl : k = 0 := by omega
    obtain ⟨B, d, rfl⟩ := own_form hown
    have hok : asksOk xs = true := by unfold asksOk; rw [Hall.out]; simp; omega
    go_wp2
    go_ret
    exact ⟨B, d, _, xs, rfl, rfl, hok, hown, hcr⟩
  have hki : (0 : Int) < (k : Int) := by omega
  obtain ⟨m, hm⟩ : ∃ m, xs.length = m := ⟨_, rfl⟩
  rw [hm] at hlen hown
  have Hm := Lib.hid hm
  clear hm
  have step : ∀ (v : Value) (wa wb : World), wa.ownsRow w.heap.size 52 4 v m (ints (flat Ask.ints xs)) → Only (some g) wa wb → wb.ownsRow w.heap.size 52 4 v m (ints (flat Ask.ints xs)) := fun v wa wb ha hb => own_only ha hb (fun q hq e => by injection hq with hq; subst hq; have := (ha.lt _ e).1; omega)
  have HStep := Lib.hid step
  clear step
  go_wp2_with fail
  refine (l01Below_any _ _ _ _ _ bs _ _ HNb.out HRw.out hle hcr (by simp [I64])).mono ?_
  rintro e w2 ⟨⟨x1, rfl, hx1, hy1, _⟩, hc2, ho2⟩
  replace hy1 := hy1 (by omega)
  replace hown := HStep.out _ _ _ hown ho2
  replace hws := Nat.le_trans hws ho2.size
  go_wp2_with fail
  refine (l01Below_any _ _ _ _ _ bs _ _ HNb.out HRw.out hle hc2 (by simp [I64])).mono ?_
  rintro e w3 ⟨⟨x2, rfl, hx2, hy2, _⟩, hc3, ho3⟩
  replace hy2 := hy2 (by omega)
  replace hown := HStep.out _ _ _ hown ho3
  replace hws := Nat.le_trans hws ho3.size
  go_wp2_with fail
  refine (l01Below_any _ _ _ _ _ bs _ _ HNb.out HRw.out hle hc3 (by simp [I64])).mono ?_
  rintro e w4 ⟨⟨x3, rfl, hx3, hy3, _⟩, hc4, ho4⟩
  replace hy3 := hy3 (by omega)
  replace hown := HStep.out _ _ _ hown ho4
  replace hws := Nat.le_trans hws ho4.size
  go_wp2_with fail
  refine (l01Below_any _ _ _ _ _ bs _ _ HNb.out HRw.out hle hc4 (by simp [I64])).mono ?_
  rintro e w5 ⟨⟨x4, rfl, hx4, hy4, _⟩, hc5, ho5⟩
  replace hy4 := hy4 (by omega)
  replace hown := HStep.out _ _ _ hown ho5
  replace hws := Nat.le_trans hws ho5.size
  have hownL := fun q hq => (hown.lt q hq).1
  have Hadd := Lib.hid (asks_add xs (⟨x1 - 10, x1 - 10 + x2 + x3, x1 - 10 + x2, x4⟩ : Ask))
  have hok : Hid ((xs ++ [(⟨x1 - 10, x1 - 10 + x2 + x3, x1 - 10 + x2, x4⟩ : Ask)]).all askOk = true) := by
    unfold Hid
    rw [List.all_append, Hall.out]
    simp [askOk, inR]
    omega
  have HownL := Lib.hid hownL
  clear hownL
  have hnews := Blk.new w5 52 #[.int .i64 (x1 - 10), .int .i64 (x1 - 10 + x2 + x3), .int .i64 (x1 - 10 + x2), .int .i64 x4]
  have hcc : ∀ j u, (ints (Ask.ints ⟨x1 - 10, x1 - 10 + x2 + x3, x1 - 10 + x2, x4⟩))[j]? = some u → (w5.alloc (.cells #[.int .i64 (x1 - 10), .int .i64 (x1 - 10 + x2 + x3), .int .i64 (x1 - 10 + x2), .int .i64 x4] 52)).cell? ((⟨w5.heap.size, 0, none⟩ : Addr).add j) = some u := fun j u hj => by
    rw [show ((⟨w5.heap.size, 0, none⟩ : Addr).add j) = ⟨w5.heap.size, 0 + j, none⟩ from by unfold Addr.add; split <;> simp_all, Nat.zero_add, hnews.cell]
    simpa [ints, Ask.ints] using hj
  clear hnews
  go_wp2_with (at_builtin; go_must (refine wpList_append_own _ rfl _ _ 42 rfl w.heap.size 52 i0 (.agg #[.int .i64 0, .int .i64 0, .int .i64 0, .int .i64 0]) 4 32 Tryd.underlying42 hi0 hz0 hz1 hz2 rfl (by decide) _ _ _ rfl (hown.alloc _) ⟨w5.heap.size, 0, none⟩ 1 1 (ints (Ask.ints ⟨x1 - 10, x1 - 10 + x2 + x3, x1 - 10 + x2, x4⟩)) rfl rfl hcc (oneCell_ints' _) (by unfold maxLen; omega) (by omega) (by simp; omega) ?_); intro v' w6 hown' hgrow _)
  have hc6 : Cur w0 w6 g A n c := (hc5.fwd ((Ext.refl w5).alloc _)).grown hgrow (fun q hq => by have := HownL.out q hq; omega)
  have hws6 : w.heap.size ≤ w6.heap.size := by have := hgrow.size; simp at this; omega
  go_roundw
  case rel =>
    refine ⟨k - 1, xs ++ [⟨x1 - 10, x1 - 10 + x2 + x3, x1 - 10 + x2, x4⟩], ?_, by rw [List.length_append, Hm.out]; simp; omega, hok.out, hws6, hc6, ?_⟩
    · rw [show ((k - 1 : Nat) : Int) = (k : Int) - 1 by omega]
    · rw [Hadd.out, List.length_append, Hm.out]
      exact hown'
  case measure => simp [intOf]; omega
def AsksDrawn (w : World) (e : Ending) (w' : World) : Prop :=
  ∃ B d xs total, e = .returned (.tuple #[.slice B (xs : List Ask).length d, .int .i64 total]) ∧ asksOk xs = true ∧ (-10000 ≤ total ∧ total ≤ 10000) ∧ Row w' B (ints (flat Ask.ints xs)) ∧ Ext w w'
set_option maxHeartbeats 4000000 in
theorem makeAsks_any (A : Option Addr) (n c : Nat) (bs : List Int) (w : World) (hn : bs.length = n) (hr : Row w A (u8s bs)) (hle : n ≤ 1048576) :
    Calls Tryd.prog 21 #[.slice A n c] w (AsksDrawn w) := by
  go_enter Tryd.func21, Tryd.ntmps21
  go_wp2_with fail
  refine (l01New_any _ _ _ bs _ hn hr hle).mono ?_
  rintro e w1 ⟨g, rfl, hc1⟩
  go_wp2_with fail
  refine (l20Asks_any _ _ _ _ _ bs _ hn hr hle hc1).mono ?_
  rintro e w2 ⟨B, d, m, xs, rfl, hm, hok, hown, hc2⟩
  have hrow := Row.of_own hown
  have hlen : m ≤ 6 := by rw [hm]; unfold asksOk at hok; simp at hok; exact hok.2
  have hcb := leastCap_bd xs
  have Hm := Lib.hid hm
  have Hok := Lib.hid hok
  have HL := Lib.hid (specLeastCap_any B m d xs w2 hm.symm hrow (by unfold maxLen; omega))
  obtain ⟨lc, hlc⟩ : ∃ x, leastCap xs = x := ⟨_, rfl⟩
  rw [hlc] at HL hcb
  clear hlc hm hok
  go_wp2_with fail
  refine (HL.out).mono ?_
  rintro e w3 ⟨rfl, hx3⟩
  have hc3 := hc2.fwd hx3
  go_wp2_with fail
  refine (l01Below_any _ _ _ _ _ bs _ _ hn hr hle hc3 (by simp [I64])).mono ?_
  rintro e w4 ⟨⟨x, rfl, hx0, hx1, _⟩, hc4, ho4⟩
  replace hx1 := hx1 (by omega)
  have hrow4 : Row w4 B (ints (flat Ask.ints xs)) := Row.of_own (own_only (own_ext hown hx3) ho4 (fun k hk e => by injection hk with hk; subst hk; have := (hown.lt _ e).1; have := hc1.lt; omega))
  go_wp2
  go_ret2
  exact ⟨B, d, xs, lc + x - 3, by rw [Hm.out]; rfl, Hok.out, by omega, hrow4, hc4.ext⟩
end Go.Proofs.YtbbkahnfnjlajaaDoor
