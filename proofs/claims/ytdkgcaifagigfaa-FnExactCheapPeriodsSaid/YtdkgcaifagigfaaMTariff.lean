/- Contracts of the helpers on Tariff: copies, comparisons, sizes, marks. (written by tools/structs.py) -/
import Derived.Test.YtdkgcaifagigfaaMs
namespace Go.Proofs.Ytdkgcaifagigfaa
open Go.ChangeShapes Go.WideShapes Go.ChangeAt Go.RowKit
set_option linter.unusedVariables false
set_option maxRecDepth 100000

structure Tariff where
  Prices : List Int
def tariffF (r : Tariff) : List Fd := [intF r.Prices]
theorem tariffF_len (r : Tariff) : lenF (tariffF r) = [r.Prices.length] := rfl
def tariffFI (r : Tariff) : Prop := (∀ z ∈ r.Prices, I64 z)
theorem tariffF_open {w : World} {vs : List Value} (h : KdAll Try.prog w [.s 3] vs) : ∃ r : Tariff, AggRow w (tariffF r) vs ∧ tariffFI r := by
  obtain ⟨_, _, rfl, ⟨A0, n0, c0, zs0, rfl, hl0, hr0, hn0, hm0, hz0⟩, rfl⟩ := h
  rw [(by kernel_rfl : Try.prog.cellsOf 3 = 1), Nat.mul_one] at hl0
  subst hl0
  exact ⟨⟨zs0⟩, ⟨_, _, _, rfl, hr0, hn0, hm0, rfl⟩, hz0⟩
set_option maxHeartbeats 4000000 in
theorem toTariff_m (r : Tariff) (vs : List Value) (w : World) (h : AggRow w (tariffF r) vs) (hb : ∀ n ∈ lenF (tariffF r), n ≤ 1048576) :
    Calls Try.prog 6 #[.agg vs.toArray] w fun e w' => ∃ us, e = .returned (.agg us.toArray) ∧ AggAt w' (tariffF r) us w.heap.size w'.heap.size ∧ Ext w w' := by
  rw [tariffF_len] at hb
  obtain ⟨A0, c0, _, rfl, r0, n0, m0, rfl⟩ := h
  have b0 : r.Prices.length ≤ 1048576 := hb _ (by simp)
  have hy : Ext w (((w.alloc (.cells #[.slice A0 r.Prices.length c0] 24)).alloc (.cells #[.slice none 0 0] 27)).alloc (.cells #[.slice none 0 0] 27)) := (((Ext.refl w).alloc _).alloc _).alloc _
  have bP : Blk (((w.alloc (.cells #[.slice A0 r.Prices.length c0] 24)).alloc (.cells #[.slice none 0 0] 27)).alloc (.cells #[.slice none 0 0] 27)) w.heap.size 24 #[.slice A0 r.Prices.length c0] := ((Blk.new w _ _).alloc _).alloc _
  have bR : Blk (((w.alloc (.cells #[.slice A0 r.Prices.length c0] 24)).alloc (.cells #[.slice none 0 0] 27)).alloc (.cells #[.slice none 0 0] 27)) (w.heap.size + 1) 27 #[.slice none 0 0] := by
    have := (Blk.new (w.alloc (.cells #[.slice A0 r.Prices.length c0] 24)) 27 #[.slice none 0 0]).alloc (.cells #[.slice none 0 0] 27)
    simpa only [World.size_alloc] using this
  have bO : Blk (((w.alloc (.cells #[.slice A0 r.Prices.length c0] 24)).alloc (.cells #[.slice none 0 0] 27)).alloc (.cells #[.slice none 0 0] 27)) (w.heap.size + 2) 27 #[.slice none 0 0] := by
    have := Blk.new ((w.alloc (.cells #[.slice A0 r.Prices.length c0] 24)).alloc (.cells #[.slice none 0 0] 27)) 27 #[.slice none 0 0]
    simpa only [World.size_alloc] using this
  have cP := fun o => bP.cell o
  have fP := fun o => bP.frozen o
  have cR := fun o => bR.cell o
  have fR := fun o => bR.frozen o
  have cO := fun o => bO.cell o
  have fO := fun o => bO.frozen o
  go_enter Try.func6, Try.ntmps6
  go_wp2_with fail
  refine (toIntS_m _ _ _ r.Prices _ rfl (r0.ext (hy)) b0).mono ?_
  rintro e w1 ⟨g0, rfl, o0, hx1⟩
  have hz1 : w.heap.size + 3 ≤ w1.heap.size := by have := Ext.size hx1; simp at this; omega
  replace hy := Ext.trans (hy) hx1
  replace bP := Blk.ext (bP) hx1
  replace bR := Blk.ext (bR) hx1
  replace bO : Blk w1 (w.heap.size + 2) 27 #[.slice none 0 0] := Blk.ext (bO) hx1
  have cP1 := fun o => bP.cell o
  have fP1 := fun o => bP.frozen o
  have cR1 := fun o => bR.cell o
  have fR1 := fun o => bR.frozen o
  have cO1 := fun o => bO.cell o
  have fO1 := fun o => bO.frozen o
  go_wp2
  refine bodyPost_ret (v := .agg #[.slice (some ⟨g0, 0, none⟩) r.Prices.length r.Prices.length]) (by simp [results, Try.results6, go_sem, cR1]) rfl ⟨[.slice (some ⟨g0, 0, none⟩) r.Prices.length r.Prices.length], rfl, ?_, ?_⟩
  · exact ⟨_, _, _, w1.heap.size, rfl, Mine.wide (o0 |>.setB (.inl (by simp <;> omega)) _ |>.setB (.inl (by simp <;> omega)) _) (by simp <;> omega) (Nat.le_refl _), by omega, rfl, by simp⟩
  · exact (hy |>.setCell (by simp <;> omega) _ |>.setCell (by simp <;> omega) _)
set_option maxHeartbeats 1000000 in
theorem szTariff_m (r : Tariff) (vs : List Value) (left : Int) (w : World) (h : AggRow w (tariffF r) vs) (h0 : 0 ≤ left) (hl : left ≤ 1048576) :
    Calls Try.prog 4 #[.agg vs.toArray, .int .i64 left] w fun e w' => e = .returned (.int .i64 (szL (lenF (tariffF r)) left)) ∧ Ext w w' := by
  rw [tariffF_len]
  obtain ⟨A0, c0, _, rfl, r0, n0, m0, rfl⟩ := h
  have hy : Ext w (w.alloc (.cells #[.slice A0 r.Prices.length c0] 24)) := (Ext.refl w).alloc _
  have bP := Blk.new w 24 #[.slice A0 r.Prices.length c0]
  go_enter Try.func4, Try.ntmps4
  have E0 : Hid (szL [r.Prices.length] left = szL ([r.Prices.length] ++ []) left) := rfl
  obtain ⟨l0, hl0⟩ : ∃ l, szL ([r.Prices.length]) left = l := ⟨_, rfl⟩
  replace E0 := Lib.hid (E0.out.trans (szL_app' (a := [r.Prices.length]) (b := []) (by omega) hl0))
  have hbd0 := szL_bd ([r.Prices.length]) left (by omega)
  rw [hl0] at hbd0
  have HL0 := Lib.hid hl0
  clear hl0
  go_wp2_with fail
  refine (szIntS_any _ _ _ left _ (by omega) (by omega) (Nat.le_trans n0 m0)).mono ?_
  rintro e w' ⟨rfl, rfl⟩
  rw [← szL_one, HL0.out]
  obtain ⟨hp0, hq0⟩ := hbd0
  by_cases hc0 : l0 < 0
  · have E1 := Lib.hid (E0.out.trans (if_pos hc0))
    clear E0
    go_wp2
    go_ret
    exact ⟨ret_int E1.out.symm, hy⟩
  replace E0 := Lib.hid (E0.out.trans (if_neg hc0))
  go_wp2
  go_ret
  exact ⟨ret_int (show szL [r.Prices.length] left = l0 from E0.out).symm, hy⟩
set_option maxHeartbeats 2000000 in
theorem eqTariff_same (r : Tariff) (us vs : List Value) (w : World) (hu : AggRow w (tariffF r) us) (hv : AggRow w (tariffF r) vs) :
    Calls Try.prog 9 #[.agg us.toArray, .agg vs.toArray] w fun e w' => e = .returned (.bool true) ∧ Ext w w' := by
  obtain ⟨Ax0, cx0, _, rfl, rx0, nx0, mx0, rfl⟩ := hu
  obtain ⟨Ay0, cy0, _, rfl, ry0, ny0, my0, rfl⟩ := hv
  have hy : Ext w ((w.alloc (.cells #[.slice Ax0 r.Prices.length cx0] 27)).alloc (.cells #[.slice Ay0 r.Prices.length cy0] 27)) := ((Ext.refl w).alloc _).alloc _
  have bP := (Blk.new w 27 #[.slice Ax0 r.Prices.length cx0]).alloc (.cells #[.slice Ay0 r.Prices.length cy0] 27)
  have bQ : Blk ((w.alloc (.cells #[.slice Ax0 r.Prices.length cx0] 27)).alloc (.cells #[.slice Ay0 r.Prices.length cy0] 27)) (w.heap.size + 1) 27 #[.slice Ay0 r.Prices.length cy0] := by
    have := Blk.new (w.alloc (.cells #[.slice Ax0 r.Prices.length cx0] 27)) 27 #[.slice Ay0 r.Prices.length cy0]
    simpa only [World.size_alloc] using this
  go_enter Try.func9, Try.ntmps9
  go_wp2_with fail
  refine (eqIntS_same _ _ _ _ _ r.Prices _ rfl (rx0.ext hy) (ry0.ext hy) (Nat.le_trans nx0 mx0)).mono ?_
  rintro e w1 ⟨rfl, hx1⟩
  replace hy := hy.trans hx1
  replace bP := bP.ext hx1
  replace bQ := bQ.ext hx1
  have cbP_1 := fun o => bP.cell o
  have cbQ_2 := fun o => bQ.cell o
  go_wp2
  go_ret
  exact ⟨rfl, hy⟩
set_option maxHeartbeats 2000000 in
theorem markTariff_m (r : Tariff) (us : List Value) (k0 : Int) (lo hi : Nat) (w : World) (h : AggAt w (tariffF r) us lo hi) (h0 : 0 ≤ k0) (h1 : k0 + (cntF (tariffF r) : Int) ≤ 1000000000000) (hhi : hi ≤ w.heap.size) :
    Calls Try.prog 10 #[.agg us.toArray, .int .i64 k0] w fun e w' => e = .returned (.int .i64 (k0 + (cntF (tariffF r) : Int))) ∧ AggAt w' (markF (tariffF r) k0) us lo hi ∧ Touch lo hi w w' := by
  have hcnt : cntF (tariffF r) = r.Prices.length * 1 := by simp only [tariffF, cntF, intF]; omega
  rw [hcnt] at h1 ⊢
  clear hcnt
  obtain ⟨A0, c0, _, q0, rfl, o0, l0, rfl, le⟩ := h
  have len0 : r.Prices.length * 1 ≤ 1000000000000 := by omega
  have hx : Touch lo hi w (w.alloc (.cells #[.slice A0 r.Prices.length c0] 27)) := (Touch.refl lo hi w).alloc _
  have bP := Blk.new w 27 #[.slice A0 r.Prices.length c0]
  have cP := fun o => bP.cell o
  replace o0 := o0.alloc (.cells #[.slice A0 r.Prices.length c0] 27)
  go_enter Try.func10, Try.ntmps10
  go_wp2_with fail
  refine (markIntS_m _ _ _ _ _ _ _ _ o0 (by omega) (by omega) (by omega)).mono ?_
  rintro e w1 ⟨rfl, o0', t1⟩
  replace hx := hx.trans (t1.mono (by omega) (by omega))
  have hzz1 := t1.size
  simp only [World.size_alloc] at hzz1
  replace bP := bP.touch t1 (.inr (by omega))
  have cP1 := fun o => bP.cell o
  go_wp2
  go_ret
  refine ⟨ret_int (by omega), ?_, hx⟩
  exact ⟨_, _, _, q0, rfl, (by first | exact o0' | exact Mine.wide (lo' := lo) o0' (by omega) (Nat.le_refl _) | simpa [Int.add_assoc] using o0' | (have q := Mine.wide (lo' := lo) o0' (by omega) (Nat.le_refl _); simpa [Int.add_assoc] using q)), (by omega), rfl, by omega⟩
end Go.Proofs.Ytdkgcaifagigfaa
