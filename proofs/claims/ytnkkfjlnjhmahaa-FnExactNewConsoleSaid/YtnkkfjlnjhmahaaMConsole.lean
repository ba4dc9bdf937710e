/- Contracts of the helpers on Console: copies, comparisons, sizes, marks. (written by tools/structs.py) -/
import Derived.Test.YtnkkfjlnjhmahaaMRoom
import Derived.Test.YtnkkfjlnjhmahaaMWatch
namespace Go.Proofs.Ytnkkfjlnjhmahaa
open Go.ChangeShapes Go.WideShapes Go.ChangeAt Go.RowKit
set_option linter.unusedVariables false
set_option maxRecDepth 100000

structure Console where
  Room : Room
  State : Spot
  Watch : Watch
  Asks : List Ask
def consoleF (r : Console) : List Fd := [intF r.Room.Map, .i r.Room.Div, .i r.Room.Bx, .i r.Room.By, .i r.Room.Low, .i r.Room.High, halfF r.Room.Noise, halfF r.Room.Limits, .i r.State.X, .i r.State.Y, .i r.State.D, intF r.Watch.Room.Map, .i r.Watch.Room.Div, .i r.Watch.Room.Bx, .i r.Watch.Room.By, .i r.Watch.Room.Low, .i r.Watch.Room.High, halfF r.Watch.Room.Noise, halfF r.Watch.Room.Limits, halfF r.Watch.Region, intF r.Watch.Log, askF r.Asks]
theorem consoleF_len (r : Console) : lenF (consoleF r) = [r.Room.Map.length, r.Room.Noise.length, r.Room.Limits.length, r.Watch.Room.Map.length, r.Watch.Room.Noise.length, r.Watch.Room.Limits.length, r.Watch.Region.length, r.Watch.Log.length, r.Asks.length] := rfl
def consoleFI (r : Console) : Prop := (∀ z ∈ r.Room.Map, I64 z) ∧ I64 r.Room.Div ∧ I64 r.Room.Bx ∧ I64 r.Room.By ∧ I64 r.Room.Low ∧ I64 r.Room.High ∧ (∀ x ∈ r.Room.Noise, ∀ z ∈ Half.ints x, I64 z) ∧ (∀ x ∈ r.Room.Limits, ∀ z ∈ Half.ints x, I64 z) ∧ I64 r.State.X ∧ I64 r.State.Y ∧ I64 r.State.D ∧ (∀ z ∈ r.Watch.Room.Map, I64 z) ∧ I64 r.Watch.Room.Div ∧ I64 r.Watch.Room.Bx ∧ I64 r.Watch.Room.By ∧ I64 r.Watch.Room.Low ∧ I64 r.Watch.Room.High ∧ (∀ x ∈ r.Watch.Room.Noise, ∀ z ∈ Half.ints x, I64 z) ∧ (∀ x ∈ r.Watch.Room.Limits, ∀ z ∈ Half.ints x, I64 z) ∧ (∀ x ∈ r.Watch.Region, ∀ z ∈ Half.ints x, I64 z) ∧ (∀ z ∈ r.Watch.Log, I64 z) ∧ (∀ x ∈ r.Asks, ∀ z ∈ Ask.ints x, I64 z)
set_option maxHeartbeats 2000000 in
theorem eqConsole_same (r : Console) (us vs : List Value) (w : World) (hu : AggRow w (consoleF r) us) (hv : AggRow w (consoleF r) vs) :
    Calls Try.prog 7 #[.agg us.toArray, .agg vs.toArray] w fun e w' => e = .returned (.bool true) ∧ Ext w w' := by
  obtain ⟨Ax0, cx0, _, rfl, rx0, nx0, mx0, _, rfl, _, rfl, _, rfl, _, rfl, _, rfl, Ax6, cx6, _, rfl, rx6, nx6, mx6, Ax7, cx7, _, rfl, rx7, nx7, mx7, _, rfl, _, rfl, _, rfl, Ax11, cx11, _, rfl, rx11, nx11, mx11, _, rfl, _, rfl, _, rfl, _, rfl, _, rfl, Ax17, cx17, _, rfl, rx17, nx17, mx17, Ax18, cx18, _, rfl, rx18, nx18, mx18, Ax19, cx19, _, rfl, rx19, nx19, mx19, Ax20, cx20, _, rfl, rx20, nx20, mx20, Ax21, cx21, _, rfl, rx21, nx21, mx21, rfl⟩ := hu
  obtain ⟨Ay0, cy0, _, rfl, ry0, ny0, my0, _, rfl, _, rfl, _, rfl, _, rfl, _, rfl, Ay6, cy6, _, rfl, ry6, ny6, my6, Ay7, cy7, _, rfl, ry7, ny7, my7, _, rfl, _, rfl, _, rfl, Ay11, cy11, _, rfl, ry11, ny11, my11, _, rfl, _, rfl, _, rfl, _, rfl, _, rfl, Ay17, cy17, _, rfl, ry17, ny17, my17, Ay18, cy18, _, rfl, ry18, ny18, my18, Ay19, cy19, _, rfl, ry19, ny19, my19, Ay20, cy20, _, rfl, ry20, ny20, my20, Ay21, cy21, _, rfl, ry21, ny21, my21, rfl⟩ := hv
  have hy : Ext w ((w.alloc (.cells #[.slice Ax0 r.Room.Map.length cx0, .int .i64 r.Room.Div, .int .i64 r.Room.Bx, .int .i64 r.Room.By, .int .i64 r.Room.Low, .int .i64 r.Room.High, .slice Ax6 r.Room.Noise.length cx6, .slice Ax7 r.Room.Limits.length cx7, .int .i64 r.State.X, .int .i64 r.State.Y, .int .i64 r.State.D, .slice Ax11 r.Watch.Room.Map.length cx11, .int .i64 r.Watch.Room.Div, .int .i64 r.Watch.Room.Bx, .int .i64 r.Watch.Room.By, .int .i64 r.Watch.Room.Low, .int .i64 r.Watch.Room.High, .slice Ax17 r.Watch.Room.Noise.length cx17, .slice Ax18 r.Watch.Room.Limits.length cx18, .slice Ax19 r.Watch.Region.length cx19, .slice Ax20 r.Watch.Log.length cx20, .slice Ax21 r.Asks.length cx21] 34)).alloc (.cells #[.slice Ay0 r.Room.Map.length cy0, .int .i64 r.Room.Div, .int .i64 r.Room.Bx, .int .i64 r.Room.By, .int .i64 r.Room.Low, .int .i64 r.Room.High, .slice Ay6 r.Room.Noise.length cy6, .slice Ay7 r.Room.Limits.length cy7, .int .i64 r.State.X, .int .i64 r.State.Y, .int .i64 r.State.D, .slice Ay11 r.Watch.Room.Map.length cy11, .int .i64 r.Watch.Room.Div, .int .i64 r.Watch.Room.Bx, .int .i64 r.Watch.Room.By, .int .i64 r.Watch.Room.Low, .int .i64 r.Watch.Room.High, .slice Ay17 r.Watch.Room.Noise.length cy17, .slice Ay18 r.Watch.Room.Limits.length cy18, .slice Ay19 r.Watch.Region.length cy19, .slice Ay20 r.Watch.Log.length cy20, .slice Ay21 r.Asks.length cy21] 34)) := ((Ext.refl w).alloc _).alloc _
  have bP := (Blk.new w 34 #[.slice Ax0 r.Room.Map.length cx0, .int .i64 r.Room.Div, .int .i64 r.Room.Bx, .int .i64 r.Room.By, .int .i64 r.Room.Low, .int .i64 r.Room.High, .slice Ax6 r.Room.Noise.length cx6, .slice Ax7 r.Room.Limits.length cx7, .int .i64 r.State.X, .int .i64 r.State.Y, .int .i64 r.State.D, .slice Ax11 r.Watch.Room.Map.length cx11, .int .i64 r.Watch.Room.Div, .int .i64 r.Watch.Room.Bx, .int .i64 r.Watch.Room.By, .int .i64 r.Watch.Room.Low, .int .i64 r.Watch.Room.High, .slice Ax17 r.Watch.Room.Noise.length cx17, .slice Ax18 r.Watch.Room.Limits.length cx18, .slice Ax19 r.Watch.Region.length cx19, .slice Ax20 r.Watch.Log.length cx20, .slice Ax21 r.Asks.length cx21]).alloc (.cells #[.slice Ay0 r.Room.Map.length cy0, .int .i64 r.Room.Div, .int .i64 r.Room.Bx, .int .i64 r.Room.By, .int .i64 r.Room.Low, .int .i64 r.Room.High, .slice Ay6 r.Room.Noise.length cy6, .slice Ay7 r.Room.Limits.length cy7, .int .i64 r.State.X, .int .i64 r.State.Y, .int .i64 r.State.D, .slice Ay11 r.Watch.Room.Map.length cy11, .int .i64 r.Watch.Room.Div, .int .i64 r.Watch.Room.Bx, .int .i64 r.Watch.Room.By, .int .i64 r.Watch.Room.Low, .int .i64 r.Watch.Room.High, .slice Ay17 r.Watch.Room.Noise.length cy17, .slice Ay18 r.Watch.Room.Limits.length cy18, .slice Ay19 r.Watch.Region.length cy19, .slice Ay20 r.Watch.Log.length cy20, .slice Ay21 r.Asks.length cy21] 34)
  have bQ : Blk ((w.alloc (.cells #[.slice Ax0 r.Room.Map.length cx0, .int .i64 r.Room.Div, .int .i64 r.Room.Bx, .int .i64 r.Room.By, .int .i64 r.Room.Low, .int .i64 r.Room.High, .slice Ax6 r.Room.Noise.length cx6, .slice Ax7 r.Room.Limits.length cx7, .int .i64 r.State.X, .int .i64 r.State.Y, .int .i64 r.State.D, .slice Ax11 r.Watch.Room.Map.length cx11, .int .i64 r.Watch.Room.Div, .int .i64 r.Watch.Room.Bx, .int .i64 r.Watch.Room.By, .int .i64 r.Watch.Room.Low, .int .i64 r.Watch.Room.High, .slice Ax17 r.Watch.Room.Noise.length cx17, .slice Ax18 r.Watch.Room.Limits.length cx18, .slice Ax19 r.Watch.Region.length cx19, .slice Ax20 r.Watch.Log.length cx20, .slice Ax21 r.Asks.length cx21] 34)).alloc (.cells #[.slice Ay0 r.Room.Map.length cy0, .int .i64 r.Room.Div, .int .i64 r.Room.Bx, .int .i64 r.Room.By, .int .i64 r.Room.Low, .int .i64 r.Room.High, .slice Ay6 r.Room.Noise.length cy6, .slice Ay7 r.Room.Limits.length cy7, .int .i64 r.State.X, .int .i64 r.State.Y, .int .i64 r.State.D, .slice Ay11 r.Watch.Room.Map.length cy11, .int .i64 r.Watch.Room.Div, .int .i64 r.Watch.Room.Bx, .int .i64 r.Watch.Room.By, .int .i64 r.Watch.Room.Low, .int .i64 r.Watch.Room.High, .slice Ay17 r.Watch.Room.Noise.length cy17, .slice Ay18 r.Watch.Room.Limits.length cy18, .slice Ay19 r.Watch.Region.length cy19, .slice Ay20 r.Watch.Log.length cy20, .slice Ay21 r.Asks.length cy21] 34)) (w.heap.size + 1) 34 #[.slice Ay0 r.Room.Map.length cy0, .int .i64 r.Room.Div, .int .i64 r.Room.Bx, .int .i64 r.Room.By, .int .i64 r.Room.Low, .int .i64 r.Room.High, .slice Ay6 r.Room.Noise.length cy6, .slice Ay7 r.Room.Limits.length cy7, .int .i64 r.State.X, .int .i64 r.State.Y, .int .i64 r.State.D, .slice Ay11 r.Watch.Room.Map.length cy11, .int .i64 r.Watch.Room.Div, .int .i64 r.Watch.Room.Bx, .int .i64 r.Watch.Room.By, .int .i64 r.Watch.Room.Low, .int .i64 r.Watch.Room.High, .slice Ay17 r.Watch.Room.Noise.length cy17, .slice Ay18 r.Watch.Room.Limits.length cy18, .slice Ay19 r.Watch.Region.length cy19, .slice Ay20 r.Watch.Log.length cy20, .slice Ay21 r.Asks.length cy21] := by
    have := Blk.new (w.alloc (.cells #[.slice Ax0 r.Room.Map.length cx0, .int .i64 r.Room.Div, .int .i64 r.Room.Bx, .int .i64 r.Room.By, .int .i64 r.Room.Low, .int .i64 r.Room.High, .slice Ax6 r.Room.Noise.length cx6, .slice Ax7 r.Room.Limits.length cx7, .int .i64 r.State.X, .int .i64 r.State.Y, .int .i64 r.State.D, .slice Ax11 r.Watch.Room.Map.length cx11, .int .i64 r.Watch.Room.Div, .int .i64 r.Watch.Room.Bx, .int .i64 r.Watch.Room.By, .int .i64 r.Watch.Room.Low, .int .i64 r.Watch.Room.High, .slice Ax17 r.Watch.Room.Noise.length cx17, .slice Ax18 r.Watch.Room.Limits.length cx18, .slice Ax19 r.Watch.Region.length cx19, .slice Ax20 r.Watch.Log.length cx20, .slice Ax21 r.Asks.length cx21] 34)) 34 #[.slice Ay0 r.Room.Map.length cy0, .int .i64 r.Room.Div, .int .i64 r.Room.Bx, .int .i64 r.Room.By, .int .i64 r.Room.Low, .int .i64 r.Room.High, .slice Ay6 r.Room.Noise.length cy6, .slice Ay7 r.Room.Limits.length cy7, .int .i64 r.State.X, .int .i64 r.State.Y, .int .i64 r.State.D, .slice Ay11 r.Watch.Room.Map.length cy11, .int .i64 r.Watch.Room.Div, .int .i64 r.Watch.Room.Bx, .int .i64 r.Watch.Room.By, .int .i64 r.Watch.Room.Low, .int .i64 r.Watch.Room.High, .slice Ay17 r.Watch.Room.Noise.length cy17, .slice Ay18 r.Watch.Room.Limits.length cy18, .slice Ay19 r.Watch.Region.length cy19, .slice Ay20 r.Watch.Log.length cy20, .slice Ay21 r.Asks.length cy21]
    simpa only [World.size_alloc] using this
  go_enter Try.func7, Try.ntmps7
  go_wp2_with fail
  refine (eqRoom_same r.Room [.slice Ax0 r.Room.Map.length cx0, .int .i64 r.Room.Div, .int .i64 r.Room.Bx, .int .i64 r.Room.By, .int .i64 r.Room.Low, .int .i64 r.Room.High, .slice Ax6 r.Room.Noise.length cx6, .slice Ax7 r.Room.Limits.length cx7] [.slice Ay0 r.Room.Map.length cy0, .int .i64 r.Room.Div, .int .i64 r.Room.Bx, .int .i64 r.Room.By, .int .i64 r.Room.Low, .int .i64 r.Room.High, .slice Ay6 r.Room.Noise.length cy6, .slice Ay7 r.Room.Limits.length cy7] _ ⟨_, _, _, rfl, rx0.ext hy, nx0, mx0, _, rfl, _, rfl, _, rfl, _, rfl, _, rfl, _, _, _, rfl, rx6.ext hy, nx6, mx6, _, _, _, rfl, rx7.ext hy, nx7, mx7, rfl⟩ ⟨_, _, _, rfl, ry0.ext hy, ny0, my0, _, rfl, _, rfl, _, rfl, _, rfl, _, rfl, _, _, _, rfl, ry6.ext hy, ny6, my6, _, _, _, rfl, ry7.ext hy, ny7, my7, rfl⟩).mono ?_
  rintro e w1 ⟨rfl, hx1⟩
  replace hy := hy.trans hx1
  replace bP := bP.ext hx1
  replace bQ := bQ.ext hx1
  have cbP_3 := fun o => bP.cell o
  have cbQ_4 := fun o => bQ.cell o
  go_wp2_with fail
  refine (eqSpot_any _ _ _ _ _ _ _).mono ?_
  rintro e w2 ⟨rfl, hx2⟩
  replace hy := hy.trans hx2
  replace bP := bP.ext hx2
  replace bQ := bQ.ext hx2
  have cbP_5 := fun o => bP.cell o
  have cbQ_6 := fun o => bQ.cell o
  simp only [decide_true]
  go_wp2_with fail
  refine (eqWatch_same r.Watch [.slice Ax11 r.Watch.Room.Map.length cx11, .int .i64 r.Watch.Room.Div, .int .i64 r.Watch.Room.Bx, .int .i64 r.Watch.Room.By, .int .i64 r.Watch.Room.Low, .int .i64 r.Watch.Room.High, .slice Ax17 r.Watch.Room.Noise.length cx17, .slice Ax18 r.Watch.Room.Limits.length cx18, .slice Ax19 r.Watch.Region.length cx19, .slice Ax20 r.Watch.Log.length cx20] [.slice Ay11 r.Watch.Room.Map.length cy11, .int .i64 r.Watch.Room.Div, .int .i64 r.Watch.Room.Bx, .int .i64 r.Watch.Room.By, .int .i64 r.Watch.Room.Low, .int .i64 r.Watch.Room.High, .slice Ay17 r.Watch.Room.Noise.length cy17, .slice Ay18 r.Watch.Room.Limits.length cy18, .slice Ay19 r.Watch.Region.length cy19, .slice Ay20 r.Watch.Log.length cy20] _ ⟨_, _, _, rfl, rx11.ext hy, nx11, mx11, _, rfl, _, rfl, _, rfl, _, rfl, _, rfl, _, _, _, rfl, rx17.ext hy, nx17, mx17, _, _, _, rfl, rx18.ext hy, nx18, mx18, _, _, _, rfl, rx19.ext hy, nx19, mx19, _, _, _, rfl, rx20.ext hy, nx20, mx20, rfl⟩ ⟨_, _, _, rfl, ry11.ext hy, ny11, my11, _, rfl, _, rfl, _, rfl, _, rfl, _, rfl, _, _, _, rfl, ry17.ext hy, ny17, my17, _, _, _, rfl, ry18.ext hy, ny18, my18, _, _, _, rfl, ry19.ext hy, ny19, my19, _, _, _, rfl, ry20.ext hy, ny20, my20, rfl⟩).mono ?_
  rintro e w3 ⟨rfl, hx3⟩
  replace hy := hy.trans hx3
  replace bP := bP.ext hx3
  replace bQ := bQ.ext hx3
  have cbP_7 := fun o => bP.cell o
  have cbQ_8 := fun o => bQ.cell o
  go_wp2_with fail
  refine (eqAskS_same _ _ _ _ _ r.Asks _ rfl (rx21.ext hy) (ry21.ext hy) (Nat.le_trans nx21 mx21)).mono ?_
  rintro e w4 ⟨rfl, hx4⟩
  replace hy := hy.trans hx4
  replace bP := bP.ext hx4
  replace bQ := bQ.ext hx4
  have cbP_9 := fun o => bP.cell o
  have cbQ_10 := fun o => bQ.cell o
  go_wp2
  go_ret
  exact ⟨rfl, hy⟩
set_option maxHeartbeats 2000000 in
theorem markConsole_m (r : Console) (us : List Value) (k0 : Int) (lo hi : Nat) (w : World) (h : AggAt w (consoleF r) us lo hi) (h0 : 0 ≤ k0) (h1 : k0 + (cntF (consoleF r) : Int) ≤ 1000000000000) (hhi : hi ≤ w.heap.size) :
    Calls Try.prog 8 #[.agg us.toArray, .int .i64 k0] w fun e w' => e = .returned (.int .i64 (k0 + (cntF (consoleF r) : Int))) ∧ AggAt w' (markF (consoleF r) k0) us lo hi ∧ Touch lo hi w w' := by
  have hcnt : cntF (consoleF r) = r.Room.Map.length * 1 + r.Room.Noise.length * 3 + r.Room.Limits.length * 3 + r.Watch.Room.Map.length * 1 + r.Watch.Room.Noise.length * 3 + r.Watch.Room.Limits.length * 3 + r.Watch.Region.length * 3 + r.Watch.Log.length * 1 + r.Asks.length * 4 := by simp only [consoleF, cntF, askF, halfF, intF]; omega
  rw [hcnt] at h1 ⊢
  clear hcnt
  obtain ⟨A0, c0, _, q0, rfl, o0, l0, _, rfl, _, rfl, _, rfl, _, rfl, _, rfl, A6, c6, _, q6, rfl, o6, l6, A7, c7, _, q7, rfl, o7, l7, _, rfl, _, rfl, _, rfl, A11, c11, _, q11, rfl, o11, l11, _, rfl, _, rfl, _, rfl, _, rfl, _, rfl, A17, c17, _, q17, rfl, o17, l17, A18, c18, _, q18, rfl, o18, l18, A19, c19, _, q19, rfl, o19, l19, A20, c20, _, q20, rfl, o20, l20, A21, c21, _, q21, rfl, o21, l21, rfl, le⟩ := h
  have len0 : r.Room.Map.length * 1 ≤ 1000000000000 := by omega
  have len6 : r.Room.Noise.length * 3 ≤ 1000000000000 := by omega
  have len7 : r.Room.Limits.length * 3 ≤ 1000000000000 := by omega
  have len11 : r.Watch.Room.Map.length * 1 ≤ 1000000000000 := by omega
  have len17 : r.Watch.Room.Noise.length * 3 ≤ 1000000000000 := by omega
  have len18 : r.Watch.Room.Limits.length * 3 ≤ 1000000000000 := by omega
  have len19 : r.Watch.Region.length * 3 ≤ 1000000000000 := by omega
  have len20 : r.Watch.Log.length * 1 ≤ 1000000000000 := by omega
  have len21 : r.Asks.length * 4 ≤ 1000000000000 := by omega
  have hx : Touch lo hi w (w.alloc (.cells #[.slice A0 r.Room.Map.length c0, .int .i64 r.Room.Div, .int .i64 r.Room.Bx, .int .i64 r.Room.By, .int .i64 r.Room.Low, .int .i64 r.Room.High, .slice A6 r.Room.Noise.length c6, .slice A7 r.Room.Limits.length c7, .int .i64 r.State.X, .int .i64 r.State.Y, .int .i64 r.State.D, .slice A11 r.Watch.Room.Map.length c11, .int .i64 r.Watch.Room.Div, .int .i64 r.Watch.Room.Bx, .int .i64 r.Watch.Room.By, .int .i64 r.Watch.Room.Low, .int .i64 r.Watch.Room.High, .slice A17 r.Watch.Room.Noise.length c17, .slice A18 r.Watch.Room.Limits.length c18, .slice A19 r.Watch.Region.length c19, .slice A20 r.Watch.Log.length c20, .slice A21 r.Asks.length c21] 34)) := (Touch.refl lo hi w).alloc _
  have bP := Blk.new w 34 #[.slice A0 r.Room.Map.length c0, .int .i64 r.Room.Div, .int .i64 r.Room.Bx, .int .i64 r.Room.By, .int .i64 r.Room.Low, .int .i64 r.Room.High, .slice A6 r.Room.Noise.length c6, .slice A7 r.Room.Limits.length c7, .int .i64 r.State.X, .int .i64 r.State.Y, .int .i64 r.State.D, .slice A11 r.Watch.Room.Map.length c11, .int .i64 r.Watch.Room.Div, .int .i64 r.Watch.Room.Bx, .int .i64 r.Watch.Room.By, .int .i64 r.Watch.Room.Low, .int .i64 r.Watch.Room.High, .slice A17 r.Watch.Room.Noise.length c17, .slice A18 r.Watch.Room.Limits.length c18, .slice A19 r.Watch.Region.length c19, .slice A20 r.Watch.Log.length c20, .slice A21 r.Asks.length c21]
  have cP := fun o => bP.cell o
  replace o0 := o0.alloc (.cells #[.slice A0 r.Room.Map.length c0, .int .i64 r.Room.Div, .int .i64 r.Room.Bx, .int .i64 r.Room.By, .int .i64 r.Room.Low, .int .i64 r.Room.High, .slice A6 r.Room.Noise.length c6, .slice A7 r.Room.Limits.length c7, .int .i64 r.State.X, .int .i64 r.State.Y, .int .i64 r.State.D, .slice A11 r.Watch.Room.Map.length c11, .int .i64 r.Watch.Room.Div, .int .i64 r.Watch.Room.Bx, .int .i64 r.Watch.Room.By, .int .i64 r.Watch.Room.Low, .int .i64 r.Watch.Room.High, .slice A17 r.Watch.Room.Noise.length c17, .slice A18 r.Watch.Room.Limits.length c18, .slice A19 r.Watch.Region.length c19, .slice A20 r.Watch.Log.length c20, .slice A21 r.Asks.length c21] 34)
  replace o6 := o6.alloc (.cells #[.slice A0 r.Room.Map.length c0, .int .i64 r.Room.Div, .int .i64 r.Room.Bx, .int .i64 r.Room.By, .int .i64 r.Room.Low, .int .i64 r.Room.High, .slice A6 r.Room.Noise.length c6, .slice A7 r.Room.Limits.length c7, .int .i64 r.State.X, .int .i64 r.State.Y, .int .i64 r.State.D, .slice A11 r.Watch.Room.Map.length c11, .int .i64 r.Watch.Room.Div, .int .i64 r.Watch.Room.Bx, .int .i64 r.Watch.Room.By, .int .i64 r.Watch.Room.Low, .int .i64 r.Watch.Room.High, .slice A17 r.Watch.Room.Noise.length c17, .slice A18 r.Watch.Room.Limits.length c18, .slice A19 r.Watch.Region.length c19, .slice A20 r.Watch.Log.length c20, .slice A21 r.Asks.length c21] 34)
  replace o7 := o7.alloc (.cells #[.slice A0 r.Room.Map.length c0, .int .i64 r.Room.Div, .int .i64 r.Room.Bx, .int .i64 r.Room.By, .int .i64 r.Room.Low, .int .i64 r.Room.High, .slice A6 r.Room.Noise.length c6, .slice A7 r.Room.Limits.length c7, .int .i64 r.State.X, .int .i64 r.State.Y, .int .i64 r.State.D, .slice A11 r.Watch.Room.Map.length c11, .int .i64 r.Watch.Room.Div, .int .i64 r.Watch.Room.Bx, .int .i64 r.Watch.Room.By, .int .i64 r.Watch.Room.Low, .int .i64 r.Watch.Room.High, .slice A17 r.Watch.Room.Noise.length c17, .slice A18 r.Watch.Room.Limits.length c18, .slice A19 r.Watch.Region.length c19, .slice A20 r.Watch.Log.length c20, .slice A21 r.Asks.length c21] 34)
  replace o11 := o11.alloc (.cells #[.slice A0 r.Room.Map.length c0, .int .i64 r.Room.Div, .int .i64 r.Room.Bx, .int .i64 r.Room.By, .int .i64 r.Room.Low, .int .i64 r.Room.High, .slice A6 r.Room.Noise.length c6, .slice A7 r.Room.Limits.length c7, .int .i64 r.State.X, .int .i64 r.State.Y, .int .i64 r.State.D, .slice A11 r.Watch.Room.Map.length c11, .int .i64 r.Watch.Room.Div, .int .i64 r.Watch.Room.Bx, .int .i64 r.Watch.Room.By, .int .i64 r.Watch.Room.Low, .int .i64 r.Watch.Room.High, .slice A17 r.Watch.Room.Noise.length c17, .slice A18 r.Watch.Room.Limits.length c18, .slice A19 r.Watch.Region.length c19, .slice A20 r.Watch.Log.length c20, .slice A21 r.Asks.length c21] 34)
  replace o17 := o17.alloc (.cells #[.slice A0 r.Room.Map.length c0, .int .i64 r.Room.Div, .int .i64 r.Room.Bx, .int .i64 r.Room.By, .int .i64 r.Room.Low, .int .i64 r.Room.High, .slice A6 r.Room.Noise.length c6, .slice A7 r.Room.Limits.length c7, .int .i64 r.State.X, .int .i64 r.State.Y, .int .i64 r.State.D, .slice A11 r.Watch.Room.Map.length c11, .int .i64 r.Watch.Room.Div, .int .i64 r.Watch.Room.Bx, .int .i64 r.Watch.Room.By, .int .i64 r.Watch.Room.Low, .int .i64 r.Watch.Room.High, .slice A17 r.Watch.Room.Noise.length c17, .slice A18 r.Watch.Room.Limits.length c18, .slice A19 r.Watch.Region.length c19, .slice A20 r.Watch.Log.length c20, .slice A21 r.Asks.length c21] 34)
  replace o18 := o18.alloc (.cells #[.slice A0 r.Room.Map.length c0, .int .i64 r.Room.Div, .int .i64 r.Room.Bx, .int .i64 r.Room.By, .int .i64 r.Room.Low, .int .i64 r.Room.High, .slice A6 r.Room.Noise.length c6, .slice A7 r.Room.Limits.length c7, .int .i64 r.State.X, .int .i64 r.State.Y, .int .i64 r.State.D, .slice A11 r.Watch.Room.Map.length c11, .int .i64 r.Watch.Room.Div, .int .i64 r.Watch.Room.Bx, .int .i64 r.Watch.Room.By, .int .i64 r.Watch.Room.Low, .int .i64 r.Watch.Room.High, .slice A17 r.Watch.Room.Noise.length c17, .slice A18 r.Watch.Room.Limits.length c18, .slice A19 r.Watch.Region.length c19, .slice A20 r.Watch.Log.length c20, .slice A21 r.Asks.length c21] 34)
  replace o19 := o19.alloc (.cells #[.slice A0 r.Room.Map.length c0, .int .i64 r.Room.Div, .int .i64 r.Room.Bx, .int .i64 r.Room.By, .int .i64 r.Room.Low, .int .i64 r.Room.High, .slice A6 r.Room.Noise.length c6, .slice A7 r.Room.Limits.length c7, .int .i64 r.State.X, .int .i64 r.State.Y, .int .i64 r.State.D, .slice A11 r.Watch.Room.Map.length c11, .int .i64 r.Watch.Room.Div, .int .i64 r.Watch.Room.Bx, .int .i64 r.Watch.Room.By, .int .i64 r.Watch.Room.Low, .int .i64 r.Watch.Room.High, .slice A17 r.Watch.Room.Noise.length c17, .slice A18 r.Watch.Room.Limits.length c18, .slice A19 r.Watch.Region.length c19, .slice A20 r.Watch.Log.length c20, .slice A21 r.Asks.length c21] 34)
  replace o20 := o20.alloc (.cells #[.slice A0 r.Room.Map.length c0, .int .i64 r.Room.Div, .int .i64 r.Room.Bx, .int .i64 r.Room.By, .int .i64 r.Room.Low, .int .i64 r.Room.High, .slice A6 r.Room.Noise.length c6, .slice A7 r.Room.Limits.length c7, .int .i64 r.State.X, .int .i64 r.State.Y, .int .i64 r.State.D, .slice A11 r.Watch.Room.Map.length c11, .int .i64 r.Watch.Room.Div, .int .i64 r.Watch.Room.Bx, .int .i64 r.Watch.Room.By, .int .i64 r.Watch.Room.Low, .int .i64 r.Watch.Room.High, .slice A17 r.Watch.Room.Noise.length c17, .slice A18 r.Watch.Room.Limits.length c18, .slice A19 r.Watch.Region.length c19, .slice A20 r.Watch.Log.length c20, .slice A21 r.Asks.length c21] 34)
  replace o21 := o21.alloc (.cells #[.slice A0 r.Room.Map.length c0, .int .i64 r.Room.Div, .int .i64 r.Room.Bx, .int .i64 r.Room.By, .int .i64 r.Room.Low, .int .i64 r.Room.High, .slice A6 r.Room.Noise.length c6, .slice A7 r.Room.Limits.length c7, .int .i64 r.State.X, .int .i64 r.State.Y, .int .i64 r.State.D, .slice A11 r.Watch.Room.Map.length c11, .int .i64 r.Watch.Room.Div, .int .i64 r.Watch.Room.Bx, .int .i64 r.Watch.Room.By, .int .i64 r.Watch.Room.Low, .int .i64 r.Watch.Room.High, .slice A17 r.Watch.Room.Noise.length c17, .slice A18 r.Watch.Room.Limits.length c18, .slice A19 r.Watch.Region.length c19, .slice A20 r.Watch.Log.length c20, .slice A21 r.Asks.length c21] 34)
  go_enter Try.func8, Try.ntmps8
  go_wp2_with fail
  have hcs1 : cntF (roomF r.Room) = r.Room.Map.length * 1 + r.Room.Noise.length * 3 + r.Room.Limits.length * 3 := by simp only [roomF, cntF, halfF, intF]; omega
  refine (markRoom_m r.Room [.slice A0 r.Room.Map.length c0, .int .i64 r.Room.Div, .int .i64 r.Room.Bx, .int .i64 r.Room.By, .int .i64 r.Room.Low, .int .i64 r.Room.High, .slice A6 r.Room.Noise.length c6, .slice A7 r.Room.Limits.length c7] _ lo q7 _ ⟨_, _, _, q0, rfl, o0, l0, _, rfl, _, rfl, _, rfl, _, rfl, _, rfl, _, _, _, q6, rfl, o6, l6, _, _, _, q7, rfl, o7, l7, rfl, Nat.le_refl _⟩ (by omega) (by omega) (by first | omega | (simp <;> omega))).mono ?_
  rintro e w1 ⟨rfl, at1, t1⟩
  rw [hcs1]
  replace o11 := o11.touch t1 (by omega)
  replace o17 := o17.touch t1 (by omega)
  replace o18 := o18.touch t1 (by omega)
  replace o19 := o19.touch t1 (by omega)
  replace o20 := o20.touch t1 (by omega)
  replace o21 := o21.touch t1 (by omega)
  replace hx := hx.trans (t1.mono (by omega) (by omega))
  have hzz1 := t1.size
  simp only [World.size_alloc] at hzz1
  replace bP := bP.touch t1 (.inr (by omega))
  have cP1 := fun o => bP.cell o
  go_wp2_with fail
  have hcs2 : cntF (watchF r.Watch) = r.Watch.Room.Map.length * 1 + r.Watch.Room.Noise.length * 3 + r.Watch.Room.Limits.length * 3 + r.Watch.Region.length * 3 + r.Watch.Log.length * 1 := by simp only [watchF, cntF, halfF, intF]; omega
  refine (markWatch_m r.Watch [.slice A11 r.Watch.Room.Map.length c11, .int .i64 r.Watch.Room.Div, .int .i64 r.Watch.Room.Bx, .int .i64 r.Watch.Room.By, .int .i64 r.Watch.Room.Low, .int .i64 r.Watch.Room.High, .slice A17 r.Watch.Room.Noise.length c17, .slice A18 r.Watch.Room.Limits.length c18, .slice A19 r.Watch.Region.length c19, .slice A20 r.Watch.Log.length c20] _ q7 q20 _ ⟨_, _, _, q11, rfl, o11, l11, _, rfl, _, rfl, _, rfl, _, rfl, _, rfl, _, _, _, q17, rfl, o17, l17, _, _, _, q18, rfl, o18, l18, _, _, _, q19, rfl, o19, l19, _, _, _, q20, rfl, o20, l20, rfl, Nat.le_refl _⟩ (by omega) (by omega) (by first | omega | (simp <;> omega))).mono ?_
  rintro e w2 ⟨rfl, at2, t2⟩
  rw [hcs2]
  replace o21 := o21.touch t2 (by omega)
  replace at1 := at1.touch t2 (by omega)
  replace hx := hx.trans (t2.mono (by omega) (by omega))
  have hzz2 := t2.size
  skip
  replace bP := bP.touch t2 (.inr (by omega))
  have cP2 := fun o => bP.cell o
  go_wp2_with fail
  refine (markAskS_m _ _ _ _ _ _ _ _ o21 (by omega) (by omega) (by omega)).mono ?_
  rintro e w3 ⟨rfl, o21', t3⟩
  replace at1 := at1.touch t3 (by omega)
  replace at2 := at2.touch t3 (by omega)
  replace hx := hx.trans (t3.mono (by omega) (by omega))
  have hzz3 := t3.size
  skip
  replace bP := bP.touch t3 (.inr (by omega))
  have cP3 := fun o => bP.cell o
  go_wp2
  go_ret
  refine ⟨ret_int (by omega), ?_, hx⟩
  obtain ⟨B0, d0, _, p0, e0, o0', l0', _, e1, _, e2, _, e3, _, e4, _, e5, B6, d6, _, p6, e6, o6', l6', B7, d7, _, p7, e7, o7', l7', ee1, lle1⟩ := at1
  obtain ⟨hv0, rfl⟩ := List.cons.inj e0
  injection hv0 with ha0 _ hb0
  subst ha0 hb0
  obtain ⟨_, rfl⟩ := List.cons.inj e1
  obtain ⟨_, rfl⟩ := List.cons.inj e2
  obtain ⟨_, rfl⟩ := List.cons.inj e3
  obtain ⟨_, rfl⟩ := List.cons.inj e4
  obtain ⟨_, rfl⟩ := List.cons.inj e5
  obtain ⟨hv6, rfl⟩ := List.cons.inj e6
  injection hv6 with ha6 _ hb6
  subst ha6 hb6
  obtain ⟨hv7, rfl⟩ := List.cons.inj e7
  injection hv7 with ha7 _ hb7
  subst ha7 hb7
  obtain ⟨B11, d11, _, p11, e11, o11', l11', _, e12, _, e13, _, e14, _, e15, _, e16, B17, d17, _, p17, e17, o17', l17', B18, d18, _, p18, e18, o18', l18', B19, d19, _, p19, e19, o19', l19', B20, d20, _, p20, e20, o20', l20', ee2, lle2⟩ := at2
  obtain ⟨hv11, rfl⟩ := List.cons.inj e11
  injection hv11 with ha11 _ hb11
  subst ha11 hb11
  obtain ⟨_, rfl⟩ := List.cons.inj e12
  obtain ⟨_, rfl⟩ := List.cons.inj e13
  obtain ⟨_, rfl⟩ := List.cons.inj e14
  obtain ⟨_, rfl⟩ := List.cons.inj e15
  obtain ⟨_, rfl⟩ := List.cons.inj e16
  obtain ⟨hv17, rfl⟩ := List.cons.inj e17
  injection hv17 with ha17 _ hb17
  subst ha17 hb17
  obtain ⟨hv18, rfl⟩ := List.cons.inj e18
  injection hv18 with ha18 _ hb18
  subst ha18 hb18
  obtain ⟨hv19, rfl⟩ := List.cons.inj e19
  injection hv19 with ha19 _ hb19
  subst ha19 hb19
  obtain ⟨hv20, rfl⟩ := List.cons.inj e20
  injection hv20 with ha20 _ hb20
  subst ha20 hb20
  exact ⟨_, _, _, p0, rfl, (by first | exact o0' | exact Mine.wide (lo' := lo) o0' (by omega) (Nat.le_refl _) | simpa [Int.add_assoc] using o0' | (have q := Mine.wide (lo' := lo) o0' (by omega) (Nat.le_refl _); simpa [Int.add_assoc] using q)), (by omega), _, rfl, _, rfl, _, rfl, _, rfl, _, rfl, _, _, _, p6, rfl, (by first | exact o6' | exact Mine.wide (lo' := p0) o6' (by omega) (Nat.le_refl _) | simpa [Int.add_assoc] using o6' | (have q := Mine.wide (lo' := p0) o6' (by omega) (Nat.le_refl _); simpa [Int.add_assoc] using q)), (by omega), _, _, _, p7, rfl, (by first | exact o7' | exact Mine.wide (lo' := p6) o7' (by omega) (Nat.le_refl _) | simpa [Int.add_assoc] using o7' | (have q := Mine.wide (lo' := p6) o7' (by omega) (Nat.le_refl _); simpa [Int.add_assoc] using q)), (by omega), _, rfl, _, rfl, _, rfl, _, _, _, p11, rfl, (by first | exact o11' | exact Mine.wide (lo' := p7) o11' (by omega) (Nat.le_refl _) | simpa [Int.add_assoc] using o11' | (have q := Mine.wide (lo' := p7) o11' (by omega) (Nat.le_refl _); simpa [Int.add_assoc] using q)), (by omega), _, rfl, _, rfl, _, rfl, _, rfl, _, rfl, _, _, _, p17, rfl, (by first | exact o17' | exact Mine.wide (lo' := p11) o17' (by omega) (Nat.le_refl _) | simpa [Int.add_assoc] using o17' | (have q := Mine.wide (lo' := p11) o17' (by omega) (Nat.le_refl _); simpa [Int.add_assoc] using q)), (by omega), _, _, _, p18, rfl, (by first | exact o18' | exact Mine.wide (lo' := p17) o18' (by omega) (Nat.le_refl _) | simpa [Int.add_assoc] using o18' | (have q := Mine.wide (lo' := p17) o18' (by omega) (Nat.le_refl _); simpa [Int.add_assoc] using q)), (by omega), _, _, _, p19, rfl, (by first | exact o19' | exact Mine.wide (lo' := p18) o19' (by omega) (Nat.le_refl _) | simpa [Int.add_assoc] using o19' | (have q := Mine.wide (lo' := p18) o19' (by omega) (Nat.le_refl _); simpa [Int.add_assoc] using q)), (by omega), _, _, _, p20, rfl, (by first | exact o20' | exact Mine.wide (lo' := p19) o20' (by omega) (Nat.le_refl _) | simpa [Int.add_assoc] using o20' | (have q := Mine.wide (lo' := p19) o20' (by omega) (Nat.le_refl _); simpa [Int.add_assoc] using q)), (by omega), _, _, _, q21, rfl, (by first | exact o21' | exact Mine.wide (lo' := p20) o21' (by omega) (Nat.le_refl _) | simpa [Int.add_assoc] using o21' | (have q := Mine.wide (lo' := p20) o21' (by omega) (Nat.le_refl _); simpa [Int.add_assoc] using q)), (by omega), rfl, by omega⟩
set_option maxHeartbeats 2000000 in
theorem heldConsole_m (r : Console) (us : List Value) (k0 : Int) (w : World) (h : AggRow w (markF (consoleF r) k0) us) (h0 : 0 ≤ k0) (h1 : k0 + (cntF (consoleF r) : Int) ≤ 1000000000000) :
    Calls Try.prog 9 #[.agg us.toArray, .int .i64 k0] w fun e w' => e = .returned (.int .i64 (k0 + (cntF (consoleF r) : Int))) ∧ Ext w w' := by
  have hcnt : cntF (consoleF r) = r.Room.Map.length * 1 + r.Room.Noise.length * 3 + r.Room.Limits.length * 3 + r.Watch.Room.Map.length * 1 + r.Watch.Room.Noise.length * 3 + r.Watch.Room.Limits.length * 3 + r.Watch.Region.length * 3 + r.Watch.Log.length * 1 + r.Asks.length * 4 := by simp only [consoleF, cntF, askF, halfF, intF]; omega
  rw [hcnt] at h1 ⊢
  clear hcnt
  obtain ⟨A0, c0, _, rfl, r0, n0, m0, _, rfl, _, rfl, _, rfl, _, rfl, _, rfl, A6, c6, _, rfl, r6, n6, m6, A7, c7, _, rfl, r7, n7, m7, _, rfl, _, rfl, _, rfl, A11, c11, _, rfl, r11, n11, m11, _, rfl, _, rfl, _, rfl, _, rfl, _, rfl, A17, c17, _, rfl, r17, n17, m17, A18, c18, _, rfl, r18, n18, m18, A19, c19, _, rfl, r19, n19, m19, A20, c20, _, rfl, r20, n20, m20, A21, c21, _, rfl, r21, n21, m21, rfl⟩ := h
  have len0 : r.Room.Map.length * 1 ≤ 1000000000000 := by omega
  have len6 : r.Room.Noise.length * 3 ≤ 1000000000000 := by omega
  have len7 : r.Room.Limits.length * 3 ≤ 1000000000000 := by omega
  have len11 : r.Watch.Room.Map.length * 1 ≤ 1000000000000 := by omega
  have len17 : r.Watch.Room.Noise.length * 3 ≤ 1000000000000 := by omega
  have len18 : r.Watch.Room.Limits.length * 3 ≤ 1000000000000 := by omega
  have len19 : r.Watch.Region.length * 3 ≤ 1000000000000 := by omega
  have len20 : r.Watch.Log.length * 1 ≤ 1000000000000 := by omega
  have len21 : r.Asks.length * 4 ≤ 1000000000000 := by omega
  have hy : Ext w (w.alloc (.cells #[.slice A0 r.Room.Map.length c0, .int .i64 r.Room.Div, .int .i64 r.Room.Bx, .int .i64 r.Room.By, .int .i64 r.Room.Low, .int .i64 r.Room.High, .slice A6 r.Room.Noise.length c6, .slice A7 r.Room.Limits.length c7, .int .i64 r.State.X, .int .i64 r.State.Y, .int .i64 r.State.D, .slice A11 r.Watch.Room.Map.length c11, .int .i64 r.Watch.Room.Div, .int .i64 r.Watch.Room.Bx, .int .i64 r.Watch.Room.By, .int .i64 r.Watch.Room.Low, .int .i64 r.Watch.Room.High, .slice A17 r.Watch.Room.Noise.length c17, .slice A18 r.Watch.Room.Limits.length c18, .slice A19 r.Watch.Region.length c19, .slice A20 r.Watch.Log.length c20, .slice A21 r.Asks.length c21] 34)) := (Ext.refl w).alloc _
  have bP := Blk.new w 34 #[.slice A0 r.Room.Map.length c0, .int .i64 r.Room.Div, .int .i64 r.Room.Bx, .int .i64 r.Room.By, .int .i64 r.Room.Low, .int .i64 r.Room.High, .slice A6 r.Room.Noise.length c6, .slice A7 r.Room.Limits.length c7, .int .i64 r.State.X, .int .i64 r.State.Y, .int .i64 r.State.D, .slice A11 r.Watch.Room.Map.length c11, .int .i64 r.Watch.Room.Div, .int .i64 r.Watch.Room.Bx, .int .i64 r.Watch.Room.By, .int .i64 r.Watch.Room.Low, .int .i64 r.Watch.Room.High, .slice A17 r.Watch.Room.Noise.length c17, .slice A18 r.Watch.Room.Limits.length c18, .slice A19 r.Watch.Region.length c19, .slice A20 r.Watch.Log.length c20, .slice A21 r.Asks.length c21]
  go_enter Try.func9, Try.ntmps9
  have hcs1 : cntF (roomF r.Room) = r.Room.Map.length * 1 + r.Room.Noise.length * 3 + r.Room.Limits.length * 3 := by simp only [roomF, cntF, halfF, intF]; omega
  go_wp2_with fail
  refine (heldRoom_m r.Room [.slice A0 r.Room.Map.length c0, .int .i64 r.Room.Div, .int .i64 r.Room.Bx, .int .i64 r.Room.By, .int .i64 r.Room.Low, .int .i64 r.Room.High, .slice A6 r.Room.Noise.length c6, .slice A7 r.Room.Limits.length c7] _ _ ⟨_, _, _, rfl, (by first | exact r0.ext hy | (have := r0.ext hy; simpa [Int.add_assoc] using this)), n0, m0, _, rfl, _, rfl, _, rfl, _, rfl, _, rfl, _, _, _, rfl, (by first | exact r6.ext hy | (have := r6.ext hy; simpa [Int.add_assoc] using this)), n6, m6, _, _, _, rfl, (by first | exact r7.ext hy | (have := r7.ext hy; simpa [Int.add_assoc] using this)), n7, m7, rfl⟩ (by omega) (by omega)).mono ?_
  rintro e w1 ⟨rfl, hx1⟩
  replace hy := hy.trans hx1
  replace bP := bP.ext hx1
  have cbP_11 := fun o => bP.cell o
  rw [hcs1]
  have hcs2 : cntF (watchF r.Watch) = r.Watch.Room.Map.length * 1 + r.Watch.Room.Noise.length * 3 + r.Watch.Room.Limits.length * 3 + r.Watch.Region.length * 3 + r.Watch.Log.length * 1 := by simp only [watchF, cntF, halfF, intF]; omega
  go_wp2_with fail
  refine (heldWatch_m r.Watch [.slice A11 r.Watch.Room.Map.length c11, .int .i64 r.Watch.Room.Div, .int .i64 r.Watch.Room.Bx, .int .i64 r.Watch.Room.By, .int .i64 r.Watch.Room.Low, .int .i64 r.Watch.Room.High, .slice A17 r.Watch.Room.Noise.length c17, .slice A18 r.Watch.Room.Limits.length c18, .slice A19 r.Watch.Region.length c19, .slice A20 r.Watch.Log.length c20] _ _ ⟨_, _, _, rfl, (by first | exact r11.ext hy | (have := r11.ext hy; simpa [Int.add_assoc] using this)), n11, m11, _, rfl, _, rfl, _, rfl, _, rfl, _, rfl, _, _, _, rfl, (by first | exact r17.ext hy | (have := r17.ext hy; simpa [Int.add_assoc] using this)), n17, m17, _, _, _, rfl, (by first | exact r18.ext hy | (have := r18.ext hy; simpa [Int.add_assoc] using this)), n18, m18, _, _, _, rfl, (by first | exact r19.ext hy | (have := r19.ext hy; simpa [Int.add_assoc] using this)), n19, m19, _, _, _, rfl, (by first | exact r20.ext hy | (have := r20.ext hy; simpa [Int.add_assoc] using this)), n20, m20, rfl⟩ (by omega) (by omega)).mono ?_
  rintro e w2 ⟨rfl, hx2⟩
  replace hy := hy.trans hx2
  replace bP := bP.ext hx2
  have cbP_12 := fun o => bP.cell o
  rw [hcs2]
  go_wp2_with fail
  refine (heldAskS_m _ _ _ _ _ (by first | exact r21.ext hy | (have := r21.ext hy; simpa [Int.add_assoc] using this)) (by omega) (by omega) (by omega)).mono ?_
  rintro e w' ⟨rfl, rfl⟩
  go_wp2
  go_ret
  exact ⟨ret_int (by omega), hy⟩
end Go.Proofs.Ytnkkfjlnjhmahaa
