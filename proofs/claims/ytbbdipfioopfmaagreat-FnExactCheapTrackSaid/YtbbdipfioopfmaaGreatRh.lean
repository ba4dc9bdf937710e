/- A room and a region out of the words of their cells, whatever their values. -/
import Derived.Test.YtbbdipfioopfmaaGreatRa
import Derived.Test.YtbbdipfioopfmaaGreatRz
namespace Go.Proofs.YtbbdipfioopfmaaGreat
open Go.ChangeShapes Go.WideShapes Go.ChangeAt Go.RowKit
set_option linter.unusedVariables false

theorem AggAt.here {w : World} {lo hi : Nat} {r : Room} {vs : List Value} (h : AggAt w (roomF r) vs lo hi) : ∃ A0 A6 A7 c0 c6 c7, vs = [.slice A0 r.Map.length c0, .int .i64 r.Div, .int .i64 r.Bx, .int .i64 r.By, .int .i64 r.Low, .int .i64 r.High, .slice A6 r.Noise.length c6, .slice A7 r.Limits.length c7] ∧ RoomHere w r A0 A6 A7 c0 c6 c7 := by
  have h0 := h
  obtain ⟨A0, c0, _, q0, rfl, o0, l0, _, rfl, _, rfl, _, rfl, _, rfl, _, rfl, A6, c6, _, q6, rfl, o6, l6, A7, c7, _, q7, rfl, o7, l7, rfl, le⟩ := h
  exact ⟨A0, A6, A7, c0, c6, c7, rfl, h0.room.1, h0.room.2.1, h0.room.2.2⟩
theorem AggAt.hereP {w : World} {lo hi : Nat} {r : List Half} {vs : List Value} (h : AggAt w (regionF r) vs lo hi) : ∃ A c, vs = [.slice A r.length c] ∧ Row w A (ints (flat Half.ints r)) ∧ (A = none → r.length = 0 ∧ c = 0) := by
  have h0 := h
  obtain ⟨A, c, _, q, rfl, o, l, rfl, le⟩ := h
  exact ⟨A, c, rfl, h0.rows_of, regionAt_none h0⟩
end Go.Proofs.YtbbdipfioopfmaaGreat
