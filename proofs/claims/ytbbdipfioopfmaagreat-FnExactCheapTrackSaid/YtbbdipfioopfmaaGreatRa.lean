/- A room's rows out of the words of its cells. -/
import Derived.Test.YtbbdipfioopfmaaGreatRo
import Derived.Test.YtbbdipfioopfmaaGreatMn
namespace Go.Proofs.YtbbdipfioopfmaaGreat
open Go.ChangeShapes Go.WideShapes Go.ChangeAt Go.RowKit
set_option linter.unusedVariables false

theorem AggAt.room {w : World} {lo hi c0 c6 c7 : Nat} {r : Room} {A0 A6 A7 : Option Addr} (h : AggAt w (roomF r) [.slice A0 r.Map.length c0, .int .i64 r.Div, .int .i64 r.Bx, .int .i64 r.By, .int .i64 r.Low, .int .i64 r.High, .slice A6 r.Noise.length c6, .slice A7 r.Limits.length c7] lo hi) :
    RoomAt w r A0 A6 A7 ∧ (A6 = none → r.Noise.length = 0 ∧ c6 = 0) ∧ (A7 = none → r.Limits.length = 0 ∧ c7 = 0) := by
  obtain ⟨B0, d0, t0, _, hv, q0, _, t1, h1, t2, h2, t3, h3, t4, h4, t5, h5, B6, d6, t6, _, h6, q6, _, B7, d7, t7, _, h7, q7, _⟩ := h
  obtain ⟨e0, rfl⟩ := List.cons.inj hv
  injection e0 with a0 _ b0
  subst a0 b0
  obtain ⟨_, rfl⟩ := List.cons.inj h1
  obtain ⟨_, rfl⟩ := List.cons.inj h2
  obtain ⟨_, rfl⟩ := List.cons.inj h3
  obtain ⟨_, rfl⟩ := List.cons.inj h4
  obtain ⟨_, rfl⟩ := List.cons.inj h5
  obtain ⟨e6, rfl⟩ := List.cons.inj h6
  injection e6 with a6 _ b6
  subst a6 b6
  obtain ⟨e7, _⟩ := List.cons.inj h7
  injection e7 with a7 _ b7
  subst a7 b7
  exact ⟨⟨q0.row, q6.row, q7.row⟩, q6.none, q7.none⟩
end Go.Proofs.YtbbdipfioopfmaaGreat
