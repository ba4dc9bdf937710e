/- Contracts of the helpers on Watch: copies, comparisons, sizes, marks. (written by tools/structs.py) -/
import Derived.Test.YtigkgnplgehmhaaGreatDoorMRegion
import Derived.Test.YtigkgnplgehmhaaGreatDoorMRoom
namespace Go.Proofs.YtigkgnplgehmhaaGreatDoor
open Go.ChangeShapes Go.WideShapes Go.ChangeAt Go.RowKit
set_option linter.unusedVariables false
set_option maxRecDepth 100000

structure Watch where
  Room : Room
  Region : List Half
  Log : List Int
def watchF (r : Watch) : List Fd := [intF r.Room.Map, .i r.Room.Div, .i r.Room.Bx, .i r.Room.By, .i r.Room.Low, .i r.Room.High, halfF r.Room.Noise, halfF r.Room.Limits, halfF r.Region, intF r.Log]
theorem watchF_len (r : Watch) : lenF (watchF r) = [r.Room.Map.length, r.Room.Noise.length, r.Room.Limits.length, r.Region.length, r.Log.length] := rfl
def watchFI (r : Watch) : Prop := (∀ z ∈ r.Room.Map, I64 z) ∧ I64 r.Room.Div ∧ I64 r.Room.Bx ∧ I64 r.Room.By ∧ I64 r.Room.Low ∧ I64 r.Room.High ∧ (∀ x ∈ r.Room.Noise, ∀ z ∈ Half.ints x, I64 z) ∧ (∀ x ∈ r.Room.Limits, ∀ z ∈ Half.ints x, I64 z) ∧ (∀ x ∈ r.Region, ∀ z ∈ Half.ints x, I64 z) ∧ (∀ z ∈ r.Log, I64 z)
end Go.Proofs.YtigkgnplgehmhaaGreatDoor
