/- Contracts of the helpers on Room: copies, comparisons, sizes, marks. (written by tools/structs.py) -/
import Derived.Test.YtjghabbcjpfjeaaGreatDoorMRegion
namespace Go.Proofs.YtjghabbcjpfjeaaGreatDoor
open Go.ChangeShapes Go.WideShapes Go.ChangeAt Go.RowKit
set_option linter.unusedVariables false
set_option maxRecDepth 100000

structure Room where
  Map : List Int
  Div : Int
  Bx : Int
  By : Int
  Low : Int
  High : Int
  Noise : List Half
  Limits : List Half
def roomF (r : Room) : List Fd := [intF r.Map, .i r.Div, .i r.Bx, .i r.By, .i r.Low, .i r.High, halfF r.Noise, halfF r.Limits]
theorem roomF_len (r : Room) : lenF (roomF r) = [r.Map.length, r.Noise.length, r.Limits.length] := rfl
def roomFI (r : Room) : Prop := (∀ z ∈ r.Map, I64 z) ∧ I64 r.Div ∧ I64 r.Bx ∧ I64 r.By ∧ I64 r.Low ∧ I64 r.High ∧ (∀ x ∈ r.Noise, ∀ z ∈ Half.ints x, I64 z) ∧ (∀ x ∈ r.Limits, ∀ z ∈ Half.ints x, I64 z)
end Go.Proofs.YtjghabbcjpfjeaaGreatDoor
