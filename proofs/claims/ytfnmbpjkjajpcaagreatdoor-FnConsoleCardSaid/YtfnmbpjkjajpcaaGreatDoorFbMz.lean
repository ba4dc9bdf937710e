/- Words for slices of each kind: copies, comparisons, marks. (written by tools/structs.py) -/
import Derived.Test.YtfnmbpjkjajpcaaGreatDoorFbMix
import Derived.Test.YtfnmbpjkjajpcaaGreatDoorFbHz
namespace Go.Proofs.YtfnmbpjkjajpcaaGreatDoor
open Go.ChangeShapes Go.WideShapes Go.ChangeAt Go.RowKit
set_option linter.unusedVariables false
def intF (xs : List Int) : Fd := .s 3 1 xs.length (ints xs)
def halfF (xs : List Half) : Fd := .s 116 3 xs.length (ints (flat Half.ints xs))
def askF (xs : List Ask) : Fd := .s 121 4 xs.length (ints (flat Ask.ints xs))
def lenF : List Fd → List Nat
  | [] => []
  | .i _ :: r => lenF r
  | .s _ _ n _ :: r => n :: lenF r
theorem Mine.setB {w : World} {lo hi : Nat} {e : TypeId} {s n : Nat} {v : Value} {cs : List Value} (h : Mine w lo hi e s v n cs) {p : Addr} (hp : p.block < lo ∨ hi ≤ p.block) (u : Value) : Mine (w.setCell p u) lo hi e s v n cs := by
  refine h.touch (l := p.block) (h' := p.block + 1) ⟨rfl, rfl, rfl, by simp [World.setCell], fun i hi ho => Below.heap_setCell w p u i (by omega)⟩ (by omega)
theorem Mine.alloc {w : World} {lo hi : Nat} {e : TypeId} {s n : Nat} {v : Value} {cs : List Value} (h : Mine w lo hi e s v n cs) (o : Obj) : Mine (w.alloc o) lo hi e s v n cs := h.ext ((Ext.refl w).alloc o)
theorem Touch.alloc {lo hi : Nat} {a b : World} (h : Touch lo hi a b) (o : Obj) : Touch lo hi a (b.alloc o) := h.trans (Touch.of_ext ((Ext.refl b).alloc o))
end Go.Proofs.YtfnmbpjkjajpcaaGreatDoor
namespace Go.Proofs.YtfnmbpjkjajpcaaGreatDoor
open Go.ChangeShapes Go.WideShapes Go.ChangeAt Go.RowKit
set_option linter.unusedVariables false
set_option maxRecDepth 100000
def regionF (r : List Half) : List Fd := [halfF r]
end Go.Proofs.YtfnmbpjkjajpcaaGreatDoor
namespace Go.Proofs.YtfnmbpjkjajpcaaGreatDoor
open Go.ChangeShapes Go.WideShapes Go.ChangeAt Go.RowKit
set_option linter.unusedVariables false
set_option maxRecDepth 100000
structure Room where
  Map : List Int
  Div : Int
  Bx : Int
  By : Int
  Low : Int
  High : Int
  Noise : List Half
  Limits : List Half
def roomF (r : Room) : List Fd := [intF r.Map, .i r.Div, .i r.Bx, .i r.By, .i r.Low, .i r.High, halfF r.Noise, halfF r.Limits]
def roomFI (r : Room) : Prop := (∀ z ∈ r.Map, I64 z) ∧ I64 r.Div ∧ I64 r.Bx ∧ I64 r.By ∧ I64 r.Low ∧ I64 r.High ∧ (∀ x ∈ r.Noise, ∀ z ∈ Half.ints x, I64 z) ∧ (∀ x ∈ r.Limits, ∀ z ∈ Half.ints x, I64 z)
end Go.Proofs.YtfnmbpjkjajpcaaGreatDoor
namespace Go.Proofs.YtfnmbpjkjajpcaaGreatDoor
open Go.ChangeShapes Go.WideShapes Go.ChangeAt Go.RowKit
set_option linter.unusedVariables false
set_option maxRecDepth 100000
structure Watch where
  Room : Room
  Region : List Half
  Log : List Int
def watchF (r : Watch) : List Fd := [intF r.Room.Map, .i r.Room.Div, .i r.Room.Bx, .i r.Room.By, .i r.Room.Low, .i r.Room.High, halfF r.Room.Noise, halfF r.Room.Limits, halfF r.Region, intF r.Log]
def watchFI (r : Watch) : Prop := (∀ z ∈ r.Room.Map, I64 z) ∧ I64 r.Room.Div ∧ I64 r.Room.Bx ∧ I64 r.Room.By ∧ I64 r.Room.Low ∧ I64 r.Room.High ∧ (∀ x ∈ r.Room.Noise, ∀ z ∈ Half.ints x, I64 z) ∧ (∀ x ∈ r.Room.Limits, ∀ z ∈ Half.ints x, I64 z) ∧ (∀ x ∈ r.Region, ∀ z ∈ Half.ints x, I64 z) ∧ (∀ z ∈ r.Log, I64 z)
end Go.Proofs.YtfnmbpjkjajpcaaGreatDoor
