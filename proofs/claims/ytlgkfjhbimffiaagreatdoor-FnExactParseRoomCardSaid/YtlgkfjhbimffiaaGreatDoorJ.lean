/- Contracts of UnusedOf and ShortOf of the program and of the reference. -/
import Derived.Test.YtlgkfjhbimffiaaGreatDoorI
import Derived.Test.YtlgkfjhbimffiaaGreatDoorPz
import Derived.OwnWalk
import Derived.Deep.DeepMust
namespace Go.Proofs.YtlgkfjhbimffiaaGreatDoor
open Go.ChangeShapes Go.WideShapes Go.ChangeAt Go.RowKit
set_option linter.unusedVariables false

theorem int_info : (Tryz.prog.info? 3).map (fun i => (i.zero, i.size, i.bytes)) = some (some (.int .i64 0), 1, 8) := by kernel_rfl

/-- a list of ints was made: a slice of the call's own -/
def IntsMade (l : List Int) (w : World) (e : Ending) (w' : World) : Prop :=
  ∃ A c, e = .returned (.slice A l.length c) ∧ w'.ownsRow w.heap.size 3 1 (.slice A l.length c) l.length (ints l) ∧ Ext w w'
theorem IntsMade.mk {l : List Int} {w w' : World} {e : Ending} {A : Option Addr} {c : Nat} (he : e = .returned (.slice A l.length c)) (hx : Ext w w') (ho : w'.ownsRow w.heap.size 3 1 (.slice A l.length c) l.length (ints l)) : IntsMade l w e w' :=
  ⟨A, c, he, ho, hx⟩




end Go.Proofs.YtlgkfjhbimffiaaGreatDoor
