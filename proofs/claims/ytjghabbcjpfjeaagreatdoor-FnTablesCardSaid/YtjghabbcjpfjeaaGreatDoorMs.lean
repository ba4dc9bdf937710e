/- Words for slices of each kind: copies, comparisons, marks. (written by tools/structs.py) -/
import Derived.Test.YtjghabbcjpfjeaaGreatDoorMix
import Derived.Test.YtjghabbcjpfjeaaGreatDoorHz
namespace Go.Proofs.YtjghabbcjpfjeaaGreatDoor
open Go.ChangeShapes Go.WideShapes Go.ChangeAt Go.RowKit
set_option linter.unusedVariables false

def intF (xs : List Int) : Fd := .s 3 1 xs.length (ints xs)
def halfF (xs : List Half) : Fd := .s 120 3 xs.length (ints (flat Half.ints xs))
def spotF (xs : List Spot) : Fd := .s 30 3 xs.length (ints (flat Spot.ints xs))
def ratioF (xs : List Ratio) : Fd := .s 44 2 xs.length (ints (flat Ratio.ints xs))

/-- the slices' cells replaced by the numbers from k on -/
def markF : List Fd → Int → List Fd
  | [], _ => []
  | .i z :: r, k => .i z :: markF r k
  | .s e s n cs :: r, k => .s e s n (ints (upTo k (n * s))) :: markF r (k + ((n * s : Nat) : Int))
/-- how many cells the slices hold -/
def cntF : List Fd → Nat
  | [] => 0
  | .i _ :: r => cntF r
  | .s _ s n _ :: r => n * s + cntF r
/-- the slices' lengths -/
def lenF : List Fd → List Nat
  | [] => []
  | .i _ :: r => lenF r
  | .s _ _ n _ :: r => n :: lenF r
theorem ret_true {b : Bool} (h : b = true) : Ending.returned (.bool b) = .returned (.bool true) := by rw [h]
theorem szL_app : ∀ (a b : List Nat) (l : Int), 0 ≤ l → szL (a ++ b) l = if szL a l < 0 then -1 else szL b (szL a l) := by
  intro a
  induction a with
  | nil =>
    intro b l h
    have e : ¬ szL [] l < 0 := by show ¬ l < 0; omega
    rw [if_neg e]
    rfl
  | cons m r ih =>
    intro b l h
    simp only [List.cons_append, szL]
    split
    · exact ih b _ (by omega)
    · simp
theorem szL_app' {a b : List Nat} {l m : Int} (h : 0 ≤ l) (hm : szL a l = m) : szL (a ++ b) l = if m < 0 then -1 else szL b m := by rw [szL_app a b l h, hm]
theorem Mine.setB {w : World} {lo hi : Nat} {e : TypeId} {s n : Nat} {v : Value} {cs : List Value} (h : Mine w lo hi e s v n cs) {p : Addr} (hp : p.block < lo ∨ hi ≤ p.block) (u : Value) : Mine (w.setCell p u) lo hi e s v n cs := by
  refine h.touch (l := p.block) (h' := p.block + 1) ⟨rfl, rfl, rfl, by simp [World.setCell], fun i hi ho => Below.heap_setCell w p u i (by omega)⟩ (by omega)
theorem Mine.alloc {w : World} {lo hi : Nat} {e : TypeId} {s n : Nat} {v : Value} {cs : List Value} (h : Mine w lo hi e s v n cs) (o : Obj) : Mine (w.alloc o) lo hi e s v n cs := h.ext ((Ext.refl w).alloc o)
theorem Touch.alloc {lo hi : Nat} {a b : World} (h : Touch lo hi a b) (o : Obj) : Touch lo hi a (b.alloc o) := h.trans (Touch.of_ext ((Ext.refl b).alloc o))

end Go.Proofs.YtjghabbcjpfjeaaGreatDoor
