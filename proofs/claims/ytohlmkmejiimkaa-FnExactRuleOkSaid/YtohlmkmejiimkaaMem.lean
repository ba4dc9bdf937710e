/- Words for memory that all walks of this family use: a world that extends another, and a slice that reads as a list. -/
import Derived.Test.YtohlmkmejiimkaaRows
import Derived.WalkKit
import Derived.ProofKit
import Derived.OpenShut
import Derived.Below
import Derived.WalkSpells
import Derived.WalkLawsBesides
import Derived.Lib.Hide
import Derived.LoopTactic
import Derived.RegionTactic
import Derived.Deep.QuietTactic
import Derived.BigQuiet
import Derived.Outline
import Derived.Deep.Draws
import Derived.Laws.OwnMore
namespace Go.Proofs.Ytohlmkmejiimkaa
open Go.ChangeShapes Go.WideShapes Go.ChangeAt Go.RowKit

/-- the world w' extends w: what was there in w is there unchanged -/
def Ext (w w' : World) : Prop := Below w.heap.size w w'

section
variable {a b c : World}
theorem Ext.refl (w : World) : Ext w w := Below.refl _ w
theorem Ext.size (h : Ext a b) : a.heap.size ≤ b.heap.size := Below.size h
theorem Ext.trans (h : Ext a b) (k : Ext b c) : Ext a c := Below.trans h (Below.mono k (Below.size h))
theorem Ext.alloc (h : Ext a b) (o : Obj) : Ext a (b.alloc o) := Below.alloc h (Below.size h) o
theorem Ext.drew (h : Ext a b) : Ext a b.drew := Below.drew h
theorem Ext.drewN (h : Ext a b) (n : Nat) : Ext a (b.drewN n) := ⟨h.os, h.tape, h.output, h.size, h.block⟩
theorem Ext.setCell (h : Ext a b) {p : Addr} (hp : a.heap.size ≤ p.block) (u : Value) : Ext a (b.setCell p u) := Below.setCell h hp u
theorem Ext.grown {row : Option Nat} (h : Ext a b) (hg : b.grownBy c row) (hr : ∀ k, row = some k → a.heap.size ≤ k) : Ext a c := Below.grown h hg (Below.size h) hr
theorem Ext.use (h : Ext a b) : (∀ x o, x < a.heap.size → b.cell? ⟨x, o, none⟩ = a.cell? ⟨x, o, none⟩) ∧ (∀ x o, x < a.heap.size → b.frozen? ⟨x, o, none⟩ = a.frozen? ⟨x, o, none⟩) ∧ a.heap.size ≤ b.heap.size :=
  ⟨fun x o hx => Below.cell (p := ⟨x, o, none⟩) h hx, fun x o hx => Below.frozen (p := ⟨x, o, none⟩) h hx, Below.size h⟩
theorem Ext.below (h : Ext a b) : Below a.heap.size a b := h
theorem Ext.cellOf (h : Ext a b) {p : Addr} {v : Value} (hc : a.cell? p = some v) : b.cell? p = some v := (Below.cell h (World.block_lt_of_cell? a p hc)).trans hc
end

/-- the cells cs lie from the address on -/
def Row (w : World) (A : Option Addr) (cs : List Value) : Prop :=
  cs = [] ∨ ∃ b off, A = some ⟨b, off, none⟩ ∧ ∀ j v, cs[j]? = some v → w.cell? ⟨b, off + j, none⟩ = some v

theorem Row.ext {w w' : World} {A : Option Addr} {cs : List Value} (h : Row w A cs) (e : Ext w w') : Row w' A cs := by
  rcases h with h | ⟨b, off, hA, hc⟩
  · exact .inl h
  · exact .inr ⟨b, off, hA, fun j v hj => e.cellOf (hc j v hj)⟩
theorem Row.at_ {w : World} {A : Option Addr} {cs : List Value} (h : Row w A cs) (hne : cs ≠ []) :
    ∃ b off, A = some ⟨b, off, none⟩ ∧ b < w.heap.size ∧ ∀ j v, cs[j]? = some v → w.cell? ⟨b, off + j, none⟩ = some v := by
  rcases h with h | ⟨b, off, hA, hc⟩
  · exact absurd h hne
  · refine ⟨b, off, hA, ?_, hc⟩
    cases cs with
    | nil => exact absurd rfl hne
    | cons v r => exact World.block_lt_of_cell? w _ (hc 0 v rfl)
theorem Row.nil (w : World) (A : Option Addr) : Row w A [] := .inl rfl

theorem Row.of_own {w : World} {base : Nat} {e : TypeId} {size n c : Nat} {A : Option Addr} {cs : List Value} (h : w.ownsRow base e size (.slice A n c) n cs) : Row w A cs := by
  by_cases hn : cs = []
  · exact .inl hn
  · rcases h.2 with ⟨hv, h0⟩ | ⟨g, cap, cur, hv, _⟩
    · have : cs.length = 0 := by have := h.1; subst h0; simpa using this
      exact absurd (List.eq_nil_of_length_eq_zero this) hn
    · injection hv with hA _ _
      subst hA
      refine .inr ⟨g, 0, rfl, fun j v hj => ?_⟩
      have := h.cells (g := g) rfl j v hj
      rwa [show ((⟨g, 0, none⟩ : Addr).add j) = ⟨g, 0 + j, none⟩ from by unfold Addr.add; split <;> simp_all] at this

/-- a list of ints as cells -/
def ints (xs : List Int) : List Value := xs.map (Value.int .i64)
theorem ints_length (xs : List Int) : (ints xs).length = xs.length := by simp [ints]
theorem ints_append (xs ys : List Int) : ints (xs ++ ys) = ints xs ++ ints ys := by simp [ints]
theorem ints_ne {xs : List Int} {k : Nat} (h : k < xs.length) : ints xs ≠ [] := by
  intro e
  have h2 : (ints xs).length = 0 := by rw [e]; rfl
  rw [ints_length] at h2
  omega
theorem ints_get {xs : List Int} {k : Nat} (h : k < xs.length) : (ints xs)[k]? = some (.int .i64 xs[k]) := by simp [ints, h]
theorem Row.int {w : World} {A : Option Addr} {xs : List Int} (h : Row w A (ints xs)) {k : Nat} (hk : k < xs.length) :
    ∃ b off, A = some ⟨b, off, none⟩ ∧ b < w.heap.size ∧ w.cell? ⟨b, off + k, none⟩ = some (.int .i64 xs[k]) := by
  obtain ⟨b, off, hA, hb, hc⟩ := h.at_ (ints_ne hk)
  exact ⟨b, off, hA, hb, hc k _ (ints_get hk)⟩

theorem ret_bool {a b : Bool} (h : a = b) : Ending.returned (.bool a) = .returned (.bool b) := by rw [h]
theorem ret_int {a b : Int} (h : a = b) : Ending.returned (.int .i64 a) = .returned (.int .i64 b) := by rw [h]

/-- numbers of an int -/
def I64 (n : Int) : Prop := -9223372036854775808 ≤ n ∧ n ≤ 9223372036854775807
theorem I64_of_wf {n : Int} (h : (Lit.int .i64 n).wf = true) : I64 n := by
  simpa [I64, Lit.wf, IntKind.min, IntKind.max, IntKind.signed, IntKind.bits] using h
end Go.Proofs.Ytohlmkmejiimkaa
