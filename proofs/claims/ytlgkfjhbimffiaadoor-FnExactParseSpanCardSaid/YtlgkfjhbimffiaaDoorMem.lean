/- Words for memory that all walks of this family use: a world that extends another, and a slice that reads as a list. -/
import Derived.Test.YtlgkfjhbimffiaaDoorRows
import Derived.WalkKit
import Derived.ProofKit
import Derived.OpenShut
import Derived.Below
import Derived.WalkSpells
import Derived.WalkLawsBesides
import Derived.Lib.Hide
import Derived.LoopTactic
import Derived.RegionTactic
import Derived.Deep.QuietTactic
import Derived.BigQuiet
import Derived.Outline
import Derived.Deep.Draws
import Derived.Laws.OwnMore
namespace Go.Proofs.YtlgkfjhbimffiaaDoor
open Go.ChangeShapes Go.WideShapes Go.ChangeAt Go.RowKit

/-- the world w' extends w: what was there in w is there unchanged -/
def Ext (w w' : World) : Prop := Below w.heap.size w w'

section
variable {a b c : World}
theorem Ext.refl (w : World) : Ext w w := Below.refl _ w
theorem Ext.size (h : Ext a b) : a.heap.size ≤ b.heap.size := Below.size h
theorem Ext.trans (h : Ext a b) (k : Ext b c) : Ext a c := Below.trans h (Below.mono k (Below.size h))
theorem Ext.alloc (h : Ext a b) (o : Obj) : Ext a (b.alloc o) := Below.alloc h (Below.size h) o
theorem Ext.drew (h : Ext a b) : Ext a b.drew := Below.drew h
theorem Ext.drewN (h : Ext a b) (n : Nat) : Ext a (b.drewN n) := ⟨h.os, h.tape, h.output, h.size, h.block⟩
theorem Ext.setCell (h : Ext a b) {p : Addr} (hp : a.heap.size ≤ p.block) (u : Value) : Ext a (b.setCell p u) := Below.setCell h hp u
theorem Ext.grown {row : Option Nat} (h : Ext a b) (hg : b.grownBy c row) (hr : ∀ k, row = some k → a.heap.size ≤ k) : Ext a c := Below.grown h hg (Below.size h) hr
theorem Ext.use (h : Ext a b) : (∀ x o, x < a.heap.size → b.cell? ⟨x, o, none⟩ = a.cell? ⟨x, o, none⟩) ∧ (∀ x o, x < a.heap.size → b.frozen? ⟨x, o, none⟩ = a.frozen? ⟨x, o, none⟩) ∧ a.heap.size ≤ b.heap.size :=
  ⟨fun x o hx => Below.cell (p := ⟨x, o, none⟩) h hx, fun x o hx => Below.frozen (p := ⟨x, o, none⟩) h hx, Below.size h⟩
theorem Ext.below (h : Ext a b) : Below a.heap.size a b := h
theorem Ext.cellOf (h : Ext a b) {p : Addr} {v : Value} (hc : a.cell? p = some v) : b.cell? p = some v := (Below.cell h (World.block_lt_of_cell? a p hc)).trans hc
end

/-- the cells cs lie from the address on -/
def Row (w : World) (A : Option Addr) (cs : List Value) : Prop :=
  cs = [] ∨ ∃ b off, A = some ⟨b, off, none⟩ ∧ ∀ j v, cs[j]? = some v → w.cell? ⟨b, off + j, none⟩ = some v

theorem Row.ext {w w' : World} {A : Option Addr} {cs : List Value} (h : Row w A cs) (e : Ext w w') : Row w' A cs := by
  rcases h with h | ⟨b, off, hA, hc⟩
  · exact .inl h
  · exact .inr ⟨b, off, hA, fun j v hj => e.cellOf (hc j v hj)⟩
theorem Row.at_ {w : World} {A : Option Addr} {cs : List Value} (h : Row w A cs) (hne : cs ≠ []) :
    ∃ b off, A = some ⟨b, off, none⟩ ∧ b < w.heap.size ∧ ∀ j v, cs[j]? = some v → w.cell? ⟨b, off + j, none⟩ = some v := by
  rcases h with h | ⟨b, off, hA, hc⟩
  · exact absurd h hne
  · refine ⟨b, off, hA, ?_, hc⟩
    cases cs with
    | nil => exact absurd rfl hne
    | cons v r => exact World.block_lt_of_cell? w _ (hc 0 v rfl)
theorem Row.nil (w : World) (A : Option Addr) : Row w A [] := .inl rfl

theorem Row.of_own {w : World} {base : Nat} {e : TypeId} {size n c : Nat} {A : Option Addr} {cs : List Value} (h : w.ownsRow base e size (.slice A n c) n cs) : Row w A cs := by
  by_cases hn : cs = []
  · exact .inl hn
  · rcases h.2 with ⟨hv, h0⟩ | ⟨g, cap, cur, hv, _⟩
    · have : cs.length = 0 := by have := h.1; subst h0; simpa using this
      exact absurd (List.eq_nil_of_length_eq_zero this) hn
    · injection hv with hA _ _
      subst hA
      refine .inr ⟨g, 0, rfl, fun j v hj => ?_⟩
      have := h.cells (g := g) rfl j v hj
      rwa [show ((⟨g, 0, none⟩ : Addr).add j) = ⟨g, 0 + j, none⟩ from by unfold Addr.add; split <;> simp_all] at this

/-- a list of ints as cells -/
def ints (xs : List Int) : List Value := xs.map (Value.int .i64)
theorem ints_length (xs : List Int) : (ints xs).length = xs.length := by simp [ints]
theorem ints_append (xs ys : List Int) : ints (xs ++ ys) = ints xs ++ ints ys := by simp [ints]
theorem ints_ne {xs : List Int} {k : Nat} (h : k < xs.length) : ints xs ≠ [] := by
  intro e
  have h2 : (ints xs).length = 0 := by rw [e]; rfl
  rw [ints_length] at h2
  omega
theorem ints_get {xs : List Int} {k : Nat} (h : k < xs.length) : (ints xs)[k]? = some (.int .i64 xs[k]) := by simp [ints, h]
theorem Row.int {w : World} {A : Option Addr} {xs : List Int} (h : Row w A (ints xs)) {k : Nat} (hk : k < xs.length) :
    ∃ b off, A = some ⟨b, off, none⟩ ∧ b < w.heap.size ∧ w.cell? ⟨b, off + k, none⟩ = some (.int .i64 xs[k]) := by
  obtain ⟨b, off, hA, hb, hc⟩ := h.at_ (ints_ne hk)
  exact ⟨b, off, hA, hb, hc k _ (ints_get hk)⟩

theorem ret_bool {a b : Bool} (h : a = b) : Ending.returned (.bool a) = .returned (.bool b) := by rw [h]
theorem ret_int {a b : Int} (h : a = b) : Ending.returned (.int .i64 a) = .returned (.int .i64 b) := by rw [h]

/-- a row of the call's own stays in a world that extends -/
theorem own_ext {w w' : World} {base : Nat} {e : TypeId} {size : Nat} {v : Value} {n : Nat} {xs : List Value} (h : w.ownsRow base e size v n xs) (hx : Ext w w') : w'.ownsRow base e size v n xs := by
  obtain ⟨h1, h2⟩ := h
  refine ⟨h1, ?_⟩
  rcases h2 with h2 | ⟨g, cap, cur, hv, hg, hh, r⟩
  · exact .inl h2
  · exact .inr ⟨g, cap, cur, hv, hg, by rw [hx.block g (Array.getElem?_eq_some_iff.1 hh).1]; exact hh, r⟩
theorem own_base {w : World} {base base' : Nat} {e : TypeId} {size : Nat} {v : Value} {n : Nat} {xs : List Value} (h : w.ownsRow base e size v n xs) (hb : base' ≤ base) : w.ownsRow base' e size v n xs := by
  obtain ⟨h1, h2⟩ := h
  refine ⟨h1, ?_⟩
  rcases h2 with h2 | ⟨g, cap, cur, hv, hg, r⟩
  · exact .inl h2
  · exact .inr ⟨g, cap, cur, hv, by omega, r⟩

/-- of what was there in w only block row has turned -/
def Only (row : Option Nat) (w w' : World) : Prop := w.grownBy w' row
theorem Only.refl (row : Option Nat) (w : World) : Only row w w := ⟨rfl, rfl, rfl, Nat.le_refl _, fun _ _ _ => rfl⟩
theorem Only.trans {row : Option Nat} {a b c : World} (h : Only row a b) (k : Only row b c) : Only row a c :=
  ⟨k.os.trans h.os, k.tape.trans h.tape, k.output.trans h.output, Nat.le_trans h.size k.size, fun i hi hn => (k.block i (Nat.lt_of_lt_of_le hi h.size) hn).trans (h.block i hi hn)⟩
theorem Only.set {g : Nat} {a b : World} (h : Only (some g) a b) (j : Nat) (u : Value) : Only (some g) a (b.setCell ⟨g, j, none⟩ u) :=
  h.trans ⟨rfl, rfl, rfl, by simp [World.setCell], fun k _ hk => heap_setCell_other b ⟨g, j, none⟩ k u (fun e => hk (by simp [e]))⟩
theorem Only.alloc {row : Option Nat} {a b : World} (h : Only row a b) (o : Obj) : Only row a (b.alloc o) := h.trans (World.grownBy_alloc b o row)
theorem Only.drewN {row : Option Nat} {a b : World} (h : Only row a b) (n : Nat) : Only row a (b.drewN n) := ⟨h.os, h.tape, h.output, h.size, h.block⟩
theorem Only.of_ext {row : Option Nat} {a b : World} (h : Ext a b) : Only row a b := ⟨h.os, h.tape, h.output, h.size, fun i hi _ => h.block i hi⟩
theorem Only.size {row : Option Nat} {a b : World} (h : Only row a b) : a.heap.size ≤ b.heap.size := World.grownBy.size h
/-- what the call itself has made may turn -/
theorem Ext.only {row : Option Nat} {a b c : World} (h : Ext a b) (k : Only row b c) (hr : ∀ g, row = some g → a.heap.size ≤ g) : Ext a c := Ext.grown h k hr
theorem Row.only {w w' : World} {row : Option Nat} {A : Option Addr} {cs : List Value} (h : Row w A cs) (k : Only row w w') (hr : ∀ g ad, row = some g → A = some ad → ad.block ≠ g) : Row w' A cs := by
  rcases h with h | ⟨b, off, hA, hc⟩
  · exact .inl h
  · exact .inr ⟨b, off, hA, fun j v hj => World.grownBy.cell k (hc j v hj) (fun e => hr b _ e.symm hA rfl)⟩
/-- what came in stays where only what the call itself made has turned -/
theorem Row.only0 {w0 w w' : World} {row : Option Nat} {A : Option Addr} {cs : List Value} (h : Row w A cs) (h0 : Row w0 A cs) (k : Only row w w') (hr : ∀ g, row = some g → w0.heap.size ≤ g) : Row w' A cs := by
  by_cases hne : cs = []
  · exact .inl hne
  · obtain ⟨b, off, rfl, hb, _⟩ := h0.at_ hne
    exact h.only k (fun g ad hg had => by
      have := hr g hg
      injection had with had
      subst had
      simp only
      omega)
theorem own_only {w w' : World} {row : Option Nat} {base : Nat} {e : TypeId} {size : Nat} {v : Value} {n : Nat} {xs : List Value} (h : w.ownsRow base e size v n xs) (k : Only row w w') (hr : ∀ g, row = some g → v.ownBlock ≠ some g) : w'.ownsRow base e size v n xs := by
  refine World.ownsRow.kept h k ?_
  cases row with
  | none => cases v.ownBlock <;> simp
  | some g => exact .inr (hr g rfl)

/-- cur agrees with full below m -/
def Pref (cur full : List Value) (m : Nat) : Prop := cur.length = full.length ∧ ∀ j, j < m → cur[j]? = full[j]?
theorem Pref.start {cur full : List Value} (h : cur.length = full.length) : Pref cur full 0 := ⟨h, fun j hj => by omega⟩
theorem Pref.set {cur full : List Value} {m : Nat} {u : Value} (h : Pref cur full m) (hu : full[m]? = some u) : Pref (cur.set m u) full (m + 1) := by
  refine ⟨by simpa using h.1, fun j hj => ?_⟩
  by_cases e : j = m
  · subst e
    have hl : j < cur.length := by rw [h.1]; exact (List.getElem?_eq_some_iff.1 hu).1
    rw [List.getElem?_set_self hl, hu]
  · rw [List.getElem?_set_ne (by omega)]
    exact h.2 j (by omega)
theorem Pref.done {cur full : List Value} {m : Nat} (h : Pref cur full m) (hm : full.length ≤ m) : cur = full := by
  apply List.ext_getElem?
  intro j
  by_cases hj : j < m
  · exact h.2 j hj
  · rw [List.getElem?_eq_none (by rw [h.1]; omega), List.getElem?_eq_none (by omega)]

/-- cells of a row of one's own, for the walk -/
theorem own_cell {w : World} {base : Nat} {e : TypeId} {size g n cap : Nat} {xs : List Value} (h : w.ownsRow base e size (.slice (some ⟨g, 0, none⟩) n cap) n xs) {j : Nat} (hj : j < n * size) :
    ∃ v, w.cell? ⟨g, j, none⟩ = some v := by
  have hl : j < xs.length := by rw [h.1]; exact hj
  exact ⟨xs[j], by rw [h.cellAt j hj, List.getElem?_eq_getElem hl]⟩

/-- the cells of a new row, kept from the walk's eyes -/
def made (z : Value) (size n : Nat) : Array Value := madeCells z.cells (n * size)
/-- make([]T, n), n a variable -/
theorem run_make_n {P : Program} (t e : TypeId) (size bytes : Nat) (z : Value) (ht : P.underlying t = some (.slice e)) (hi : (P.info? e).map (fun i => (i.zero, i.size, i.bytes)) = some (some z, size, bytes))
    (n : Nat) (hn : n ≤ 1048576) (hb : bytes ≤ 4096) (w : World) :
    (Instr.makeSlice t (.int .i64 (n : Int)) (.int .i64 (n : Int))).run P w = .ok (.slice (some ⟨w.heap.size, 0, none⟩) n n) (w.alloc (.cells (made z size n) e)) := by
  unfold made
  cases hie : P.info? e with
  | none => rw [hie] at hi; simp at hi
  | some i =>
    rw [hie] at hi
    simp only [Option.map_some, Option.some.injEq, Prod.mk.injEq] at hi
    obtain ⟨hz, hs, hby⟩ := hi
    have hm : (i.bytes : Int) * (n : Int) ≤ 281474976710656 := by
      have h1 : i.bytes * n ≤ 4096 * 1048576 := Nat.mul_le_mul (by omega) hn
      have h2 : ((i.bytes * n : Nat) : Int) ≤ 281474976710656 := by omega
      rwa [Int.natCast_mul] at h2
    have hr := run_make (P := P) w t e i z ht hie hz .i64 .i64 n n (by omega) (by omega) hm (by omega)
    simp only [Int.toNat_natCast, hs] at hr
    exact hr
theorem own_made (w : World) (e : TypeId) (z : Value) (size n : Nat) (hn : n ≤ 1048576) :
    (w.alloc (.cells (made z size n) e)).ownsRow w.heap.size e size (.slice (some ⟨w.heap.size, 0, none⟩) n n) n (made z size n).toList :=
  World.ownsRow_lit w _ n (Nat.le_refl _) (by unfold maxLen; omega) (size_madeCells _ _)
theorem length_made (z : Value) (size n : Nat) : (made z size n).toList.length = n * size := by simp [made, size_madeCells]

theorem own_form {w : World} {base : Nat} {e : TypeId} {size : Nat} {v : Value} {n : Nat} {xs : List Value} (h : w.ownsRow base e size v n xs) : ∃ A c, v = .slice A n c := by
  rcases h.2 with ⟨rfl, rfl⟩ | ⟨g, cap, cur, rfl, _⟩
  · exact ⟨_, _, rfl⟩
  · exact ⟨_, _, rfl⟩
theorem own_lt {w : World} {base : Nat} {e : TypeId} {size n c g : Nat} {A : Option Addr} {xs : List Value} (h : w.ownsRow base e size (.slice A n c) n xs) (hg : Value.ownBlock (.slice A n c) = some g) : base ≤ g ∧ g < w.heap.size := World.ownsRow.lt h g hg

/-- numbers of an int -/
def I64 (n : Int) : Prop := -9223372036854775808 ≤ n ∧ n ≤ 9223372036854775807
theorem I64_of_wf {n : Int} (h : (Lit.int .i64 n).wf = true) : I64 n := by
  simpa [I64, Lit.wf, IntKind.min, IntKind.max, IntKind.signed, IntKind.bits] using h
end Go.Proofs.YtlgkfjhbimffiaaDoor
