/- Words for structs of ints and slices: where their rows lie, what may turn; and such arguments opened. -/
import Derived.Test.YtfnmbpjkjajpcaaGreatDoorFbHz
import Derived.Test.YtfnmbpjkjajpcaaGreatDoorFbPz
namespace Go.Proofs.YtfnmbpjkjajpcaaGreatDoor
open Go.ChangeShapes Go.WideShapes Go.ChangeAt Go.RowKit
set_option linter.unusedVariables false
structure Touch (lo hi : Nat) (a b : World) : Prop where
  os : b.os = a.os
  tape : b.tape = a.tape
  output : b.output = a.output
  size : a.heap.size ≤ b.heap.size
  block : ∀ i, i < a.heap.size → i < lo ∨ hi ≤ i → b.heap[i]? = a.heap[i]?
section
variable {a b c : World} {lo hi lo' hi' : Nat}
theorem Touch.refl (lo hi : Nat) (w : World) : Touch lo hi w w := ⟨rfl, rfl, rfl, Nat.le_refl _, fun _ _ _ => rfl⟩
theorem Touch.trans (h : Touch lo hi a b) (k : Touch lo hi b c) : Touch lo hi a c :=
  ⟨k.os.trans h.os, k.tape.trans h.tape, k.output.trans h.output, Nat.le_trans h.size k.size, fun i hi ho => (k.block i (Nat.lt_of_lt_of_le hi h.size) ho).trans (h.block i hi ho)⟩
theorem Touch.mono (h : Touch lo hi a b) (h1 : lo' ≤ lo) (h2 : hi ≤ hi') : Touch lo' hi' a b := ⟨h.os, h.tape, h.output, h.size, fun i hi ho => h.block i hi (by omega)⟩
theorem Touch.of_ext (h : Ext a b) : Touch lo hi a b := ⟨h.os, h.tape, h.output, h.size, fun i hi _ => h.block i hi⟩
theorem Touch.of_only {row : Option Nat} (h : Only row a b) (hr : ∀ g, row = some g → lo ≤ g ∧ g < hi) : Touch lo hi a b :=
  ⟨h.os, h.tape, h.output, h.size, fun i hi ho => h.block i hi (fun e => by have := hr i e.symm; omega)⟩
theorem Ext.touch (h : Ext a b) (k : Touch lo hi b c) (hl : a.heap.size ≤ lo) : Ext a c :=
  ⟨k.os.trans h.os, k.tape.trans h.tape, k.output.trans h.output, Nat.le_trans h.size k.size, fun i hi => (k.block i (Nat.lt_of_lt_of_le hi h.size) (.inl (by omega))).trans (h.block i hi)⟩
theorem Touch.cell (h : Touch lo hi a b) {p : Addr} {v : Value} (hc : a.cell? p = some v) (hp : p.block < lo ∨ hi ≤ p.block) : b.cell? p = some v := by
  have hlt := World.block_lt_of_cell? a p hc
  have := h.block p.block hlt hp
  unfold World.cell? at hc ⊢
  rw [this]
  exact hc
theorem Row.touch {A : Option Addr} {cs : List Value} (h : Row a A cs) (k : Touch lo hi a b) (hA : ∀ ad, A = some ad → ad.block < lo ∨ hi ≤ ad.block) : Row b A cs := by
  rcases h with h | ⟨g, off, hg, hc⟩
  · exact .inl h
  · exact .inr ⟨g, off, hg, fun j v hj => k.cell (hc j v hj) (show g < lo ∨ hi ≤ g from hA _ hg)⟩
theorem Blk.touch {g : Nat} {t : TypeId} {cs : Array Value} (h : Blk a g t cs) (k : Touch lo hi a b) (hg : g < lo ∨ hi ≤ g) : Blk b g t cs := (k.block g h.lt hg).trans h
end
theorem own_cap {w : World} {base : Nat} {e : TypeId} {size n c : Nat} {A : Option Addr} {xs : List Value} (h : w.ownsRow base e size (.slice A n c) n xs) : n ≤ c := by
  rcases h.2 with ⟨hv, h0⟩ | ⟨g, cap, cur, hv, _, _, hn, _⟩
  · subst h0; omega
  · injection hv with _ _ h3; subst h3; exact hn
def Mine (w : World) (lo hi : Nat) (e : TypeId) (s : Nat) (v : Value) (n : Nat) (cs : List Value) : Prop :=
  w.ownsRow lo e s v n cs ∧ ∀ g, v.ownBlock = some g → g < hi
section
variable {w w' : World} {lo hi lo' hi' : Nat} {e : TypeId} {s n : Nat} {v : Value} {cs : List Value}
theorem Mine.of_own {A : Option Addr} {c : Nat} (h : w.ownsRow lo e s (.slice A n c) n cs) : Mine w lo w.heap.size e s (.slice A n c) n cs := ⟨h, fun g hg => (own_lt h hg).2⟩
theorem Mine.ext (h : Mine w lo hi e s v n cs) (hx : Ext w w') : Mine w' lo hi e s v n cs := ⟨own_ext h.1 hx, h.2⟩
theorem Mine.wide (h : Mine w lo hi e s v n cs) (h1 : lo' ≤ lo) (h2 : hi ≤ hi') : Mine w lo' hi' e s v n cs := ⟨own_base h.1 h1, fun g hg => Nat.lt_of_lt_of_le (h.2 g hg) h2⟩
theorem Mine.row {A : Option Addr} {c : Nat} (h : Mine w lo hi e s (.slice A n c) n cs) : Row w A cs := Row.of_own h.1
theorem Mine.cap {A : Option Addr} {c : Nat} (h : Mine w lo hi e s (.slice A n c) n cs) : n ≤ c := own_cap h.1
theorem Mine.capm {A : Option Addr} {c : Nat} (h : Mine w lo hi e s (.slice A n c) n cs) : c ≤ maxLen := by
  rcases h.1.2 with ⟨hv, _⟩ | ⟨g, cap, cur, hv, _, _, _, hm, _⟩
  · injection hv with _ _ h3; subst h3; exact Nat.zero_le _
  · injection hv with _ _ h3; subst h3; exact hm
theorem Mine.len (h : Mine w lo hi e s v n cs) : cs.length = n * s := h.1.1
theorem Mine.at_ {A : Option Addr} {c g : Nat} (h : Mine w lo hi e s (.slice A n c) n cs) (hg : Value.ownBlock (.slice A n c) = some g) : lo ≤ g ∧ g < hi ∧ g < w.heap.size := by
  have h1 := own_lt h.1 hg
  exact ⟨h1.1, h.2 g hg, h1.2⟩
theorem Mine.touch {l h' : Nat} (h : Mine w lo hi e s v n cs) (k : Touch l h' w w') (hd : hi ≤ l ∨ h' ≤ lo) : Mine w' lo hi e s v n cs := by
  refine ⟨?_, h.2⟩
  obtain ⟨h1, h2⟩ := h.1
  refine ⟨h1, ?_⟩
  rcases h2 with h2 | ⟨g, cap, cur, hv, hg, hh, r⟩
  · exact .inl h2
  · have hlt := h.2 g (by rw [hv]; rfl)
    exact .inr ⟨g, cap, cur, hv, hg, by rw [k.block g (Array.getElem?_eq_some_iff.1 hh).1 (by omega)]; exact hh, r⟩
end
inductive Fd where
  | i (z : Int)
  | s (e : TypeId) (s n : Nat) (cs : List Value)
def AggRow (w : World) : List Fd → List Value → Prop
  | [], vs => vs = []
  | .i z :: fs, vs => ∃ r, vs = .int .i64 z :: r ∧ AggRow w fs r
  | .s e s n cs :: fs, vs => ∃ A c r, vs = .slice A n c :: r ∧ Row w A cs ∧ n ≤ c ∧ c ≤ maxLen ∧ AggRow w fs r
def AggAt (w : World) : List Fd → List Value → Nat → Nat → Prop
  | [], vs, lo, hi => vs = [] ∧ lo ≤ hi
  | .i z :: fs, vs, lo, hi => ∃ r, vs = .int .i64 z :: r ∧ AggAt w fs r lo hi
  | .s e s n cs :: fs, vs, lo, hi => ∃ A c r mid, vs = .slice A n c :: r ∧ Mine w lo mid e s (.slice A n c) n cs ∧ lo ≤ mid ∧ AggAt w fs r mid hi
section
variable {w w' : World}
theorem AggRow.ext {fs : List Fd} (hx : Ext w w') : ∀ {vs : List Value}, AggRow w fs vs → AggRow w' fs vs := by
  induction fs with
  | nil => exact fun h => h
  | cons f fs ih =>
    intro vs h
    cases f with
    | i z => obtain ⟨r, hv, h⟩ := h; exact ⟨r, hv, ih h⟩
    | s e s n cs => obtain ⟨A, c, r, hv, hr, h1, h2, h⟩ := h; exact ⟨A, c, r, hv, hr.ext hx, h1, h2, ih h⟩
theorem AggAt.ext {fs : List Fd} (hx : Ext w w') : ∀ {vs : List Value} {lo hi : Nat}, AggAt w fs vs lo hi → AggAt w' fs vs lo hi := by
  induction fs with
  | nil => exact fun h => h
  | cons f fs ih =>
    intro vs lo hi h
    cases f with
    | i z => obtain ⟨r, hv, h⟩ := h; exact ⟨r, hv, ih h⟩
    | s e s n cs => obtain ⟨A, c, r, mid, hv, hm, h1, h⟩ := h; exact ⟨A, c, r, mid, hv, hm.ext hx, h1, ih h⟩
theorem AggAt.le {fs : List Fd} : ∀ {vs : List Value} {lo hi : Nat}, AggAt w fs vs lo hi → lo ≤ hi := by
  induction fs with
  | nil => exact fun h => h.2
  | cons f fs ih =>
    intro vs lo hi h
    cases f with
    | i z => obtain ⟨r, hv, h⟩ := h; exact ih h
    | s e s n cs => obtain ⟨A, c, r, mid, hv, hm, h1, h⟩ := h; exact Nat.le_trans h1 (ih h)
theorem AggAt.rows {fs : List Fd} : ∀ {vs : List Value} {lo hi : Nat}, AggAt w fs vs lo hi → AggRow w fs vs := by
  induction fs with
  | nil => exact fun h => h.1
  | cons f fs ih =>
    intro vs lo hi h
    cases f with
    | i z => obtain ⟨r, hv, h⟩ := h; exact ⟨r, hv, ih h⟩
    | s e s n cs => obtain ⟨A, c, r, mid, hv, hm, h1, h⟩ := h; exact ⟨A, c, r, hv, hm.row, hm.cap, hm.capm, ih h⟩
theorem AggAt.touch {fs : List Fd} {l h' : Nat} (k : Touch l h' w w') : ∀ {vs : List Value} {lo hi : Nat}, AggAt w fs vs lo hi → hi ≤ l ∨ h' ≤ lo → AggAt w' fs vs lo hi := by
  induction fs with
  | nil => exact fun h _ => h
  | cons f fs ih =>
    intro vs lo hi h hd
    cases f with
    | i z => obtain ⟨r, hv, h⟩ := h; exact ⟨r, hv, ih h hd⟩
    | s e s n cs =>
      obtain ⟨A, c, r, mid, hv, hm, h1, h⟩ := h
      have hle := h.le
      exact ⟨A, c, r, mid, hv, hm.touch k (by omega), h1, ih h (by omega)⟩
theorem AggAt.wide {fs : List Fd} {hi hi' : Nat} (hh : hi ≤ hi') : ∀ {vs : List Value} {lo lo' : Nat}, AggAt w fs vs lo hi → lo' ≤ lo → AggAt w fs vs lo' hi' := by
  induction fs with
  | nil => exact fun h hl => ⟨h.1, by have := h.2; omega⟩
  | cons f fs ih =>
    intro vs lo lo' h hl
    cases f with
    | i z => obtain ⟨r, hv, h⟩ := h; exact ⟨r, hv, ih h hl⟩
    | s e s n cs =>
      obtain ⟨A, c, r, mid, hv, hm, h1, h⟩ := h
      exact ⟨A, c, r, mid, hv, hm.wide hl (Nat.le_refl _), by omega, ih h (Nat.le_refl _)⟩
end
inductive Kd where
  | i
  | s (e : TypeId)
def KdIn (P : Program) (w : World) : Kd → Value → Prop
  | .i, v => ∃ z, v = .int .i64 z ∧ I64 z
  | .s e, v => ∃ A len cap zs, v = .slice A len cap ∧ zs.length = len * P.cellsOf e ∧ Row w A (ints zs) ∧ len ≤ cap ∧ cap ≤ maxLen ∧ ∀ z ∈ zs, I64 z
def KdAll (P : Program) (w : World) : List Kd → List Value → Prop
  | [], vs => vs = []
  | k :: ks, vs => ∃ v r, vs = v :: r ∧ KdIn P w k v ∧ KdAll P w ks r
section
variable {H : Type} {enc : TypeId × Value → H} {P : Program} {w : World} {base : Nat} {spare : Nat → Bool} {held : Bool}
theorem KdAll.append {a b : List Kd} : ∀ {xs ys : List Value}, KdAll P w a xs → KdAll P w b ys → KdAll P w (a ++ b) (xs ++ ys) := by
  induction a with
  | nil => intro xs ys h1 h2; rw [h1]; exact h2
  | cons k a ih =>
    intro xs ys h1 h2
    obtain ⟨v, r, rfl, hv, h⟩ := h1
    exact ⟨v, r ++ ys, rfl, hv, ih h h2⟩
theorem KdAll.length {a : List Kd} : ∀ {xs : List Value}, KdAll P w a xs → xs.length = a.length := by
  induction a with
  | nil => intro xs h; rw [show xs = [] from h]; rfl
  | cons k a ih => intro xs h; obtain ⟨v, r, rfl, _, h⟩ := h; rw [List.length_cons, List.length_cons, ih h]
end
theorem Mine.grown {w w' : World} {lo hi : Nat} {e : TypeId} {s n : Nat} {u v : Value} {cs : List Value} (h : Mine w lo hi e s u n cs) (hg : w.grownBy w' (Value.ownBlock v)) (hb : ∀ g, Value.ownBlock v = some g → g < lo ∨ hi ≤ g) : Mine w' lo hi e s u n cs := by
  cases ho : Value.ownBlock v with
  | none => exact h.touch (Touch.of_only (lo := 0) (hi := 0) hg (fun g hg' => by rw [ho] at hg'; cases hg')) (Or.inr (Nat.zero_le _))
  | some g =>
    refine h.touch (Touch.of_only (lo := g) (hi := g + 1) hg (fun g' hg' => by rw [ho] at hg'; injection hg' with e; omega)) ?_
    rcases hb g ho with h1 | h1
    · exact Or.inr (by omega)
    · exact Or.inl (by omega)
end Go.Proofs.YtfnmbpjkjajpcaaGreatDoor
