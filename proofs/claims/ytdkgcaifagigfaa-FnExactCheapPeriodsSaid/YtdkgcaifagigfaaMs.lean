/- Words for slices of each kind: copies, comparisons, marks. (written by tools/structs.py) -/
import Derived.Test.YtdkgcaifagigfaaMix
import Derived.Test.YtdkgcaifagigfaaHz
namespace Go.Proofs.Ytdkgcaifagigfaa
open Go.ChangeShapes Go.WideShapes Go.ChangeAt Go.RowKit
set_option linter.unusedVariables false

def intF (xs : List Int) : Fd := .s 3 1 xs.length (ints xs)

/-- the slices' cells replaced by the numbers from k on -/
def markF : List Fd → Int → List Fd
  | [], _ => []
  | .i z :: r, k => .i z :: markF r k
  | .s e s n cs :: r, k => .s e s n (ints (upTo k (n * s))) :: markF r (k + ((n * s : Nat) : Int))
/-- how many cells the slices hold -/
def cntF : List Fd → Nat
  | [] => 0
  | .i _ :: r => cntF r
  | .s _ s n _ :: r => n * s + cntF r
/-- the slices' lengths -/
def lenF : List Fd → List Nat
  | [] => []
  | .i _ :: r => lenF r
  | .s _ _ n _ :: r => n :: lenF r
theorem ret_true {b : Bool} (h : b = true) : Ending.returned (.bool b) = .returned (.bool true) := by rw [h]
theorem szL_app : ∀ (a b : List Nat) (l : Int), 0 ≤ l → szL (a ++ b) l = if szL a l < 0 then -1 else szL b (szL a l) := by
  intro a
  induction a with
  | nil =>
    intro b l h
    have e : ¬ szL [] l < 0 := by show ¬ l < 0; omega
    rw [if_neg e]
    rfl
  | cons m r ih =>
    intro b l h
    simp only [List.cons_append, szL]
    split
    · exact ih b _ (by omega)
    · simp
theorem szL_app' {a b : List Nat} {l m : Int} (h : 0 ≤ l) (hm : szL a l = m) : szL (a ++ b) l = if m < 0 then -1 else szL b m := by rw [szL_app a b l h, hm]
theorem Mine.setB {w : World} {lo hi : Nat} {e : TypeId} {s n : Nat} {v : Value} {cs : List Value} (h : Mine w lo hi e s v n cs) {p : Addr} (hp : p.block < lo ∨ hi ≤ p.block) (u : Value) : Mine (w.setCell p u) lo hi e s v n cs := by
  refine h.touch (l := p.block) (h' := p.block + 1) ⟨rfl, rfl, rfl, by simp [World.setCell], fun i hi ho => Below.heap_setCell w p u i (by omega)⟩ (by omega)
theorem Mine.alloc {w : World} {lo hi : Nat} {e : TypeId} {s n : Nat} {v : Value} {cs : List Value} (h : Mine w lo hi e s v n cs) (o : Obj) : Mine (w.alloc o) lo hi e s v n cs := h.ext ((Ext.refl w).alloc o)
theorem Touch.alloc {lo hi : Nat} {a b : World} (h : Touch lo hi a b) (o : Obj) : Touch lo hi a (b.alloc o) := h.trans (Touch.of_ext ((Ext.refl b).alloc o))

theorem toIntS_m (A : Option Addr) (n c : Nat) (xs : List Int) (w : World) (hn : xs.length = n) (hr : Row w A (ints xs)) (hle : n ≤ 1048576) :
    Calls Try.prog 16 #[.slice A n c] w fun e w' => ∃ g, e = .returned (.slice (some ⟨g, 0, none⟩) n n) ∧ Mine w' w.heap.size w'.heap.size 3 1 (.slice (some ⟨g, 0, none⟩) n n) n (ints xs) ∧ Ext w w' :=
  (toIntS_any A n c xs w hn hr hle).mono fun e w' ⟨g, h1, h2, h3⟩ => ⟨g, h1, Mine.of_own h2, h3⟩
theorem eqIntS_same (A B : Option Addr) (n c d : Nat) (xs : List Int) (w : World) (hn : xs.length = n) (hr : Row w A (ints xs)) (hs : Row w B (ints xs)) (hle : n ≤ maxLen) :
    Calls Try.prog 8 #[.slice A n c, .slice B n d] w fun e w' => e = .returned (.bool true) ∧ Ext w w' :=
  (eqIntS_any A B n n c d xs xs w hn hn hr hs hle hle).mono fun e w' ⟨h1, h2⟩ => ⟨h1.trans (ret_true (by simp)), h2⟩
theorem markIntS_m (A : Option Addr) (n c : Nat) (k0 : Int) (cs : List Value) (lo hi : Nat) (w : World) (ho : Mine w lo hi 3 1 (.slice A n c) n cs) (h0 : 0 ≤ k0) (h1 : k0 ≤ 1000000000000) (hn : n ≤ 1000000000000) :
    Calls Try.prog 11 #[.slice A n c, .int .i64 k0] w fun e w' => e = .returned (.int .i64 (k0 + ((n * 1 : Nat) : Int))) ∧ Mine w' lo hi 3 1 (.slice A n c) n (ints (upTo k0 (n * 1))) ∧ Touch lo hi w w' :=
  (markIntS_any A n c k0 cs lo w ho.1 h0 h1 hn).mono fun e w' ⟨h1, h2, h3⟩ => ⟨h1.trans (ret_int (by omega)), ⟨by simpa using h2, ho.2⟩, Touch.of_only h3 fun g hg => by have := ho.at_ hg; omega⟩
theorem heldIntS_m (A : Option Addr) (n c : Nat) (k0 : Int) (w : World) (hr : Row w A (ints (upTo k0 (n * 1)))) (h0 : 0 ≤ k0) (h1 : k0 ≤ 1000000000000) (hn : n ≤ 1000000000000) :
    Calls Try.prog 12 #[.slice A n c, .int .i64 k0] w fun e w' => e = .returned (.int .i64 (k0 + ((n * 1 : Nat) : Int))) ∧ w = w' :=
  (heldIntS_any A n c k0 w (by simpa using hr) h0 h1 hn).mono fun e w' ⟨h1, h2⟩ => ⟨h1.trans (ret_int (by omega)), h2⟩
end Go.Proofs.Ytdkgcaifagigfaa
