/- Words for slices of each kind: copies, comparisons, marks. (written by tools/structs.py) -/
import Derived.Test.YtbbdipfioopfmaaGreatMix
import Derived.Test.YtbbdipfioopfmaaGreatHz
namespace Go.Proofs.YtbbdipfioopfmaaGreat
open Go.ChangeShapes Go.WideShapes Go.ChangeAt Go.RowKit
set_option linter.unusedVariables false

def intF (xs : List Int) : Fd := .s 3 1 xs.length (ints xs)
def halfF (xs : List Half) : Fd := .s 78 3 xs.length (ints (flat Half.ints xs))
def spotF (xs : List Spot) : Fd := .s 47 3 xs.length (ints (flat Spot.ints xs))
def ratioF (xs : List Ratio) : Fd := .s 74 2 xs.length (ints (flat Ratio.ints xs))

/-- the slices' cells replaced by the numbers from k on -/
def markF : List Fd → Int → List Fd
  | [], _ => []
  | .i z :: r, k => .i z :: markF r k
  | .s e s n cs :: r, k => .s e s n (ints (upTo k (n * s))) :: markF r (k + ((n * s : Nat) : Int))
/-- how many cells the slices hold -/
def cntF : List Fd → Nat
  | [] => 0
  | .i _ :: r => cntF r
  | .s _ s n _ :: r => n * s + cntF r
/-- the slices' lengths -/
def lenF : List Fd → List Nat
  | [] => []
  | .i _ :: r => lenF r
  | .s _ _ n _ :: r => n :: lenF r
theorem ret_true {b : Bool} (h : b = true) : Ending.returned (.bool b) = .returned (.bool true) := by rw [h]
theorem szL_app : ∀ (a b : List Nat) (l : Int), 0 ≤ l → szL (a ++ b) l = if szL a l < 0 then -1 else szL b (szL a l) := by
  intro a
  induction a with
  | nil =>
    intro b l h
    have e : ¬ szL [] l < 0 := by show ¬ l < 0; omega
    rw [if_neg e]
    rfl
  | cons m r ih =>
    intro b l h
    simp only [List.cons_append, szL]
    split
    · exact ih b _ (by omega)
    · simp
theorem szL_app' {a b : List Nat} {l m : Int} (h : 0 ≤ l) (hm : szL a l = m) : szL (a ++ b) l = if m < 0 then -1 else szL b m := by rw [szL_app a b l h, hm]
theorem Mine.setB {w : World} {lo hi : Nat} {e : TypeId} {s n : Nat} {v : Value} {cs : List Value} (h : Mine w lo hi e s v n cs) {p : Addr} (hp : p.block < lo ∨ hi ≤ p.block) (u : Value) : Mine (w.setCell p u) lo hi e s v n cs := by
  refine h.touch (l := p.block) (h' := p.block + 1) ⟨rfl, rfl, rfl, by simp [World.setCell], fun i hi ho => Below.heap_setCell w p u i (by omega)⟩ (by omega)
theorem Mine.alloc {w : World} {lo hi : Nat} {e : TypeId} {s n : Nat} {v : Value} {cs : List Value} (h : Mine w lo hi e s v n cs) (o : Obj) : Mine (w.alloc o) lo hi e s v n cs := h.ext ((Ext.refl w).alloc o)
theorem Touch.alloc {lo hi : Nat} {a b : World} (h : Touch lo hi a b) (o : Obj) : Touch lo hi a (b.alloc o) := h.trans (Touch.of_ext ((Ext.refl b).alloc o))

theorem toIntS_m (A : Option Addr) (n c : Nat) (xs : List Int) (w : World) (hn : xs.length = n) (hr : Row w A (ints xs)) (hle : n ≤ 1048576) :
    Calls Tryz.prog 26 #[.slice A n c] w fun e w' => ∃ g, e = .returned (.slice (some ⟨g, 0, none⟩) n n) ∧ Mine w' w.heap.size w'.heap.size 3 1 (.slice (some ⟨g, 0, none⟩) n n) n (ints xs) ∧ Ext w w' :=
  (toIntS_any A n c xs w hn hr hle).mono fun e w' ⟨g, h1, h2, h3⟩ => ⟨g, h1, Mine.of_own h2, h3⟩
theorem eqIntS_same (A B : Option Addr) (n c d : Nat) (xs : List Int) (w : World) (hn : xs.length = n) (hr : Row w A (ints xs)) (hs : Row w B (ints xs)) (hle : n ≤ maxLen) :
    Calls Tryz.prog 31 #[.slice A n c, .slice B n d] w fun e w' => e = .returned (.bool true) ∧ Ext w w' :=
  (eqIntS_any A B n n c d xs xs w hn hn hr hs hle hle).mono fun e w' ⟨h1, h2⟩ => ⟨h1.trans (ret_true (by simp)), h2⟩
theorem markIntS_m (A : Option Addr) (n c : Nat) (k0 : Int) (cs : List Value) (lo hi : Nat) (w : World) (ho : Mine w lo hi 3 1 (.slice A n c) n cs) (h0 : 0 ≤ k0) (h1 : k0 ≤ 1000000000000) (hn : n ≤ 1000000000000) :
    Calls Tryz.prog 34 #[.slice A n c, .int .i64 k0] w fun e w' => e = .returned (.int .i64 (k0 + ((n * 1 : Nat) : Int))) ∧ Mine w' lo hi 3 1 (.slice A n c) n (ints (upTo k0 (n * 1))) ∧ Touch lo hi w w' :=
  (markIntS_any A n c k0 cs lo w ho.1 h0 h1 hn).mono fun e w' ⟨h1, h2, h3⟩ => ⟨h1.trans (ret_int (by omega)), ⟨by simpa using h2, ho.2⟩, Touch.of_only h3 fun g hg => by have := ho.at_ hg; omega⟩
theorem toHalfS_m (A : Option Addr) (n c : Nat) (xs : List Half) (w : World) (hn : xs.length = n) (hr : Row w A (ints (flat Half.ints xs))) (hle : n ≤ 1048576) :
    Calls Tryz.prog 27 #[.slice A n c] w fun e w' => ∃ g, e = .returned (.slice (some ⟨g, 0, none⟩) n n) ∧ Mine w' w.heap.size w'.heap.size 78 3 (.slice (some ⟨g, 0, none⟩) n n) n (ints (flat Half.ints xs)) ∧ Ext w w' :=
  (toHalfS_any A n c xs w hn hr hle).mono fun e w' ⟨g, h1, h2, h3⟩ => ⟨g, h1, Mine.of_own h2, h3⟩
theorem eqHalfS_same (A B : Option Addr) (n c d : Nat) (xs : List Half) (w : World) (hn : xs.length = n) (hr : Row w A (ints (flat Half.ints xs))) (hs : Row w B (ints (flat Half.ints xs))) (hle : n ≤ maxLen) :
    Calls Tryz.prog 32 #[.slice A n c, .slice B n d] w fun e w' => e = .returned (.bool true) ∧ Ext w w' :=
  (eqHalfS_any A B n n c d xs xs w hn hn hr hs hle hle).mono fun e w' ⟨h1, h2⟩ => ⟨h1.trans (ret_true (by simp)), h2⟩
theorem markHalfS_m (A : Option Addr) (n c : Nat) (k0 : Int) (cs : List Value) (lo hi : Nat) (w : World) (ho : Mine w lo hi 78 3 (.slice A n c) n cs) (h0 : 0 ≤ k0) (h1 : k0 ≤ 1000000000000) (hn : n ≤ 1000000000000) :
    Calls Tryz.prog 35 #[.slice A n c, .int .i64 k0] w fun e w' => e = .returned (.int .i64 (k0 + ((n * 3 : Nat) : Int))) ∧ Mine w' lo hi 78 3 (.slice A n c) n (ints (upTo k0 (n * 3))) ∧ Touch lo hi w w' :=
  (markHalfS_any A n c k0 cs lo w ho.1 h0 h1 hn).mono fun e w' ⟨h1, h2, h3⟩ => ⟨h1.trans (ret_int (by omega)), ⟨by simpa using h2, ho.2⟩, Touch.of_only h3 fun g hg => by have := ho.at_ hg; omega⟩
theorem toSpotS_m (A : Option Addr) (n c : Nat) (xs : List Spot) (w : World) (hn : xs.length = n) (hr : Row w A (ints (flat Spot.ints xs))) (hle : n ≤ 1048576) :
    Calls Tryz.prog 11 #[.slice A n c] w fun e w' => ∃ g, e = .returned (.slice (some ⟨g, 0, none⟩) n n) ∧ Mine w' w.heap.size w'.heap.size 47 3 (.slice (some ⟨g, 0, none⟩) n n) n (ints (flat Spot.ints xs)) ∧ Ext w w' :=
  (toSpotS_any A n c xs w hn hr hle).mono fun e w' ⟨g, h1, h2, h3⟩ => ⟨g, h1, Mine.of_own h2, h3⟩
theorem eqSpotS_same (A B : Option Addr) (n c d : Nat) (xs : List Spot) (w : World) (hn : xs.length = n) (hr : Row w A (ints (flat Spot.ints xs))) (hs : Row w B (ints (flat Spot.ints xs))) (hle : n ≤ maxLen) :
    Calls Tryz.prog 16 #[.slice A n c, .slice B n d] w fun e w' => e = .returned (.bool true) ∧ Ext w w' :=
  (eqSpotS_any A B n n c d xs xs w hn hn hr hs hle hle).mono fun e w' ⟨h1, h2⟩ => ⟨h1.trans (ret_true (by simp)), h2⟩
theorem markSpotS_m (A : Option Addr) (n c : Nat) (k0 : Int) (cs : List Value) (lo hi : Nat) (w : World) (ho : Mine w lo hi 47 3 (.slice A n c) n cs) (h0 : 0 ≤ k0) (h1 : k0 ≤ 1000000000000) (hn : n ≤ 1000000000000) :
    Calls Tryz.prog 19 #[.slice A n c, .int .i64 k0] w fun e w' => e = .returned (.int .i64 (k0 + ((n * 3 : Nat) : Int))) ∧ Mine w' lo hi 47 3 (.slice A n c) n (ints (upTo k0 (n * 3))) ∧ Touch lo hi w w' :=
  (markSpotS_any A n c k0 cs lo w ho.1 h0 h1 hn).mono fun e w' ⟨h1, h2, h3⟩ => ⟨h1.trans (ret_int (by omega)), ⟨by simpa using h2, ho.2⟩, Touch.of_only h3 fun g hg => by have := ho.at_ hg; omega⟩
set_option maxHeartbeats 1000000 in
theorem heldSpotS_m (A : Option Addr) (n c : Nat) (k0 : Int) (w : World) (hr : Row w A (ints (upTo k0 (n * 3)))) (h0 : 0 ≤ k0) (h1 : k0 ≤ 1000000000000) (hn : n ≤ 1000000000000) :
    Calls Tryz.prog 37 #[.slice A n c, .int .i64 k0] w fun e w' => e = .returned (.int .i64 (k0 + ((n * 3 : Nat) : Int))) ∧ w = w' := by
  have Hl := Lib.hid (upTo_length k0 (n * 3))
  go_enter Tryz.func37, Tryz.ntmps37
  go_wp2
  go_loop [1, 5] (fun m i => ∃ (k : Nat), k ≤ n ∧ i = .int .i64 k ∧ m = .int .i64 (k0 + (3 : Int) * (k : Int))) (fun _ i => n - (intOf i).toNat)
  case atStart => exact ⟨0, Nat.zero_le _, rfl, by simp⟩
  case round =>
    obtain ⟨k, hk, rfl, rfl⟩ := hrel
    by_cases hlt : k < n
    · obtain ⟨b, off, rfl, hb0, hc0⟩ := hr.int (k := k * 3 + 0) (by rw [Hl.out]; omega)
      rw [upTo_at, show k0 + ((k * 3 + 0 : Nat) : Int) = k0 + (3 : Int) * (k : Int) from by omega] at hc0
      rw [Nat.add_zero] at hc0
      obtain ⟨b1, off1, hA1, hb1, hc1⟩ := hr.int (k := k * 3 + 1) (by rw [Hl.out]; omega)
      injection hA1 with hA1
      injection hA1 with e1 e2
      subst e1 e2
      rw [upTo_at, show k0 + ((k * 3 + 1 : Nat) : Int) = k0 + (3 : Int) * (k : Int) + 1 from by omega] at hc1
      rw [← Nat.add_assoc] at hc1
      obtain ⟨b2, off2, hA2, hb2, hc2⟩ := hr.int (k := k * 3 + 2) (by rw [Hl.out]; omega)
      injection hA2 with hA2
      injection hA2 with e1 e2
      subst e1 e2
      rw [upTo_at, show k0 + ((k * 3 + 2 : Nat) : Int) = k0 + (3 : Int) * (k : Int) + 2 from by omega] at hc2
      rw [← Nat.add_assoc] at hc2
      go_wp2
      go_round
      case rel => exact ⟨k + 1, by omega, by go_num, by congr 1; omega⟩
      case measure => simp [intOf]; omega
    · go_wp2
      go_ret
      exact ⟨ret_int (by rw [show k = n from by omega]; omega), rfl⟩
theorem eqRatioS_same (A B : Option Addr) (n c d : Nat) (xs : List Ratio) (w : World) (hn : xs.length = n) (hr : Row w A (ints (flat Ratio.ints xs))) (hs : Row w B (ints (flat Ratio.ints xs))) (hle : n ≤ maxLen) :
    Calls Tryz.prog 30 #[.slice A n c, .slice B n d] w fun e w' => e = .returned (.bool true) ∧ Ext w w' :=
  (eqRatioS_any A B n n c d xs xs w hn hn hr hs hle hle).mono fun e w' ⟨h1, h2⟩ => ⟨h1.trans (ret_true (by simp)), h2⟩
theorem markRatioS_m (A : Option Addr) (n c : Nat) (k0 : Int) (cs : List Value) (lo hi : Nat) (w : World) (ho : Mine w lo hi 74 2 (.slice A n c) n cs) (h0 : 0 ≤ k0) (h1 : k0 ≤ 1000000000000) (hn : n ≤ 1000000000000) :
    Calls Tryz.prog 36 #[.slice A n c, .int .i64 k0] w fun e w' => e = .returned (.int .i64 (k0 + ((n * 2 : Nat) : Int))) ∧ Mine w' lo hi 74 2 (.slice A n c) n (ints (upTo k0 (n * 2))) ∧ Touch lo hi w w' :=
  (markRatioS_any A n c k0 cs lo w ho.1 h0 h1 hn).mono fun e w' ⟨h1, h2, h3⟩ => ⟨h1.trans (ret_int (by omega)), ⟨by simpa using h2, ho.2⟩, Touch.of_only h3 fun g hg => by have := ho.at_ hg; omega⟩
set_option maxHeartbeats 1000000 in
theorem heldRatioS_m (A : Option Addr) (n c : Nat) (k0 : Int) (w : World) (hr : Row w A (ints (upTo k0 (n * 2)))) (h0 : 0 ≤ k0) (h1 : k0 ≤ 1000000000000) (hn : n ≤ 1000000000000) :
    Calls Tryz.prog 38 #[.slice A n c, .int .i64 k0] w fun e w' => e = .returned (.int .i64 (k0 + ((n * 2 : Nat) : Int))) ∧ w = w' := by
  have Hl := Lib.hid (upTo_length k0 (n * 2))
  go_enter Tryz.func38, Tryz.ntmps38
  go_wp2
  go_loop [1, 5] (fun m i => ∃ (k : Nat), k ≤ n ∧ i = .int .i64 k ∧ m = .int .i64 (k0 + (2 : Int) * (k : Int))) (fun _ i => n - (intOf i).toNat)
  case atStart => exact ⟨0, Nat.zero_le _, rfl, by simp⟩
  case round =>
    obtain ⟨k, hk, rfl, rfl⟩ := hrel
    by_cases hlt : k < n
    · obtain ⟨b, off, rfl, hb0, hc0⟩ := hr.int (k := k * 2 + 0) (by rw [Hl.out]; omega)
      rw [upTo_at, show k0 + ((k * 2 + 0 : Nat) : Int) = k0 + (2 : Int) * (k : Int) from by omega] at hc0
      rw [Nat.add_zero] at hc0
      obtain ⟨b1, off1, hA1, hb1, hc1⟩ := hr.int (k := k * 2 + 1) (by rw [Hl.out]; omega)
      injection hA1 with hA1
      injection hA1 with e1 e2
      subst e1 e2
      rw [upTo_at, show k0 + ((k * 2 + 1 : Nat) : Int) = k0 + (2 : Int) * (k : Int) + 1 from by omega] at hc1
      rw [← Nat.add_assoc] at hc1
      go_wp2
      go_round
      case rel => exact ⟨k + 1, by omega, by go_num, by congr 1; omega⟩
      case measure => simp [intOf]; omega
    · go_wp2
      go_ret
      exact ⟨ret_int (by rw [show k = n from by omega]; omega), rfl⟩
end Go.Proofs.YtbbdipfioopfmaaGreat
