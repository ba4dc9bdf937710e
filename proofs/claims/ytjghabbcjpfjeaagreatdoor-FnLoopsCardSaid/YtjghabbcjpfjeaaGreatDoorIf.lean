/- Contracts of hundredth and InfluenceOf of the program, InfluenceOf of the reference. -/
import Derived.Test.YtjghabbcjpfjeaaGreatDoorSz
import Derived.Test.YtjghabbcjpfjeaaGreatDoorGz
import Derived.Test.YtjghabbcjpfjeaaGreatDoorIv
namespace Go.Proofs.YtjghabbcjpfjeaaGreatDoor
open Go.ChangeShapes Go.WideShapes Go.ChangeAt Go.RowKit
set_option linter.unusedVariables false
set_option maxRecDepth 100000

theorem Blk.two {V : World} {g k : Nat} {t : TypeId} {x0 x1 y0 y1 : Value} (hne : g ≠ k) (b1 : Blk V g t #[x0, x1]) (b2 : Blk V k t #[y0, y1]) (p q r s : Value) :
    Blk ((((V.setCell ⟨g, 0, none⟩ p).setCell ⟨g, 1, none⟩ q).setCell ⟨k, 0, none⟩ r).setCell ⟨k, 1, none⟩ s) g t #[p, q] ∧ Blk ((((V.setCell ⟨g, 0, none⟩ p).setCell ⟨g, 1, none⟩ q).setCell ⟨k, 0, none⟩ r).setCell ⟨k, 1, none⟩ s) k t #[r, s] :=
  ⟨(((b1.set_ 0 p).set_ 1 q).far (p := ⟨k, 0, none⟩) hne r).far (p := ⟨k, 1, none⟩) hne s, ((((b2.far (p := ⟨g, 0, none⟩) (Ne.symm hne) p).far (p := ⟨g, 1, none⟩) (Ne.symm hne) q).set_ 0 r).set_ 1 s)⟩
theorem Ext.two {w V : World} {g k : Nat} (h : Ext w V) (hg : w.heap.size ≤ g) (hk : w.heap.size ≤ k) (p q r s : Value) : Ext w ((((V.setCell ⟨g, 0, none⟩ p).setCell ⟨g, 1, none⟩ q).setCell ⟨k, 0, none⟩ r).setCell ⟨k, 1, none⟩ s) :=
  (((h.setCell (p := ⟨g, 0, none⟩) hg p).setCell (p := ⟨g, 1, none⟩) hg q).setCell (p := ⟨k, 0, none⟩) hk r).setCell (p := ⟨k, 1, none⟩) hk s
def InfMade (x : Ratio × Ratio × Bool) (w : World) (e : Ending) (w' : World) : Prop :=
  e = .returned (.tuple #[.agg #[.int .i64 x.1.N, .int .i64 x.1.D], .agg #[.int .i64 x.2.1.N, .int .i64 x.2.1.D], .bool x.2.2]) ∧ Ext w w'
theorem infR_no {p : List Half} {g : Int} (h : ¬ ((-100 ≤ g ∧ g ≤ 100) ∧ p ≠ [] ∧ regOk p = true)) : infR p g = (⟨0, 0⟩, ⟨0, 0⟩, false) := if_neg h
theorem infR_big {p : List Half} {g : Int} (h : (-100 ≤ g ∧ g ≤ 100) ∧ p ≠ [] ∧ regOk p = true) (h2 : 1000000 < (infLow p g).D ∨ 1000000 < (infHigh p g).D) : infR p g = (⟨0, 0⟩, ⟨0, 0⟩, false) := by
  unfold infR; rw [if_pos h, if_pos h2]
theorem infR_yes {p : List Half} {g : Int} (h : (-100 ≤ g ∧ g ≤ 100) ∧ p ≠ [] ∧ regOk p = true) (h2 : ¬ (1000000 < (infLow p g).D ∨ 1000000 < (infHigh p g).D)) : infR p g = (infLow p g, infHigh p g, true) := by
  unfold infR; rw [if_pos h, if_neg h2]
theorem inRange_eq {n lo hi : Int} {v : Bool} (h : inR n lo hi = v) (w : World) : Calls Tryz.prog 36 #[.int .i64 n, .int .i64 lo, .int .i64 hi] w fun e w' => e = .returned (.bool v) ∧ w = w' := by
  rw [← h]; exact inRange_any n lo hi w
theorem inR_100 {g : Int} {v : Bool} (h : inR g (-100) 100 = v) : (-100 ≤ g ∧ g ≤ 100) ↔ v = true := by
  rw [← h]; unfold inR; simp only [Bool.and_eq_true, decide_eq_true_eq]
theorem infR_r {p : List Half} {g : Int} (h : ¬ (-100 ≤ g ∧ g ≤ 100)) : infR p g = (⟨0, 0⟩, ⟨0, 0⟩, false) := infR_no fun e => h e.1
theorem infR_v {p : List Half} {g : Int} (h : p = []) : infR p g = (⟨0, 0⟩, ⟨0, 0⟩, false) := infR_no fun e => e.2.1 h
theorem infR_k {p : List Half} {g : Int} (h : regOk p = false) : infR p g = (⟨0, 0⟩, ⟨0, 0⟩, false) := infR_no fun e => by rw [h] at e; cases e.2.2
end Go.Proofs.YtjghabbcjpfjeaaGreatDoor
