/- Contracts of hundredth and InfluenceOf of the program, InfluenceOf of the reference. -/
import Derived.Test.YtfnmbpjkjajpcaaGreatDoorFbSz
import Derived.Test.YtfnmbpjkjajpcaaGreatDoorFbGz
import Derived.Test.YtfnmbpjkjajpcaaGreatDoorFbIv
namespace Go.Proofs.YtfnmbpjkjajpcaaGreatDoor
open Go.ChangeShapes Go.WideShapes Go.ChangeAt Go.RowKit
set_option linter.unusedVariables false
set_option maxRecDepth 100000
theorem Blk.two {V : World} {g k : Nat} {t : TypeId} {x0 x1 y0 y1 : Value} (hne : g ≠ k) (b1 : Blk V g t #[x0, x1]) (b2 : Blk V k t #[y0, y1]) (p q r s : Value) :
    Blk ((((V.setCell ⟨g, 0, none⟩ p).setCell ⟨g, 1, none⟩ q).setCell ⟨k, 0, none⟩ r).setCell ⟨k, 1, none⟩ s) g t #[p, q] ∧ Blk ((((V.setCell ⟨g, 0, none⟩ p).setCell ⟨g, 1, none⟩ q).setCell ⟨k, 0, none⟩ r).setCell ⟨k, 1, none⟩ s) k t #[r, s] :=
  ⟨(((b1.set_ 0 p).set_ 1 q).far (p := ⟨k, 0, none⟩) hne r).far (p := ⟨k, 1, none⟩) hne s, ((((b2.far (p := ⟨g, 0, none⟩) (Ne.symm hne) p).far (p := ⟨g, 1, none⟩) (Ne.symm hne) q).set_ 0 r).set_ 1 s)⟩
theorem Ext.two {w V : World} {g k : Nat} (h : Ext w V) (hg : w.heap.size ≤ g) (hk : w.heap.size ≤ k) (p q r s : Value) : Ext w ((((V.setCell ⟨g, 0, none⟩ p).setCell ⟨g, 1, none⟩ q).setCell ⟨k, 0, none⟩ r).setCell ⟨k, 1, none⟩ s) :=
  (((h.setCell (p := ⟨g, 0, none⟩) hg p).setCell (p := ⟨g, 1, none⟩) hg q).setCell (p := ⟨k, 0, none⟩) hk r).setCell (p := ⟨k, 1, none⟩) hk s
theorem inRange_eq {n lo hi : Int} {v : Bool} (h : inR n lo hi = v) (w : World) : Calls Tryz.prog 241 #[.int .i64 n, .int .i64 lo, .int .i64 hi] w fun e w' => e = .returned (.bool v) ∧ w = w' := by
  rw [← h]; exact inRange_any n lo hi w
end Go.Proofs.YtfnmbpjkjajpcaaGreatDoor
