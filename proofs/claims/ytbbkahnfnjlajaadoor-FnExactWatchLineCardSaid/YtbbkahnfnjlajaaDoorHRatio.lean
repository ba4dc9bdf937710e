/- Contracts of the helpers on Ratio and slices of it: copies and comparisons. -/
import Derived.Test.YtbbkahnfnjlajaaDoorS
import Derived.StillTailTactics
namespace Go.Proofs.YtbbkahnfnjlajaaDoor
open Go.ChangeShapes Go.WideShapes Go.ChangeAt Go.RowKit

theorem Ratio.ints_len (a : Ratio) : a.ints.length = 2 := rfl
theorem Ratio.unints (zs : List Int) (h : zs.length = 2) : ∃ a : Ratio, a.ints = zs := by
  match zs, h with
  | [a0, a1], _ => exact ⟨⟨a0, a1⟩, rfl⟩
theorem Row.Ratio {w : World} {A : Option Addr} {xs : List Ratio} (h : Row w A (ints (flat Ratio.ints xs))) {k : Nat} (hk : k < xs.length) :
    ∃ b off, A = some ⟨b, off, none⟩ ∧ b < w.heap.size ∧ w.cell? ⟨b, off + k * 2, none⟩ = some (.int .i64 xs[k].N) ∧ w.cell? ⟨b, off + k * 2 + 1, none⟩ = some (.int .i64 xs[k].D) := by
  have hl := flat_length Ratio.ints_len xs
  have hm : k * 2 + 2 ≤ xs.length * 2 := by omega
  obtain ⟨b, off, hA, hb, hc⟩ := h.at_ (ints_ne (k := k * 2) (by omega))
  have key : ∀ i z, i < 2 → xs[k].ints[i]? = some z → w.cell? ⟨b, off + k * 2 + i, none⟩ = some (.int .i64 z) := by
    intro i z hi hz
    have := hc (k * 2 + i) (.int .i64 z) (by unfold ints; rw [List.getElem?_map, flat_get Ratio.ints_len xs k i hk hi, hz]; rfl)
    rwa [← Nat.add_assoc] at this
  exact ⟨b, off, hA, hb, key 0 _ (by omega) rfl, key 1 _ (by omega) rfl⟩
theorem full_Ratio {xs : List Ratio} {k i : Nat} {z : Int} (hk : k < xs.length) (hi : i < 2) (hz : xs[k].ints[i]? = some z) : (ints (flat Ratio.ints xs))[k * 2 + i]? = some (.int .i64 z) := by
  unfold ints; rw [List.getElem?_map, flat_get Ratio.ints_len xs k i hk hi, hz]; rfl

theorem toRatio_any (a0 a1 : Int) (w : World) :
    Calls Tryd.prog 72 #[.agg #[.int .i64 a0, .int .i64 a1]] w fun e w' => e = .returned (.agg #[.int .i64 a0, .int .i64 a1]) ∧ Ext w w' := by
  go_enter Tryd.func72, Tryd.ntmps72
  go_wp2
  refine bodyPost_ret (v := .agg #[.int .i64 a0, .int .i64 a1]) (by simp [results, Tryd.results72, go_sem]) rfl ⟨rfl, ?_⟩
  repeat (first | exact Ext.refl _ | refine Ext.alloc ?_ _ | refine Ext.setCell ?_ (by simp) _)





end Go.Proofs.YtbbkahnfnjlajaaDoor
