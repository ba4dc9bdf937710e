/- Contracts of the helpers on Rule and slices of it: copies and comparisons. -/
import Derived.Test.YtbbkahnfnjlajaaDoorHz
import Derived.StillTailTactics
namespace Go.Proofs.YtbbkahnfnjlajaaDoor
open Go.ChangeShapes Go.WideShapes Go.ChangeAt Go.RowKit

theorem Rule.ints_len (a : Rule) : a.ints.length = 5 := rfl
theorem Rule.unints (zs : List Int) (h : zs.length = 5) : ∃ a : Rule, a.ints = zs := by
  match zs, h with
  | [a0, a1, a2, a3, a4], _ => exact ⟨⟨a0, a1, a2, a3, a4⟩, rfl⟩
theorem Row.Rule {w : World} {A : Option Addr} {xs : List Rule} (h : Row w A (ints (flat Rule.ints xs))) {k : Nat} (hk : k < xs.length) :
    ∃ b off, A = some ⟨b, off, none⟩ ∧ b < w.heap.size ∧ w.cell? ⟨b, off + k * 5, none⟩ = some (.int .i64 xs[k].Low) ∧ w.cell? ⟨b, off + k * 5 + 1, none⟩ = some (.int .i64 xs[k].High) ∧ w.cell? ⟨b, off + k * 5 + 2, none⟩ = some (.int .i64 xs[k].Step) ∧ w.cell? ⟨b, off + k * 5 + 3, none⟩ = some (.int .i64 xs[k].Window) ∧ w.cell? ⟨b, off + k * 5 + 4, none⟩ = some (.int .i64 xs[k].Drift) := by
  have hl := flat_length Rule.ints_len xs
  have hm : k * 5 + 5 ≤ xs.length * 5 := by omega
  obtain ⟨b, off, hA, hb, hc⟩ := h.at_ (ints_ne (k := k * 5) (by omega))
  have key : ∀ i z, i < 5 → xs[k].ints[i]? = some z → w.cell? ⟨b, off + k * 5 + i, none⟩ = some (.int .i64 z) := by
    intro i z hi hz
    have := hc (k * 5 + i) (.int .i64 z) (by unfold ints; rw [List.getElem?_map, flat_get Rule.ints_len xs k i hk hi, hz]; rfl)
    rwa [← Nat.add_assoc] at this
  exact ⟨b, off, hA, hb, key 0 _ (by omega) rfl, key 1 _ (by omega) rfl, key 2 _ (by omega) rfl, key 3 _ (by omega) rfl, key 4 _ (by omega) rfl⟩
theorem full_Rule {xs : List Rule} {k i : Nat} {z : Int} (hk : k < xs.length) (hi : i < 5) (hz : xs[k].ints[i]? = some z) : (ints (flat Rule.ints xs))[k * 5 + i]? = some (.int .i64 z) := by
  unfold ints; rw [List.getElem?_map, flat_get Rule.ints_len xs k i hk hi, hz]; rfl

theorem toRule_any (a0 a1 a2 a3 a4 : Int) (w : World) :
    Calls Tryd.prog 35 #[.agg #[.int .i64 a0, .int .i64 a1, .int .i64 a2, .int .i64 a3, .int .i64 a4]] w fun e w' => e = .returned (.agg #[.int .i64 a0, .int .i64 a1, .int .i64 a2, .int .i64 a3, .int .i64 a4]) ∧ Ext w w' := by
  go_enter Tryd.func35, Tryd.ntmps35
  go_wp2
  refine bodyPost_ret (v := .agg #[.int .i64 a0, .int .i64 a1, .int .i64 a2, .int .i64 a3, .int .i64 a4]) (by simp [results, Tryd.results35, go_sem]) rfl ⟨rfl, ?_⟩
  repeat (first | exact Ext.refl _ | refine Ext.alloc ?_ _ | refine Ext.setCell ?_ (by simp) _)





end Go.Proofs.YtbbkahnfnjlajaaDoor
