/- Contracts of the helpers on Ask and slices of it: copies and comparisons. -/
import Derived.Test.YtbbkahnfnjlajaaDoorS
import Derived.StillTailTactics
namespace Go.Proofs.YtbbkahnfnjlajaaDoor
open Go.ChangeShapes Go.WideShapes Go.ChangeAt Go.RowKit

theorem Ask.ints_len (a : Ask) : a.ints.length = 4 := rfl
theorem Ask.unints (zs : List Int) (h : zs.length = 4) : ∃ a : Ask, a.ints = zs := by
  match zs, h with
  | [a0, a1, a2, a3], _ => exact ⟨⟨a0, a1, a2, a3⟩, rfl⟩
theorem Row.Ask {w : World} {A : Option Addr} {xs : List Ask} (h : Row w A (ints (flat Ask.ints xs))) {k : Nat} (hk : k < xs.length) :
    ∃ b off, A = some ⟨b, off, none⟩ ∧ b < w.heap.size ∧ w.cell? ⟨b, off + k * 4, none⟩ = some (.int .i64 xs[k].Low) ∧ w.cell? ⟨b, off + k * 4 + 1, none⟩ = some (.int .i64 xs[k].High) ∧ w.cell? ⟨b, off + k * 4 + 2, none⟩ = some (.int .i64 xs[k].Wish) ∧ w.cell? ⟨b, off + k * 4 + 3, none⟩ = some (.int .i64 xs[k].Rank) := by
  have hl := flat_length Ask.ints_len xs
  have hm : k * 4 + 4 ≤ xs.length * 4 := by omega
  obtain ⟨b, off, hA, hb, hc⟩ := h.at_ (ints_ne (k := k * 4) (by omega))
  have key : ∀ i z, i < 4 → xs[k].ints[i]? = some z → w.cell? ⟨b, off + k * 4 + i, none⟩ = some (.int .i64 z) := by
    intro i z hi hz
    have := hc (k * 4 + i) (.int .i64 z) (by unfold ints; rw [List.getElem?_map, flat_get Ask.ints_len xs k i hk hi, hz]; rfl)
    rwa [← Nat.add_assoc] at this
  exact ⟨b, off, hA, hb, key 0 _ (by omega) rfl, key 1 _ (by omega) rfl, key 2 _ (by omega) rfl, key 3 _ (by omega) rfl⟩
theorem full_Ask {xs : List Ask} {k i : Nat} {z : Int} (hk : k < xs.length) (hi : i < 4) (hz : xs[k].ints[i]? = some z) : (ints (flat Ask.ints xs))[k * 4 + i]? = some (.int .i64 z) := by
  unfold ints; rw [List.getElem?_map, flat_get Ask.ints_len xs k i hk hi, hz]; rfl






end Go.Proofs.YtbbkahnfnjlajaaDoor
