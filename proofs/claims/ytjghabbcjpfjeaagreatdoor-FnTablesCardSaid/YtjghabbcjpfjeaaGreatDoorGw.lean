/- Contracts of l07Grown and GrowAlong of the reference, for valid regions. -/
import Derived.Test.YtjghabbcjpfjeaaGreatDoorLz
import Derived.Test.YtjghabbcjpfjeaaGreatDoorSz
import Derived.Deep.AppendLies
namespace Go.Proofs.YtjghabbcjpfjeaaGreatDoor
open Go.ChangeShapes Go.WideShapes Go.ChangeAt Go.RowKit
set_option linter.unusedVariables false
set_option maxRecDepth 100000

def dirsL (bx by_ : Int) : List Half := [⟨dirA bx by_, dirB bx by_, 0⟩, ⟨-dirA bx by_, -dirB bx by_, 0⟩]
def sideD (hs : List Half) (d : Half) : Half × Bool := sideH hs d.A d.B
/-- the half planes of a grown region, in the reference's order -/
def grownL (hs : List Half) (bx by_ low high : Int) : List Half × Bool :=
  if hs.all (fun h => (growH bx by_ low high h).2) = true ∧ (dirsL bx by_).all (fun d => (sideD hs d).2) = true then ((hs.map fun h => (growH bx by_ low high h).1) ++ (dirsL bx by_).map fun d => (sideD hs d).1, true) else ([], false)
theorem grown_no1 {hs : List Half} {bx by_ low high : Int} {k : Nat} (hk : k < hs.length) (h : (growH bx by_ low high hs[k]).2 = false) : grownL hs bx by_ low high = ([], false) := by
  unfold grownL
  rw [if_neg]
  rintro ⟨h1, _⟩
  have := List.all_eq_true.1 h1 _ (List.getElem_mem hk)
  rw [h] at this; cases this
theorem grown_no2 {hs : List Half} {bx by_ low high : Int} {k : Nat} (hk : k < (dirsL bx by_).length) (h : (sideD hs (dirsL bx by_)[k]).2 = false) : grownL hs bx by_ low high = ([], false) := by
  unfold grownL
  rw [if_neg]
  rintro ⟨_, h1⟩
  have := List.all_eq_true.1 h1 _ (List.getElem_mem hk)
  rw [h] at this; cases this
theorem grown_yes {hs : List Half} {bx by_ low high : Int} (h1 : ∀ k (hk : k < hs.length), (growH bx by_ low high hs[k]).2 = true) (h2 : ∀ k (hk : k < (dirsL bx by_).length), (sideD hs (dirsL bx by_)[k]).2 = true) :
    grownL hs bx by_ low high = (movedTo (growH bx by_ low high) hs hs.length ++ movedTo (sideD hs) (dirsL bx by_) (dirsL bx by_).length, true) := by
  unfold grownL
  rw [if_pos, movedTo_all, movedTo_all]
  refine ⟨grow_all h1, List.all_eq_true.2 fun x hx => ?_⟩
  obtain ⟨i, hi, rfl⟩ := List.getElem_of_mem hx
  exact h2 i hi
theorem grown_all {hs : List Half} {bx by_ low high : Int} : (grownL hs bx by_ low high).1.all halfOk = true := by
  unfold grownL
  split
  · rename_i h
    refine List.all_eq_true.2 fun x hx => ?_
    rcases List.mem_append.1 hx with hx | hx
    · obtain ⟨y, hy, rfl⟩ := List.mem_map.1 hx
      exact halfOfZ_ok (List.all_eq_true.1 h.1 y hy)
    · obtain ⟨y, hy, rfl⟩ := List.mem_map.1 hx
      exact halfOfZ_ok (List.all_eq_true.1 h.2 y hy)
  · rfl
theorem grown_len {hs : List Half} {bx by_ low high : Int} : (grownL hs bx by_ low high).1.length ≤ hs.length + 2 := by
  unfold grownL
  split
  · rw [List.length_append, List.length_map, List.length_map]; exact Nat.le_refl _
  · exact Nat.zero_le _
theorem grow_grown {hs : List Half} {bx by_ low high : Int} (hp : hs ≠ []) (hz : ¬ (bx = 0 ∧ by_ = 0)) : growR hs bx by_ low high = if (grownL hs bx by_ low high).2 = true then fitR (madeOf (grownL hs bx by_ low high).1) else ([], false) := by
  by_cases h : hs.all (fun h => (growH bx by_ low high h).2) = true ∧ (dirsL bx by_).all (fun d => (sideD hs d).2) = true
  · have e : grownL hs bx by_ low high = ((hs.map fun h => (growH bx by_ low high h).1) ++ (dirsL bx by_).map fun d => (sideD hs d).1, true) := by unfold grownL; rw [if_pos h]
    rw [e, if_pos rfl]
    have h2 := h.2
    simp only [dirsL, List.all_cons, List.all_nil, Bool.and_true, Bool.and_eq_true] at h2
    exact grow_yes2 hp hz h2.1 h2.2 (fun k hk => List.all_eq_true.1 h.1 _ (List.getElem_mem hk))
  · have e : grownL hs bx by_ low high = ([], false) := by unfold grownL; rw [if_neg h]
    rw [e, if_neg (by simp)]
    unfold growR
    rw [if_neg (fun e => e.elim hp hz), if_neg]
    rintro ⟨h1, h2, h3⟩
    refine h ⟨h3, ?_⟩
    simp only [dirsL, List.all_cons, List.all_nil, Bool.and_true, Bool.and_eq_true]
    exact ⟨h1, h2⟩
/-- half planes were made, and a bool -/
def ListMade (r : List Half × Bool) (w : World) (e : Ending) (w' : World) : Prop :=
  ∃ A c n, e = .returned (.tuple #[.slice A n c, .bool r.2]) ∧ n = r.1.length ∧ Ext w w' ∧ w'.ownsRow w.heap.size 120 3 (.slice A n c) n (ints (flat Half.ints r.1))
theorem ListMade.nil {r : List Half × Bool} {w w' : World} {e : Ending} (b : Bool) (hr : r = ([], b)) (he : e = .returned (.tuple #[.slice none 0 0, .bool b])) (hx : Ext w w') : ListMade r w e w' := by
  subst hr
  exact ⟨none, 0, 0, he, rfl, hx, World.ownsRow_nil _ _ _ _⟩
theorem gcdI_small {bx by_ : Int} (hx : -100 ≤ bx ∧ bx ≤ 100) (hy : -100 ≤ by_ ∧ by_ ≤ 100) : gcdI bx by_ = (Int.gcd bx by_ : Int) := by
  unfold gcdI
  rw [if_neg]
  rintro (h | h) <;> (unfold isLeastI at h; simp at h; omega)
def alongR (hs : List Half) (bx by_ low high : Int) : List Half × Bool := if 38 < hs.length then ([], false) else growR hs bx by_ low high
theorem inR_yes {n lo hi : Int} (h : lo ≤ n ∧ n ≤ hi) : inR n lo hi = true := by
  unfold inR
  rw [decide_eq_true h.1, decide_eq_true h.2]
  rfl
theorem l01In_yes {n lo hi : Int} (h : lo ≤ n ∧ n ≤ hi) (w : World) : Calls Tryz.prog 97 #[.int .i64 n, .int .i64 lo, .int .i64 hi] w fun e w' => e = .returned (.bool true) ∧ w' = w :=
  l01In_is (inR_yes h) w
end Go.Proofs.YtjghabbcjpfjeaaGreatDoor
