/- Contracts of the helpers on slices of strings: comparisons, marks; Join of the reference. -/
import Derived.Test.YtbbkahnfnjlajaaDoorJn
import Derived.Test.YtbbkahnfnjlajaaDoorMs
import Derived.Deep.QuietTactic
namespace Go.Proofs.YtbbkahnfnjlajaaDoor
open Go.ChangeShapes Go.WideShapes Go.ChangeAt Go.RowKit
set_option linter.unusedVariables false
set_option maxRecDepth 100000

/-- a slice of strings of the call's own was made -/
def StrsMade (l : List (List UInt8)) (w : World) (e : Ending) (w' : World) : Prop :=
  ∃ A c, e = .returned (.slice A l.length c) ∧ Mine w' w.heap.size w'.heap.size 9 1 (.slice A l.length c) l.length (strs l) ∧ Ext w w'
theorem StrsMade.mk {l : List (List UInt8)} {w w' : World} {e : Ending} {A : Option Addr} {c n : Nat} (hn : n = l.length) (he : e = .returned (.slice A n c)) (hx : Ext w w') (ho : w'.ownsRow w.heap.size 9 1 (.slice A n c) n (strs l)) : StrsMade l w e w' := by
  subst hn
  exact ⟨A, c, he, Mine.of_own ho, hx⟩
theorem StrsMade.none {l : List (List UInt8)} {w w' : World} {e : Ending} (hl : l = []) (he : e = .returned (.slice none 0 0)) (hx : Ext w w') : StrsMade l w e w' := by
  subst hl
  exact ⟨Option.none, 0, he, Mine.of_own (World.ownsRow_nil _ _ _ _), hx⟩


def markT (k : Int) : List UInt8 := 109 :: numT k
def marksTo (k0 : Int) (n : Nat) : List (List UInt8) := (upTo k0 n).map markT
theorem marksTo_len (k0 : Int) (n : Nat) : (marksTo k0 n).length = n := by simp [marksTo, upTo_length]
theorem marksTo_get {k0 : Int} {n k : Nat} (h : k < n) : (strs (marksTo k0 n))[k]? = some (.string (txt (markT (k0 + k)))) := by
  unfold strs marksTo
  rw [List.getElem?_map, List.getElem?_map, upTo_get h]
  rfl
theorem markT_len {k : Int} (h0 : 0 ≤ k) (h1 : k ≤ 9223372036854775807) : (markT k).length ≤ 65 := by
  have := numT_len (n := k) (by omega) (by omega)
  simp only [markT, List.length_cons]; omega




theorem join_take_succ (l : List (List UInt8)) (s : List UInt8) (k : Nat) (h : k < l.length) : Lib.join (l.take (k + 1)) s = (if k = 0 then [] else Lib.join (l.take k) s ++ s) ++ l[k] := by
  cases l with
  | nil => simp at h
  | cons x r =>
    by_cases hk : k = 0
    · subst hk; simp [Lib.join_one]
    · rw [if_neg hk]
      obtain ⟨j, rfl⟩ : ∃ j, k = j + 1 := ⟨k - 1, by omega⟩
      have hj : j < r.length := by simpa using h
      rw [List.take_succ_cons, List.take_succ_cons, Lib.join_cons, Lib.join_cons, Lib.joinTail_take_succ s r j r[j] (List.getElem?_eq_getElem hj)]
      simp [List.append_assoc]
theorem join_take_le (l : List (List UInt8)) (s : List UInt8) (k : Nat) : (Lib.join (l.take k) s).length ≤ (Lib.join l s).length := by
  cases l with
  | nil => simp
  | cons x r =>
    cases k with
    | zero => simp [Lib.join_nil]
    | succ k =>
      rw [List.take_succ_cons, Lib.join_cons, Lib.join_cons, List.length_append, List.length_append]
      have := Lib.joinTail_take_le s r k
      omega

end Go.Proofs.YtbbkahnfnjlajaaDoor
