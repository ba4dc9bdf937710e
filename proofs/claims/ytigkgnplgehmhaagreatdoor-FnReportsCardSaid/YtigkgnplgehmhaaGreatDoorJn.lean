/- Contracts of joined texts: Join and joinInts of the program; rows of strings of the call's own. -/
import Derived.Test.YtigkgnplgehmhaaGreatDoorFm
import Derived.Test.YtigkgnplgehmhaaGreatDoorMix
import Derived.Lib.Join
import Derived.OwnWalk
import Derived.Deep.DeepMust
namespace Go.Proofs.YtigkgnplgehmhaaGreatDoor
open Go.ChangeShapes Go.WideShapes Go.ChangeAt Go.RowKit
set_option linter.unusedVariables false

/-- texts as cells -/
def strs (l : List (List UInt8)) : List Value := l.map fun t => .string (txt t)
theorem strs_length (l : List (List UInt8)) : (strs l).length = l.length := by simp [strs]
theorem strs_append (a b : List (List UInt8)) : strs (a ++ b) = strs a ++ strs b := by simp [strs]
theorem strs_get {l : List (List UInt8)} {k : Nat} (h : k < l.length) : (strs l)[k]? = some (.string (txt l[k])) := by simp [strs, h]
theorem strs_ne {l : List (List UInt8)} {k : Nat} (h : k < l.length) : strs l ≠ [] := by
  intro e
  have h2 : (strs l).length = 0 := by rw [e]; rfl
  rw [strs_length] at h2
  omega
theorem Row.str {w : World} {A : Option Addr} {l : List (List UInt8)} (h : Row w A (strs l)) {k : Nat} (hk : k < l.length) :
    ∃ b off, A = some ⟨b, off, none⟩ ∧ b < w.heap.size ∧ w.cell? ⟨b, off + k, none⟩ = some (.string (txt l[k])) := by
  obtain ⟨b, off, hA, hb, hc⟩ := h.at_ (strs_ne hk)
  exact ⟨b, off, hA, hb, hc k _ (strs_get hk)⟩
theorem join_len_le (l : List (List UInt8)) (s : List UInt8) (b : Nat) (h : ∀ t ∈ l, t.length ≤ b) : (Lib.join l s).length ≤ l.length * (b + s.length) := by
  have hl : ∀ r : List (List UInt8), (∀ t ∈ r, t.length ≤ b) → Lib.lens r ≤ r.length * b := by
    intro r
    induction r with
    | nil => intro _; simp [Lib.lens]
    | cons x r ih =>
      intro h
      have h1 := h x (by simp)
      have h2 := ih fun t ht => h t (by simp [ht])
      simp only [Lib.lens, List.map_cons, List.sum_cons, List.length_cons, Nat.succ_mul] at h2 ⊢
      omega
  cases l with
  | nil => simp [Lib.join_nil]
  | cons x r =>
    rw [Lib.join_length]
    have h1 := hl _ h
    have h2 : s.length * r.length ≤ (r.length + 1) * s.length := by rw [Nat.mul_comm]; exact Nat.mul_le_mul_right _ (by omega)
    simp only [List.length_cons, Nat.mul_add] at h1 ⊢
    omega
theorem map_txt_list (l : List (List UInt8)) : (l.map txt).map (fun b => b.data.toList) = l := by
  rw [List.map_map]
  conv => rhs; rw [← List.map_id l]
  exact List.map_congr_left fun t _ => txt_list t

theorem str_info : (Tryz.prog.info? 9).map (fun i => (i.zero, i.size, i.bytes)) = some (some (.string ByteArray.empty), 1, 16) := by kernel_rfl

theorem implJoin_any (A : Option Addr) (n c : Nat) (l : List (List UInt8)) (s : ByteArray) (w : World) (hn : l.length = n) (hr : Row w A (strs l)) (hc : n ≤ c) (hle : n ≤ 4194304) (hlen : (Lib.join l s.data.toList).length ≤ 140737488355328) :
    Calls Tryz.prog 64 #[.slice A n c, .string s] w fun e w' => e = .returned (.string (txt (Lib.join l s.data.toList))) ∧ Ext w w' := by
  subst hn
  by_cases h0 : l.length = 0
  · have hl : l = [] := List.eq_nil_of_length_eq_zero h0
    subst hl
    have hcon := Tryz.strings_Join_none A c s w
    go_enter Tryz.func64, Tryz.ntmps64
    go_wp2_with fail
    refine hcon.mono ?_
    rintro e w' ⟨rfl, rfl⟩
    go_wp2
    go_ret
    exact ⟨ret_txt rfl, Ext.refl _⟩
  · obtain ⟨b, off, rfl, hb, hcell⟩ := hr.at_ (strs_ne (k := 0) (by omega))
    have hcon := Tryz.strings_Join b off c (l.map txt) s w (fun j x hj => hcell j _ (by
      have hj' : j < l.length := by
        have := (List.getElem?_eq_some_iff.1 hj).1
        simpa using this
      rw [List.getElem?_map, List.getElem?_eq_getElem hj'] at hj
      injection hj with hj
      rw [strs_get hj', ← hj])) hb (by rw [List.length_map]; omega) (by rw [List.length_map]; exact hc) (by rw [map_txt_list]; exact hlen)
    rw [map_txt_list, List.length_map] at hcon
    change Calls Tryz.prog _ _ _ fun e w' => e = .returned (.string (txt (Lib.join l s.data.toList))) ∧ _ at hcon
    clear hcell hr hlen h0
    generalize Lib.join l s.data.toList = t at hcon ⊢
    go_enter Tryz.func64, Tryz.ntmps64
    go_wp2_with fail
    refine hcon.mono ?_
    rintro e w1 ⟨rfl, hx1⟩
    go_wp2
    go_ret
    exact ⟨rfl, hx1⟩

def joinT (xs : List Int) : List UInt8 := Lib.join (xs.map numT) [32]
def numsTo (xs : List Int) (k : Nat) : List (List UInt8) := (xs.map numT).take k
theorem numsTo_succ {xs : List Int} {k : Nat} (h : k < xs.length) : numsTo xs (k + 1) = numsTo xs k ++ [numT xs[k]] := by
  unfold numsTo
  rw [List.take_succ_eq_append_getElem (by simpa using h), List.getElem_map]
theorem numsTo_len {xs : List Int} {k : Nat} (h : k ≤ xs.length) : (numsTo xs k).length = k := by
  unfold numsTo
  rw [List.length_take, List.length_map]; omega
theorem numsTo_all (xs : List Int) : numsTo xs xs.length = xs.map numT := by
  unfold numsTo
  rw [List.take_of_length_le (by simp)]
theorem joinT_len {xs : List Int} (hI : ∀ i, (hi : i < xs.length) → I64 xs[i]) : (joinT xs).length ≤ xs.length * 65 := by
  have := join_len_le (xs.map numT) [32] 64 (fun t ht => by
    obtain ⟨n, hn, rfl⟩ := List.mem_map.1 ht
    obtain ⟨i, hi, rfl⟩ := List.getElem_of_mem hn
    exact numT_len (hI i hi).1 (hI i hi).2)
  simpa [joinT] using this

end Go.Proofs.YtigkgnplgehmhaaGreatDoor
