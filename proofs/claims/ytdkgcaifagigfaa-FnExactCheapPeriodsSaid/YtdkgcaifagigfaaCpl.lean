/- Plain facts: the cheapest places of a row of prices, by sorting and by choosing one by one. -/
import Derived.Test.YtdkgcaifagigfaaOrd
namespace Go.Proofs.Ytdkgcaifagigfaa
open Go.Sort
set_option linter.unusedVariables false
section
variable (key : Nat → Int)
def leB (i j : Nat) : Bool := decide (key i < key j ∨ (key i = key j ∧ i ≤ j))
/-- the places ordered by their prices, equal ones by their places -/
def ordP (n : Nat) : List Nat := (List.range n).mergeSort (leB key)
theorem ordP_perm (n : Nat) : (ordP key n).Perm (List.range n) := List.mergeSort_perm _ _
theorem ordP_nodup (n : Nat) : (ordP key n).Nodup := (ordP_perm key n).nodup_iff.2 List.nodup_range
theorem ordP_len (n : Nat) : (ordP key n).length = n := by rw [(ordP_perm key n).length_eq, List.length_range]
theorem ordP_mem {n i : Nat} : i ∈ ordP key n ↔ i < n := by rw [(ordP_perm key n).mem_iff, List.mem_range]
theorem ordP_pair (n : Nat) : (ordP key n).Pairwise (lex key) := by
  have h := List.pairwise_mergeSort (le := leB key) (fun a b c h1 h2 => by simp only [leB, decide_eq_true_eq] at *; omega) (fun a b => by simp only [leB, Bool.or_eq_true, decide_eq_true_eq]; omega) (List.range n)
  have h2 : (ordP key n).Pairwise (fun a b => leB key a b = true ∧ a ≠ b) := h.and (ordP_nodup key n)
  refine h2.imp ?_
  rintro a b ⟨h1, h3⟩
  simp only [leB, decide_eq_true_eq] at h1
  unfold lex
  omega
theorem ordP_lt {n i j : Nat} (hij : i < j) (hj : j < (ordP key n).length) : lex key ((ordP key n)[i]'(by omega)) (ordP key n)[j] := List.pairwise_iff_getElem.1 (ordP_pair key n) i j (by omega) hj hij
theorem sorted_eqP {m : Nat} {d' : Array (Fin (m + 1))} (hP : PermIn 0 (m + 1) (places m) d') (hS : SortedIn (ltL m key) 0 (m + 1) d') : d'.toList.map Fin.val = ordP key (m + 1) := by
  obtain ⟨hs, _, hp⟩ := hP
  rw [places_size] at hs
  have e1 : d'.extract 0 (m + 1) = d' := Array.extract_eq_self_of_le (by omega)
  have e2 : (places m).extract 0 (m + 1) = places m := Array.extract_eq_self_of_le (by rw [places_size]; omega)
  rw [e1, e2] at hp
  have hperm : (d'.toList.map Fin.val).Perm (ordP key (m + 1)) := (hp.map Fin.val).trans (by rw [places_list]; exact (ordP_perm key (m + 1)).symm)
  refine List.Perm.eq_of_pairwise (le := fun i j => ¬ lex key j i) (fun a b _ _ h1 h2 => ?_) ?_ ?_ hperm
  · unfold lex at h1 h2; omega
  · rw [List.pairwise_map, List.pairwise_iff_getElem]
    intro i j hi hj hij
    have hi' : i < d'.size := by simpa using hi
    have hj' : j < d'.size := by simpa using hj
    have h := hS i j (Nat.zero_le _) hij (by omega)
    rw [getElem!_pos d' i hi', getElem!_pos d' j hj'] at h
    simpa [ltL, lex] using h
  · exact (ordP_pair key (m + 1)).imp fun {a b} h => by unfold lex at *; omega
/-- is this place one of the k cheapest of n -/
def takenP (n k i : Nat) : Bool := decide (i ∈ (ordP key n).take k)
/-- the k cheapest places of n, in their order -/
def cheapL (n k : Nat) : List Nat := (List.range n).filter (takenP key n k)
theorem takenP_zero (n i : Nat) : takenP key n 0 i = false := by unfold takenP; rw [List.take_zero]; simp
theorem takenP_succ {n k i : Nat} (hk : k < (ordP key n).length) : takenP key n (k + 1) i = (takenP key n k i || decide (i = (ordP key n)[k])) := by
  unfold takenP
  rw [List.take_succ_eq_append_getElem hk, Bool.eq_iff_iff]
  simp only [decide_eq_true_eq, Bool.or_eq_true, List.mem_append, List.mem_singleton]
theorem takenP_next {n k : Nat} (hk : k < (ordP key n).length) : takenP key n k (ordP key n)[k] = false := by
  unfold takenP
  rw [decide_eq_false_iff_not]
  intro hm
  obtain ⟨j, hj, e⟩ := List.getElem_of_mem hm
  rw [List.length_take] at hj
  rw [List.getElem_take] at e
  have q := ordP_lt key (i := j) (j := k) (by omega) hk
  rw [e] at q
  exact lex_irr key _ q
/-- what the search for the next one has found among the first i places -/
structure BestP (n k i : Nat) (b : Int) : Prop where
  none : b < 0 → b = -1 ∧ ∀ j, j < i → takenP key n k j = true
  some : 0 ≤ b → b < i ∧ takenP key n k b.toNat = false ∧ ∀ j, j < i → takenP key n k j = false → ¬ lex key j b.toNat
theorem BestP.zero (n k : Nat) : BestP key n k 0 (-1) := ⟨fun _ => ⟨rfl, fun j hj => by omega⟩, fun h => by omega⟩
theorem BestP.skip {n k i : Nat} {b : Int} (h : BestP key n k i b) (ht : takenP key n k i = true) : BestP key n k (i + 1) b := by
  refine ⟨fun hb => ⟨(h.none hb).1, fun j hj => ?_⟩, fun hb => ⟨?_, (h.some hb).2.1, fun j hj hf => ?_⟩⟩
  · rcases Nat.lt_or_ge j i with q | q
    · exact (h.none hb).2 j q
    · obtain rfl : j = i := by omega
      exact ht
  · have := (h.some hb).1; omega
  · rcases Nat.lt_or_ge j i with q | q
    · exact (h.some hb).2.2 j q hf
    · obtain rfl : j = i := by omega
      rw [ht] at hf; cases hf
theorem BestP.stay {n k i : Nat} {b : Int} (h : BestP key n k i b) (hb : 0 ≤ b) (hp : ¬ key i < key b.toNat) : BestP key n k (i + 1) b := by
  refine ⟨fun hb2 => by omega, fun _ => ⟨?_, (h.some hb).2.1, fun j hj hf => ?_⟩⟩
  · have := (h.some hb).1; omega
  · rcases Nat.lt_or_ge j i with q | q
    · exact (h.some hb).2.2 j q hf
    · obtain rfl : j = i := by omega
      have := (h.some hb).1
      unfold lex
      omega
theorem BestP.take {n k i : Nat} {b : Int} (h : BestP key n k i b) (ht : takenP key n k i = false) (hp : b < 0 ∨ key i < key b.toNat) : BestP key n k (i + 1) (i : Int) := by
  refine ⟨fun hb => by omega, fun _ => ⟨by omega, by rw [Int.toNat_natCast]; exact ht, fun j hj hf => ?_⟩⟩
  rw [Int.toNat_natCast]
  rcases Nat.lt_or_ge j i with q | q
  · rcases hp with hp | hp
    · have := (h.none hp).2 j q
      rw [this] at hf; cases hf
    · by_cases q2 : b < 0
      · have := (h.none q2).2 j q
        rw [this] at hf; cases hf
      · have e1 := (h.some (by omega)).2.2 j q hf
        unfold lex at e1 ⊢
        omega
  · obtain rfl : j = i := by omega
    exact lex_irr key _
theorem BestP.done {n k : Nat} {b : Int} (h : BestP key n k n b) (hk : k < (ordP key n).length) : b = (((ordP key n)[k] : Nat) : Int) := by
  have hn := takenP_next key hk
  have hm : (ordP key n)[k] < n := (ordP_mem key).1 (List.getElem_mem hk)
  by_cases q : b < 0
  · have := (h.none q).2 _ hm
    rw [hn] at this; cases this
  · obtain ⟨h1, h2, h3⟩ := h.some (by omega)
    have e1 := h3 _ hm hn
    have hb : b.toNat ∈ ordP key n := (ordP_mem key).2 (by omega)
    obtain ⟨j, hj, e⟩ := List.getElem_of_mem hb
    rcases Nat.lt_trichotomy j k with c | c | c
    · exfalso
      unfold takenP at h2
      rw [decide_eq_false_iff_not] at h2
      refine h2 ?_
      rw [← e]
      exact List.mem_take_iff_getElem.2 ⟨j, by omega, rfl⟩
    · subst c
      omega
    · exfalso
      rw [← e] at e1
      exact e1 (ordP_lt key c hj)
theorem cheapL_sorted (n k : Nat) : (cheapL key n k).Pairwise (· < ·) := List.Pairwise.filter _ (List.pairwise_lt_range)
theorem cheapL_perm {n k : Nat} : (cheapL key n k).Perm ((ordP key n).take k) := by
  refine (List.perm_ext_iff_of_nodup ((cheapL_sorted key n k).imp fun h => by omega) ((ordP_nodup key n).sublist (List.take_sublist _ _))).2 fun i => ?_
  unfold cheapL takenP
  rw [List.mem_filter, decide_eq_true_eq, List.mem_range]
  exact ⟨fun h => h.2, fun h => ⟨(ordP_mem key).1 (List.mem_of_mem_take h), h⟩⟩
/-- the sorted numbers of the k cheapest places -/
theorem cheap_sorted (n k : Nat) : (((ordP key n).take k).map fun (i : Nat) => (i : Int)).mergeSort (fun x y => decide (x ≤ y)) = (cheapL key n k).map fun (i : Nat) => (i : Int) := by
  refine List.Perm.eq_of_pairwise (le := fun (x y : Int) => x ≤ y) (fun a b _ _ h1 h2 => by omega) ?_ ?_ ?_
  · have h := List.pairwise_mergeSort (le := fun (x y : Int) => decide (x ≤ y)) (fun a b c h1 h2 => by simp only [decide_eq_true_eq] at *; omega) (fun a b => by simp only [Bool.or_eq_true, decide_eq_true_eq]; omega) (((ordP key n).take k).map fun (i : Nat) => (i : Int))
    exact h.imp fun h => by simpa using h
  · rw [List.pairwise_map]
    exact (cheapL_sorted key n k).imp fun h => by omega
  · exact (List.mergeSort_perm _ _).trans ((cheapL_perm key).symm.map _)
theorem cheapL_len {n k : Nat} (h : k ≤ n) : (cheapL key n k).length = k := by rw [(cheapL_perm key).length_eq, List.length_take, ordP_len]; omega
/-- the first i places of the list -/
def cheapTo (n k i : Nat) : List Nat := (List.range i).filter (takenP key n k)
theorem cheapTo_succ (n k i : Nat) : cheapTo key n k (i + 1) = if takenP key n k i = true then cheapTo key n k i ++ [i] else cheapTo key n k i := by
  unfold cheapTo
  rw [List.range_succ, List.filter_append]
  by_cases h : takenP key n k i = true
  · rw [if_pos h]; simp [h]
  · rw [if_neg h]; simp [h]
end
end Go.Proofs.Ytdkgcaifagigfaa
