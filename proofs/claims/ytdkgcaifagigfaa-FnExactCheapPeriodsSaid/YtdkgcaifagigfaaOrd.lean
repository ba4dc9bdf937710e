/- Plain facts: places ordered by a key, equal keys by their places: by insertion, and key by key. -/
import Derived.Sort.LotA
import Derived.Sort.WalkA
namespace Go.Proofs.Ytdkgcaifagigfaa
open Go.Sort
set_option linter.unusedVariables false

/-- the places of the keys below r, key by key, and of the first k places those of key r -/
def ordTo (key : Nat → Int) (n r k : Nat) : List Nat :=
  ((List.range r).flatMap fun (q : Nat) => (List.range n).filter fun i => decide (key i = (q : Int))) ++ (List.range k).filter fun i => decide (key i = (r : Int))
def ordOf (key : Nat → Int) (n : Nat) : List Nat := ordTo key n 101 0
theorem ordTo_zero (key : Nat → Int) (n : Nat) : ordTo key n 0 0 = [] := rfl
theorem ordTo_yes {key : Nat → Int} {n r k : Nat} (h : key k = (r : Int)) : ordTo key n r (k + 1) = ordTo key n r k ++ [k] := by
  unfold ordTo
  rw [List.range_succ, List.filter_append, ← List.append_assoc, List.filter_cons, if_pos (by simpa using h)]
  rfl
theorem ordTo_no {key : Nat → Int} {n r k : Nat} (h : key k ≠ (r : Int)) : ordTo key n r (k + 1) = ordTo key n r k := by
  unfold ordTo
  rw [List.range_succ, List.filter_append, List.filter_cons, if_neg (by simpa using h)]
  simp
theorem ordTo_next (key : Nat → Int) (n r : Nat) : ordTo key n r n = ordTo key n (r + 1) 0 := by
  unfold ordTo
  rw [List.range_succ, List.flatMap_append]
  simp
/-- earlier: the lesser key, or the lesser place -/
def lex (key : Nat → Int) (i j : Nat) : Prop := key i < key j ∨ (key i = key j ∧ i < j)
theorem lex_irr (key : Nat → Int) (i : Nat) : ¬ lex key i i := by unfold lex; omega
theorem ord_pair (key : Nat → Int) (n : Nat) : (ordOf key n).Pairwise (lex key) := by
  unfold ordOf ordTo
  simp only [List.range_zero, List.filter_nil, List.append_nil]
  rw [List.pairwise_flatMap]
  refine ⟨fun q _ => ?_, ?_⟩
  · rw [List.pairwise_filter]
    refine (List.pairwise_lt_range (n := n)).imp fun {a b} hab ha hb => ?_
    simp only [decide_eq_true_eq] at ha hb
    exact .inr ⟨by omega, hab⟩
  · refine (List.pairwise_lt_range (n := 101)).imp ?_
    intro q r hqr x hx y hy
    have h1 := (List.mem_filter.1 hx).2
    have h2 := (List.mem_filter.1 hy).2
    simp only [decide_eq_true_eq] at h1 h2
    exact .inl (by omega)
theorem ord_mem {key : Nat → Int} {n : Nat} (hk : ∀ i, i < n → 0 ≤ key i ∧ key i ≤ 100) (i : Nat) : i ∈ ordOf key n ↔ i < n := by
  unfold ordOf ordTo
  simp only [List.range_zero, List.filter_nil, List.append_nil, List.mem_flatMap, List.mem_range, List.mem_filter, decide_eq_true_eq]
  constructor
  · rintro ⟨q, hq, h, _⟩; exact h
  · intro h
    have := hk i h
    exact ⟨(key i).toNat, by omega, h, by omega⟩
theorem ord_nodup (key : Nat → Int) (n : Nat) : (ordOf key n).Nodup := (ord_pair key n).imp fun {a b} h e => by subst e; exact lex_irr key a h
theorem ord_perm {key : Nat → Int} {n : Nat} (hk : ∀ i, i < n → 0 ≤ key i ∧ key i ≤ 100) : (ordOf key n).Perm (List.range n) :=
  (List.perm_ext_iff_of_nodup (ord_nodup key n) List.nodup_range).2 fun i => by rw [ord_mem hk, List.mem_range]
theorem ord_len {key : Nat → Int} {n : Nat} (hk : ∀ i, i < n → 0 ≤ key i ∧ key i ≤ 100) : (ordOf key n).length = n := by
  rw [(ord_perm hk).length_eq, List.length_range]
theorem ordTo_len {key : Nat → Int} {n r k : Nat} (hk : ∀ i, i < n → 0 ≤ key i ∧ key i ≤ 100) (hr : r ≤ 101) (hkn : k ≤ n) (hr2 : r < 101 ∨ k = 0) : (ordTo key n r k).length ≤ n := by
  have hsub : (ordTo key n r k).Sublist (ordOf key n) := by
    have h1 : ∀ k, k ≤ n → (ordTo key n r k).Sublist (ordTo key n r n) := fun k hk => by
      unfold ordTo
      exact (List.Sublist.refl _).append (List.Sublist.filter _ (List.range_sublist.2 hk))
    have h2 : ∀ r, r ≤ 101 → (ordTo key n r 0).Sublist (ordOf key n) := fun r hr => by
      unfold ordOf ordTo
      simp only [List.range_zero, List.filter_nil, List.append_nil]
      obtain ⟨d, hd⟩ := Nat.exists_eq_add_of_le hr
      rw [hd, List.range_add, List.flatMap_append]
      exact List.sublist_append_left _ _
    rcases hr2 with h | rfl
    · exact (h1 k hkn).trans (by rw [ordTo_next]; exact h2 _ h)
    · exact h2 r hr
  have := hsub.length_le
  rwa [ord_len hk] at this

section
variable {α : Type} [Inhabited α] (lt lt' : α → α → Bool)
theorem insInner_lt (a j : Nat) (d : Array α) (x : α) (hx : d[j]! = x) (hs : j < d.size) (h : ∀ k, a ≤ k → k < j → lt x d[k]! = lt' x d[k]!) : insInner lt a j d = insInner lt' a j d := by
  induction j generalizing d with
  | zero => rfl
  | succ j ih =>
    simp only [insInner]
    by_cases haj : j + 1 > a
    · rw [hx, h j (by omega) (by omega)]
      split
      · refine ih _ ?_ (by rw [swp_size]; omega) fun k hk1 hk2 => ?_
        · rw [swp_get d hs (by omega), if_pos rfl, hx]
        · rw [swp_get d hs (by omega), if_neg (by omega), if_neg (by omega)]
          exact h k hk1 (by omega)
      · rfl
    · rw [if_neg (by simp; omega), if_neg (by simp; omega)]
theorem insInner_kept (a j : Nat) (d : Array α) (hs : j < d.size) : (insInner lt a j d).size = d.size ∧ (∀ k, j < k → (insInner lt a j d)[k]! = d[k]!) ∧ (∀ k, k < a → (insInner lt a j d)[k]! = d[k]!) ∧
    ∀ p : α → Prop, (∀ k, a ≤ k → k ≤ j → p d[k]!) → ∀ k, a ≤ k → k ≤ j → p (insInner lt a j d)[k]! := by
  induction j generalizing d with
  | zero => exact ⟨rfl, fun _ _ => rfl, fun _ _ => rfl, fun _ h => h⟩
  | succ j ih =>
    simp only [insInner]
    split
    · rename_i hc
      simp only [Bool.and_eq_true, decide_eq_true_eq] at hc
      obtain ⟨h1, h2, h2', h3⟩ := ih (swp d (j + 1) j) (by rw [swp_size]; omega)
      refine ⟨by rw [h1, swp_size], fun k hk => ?_, fun k hk => ?_, fun p hp k hk1 hk2 => ?_⟩
      · rw [h2 k (by omega), swp_get d hs (by omega), if_neg (by omega), if_neg (by omega)]
      · rw [h2' k hk, swp_get d hs (by omega), if_neg (by omega), if_neg (by omega)]
      · have hj := hp (j + 1) (by omega) (Nat.le_refl _)
        have hj' := hp j (by omega) (by omega)
        by_cases he : k = j + 1
        · subst he
          rw [h2 _ (by omega), swp_get d hs (by omega), if_neg (by omega), if_pos rfl]
          exact hj'
        · refine h3 p (fun q hq1 hq2 => ?_) k hk1 (by omega)
          rw [swp_get d hs (by omega)]
          split
          · exact hj
          · split
            · exact hj'
            · exact hp q hq1 (by omega)
    · exact ⟨rfl, fun _ _ => rfl, fun _ _ => rfl, fun _ h => h⟩
end

section
variable (m : Nat) (key : Nat → Int)
def ltK (x y : Fin (m + 1)) : Bool := decide (key x.val - key y.val < 0)
def ltL (x y : Fin (m + 1)) : Bool := decide (key x.val < key y.val ∨ (key x.val = key y.val ∧ x.val < y.val))
theorem swo_ltL : SWO (ltL m key) where
  irrefl x := by simp [ltL]
  trans x y z h1 h2 := by simp only [ltL, decide_eq_true_eq] at *; omega
  ntrans x y z h1 h2 := by simp only [ltL, decide_eq_false_iff_not] at *; omega
/-- of the places i .. on each holds its own number, and those from a to i are less -/
theorem insOuter_lt (a b i : Nat) (d : Array (Fin (m + 1))) (hb : b ≤ d.size) (hd : ∀ k, i ≤ k → k < b → (d[k]!).val = k) (hl : ∀ k, a ≤ k → k < i → (d[k]!).val < i) (hai : a ≤ i) : insOuter (ltK m key) a b i d = insOuter (ltL m key) a b i d := by
  obtain ⟨t, ht⟩ : ∃ t, t = b - i := ⟨_, rfl⟩
  induction t generalizing i d with
  | zero => rw [insOuter_stop _ _ _ _ _ (by omega), insOuter_stop _ _ _ _ _ (by omega)]
  | succ t ih =>
    have hi : i < b := by omega
    have e : insInner (ltK m key) a i d = insInner (ltL m key) a i d := insInner_lt _ _ a i d _ rfl (by omega) fun k hk1 hk2 => by
      have h1 := hd i (Nat.le_refl _) hi
      have h2 := hl k hk1 hk2
      unfold ltK ltL
      rw [Bool.eq_iff_iff]
      simp only [decide_eq_true_eq]
      rw [h1]
      omega
    rw [insOuter_go _ _ _ _ _ hi, insOuter_go _ _ _ _ _ hi, e]
    obtain ⟨h1, h2, _, h3⟩ := insInner_kept (ltL m key) a i d (by omega)
    refine ih (i + 1) _ (by rw [h1]; exact hb) (fun k hk1 hk2 => ?_) (fun k hk1 hk2 => ?_) (by omega) (by omega)
    · rw [h2 k (by omega)]; exact hd k (by omega) hk2
    · refine h3 (fun x => x.val < i + 1) (fun q hq1 hq2 => ?_) k hk1 (by omega)
      by_cases hqi : q = i
      · subst hqi; rw [hd q (Nat.le_refl _) hi]; omega
      · have := hl q hq1 (by omega); omega
def places : Array (Fin (m + 1)) := Array.ofFn (fun i => i)
theorem places_size : (places m).size = m + 1 := by simp [places]
theorem places_at (k : Nat) (h : k < m + 1) : ((places m)[k]!).val = k := by
  rw [getElem!_pos _ _ (by rw [places_size]; exact h)]; simp [places]
theorem ins_lt : insertionSort (ltK m key) (places m) 0 (m + 1) = insertionSort (ltL m key) (places m) 0 (m + 1) := by
  unfold insertionSort
  refine insOuter_lt m key 0 (m + 1) (0 + 1) _ (by rw [places_size]; exact Nat.le_refl _) (fun k _ hk => places_at m k hk) (fun k _ hk => ?_) (by omega)
  obtain rfl : k = 0 := by omega
  rw [places_at m 0 (by omega)]; omega
theorem places_list : (places m).toList.map Fin.val = List.range (m + 1) := by
  apply List.ext_getElem
  · rw [List.length_map, List.length_range, Array.length_toList, places_size]
  · intro i h1 h2
    have h : i < m + 1 := by simpa using h2
    rw [List.getElem_range, List.getElem_map, Array.getElem_toList]
    have := places_at m i h
    rwa [getElem!_pos _ _ (by rw [places_size]; exact h)] at this
theorem sorted_eq {d' : Array (Fin (m + 1))} (hk : ∀ i, i < m + 1 → 0 ≤ key i ∧ key i ≤ 100) (hP : PermIn 0 (m + 1) (places m) d') (hS : SortedIn (ltL m key) 0 (m + 1) d') : d'.toList.map Fin.val = ordOf key (m + 1) := by
  obtain ⟨hs, _, hp⟩ := hP
  rw [places_size] at hs
  have e1 : d'.extract 0 (m + 1) = d' := Array.extract_eq_self_of_le (by omega)
  have e2 : (places m).extract 0 (m + 1) = places m := Array.extract_eq_self_of_le (by rw [places_size]; omega)
  rw [e1, e2] at hp
  have hperm : (d'.toList.map Fin.val).Perm (ordOf key (m + 1)) := (hp.map Fin.val).trans (by rw [places_list]; exact (ord_perm hk).symm)
  refine List.Perm.eq_of_pairwise (le := fun i j => ¬ lex key j i) (fun a b _ _ h1 h2 => ?_) ?_ ?_ hperm
  · unfold lex at h1 h2; omega
  · rw [List.pairwise_map, List.pairwise_iff_getElem]
    intro i j hi hj hij
    have hi' : i < d'.size := by simpa using hi
    have hj' : j < d'.size := by simpa using hj
    have h := hS i j (Nat.zero_le _) hij (by omega)
    rw [getElem!_pos d' i hi', getElem!_pos d' j hj'] at h
    simpa [ltL, lex] using h
  · exact (ord_pair key (m + 1)).imp fun {a b} h => by unfold lex at *; omega
/-- by insertion as key by key -/
theorem ins_ord (hk : ∀ i, i < m + 1 → 0 ≤ key i ∧ key i ≤ 100) : (insertionSort (ltK m key) (places m) 0 (m + 1)).toList.map Fin.val = ordOf key (m + 1) := by
  rw [ins_lt]
  obtain ⟨h1, h2⟩ := insertionSort_holds (swo_ltL m key) (places m) 0 (m + 1) (Nat.zero_le _) (by rw [places_size]; exact Nat.le_refl _)
  exact sorted_eq m key hk h1 h2
end
end Go.Proofs.Ytdkgcaifagigfaa
