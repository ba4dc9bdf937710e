/- Plain facts: places ordered by a key, equal keys by their places: by insertion, and key by key. -/
import Derived.Sort.LotA
import Derived.Sort.WalkA
import Derived.Test.YtfnmbpjkjajpcaaGreatDoorFbPz
import Derived.Test.YtfnmbpjkjajpcaaGreatDoorFbK
import Derived.Test.YtfnmbpjkjajpcaaGreatDoorFbTz
import Derived.Test.YtfnmbpjkjajpcaaGreatDoorFbHz
import Derived.Test.YtfnmbpjkjajpcaaGreatDoorShelf
import Derived.Shelf.SlSortCmp.Insertion
import Derived.Lib.OwnBridge
import Derived.IntWalk
namespace Go.Proofs.YtfnmbpjkjajpcaaGreatDoor
open Go.Sort
set_option linter.unusedVariables false
def ordTo (key : Nat → Int) (n r k : Nat) : List Nat :=
  ((List.range r).flatMap fun (q : Nat) => (List.range n).filter fun i => decide (key i = (q : Int))) ++ (List.range k).filter fun i => decide (key i = (r : Int))
def ordOf (key : Nat → Int) (n : Nat) : List Nat := ordTo key n 101 0
def lex (key : Nat → Int) (i j : Nat) : Prop := key i < key j ∨ (key i = key j ∧ i < j)
theorem lex_irr (key : Nat → Int) (i : Nat) : ¬ lex key i i := by unfold lex; omega
theorem ord_pair (key : Nat → Int) (n : Nat) : (ordOf key n).Pairwise (lex key) := by
  unfold ordOf ordTo
  simp only [List.range_zero, List.filter_nil, List.append_nil]
  rw [List.pairwise_flatMap]
  refine ⟨fun q _ => ?_, ?_⟩
  · rw [List.pairwise_filter]
    refine (List.pairwise_lt_range (n := n)).imp fun {a b} hab ha hb => ?_
    simp only [decide_eq_true_eq] at ha hb
    exact .inr ⟨by omega, hab⟩
  · refine (List.pairwise_lt_range (n := 101)).imp ?_
    intro q r hqr x hx y hy
    have h1 := (List.mem_filter.1 hx).2
    have h2 := (List.mem_filter.1 hy).2
    simp only [decide_eq_true_eq] at h1 h2
    exact .inl (by omega)
theorem ord_mem {key : Nat → Int} {n : Nat} (hk : ∀ i, i < n → 0 ≤ key i ∧ key i ≤ 100) (i : Nat) : i ∈ ordOf key n ↔ i < n := by
  unfold ordOf ordTo
  simp only [List.range_zero, List.filter_nil, List.append_nil, List.mem_flatMap, List.mem_range, List.mem_filter, decide_eq_true_eq]
  constructor
  · rintro ⟨q, hq, h, _⟩; exact h
  · intro h
    have := hk i h
    exact ⟨(key i).toNat, by omega, h, by omega⟩
theorem ord_nodup (key : Nat → Int) (n : Nat) : (ordOf key n).Nodup := (ord_pair key n).imp fun {a b} h e => by subst e; exact lex_irr key a h
theorem ord_perm {key : Nat → Int} {n : Nat} (hk : ∀ i, i < n → 0 ≤ key i ∧ key i ≤ 100) : (ordOf key n).Perm (List.range n) :=
  (List.perm_ext_iff_of_nodup (ord_nodup key n) List.nodup_range).2 fun i => by rw [ord_mem hk, List.mem_range]
theorem ord_len {key : Nat → Int} {n : Nat} (hk : ∀ i, i < n → 0 ≤ key i ∧ key i ≤ 100) : (ordOf key n).length = n := by
  rw [(ord_perm hk).length_eq, List.length_range]
section
variable {α : Type} [Inhabited α] (lt lt' : α → α → Bool)
theorem insInner_lt (a j : Nat) (d : Array α) (x : α) (hx : d[j]! = x) (hs : j < d.size) (h : ∀ k, a ≤ k → k < j → lt x d[k]! = lt' x d[k]!) : insInner lt a j d = insInner lt' a j d := by
  induction j generalizing d with
  | zero => rfl
  | succ j ih =>
    simp only [insInner]
    by_cases haj : j + 1 > a
    · rw [hx, h j (by omega) (by omega)]
      split
      · refine ih _ ?_ (by rw [swp_size]; omega) fun k hk1 hk2 => ?_
        · rw [swp_get d hs (by omega), if_pos rfl, hx]
        · rw [swp_get d hs (by omega), if_neg (by omega), if_neg (by omega)]
          exact h k hk1 (by omega)
      · rfl
    · rw [if_neg (by simp; omega), if_neg (by simp; omega)]
theorem insInner_kept (a j : Nat) (d : Array α) (hs : j < d.size) : (insInner lt a j d).size = d.size ∧ (∀ k, j < k → (insInner lt a j d)[k]! = d[k]!) ∧ (∀ k, k < a → (insInner lt a j d)[k]! = d[k]!) ∧
    ∀ p : α → Prop, (∀ k, a ≤ k → k ≤ j → p d[k]!) → ∀ k, a ≤ k → k ≤ j → p (insInner lt a j d)[k]! := by
  induction j generalizing d with
  | zero => exact ⟨rfl, fun _ _ => rfl, fun _ _ => rfl, fun _ h => h⟩
  | succ j ih =>
    simp only [insInner]
    split
    · rename_i hc
      simp only [Bool.and_eq_true, decide_eq_true_eq] at hc
      obtain ⟨h1, h2, h2', h3⟩ := ih (swp d (j + 1) j) (by rw [swp_size]; omega)
      refine ⟨by rw [h1, swp_size], fun k hk => ?_, fun k hk => ?_, fun p hp k hk1 hk2 => ?_⟩
      · rw [h2 k (by omega), swp_get d hs (by omega), if_neg (by omega), if_neg (by omega)]
      · rw [h2' k hk, swp_get d hs (by omega), if_neg (by omega), if_neg (by omega)]
      · have hj := hp (j + 1) (by omega) (Nat.le_refl _)
        have hj' := hp j (by omega) (by omega)
        by_cases he : k = j + 1
        · subst he
          rw [h2 _ (by omega), swp_get d hs (by omega), if_neg (by omega), if_pos rfl]
          exact hj'
        · refine h3 p (fun q hq1 hq2 => ?_) k hk1 (by omega)
          rw [swp_get d hs (by omega)]
          split
          · exact hj
          · split
            · exact hj'
            · exact hp q hq1 (by omega)
    · exact ⟨rfl, fun _ _ => rfl, fun _ _ => rfl, fun _ h => h⟩
end
section
variable (m : Nat) (key : Nat → Int)
def ltK (x y : Fin (m + 1)) : Bool := decide (key x.val - key y.val < 0)
def ltL (x y : Fin (m + 1)) : Bool := decide (key x.val < key y.val ∨ (key x.val = key y.val ∧ x.val < y.val))
theorem swo_ltL : SWO (ltL m key) where
  irrefl x := by simp [ltL]
  trans x y z h1 h2 := by simp only [ltL, decide_eq_true_eq] at *; omega
  ntrans x y z h1 h2 := by simp only [ltL, decide_eq_false_iff_not] at *; omega
theorem insOuter_lt (a b i : Nat) (d : Array (Fin (m + 1))) (hb : b ≤ d.size) (hd : ∀ k, i ≤ k → k < b → (d[k]!).val = k) (hl : ∀ k, a ≤ k → k < i → (d[k]!).val < i) (hai : a ≤ i) : insOuter (ltK m key) a b i d = insOuter (ltL m key) a b i d := by
  obtain ⟨t, ht⟩ : ∃ t, t = b - i := ⟨_, rfl⟩
  induction t generalizing i d with
  | zero => rw [insOuter_stop _ _ _ _ _ (by omega), insOuter_stop _ _ _ _ _ (by omega)]
  | succ t ih =>
    have hi : i < b := by omega
    have e : insInner (ltK m key) a i d = insInner (ltL m key) a i d := insInner_lt _ _ a i d _ rfl (by omega) fun k hk1 hk2 => by
      have h1 := hd i (Nat.le_refl _) hi
      have h2 := hl k hk1 hk2
      unfold ltK ltL
      rw [Bool.eq_iff_iff]
      simp only [decide_eq_true_eq]
      rw [h1]
      omega
    rw [insOuter_go _ _ _ _ _ hi, insOuter_go _ _ _ _ _ hi, e]
    obtain ⟨h1, h2, _, h3⟩ := insInner_kept (ltL m key) a i d (by omega)
    refine ih (i + 1) _ (by rw [h1]; exact hb) (fun k hk1 hk2 => ?_) (fun k hk1 hk2 => ?_) (by omega) (by omega)
    · rw [h2 k (by omega)]; exact hd k (by omega) hk2
    · refine h3 (fun x => x.val < i + 1) (fun q hq1 hq2 => ?_) k hk1 (by omega)
      by_cases hqi : q = i
      · subst hqi; rw [hd q (Nat.le_refl _) hi]; omega
      · have := hl q hq1 (by omega); omega
def places : Array (Fin (m + 1)) := Array.ofFn (fun i => i)
theorem places_size : (places m).size = m + 1 := by simp [places]
theorem places_at (k : Nat) (h : k < m + 1) : ((places m)[k]!).val = k := by
  rw [getElem!_pos _ _ (by rw [places_size]; exact h)]; simp [places]
theorem ins_lt : insertionSort (ltK m key) (places m) 0 (m + 1) = insertionSort (ltL m key) (places m) 0 (m + 1) := by
  unfold insertionSort
  refine insOuter_lt m key 0 (m + 1) (0 + 1) _ (by rw [places_size]; exact Nat.le_refl _) (fun k _ hk => places_at m k hk) (fun k _ hk => ?_) (by omega)
  obtain rfl : k = 0 := by omega
  rw [places_at m 0 (by omega)]; omega
theorem places_list : (places m).toList.map Fin.val = List.range (m + 1) := by
  apply List.ext_getElem
  · rw [List.length_map, List.length_range, Array.length_toList, places_size]
  · intro i h1 h2
    have h : i < m + 1 := by simpa using h2
    rw [List.getElem_range, List.getElem_map, Array.getElem_toList]
    have := places_at m i h
    rwa [getElem!_pos _ _ (by rw [places_size]; exact h)] at this
theorem sorted_eq {d' : Array (Fin (m + 1))} (hk : ∀ i, i < m + 1 → 0 ≤ key i ∧ key i ≤ 100) (hP : PermIn 0 (m + 1) (places m) d') (hS : SortedIn (ltL m key) 0 (m + 1) d') : d'.toList.map Fin.val = ordOf key (m + 1) := by
  obtain ⟨hs, _, hp⟩ := hP
  rw [places_size] at hs
  have e1 : d'.extract 0 (m + 1) = d' := Array.extract_eq_self_of_le (by omega)
  have e2 : (places m).extract 0 (m + 1) = places m := Array.extract_eq_self_of_le (by rw [places_size]; omega)
  rw [e1, e2] at hp
  have hperm : (d'.toList.map Fin.val).Perm (ordOf key (m + 1)) := (hp.map Fin.val).trans (by rw [places_list]; exact (ord_perm hk).symm)
  refine List.Perm.eq_of_pairwise (le := fun i j => ¬ lex key j i) (fun a b _ _ h1 h2 => ?_) ?_ ?_ hperm
  · unfold lex at h1 h2; omega
  · rw [List.pairwise_map, List.pairwise_iff_getElem]
    intro i j hi hj hij
    have hi' : i < d'.size := by simpa using hi
    have hj' : j < d'.size := by simpa using hj
    have h := hS i j (Nat.zero_le _) hij (by omega)
    rw [getElem!_pos d' i hi', getElem!_pos d' j hj'] at h
    simpa [ltL, lex] using h
  · exact (ord_pair key (m + 1)).imp fun {a b} h => by unfold lex at *; omega
theorem ins_ord (hk : ∀ i, i < m + 1 → 0 ≤ key i ∧ key i ≤ 100) : (insertionSort (ltK m key) (places m) 0 (m + 1)).toList.map Fin.val = ordOf key (m + 1) := by
  rw [ins_lt]
  obtain ⟨h1, h2⟩ := insertionSort_holds (swo_ltL m key) (places m) 0 (m + 1) (Nat.zero_le _) (by rw [places_size]; exact Nat.le_refl _)
  exact sorted_eq m key hk h1 h2
end
end Go.Proofs.YtfnmbpjkjajpcaaGreatDoor
namespace Go.Proofs.YtfnmbpjkjajpcaaGreatDoor
set_option linter.unusedVariables false
theorem askRank_bd {xs : List Ask} (h : asksOk xs = true) (i : Nat) (hi : i < xs.length) : 0 ≤ askRank xs i ∧ askRank xs i ≤ 100 := by
  have := asksOk_at h hi
  rw [askRank_at hi]
  omega
def ordAt (xs : List Ask) (k : Nat) : Nat := (ordOf (askRank xs) xs.length).getD k 0
theorem ord_length {xs : List Ask} (h : asksOk xs = true) : (ordOf (askRank xs) xs.length).length = xs.length := ord_len (fun i hi => askRank_bd h i hi)
theorem ordAt_lt {xs : List Ask} (h : asksOk xs = true) {k : Nat} (hk : k < xs.length) : ordAt xs k < xs.length := by
  have hl := ord_length h
  have hm : ordAt xs k ∈ ordOf (askRank xs) xs.length := by
    unfold ordAt
    rw [List.getD_eq_getElem?_getD, List.getElem?_eq_getElem (by omega), Option.getD_some]
    exact List.getElem_mem _
  exact (ord_mem (fun i hi => askRank_bd h i hi) _).1 hm
def moreOf (xs : List Ask) (left : Int) (i : Nat) : Int := if left < askWish xs i - askLow xs i then left else askWish xs i - askLow xs i
def allotN (xs : List Ask) (l0 : Int) : Nat → List Int × Int
  | 0 => (xs.map Ask.Low, l0)
  | k + 1 => ((allotN xs l0 k).1.set (ordAt xs k) (num (allotN xs l0 k).1 (ordAt xs k) + moreOf xs (allotN xs l0 k).2 (ordAt xs k)), (allotN xs l0 k).2 - moreOf xs (allotN xs l0 k).2 (ordAt xs k))
theorem more_bd {xs : List Ask} (h : asksOk xs = true) {i : Nat} (hi : i < xs.length) {left : Int} (h0 : 0 ≤ left) : 0 ≤ moreOf xs left i ∧ moreOf xs left i ≤ 2000 ∧ moreOf xs left i ≤ left := by
  have := asksOk_at h hi
  unfold moreOf
  rw [askWish_at hi, askLow_at hi]
  split <;> omega
theorem allotN_length (xs : List Ask) (l0 : Int) (k : Nat) : (allotN xs l0 k).1.length = xs.length := by
  induction k with
  | zero => simp [allotN]
  | succ k ih => simp only [allotN, List.length_set, ih]
theorem num_set_self {l : List Int} {i : Nat} {x : Int} (h : i < l.length) : num (l.set i x) i = x := by simp [num, List.getD_eq_getElem?_getD, h]
theorem num_set_ne {l : List Int} {i j : Nat} {x : Int} (h : i ≠ j) : num (l.set i x) j = num l j := by simp [num, List.getD_eq_getElem?_getD, h]
theorem allotN_bd {xs : List Ask} (h : asksOk xs = true) {l0 : Int} (h0 : 0 ≤ l0) (k : Nat) (hk : k ≤ xs.length) : 0 ≤ (allotN xs l0 k).2 ∧ (allotN xs l0 k).2 ≤ l0 ∧ ∀ j, j < xs.length → -1000 ≤ num (allotN xs l0 k).1 j ∧ num (allotN xs l0 k).1 j ≤ 1000 + 2000 * k := by
  induction k with
  | zero =>
    refine ⟨h0, Int.le_refl _, fun j hj => ?_⟩
    have := asksOk_at h hj
    simp only [allotN]
    rw [num_at (by simpa using hj)]
    simp only [List.getElem_map]
    omega
  | succ k ih =>
    obtain ⟨h1, h2, h3⟩ := ih (by omega)
    have hi := ordAt_lt h (k := k) (by omega)
    have hm := more_bd h hi h1
    refine ⟨by simp only [allotN]; omega, by simp only [allotN]; omega, fun j hj => ?_⟩
    simp only [allotN]
    have h4 := h3 j hj
    by_cases e : ordAt xs k = j
    · rw [← e] at h4 ⊢
      rw [num_set_self (by rw [allotN_length]; exact hi)]
      omega
    · rw [num_set_ne e]
      omega
def left0 (xs : List Ask) (total : Int) : Int := (if 1000000 < total then 1000000 else total) - leastCap xs
theorem leastCap_bd (xs : List Ask) : -6000 ≤ leastCap xs ∧ leastCap xs ≤ 6000 := by
  unfold leastCap
  split
  · rename_i h; exact sumLow_bd h (Nat.le_refl _)
  · omega
theorem left0_bd {xs : List Ask} {total : Int} (h : leastCap xs ≤ total) : 0 ≤ left0 xs total ∧ left0 xs total ≤ 1006000 := by
  have := leastCap_bd xs
  unfold left0
  split <;> omega
def allotOk (xs : List Ask) (total : Int) : Bool := asksOk xs && decide (leastCap xs ≤ total)
def allotOf (xs : List Ask) (total : Int) : List Int := if allotOk xs total = true then (allotN xs (left0 xs total) xs.length).1 else []
theorem allotOf_good {xs : List Ask} {total : Int} (h1 : asksOk xs = true) (h2 : leastCap xs ≤ total) : allotOk xs total = true ∧ allotOf xs total = (allotN xs (left0 xs total) xs.length).1 := by
  have : allotOk xs total = true := by unfold allotOk; simp [h1, h2]
  exact ⟨this, if_pos this⟩
theorem allotOf_bad {xs : List Ask} {total : Int} (h : ¬ (asksOk xs = true ∧ leastCap xs ≤ total)) : allotOk xs total = false ∧ allotOf xs total = [] := by
  have : allotOk xs total = false := by
    unfold allotOk
    rw [Bool.eq_false_iff]
    intro e
    simp at e
    exact h e
  exact ⟨this, if_neg (by rw [this]; simp)⟩
theorem allotOf_le (xs : List Ask) (total : Int) : (allotOf xs total).length ≤ xs.length := by
  unfold allotOf
  split
  · rw [allotN_length]; exact Nat.le_refl _
  · simp
def lowsTo (xs : List Ask) (k : Nat) : List Int := (xs.map Ask.Low).take k
theorem lowsTo_succ {xs : List Ask} {k : Nat} (h : k < xs.length) : lowsTo xs (k + 1) = lowsTo xs k ++ [xs[k].Low] := by
  unfold lowsTo
  rw [List.take_succ_eq_append_getElem (by simpa using h), List.getElem_map]
theorem lowsTo_all (xs : List Ask) : lowsTo xs xs.length = xs.map Ask.Low := by
  unfold lowsTo
  rw [List.take_of_length_le (by simp)]
end Go.Proofs.YtfnmbpjkjajpcaaGreatDoor
namespace Go.Proofs.YtfnmbpjkjajpcaaGreatDoor
open Go.ChangeShapes Go.WideShapes Go.ChangeAt Go.RowKit
open Go.Sort (putRow Holds insertionSort)
set_option linter.unusedVariables false
theorem cell_one_at (W : World) (a : Nat) (h : W.heap.size = a) (v : Value) (t : TypeId) : ∀ j u, [v][j]? = some u → (W.alloc (.cells #[v] t)).cell? ((⟨a, 0, none⟩ : Addr).add j) = some u := by
  subst h
  exact cell_one_new W v t
def nats (l : List Nat) : List Int := l.map fun (i : Nat) => (i : Int)
theorem nats_length (l : List Nat) : (nats l).length = l.length := by simp [nats]
theorem nats_append (a b : List Nat) : nats (a ++ b) = nats a ++ nats b := by simp [nats]
theorem nats_range_succ (k : Nat) : nats (List.range (k + 1)) = nats (List.range k) ++ [(k : Int)] := by rw [List.range_succ, nats_append]; rfl
def rankOrder (xs : List Ask) : List Int := if asksOk xs = true then nats (ordOf (askRank xs) xs.length) else []
theorem rankOrder_len {xs : List Ask} (h : asksOk xs = true) : (rankOrder xs).length = xs.length := by
  unfold rankOrder
  rw [if_pos h, nats_length, ord_len (fun i hi => askRank_bd h i hi)]
def encF (m : Nat) (x : Fin (m + 1)) : Value := .int .i64 (x.val : Int)
def cfK (m : Nat) (key : Nat → Int) (x y : Fin (m + 1)) : Int := key x.val - key y.val
theorem encF_list (m : Nat) (l : List (Fin (m + 1))) : l.map (encF m) = ints (nats (l.map Fin.val)) := by
  unfold ints nats encF
  rw [List.map_map, List.map_map]
  rfl
theorem ltOf_cfK (m : Nat) (key : Nat → Int) : ltOf (cfK m key) = ltK m key := rfl
theorem sortWorld_cell {α : Type} [Inhabited α] (enc : α → Value) (w : World) (blk off m : Nat) (dk : Array α) (os : Array Obj) (a : Addr) (h1 : a.block < w.heap.size) (h2 : a.block ≠ blk) :
    (sortWorld enc w blk off m dk os).cell? a = w.cell? a := by
  unfold sortWorld
  rw [Sort.cell?_grow _ _ _ (by simpa using h1), Sort.cell?_putRow_other _ _ _ _ _ _ (.inl h2), Sort.cell?_ahead]
theorem sortWorld_row {α : Type} [Inhabited α] (enc : α → Value) (w : World) (blk off m : Nat) (dk : Array α) (os : Array Obj) {A : Option Addr} {cs : List Value} (h : Row w A cs) (h2 : ∀ ad, A = some ad → ad.block ≠ blk) : Row (sortWorld enc w blk off m dk os) A cs := by
  rcases h with h | ⟨b, o, hA, hc⟩
  · exact .inl h
  · refine .inr ⟨b, o, hA, fun j v hj => ?_⟩
    have hv := hc j v hj
    rw [sortWorld_cell enc w blk off m dk os _ (World.block_lt_of_cell? w _ hv) (show b ≠ blk from h2 _ hA)]
    exact hv
set_option maxHeartbeats 1000000 in
theorem stableCmp_small (m : Nat) (key : Nat → Int) (f : Nat) (cb : Array Value) (n g cap : Nat) (w : World) (hn : n = m + 1) (hn20 : n < 20)
    (eg : ∀ args w, (callFunc f args).run Tryz.prog w = .ok (.enter f args) w) (hcmp : CmpReads Tryz.prog f cb (encF m) (cfK m key) g 0 (m + 1) w) (hH : Holds (encF m) w g 0 (places m)) :
    Calls Tryz.prog 333 #[.slice (some ⟨g, 0, none⟩) n cap, .int .i64 (n : Int), .func (.func f) #[] cb] w fun e w' =>
      e = .returned (.tuple #[]) ∧ ∃ q, w' = (putRow (encF m) w g 0 (insertionSort (ltK m key) (places m) 0 (m + 1))).drewN q := by
  have hcon := Tryz.insertionSortCmpFunc_one (encF m) (fun _ => rfl) (cfK m key) f cb g 0 cap 0 n (places m) w eg (by rw [places_size]; exact hcmp) hH (Nat.zero_le _) (by rw [places_size, hn]; exact Nat.le_refl _) (by rw [places_size]; omega)
  rw [show (places m).size = n from (places_size m).trans hn.symm, ltOf_cfK] at hcon
  have hd : ∃ d', insertionSort (ltK m key) (places m) 0 n = d' ∧ insertionSort (ltK m key) (places m) 0 (m + 1) = d' := ⟨_, by rw [hn], rfl⟩
  obtain ⟨d', hd1, hd2⟩ := hd
  rw [hd1] at hcon
  rw [hd2]
  clear hcmp hH eg hd1 hd2
  have HC := Lib.hid hcon
  clear hcon
  have h20 : ¬ (20 : Int) ≤ (n : Int) := by omega
  have h20' : ¬ (20 : Int) < (n : Int) := by omega
  clear hn
  go_enter Tryz.func333, Tryz.ntmps333
  go_wp2
  go_loop [7, 8] (fun a b => a = .int .i64 0 ∧ b = .int .i64 20) (fun _ _ => 0)
  case atStart => exact ⟨rfl, rfl⟩
  case round =>
    obtain ⟨rfl, rfl⟩ := hrel
    go_wp2_with fail
    refine (HC.out).mono ?_
    rintro e w1 ⟨rfl, q, rfl⟩
    go_wp2
    go_loop [6] (fun s => s = .int .i64 20) (fun _ => 0)
    case atStart => rfl
    case round =>
      obtain rfl := hrel
      go_wp2
      go_end0
      exact ⟨rfl, q, rfl⟩
set_option maxHeartbeats 1000000 in
theorem sortStable_small (m : Nat) (key : Nat → Int) (f : Nat) (cb : Array Value) (n g cap : Nat) (w : World) (hn : n = m + 1) (hn20 : n < 20)
    (eg : ∀ args w, (callFunc f args).run Tryz.prog w = .ok (.enter f args) w) (hcmp : CmpReads Tryz.prog f cb (encF m) (cfK m key) g 0 (m + 1) w) (hH : Holds (encF m) w g 0 (places m)) :
    Calls Tryz.prog 306 #[.slice (some ⟨g, 0, none⟩) n cap, .func (.func f) #[] cb] w fun e w' =>
      e = .returned (.tuple #[]) ∧ ∃ q, w' = (putRow (encF m) w g 0 (insertionSort (ltK m key) (places m) 0 (m + 1))).drewN q := by
  have hcon := stableCmp_small m key f cb n g cap w hn hn20 eg hcmp hH
  generalize insertionSort (ltK m key) (places m) 0 (m + 1) = d' at hcon ⊢
  clear hcmp hH eg
  have HC := Lib.hid hcon
  clear hcon hn
  go_enter Tryz.func306, Tryz.ntmps306
  go_wp2_with fail
  refine (HC.out).mono ?_
  rintro e w1 ⟨rfl, q, rfl⟩
  go_wp2
  go_end0
  exact ⟨rfl, q, rfl⟩
theorem insCmp_nil (f : Value) (w : World) : Calls Tryz.prog 341 #[.slice none 0 0, .int .i64 0, .int .i64 0, f] w fun e w' => e = .returned (.tuple #[]) ∧ w = w' := by
  go_enter Tryz.func341, Tryz.ntmps341
  go_wp2
  go_loop [8] (fun i => i = .int .i64 1) (fun _ => 0)
  case atStart => rfl
  case round =>
    obtain rfl := hrel
    go_wp2
    go_end0
    exact ⟨rfl, rfl⟩
set_option maxHeartbeats 1000000 in
theorem sortStable_nil (f : Nat) (cb : Array Value) (w : World) : Calls Tryz.prog 306 #[.slice none 0 0, .func (.func f) #[] cb] w fun e w' => e = .returned (.tuple #[]) ∧ w = w' := by
  have hst : Calls Tryz.prog 333 #[.slice none 0 0, .int .i64 0, .func (.func f) #[] cb] w fun e w' => e = .returned (.tuple #[]) ∧ w = w' := by
    go_enter Tryz.func333, Tryz.ntmps333
    go_wp2
    go_loop [7, 8] (fun a b => a = .int .i64 0 ∧ b = .int .i64 20) (fun _ _ => 0)
    case atStart => exact ⟨rfl, rfl⟩
    case round =>
      obtain ⟨rfl, rfl⟩ := hrel
      go_wp2_with fail
      refine (insCmp_nil _ _).mono ?_
      rintro e w' ⟨rfl, rfl⟩
      go_wp2
      go_loop [6] (fun s => s = .int .i64 20) (fun _ => 0)
      case atStart => rfl
      case round =>
        obtain rfl := hrel
        go_wp2
        go_end0
        exact ⟨rfl, rfl⟩
  have HC := Lib.hid hst
  clear hst
  go_enter Tryz.func306, Tryz.ntmps306
  go_wp2_with fail
  refine (HC.out).mono ?_
  rintro e w' ⟨rfl, rfl⟩
  go_wp2
  go_end0
  exact ⟨rfl, rfl⟩
set_option maxHeartbeats 1000000 in
theorem rankCmp_any (A : Option Addr) (n c : Nat) (xs : List Ask) (B : Nat) (w : World) (hn : xs.length = n) (hB : w.cell? ⟨B, 0, none⟩ = some (.slice A n c)) (hr : Row w A (ints (flat Ask.ints xs))) (hok : asksOk xs = true) (i j : Nat) (hi : i < n) (hj : j < n) :
    Calls Tryz.prog 307 #[.int .i64 (i : Int), .int .i64 (j : Int), .pointer (some ⟨B, 0, none⟩)] w fun e w' => e = .returned (.int .i64 (askRank xs i - askRank xs j)) ∧ ∃ q, w' = w.drewN q := by
  have h6 := asksOk_len hok
  obtain ⟨b, off, rfl, hb, hi0, hi1, hi2, hi3⟩ := hr.Ask (k := i) (by omega)
  obtain ⟨b', off', hA', hb', hj0, hj1, hj2, hj3⟩ := hr.Ask (k := j) (by omega)
  injection hA' with hA'
  injection hA' with e1 e2
  subst e1 e2
  have r1 := asksOk_at hok (i := i) (by omega)
  have r2 := asksOk_at hok (i := j) (by omega)
  have H : Hid (askRank xs i - askRank xs j = (xs[i]'(by omega)).Rank - (xs[j]'(by omega)).Rank) := by unfold Hid; rw [askRank_at (by omega), askRank_at (by omega)]
  obtain ⟨u, hu⟩ : ∃ u, (xs[i]'(by omega)).Rank = u := ⟨_, rfl⟩
  obtain ⟨v, hv⟩ : ∃ v, (xs[j]'(by omega)).Rank = v := ⟨_, rfl⟩
  rw [hu] at hi3 H r1
  rw [hv] at hj3 H r2
  obtain ⟨_, _, _, _, r1, r1'⟩ := r1
  obtain ⟨_, _, _, _, r2, r2'⟩ := r2
  have hd : IntKind.i64.wrap (u - v) = u - v := IntWalk.i64_in _ (by omega)
  clear hu hv hr hok hi0 hi1 hi2 hj0 hj1 hj2
  go_enter Tryz.func307, Tryz.ntmps307
  go_wp2_with fail
  go_quiet (fail)
  go_wp2
  go_ret
  exact ⟨ret_int H.out.symm, _, rfl⟩
set_option maxHeartbeats 1000000 in
theorem implRankOrder_any (A : Option Addr) (n c : Nat) (xs : List Ask) (w : World) (hn : xs.length = n) (hr : Row w A (ints (flat Ask.ints xs))) (hle : n ≤ maxLen) :
    Calls Tryz.prog 259 #[.slice A n c] w fun e w' => IntsMade (rankOrder xs) w e w' := by
  have Hle := Lib.hid hle
  unfold maxLen at hle
  have hx : Ext w (w.alloc (.cells #[.slice A n c] 41)) := (Ext.refl w).alloc _
  have bR := Blk.new w 41 #[.slice A n c]
  obtain ⟨i0, hi0, hz0, hz1, hz2⟩ := info_parts int_info
  go_enter Tryz.func259, Tryz.ntmps259
  go_wp2_with fail
  refine (implAsksOk_any _ _ _ xs _ hn (hr.ext hx) Hle.out).mono ?_
  rintro e w1 ⟨rfl, hx1⟩
  replace hx := hx.trans hx1
  replace bR := bR.ext hx1
  have cbR_1 := fun o => bR.cell o
  by_cases hok : asksOk xs = true
  · rw [hok]
    have h6 := asksOk_len hok
    have Hok := Lib.hid hok
    clear hok
    go_wp2
    go_loopw [3, 10] (fun v i wr => ∃ k : Nat, k ≤ n ∧ i = .int .i64 k ∧ Ext w wr ∧ Blk wr w.heap.size 41 #[.slice A n c] ∧ (k = 0 → v = .slice none 0 0) ∧ wr.ownsRow (w.heap.size + 1) 3 1 v k (ints (nats (List.range k)))) (fun _ i _ => n - (intOf i).toNat)
    case atStart => exact ⟨0, Nat.zero_le _, rfl, hx, bR, fun _ => rfl, World.ownsRow_nil _ _ _ _⟩
    case round =>
    obtain ⟨k, hk, rfl, hxr, bS, hnil, hown⟩ := hrel
    have hsz := bS.lt
    by_cases hlt : k < n
    · have hlt2 : (k : Int) < (n : Int) := by omega
      go_wp2_with (at_builtin; go_must (refine wpList_append_own _ rfl _ _ 31 rfl (w.heap.size + 1) 3 i0 (.int .i64 0) 1 8 Tryz.underlying31 hi0 hz0 hz1 hz2 rfl (by decide) _ _ _ rfl (hown.alloc _) ⟨wr.heap.size, 0, none⟩ 1 1 [.int .i64 k] rfl rfl (cell_one_new _ _ _) (by simp [Value.oneCell']) (by unfold maxLen; omega) (by omega) (by simp; omega) ?_); intro v' w2 hown' hgrow _)
      have hx2 : Ext w w2 := (hxr.alloc _).grown hgrow (fun g hg => by have := (hown.lt g hg).1; omega)
      have bS2 : Blk w2 w.heap.size 41 #[.slice A n c] := (hgrow.block _ (by simp; omega) (fun e => by have := (hown.lt _ e.symm).1; omega)).trans (bS.alloc _)
      go_roundw
      case rel => exact ⟨k + 1, by omega, by go_num, hx2, bS2, fun h => by omega, by rw [nats_range_succ, ints_append]; exact hown'⟩
      case measure => simp [intOf]; omega
    · obtain rfl : k = n := by omega
      have Hlen := Lib.hid (rankOrder_len Hok.out)
      by_cases h0 : k = 0
      · obtain rfl := hnil h0
        subst h0
        have E : rankOrder xs = [] := List.eq_nil_of_length_eq_zero (by rw [Hlen.out, hn])
        have HE := Lib.hid E
        clear E hnil
        have hf := fun (cb : Array Value) => sortStable_nil 307 cb
        go_wp2_with fail
        refine (hf _ _).mono ?_
        rintro e w' ⟨rfl, rfl⟩
        go_wp2
        go_ret
        exact IntsMade.mk (A := none) (c := 0) (by rw [HE.out]; rfl) hxr (by rw [HE.out]; exact World.ownsRow_nil _ _ _ _)
      · obtain ⟨m, hm⟩ : ∃ m, k = m + 1 := ⟨k - 1, by omega⟩
        have hl : ints (nats (List.range k)) = (places m).toList.map (encF m) := by rw [encF_list, places_list, hm]
        rw [hl] at hown
        obtain ⟨g, cap, rfl, hbg, hgl, hkc, hcm, _, hH⟩ := Lib.holds_of_ownsRow hown (by
          intro e
          have h1 := hown.1
          rcases hown.2 with ⟨_, h2⟩ | ⟨_, _, _, h3, _⟩
          · exact h0 h2
          · rw [e] at h3; cases h3)
        have hH' : Holds (encF m) wr g 0 (places m) := hH
        have hkey : ∀ i, i < m + 1 → 0 ≤ askRank xs i ∧ askRank xs i ≤ 100 := fun i hi => askRank_bd Hok.out i (by omega)
        have E : (insertionSort (ltK m (askRank xs)) (places m) 0 (m + 1)).toList.map Fin.val = ordOf (askRank xs) (m + 1) := ins_ord m (askRank xs) hkey
        have hsz2 : (insertionSort (ltK m (askRank xs)) (places m) 0 (m + 1)).toList.length = k := by
          have := congrArg List.length E
          rw [List.length_map, ord_len hkey] at this
          omega
        have E2 : (insertionSort (ltK m (askRank xs)) (places m) 0 (m + 1)).toList.map (encF m) = ints (rankOrder xs) := by
          rw [encF_list, E]; unfold rankOrder; rw [if_pos Hok.out, hn, hm]
        have hrow : Row wr A (ints (flat Ask.ints xs)) := hr.ext hxr
        have hAb : ∀ ad, A = some ad → ad.block ≠ g := by
          intro ad hA
          by_cases hne : ints (flat Ask.ints xs) = []
          · exfalso
            have := congrArg List.length hne
            rw [ints_length, flat_length Ask.ints_len] at this
            simp at this
            omega
          · obtain ⟨b, off, hA2, hb, _⟩ := hr.at_ hne
            rw [hA] at hA2
            injection hA2 with hA2
            rw [hA2]
            simp only
            omega
        have hbox := bS.cell 0
        have hcmp : CmpReads Tryz.prog 307 #[.pointer (some ⟨w.heap.size, 0, none⟩)] (encF m) (cfK m (askRank xs)) g 0 (m + 1) wr := by
          intro mm os dk _ x y
          exact rankCmp_any A k c xs w.heap.size _ hn (by rw [sortWorld_cell _ _ _ _ _ _ _ _ bS.lt (by simp only; omega)]; exact hbox) (sortWorld_row _ _ _ _ _ _ _ hrow hAb) Hok.out x.val y.val (by omega) (by omega)
        have hcon := sortStable_small m (askRank xs) 307 #[.pointer (some ⟨w.heap.size, 0, none⟩)] k g cap wr hm (by omega) (enters_of Tryz.func307 (by kernel_rfl) rfl) hcmp hH'
        obtain ⟨d', hd⟩ : ∃ d', insertionSort (ltK m (askRank xs)) (places m) 0 (m + 1) = d' := ⟨_, rfl⟩
        rw [hd] at hcon hsz2 E2
        have HC := Lib.hid hcon
        have HE2 := Lib.hid E2
        have Hs2 := Lib.hid hsz2
        have Hown := Lib.hid hown
        clear hcon hcmp E E2 hd hl hown hH hH' hsz2 hkey hAb hnil hrow hm
        go_wp2_with fail
        refine HC.out.mono ?_
        rintro e w2 ⟨rfl, q, rfl⟩
        go_wp2
        go_ret
        have hw : (putRow (encF m) wr g 0 d').drewN q = putRow (encF m) (Sort.ahead wr q) g 0 d'.toList.toArray := by
          have := putRow_drewN (enc := encF m) wr 0 q g 0 d'
          rw [Sort.ahead_zero, Nat.zero_add] at this
          simpa using this
        have ho2 := Lib.ownsRow_putRow (q := q) (k := k) (ys := d'.toList) Hown.out Hs2.out (Nat.le_refl _)
        rw [List.take_of_length_le (by rw [Hs2.out]; exact Nat.le_refl _), HE2.out, ← hw] at ho2
        refine IntsMade.mk (A := some ⟨g, 0, none⟩) (c := cap) (by rw [Hlen.out, hn]; rfl) ?_ (by rw [Hlen.out, hn]; exact own_base ho2 (by omega))
        rw [hw]
        exact Lib.below_putRow hxr (by omega)
  · rw [show asksOk xs = false from by simpa using hok]
    have H : Hid (rankOrder xs = []) := by
      unfold Hid rankOrder
      rw [if_neg hok]
    clear hok
    go_wp2
    go_ret
    exact IntsMade.mk (A := none) (c := 0) (by rw [H.out]; rfl) hx (by rw [H.out]; exact World.ownsRow_nil _ _ _ _)
end Go.Proofs.YtfnmbpjkjajpcaaGreatDoor
namespace Go.Proofs.YtfnmbpjkjajpcaaGreatDoor
open Go.ChangeShapes Go.WideShapes Go.ChangeAt Go.RowKit
set_option linter.unusedVariables false
def IntsOk (l : List Int) (b : Bool) (w : World) (e : Ending) (w' : World) : Prop :=
  ∃ A c, e = .returned (.tuple #[.slice A l.length c, .bool b]) ∧ w'.ownsRow w.heap.size 3 1 (.slice A l.length c) l.length (ints l) ∧ Ext w w'
theorem ints_set (l : List Int) (i : Nat) (x : Int) : ints (l.set i x) = (ints l).set i (.int .i64 x) := by simp [ints, List.map_set]
theorem rankOrder_at {xs : List Ask} (h : asksOk xs = true) {k : Nat} (hk : k < xs.length) (hk' : k < (rankOrder xs).length) : (rankOrder xs)[k] = ((ordAt xs k : Nat) : Int) := by
  have hl := ord_length h
  unfold ordAt
  rw [List.getD_eq_getElem?_getD, List.getElem?_eq_getElem (by omega), Option.getD_some]
  simp only [rankOrder, if_pos h, nats, List.getElem_map]
set_option maxRecDepth 100000 in
set_option maxHeartbeats 2000000 in
theorem implAllot_any (A : Option Addr) (n c : Nat) (xs : List Ask) (total : Int) (w : World) (hn : xs.length = n) (hr : Row w A (ints (flat Ask.ints xs))) (hle : n ≤ maxLen) (ht : I64 total) :
    Calls Tryz.prog 195 #[.slice A n c, .int .i64 total] w fun e w' => IntsOk (allotOf xs total) (allotOk xs total) w e w' := by
  have Hle := Lib.hid hle
  unfold maxLen at hle
  obtain ⟨ht1, ht2⟩ := ht
  obtain ⟨i0, hi0, hz0, hz1, hz2⟩ := info_parts int_info
  have hLb := leastCap_bd xs
  obtain ⟨hLb1, hLb2⟩ := hLb
  by_cases hok : asksOk xs = true
  rotate_left
  · have HG := Lib.hid (allotOf_bad (xs := xs) (total := total) (fun h => hok h.1))
    have hokf : asksOk xs = false := by simpa using hok
    have Hokf := Lib.hid hokf
    clear hok hokf
    have hy := Ext.refl w
    go_enter Tryz.func195, Tryz.ntmps195
    go_wp2_with fail
    refine (implLeastCap_any _ _ _ xs _ hn hr Hle.out).mono ?_
    rintro e w1 ⟨rfl, hx1⟩
    replace hy := hy.trans hx1
    go_wp2_with fail
    refine (implAsksOk_any _ _ _ xs _ hn (hr.ext hy) Hle.out).mono ?_
    rintro e w2 ⟨rfl, hx2⟩
    replace hy := hy.trans hx2
    rw [Hokf.out]
    go_wp2
    refine bodyPost_ret (v := .tuple #[.slice none 0 0, .bool false]) (by simp [results, Tryz.results195, go_sem]) rfl ⟨none, 0, ?_, ?_, hy⟩
    · rw [HG.out.1, HG.out.2]; rfl
    · rw [HG.out.2]; exact World.ownsRow_nil _ _ _ _
  have Hok := Lib.hid hok
  clear hok
  by_cases hcap : leastCap xs ≤ total
  rotate_left
  · have HG := Lib.hid (allotOf_bad (xs := xs) (total := total) (fun h => hcap h.2))
    have hcap2 : total < leastCap xs := by omega
    have hy := Ext.refl w
    go_enter Tryz.func195, Tryz.ntmps195
    go_wp2_with fail
    refine (implLeastCap_any _ _ _ xs _ hn hr Hle.out).mono ?_
    rintro e w1 ⟨rfl, hx1⟩
    replace hy := hy.trans hx1
    go_wp2_with fail
    refine (implAsksOk_any _ _ _ xs _ hn (hr.ext hy) Hle.out).mono ?_
    rintro e w2 ⟨rfl, hx2⟩
    replace hy := hy.trans hx2
    rw [Hok.out]
    go_wp2
    refine bodyPost_ret (v := .tuple #[.slice none 0 0, .bool false]) (by simp [results, Tryz.results195, go_sem]) rfl ⟨none, 0, ?_, ?_, hy⟩
    · rw [HG.out.1, HG.out.2]; rfl
    · rw [HG.out.2]; exact World.ownsRow_nil _ _ _ _
  have hL0 := left0_bd (xs := xs) (total := total) hcap
  have HG := Lib.hid (allotOf_good Hok.out hcap)
  have HB := Lib.hid (allotN_bd Hok.out hL0.1)
  have H6 := asksOk_len Hok.out
  obtain ⟨hL1, hL2⟩ := hL0
  by_cases hbig : 1000000 < total
  · have hE : left0 xs total = 1000000 - leastCap xs := by unfold left0; rw [if_pos hbig]
    obtain ⟨l0, hl0⟩ : ∃ l, left0 xs total = l := ⟨_, rfl⟩
    rw [hl0] at HB HG hL1 hL2 hE
    have HE := Lib.hid hE
    clear hl0 hE
    have hy := Ext.refl w
    go_enter Tryz.func195, Tryz.ntmps195
    go_wp2_with fail
    refine (implLeastCap_any _ _ _ xs _ hn hr Hle.out).mono ?_
    rintro e w1 ⟨rfl, hx1⟩
    replace hy := hy.trans hx1
    go_wp2_with fail
    refine (implAsksOk_any _ _ _ xs _ hn (hr.ext hy) Hle.out).mono ?_
    rintro e w2 ⟨rfl, hx2⟩
    replace hy := hy.trans hx2
    rw [Hok.out]
    go_wp2
    go_loopw [8, 30] (fun v i wr => ∃ k : Nat, k ≤ n ∧ i = .int .i64 k ∧ Ext w wr ∧ wr.ownsRow w.heap.size 3 1 v k (ints (lowsTo xs k))) (fun _ i _ => n - (intOf i).toNat)
    case atStart => exact ⟨0, Nat.zero_le _, rfl, hy, World.ownsRow_nil _ _ _ _⟩
    case round =>
    obtain ⟨k, hk, rfl, hx, hown⟩ := hrel
    have hsz := hx.size
    by_cases hlt : k < n
    · have hlt2 : (k : Int) < (n : Int) := by omega
      obtain ⟨b, off, rfl, hb, hc0, hc1, hc2, hc3⟩ := (hr.ext hx).Ask (k := k) (by omega)
      have Hk := Lib.hid (lowsTo_succ (xs := xs) (k := k) (by omega))
      go_wp2_with (at_builtin; go_must (refine wpList_append_own _ rfl _ _ 31 rfl w.heap.size 3 i0 (.int .i64 0) 1 8 Tryz.underlying31 hi0 hz0 hz1 hz2 rfl (by decide) _ _ _ rfl (own_ext hown (((Ext.refl _).alloc _).alloc _)) ⟨wr.heap.size + 1, 0, none⟩ 1 1 [.int .i64 (xs[k]'(by omega)).Low] rfl rfl (cell_one_at _ _ (by simp) _ _) (by simp [Value.oneCell']) (by unfold maxLen; omega) (by omega) (by simp; omega) ?_); intro v' w2 hown' hgrow _)
      have hx2 : Ext w w2 := ((hx.alloc _).alloc _).grown hgrow (fun g hg => (hown.lt g hg).1)
      go_roundw
      case rel => exact ⟨k + 1, by omega, by go_num, hx2, by rw [Hk.out, ints_append]; exact hown'⟩
      case measure => simp [intOf]; omega
    · obtain rfl : k = n := by omega
      obtain ⟨Ai, ci, rfl⟩ := own_form hown
      have hall : lowsTo xs k = (allotN xs l0 0).1 := by rw [← hn, lowsTo_all]; rfl
      rw [hall] at hown
      clear hall
      go_wp2_with fail
      refine (implRankOrder_any _ _ _ xs _ hn (hr.ext hx) Hle.out).mono ?_
      rintro e w2 ⟨Ao, co, rfl, hord, hx2⟩
      have HI := Lib.hid (fun g (hg : Value.ownBlock (.slice Ai k ci) = some g) => own_lt hown hg)
      have HJ := Lib.hid (fun g (hg : Value.ownBlock (.slice Ao (rankOrder xs).length co) = some g) => own_lt hord hg)
      replace hown := own_ext hown hx2
      have hy2 := hx.trans hx2
      have Hro := Lib.hid (rankOrder_len Hok.out)
      have hll : (rankOrder xs).length = k := by rw [Hro.out, hn]
      rw [hll] at hord HJ
      rw [hll]
      clear hll
      obtain ⟨B2, hB2⟩ : ∃ B, wr.heap.size = B := ⟨_, rfl⟩
      rw [hB2] at hord HI HJ
      clear hB2
      go_wp2
      go_loopw [7, 43] (fun l i wr => ∃ q : Nat, q ≤ k ∧ i = .int .i64 q ∧ l = .int .i64 (allotN xs l0 q).2 ∧ Ext w wr ∧ wr.ownsRow w.heap.size 3 1 (.slice Ai k ci) k (ints (allotN xs l0 q).1) ∧ wr.ownsRow B2 3 1 (.slice Ao k co) k (ints (rankOrder xs))) (fun _ i _ => k - (intOf i).toNat)
      case atStart => exact ⟨0, Nat.zero_le _, rfl, by have := HE.out; show _ = Value.int .i64 l0; congr 1; omega, hy2, hown, hord⟩
      case round =>
      clear hown hord hy2 hx2 hx hsz
      obtain ⟨q, hq, rfl, rfl, hx, hown, hord⟩ := hrel
      have hsz := hx.size
      by_cases hqk : q < k
      · have hqk2 : (q : Int) < (k : Int) := by omega
        obtain ⟨bo, oo, rfl, hbo, hco⟩ := (Row.of_own hord).int (k := q) (by rw [Hro.out]; omega)
        rw [rankOrder_at Hok.out (by omega) (by rw [Hro.out]; omega)] at hco
        obtain ⟨g, rfl⟩ : ∃ g, Ai = some ⟨g, 0, none⟩ := by
          rcases hown.2 with ⟨_, h⟩ | ⟨g, cap, cu, hv, _⟩
          · omega
          · injection hv with hA _ _; exact ⟨g, hA⟩
        have hi := ordAt_lt Hok.out (k := q) (by omega)
        have hst : Hid (allotN xs l0 (q + 1) = ((allotN xs l0 q).1.set (ordAt xs q) (num (allotN xs l0 q).1 (ordAt xs q) + moreOf xs (allotN xs l0 q).2 (ordAt xs q)), (allotN xs l0 q).2 - moreOf xs (allotN xs l0 q).2 (ordAt xs q))) := rfl
        obtain ⟨b1, b2, b3⟩ := HB.out q (by omega)
        have hlen := allotN_length xs l0 q
        obtain ⟨L, hLe⟩ : ∃ L, (allotN xs l0 q).1 = L := ⟨_, rfl⟩
        obtain ⟨left, hleft⟩ : ∃ l, (allotN xs l0 q).2 = l := ⟨_, rfl⟩
        obtain ⟨i, hie⟩ : ∃ i, ordAt xs q = i := ⟨_, rfl⟩
        rw [hLe] at hst hlen b3 hown
        rw [hleft] at hst b1 b2 ⊢
        rw [hie] at hst hi hco
        clear hLe hleft hie
        obtain ⟨b, off, rfl, hb, hc0, hc1, hc2, hc3⟩ := (hr.ext hx).Ask (k := i) hi
        obtain ⟨b4, b5⟩ := b3 i hi
        have hm := more_bd Hok.out hi b1
        have hmd : Hid (moreOf xs left i = if left < (xs[i]'hi).Wish - (xs[i]'hi).Low then left else (xs[i]'hi).Wish - (xs[i]'hi).Low) := by unfold Hid moreOf; rw [askWish_at hi, askLow_at hi]
        have hcell : wr.cell? ⟨g, i, none⟩ = some (.int .i64 (num L i)) := by
          rw [hown.cellAt i (by omega), ints_get (by omega), num_at (by omega)]
        have hfz := hown.frozenAt i
        have hab := asksOk_at Hok.out hi
        obtain ⟨a1, a2, a3, a4, _, _⟩ := hab
        obtain ⟨x, hxe⟩ : ∃ x, num L i = x := ⟨_, rfl⟩
        obtain ⟨low, hlo⟩ : ∃ x, (xs[i]'hi).Low = x := ⟨_, rfl⟩
        obtain ⟨wish, hwi⟩ : ∃ x, (xs[i]'hi).Wish = x := ⟨_, rfl⟩
        rw [hxe] at hst hcell b4 b5
        rw [hlo] at hmd hc0 a1 a2
        rw [hwi] at hmd hc2 a2 a3
        clear hxe hlo hwi b3 hc1 hc3
        have hlen' := Lib.hid hlen
        have hin : (i : Int) < (k : Int) := by omega
        have hdw : IntKind.i64.wrap (wish - low) = wish - low := IntWalk.i64_in _ (by omega)
        have hblk : g < B2 ∧ w.heap.size ≤ g := by have h1 := HI.out g rfl; omega
        have hbo2 : B2 ≤ bo := by have h1 := HJ.out bo rfl; omega
        have hq13 : (q : Int) ≤ 6 := by omega
        clear hlen
        have hmv : moreOf xs left i = min (wish - low) left := by rw [hmd.out]; split <;> omega
        rw [hmv] at hst hm
        have HM := Lib.hid hmv
        clear hmv
        go_wp2_with fail
        go_quiet (fail)
        have hown2 := own_ext hown ((Ext.refl wr).drewN nq)
        have hord2 := own_ext hord ((Ext.refl wr).drewN nq)
        have hx2 := hx.drewN nq
        obtain ⟨w3, hw3⟩ : ∃ w3, wr.drewN nq = w3 := ⟨_, rfl⟩
        have hcell2 : (wr.drewN nq).cell? ⟨g, i, none⟩ = some (.int .i64 x) := hcell
        have hfz2 : (wr.drewN nq).frozen? ⟨g, i, none⟩ = false := hfz
        rw [hw3] at hown2 hord2 hx2 hcell2 hfz2 ⊢
        clear hw3
        go_wp2
        go_roundw
        case rel => exact ⟨q + 1, by omega, by go_num, by rw [hst.out], hx2.setCell hblk.2 _, by rw [hst.out, ints_set]; exact (World.ownsRow.stored hown2 i _).1, own_only hord2 ((Only.refl (some g) w3).set i _) (fun g' hg' he => by injection hg' with hg'; injection he with he; simp only at he; omega)⟩
        case measure => simp [intOf]; omega
      · obtain rfl : q = k := by omega
        have E1 := HG.out.1
        have E2 : allotOf xs total = (allotN xs l0 q).1 := by rw [HG.out.2, hn]
        have El := allotN_length xs l0 q
        rw [hn] at El
        have HE1 := Lib.hid E1
        have HE2 := Lib.hid E2
        have HEl := Lib.hid El
        clear E1 E2 El
        go_wp2
        refine bodyPost_ret (v := .tuple #[.slice Ai q ci, .bool true]) (by simp [results, Tryz.results195, go_sem]) rfl ⟨Ai, ci, ?_, ?_, hx⟩
        · rw [HE1.out, HE2.out, HEl.out]
        · rw [HE2.out, HEl.out]; exact hown
  · have hE : left0 xs total = total - leastCap xs := by unfold left0; rw [if_neg hbig]
    obtain ⟨l0, hl0⟩ : ∃ l, left0 xs total = l := ⟨_, rfl⟩
    rw [hl0] at HB HG hL1 hL2 hE
    have HE := Lib.hid hE
    clear hl0 hE
    have hy := Ext.refl w
    go_enter Tryz.func195, Tryz.ntmps195
    go_wp2_with fail
    refine (implLeastCap_any _ _ _ xs _ hn hr Hle.out).mono ?_
    rintro e w1 ⟨rfl, hx1⟩
    replace hy := hy.trans hx1
    go_wp2_with fail
    refine (implAsksOk_any _ _ _ xs _ hn (hr.ext hy) Hle.out).mono ?_
    rintro e w2 ⟨rfl, hx2⟩
    replace hy := hy.trans hx2
    rw [Hok.out]
    go_wp2
    go_loopw [8, 30] (fun v i wr => ∃ k : Nat, k ≤ n ∧ i = .int .i64 k ∧ Ext w wr ∧ wr.ownsRow w.heap.size 3 1 v k (ints (lowsTo xs k))) (fun _ i _ => n - (intOf i).toNat)
    case atStart => exact ⟨0, Nat.zero_le _, rfl, hy, World.ownsRow_nil _ _ _ _⟩
    case round =>
    obtain ⟨k, hk, rfl, hx, hown⟩ := hrel
    have hsz := hx.size
    by_cases hlt : k < n
    · have hlt2 : (k : Int) < (n : Int) := by omega
      obtain ⟨b, off, rfl, hb, hc0, hc1, hc2, hc3⟩ := (hr.ext hx).Ask (k := k) (by omega)
      have Hk := Lib.hid (lowsTo_succ (xs := xs) (k := k) (by omega))
      go_wp2_with (at_builtin; go_must (refine wpList_append_own _ rfl _ _ 31 rfl w.heap.size 3 i0 (.int .i64 0) 1 8 Tryz.underlying31 hi0 hz0 hz1 hz2 rfl (by decide) _ _ _ rfl (own_ext hown (((Ext.refl _).alloc _).alloc _)) ⟨wr.heap.size + 1, 0, none⟩ 1 1 [.int .i64 (xs[k]'(by omega)).Low] rfl rfl (cell_one_at _ _ (by simp) _ _) (by simp [Value.oneCell']) (by unfold maxLen; omega) (by omega) (by simp; omega) ?_); intro v' w2 hown' hgrow _)
      have hx2 : Ext w w2 := ((hx.alloc _).alloc _).grown hgrow (fun g hg => (hown.lt g hg).1)
      go_roundw
      case rel => exact ⟨k + 1, by omega, by go_num, hx2, by rw [Hk.out, ints_append]; exact hown'⟩
      case measure => simp [intOf]; omega
    · obtain rfl : k = n := by omega
      obtain ⟨Ai, ci, rfl⟩ := own_form hown
      have hall : lowsTo xs k = (allotN xs l0 0).1 := by rw [← hn, lowsTo_all]; rfl
      rw [hall] at hown
      clear hall
      go_wp2_with fail
      refine (implRankOrder_any _ _ _ xs _ hn (hr.ext hx) Hle.out).mono ?_
      rintro e w2 ⟨Ao, co, rfl, hord, hx2⟩
      have HI := Lib.hid (fun g (hg : Value.ownBlock (.slice Ai k ci) = some g) => own_lt hown hg)
      have HJ := Lib.hid (fun g (hg : Value.ownBlock (.slice Ao (rankOrder xs).length co) = some g) => own_lt hord hg)
      replace hown := own_ext hown hx2
      have hy2 := hx.trans hx2
      have Hro := Lib.hid (rankOrder_len Hok.out)
      have hll : (rankOrder xs).length = k := by rw [Hro.out, hn]
      rw [hll] at hord HJ
      rw [hll]
      clear hll
      obtain ⟨B2, hB2⟩ : ∃ B, wr.heap.size = B := ⟨_, rfl⟩
      rw [hB2] at hord HI HJ
      clear hB2
      go_wp2
      go_loopw [7, 43] (fun l i wr => ∃ q : Nat, q ≤ k ∧ i = .int .i64 q ∧ l = .int .i64 (allotN xs l0 q).2 ∧ Ext w wr ∧ wr.ownsRow w.heap.size 3 1 (.slice Ai k ci) k (ints (allotN xs l0 q).1) ∧ wr.ownsRow B2 3 1 (.slice Ao k co) k (ints (rankOrder xs))) (fun _ i _ => k - (intOf i).toNat)
      case atStart => exact ⟨0, Nat.zero_le _, rfl, by have := HE.out; show _ = Value.int .i64 l0; congr 1; omega, hy2, hown, hord⟩
      case round =>
      clear hown hord hy2 hx2 hx hsz
      obtain ⟨q, hq, rfl, rfl, hx, hown, hord⟩ := hrel
      have hsz := hx.size
      by_cases hqk : q < k
      · have hqk2 : (q : Int) < (k : Int) := by omega
        obtain ⟨bo, oo, rfl, hbo, hco⟩ := (Row.of_own hord).int (k := q) (by rw [Hro.out]; omega)
        rw [rankOrder_at Hok.out (by omega) (by rw [Hro.out]; omega)] at hco
        obtain ⟨g, rfl⟩ : ∃ g, Ai = some ⟨g, 0, none⟩ := by
          rcases hown.2 with ⟨_, h⟩ | ⟨g, cap, cu, hv, _⟩
          · omega
          · injection hv with hA _ _; exact ⟨g, hA⟩
        have hi := ordAt_lt Hok.out (k := q) (by omega)
        have hst : Hid (allotN xs l0 (q + 1) = ((allotN xs l0 q).1.set (ordAt xs q) (num (allotN xs l0 q).1 (ordAt xs q) + moreOf xs (allotN xs l0 q).2 (ordAt xs q)), (allotN xs l0 q).2 - moreOf xs (allotN xs l0 q).2 (ordAt xs q))) := rfl
        obtain ⟨b1, b2, b3⟩ := HB.out q (by omega)
        have hlen := allotN_length xs l0 q
        obtain ⟨L, hLe⟩ : ∃ L, (allotN xs l0 q).1 = L := ⟨_, rfl⟩
        obtain ⟨left, hleft⟩ : ∃ l, (allotN xs l0 q).2 = l := ⟨_, rfl⟩
        obtain ⟨i, hie⟩ : ∃ i, ordAt xs q = i := ⟨_, rfl⟩
        rw [hLe] at hst hlen b3 hown
        rw [hleft] at hst b1 b2 ⊢
        rw [hie] at hst hi hco
        clear hLe hleft hie
        obtain ⟨b, off, rfl, hb, hc0, hc1, hc2, hc3⟩ := (hr.ext hx).Ask (k := i) hi
        obtain ⟨b4, b5⟩ := b3 i hi
        have hm := more_bd Hok.out hi b1
        have hmd : Hid (moreOf xs left i = if left < (xs[i]'hi).Wish - (xs[i]'hi).Low then left else (xs[i]'hi).Wish - (xs[i]'hi).Low) := by unfold Hid moreOf; rw [askWish_at hi, askLow_at hi]
        have hcell : wr.cell? ⟨g, i, none⟩ = some (.int .i64 (num L i)) := by
          rw [hown.cellAt i (by omega), ints_get (by omega), num_at (by omega)]
        have hfz := hown.frozenAt i
        have hab := asksOk_at Hok.out hi
        obtain ⟨a1, a2, a3, a4, _, _⟩ := hab
        obtain ⟨x, hxe⟩ : ∃ x, num L i = x := ⟨_, rfl⟩
        obtain ⟨low, hlo⟩ : ∃ x, (xs[i]'hi).Low = x := ⟨_, rfl⟩
        obtain ⟨wish, hwi⟩ : ∃ x, (xs[i]'hi).Wish = x := ⟨_, rfl⟩
        rw [hxe] at hst hcell b4 b5
        rw [hlo] at hmd hc0 a1 a2
        rw [hwi] at hmd hc2 a2 a3
        clear hxe hlo hwi b3 hc1 hc3
        have hlen' := Lib.hid hlen
        have hin : (i : Int) < (k : Int) := by omega
        have hdw : IntKind.i64.wrap (wish - low) = wish - low := IntWalk.i64_in _ (by omega)
        have hblk : g < B2 ∧ w.heap.size ≤ g := by have h1 := HI.out g rfl; omega
        have hbo2 : B2 ≤ bo := by have h1 := HJ.out bo rfl; omega
        have hq13 : (q : Int) ≤ 6 := by omega
        clear hlen
        have hmv : moreOf xs left i = min (wish - low) left := by rw [hmd.out]; split <;> omega
        rw [hmv] at hst hm
        have HM := Lib.hid hmv
        clear hmv
        go_wp2_with fail
        go_quiet (fail)
        have hown2 := own_ext hown ((Ext.refl wr).drewN nq)
        have hord2 := own_ext hord ((Ext.refl wr).drewN nq)
        have hx2 := hx.drewN nq
        obtain ⟨w3, hw3⟩ : ∃ w3, wr.drewN nq = w3 := ⟨_, rfl⟩
        have hcell2 : (wr.drewN nq).cell? ⟨g, i, none⟩ = some (.int .i64 x) := hcell
        have hfz2 : (wr.drewN nq).frozen? ⟨g, i, none⟩ = false := hfz
        rw [hw3] at hown2 hord2 hx2 hcell2 hfz2 ⊢
        clear hw3
        go_wp2
        go_roundw
        case rel => exact ⟨q + 1, by omega, by go_num, by rw [hst.out], hx2.setCell hblk.2 _, by rw [hst.out, ints_set]; exact (World.ownsRow.stored hown2 i _).1, own_only hord2 ((Only.refl (some g) w3).set i _) (fun g' hg' he => by injection hg' with hg'; injection he with he; simp only at he; omega)⟩
        case measure => simp [intOf]; omega
      · obtain rfl : q = k := by omega
        have E1 := HG.out.1
        have E2 : allotOf xs total = (allotN xs l0 q).1 := by rw [HG.out.2, hn]
        have El := allotN_length xs l0 q
        rw [hn] at El
        have HE1 := Lib.hid E1
        have HE2 := Lib.hid E2
        have HEl := Lib.hid El
        clear E1 E2 El
        go_wp2
        refine bodyPost_ret (v := .tuple #[.slice Ai q ci, .bool true]) (by simp [results, Tryz.results195, go_sem]) rfl ⟨Ai, ci, ?_, ?_, hx⟩
        · rw [HE1.out, HE2.out, HEl.out]
        · rw [HE2.out, HEl.out]; exact hown
end Go.Proofs.YtfnmbpjkjajpcaaGreatDoor
namespace Go.Proofs.YtfnmbpjkjajpcaaGreatDoor
open Go.ChangeShapes Go.WideShapes Go.ChangeAt Go.RowKit
set_option linter.unusedVariables false
def allotT (xs : List Ask) (total : Int) : List UInt8 :=
  if asksOk xs = true then (if allotOk xs total = true then joinT (allotOf xs total) else [110, 111, 110, 101]) else []
theorem allotOf_I64 {xs : List Ask} {total : Int} (i : Nat) (hi : i < (allotOf xs total).length) : I64 (allotOf xs total)[i] := by
  by_cases h : asksOk xs = true ∧ leastCap xs ≤ total
  · have hb := (allotN_bd h.1 (left0_bd (xs := xs) (total := total) h.2).1 xs.length (Nat.le_refl _)).2.2
    have e := (allotOf_good h.1 h.2).2
    have h6 := asksOk_len h.1
    have hl := allotN_length xs (left0 xs total) xs.length
    have hi' : i < xs.length := by rw [e, hl] at hi; exact hi
    have h2 := hb i hi'
    rw [← e] at h2
    rw [num_at hi] at h2
    unfold I64
    omega
  · have := (allotOf_bad h).2
    rw [this] at hi
    simp at hi
theorem allotOf_len6 (xs : List Ask) (total : Int) : (allotOf xs total).length ≤ 6 := by
  by_cases h : asksOk xs = true
  · have h1 := allotOf_le xs total
    have h2 := asksOk_len h
    omega
  · rw [(allotOf_bad (xs := xs) (total := total) (fun e => h e.1)).2]; simp
set_option maxHeartbeats 1000000 in
theorem implAllotLine_any (A : Option Addr) (n c : Nat) (xs : List Ask) (total : Int) (w : World) (hn : xs.length = n) (hr : Row w A (ints (flat Ask.ints xs))) (hle : n ≤ maxLen) (ht : I64 total) (hT : Tab w) :
    Calls Tryz.prog 128 #[.slice A n c, .int .i64 total] w fun e w' => e = .returned (.string (txt (allotT xs total))) ∧ Ext w w' := by
  have HT := Lib.hid hT
  clear hT
  have hy := Ext.refl w
  go_enter Tryz.func128, Tryz.ntmps128
  go_wp2_with fail
  refine (implAsksOk_any _ _ _ xs _ hn (hr.ext hy) hle).mono ?_
  rintro e w1 ⟨rfl, hx1⟩
  replace hy := hy.trans hx1
  by_cases h1 : asksOk xs = true
  · rw [h1]
    have H1 := Lib.hid h1
    clear h1
    go_wp2_with fail
    refine (implAllot_any _ _ _ xs _ _ hn (hr.ext hy) hle ht).mono ?_
    rintro e w2 ⟨B, b, rfl, ho, hx2⟩
    replace hy := hy.trans hx2
    have HR := Lib.hid (Row.of_own ho)
    have h6 := allotOf_len6 xs total
    obtain ⟨l, hl⟩ : ∃ l, allotOf xs total = l := ⟨_, rfl⟩
    have hI : Hid (∀ i, (hi : i < l.length) → I64 l[i]) := by subst hl; exact allotOf_I64
    by_cases h2 : allotOk xs total = true
    · have H : Hid (allotT xs total = joinT l) := by unfold Hid allotT; rw [if_pos H1.out, if_pos h2, hl]
      rw [hl] at h6 HR
      rw [h2, hl]
      have hT2 := HT.out.ext hy
      clear h2 hl ho
      go_wp2_with fail
      refine (joinInts_any _ _ _ l _ rfl HR.out (by omega) hI.out hT2).mono ?_
      rintro e w3 ⟨rfl, hx3⟩
      replace hy := hy.trans hx3
      go_wp2
      go_ret
      exact ⟨ret_txt (by rw [H.out]), hy⟩
    · have H : Hid (allotT xs total = [110, 111, 110, 101]) := by unfold Hid allotT; rw [if_pos H1.out, if_neg h2]
      rw [show allotOk xs total = false from by simpa using h2]
      clear h2 ho
      go_wp2
      go_ret
      exact ⟨ret_txt (by rw [H.out]; rfl), hy⟩
  · have H : Hid (allotT xs total = []) := by unfold Hid allotT; rw [if_neg h1]
    rw [show asksOk xs = false from by simpa using h1]
    clear h1
    go_wp2
    go_ret
    exact ⟨ret_txt (by rw [H.out]; rfl), hy⟩
end Go.Proofs.YtfnmbpjkjajpcaaGreatDoor
