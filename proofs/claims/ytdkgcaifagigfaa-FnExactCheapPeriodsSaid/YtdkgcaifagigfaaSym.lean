/- Plain facts on the stable sort's merge: exchanged ranges, rotated ranges, what a merge leaves. -/
import Derived.Sort.LotA
namespace Go.Proofs.Ytdkgcaifagigfaa
open Go.Sort
set_option linter.unusedVariables false
section
variable {α : Type} [Inhabited α]

/-- dj is d with the first i places of the ranges from a and from b exchanged -/
structure Swapped (d : Array α) (a b i : Nat) (dj : Array α) : Prop where
  size : dj.size = d.size
  at_ : ∀ k, k < d.size → dj[k]! = if a ≤ k ∧ k < a + i then d[b + (k - a)]! else if b ≤ k ∧ k < b + i then d[a + (k - b)]! else d[k]!
theorem Swapped.zero (d : Array α) (a b : Nat) : Swapped d a b 0 d := ⟨rfl, fun k _ => by rw [if_neg (by omega), if_neg (by omega)]⟩
theorem Swapped.step {d dj : Array α} {a b n i : Nat} (h : Swapped d a b i dj) (hab : a + n ≤ b) (hb : b + n ≤ d.size) (hi : i < n) : Swapped d a b (i + 1) (swp dj (a + i) (b + i)) := by
  refine ⟨by rw [swp_size, h.size], fun k hk => ?_⟩
  rw [swp_get dj (by rw [h.size]; omega) (by rw [h.size]; omega)]
  have e1 := h.at_ (a + i) (by omega)
  have e2 := h.at_ (b + i) (by omega)
  rw [if_neg (by omega), if_neg (by omega)] at e1 e2
  by_cases h1 : k = b + i
  · subst h1
    rw [if_pos rfl, e1, if_neg (by omega), if_pos (by omega), show a + (b + i - b) = a + i by omega]
  · rw [if_neg h1]
    by_cases h2 : k = a + i
    · subst h2
      rw [if_pos rfl, e2, if_pos (by omega), show b + (a + i - a) = b + i by omega]
    · rw [if_neg h2, h.at_ k hk]
      by_cases h3 : a ≤ k ∧ k < a + i
      · rw [if_pos h3, if_pos (show a ≤ k ∧ k < a + (i + 1) by omega)]
      · by_cases h4 : b ≤ k ∧ k < b + i
        · rw [if_neg h3, if_pos h4, if_neg (show ¬ (a ≤ k ∧ k < a + (i + 1)) by omega), if_pos (show b ≤ k ∧ k < b + (i + 1) by omega)]
        · rw [if_neg h3, if_neg h4, if_neg (show ¬ (a ≤ k ∧ k < a + (i + 1)) by omega), if_neg (show ¬ (b ≤ k ∧ k < b + (i + 1)) by omega)]
/-- d' is d with the ranges from a to m and from m to b exchanged -/
structure Rotated (d : Array α) (a m b : Nat) (d' : Array α) : Prop where
  size : d'.size = d.size
  one : ∀ k, k < d.size → a ≤ k → k < a + (b - m) → d'[k]! = d[m + (k - a)]!
  two : ∀ k, k < d.size → a + (b - m) ≤ k → k < b → d'[k]! = d[k - (b - m)]!
  out : ∀ k, k < d.size → k < a ∨ b ≤ k → d'[k]! = d[k]!
theorem Rotated.left (d : Array α) (m b : Nat) : Rotated d m m b d := ⟨rfl, fun k _ h1 h2 => by rw [show m + (k - m) = k by omega], fun k _ h1 h2 => by omega, fun _ _ _ => rfl⟩
theorem Rotated.right (d : Array α) (a m : Nat) : Rotated d a m m d := ⟨rfl, fun k _ h1 h2 => by omega, fun k _ h1 h2 => by rw [show k - (m - m) = k by omega], fun _ _ _ => rfl⟩
theorem rot_same {d d' : Array α} {m i : Nat} (h : Swapped d (m - i) m i d') (hi : i ≤ m) (hb : m + i ≤ d.size) : Rotated d (m - i) m (m + i) d' :=
  ⟨h.size, fun k hk h1 h2 => by rw [h.at_ k hk, if_pos (by omega)], fun k hk h1 h2 => by rw [h.at_ k hk, if_neg (by omega), if_pos (by omega), show m - i + (k - m) = k - (m + i - m) by omega], fun k hk h1 => by rw [h.at_ k hk, if_neg (by omega), if_neg (by omega)]⟩
theorem rot_more {d d1 d' : Array α} {m i j : Nat} (h : Swapped d (m - i) m j d1) (hj : j < i) (hi : i ≤ m) (hb : m + j ≤ d.size) (hr : Rotated d1 (m - (i - j)) m (m + j) d') : Rotated d (m - i) m (m + j) d' := by
  refine ⟨hr.size.trans h.size, fun k hk h1 h2 => ?_, fun k hk h1 h2 => ?_, fun k hk h1 => ?_⟩
  · rw [hr.out k (by rw [h.size]; exact hk) (by omega), h.at_ k hk, if_pos (by omega)]
  · by_cases h3 : k < m - (i - j) + (m + j - m)
    · rw [hr.one k (by rw [h.size]; exact hk) (by omega) h3, h.at_ _ (by omega), if_neg (by omega), if_pos (by omega), show m - i + (m + (k - (m - (i - j))) - m) = k - (m + j - m) by omega]
    · rw [hr.two k (by rw [h.size]; exact hk) (by omega) (by omega), h.at_ _ (by omega), if_neg (by omega), if_neg (by omega)]
  · rw [hr.out k (by rw [h.size]; exact hk) (by omega), h.at_ k hk, if_neg (by omega), if_neg (by omega)]
theorem rot_less {d d1 d' : Array α} {m i j : Nat} (h : Swapped d (m - i) (m + j - i) i d1) (hj : i < j) (hi : i ≤ m) (hb : m + j ≤ d.size) (hr : Rotated d1 (m - i) m (m + (j - i)) d') : Rotated d (m - i) m (m + j) d' := by
  refine ⟨hr.size.trans h.size, fun k hk h1 h2 => ?_, fun k hk h1 h2 => ?_, fun k hk h1 => ?_⟩
  · by_cases h3 : k < m - i + (m + (j - i) - m)
    · rw [hr.one k (by rw [h.size]; exact hk) h1 h3, h.at_ _ (by omega), if_neg (by omega), if_neg (by omega)]
    · rw [hr.two k (by rw [h.size]; exact hk) (by omega) (by omega), h.at_ _ (by omega), if_pos (by omega), show m + j - i + (k - (m + (j - i) - m) - (m - i)) = m + (k - (m - i)) by omega]
  · rw [hr.out k (by rw [h.size]; exact hk) (by omega), h.at_ k hk, if_neg (by omega), if_pos (by omega), show m - i + (k - (m + j - i)) = k - (m + j - m) by omega]
  · rw [hr.out k (by rw [h.size]; exact hk) (by omega), h.at_ k hk, if_neg (by omega), if_neg (by omega)]
/-- one element moved to the right, one place more -/
theorem rot_stepR {d dk : Array α} {a k : Nat} (h : Rotated d a (a + 1) (k + 1) dk) (ha : a ≤ k) (hk : k + 1 < d.size) : Rotated d a (a + 1) (k + 1 + 1) (swp dk k (k + 1)) := by
  have g := swp_get dk (i := k) (j := k + 1) (by rw [h.size]; omega) (by rw [h.size]; omega)
  refine ⟨by rw [swp_size, h.size], fun q hq h1 h2 => ?_, fun q hq h1 h2 => ?_, fun q hq h1 => ?_⟩
  · rw [g q, if_neg (by omega)]
    by_cases e : q = k
    · subst e
      rw [if_pos rfl, h.out _ (by omega) (by omega), show a + 1 + (q - a) = q + 1 by omega]
    · rw [if_neg e, h.one q hq h1 (by omega)]
  · obtain rfl : q = k + 1 := by omega
    rw [g _, if_pos rfl, h.two k (by omega) (by omega) (by omega), show k + 1 - (k + 1 + 1 - (a + 1)) = k - (k + 1 - (a + 1)) by omega]
  · rw [g q, if_neg (by omega), if_neg (by omega), h.out q hq (by omega)]
/-- one element moved to the left, one place more -/
theorem rot_stepL {d dk : Array α} {m k : Nat} (h : Rotated d (k + 1) m (m + 1) dk) (ha : k + 1 ≤ m) (hk : m < d.size) : Rotated d k m (m + 1) (swp dk (k + 1) k) := by
  have g := swp_get dk (i := k + 1) (j := k) (by rw [h.size]; omega) (by rw [h.size]; omega)
  refine ⟨by rw [swp_size, h.size], fun q hq h1 h2 => ?_, fun q hq h1 h2 => ?_, fun q hq h1 => ?_⟩
  · obtain rfl : q = k := by omega
    rw [g _, if_pos rfl, h.one (q + 1) (by omega) (by omega) (by omega), show m + (q + 1 - (q + 1)) = m + (q - q) by omega]
  · rw [g q, if_neg (by omega)]
    by_cases e : q = k + 1
    · subst e
      rw [if_pos rfl, h.out k (by omega) (by omega), show k + 1 - (m + 1 - m) = k by omega]
    · rw [if_neg e, h.two q hq (by omega) h2]
  · rw [g q, if_neg (by omega), if_neg (by omega), h.out q hq (by omega)]

variable {lt ltc : α → α → Bool}
/-- two ascending parts; the sort's own test tells of the later and the earlier part what lt tells -/
structure MPre (lt ltc : α → α → Bool) (a m b : Nat) (d : Array α) : Prop where
  left : SortedIn lt a m d
  right : SortedIn lt m b d
  test : ∀ i j, a ≤ i → i < m → m ≤ j → j < b → ltc d[j]! d[i]! = lt d[j]! d[i]!
theorem sorted_le (hS : SWO lt) {a b : Nat} {d : Array α} (h : SortedIn lt a b d) {i j : Nat} (hi : a ≤ i) (hij : i ≤ j) (hj : j < b) : lt d[j]! d[i]! = false := by
  rcases Nat.lt_or_ge i j with q | q
  · exact h i j hi q hj
  · obtain rfl : i = j := by omega
    exact hS.irrefl _
/-- the only element of the left part has gone to its place -/
theorem merge_one (hS : SWO lt) {a m b i : Nat} {d d' : Array α} (hm : m = a + 1) (h : MPre lt ltc a m b d) (hb : b ≤ d.size) (h1 : m ≤ i) (h2 : i ≤ b) (hlo : ∀ k, m ≤ k → k < i → lt d[k]! d[a]! = true) (hhi : ∀ k, i ≤ k → k < b → lt d[k]! d[a]! = false) (hr : Rotated d a m i d') : SortedIn lt a b d' := by
  intro p q hp hpq hq
  have hR := h.right
  by_cases c1 : q < i - 1
  · rw [hr.one p (by omega) hp (by omega), hr.one q (by omega) (by omega) (by omega)]
    exact hR _ _ (by omega) (by omega) (by omega)
  · by_cases c2 : q = i - 1
    · rw [hr.one p (by omega) hp (by omega), hr.two q (by omega) (by omega) (by omega), show q - (i - m) = a by omega]
      exact hS.asymmA (hlo _ (by omega) (by omega))
    · rw [hr.out q (by omega) (by omega)]
      by_cases c3 : p < i - 1
      · rw [hr.one p (by omega) hp (by omega)]
        exact hR _ _ (by omega) (by omega) (by omega)
      · by_cases c4 : p = i - 1
        · rw [hr.two p (by omega) (by omega) (by omega), show p - (i - m) = a by omega]
          exact hhi q (by omega) hq
        · rw [hr.out p (by omega) (by omega)]
          exact hR _ _ (by omega) hpq hq
/-- the only element of the right part has gone to its place -/
theorem merge_last (hS : SWO lt) {a m b i : Nat} {d d' : Array α} (hm : b = m + 1) (h : MPre lt ltc a m b d) (hb : b ≤ d.size) (h1 : a ≤ i) (h2 : i ≤ m) (hlo : ∀ k, a ≤ k → k < i → lt d[m]! d[k]! = false) (hhi : ∀ k, i ≤ k → k < m → lt d[m]! d[k]! = true) (hr : Rotated d i m b d') : SortedIn lt a b d' := by
  intro p q hp hpq hq
  have hL := h.left
  by_cases c1 : q < i
  · rw [hr.out p (by omega) (by omega), hr.out q (by omega) (by omega)]
    exact hL _ _ hp hpq (by omega)
  · by_cases c2 : q = i
    · rw [hr.out p (by omega) (by omega), hr.one q (by omega) (by omega) (by omega), show m + (q - i) = m by omega]
      exact hlo p hp (by omega)
    · rw [hr.two q (by omega) (by omega) (by omega)]
      by_cases c3 : p < i
      · rw [hr.out p (by omega) (by omega)]
        exact hL _ _ hp (by omega) (by omega)
      · by_cases c4 : p = i
        · rw [hr.one p (by omega) (by omega) (by omega), show m + (p - i) = m by omega]
          exact hS.asymmA (hhi _ (by omega) (by omega))
        · rw [hr.two p (by omega) (by omega) (by omega)]
          exact hL _ _ (by omega) (by omega) (by omega)
theorem seek_one_up (hS : SWO lt) {a p b h : Nat} {d : Array α} (hR : SortedIn lt p b d) (h1 : p ≤ h) (h2 : h < b) (hc : lt d[h]! d[a]! = true) : ∀ k, p ≤ k → k < h + 1 → lt d[k]! d[a]! = true := fun k k1 k2 => by
  have e := sorted_le hS hR (i := k) (j := h) k1 (by omega) h2
  cases z : lt d[k]! d[a]! with
  | true => rfl
  | false =>
    have := hS.ntrans _ _ _ e z
    rw [hc] at this
    cases this
theorem seek_one_down (hS : SWO lt) {a p b h : Nat} {d : Array α} (hR : SortedIn lt p b d) (h1 : p ≤ h) (hc : lt d[h]! d[a]! = false) : ∀ k, h ≤ k → k < b → lt d[k]! d[a]! = false := fun k k1 k2 =>
  hS.ntrans _ _ _ (sorted_le hS hR (i := h) (j := k) h1 k1 k2) hc
theorem seek_last_up (hS : SWO lt) {a p h : Nat} {d : Array α} (hL : SortedIn lt a p d) (h2 : h < p) (hc : lt d[p]! d[h]! = false) : ∀ k, a ≤ k → k < h + 1 → lt d[p]! d[k]! = false := fun k k1 k2 =>
  hS.ntrans _ _ _ hc (sorted_le hS hL (i := k) (j := h) k1 (by omega) h2)
theorem seek_last_down (hS : SWO lt) {a p h : Nat} {d : Array α} (hL : SortedIn lt a p d) (h1 : a ≤ h) (hc : lt d[p]! d[h]! = true) : ∀ k, h ≤ k → k < p → lt d[p]! d[k]! = true := fun k k1 k2 => by
  have e := sorted_le hS hL (i := h) (j := k) h1 k1 k2
  cases z : lt d[p]! d[k]! with
  | true => rfl
  | false =>
    have := hS.ntrans _ _ _ z e
    rw [hc] at this
    cases this
theorem MPre.keep {a m b : Nat} {d d2 : Array α} (h : MPre lt ltc a m b d) (he : ∀ k, a ≤ k → k < b → d2[k]! = d[k]!) (h1 : a ≤ m) (h2 : m ≤ b) : MPre lt ltc a m b d2 := by
  refine ⟨fun i j hi hij hj => ?_, fun i j hi hij hj => ?_, fun i j hi hm hj hb => ?_⟩
  · rw [he i hi (by omega), he j (by omega) (by omega)]; exact h.left i j hi hij hj
  · rw [he i (by omega) (by omega), he j (by omega) hj]; exact h.right i j hi hij hj
  · rw [he i hi (by omega), he j (by omega) hb]; exact h.test i j hi hm hj hb
theorem sorted_keep {a b : Nat} {d d2 : Array α} (h : SortedIn lt a b d) (he : ∀ k, a ≤ k → k < b → d2[k]! = d[k]!) : SortedIn lt a b d2 := fun i j hi hij hj => by
  rw [he i hi (by omega), he j (by omega) hj]; exact h i j hi hij hj
/-- where the binary search of the merge has ended -/
structure Cut (lt : α → α → Bool) (a m b mid s : Nat) (d : Array α) : Prop where
  lo : a ≤ s
  hi : s ≤ m
  mid1 : s ≤ mid
  end1 : m ≤ mid + m - s
  end2 : mid + m - s ≤ b
  end3 : mid ≤ mid + m - s
  below : ∀ k, a ≤ k → k < s → mid + m - s < b → lt d[mid + m - s]! d[k]! = false
  above : ∀ k, s ≤ k → k < m → m < mid + m - s → lt d[mid + m - s - 1]! d[k]! = true
/-- the two halves behind the rotation -/
structure Halves (lt ltc : α → α → Bool) (a m b mid s : Nat) (d d1 : Array α) : Prop where
  one : MPre lt ltc a s mid d1
  two : MPre lt ltc mid (mid + m - s) b d1
  cross : ∀ i j, a ≤ i → i < mid → mid ≤ j → j < b → lt d1[j]! d1[i]! = false
theorem halves_of (hS : SWO lt) {a m b mid s : Nat} {d d1 : Array α} (h : MPre lt ltc a m b d) (hb : b ≤ d.size) (c : Cut lt a m b mid s d) (hr : Rotated d s m (mid + m - s) d1) : Halves lt ltc a m b mid s d d1 := by
  have c1 := c.lo; have c2 := c.hi; have c3 := c.mid1; have c4 := c.end1; have c5 := c.end2; have c6 := c.end3
  -- what lies where
  have p1 : ∀ k, k < s → d1[k]! = d[k]! := fun k hk => hr.out k (by omega) (by omega)
  have p2 : ∀ k, s ≤ k → k < mid → d1[k]! = d[m + (k - s)]! := fun k h1 h2 => hr.one k (by omega) h1 (by omega)
  have p3 : ∀ k, mid ≤ k → k < mid + m - s → d1[k]! = d[k - mid + s]! := fun k h1 h2 => by
    rw [hr.two k (by omega) (by omega) h2, show k - (mid + m - s - m) = k - mid + s by omega]
  have p4 : ∀ k, mid + m - s ≤ k → k < b → d1[k]! = d[k]! := fun k h1 h2 => hr.out k (by omega) (by omega)
  have hL := h.left
  have hR := h.right
  refine ⟨⟨fun i j hi hij hj => ?_, fun i j hi hij hj => ?_, fun i j hi h1 h2 hj => ?_⟩, ⟨fun i j hi hij hj => ?_, fun i j hi hij hj => ?_, fun i j hi h1 h2 hj => ?_⟩, fun i j hi h1 h2 hj => ?_⟩
  · rw [p1 i (by omega), p1 j (by omega)]; exact hL i j hi hij (by omega)
  · rw [p2 i hi (by omega), p2 j (by omega) hj]; exact hR _ _ (by omega) (by omega) (by omega)
  · rw [p1 i h1, p2 j h2 hj]; exact h.test _ _ hi (by omega) (by omega) (by omega)
  · rw [p3 i hi (by omega), p3 j (by omega) hj]; exact hL _ _ (by omega) (by omega) (by omega)
  · rw [p4 i hi (by omega), p4 j (by omega) hj]; exact hR _ _ (by omega) hij hj
  · rw [p3 i hi h1, p4 j h2 hj]; exact h.test _ _ (by omega) (by omega) (by omega) hj
  · by_cases q1 : i < s
    · rw [p1 i q1]
      by_cases q2 : j < mid + m - s
      · rw [p3 j h2 q2]; exact hL _ _ hi (by omega) (by omega)
      · rw [p4 j (by omega) hj]
        exact hS.ntrans _ _ _ (sorted_le hS hR (i := mid + m - s) (by omega) (by omega) hj) (c.below i hi q1 (by omega))
    · rw [p2 i (by omega) h1]
      by_cases q2 : j < mid + m - s
      · rw [p3 j h2 q2]
        refine hS.asymmA ?_
        have e1 := c.above (j - mid + s) (by omega) (by omega) (by omega)
        have e2 := sorted_le hS hR (i := m + (i - s)) (j := mid + m - s - 1) (by omega) (by omega) (by omega)
        cases e3 : lt d[m + (i - s)]! d[j - mid + s]! with
        | true => rfl
        | false =>
          have := hS.ntrans _ _ _ e2 e3
          rw [e1] at this
          cases this
      · rw [p4 j (by omega) hj]; exact hR _ _ (by omega) (by omega) hj
/-- two sorted halves, none of the second below one of the first -/
theorem halves_done {a mid b : Nat} {d1 d2 d3 : Array α} (hm1 : a ≤ mid) (hm2 : mid ≤ b) (hb : b ≤ d1.size) (hc : ∀ i j, a ≤ i → i < mid → mid ≤ j → j < b → lt d1[j]! d1[i]! = false) (h1 : PermIn a mid d1 d2) (s1 : SortedIn lt a mid d2) (h2 : PermIn mid b d2 d3) (s2 : SortedIn lt mid b d3) : SortedIn lt a b d3 := by
  have hz2 : d2.size = d1.size := h1.1
  have f1 : ∀ j, mid ≤ j → j < b → ∀ i, a ≤ i → i < mid → lt d1[j]! d2[i]! = false := fun j hj1 hj2 =>
    permIn_all d1 d2 a mid (fun x => lt d1[j]! x = false) (by omega) h1 (fun i hi1 hi2 => hc i j hi1 hi2 hj1 hj2)
  have f2 : ∀ i, a ≤ i → i < mid → ∀ j, mid ≤ j → j < b → lt d3[j]! d2[i]! = false := fun i hi1 hi2 =>
    permIn_all d2 d3 mid b (fun x => lt x d2[i]! = false) (by omega) h2 (fun j hj1 hj2 => by rw [h1.2.1 j (by omega)]; exact f1 j hj1 hj2 i hi1 hi2)
  intro i j hi hij hj
  by_cases q1 : j < mid
  · rw [h2.2.1 i (by omega), h2.2.1 j (by omega)]
    exact s1 i j hi hij q1
  · by_cases q2 : i < mid
    · rw [h2.2.1 i (by omega)]
      exact f2 i hi q2 j (by omega) hj
    · exact s2 i j (by omega) hij hj
/-- the first place at which the merge's test says no -/
structure Seek (lt : α → α → Bool) (m mid lo hi s r : Nat) (d : Array α) : Prop where
  a1 : lo ≤ s
  a2 : s ≤ r
  a3 : r ≤ hi
  no : ∀ k, lo ≤ k → k < s → lt d[mid + m - 1 - k]! d[k]! = false
  yes : ∀ k, r ≤ k → k < hi → lt d[mid + m - 1 - k]! d[k]! = true
theorem cut_of (hS : SWO lt) {a m b mid lo hi s : Nat} {d : Array α} (h : MPre lt ltc a m b d) (hb : b ≤ d.size) (ha : a < m) (hmb : m < b) (hmid : mid = (a + b) / 2) (hlo : lo = if mid < m then mid + m - b else a) (hhi : hi = if mid < m then mid else m) (k : Seek lt m mid lo hi s s d) : Cut lt a m b mid s d := by
  have k1 := k.a1; have k3 := k.a3
  have hL := h.left
  have hR := h.right
  have g1 : a ≤ lo ∧ lo ≤ hi ∧ hi ≤ m ∧ hi ≤ mid ∧ (lo = a ∨ mid + m - lo = b) ∧ (hi = m ∨ mid + m - hi = m) ∧ mid + m - lo ≤ b := by
    rw [hlo, hhi]
    split <;> omega
  obtain ⟨e1, e2, e3, e4, e5, e6, e7⟩ := g1
  refine ⟨by omega, by omega, by omega, by omega, by omega, by omega, fun q h1 h2 h3 => ?_, fun q h1 h2 h3 => ?_⟩
  · by_cases c : lo < s
    · have n := k.no (s - 1) (by omega) (by omega)
      rw [show mid + m - 1 - (s - 1) = mid + m - s by omega] at n
      exact hS.ntrans _ _ _ n (sorted_le hS hL h1 (by omega) (by omega))
    · exfalso; omega
  · by_cases c : s < hi
    · have y := k.yes s (Nat.le_refl _) c
      rw [show mid + m - 1 - s = mid + m - s - 1 by omega] at y
      have e := sorted_le hS hL (i := s) (j := q) (by omega) h1 h2
      cases z : lt d[mid + m - s - 1]! d[q]! with
      | true => rfl
      | false =>
        have := hS.ntrans _ _ _ z e
        rw [y] at this
        cases this
    · exfalso; omega
theorem Seek.up (hS : SWO lt) {a m b mid lo hi s r c : Nat} {d : Array α} (h : MPre lt ltc a m b d) (hb : b ≤ d.size) (hr : ∀ k, lo ≤ k → k < hi → a ≤ k ∧ k < m ∧ m ≤ mid + m - 1 - k ∧ mid + m - 1 - k < b) (k : Seek lt m mid lo hi s r d) (h1 : s ≤ c) (h2 : c < r) (hc : lt d[mid + m - 1 - c]! d[c]! = false) : Seek lt m mid lo hi (c + 1) r d := by
  have k1 := k.a1; have k3 := k.a3
  refine ⟨by omega, by omega, k.a3, fun q hq1 hq2 => ?_, k.yes⟩
  have r1 := hr q hq1 (by omega)
  have r2 := hr c (by omega) (by omega)
  -- further left: a greater one of the right part, a less one of the left
  have e1 := sorted_le hS h.left (i := q) (j := c) (by omega) (by omega) (by omega)
  have e2 := sorted_le hS h.right (i := mid + m - 1 - c) (j := mid + m - 1 - q) (by omega) (by omega) (by omega)
  exact hS.ntrans _ _ _ (hS.ntrans _ _ _ e2 hc) e1
theorem Seek.down (hS : SWO lt) {a m b mid lo hi s r c : Nat} {d : Array α} (h : MPre lt ltc a m b d) (hb : b ≤ d.size) (hr : ∀ k, lo ≤ k → k < hi → a ≤ k ∧ k < m ∧ m ≤ mid + m - 1 - k ∧ mid + m - 1 - k < b) (k : Seek lt m mid lo hi s r d) (h1 : s ≤ c) (h2 : c < r) (hc : lt d[mid + m - 1 - c]! d[c]! = true) : Seek lt m mid lo hi s c d := by
  have k1 := k.a1; have k3 := k.a3
  refine ⟨k.a1, h1, by omega, k.no, fun q hq1 hq2 => ?_⟩
  have r1 := hr q (by omega) hq2
  have r2 := hr c (by omega) (by omega)
  have e1 := sorted_le hS h.left (i := c) (j := q) (by omega) (by omega) (by omega)
  have e2 := sorted_le hS h.right (i := mid + m - 1 - q) (j := mid + m - 1 - c) (by omega) (by omega) (by omega)
  cases z : lt d[mid + m - 1 - q]! d[q]! with
  | true => rfl
  | false =>
    have := hS.ntrans _ _ _ (hS.ntrans _ _ _ e2 z) e1
    rw [hc] at this
    cases this
end
end Go.Proofs.Ytdkgcaifagigfaa
