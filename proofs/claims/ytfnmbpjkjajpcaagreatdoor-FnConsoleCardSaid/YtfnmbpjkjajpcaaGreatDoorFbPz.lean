/- Plain models of what the Go functions compute; nothing of a program is in sight. -/
import Derived.WalkKit
namespace Go.Proofs.YtfnmbpjkjajpcaaGreatDoor
def inR (n lo hi : Int) : Bool := decide (lo ≤ n) && decide (n ≤ hi)
structure Ratio where
  N : Int
  D : Int
  deriving DecidableEq
def Ratio.ints (a : Ratio) : List Int := [a.N, a.D]
structure Spot where
  X : Int
  Y : Int
  D : Int
  deriving DecidableEq
def Spot.ints (a : Spot) : List Int := [a.X, a.Y, a.D]
structure Half where
  A : Int
  B : Int
  C : Int
  deriving DecidableEq
def Half.ints (a : Half) : List Int := [a.A, a.B, a.C]
structure Piece where
  A : Int
  B : Int
  C : Int
  D : Int
  deriving DecidableEq
def Piece.ints (a : Piece) : List Int := [a.A, a.B, a.C, a.D]
structure Mode where
  Low : Int
  High : Int
  deriving DecidableEq
def Mode.ints (a : Mode) : List Int := [a.Low, a.High]
structure Record where
  Before : Int
  Input : Int
  After : Int
  deriving DecidableEq
def Record.ints (a : Record) : List Int := [a.Before, a.Input, a.After]
structure Rule where
  Low : Int
  High : Int
  Step : Int
  Window : Int
  Drift : Int
  deriving DecidableEq
def Rule.ints (a : Rule) : List Int := [a.Low, a.High, a.Step, a.Window, a.Drift]
structure Ask where
  Low : Int
  High : Int
  Wish : Int
  Rank : Int
  deriving DecidableEq
def Ask.ints (a : Ask) : List Int := [a.Low, a.High, a.Wish, a.Rank]
def askOk (a : Ask) : Bool := inR a.Low (-1000) 1000 && inR a.Wish a.Low 1000 && inR a.High a.Wish 1000 && inR a.Rank 0 100
def asksOk (l : List Ask) : Bool := l.all askOk && decide (l.length ≤ 6)
def flat {α : Type} (f : α → List Int) (l : List α) : List Int := l.flatMap f
theorem flat_length {α : Type} {f : α → List Int} {q : Nat} (hf : ∀ a, (f a).length = q) (l : List α) : (flat f l).length = l.length * q := by
  induction l with
  | nil => simp [flat]
  | cons a l ih =>
    have h : flat f (a :: l) = f a ++ flat f l := rfl
    rw [h, List.length_append, hf, ih, List.length_cons, Nat.add_mul]
    omega
theorem flat_get {α : Type} {f : α → List Int} {q : Nat} (hf : ∀ a, (f a).length = q) : ∀ (l : List α) (k i : Nat) (hk : k < l.length), i < q → (flat f l)[k * q + i]? = (f l[k])[i]? := by
  intro l
  induction l with
  | nil => intro k i hk; simp at hk
  | cons a l ih =>
    intro k i hk hi
    have h : flat f (a :: l) = f a ++ flat f l := rfl
    cases k with
    | zero =>
      rw [h, Nat.zero_mul, Nat.zero_add, List.getElem?_append_left (by rw [hf]; exact hi)]
      rfl
    | succ k =>
      rw [h, List.getElem?_append_right (by rw [hf, Nat.add_mul]; omega), hf]
      have e : (k + 1) * q + i - q = k * q + i := by rw [Nat.add_mul]; omega
      rw [e]
      exact ih k i (by simpa using hk) hi
theorem take_eq_succ {α : Type} {xs ys : List α} {k : Nat} (hx : k < xs.length) (hy : k < ys.length) (h : xs.take k = ys.take k) (e : xs[k] = ys[k]) : xs.take (k + 1) = ys.take (k + 1) := by
  rw [List.take_succ_eq_append_getElem hx, List.take_succ_eq_append_getElem hy, h, e]
theorem ne_of_get {α : Type} {xs ys : List α} {k : Nat} (hx : k < xs.length) (hy : k < ys.length) (e : ¬ xs[k] = ys[k]) : xs ≠ ys := by
  rintro rfl
  exact e rfl
theorem all_take_succ {α : Type} (p : α → Bool) (l : List α) (k : Nat) (h : k < l.length) : (l.take (k + 1)).all p = ((l.take k).all p && p l[k]) := by
  rw [List.take_succ_eq_append_getElem h, List.all_append]; simp
theorem all_false_at {α : Type} (p : α → Bool) (l : List α) (k : Nat) (h : k < l.length) (hp : p l[k] = false) : l.all p = false := by
  rw [List.all_eq_false]
  exact ⟨l[k], List.getElem_mem h, by simp [hp]⟩
def sumN (f : Nat → Int) : Nat → Int
  | 0 => 0
  | k + 1 => sumN f k + f k
theorem sumN_bd {f : Nat → Int} {lo hi : Int} : ∀ (k : Nat), (∀ i, i < k → lo ≤ f i ∧ f i ≤ hi) → (k : Int) * lo ≤ sumN f k ∧ sumN f k ≤ (k : Int) * hi := by
  intro k
  induction k with
  | zero => intro _; simp [sumN]
  | succ k ih =>
    intro h
    have h1 := ih fun i hi => h i (by omega)
    have h2 := h k (by omega)
    have e1 : ((k + 1 : Nat) : Int) * lo = (k : Int) * lo + lo := by rw [Int.natCast_add, Int.add_mul]; simp
    have e2 : ((k + 1 : Nat) : Int) * hi = (k : Int) * hi + hi := by rw [Int.natCast_add, Int.add_mul]; simp
    rw [e1, e2]
    simp only [sumN]
    omega
def allN (p : Nat → Bool) : Nat → Bool
  | 0 => true
  | k + 1 => allN p k && p k
theorem allN_at {p : Nat → Bool} : ∀ {n k : Nat}, allN p n = true → k < n → p k = true := by
  intro n
  induction n with
  | zero => intro k _ h; omega
  | succ n ih =>
    intro k h hk
    simp only [allN, Bool.and_eq_true] at h
    by_cases e : k = n
    · subst e; exact h.2
    · exact ih h.1 (by omega)
theorem allN_not {p : Nat → Bool} {n k : Nat} (hk : k < n) (h : p k = false) : allN p n = false := by
  cases e : allN p n with
  | false => rfl
  | true => rw [allN_at e hk] at h; cases h
def askLow (xs : List Ask) (i : Nat) : Int := (xs[i]?.map Ask.Low).getD 0
def askWish (xs : List Ask) (i : Nat) : Int := (xs[i]?.map Ask.Wish).getD 0
def askRank (xs : List Ask) (i : Nat) : Int := (xs[i]?.map Ask.Rank).getD 0
theorem askLow_at {xs : List Ask} {i : Nat} (h : i < xs.length) : askLow xs i = xs[i].Low := by simp [askLow, h]
theorem askWish_at {xs : List Ask} {i : Nat} (h : i < xs.length) : askWish xs i = xs[i].Wish := by simp [askWish, h]
theorem askRank_at {xs : List Ask} {i : Nat} (h : i < xs.length) : askRank xs i = xs[i].Rank := by simp [askRank, h]
def num (xs : List Int) (i : Nat) : Int := xs.getD i 0
theorem num_at {xs : List Int} {i : Nat} (h : i < xs.length) : num xs i = xs[i] := by simp [num, h]
theorem asksOk_len {xs : List Ask} (h : asksOk xs = true) : xs.length ≤ 6 := by
  simp only [asksOk, Bool.and_eq_true, decide_eq_true_eq] at h; exact h.2
theorem asksOk_at {xs : List Ask} (h : asksOk xs = true) {i : Nat} (hi : i < xs.length) :
    -1000 ≤ xs[i].Low ∧ xs[i].Low ≤ xs[i].Wish ∧ xs[i].Wish ≤ xs[i].High ∧ xs[i].High ≤ 1000 ∧ 0 ≤ xs[i].Rank ∧ xs[i].Rank ≤ 100 := by
  simp only [asksOk, Bool.and_eq_true, List.all_eq_true] at h
  have := h.1 _ (List.getElem_mem hi)
  simp [askOk, inR] at this
  omega
def leastCap (xs : List Ask) : Int := if asksOk xs = true then sumN (askLow xs) xs.length else 0
theorem sumLow_bd {xs : List Ask} (h : asksOk xs = true) {k : Nat} (hk : k ≤ xs.length) : -6000 ≤ sumN (askLow xs) k ∧ sumN (askLow xs) k ≤ 6000 := by
  have hl := asksOk_len h
  have := sumN_bd (f := askLow xs) (lo := -1000) (hi := 1000) k fun i hi => by
    have := asksOk_at h (i := i) (by omega)
    rw [askLow_at (by omega)]
    omega
  omega
end Go.Proofs.YtfnmbpjkjajpcaaGreatDoor
namespace Go.Proofs.YtfnmbpjkjajpcaaGreatDoor
end Go.Proofs.YtfnmbpjkjajpcaaGreatDoor
namespace Go.Proofs.YtfnmbpjkjajpcaaGreatDoor
set_option linter.unusedVariables false
def gcdTo (xs : List Int) : Nat → Nat
  | 0 => 0
  | k + 1 => Nat.gcd (gcdTo xs k) (num xs k).natAbs
theorem gcdTo_bd {xs : List Int} (h : ∀ i, (hi : i < xs.length) → (xs[i]).natAbs ≤ 9223372036854775808) : ∀ k, k ≤ xs.length → gcdTo xs k ≤ 9223372036854775808 := by
  intro k
  induction k with
  | zero => intro _; simp [gcdTo]
  | succ k ih =>
    intro hk
    have h1 := ih (by omega)
    have h2 := h k (by omega)
    simp only [gcdTo]
    rw [num_at (by omega)]
    rcases Nat.eq_zero_or_pos (xs[k]).natAbs with e | e
    · rw [e, Nat.gcd_zero_right]; exact h1
    · exact Nat.le_trans (Nat.gcd_le_right _ e) h2
theorem gcdTo_two (a b : Int) : gcdTo [a, b] 2 = Int.gcd a b := by
  simp [gcdTo, num, Int.gcd]
theorem gcdTo_three (a b c : Int) : gcdTo [a, b, c] 3 = Nat.gcd (Int.gcd a b) c.natAbs := by
  simp [gcdTo, num, Int.gcd]
theorem wrapU (n : Int) : Go.IntKind.u64.wrap n = n % 18446744073709551616 := by
  simp [Go.IntKind.wrap, Go.IntKind.signed, Go.IntKind.bits]
def isLeastI (n : Int) : Bool := decide (n = -9223372036854775808)
def gcdI (a b : Int) : Int := if isLeastI a = true ∨ isLeastI b = true then 0 else (Int.gcd a b : Int)
def ratioOk (r : Ratio) : Bool := inR r.D 1 1000000000000000 && inR r.N (-1000000000000000000) 1000000000000000000 && decide (gcdI r.N r.D = 1)
theorem ratioOk_bd {r : Ratio} (h : ratioOk r = true) : 1 ≤ r.D ∧ r.D ≤ 1000000000000000 ∧ -1000000000000000000 ≤ r.N ∧ r.N ≤ 1000000000000000000 := by
  simp only [ratioOk, inR, Bool.and_eq_true, decide_eq_true_eq] at h
  omega
def cmpI (x y : Int) : Int := if x < y then -1 else if y < x then 1 else 0
theorem cmpI_lt {x y : Int} (h : x < y) : cmpI x y = -1 := if_pos h
theorem cmpI_gt {x y : Int} (h : y < x) : cmpI x y = 1 := by unfold cmpI; rw [if_neg (by omega), if_pos h]
def ratioCmp (r s : Ratio) : Int := if ratioOk r = true ∧ ratioOk s = true then cmpI (r.N * s.D) (s.N * r.D) else 0
structure Span where
  Low : Ratio
  High : Ratio
  deriving DecidableEq
def spanOk (w : Span) : Bool := ratioOk w.Low && ratioOk w.High && decide (ratioCmp w.Low w.High ≤ 0)
theorem cmp_abs_pos {a b c d : Int} (ha : 0 ≤ a) (hb : 0 < b) (hc : 0 ≤ c) (hd : 0 < d) : cmpI (a * d) (c * b) = cmpI ((a.natAbs * d.natAbs : Nat) : Int) ((c.natAbs * b.natAbs : Nat) : Int) := by
  rw [Int.natCast_mul, Int.natCast_mul, Int.natAbs_of_nonneg ha, Int.natAbs_of_nonneg (by omega : 0 ≤ d), Int.natAbs_of_nonneg hc, Int.natAbs_of_nonneg (by omega : 0 ≤ b)]
theorem cmp_abs_neg {a b c d : Int} (ha : a < 0) (hb : 0 < b) (hc : c < 0) (hd : 0 < d) : cmpI (a * d) (c * b) = -cmpI ((a.natAbs * d.natAbs : Nat) : Int) ((c.natAbs * b.natAbs : Nat) : Int) := by
  rw [Int.natCast_mul, Int.natCast_mul]
  have e1 : (a.natAbs : Int) = -a := by omega
  have e2 : (d.natAbs : Int) = d := by omega
  have e3 : (c.natAbs : Int) = -c := by omega
  have e4 : (b.natAbs : Int) = b := by omega
  rw [e1, e2, e3, e4, Int.neg_mul, Int.neg_mul]
  unfold cmpI
  split <;> split <;> omega
theorem cmp_sign_lt {a b c d : Int} (ha : a < 0) (hb : 0 < b) (hc : 0 ≤ c) (hd : 0 < d) : cmpI (a * d) (c * b) = -1 := by
  have h1 := Int.mul_neg_of_neg_of_pos ha hd
  have h2 := Int.mul_nonneg hc (show 0 ≤ b by omega)
  exact cmpI_lt (by omega)
theorem cmp_sign_gt {a b c d : Int} (ha : 0 ≤ a) (hb : 0 < b) (hc : c < 0) (hd : 0 < d) : cmpI (a * d) (c * b) = 1 := by
  have h1 := Int.mul_neg_of_neg_of_pos hc hb
  have h2 := Int.mul_nonneg ha (show 0 ≤ d by omega)
  exact cmpI_gt (by omega)
def cmpHalves (h1 l1 h2 l2 : Nat) : Int := if h2 < h1 then 1 else if h1 < h2 then -1 else if l2 < l1 then 1 else if l1 < l2 then -1 else 0
theorem cmp_halves (X Y : Nat) : cmpI (X : Int) (Y : Int) = cmpHalves (X / 18446744073709551616) (X % 18446744073709551616) (Y / 18446744073709551616) (Y % 18446744073709551616) := by
  unfold cmpI cmpHalves
  split <;> (split <;> try (split <;> try (split <;> try split))) <;> omega
end Go.Proofs.YtfnmbpjkjajpcaaGreatDoor
namespace Go.Proofs.YtfnmbpjkjajpcaaGreatDoor
set_option linter.unusedVariables false
end Go.Proofs.YtfnmbpjkjajpcaaGreatDoor
namespace Go.Proofs.YtfnmbpjkjajpcaaGreatDoor
set_option linter.unusedVariables false
def gcdS (n d : Int) : Int := if d < 0 then -gcdI n d else gcdI n d
def ratioMk (n d g : Int) : Ratio := ⟨n.tdiv g, d.tdiv g⟩
def ratioOf (n d : Int) : Ratio := if gcdI n d = 0 ∨ d = 0 then ⟨0, 0⟩ else if ratioOk (ratioMk n d (gcdS n d)) = true then ratioMk n d (gcdS n d) else ⟨0, 0⟩
def ratioMin (r s : Ratio) : Ratio := if (ratioOk r && ratioOk s) = true then (if ratioCmp r s ≤ 0 then r else s) else ⟨0, 0⟩
def ratioMax (r s : Ratio) : Ratio := if (ratioOk r && ratioOk s) = true then (if ratioCmp r s ≥ 0 then r else s) else ⟨0, 0⟩
end Go.Proofs.YtfnmbpjkjajpcaaGreatDoor
namespace Go.Proofs.YtfnmbpjkjajpcaaGreatDoor
set_option linter.unusedVariables false
def ratioAlt (n d : Int) : Ratio :=
  if d = 0 ∨ isLeastI n = true ∨ isLeastI d = true then ⟨0, 0⟩
  else if 1000000000000000000 < n.natAbs / Int.gcd n d ∨ 1000000000000000 < d.natAbs / Int.gcd n d then ⟨0, 0⟩
  else ⟨if (decide (n < 0) != decide (d < 0)) = true then -((n.natAbs / Int.gcd n d : Nat) : Int) else ((n.natAbs / Int.gcd n d : Nat) : Int), ((d.natAbs / Int.gcd n d : Nat) : Int)⟩
theorem mk_abs {n d : Int} (hd : d ≠ 0) (hg : gcdI n d ≠ 0) :
    ratioMk n d (gcdS n d) = ⟨if (decide (n < 0) != decide (d < 0)) = true then -((n.natAbs / Int.gcd n d : Nat) : Int) else ((n.natAbs / Int.gcd n d : Nat) : Int), ((d.natAbs / Int.gcd n d : Nat) : Int)⟩ := by
  have hG : gcdI n d = (Int.gcd n d : Int) := by
    unfold gcdI at hg ⊢
    split at hg
    · exact absurd rfl hg
    · rename_i h; rw [if_neg h]
  have hp : 0 < Int.gcd n d := by
    rcases Nat.eq_zero_or_pos (Int.gcd n d) with h | h
    · rw [hG, h] at hg; exact absurd rfl hg
    · exact h
  obtain ⟨a, ha⟩ : ((Int.gcd n d : Int)) ∣ n := Int.gcd_dvd_left ..
  obtain ⟨b, hb⟩ : ((Int.gcd n d : Int)) ∣ d := Int.gcd_dvd_right ..
  generalize Int.gcd n d = g at *
  have e1 : n.natAbs / g = a.natAbs := by rw [ha, Int.natAbs_mul, Int.natAbs_natCast]; exact Nat.mul_div_cancel_left _ hp
  have e2 : d.natAbs / g = b.natAbs := by rw [hb, Int.natAbs_mul, Int.natAbs_natCast]; exact Nat.mul_div_cancel_left _ hp
  have hg0 : (g : Int) ≠ 0 := by omega
  have e3 : n.tdiv (g : Int) = a := by rw [ha]; exact Int.mul_tdiv_cancel_left _ hg0
  have e4 : d.tdiv (g : Int) = b := by rw [hb]; exact Int.mul_tdiv_cancel_left _ hg0
  have sa : n < 0 ↔ a < 0 := by
    constructor
    · intro h
      rcases Int.lt_or_le a 0 with h2 | h2
      · exact h2
      · have := Int.mul_nonneg (show (0 : Int) ≤ g by omega) h2; omega
    · intro h
      have := Int.mul_neg_of_pos_of_neg (show (0 : Int) < g by omega) h; omega
  have sb : d < 0 ↔ b < 0 := by
    constructor
    · intro h
      rcases Int.lt_or_le b 0 with h2 | h2
      · exact h2
      · have := Int.mul_nonneg (show (0 : Int) ≤ g by omega) h2; omega
    · intro h
      have := Int.mul_neg_of_pos_of_neg (show (0 : Int) < g by omega) h; omega
  have hb0 : b ≠ 0 := by intro h; rw [h] at hb; simp at hb; exact hd hb
  rw [e1, e2]
  unfold ratioMk gcdS
  rw [hG]
  by_cases h1 : d < 0
  · rw [if_pos h1, Int.tdiv_neg, Int.tdiv_neg, e3, e4]
    have hb1 : b < 0 := sb.1 h1
    by_cases h2 : n < 0
    · have := sa.1 h2
      simp only [h1, h2, decide_true, bne_self_eq_false, Bool.false_eq_true, if_false]
      congr 1 <;> omega
    · have h3 : ¬ a < 0 := fun h => h2 (sa.2 h)
      simp only [h1, h2, decide_true, decide_false, Bool.false_bne, if_true]
      congr 1 <;> omega
  · rw [if_neg h1, e3, e4]
    have hb1 : ¬ b < 0 := fun h => h1 (sb.2 h)
    by_cases h2 : n < 0
    · have := sa.1 h2
      simp only [h1, h2, decide_true, decide_false, Bool.true_bne, Bool.not_false, if_true]
      congr 1 <;> omega
    · have h3 : ¬ a < 0 := fun h => h2 (sa.2 h)
      simp only [h1, h2, decide_false, bne_self_eq_false, Bool.false_eq_true, if_false]
      congr 1 <;> omega
theorem ratioOk_pm {t b : Nat} {x : Int} (hx : x.natAbs = t) (hc : Nat.gcd t b = 1) (hb : 1 ≤ b) : ratioOk ⟨x, (b : Int)⟩ = (decide (b ≤ 1000000000000000) && decide (t ≤ 1000000000000000000)) := by
  have hg : Int.gcd x (b : Int) = 1 := by unfold Int.gcd; rw [hx, Int.natAbs_natCast]; exact hc
  rw [Bool.eq_iff_iff]
  simp only [ratioOk, inR, Bool.and_eq_true, decide_eq_true_eq, gcdI, isLeastI]
  constructor
  · rintro ⟨⟨⟨h1, h2⟩, h3, h4⟩, h5⟩; omega
  · rintro ⟨h1, h2⟩
    refine ⟨⟨⟨by omega, by omega⟩, by omega, by omega⟩, ?_⟩
    rw [if_neg (by omega), hg]; rfl
theorem coprime_div {n d : Int} (hp : 0 < Int.gcd n d) : Nat.gcd (n.natAbs / Int.gcd n d) (d.natAbs / Int.gcd n d) = 1 := by
  unfold Int.gcd at hp ⊢
  rw [Nat.gcd_div (Nat.gcd_dvd_left _ _) (Nat.gcd_dvd_right _ _)]
  exact Nat.div_self hp
theorem ratioOf_alt (n d : Int) : ratioOf n d = ratioAlt n d := by
  unfold ratioOf ratioAlt
  by_cases hd : d = 0
  · rw [if_pos (.inr hd), if_pos (.inl hd)]
  by_cases hl : isLeastI n = true ∨ isLeastI d = true
  · rw [if_pos (.inl (by unfold gcdI; rw [if_pos hl])), if_pos (.inr hl)]
  have hG : gcdI n d = (Int.gcd n d : Int) := by unfold gcdI; rw [if_neg hl]
  have hp : 0 < Int.gcd n d := Nat.pos_of_ne_zero (by intro h; rw [Int.gcd_eq_zero_iff] at h; exact hd h.2)
  have hg : gcdI n d ≠ 0 := by rw [hG]; omega
  rw [if_neg (show ¬ (gcdI n d = 0 ∨ d = 0) from fun h => h.elim hg hd), if_neg (show ¬ (d = 0 ∨ isLeastI n = true ∨ isLeastI d = true) from fun h => h.elim hd hl), mk_abs hd hg]
  have hco : Nat.gcd (n.natAbs / Int.gcd n d) (d.natAbs / Int.gcd n d) = 1 := coprime_div hp
  have hb1 : 1 ≤ d.natAbs / Int.gcd n d := by
    rw [Nat.one_le_div_iff hp]
    exact Nat.gcd_le_right _ (by omega)
  generalize n.natAbs / Int.gcd n d = t at *
  generalize d.natAbs / Int.gcd n d = b at *
  have hok : ratioOk ⟨if (decide (n < 0) != decide (d < 0)) = true then -(t : Int) else (t : Int), (b : Int)⟩ = (decide (b ≤ 1000000000000000) && decide (t ≤ 1000000000000000000)) := by
    refine ratioOk_pm ?_ hco hb1
    split <;> omega
  rw [hok]
  by_cases h1 : 1000000000000000000 < t ∨ 1000000000000000 < b
  · rw [if_pos h1, if_neg (by simp; omega)]
  · rw [if_neg h1, if_pos (by simp; omega)]
theorem ratioOf_good {n d : Int} (hn : -1000000000000000000 ≤ n ∧ n ≤ 1000000000000000000) (hd : 1 ≤ d) (hd2 : d ≤ 1000000000000000) :
    ratioOk (ratioOf n d) = true ∧ (ratioOf n d).N * d = n * (ratioOf n d).D ∧ (ratioOf n d).N.natAbs ≤ n.natAbs ∧ 1 ≤ (ratioOf n d).D ∧ (ratioOf n d).D ≤ d := by
  rw [ratioOf_alt]
  unfold ratioAlt
  have hl : ¬ (d = 0 ∨ isLeastI n = true ∨ isLeastI d = true) := by simp only [isLeastI, decide_eq_true_eq]; omega
  rw [if_neg hl]
  have hp : 0 < Int.gcd n d := Nat.pos_of_ne_zero (by intro h; rw [Int.gcd_eq_zero_iff] at h; omega)
  have hco : Nat.gcd (n.natAbs / Int.gcd n d) (d.natAbs / Int.gcd n d) = 1 := coprime_div hp
  have hb1 : 1 ≤ d.natAbs / Int.gcd n d := by
    rw [Nat.one_le_div_iff hp]
    exact Nat.gcd_le_right _ (by omega)
  have ht := Nat.div_le_self n.natAbs (Int.gcd n d)
  have hb := Nat.div_le_self d.natAbs (Int.gcd n d)
  have e1 : n.natAbs / Int.gcd n d * Int.gcd n d = n.natAbs := Nat.div_mul_cancel (Nat.gcd_dvd_left _ _)
  have e2 : d.natAbs / Int.gcd n d * Int.gcd n d = d.natAbs := Nat.div_mul_cancel (Nat.gcd_dvd_right _ _)
  generalize n.natAbs / Int.gcd n d = t at *
  generalize d.natAbs / Int.gcd n d = b at *
  generalize Int.gcd n d = g at *
  rw [if_neg (by omega)]
  refine ⟨?_, ?_, ?_, by simp only; omega, by simp only; omega⟩
  · rw [ratioOk_pm (t := t) (by split <;> omega) hco hb1]
    simp; omega
  · simp only
    have hd0 : ¬ d < 0 := by omega
    have e3 : (t : Int) * (g : Int) = (n.natAbs : Int) := by rw [← e1]; simp
    have e4 : (b : Int) * (g : Int) = d := by
      have : (b : Int) * (g : Int) = (d.natAbs : Int) := by rw [← e2]; simp
      omega
    by_cases h2 : n < 0
    · simp only [h2, hd0, decide_true, decide_false, Bool.true_bne, Bool.not_false, if_true]
      have : n = -((t : Int) * g) := by omega
      rw [this, ← e4]
      grind
    · simp only [h2, hd0, decide_false, bne_self_eq_false, Bool.false_eq_true, if_false]
      have : n = (t : Int) * g := by omega
      rw [this, ← e4]
      grind
  · simp only
    split <;> omega
end Go.Proofs.YtfnmbpjkjajpcaaGreatDoor
namespace Go.Proofs.YtfnmbpjkjajpcaaGreatDoor
set_option linter.unusedVariables false
def inSpan (w : Span) (u : Ratio) : Bool := spanOk w && ratioOk u && decide (ratioCmp w.Low u ≤ 0) && decide (ratioCmp u w.High ≤ 0)
theorem ratioOk_one {n : Int} (h1 : -1000000000000000000 ≤ n) (h2 : n ≤ 1000000000000000000) : ratioOk ⟨n, 1⟩ = true := by
  simp only [ratioOk, inR, gcdI, isLeastI, Bool.and_eq_true, decide_eq_true_eq]
  refine ⟨⟨⟨by omega, by omega⟩, by omega, by omega⟩, ?_⟩
  rw [if_neg (by omega), Int.gcd_one]; rfl
theorem cmpI_le {x y : Int} : cmpI x y ≤ 0 ↔ x ≤ y := by unfold cmpI; split <;> (try split) <;> omega
theorem cmpI_neg_iff {x y : Int} : cmpI x y < 0 ↔ x < y := by unfold cmpI; split <;> (try split) <;> omega
end Go.Proofs.YtfnmbpjkjajpcaaGreatDoor
namespace Go.Proofs.YtfnmbpjkjajpcaaGreatDoor
set_option linter.unusedVariables false
def cross (g h : Half) : Int := g.A * h.B - g.B * h.A
def det3 (k i j : Half) : Int := k.C * cross i j - i.C * cross k j + j.C * cross k i
theorem cross_self (h : Half) : cross h h = 0 := by unfold cross; grind
theorem cross_anti (g h : Half) : cross h g = -cross g h := by unfold cross; grind
theorem det3_cyc (k i j : Half) : det3 i j k = det3 k i j := by unfold det3 cross; grind
theorem det3_swap (k i j : Half) : det3 i k j = -det3 k i j := by unfold det3 cross; grind
theorem det3_swap2 (k i j : Half) : det3 k j i = -det3 k i j := by unfold det3 cross; grind
theorem plucker (b i k m : Half) : cross b k * det3 b i m = cross b i * det3 b k m + cross b m * det3 b i k := by unfold det3 cross; grind
theorem plucker2 (x a b c : Half) : cross x b * cross a c = cross x c * cross a b + cross x a * cross b c := by unfold cross; grind
theorem pluckerB (a b c : Half) : b.B * cross a c = c.B * cross a b + a.B * cross b c := by unfold cross; grind
theorem pluckerA (a b c : Half) : b.A * cross a c = c.A * cross a b + a.A * cross b c := by unfold cross; grind
def isUpper (h : Half) : Bool := decide (0 < h.B) || (decide (h.B = 0) && decide (0 < h.A))
def before (g h : Half) : Bool := if isUpper g != isUpper h then isUpper g else decide (0 < cross g h)
def sameDir (g h : Half) : Bool := decide (cross g h = 0) && (isUpper g == isUpper h)
def nz (h : Half) : Prop := h.A ≠ 0 ∨ h.B ≠ 0
def sizeH (h : Half) : Int := if h.A ≠ 0 then (if h.A < -h.A then -h.A else h.A) else (if h.B < -h.B then -h.B else h.B)
theorem up_iff (h : Half) : isUpper h = true ↔ (0 < h.B ∨ (h.B = 0 ∧ 0 < h.A)) := by simp [isUpper]
theorem up_not (h : Half) (hz : nz h) : isUpper h = false ↔ (h.B < 0 ∨ (h.B = 0 ∧ h.A < 0)) := by
  unfold nz at hz
  rw [← Bool.not_eq_true, up_iff]
  omega
theorem before_iff (g h : Half) : before g h = true ↔ ((isUpper g = true ∧ isUpper h = false) ∨ (isUpper g = isUpper h ∧ 0 < cross g h)) := by
  unfold before
  cases isUpper g <;> cases isUpper h <;> simp
theorem sameDir_iff (g h : Half) : sameDir g h = true ↔ (cross g h = 0 ∧ isUpper g = isUpper h) := by simp [sameDir]
theorem before_irr (g : Half) : before g g = false := by
  rw [← Bool.not_eq_true, before_iff, cross_self]; simp
theorem before_asymm {g h : Half} (h1 : before g h = true) : before h g = false := by
  rw [← Bool.not_eq_true, before_iff, cross_anti]
  rw [before_iff] at h1
  rcases h1 with ⟨a, b⟩ | ⟨a, b⟩
  · rw [a, b]; simp
  · rw [a]; simp; omega
theorem sameDir_refl (g : Half) : sameDir g g = true := by rw [sameDir_iff, cross_self]; simp
theorem sameDir_symm {g h : Half} (h1 : sameDir g h = true) : sameDir h g = true := by
  rw [sameDir_iff] at h1 ⊢
  rw [cross_anti]
  exact ⟨by omega, h1.2.symm⟩
theorem before_not_same {g h : Half} (h1 : before g h = true) : sameDir g h = false := by
  rw [← Bool.not_eq_true, sameDir_iff]
  rw [before_iff] at h1
  rcases h1 with ⟨a, b⟩ | ⟨a, b⟩
  · rw [a, b]; simp
  · omega
theorem before_tri (g h : Half) : before g h = true ∨ sameDir g h = true ∨ before h g = true := by
  rw [before_iff, sameDir_iff, before_iff, cross_anti g h]
  cases hg : isUpper g <;> cases hh : isUpper h <;> simp <;> omega
theorem cross_trans {a b c : Half} (ha : nz a) (hb : nz b) (hc : nz c) (h1 : isUpper a = isUpper b) (h2 : isUpper b = isUpper c) (h3 : 0 ≤ cross a b) (h4 : 0 ≤ cross b c) (h5 : 0 < cross a b ∨ 0 < cross b c) : 0 < cross a c := by
  have e1 := pluckerB a b c
  have e2 := pluckerA a b c
  cases hu : isUpper b with
  | true =>
    have ua := (up_iff a).1 (by rw [h1, hu])
    have ub := (up_iff b).1 hu
    have uc := (up_iff c).1 (by rw [← h2, hu])
    by_cases hb0 : b.B = 0
    · have hbA : 0 < b.A := by omega
      -- cross a b = -a.B * b.A
      have e3 : cross a b = -(a.B * b.A) := by unfold cross; rw [hb0]; grind
      have haB : a.B = 0 := by
        rcases Int.lt_trichotomy a.B 0 with h | h | h
        · omega
        · exact h
        · have := Int.mul_pos h hbA; omega
      have haA : 0 < a.A := by omega
      have e4 : cross a b = 0 := by rw [e3, haB]; simp
      have hbc : 0 < cross b c := by omega
      have e5 : cross b c = b.A * c.B := by unfold cross; rw [hb0]; grind
      have e6 : cross a c = a.A * c.B := by unfold cross; rw [haB]; grind
      have hcB : 0 < c.B := by
        rcases Int.lt_trichotomy c.B 0 with h | h | h
        · omega
        · rw [h] at e5; simp at e5; omega
        · exact h
      rw [e6]; exact Int.mul_pos haA hcB
    · have hbB : 0 < b.B := by omega
      have haB : 0 ≤ a.B := by omega
      have hcB : 0 ≤ c.B := by omega
      have p1 := Int.mul_nonneg hcB h3
      have p2 := Int.mul_nonneg haB h4
      rcases Int.lt_or_le 0 (cross a c) with h | h
      · exact h
      · exfalso
        have p3 : b.B * cross a c ≤ 0 := by
          have := Int.mul_nonneg (Int.le_of_lt hbB) (show 0 ≤ -cross a c by omega)
          rw [Int.mul_neg] at this; omega
        have z1 : c.B * cross a b = 0 := by omega
        have z2 : a.B * cross b c = 0 := by omega
        rcases Int.mul_eq_zero.1 z1 with h6 | h6 <;> rcases Int.mul_eq_zero.1 z2 with h7 | h7
        · -- both on the axis
          have e7 : cross b c = -(b.B * c.A) := by unfold cross; rw [h6]; grind
          have hcA : 0 < c.A := by omega
          have := Int.mul_pos hbB hcA
          omega
        · have e7 : cross b c = -(b.B * c.A) := by unfold cross; rw [h6]; grind
          have hcA : 0 < c.A := by omega
          have := Int.mul_pos hbB hcA
          omega
        · have h8 : 0 < cross b c := by omega
          have e8 : cross a b = a.A * b.B := by unfold cross; rw [h7]; grind
          have haA : 0 < a.A := by omega
          have := Int.mul_pos haA hbB
          omega
        · omega
  | false =>
    have ua := (up_not a ha).1 (by rw [h1, hu])
    have ub := (up_not b hb).1 hu
    have uc := (up_not c hc).1 (by rw [← h2, hu])
    by_cases hb0 : b.B = 0
    · have hbA : b.A < 0 := by omega
      have e3 : cross a b = -(a.B * b.A) := by unfold cross; rw [hb0]; grind
      have haB : a.B = 0 := by
        rcases Int.lt_trichotomy a.B 0 with h | h | h
        · have := Int.mul_pos_of_neg_of_neg h hbA; omega
        · exact h
        · omega
      have haA : a.A < 0 := by omega
      have e4 : cross a b = 0 := by rw [e3, haB]; simp
      have hbc : 0 < cross b c := by omega
      have e5 : cross b c = b.A * c.B := by unfold cross; rw [hb0]; grind
      have e6 : cross a c = a.A * c.B := by unfold cross; rw [haB]; grind
      have hcB : c.B < 0 := by
        rcases Int.lt_trichotomy c.B 0 with h | h | h
        · exact h
        · rw [h] at e5; simp at e5; omega
        · omega
      rw [e6]; exact Int.mul_pos_of_neg_of_neg haA hcB
    · have hbB : b.B < 0 := by omega
      have haB : a.B ≤ 0 := by omega
      have hcB : c.B ≤ 0 := by omega
      have p1 := Int.mul_nonneg (show 0 ≤ -c.B by omega) h3
      have p2 := Int.mul_nonneg (show 0 ≤ -a.B by omega) h4
      rw [Int.neg_mul] at p1 p2
      rcases Int.lt_or_le 0 (cross a c) with h | h
      · exact h
      · exfalso
        have p3 : 0 ≤ b.B * cross a c := Int.mul_nonneg_of_nonpos_of_nonpos (by omega) h
        have z1 : c.B * cross a b = 0 := by omega
        have z2 : a.B * cross b c = 0 := by omega
        rcases Int.mul_eq_zero.1 z1 with h6 | h6 <;> rcases Int.mul_eq_zero.1 z2 with h7 | h7
        · have e7 : cross b c = -(b.B * c.A) := by unfold cross; rw [h6]; grind
          have hcA : c.A < 0 := by omega
          have := Int.mul_pos_of_neg_of_neg hbB hcA
          omega
        · have e7 : cross b c = -(b.B * c.A) := by unfold cross; rw [h6]; grind
          have hcA : c.A < 0 := by omega
          have := Int.mul_pos_of_neg_of_neg hbB hcA
          omega
        · have h8 : 0 < cross b c := by omega
          have e8 : cross a b = a.A * b.B := by unfold cross; rw [h7]; grind
          have haA : a.A < 0 := by omega
          have := Int.mul_pos_of_neg_of_neg haA hbB
          omega
        · omega
theorem cross_zero {a b c : Half} (ha : nz a) (hb : nz b) (hc : nz c) (h1 : isUpper a = isUpper b) (h2 : isUpper b = isUpper c) (h3 : cross a b = 0) (h4 : cross b c = 0) : cross a c = 0 := by
  have e1 := pluckerB a b c
  have e2 := pluckerA a b c
  rw [h3, h4, Int.mul_zero, Int.mul_zero, Int.add_zero] at e1 e2
  unfold nz at hb
  rcases Int.mul_eq_zero.1 e1 with e1 | e1
  · rcases Int.mul_eq_zero.1 e2 with e2 | e2
    · omega
    · exact e2
  · exact e1
theorem before_trans {a b c : Half} (ha : nz a) (hb : nz b) (hc : nz c) (h1 : before a b = true) (h2 : before b c = true) : before a c = true := by
  rw [before_iff] at h1 h2 ⊢
  rcases h1 with ⟨a1, a2⟩ | ⟨a1, a2⟩ <;> rcases h2 with ⟨b1, b2⟩ | ⟨b1, b2⟩
  · rw [a2] at b1; cases b1
  · exact .inl ⟨a1, by rw [← b1]; exact a2⟩
  · exact .inl ⟨by rw [a1]; exact b1, b2⟩
  · exact .inr ⟨a1.trans b1, cross_trans ha hb hc a1 b1 (by omega) (by omega) (.inl a2)⟩
theorem same_trans {a b c : Half} (ha : nz a) (hb : nz b) (hc : nz c) (h1 : sameDir a b = true) (h2 : sameDir b c = true) : sameDir a c = true := by
  rw [sameDir_iff] at h1 h2 ⊢
  exact ⟨cross_zero ha hb hc h1.2 h2.2 h1.1 h2.1, h1.2.trans h2.2⟩
theorem before_same {a b c : Half} (ha : nz a) (hb : nz b) (hc : nz c) (h1 : before a b = true) (h2 : sameDir b c = true) : before a c = true := by
  rw [before_iff] at h1 ⊢
  rw [sameDir_iff] at h2
  rcases h1 with ⟨a1, a2⟩ | ⟨a1, a2⟩
  · exact .inl ⟨a1, by rw [← h2.2]; exact a2⟩
  · exact .inr ⟨a1.trans h2.2, cross_trans ha hb hc a1 h2.2 (by omega) (by omega) (.inl a2)⟩
theorem same_before {a b c : Half} (ha : nz a) (hb : nz b) (hc : nz c) (h1 : sameDir a b = true) (h2 : before b c = true) : before a c = true := by
  rw [before_iff] at h2 ⊢
  rw [sameDir_iff] at h1
  rcases h2 with ⟨a1, a2⟩ | ⟨a1, a2⟩
  · exact .inl ⟨by rw [h1.2]; exact a1, a2⟩
  · exact .inr ⟨h1.2.trans a1, cross_trans ha hb hc h1.2 a1 (by omega) (by omega) (.inr a2)⟩
theorem sizeH_pos {h : Half} (hz : nz h) : 0 < sizeH h := by
  unfold nz at hz
  unfold sizeH
  split <;> split <;> omega
theorem same_scale {g h : Half} (hg : nz g) (hh : nz h) (hs : sameDir g h = true) : sizeH h * g.A = sizeH g * h.A ∧ sizeH h * g.B = sizeH g * h.B := by
  rw [sameDir_iff] at hs
  obtain ⟨h1, h2⟩ := hs
  have e : g.A * h.B = g.B * h.A := by unfold cross at h1; omega
  have key : (g.A = 0 ↔ h.A = 0) ∧ (0 < g.A ↔ 0 < h.A) ∧ (g.B = 0 ↔ h.B = 0) ∧ (0 < g.B ↔ 0 < h.B) := by
    have hB : (g.B = 0 ↔ h.B = 0) ∧ (0 < g.B ↔ 0 < h.B) := by
      cases hu : isUpper g with
      | true =>
        have u1 := (up_iff g).1 hu
        have u2 := (up_iff h).1 (by rw [← h2, hu])
        rcases Int.lt_or_le 0 g.B with a | a <;> rcases Int.lt_or_le 0 h.B with b | b
        · omega
        · have : h.B = 0 := by omega
          rw [this] at e
          have := Int.mul_pos a (show 0 < h.A by omega)
          simp at e; omega
        · have : g.B = 0 := by omega
          rw [this] at e
          have := Int.mul_pos (show 0 < g.A by omega) b
          simp at e; omega
        · omega
      | false =>
        have u1 := (up_not g hg).1 hu
        have u2 := (up_not h hh).1 (by rw [← h2, hu])
        rcases Int.lt_or_le g.B 0 with a | a <;> rcases Int.lt_or_le h.B 0 with b | b
        · omega
        · have : h.B = 0 := by omega
          rw [this] at e
          have := Int.mul_pos_of_neg_of_neg a (show h.A < 0 by omega)
          simp at e; omega
        · have : g.B = 0 := by omega
          rw [this] at e
          have := Int.mul_pos_of_neg_of_neg (show g.A < 0 by omega) b
          simp at e; omega
        · omega
    have hA : (0 < g.A ↔ 0 < h.A) ∧ (g.A = 0 ↔ h.A = 0) := by
      rcases Int.lt_trichotomy g.B 0 with a | a | a
      · have b : h.B < 0 := by omega
        constructor
        · constructor
          · intro c
            rcases Int.lt_or_le 0 h.A with d | d
            · exact d
            · have := Int.mul_neg_of_pos_of_neg c b
              have := Int.mul_nonneg_of_nonpos_of_nonpos (show g.B ≤ 0 by omega) d
              omega
          · intro c
            rcases Int.lt_or_le 0 g.A with d | d
            · exact d
            · have := Int.mul_neg_of_neg_of_pos a c
              have := Int.mul_nonneg_of_nonpos_of_nonpos d (show h.B ≤ 0 by omega)
              omega
        · constructor
          · intro c; rw [c, Int.zero_mul] at e; rcases Int.mul_eq_zero.1 e.symm with e | e <;> omega
          · intro c; rw [c, Int.mul_zero] at e; rcases Int.mul_eq_zero.1 e with e | e <;> omega
      · have b : h.B = 0 := hB.1.1 a
        unfold nz at hg hh
        rw [isUpper, isUpper] at h2
        simp [a, b] at h2
        omega
      · have b : 0 < h.B := hB.2.1 a
        constructor
        · constructor
          · intro c
            rcases Int.lt_or_le 0 h.A with d | d
            · exact d
            · have := Int.mul_pos c b
              have := Int.mul_nonneg (show 0 ≤ g.B by omega) (show 0 ≤ -h.A by omega)
              rw [Int.mul_neg] at this
              omega
          · intro c
            rcases Int.lt_or_le 0 g.A with d | d
            · exact d
            · have := Int.mul_pos a c
              have := Int.mul_nonneg (show 0 ≤ -g.A by omega) (show 0 ≤ h.B by omega)
              rw [Int.neg_mul] at this
              omega
        · constructor
          · intro c; rw [c, Int.zero_mul] at e; rcases Int.mul_eq_zero.1 e.symm with e | e <;> omega
          · intro c; rw [c, Int.mul_zero] at e; rcases Int.mul_eq_zero.1 e with e | e <;> omega
    exact ⟨hA.2, hA.1, hB⟩
  obtain ⟨k1, k2, k3, k4⟩ := key
  unfold sizeH
  by_cases c : g.A = 0
  · have d := k1.1 c
    rw [if_neg (show ¬ h.A ≠ 0 by omega), if_neg (show ¬ g.A ≠ 0 by omega)]
    refine ⟨by rw [c, d]; simp, ?_⟩
    split <;> split <;> first | omega | (rw [Int.neg_mul, Int.neg_mul, Int.mul_comm]) | (rw [Int.mul_comm])
  · have d : ¬ h.A = 0 := fun x => c (k1.2 x)
    rw [if_pos c, if_pos d]
    split <;> split <;> first | (constructor <;> grind) | omega
end Go.Proofs.YtfnmbpjkjajpcaaGreatDoor
namespace Go.Proofs.YtfnmbpjkjajpcaaGreatDoor
set_option linter.unusedVariables false
def halfOk (h : Half) : Bool := inR h.A (-50000) 50000 && inR h.B (-50000) 50000 && inR h.C (-100000000) 100000000 && (decide (h.A ≠ 0) || decide (h.B ≠ 0)) && decide (Nat.gcd (Int.gcd h.A h.B) h.C.natAbs = 1)
theorem halfOk_bd {h : Half} (hk : halfOk h = true) : -50000 ≤ h.A ∧ h.A ≤ 50000 ∧ -50000 ≤ h.B ∧ h.B ≤ 50000 ∧ -100000000 ≤ h.C ∧ h.C ≤ 100000000 ∧ nz h ∧ Nat.gcd (Int.gcd h.A h.B) h.C.natAbs = 1 := by
  simp only [halfOk, inR, Bool.and_eq_true, Bool.or_eq_true, decide_eq_true_eq] at hk
  unfold nz
  omega
def tle (g h : Half) : Prop := g.C * sizeH h ≤ h.C * sizeH g
theorem tle_total (g h : Half) : tle g h ∨ tle h g := by unfold tle; omega
theorem tle_refl (g : Half) : tle g g := by unfold tle; omega
theorem tle_trans {a b c : Half} (ha : nz a) (hb : nz b) (hc : nz c) (h1 : tle a b) (h2 : tle b c) : tle a c := by
  unfold tle at *
  have pa := sizeH_pos ha
  have pb := sizeH_pos hb
  have pc := sizeH_pos hc
  have e1 := Int.mul_le_mul_of_nonneg_right h1 (Int.le_of_lt pc)
  have e2 := Int.mul_le_mul_of_nonneg_right h2 (Int.le_of_lt pa)
  have e3 : a.C * sizeH c * sizeH b ≤ c.C * sizeH a * sizeH b := by grind
  exact Int.le_of_mul_le_mul_right e3 pb
theorem tle_antisymm {g h : Half} (hg : halfOk g = true) (hh : halfOk h = true) (hs : sameDir g h = true) (h1 : tle g h) (h2 : tle h g) : g = h := by
  obtain ⟨_, _, _, _, _, _, zg, gg⟩ := halfOk_bd hg
  obtain ⟨_, _, _, _, _, _, zh, gh⟩ := halfOk_bd hh
  obtain ⟨eA, eB⟩ := same_scale zg zh hs
  unfold tle at h1 h2
  have eC : sizeH h * g.C = sizeH g * h.C := by rw [Int.mul_comm, Int.mul_comm (sizeH g)]; omega
  have pg := sizeH_pos zg
  have ph := sizeH_pos zh
  generalize sizeH g = s at *
  generalize sizeH h = t at *
  have nA : t.natAbs * g.A.natAbs = s.natAbs * h.A.natAbs := by rw [← Int.natAbs_mul, ← Int.natAbs_mul, eA]
  have nB : t.natAbs * g.B.natAbs = s.natAbs * h.B.natAbs := by rw [← Int.natAbs_mul, ← Int.natAbs_mul, eB]
  have nC : t.natAbs * g.C.natAbs = s.natAbs * h.C.natAbs := by rw [← Int.natAbs_mul, ← Int.natAbs_mul, eC]
  have k1 : t.natAbs * Nat.gcd (Nat.gcd g.A.natAbs g.B.natAbs) g.C.natAbs = s.natAbs * Nat.gcd (Nat.gcd h.A.natAbs h.B.natAbs) h.C.natAbs := by
    rw [← Nat.gcd_mul_left, ← Nat.gcd_mul_left, ← Nat.gcd_mul_left, ← Nat.gcd_mul_left, nA, nB, nC]
  unfold Int.gcd at gg gh
  rw [gg, gh] at k1
  have e : t = s := by omega
  subst e
  have hA := Int.eq_of_mul_eq_mul_left (show t ≠ 0 by omega) eA
  have hB := Int.eq_of_mul_eq_mul_left (show t ≠ 0 by omega) eB
  have hC := Int.eq_of_mul_eq_mul_left (show t ≠ 0 by omega) eC
  cases g; cases h; simp_all
def tighter (g h : Half) : Half := if h.C * sizeH g < g.C * sizeH h then h else g
def insertH (h : Half) : List Half → List Half
  | [] => [h]
  | g :: l => if before g h = true then g :: insertH h l else if sameDir g h = true then tighter g h :: l else h :: g :: l
def sortedH (l : List Half) : List Half := l.foldl (fun out h => insertH h out) []
def Srt (l : List Half) : Prop := l.Pairwise (fun a b => before a b = true)
def Nz (l : List Half) : Prop := ∀ h ∈ l, nz h
theorem tighter_or (g h : Half) : tighter g h = g ∨ tighter g h = h := by unfold tighter; split <;> simp
theorem insertH_sub (h : Half) : ∀ (l : List Half) (x : Half), x ∈ insertH h l → x = h ∨ x ∈ l := by
  intro l
  induction l with
  | nil => intro x hx; simp [insertH] at hx; exact .inl hx
  | cons g l ih =>
    intro x hx
    unfold insertH at hx
    split at hx
    · rcases List.mem_cons.1 hx with e | e
      · exact .inr (by rw [e]; simp)
      · rcases ih x e with e | e
        · exact .inl e
        · exact .inr (List.mem_cons_of_mem _ e)
    · split at hx
      · rcases List.mem_cons.1 hx with e | e
        · rcases tighter_or g h with t | t
          · exact .inr (by rw [e, t]; simp)
          · exact .inl (by rw [e, t])
        · exact .inr (List.mem_cons_of_mem _ e)
      · rcases List.mem_cons.1 hx with e | e
        · exact .inl e
        · exact .inr e
theorem insertH_srt {h : Half} (hh : nz h) : ∀ {l : List Half}, Nz l → Srt l → Srt (insertH h l) := by
  intro l
  induction l with
  | nil => intro _ _; simp [insertH, Srt]
  | cons g l ih =>
    intro hz hs
    have hg := hz g (by simp)
    have hl : Nz l := fun x hx => hz x (List.mem_cons_of_mem _ hx)
    obtain ⟨h1, h2⟩ := List.pairwise_cons.1 hs
    unfold insertH
    split
    · rename_i hb
      refine List.pairwise_cons.2 ⟨fun x hx => ?_, ih hl h2⟩
      rcases insertH_sub h l x hx with e | e
      · rw [e]; exact hb
      · exact h1 x e
    · rename_i hb
      split
      · rename_i hsd
        refine List.pairwise_cons.2 ⟨fun x hx => ?_, h2⟩
        rcases tighter_or g h with t | t
        · rw [t]; exact h1 x hx
        · rw [t]; exact same_before hh hg (hl x hx) (sameDir_symm hsd) (h1 x hx)
      · rename_i hsd
        have hbg : before h g = true := by
          rcases before_tri g h with e | e | e
          · exact absurd e hb
          · exact absurd e hsd
          · exact e
        refine List.pairwise_cons.2 ⟨fun x hx => ?_, hs⟩
        rcases List.mem_cons.1 hx with e | e
        · rw [e]; exact hbg
        · exact before_trans hh hg (hl x e) hbg (h1 x e)
theorem insertH_mem {h : Half} (hh : nz h) : ∀ {l : List Half}, Nz l → Srt l → ∀ x, x ∈ insertH h l ↔ ((x ∈ l ∧ (sameDir x h = true → tle x h)) ∨ (x = h ∧ ∀ y ∈ l, sameDir y h = true → ¬ tle y h)) := by
  intro l
  induction l with
  | nil => intro _ _ x; simp [insertH]
  | cons g l ih =>
    intro hz hs x
    have hg := hz g (by simp)
    have hl : Nz l := fun x hx => hz x (List.mem_cons_of_mem _ hx)
    obtain ⟨h1, h2⟩ := List.pairwise_cons.1 hs
    unfold insertH
    split
    · rename_i hb
      have ns := before_not_same hb
      rw [List.mem_cons, ih hl h2 x]
      constructor
      · rintro (rfl | ⟨a, b⟩ | ⟨a, b⟩)
        · exact .inl ⟨by simp, fun e => by rw [ns] at e; cases e⟩
        · exact .inl ⟨List.mem_cons_of_mem _ a, b⟩
        · refine .inr ⟨a, fun y hy e => ?_⟩
          rcases List.mem_cons.1 hy with r | r
          · rw [r, ns] at e; cases e
          · exact b y r e
      · rintro (⟨a, b⟩ | ⟨a, b⟩)
        · rcases List.mem_cons.1 a with r | r
          · exact .inl r
          · exact .inr (.inl ⟨r, b⟩)
        · exact .inr (.inr ⟨a, fun y hy e => b y (List.mem_cons_of_mem _ hy) e⟩)
    · rename_i hb
      split
      · rename_i hsd
        -- nothing of l has h's direction
        have nl : ∀ y ∈ l, sameDir y h = false := fun y hy => by
          rw [← Bool.not_eq_true]
          intro e
          have := before_same hg (hl y hy) hh (h1 y hy) e
          exact hb this
        rw [List.mem_cons]
        by_cases ht : h.C * sizeH g < g.C * sizeH h
        · have e1 : tighter g h = h := if_pos ht
          have e2 : ¬ tle g h := by unfold tle; omega
          rw [e1]
          constructor
          · rintro (rfl | a)
            · refine .inr ⟨rfl, fun y hy e => ?_⟩
              rcases List.mem_cons.1 hy with r | r
              · rw [r]; exact e2
              · rw [nl y r] at e; cases e
            · exact .inl ⟨List.mem_cons_of_mem _ a, fun e => by rw [nl x a] at e; cases e⟩
          · rintro (⟨a, b⟩ | ⟨a, b⟩)
            · rcases List.mem_cons.1 a with r | r
              · subst r; exact absurd (b hsd) e2
              · exact .inr r
            · exact .inl a
        · have e1 : tighter g h = g := if_neg ht
          have e2 : tle g h := by unfold tle; omega
          rw [e1]
          constructor
          · rintro (rfl | a)
            · exact .inl ⟨by simp, fun _ => e2⟩
            · exact .inl ⟨List.mem_cons_of_mem _ a, fun e => by rw [nl x a] at e; cases e⟩
          · rintro (⟨a, b⟩ | ⟨a, b⟩)
            · exact List.mem_cons.1 a
            · exact absurd e2 (b g (by simp) hsd)
      · rename_i hsd
        have hbg : before h g = true := by
          rcases before_tri g h with e | e | e
          · exact absurd e hb
          · exact absurd e hsd
          · exact e
        have nl : ∀ y ∈ g :: l, sameDir y h = false := fun y hy => by
          rw [← Bool.not_eq_true]
          intro e
          rcases List.mem_cons.1 hy with r | r
          · rw [r] at e; exact hsd e
          · have := before_not_same (before_trans hh hg (hl y r) hbg (h1 y r))
            rw [sameDir_symm e] at this; cases this
        rw [List.mem_cons]
        constructor
        · rintro (rfl | a)
          · exact .inr ⟨rfl, fun y hy e => by rw [nl y hy] at e; cases e⟩
          · exact .inl ⟨a, fun e => by rw [nl x a] at e; cases e⟩
        · rintro (⟨a, b⟩ | ⟨a, b⟩)
          · exact .inr a
          · exact .inl a
structure Tst (S L : List Half) : Prop where
  srt : Srt S
  mem : ∀ x, x ∈ S ↔ x ∈ L ∧ ∀ y ∈ L, sameDir x y = true → tle x y
theorem Tst.sub {S L : List Half} (h : Tst S L) {x : Half} (hx : x ∈ S) : x ∈ L := ((h.mem x).1 hx).1
theorem Tst.ok {S L : List Half} (h : Tst S L) (hL : ∀ x ∈ L, halfOk x = true) : ∀ x ∈ S, halfOk x = true := fun x hx => hL x (h.sub hx)
theorem ok_nz {L : List Half} (hL : ∀ x ∈ L, halfOk x = true) : Nz L := fun x hx => (halfOk_bd (hL x hx)).2.2.2.2.2.2.1
theorem Tst.has {L : List Half} : ∀ {S : List Half}, Tst S L → Nz L → ∀ y ∈ L, ∃ x ∈ S, sameDir x y = true ∧ tle x y := by
  intro S h hz y hy
  -- the tightest of a list with y's direction
  have key : ∀ (M : List Half), (∀ m ∈ M, m ∈ L) → ∀ b, b ∈ L → sameDir b y = true → ∃ x ∈ L, sameDir x y = true ∧ tle x b ∧ ∀ m ∈ M, sameDir m y = true → tle x m := by
    intro M
    induction M with
    | nil => intro _ b hb hs; exact ⟨b, hb, hs, tle_refl b, by simp⟩
    | cons m M ih =>
      intro hM b hb hs
      have hm := hM m (by simp)
      have hM' := fun x hx => hM x (List.mem_cons_of_mem _ hx)
      by_cases c : sameDir m y = true ∧ tle m b
      · obtain ⟨x, hx, h1, h2, h3⟩ := ih hM' m hm c.1
        refine ⟨x, hx, h1, tle_trans (hz x hx) (hz m hm) (hz b hb) h2 c.2, fun z hzM hs' => ?_⟩
        rcases List.mem_cons.1 hzM with r | r
        · rw [r]; exact h2
        · exact h3 z r hs'
      · obtain ⟨x, hx, h1, h2, h3⟩ := ih hM' b hb hs
        refine ⟨x, hx, h1, h2, fun z hzM hs' => ?_⟩
        rcases List.mem_cons.1 hzM with r | r
        · subst r
          rcases tle_total b z with t | t
          · exact tle_trans (hz x hx) (hz b hb) (hz z hm) h2 t
          · exact absurd ⟨hs', t⟩ c
        · exact h3 z r hs'
  obtain ⟨x, hx, h1, h2, h3⟩ := key L (fun _ h => h) y hy (sameDir_refl y)
  refine ⟨x, (h.mem x).2 ⟨hx, fun z hzL hs => ?_⟩, h1, h2⟩
  exact h3 z hzL (same_trans (hz z hzL) (hz x hx) (hz y hy) (sameDir_symm hs) h1)
theorem Tst.insert {S L : List Half} {h : Half} (hT : Tst S L) (hh : halfOk h = true) (hL : ∀ x ∈ L, halfOk x = true) : Tst (insertH h S) (h :: L) := by
  have hz := ok_nz hL
  have hn := (halfOk_bd hh).2.2.2.2.2.2.1
  have hzS : Nz S := fun x hx => hz x (hT.sub hx)
  refine ⟨insertH_srt hn hzS hT.srt, fun x => ?_⟩
  rw [insertH_mem hn hzS hT.srt, hT.mem]
  constructor
  · rintro (⟨⟨a, b⟩, c⟩ | ⟨rfl, b⟩)
    · refine ⟨List.mem_cons_of_mem _ a, fun y hy e => ?_⟩
      rcases List.mem_cons.1 hy with r | r
      · rw [r] at e ⊢; exact c e
      · exact b y r e
    · refine ⟨by simp, fun y hy e => ?_⟩
      rcases List.mem_cons.1 hy with r | r
      · rw [r]; exact tle_refl x
      · obtain ⟨z, hzS', s1, t1⟩ := hT.has hz y r
        have hnz := hzS z hzS'
        have s2 : sameDir z x = true := same_trans hnz (hz y r) hn s1 (sameDir_symm e)
        have n1 := b z hzS' s2
        have : tle x z := (tle_total x z).resolve_right n1
        exact tle_trans hn hnz (hz y r) this t1
  · rintro ⟨a, b⟩
    rcases List.mem_cons.1 a with r | r
    · by_cases c : ∀ y ∈ S, sameDir y h = true → ¬ tle y h
      · exact .inr ⟨r, c⟩
      · obtain ⟨y, hy, hs, ht⟩ : ∃ y ∈ S, sameDir y h = true ∧ tle y h :=
          Classical.byContradiction fun hn => c fun y hy hs ht => hn ⟨y, hy, hs, ht⟩
        have hyL := hT.sub hy
        have e : y = h := tle_antisymm (hL y hyL) hh hs ht (by
          have := b y (List.mem_cons_of_mem _ hyL) (by rw [r]; exact sameDir_symm hs)
          rwa [r] at this)
        have hx : x ∈ L := by rw [r, ← e]; exact hyL
        exact .inl ⟨⟨hx, fun z hz' e => b z (List.mem_cons_of_mem _ hz') e⟩, fun e => b h (by simp) e⟩
    · exact .inl ⟨⟨r, fun z hz' e => b z (List.mem_cons_of_mem _ hz') e⟩, fun e => b h (by simp) e⟩
theorem Tst.mono {S L L' : List Half} (hT : Tst S L) (h : ∀ x, x ∈ L ↔ x ∈ L') : Tst S L' :=
  ⟨hT.srt, fun x => by rw [hT.mem, h]; exact ⟨fun ⟨a, b⟩ => ⟨a, fun y hy => b y ((h y).2 hy)⟩, fun ⟨a, b⟩ => ⟨a, fun y hy => b y ((h y).1 hy)⟩⟩⟩
theorem sortedFrom_tst : ∀ (l : List Half) {S L : List Half}, Tst S L → (∀ x ∈ L, halfOk x = true) → (∀ x ∈ l, halfOk x = true) → Tst (l.foldl (fun out h => insertH h out) S) (l ++ L) := by
  intro l
  induction l with
  | nil => intro S L h _ _; exact h
  | cons h l ih =>
    intro S L hT hL hl
    have h1 := hT.insert (hl h (by simp)) hL
    have h2 := ih h1 (fun x hx => by rcases List.mem_cons.1 hx with e | e; (rw [e]; exact hl h (by simp)); exact hL x e) (fun x hx => hl x (List.mem_cons_of_mem _ hx))
    exact h2.mono fun x => by simp only [List.mem_append, List.mem_cons, List.cons_append]; grind
theorem sortedH_tst {l : List Half} (hl : ∀ x ∈ l, halfOk x = true) : Tst (sortedH l) l := by
  have h0 : Tst [] [] := ⟨List.Pairwise.nil, by simp⟩
  have := sortedFrom_tst l h0 (by simp) hl
  rwa [List.append_nil] at this
theorem srt_eq : ∀ {l l' : List Half}, Srt l → Srt l' → (∀ x, x ∈ l ↔ x ∈ l') → l = l' := by
  intro l
  induction l with
  | nil =>
    intro l' _ _ h
    cases l' with
    | nil => rfl
    | cons b l' => have := (h b).2 (by simp); simp at this
  | cons a l ih =>
    intro l' h1 h2 h
    cases l' with
    | nil => have := (h a).1 (by simp); simp at this
    | cons b l' =>
      obtain ⟨a1, a2⟩ := List.pairwise_cons.1 h1
      obtain ⟨b1, b2⟩ := List.pairwise_cons.1 h2
      have e : a = b := by
        rcases List.mem_cons.1 ((h a).1 (by simp)) with e | e
        · exact e
        · rcases List.mem_cons.1 ((h b).2 (by simp)) with f | f
          · exact f.symm
          · have x := before_asymm (b1 a e)
            rw [a1 b f] at x; cases x
      subst e
      rw [ih a2 b2 fun x => ?_]
      constructor
      · intro hx
        rcases List.mem_cons.1 ((h x).1 (List.mem_cons_of_mem _ hx)) with e | e
        · subst e; have := a1 x hx; rw [before_irr] at this; cases this
        · exact e
      · intro hx
        rcases List.mem_cons.1 ((h x).2 (List.mem_cons_of_mem _ hx)) with e | e
        · subst e; have := b1 x hx; rw [before_irr] at this; cases this
        · exact e
theorem Srt.same {l : List Half} (hs : Srt l) {x y : Half} (hx : x ∈ l) (hy : y ∈ l) (h : sameDir x y = true) : x = y := by
  induction l with
  | nil => simp at hx
  | cons a l ih =>
    obtain ⟨a1, a2⟩ := List.pairwise_cons.1 hs
    rcases List.mem_cons.1 hx with e | e <;> rcases List.mem_cons.1 hy with f | f
    · rw [e, f]
    · rw [e] at h; rw [before_not_same (a1 y f)] at h; cases h
    · rw [f] at h; have h := sameDir_symm h; rw [before_not_same (a1 x e)] at h; cases h
    · exact ih a2 e f
end Go.Proofs.YtfnmbpjkjajpcaaGreatDoor
namespace Go.Proofs.YtfnmbpjkjajpcaaGreatDoor
set_option linter.unusedVariables false
structure Framed (S : List Half) : Prop where
  e1 : ∃ e ∈ S, 0 < e.A ∧ e.B = 0 ∧ e.C ≤ 1000 * e.A
  e2 : ∃ e ∈ S, e.A = 0 ∧ 0 < e.B ∧ e.C ≤ 1000 * e.B
  e3 : ∃ e ∈ S, e.A < 0 ∧ e.B = 0 ∧ e.C ≤ 1000 * -e.A
  e4 : ∃ e ∈ S, e.A = 0 ∧ e.B < 0 ∧ e.C ≤ 1000 * -e.B
structure Good (S : List Half) : Prop where
  srt : Srt S
  nz : Nz S
  fr : Framed S
theorem Framed.lo {S : List Half} (f : Framed S) {h : Half} (hz : nz h) : ∃ i ∈ S, cross h i < 0 := by
  obtain ⟨a, ha, a1, a2, _⟩ := f.e1
  obtain ⟨b, hb, b1, b2, _⟩ := f.e2
  obtain ⟨c, hc, c1, c2, _⟩ := f.e3
  obtain ⟨d, hd, d1, d2, _⟩ := f.e4
  unfold nz at hz
  rcases Int.lt_trichotomy h.B 0 with e | e | e
  · refine ⟨c, hc, ?_⟩
    unfold cross; rw [c2]
    have := Int.mul_pos_of_neg_of_neg e c1
    omega
  · rcases Int.lt_trichotomy h.A 0 with g | g | g
    · refine ⟨b, hb, ?_⟩
      unfold cross; rw [b1]
      have := Int.mul_neg_of_neg_of_pos g b2
      omega
    · omega
    · refine ⟨d, hd, ?_⟩
      unfold cross; rw [d1]
      have := Int.mul_neg_of_pos_of_neg g d2
      omega
  · refine ⟨a, ha, ?_⟩
    unfold cross; rw [a2]
    have := Int.mul_pos e a1
    omega
theorem Framed.hi {S : List Half} (f : Framed S) {h : Half} (hz : nz h) : ∃ i ∈ S, 0 < cross h i := by
  obtain ⟨a, ha, a1, a2, _⟩ := f.e1
  obtain ⟨b, hb, b1, b2, _⟩ := f.e2
  obtain ⟨c, hc, c1, c2, _⟩ := f.e3
  obtain ⟨d, hd, d1, d2, _⟩ := f.e4
  unfold nz at hz
  rcases Int.lt_trichotomy h.B 0 with e | e | e
  · refine ⟨a, ha, ?_⟩
    unfold cross; rw [a2]
    have := Int.mul_neg_of_neg_of_pos e a1
    omega
  · rcases Int.lt_trichotomy h.A 0 with g | g | g
    · refine ⟨d, hd, ?_⟩
      unfold cross; rw [d1]
      have := Int.mul_pos_of_neg_of_neg g d2
      omega
    · omega
    · refine ⟨b, hb, ?_⟩
      unfold cross; rw [b1]
      have := Int.mul_pos g b2
      omega
  · refine ⟨c, hc, ?_⟩
    unfold cross; rw [c2]
    have := Int.mul_neg_of_pos_of_neg e c1
    omega
def sat (k i m : Half) : Prop := (0 < cross k i ∧ 0 ≤ det3 k i m) ∨ (cross k i < 0 ∧ det3 k i m ≤ 0)
def edgeF (S : List Half) (k : Half) : Prop := ∀ i ∈ S, ∀ j ∈ S, cross k i < 0 → 0 < cross k j → det3 k i j < 0
def edgeS (S : List Half) (k : Half) : Prop := ∃ i ∈ S, ∃ j ∈ S, cross k i ≠ 0 ∧ cross k j ≠ 0 ∧ (∀ m ∈ S, sat k i m) ∧ (∀ m ∈ S, sat k j m) ∧ det3 k i j ≠ 0
def room (g h : Half) : Int := g.C * sizeH h + h.C * sizeH g
def openP (S : List Half) : Prop := ∀ g ∈ S, ∀ h ∈ S, cross g h = 0 → sameDir g h = false → 0 < room g h
theorem pos_of_mul {a b : Int} (ha : 0 < a) (h : 0 ≤ a * b) : 0 ≤ b := by
  rcases Int.lt_or_le b 0 with x | x
  · have := Int.mul_neg_of_pos_of_neg ha x; omega
  · exact x
theorem pos_of_mul' {a b : Int} (ha : 0 < a) (h : 0 < a * b) : 0 < b := by
  rcases Int.lt_or_le 0 b with x | x
  · exact x
  · have := Int.mul_nonneg (Int.le_of_lt ha) (show 0 ≤ -b by omega)
    rw [Int.mul_neg] at this; omega
theorem neg_of_mul {a b : Int} (ha : a < 0) (h : 0 ≤ a * b) : b ≤ 0 := by
  rcases Int.lt_or_le 0 b with x | x
  · have := Int.mul_neg_of_neg_of_pos ha x; omega
  · exact x
theorem neg_of_mul' {a b : Int} (ha : a < 0) (h : 0 < a * b) : b < 0 := by
  rcases Int.lt_or_le b 0 with x | x
  · exact x
  · have := Int.mul_nonneg (show 0 ≤ -a by omega) x
    rw [Int.neg_mul] at this; omega
theorem mul_np {a b : Int} (ha : a ≤ 0) (hb : 0 ≤ b) : a * b ≤ 0 := by
  have := Int.mul_nonneg (show 0 ≤ -a by omega) hb
  rw [Int.neg_mul] at this; omega
theorem mul_nn {a b : Int} (ha : a ≤ 0) (hb : b ≤ 0) : 0 ≤ a * b := Int.mul_nonneg_of_nonpos_of_nonpos ha hb
theorem mul_pn {a b : Int} (ha : 0 ≤ a) (hb : b ≤ 0) : a * b ≤ 0 := by rw [Int.mul_comm]; exact mul_np hb ha
theorem opp_scale {g h : Half} (hg : nz g) (hh : nz h) (h0 : cross g h = 0) (hn : sameDir g h = false) : sizeH h * g.A = -(sizeH g * h.A) ∧ sizeH h * g.B = -(sizeH g * h.B) := by
  have hs : sameDir g ⟨-h.A, -h.B, h.C⟩ = true := by
    rw [sameDir_iff]
    refine ⟨by unfold cross at h0 ⊢; simp only; grind, ?_⟩
    rw [← Bool.not_eq_true, sameDir_iff] at hn
    have hne : isUpper g ≠ isUpper h := fun e => hn ⟨h0, e⟩
    unfold nz at hh
    cases hu : isUpper h with
    | true =>
      have u := (up_iff h).1 hu
      have e : isUpper (⟨-h.A, -h.B, h.C⟩ : Half) = false := by
        rw [← Bool.not_eq_true, up_iff]; simp only; omega
      rw [e]
      cases hv : isUpper g
      · rfl
      · rw [hu, hv] at hne; exact absurd rfl hne
    | false =>
      have u := (up_not h hh).1 hu
      have e : isUpper (⟨-h.A, -h.B, h.C⟩ : Half) = true := by
        rw [up_iff]; simp only; omega
      rw [e]
      cases hv : isUpper g
      · rw [hu, hv] at hne; exact absurd rfl hne
      · rfl
  have hh' : nz (⟨-h.A, -h.B, h.C⟩ : Half) := by unfold nz at hh ⊢; simp only; omega
  obtain ⟨e1, e2⟩ := same_scale hg hh' hs
  have es : sizeH (⟨-h.A, -h.B, h.C⟩ : Half) = sizeH h := by
    unfold sizeH; simp only
    by_cases c : h.A = 0
    · rw [if_neg (show ¬ -h.A ≠ 0 by omega), if_neg (show ¬ h.A ≠ 0 by omega)]
      split <;> split <;> omega
    · rw [if_pos (show -h.A ≠ 0 by omega), if_pos c]
      split <;> split <;> omega
  rw [es] at e1 e2
  simp only [Int.mul_neg] at e1 e2
  exact ⟨e1, e2⟩
theorem opp_det {k i g h : Half} (hg : nz g) (hh : nz h) (h0 : cross g h = 0) (hn : sameDir g h = false) : sizeH g * det3 k i h = -(sizeH h * det3 k i g) + room g h * cross k i := by
  obtain ⟨e1, e2⟩ := opp_scale hg hh h0 hn
  unfold det3 room cross
  generalize sizeH g = s at *
  generalize sizeH h = t at *
  grind
theorem opp_room {k i m : Half} (hk : nz k) (hm : nz m) (h0 : cross k m = 0) (hn : sameDir k m = false) : sizeH k * det3 k i m = room k m * cross k i := by
  have e := opp_det (k := k) (i := i) hk hm h0 hn
  have z : det3 k i k = 0 := by unfold det3 cross; grind
  rw [z] at e
  omega
theorem extreme {P : Half → Prop} {R : Half → Half → Prop} (ht : ∀ x y, P x → P y → R x y ∨ R y x) (hr : ∀ x y z, P x → P y → P z → R x y → R y z → R x z) :
    ∀ (L : List Half), (∃ x ∈ L, P x) → ∃ x ∈ L, P x ∧ ∀ y ∈ L, P y → R x y := by
  intro L
  induction L with
  | nil => rintro ⟨x, h, _⟩; simp at h
  | cons a L ih =>
    rintro ⟨x, hx, px⟩
    have rr : ∀ x, P x → R x x := fun x p => by rcases ht x x p p with h | h <;> exact h
    by_cases hL : ∃ x ∈ L, P x
    · obtain ⟨b, hb, pb, hbm⟩ := ih hL
      by_cases pa : P a
      · rcases ht a b pa pb with h | h
        · refine ⟨a, by simp, pa, fun y hy py => ?_⟩
          rcases List.mem_cons.1 hy with e | e
          · rw [e]; exact rr a pa
          · exact hr a b y pa pb py h (hbm y e py)
        · refine ⟨b, List.mem_cons_of_mem _ hb, pb, fun y hy py => ?_⟩
          rcases List.mem_cons.1 hy with e | e
          · rw [e]; exact h
          · exact hbm y e py
      · refine ⟨b, List.mem_cons_of_mem _ hb, pb, fun y hy py => ?_⟩
        rcases List.mem_cons.1 hy with e | e
        · rw [e] at py; exact absurd py pa
        · exact hbm y e py
    · have e : x = a := by
        rcases List.mem_cons.1 hx with e | e
        · exact e
        · exact absurd ⟨x, e, px⟩ hL
      subst e
      refine ⟨x, by simp, px, fun y hy py => ?_⟩
      rcases List.mem_cons.1 hy with e | e
      · rw [e]; exact rr x px
      · exact absurd ⟨y, e, py⟩ hL
theorem edgeF_of {S : List Half} {k a b : Half} (na : cross k a ≠ 0) (nb : cross k b ≠ 0) (sa : ∀ m ∈ S, sat k a m) (sb : ∀ m ∈ S, sat k b m) (hd : det3 k a b ≠ 0) : edgeF S k := by
  intro i hi j hj fi fj
  have key : ∀ p, cross k p ≠ 0 → sat k p i → sat k p j → det3 k i j ≤ 0 ∧ (det3 k i j = 0 → det3 k p i = 0 ∧ det3 k p j = 0) := by
    intro p np s1 s2
    have pl := plucker k i p j
    have sw := det3_swap2 k p i
    unfold sat at s1 s2
    rcases Int.lt_trichotomy (cross k p) 0 with c | c | c
    · have d1 : det3 k p i ≤ 0 := by omega
      have d2 : det3 k p j ≤ 0 := by omega
      have m1 := mul_nn (Int.le_of_lt fi) d2
      have m2 := Int.mul_nonneg (Int.le_of_lt fj) (show 0 ≤ det3 k i p by omega)
      have r := neg_of_mul c (b := det3 k i j) (by omega)
      refine ⟨r, fun z => ?_⟩
      rw [z, Int.mul_zero] at pl
      have z1 : cross k i * det3 k p j = 0 := by omega
      have z2 : cross k j * det3 k i p = 0 := by omega
      rcases Int.mul_eq_zero.1 z1 with y | y <;> rcases Int.mul_eq_zero.1 z2 with y' | y' <;> omega
    · exact absurd c np
    · have d1 : 0 ≤ det3 k p i := by omega
      have d2 : 0 ≤ det3 k p j := by omega
      have m1 := mul_np (Int.le_of_lt fi) d2
      have m2 := mul_pn (Int.le_of_lt fj) (show det3 k i p ≤ 0 by omega)
      have r : det3 k i j ≤ 0 := by
        rcases Int.lt_or_le 0 (det3 k i j) with x | x
        · have := Int.mul_pos c x; omega
        · exact x
      refine ⟨r, fun z => ?_⟩
      rw [z, Int.mul_zero] at pl
      have z1 : cross k i * det3 k p j = 0 := by omega
      have z2 : cross k j * det3 k i p = 0 := by omega
      rcases Int.mul_eq_zero.1 z1 with y | y <;> rcases Int.mul_eq_zero.1 z2 with y' | y' <;> omega
  obtain ⟨k1, k2⟩ := key a na (sa i hi) (sa j hj)
  obtain ⟨_, k4⟩ := key b nb (sb i hi) (sb j hj)
  rcases Int.lt_or_le (det3 k i j) 0 with c | c
  · exact c
  · exfalso
    have z : det3 k i j = 0 := by omega
    obtain ⟨_, z1⟩ := k2 z
    obtain ⟨_, z2⟩ := k4 z
    have pl := plucker k a j b
    rw [z1, det3_swap2 k b j, z2] at pl
    simp at pl
    rcases Int.mul_eq_zero.1 pl with pl | pl <;> omega
theorem same_of_par {S : List Half} (hS : Good S) {k m : Half} (hk : k ∈ S) (hm : m ∈ S) (h0 : cross k m = 0) : m = k ∨ sameDir k m = false := by
  cases h : sameDir k m with
  | false => exact .inr rfl
  | true => exact .inl (hS.srt.same hm hk (sameDir_symm h))
theorem edgeF_S {S : List Half} (hS : Good S) (ho : openP S) {k : Half} (hk : k ∈ S) (h : edgeF S k) : edgeS S k := by
  have zk := hS.nz k hk
  obtain ⟨i, hi, fi, mi⟩ := extreme (P := fun x => cross k x < 0) (R := fun x y => det3 k x y ≤ 0)
    (fun x y _ _ => by have := det3_swap2 k x y; omega)
    (fun x y z px py pz h1 h2 => by
      have pl := plucker k x y z
      have m1 := mul_nn (Int.le_of_lt px) h2
      have m2 := mul_nn (Int.le_of_lt pz) h1
      exact neg_of_mul py (by omega)) S (hS.fr.lo zk)
  obtain ⟨j, hj, fj, mj⟩ := extreme (P := fun x => 0 < cross k x) (R := fun x y => 0 ≤ det3 k x y)
    (fun x y _ _ => by have := det3_swap2 k x y; omega)
    (fun x y z px py pz h1 h2 => by
      have pl := plucker k x y z
      have m1 := Int.mul_nonneg (Int.le_of_lt px) h2
      have m2 := Int.mul_nonneg (Int.le_of_lt pz) h1
      exact pos_of_mul py (by omega)) S (hS.fr.hi zk)
  have dij := h i hi j hj fi fj
  refine ⟨i, hi, j, hj, by omega, by omega, fun m hm => .inr ⟨fi, ?_⟩, fun m hm => .inl ⟨fj, ?_⟩, by omega⟩
  · rcases Int.lt_trichotomy (cross k m) 0 with c | c | c
    · exact mi m hm c
    · rcases same_of_par hS hk hm c with e | e
      · subst e
        have : det3 m i m = 0 := by unfold det3 cross; grind
        omega
      · have e1 := opp_room (i := i) zk (hS.nz m hm) c e
        have e2 := Int.mul_neg_of_pos_of_neg (ho k hk m hm c e) fi
        have p := sizeH_pos zk
        rcases Int.lt_or_le 0 (det3 k i m) with x | x
        · have := Int.mul_pos p x; omega
        · exact x
    · exact Int.le_of_lt (h i hi m hm fi c)
  · rcases Int.lt_trichotomy (cross k m) 0 with c | c | c
    · have := h m hm j hj c fj
      have := det3_swap2 k j m
      omega
    · rcases same_of_par hS hk hm c with e | e
      · subst e
        have : det3 m j m = 0 := by unfold det3 cross; grind
        omega
      · have e1 := opp_room (i := j) zk (hS.nz m hm) c e
        have e2 := Int.mul_pos (ho k hk m hm c e) fj
        exact pos_of_mul (sizeH_pos zk) (by omega)
    · exact mj m hm c
theorem edge_next {S : List Half} (hS : Good S) (ho : openP S) {k : Half} (hk : k ∈ S) (h : edgeF S k) :
    ∃ j ∈ S, edgeF S j ∧ 0 < cross k j ∧ ∀ m ∈ S, 0 ≤ det3 k j m := by
  have zk := hS.nz k hk
  obtain ⟨j, hj, fj, mj⟩ := extreme (P := fun x => 0 < cross k x) (R := fun x y => 0 < det3 k x y ∨ (det3 k x y = 0 ∧ cross x y ≤ 0))
    (fun x y _ _ => by have := det3_swap2 k x y; have := cross_anti x y; omega)
    (fun x y z px py pz h1 h2 => by
      have pl := plucker k x y z
      have p2 := plucker2 k x y z
      by_cases c : det3 k x y = 0 ∧ det3 k y z = 0
      · rw [c.1, c.2] at pl
        simp at pl
        have z0 : det3 k x z = 0 := (Int.mul_eq_zero.1 pl).resolve_left (by omega)
        refine .inr ⟨z0, ?_⟩
        have m1 := mul_pn (Int.le_of_lt pz) (show cross x y ≤ 0 by omega)
        have m2 := mul_pn (Int.le_of_lt px) (show cross y z ≤ 0 by omega)
        rcases Int.lt_or_le 0 (cross x z) with q | q
        · have := Int.mul_pos py q; omega
        · exact q
      · left
        have m1 := Int.mul_nonneg (Int.le_of_lt px) (show 0 ≤ det3 k y z by omega)
        have m2 := Int.mul_nonneg (Int.le_of_lt pz) (show 0 ≤ det3 k x y by omega)
        refine pos_of_mul' py ?_
        by_cases c1 : 0 < det3 k x y
        · have := Int.mul_pos pz c1; omega
        · have := Int.mul_pos px (show 0 < det3 k y z by omega); omega) S (hS.fr.hi zk)
  -- strictly inside where m turns on from j
  have strict : ∀ m ∈ S, 0 < cross j m → 0 < det3 k j m := by
    intro m hm fm
    rcases Int.lt_trichotomy (cross k m) 0 with c | c | c
    · have := h m hm j hj c fj
      have := det3_swap2 k m j
      omega
    · rcases same_of_par hS hk hm c with e | e
      · subst e
        have := cross_anti m j
        omega
      · have e1 := opp_room (i := j) zk (hS.nz m hm) c e
        have e2 := Int.mul_pos (ho k hk m hm c e) fj
        exact pos_of_mul' (sizeH_pos zk) (by omega)
    · have := mj m hm c
      omega
  have all : ∀ m ∈ S, 0 ≤ det3 k j m := by
    intro m hm
    rcases Int.lt_trichotomy (cross k m) 0 with c | c | c
    · have := h m hm j hj c fj
      have := det3_swap2 k m j
      omega
    · rcases same_of_par hS hk hm c with e | e
      · subst e
        have : det3 m j m = 0 := by unfold det3 cross; grind
        omega
      · have e1 := opp_room (i := j) zk (hS.nz m hm) c e
        have e2 := Int.mul_pos (ho k hk m hm c e) fj
        exact pos_of_mul (sizeH_pos zk) (by omega)
    · have := mj m hm c
      omega
  refine ⟨j, hj, fun i hi m hm gi gm => ?_, fj, all⟩
  have pl := plucker j i k m
  have g1 := cross_anti k j
  have d1 := det3_swap k j m
  have d2 := det3_cyc k j i
  have s1 := strict m hm gm
  have s2 := all i hi
  have m1 := Int.mul_pos_of_neg_of_neg gi (show det3 j k m < 0 by omega)
  have m2 := Int.mul_nonneg (Int.le_of_lt gm) (show 0 ≤ det3 j i k by omega)
  exact neg_of_mul' (show cross j k < 0 by omega) (by omega)
def edgeFb (S : List Half) (k : Half) : Bool := S.all fun i => S.all fun j => !decide (cross k i < 0) || !decide (0 < cross k j) || decide (det3 k i j < 0)
theorem edgeFb_iff {S : List Half} {k : Half} : edgeFb S k = true ↔ edgeF S k := by
  unfold edgeFb edgeF
  simp only [List.all_eq_true, Bool.or_eq_true, Bool.not_eq_true', decide_eq_false_iff_not, decide_eq_true_eq]
  constructor
  · intro h i hi j hj a b
    rcases h i hi j hj with (c | c) | c
    · exact absurd a c
    · exact absurd b c
    · exact c
  · intro h i hi j hj
    by_cases a : cross k i < 0
    · by_cases b : 0 < cross k j
      · exact .inr (h i hi j hj a b)
      · exact .inl (.inr b)
    · exact .inl (.inl a)
def openB (S : List Half) : Bool := S.all fun g => S.all fun h => !decide (cross g h = 0) || sameDir g h || decide (0 < room g h)
theorem openB_iff {S : List Half} : openB S = true ↔ openP S := by
  unfold openB openP
  simp only [List.all_eq_true, Bool.or_eq_true, Bool.not_eq_true', decide_eq_false_iff_not, decide_eq_true_eq]
  constructor
  · intro h i hi j hj a b
    rcases h i hi j hj with (c | c) | c
    · exact absurd a c
    · rw [c] at b; cases b
    · exact c
  · intro h i hi j hj
    by_cases a : cross i j = 0
    · cases b : sameDir i j
      · exact .inr (h i hi j hj a b)
      · exact .inl (.inr rfl)
    · exact .inl (.inl a)
def satB (k i m : Half) : Bool := (decide (0 < cross k i) && decide (0 ≤ det3 k i m)) || (decide (cross k i < 0) && decide (det3 k i m ≤ 0))
theorem satB_iff {k i m : Half} : satB k i m = true ↔ sat k i m := by unfold satB sat; simp
def edgeSb (S : List Half) (k : Half) : Bool := S.any fun i => S.any fun j => decide (cross k i ≠ 0) && decide (cross k j ≠ 0) && S.all (satB k i) && S.all (satB k j) && decide (det3 k i j ≠ 0)
theorem edgeSb_iff {S : List Half} {k : Half} : edgeSb S k = true ↔ edgeS S k := by
  unfold edgeSb edgeS
  simp only [List.any_eq_true, List.all_eq_true, Bool.and_eq_true, decide_eq_true_eq, satB_iff, and_assoc]
def makeI (S : List Half) : List Half := if openB S = true then S.filter (edgeFb S) else []
theorem Srt.nodup {l : List Half} (h : Srt l) : l.Nodup := h.imp fun {a b} hab e => by subst e; rw [before_irr] at hab; cases hab
end Go.Proofs.YtfnmbpjkjajpcaaGreatDoor
namespace Go.Proofs.YtfnmbpjkjajpcaaGreatDoor
set_option linter.unusedVariables false
def negH (h : Half) : Half := ⟨-h.A, -h.B, h.C⟩
theorem negH_nz {h : Half} (hz : nz h) : nz (negH h) := by unfold nz negH at *; simp only; omega
theorem negH_up {h : Half} (hz : nz h) : isUpper (negH h) = !isUpper h := by
  cases hu : isUpper h with
  | true =>
    have u := (up_iff h).1 hu
    rw [Bool.not_true, ← Bool.not_eq_true, up_iff]; unfold negH; simp only; omega
  | false =>
    have u := (up_not h hz).1 hu
    rw [Bool.not_false, up_iff]; unfold negH; simp only; omega
theorem cross_negL (a b : Half) : cross (negH a) b = -cross a b := by unfold cross negH; grind
theorem cross_negR (a b : Half) : cross a (negH b) = -cross a b := by unfold cross negH; grind
theorem mid1 {a b c : Half} (ha : nz a) (hb : nz b) (hc : nz c) (h1 : before a b = true) (h2 : before b c = true) (h : 0 < cross a c) : 0 < cross a b ∧ 0 < cross b c := by
  rw [before_iff] at h1 h2
  rcases h1 with ⟨a1, a2⟩ | ⟨a1, a2⟩ <;> rcases h2 with ⟨b1, b2⟩ | ⟨b1, b2⟩
  · rw [a2] at b1; cases b1
  · -- a upper, b and c lower
    refine ⟨?_, b2⟩
    have t := cross_trans (a := negH b) (b := negH c) (c := a) (negH_nz hb) (negH_nz hc) ha (by rw [negH_up hb, negH_up hc, b1]) (by rw [negH_up hc, a1, ← b1, a2]; rfl)
      (by rw [cross_negL, cross_negR]; omega) (by rw [cross_negL, cross_anti a c]; omega) (.inl (by rw [cross_negL, cross_negR]; omega))
    rw [cross_negL, cross_anti a b] at t
    omega
  · refine ⟨a2, ?_⟩
    have t := cross_trans (a := negH c) (b := a) (c := b) (negH_nz hc) ha hb (by rw [negH_up hc, b2, a1, b1]; rfl) a1
      (by rw [cross_negL, cross_anti a c]; omega) (by omega) (.inr a2)
    rw [cross_negL, cross_anti b c] at t
    omega
  · exact ⟨a2, b2⟩
theorem mid2 {a b c : Half} (ha : nz a) (hb : nz b) (hc : nz c) (h1 : before c a = true) (h2 : before a b = true) (h : 0 < cross a c) : 0 < cross a b ∧ 0 < cross b c := by
  rw [before_iff] at h1 h2
  rcases h1 with ⟨a1, a2⟩ | ⟨a1, a2⟩
  · rcases h2 with ⟨b1, b2⟩ | ⟨b1, b2⟩
    · rw [a2] at b1; cases b1
    · refine ⟨b2, ?_⟩
      have t := cross_trans (a := c) (b := negH a) (c := negH b) hc (negH_nz ha) (negH_nz hb) (by rw [negH_up ha, a1, a2]; rfl) (by rw [negH_up ha, negH_up hb, b1])
        (by rw [cross_negR, cross_anti a c]; omega) (by rw [cross_negL, cross_negR]; omega) (.inr (by rw [cross_negL, cross_negR]; omega))
      rw [cross_negR, cross_anti b c] at t
      omega
  · have := cross_anti a c
    omega
theorem mid3 {a b c : Half} (ha : nz a) (hb : nz b) (hc : nz c) (h1 : before b c = true) (h2 : before c a = true) (h : 0 < cross a c) : 0 < cross a b ∧ 0 < cross b c := by
  rw [before_iff] at h1 h2
  rcases h2 with ⟨a1, a2⟩ | ⟨a1, a2⟩
  · rcases h1 with ⟨b1, b2⟩ | ⟨b1, b2⟩
    · rw [b2] at a1; cases a1
    · refine ⟨?_, b2⟩
      have t := cross_trans (a := b) (b := c) (c := negH a) hb hc (negH_nz ha) b1 (by rw [negH_up ha, a1, a2]; rfl)
        (by omega) (by rw [cross_negR, cross_anti a c]; omega) (.inl b2)
      rw [cross_negR, cross_anti a b] at t
      omega
  · have := cross_anti a c
    omega
theorem same_cross {a b : Half} (h : sameDir a b = true) : cross a b = 0 := ((sameDir_iff a b).1 h).1
theorem same_turn {a b c : Half} (ha : nz a) (hb : nz b) (h : sameDir a b = true) : sizeH b * cross a c = sizeH a * cross b c := by
  obtain ⟨e1, e2⟩ := same_scale ha hb h
  unfold cross
  generalize sizeH a = s at *
  generalize sizeH b = t at *
  grind
def edges (S : List Half) : List Half := S.filter (edgeFb S)
theorem edges_mem {S : List Half} {k : Half} : k ∈ edges S ↔ k ∈ S ∧ edgeF S k := by
  unfold edges; rw [List.mem_filter, edgeFb_iff]
theorem edges_srt {S : List Half} (h : Srt S) : Srt (edges S) := h.sublist List.filter_sublist
def Corner (S : List Half) (k j : Half) : Prop := 0 < cross k j ∧ ∀ m ∈ S, 0 ≤ det3 k j m
theorem no_between {S : List Half} {k j m : Half} (h : Corner S k j) (hk : k ∈ S) (hj : j ∈ S) (hm : edgeF S m) (hmS : m ∈ S) (h1 : 0 < cross k m) (h2 : 0 < cross m j) : False := by
  have a := hm k hk j hj (by have := cross_anti k m; omega) h2
  have b := h.2 m hmS
  have c := det3_cyc m k j
  omega
theorem Srt.at_ {l : List Half} (h : Srt l) {i j : Nat} (hi : i < l.length) (hj : j < l.length) (hij : i < j) : before l[i] l[j] = true := List.pairwise_iff_getElem.1 h i j hi hj hij
theorem next_at {S : List Half} (hS : Good S) (ho : openP S) {t : Nat} (ht : t < (edges S).length) (hn : (t + 1) % (edges S).length < (edges S).length) :
    Corner S (edges S)[t] (edges S)[(t + 1) % (edges S).length] := by
  obtain ⟨hk, he⟩ := edges_mem.1 (List.getElem_mem ht)
  obtain ⟨j, hj, ej, cj, sj⟩ := edge_next hS ho hk he
  have cor : Corner S (edges S)[t] j := ⟨cj, sj⟩
  have mj : j ∈ edges S := edges_mem.2 ⟨hj, ej⟩
  have sE := edges_srt hS.srt
  obtain ⟨hk', he'⟩ := edges_mem.1 (List.getElem_mem hn)
  obtain ⟨s, hs, rfl⟩ := List.getElem_of_mem mj
  have zk := hS.nz _ hk
  have zj := hS.nz _ hj
  have zn := hS.nz _ hk'
  have hne : s ≠ t := by
    intro e; subst e
    rw [cross_self] at cj; omega
  by_cases e : s = (t + 1) % (edges S).length
  · simp only [← e]
    exact cor
  · exfalso
    by_cases hl : t + 1 < (edges S).length
    · have em : (t + 1) % (edges S).length = t + 1 := Nat.mod_eq_of_lt hl
      simp only [em] at e hk' he' zn hn
      have b1 := sE.at_ ht hl (by omega)
      by_cases hst : s < t
      · have b2 := sE.at_ hs ht hst
        obtain ⟨c1, c2⟩ := mid2 zk zn zj b2 b1 cj
        exact no_between cor hk hj he' hk' c1 c2
      · have b2 := sE.at_ hl hs (by omega)
        obtain ⟨c1, c2⟩ := mid1 zk zn zj b1 b2 cj
        exact no_between cor hk hj he' hk' c1 c2
    · have em : (t + 1) % (edges S).length = 0 := by rw [show t + 1 = (edges S).length by omega]; exact Nat.mod_self _
      simp only [em] at e hk' he' zn hn
      have b1 := sE.at_ hs ht (by omega)
      have b2 := sE.at_ hn hs (by omega)
      obtain ⟨c1, c2⟩ := mid3 zk zn zj b2 b1 cj
      exact no_between cor hk hj he' hk' c1 c2
theorem implied {S : List Half} (hS : Good S) (ho : openP S) (hne : edges S ≠ []) {m : Half} (hm : m ∈ S) :
    ∃ a ∈ edges S, ∃ b ∈ edges S, Corner S a b ∧ 0 ≤ cross a m ∧ 0 ≤ cross m b := by
  have sE := edges_srt hS.srt
  have zE : Nz (edges S) := fun x hx => hS.nz x (edges_mem.1 hx).1
  have zm := hS.nz m hm
  have hn0 : 0 < (edges S).length := List.length_pos_iff.2 hne
  -- the number of edges that do not come behind m
  have key : ∀ n, n ≤ (edges S).length → (∀ t (ht : t < (edges S).length), t < n → before m (edges S)[t] = false) ∨
      (∃ t, ∃ ht : t < (edges S).length, before m (edges S)[t] = true ∧ ∀ u (hu : u < (edges S).length), u < t → before m (edges S)[u] = false) := by
    intro n
    induction n with
    | zero => intro _; exact .inl fun t _ h => by omega
    | succ n ih =>
      intro hn
      rcases ih (by omega) with h | h
      · cases hb : before m ((edges S)[n]'(by omega)) with
        | true => exact .inr ⟨n, by omega, hb, fun u hu hlt => h u hu hlt⟩
        | false =>
          refine .inl fun t ht hlt => ?_
          by_cases e : t = n
          · subst e; exact hb
          · exact h t ht (by omega)
      · exact .inr h
  have weak : ∀ t (ht : t < (edges S).length), before m (edges S)[t] = false → sameDir (edges S)[t] m = true ∨ before (edges S)[t] m = true := by
    intro t ht hb
    rcases before_tri (edges S)[t] m with h | h | h
    · exact .inr h
    · exact .inl h
    · rw [hb] at h; cases h
  have corner : ∀ t (ht : t < (edges S).length) (hu : (t + 1) % (edges S).length < (edges S).length), Corner S (edges S)[t] (edges S)[(t + 1) % (edges S).length] := fun t ht hu => next_at hS ho ht hu
  rcases key (edges S).length (Nat.le_refl _) with h | ⟨t, ht, hb, hlow⟩
  · -- all edges come before m, or have its direction: the last and the first
    have hl : (edges S).length - 1 < (edges S).length := by omega
    have em : ((edges S).length - 1 + 1) % (edges S).length = 0 := by rw [show (edges S).length - 1 + 1 = (edges S).length by omega]; exact Nat.mod_self _
    have co := corner _ hl (by rw [em]; exact hn0)
    simp only [em] at co
    have za := zE _ (List.getElem_mem hl)
    have zb := zE _ (List.getElem_mem hn0)
    refine ⟨_, List.getElem_mem hl, _, List.getElem_mem hn0, co, ?_⟩
    have hne1 : (edges S).length ≠ 1 := by
      intro e1
      have := co.1
      simp only [e1] at this
      rw [cross_self] at this
      omega
    have b0 := sE.at_ hn0 hl (by omega)
    rcases weak _ hl (h _ hl hl) with w | w
    · refine ⟨by rw [same_cross w]; omega, ?_⟩
      have e1 := same_turn (c := (edges S)[0]) za zm w
      have := Int.mul_pos (sizeH_pos zm) co.1
      exact pos_of_mul (sizeH_pos za) (by omega)
    · obtain ⟨c1, c2⟩ := mid2 za zm zb b0 w co.1
      omega
  · by_cases ht0 : t = 0
    · subst ht0
      have hl : (edges S).length - 1 < (edges S).length := by omega
      have em : ((edges S).length - 1 + 1) % (edges S).length = 0 := by rw [show (edges S).length - 1 + 1 = (edges S).length by omega]; exact Nat.mod_self _
      have co := corner _ hl (by rw [em]; exact hn0)
      simp only [em] at co
      have za := zE _ (List.getElem_mem hl)
      have zb := zE _ (List.getElem_mem hn0)
      refine ⟨_, List.getElem_mem hl, _, List.getElem_mem hn0, co, ?_⟩
      have hne1 : (edges S).length ≠ 1 := by
        intro e1
        have := co.1
        simp only [e1] at this
        rw [cross_self] at this
        omega
      have b0 := sE.at_ hn0 hl (by omega)
      obtain ⟨c1, c2⟩ := mid3 za zm zb hb b0 co.1
      omega
    · have ht1 : t - 1 < (edges S).length := by omega
      have em : (t - 1 + 1) % (edges S).length = t := by rw [show t - 1 + 1 = t by omega]; exact Nat.mod_eq_of_lt ht
      have co := corner _ ht1 (by rw [em]; exact ht)
      simp only [em] at co
      have za := zE _ (List.getElem_mem ht1)
      have zb := zE _ (List.getElem_mem ht)
      refine ⟨_, List.getElem_mem ht1, _, List.getElem_mem ht, co, ?_⟩
      rcases weak _ ht1 (hlow _ ht1 (by omega)) with w | w
      · refine ⟨by rw [same_cross w]; omega, ?_⟩
        have e1 := same_turn (c := (edges S)[t]) za zm w
        have := Int.mul_pos (sizeH_pos zm) co.1
        exact pos_of_mul (sizeH_pos za) (by omega)
      · obtain ⟨c1, c2⟩ := mid1 za zm zb w hb co.1
        omega
theorem sat_implied {S : List Half} {k i a b m : Half} (hc : Corner S a b) (hm : m ∈ S) (h1 : 0 ≤ cross a m) (h2 : 0 ≤ cross m b) (sa : sat k i a) (sb : sat k i b) : sat k i m := by
  have e : cross a b * det3 k i m = cross m b * det3 k i a + cross a m * det3 k i b + det3 a b m * cross k i := by unfold det3 cross; grind
  obtain ⟨c1, c2⟩ := hc
  have c3 := c2 m hm
  unfold sat at *
  rcases sa with ⟨p, q⟩ | ⟨p, q⟩
  · rcases sb with ⟨_, r⟩ | ⟨p', _⟩
    · have m1 := Int.mul_nonneg h2 q
      have m2 := Int.mul_nonneg h1 r
      have m3 := Int.mul_nonneg c3 (Int.le_of_lt p)
      exact .inl ⟨p, pos_of_mul c1 (by omega)⟩
    · omega
  · rcases sb with ⟨p', _⟩ | ⟨_, r⟩
    · omega
    · have m1 := mul_pn h2 q
      have m2 := mul_pn h1 r
      have m3 := mul_pn c3 (Int.le_of_lt p)
      refine .inr ⟨p, ?_⟩
      rcases Int.lt_or_le 0 (det3 k i m) with x | x
      · have := Int.mul_pos c1 x; omega
      · exact x
def frame : List Half := [⟨1, 0, 1000⟩, ⟨0, 1, 1000⟩, ⟨-1, 0, 1000⟩, ⟨0, -1, 1000⟩]
theorem frame_ok : ∀ h ∈ frame, halfOk h = true := by decide
theorem good_of {S L : List Half} (hT : Tst S L) (hL : ∀ x ∈ L, halfOk x = true) (hf : ∀ x ∈ frame, x ∈ L) : Good S := by
  have hz := ok_nz hL
  have hzS : Nz S := fun x hx => hz x (hT.sub hx)
  refine ⟨hT.srt, hzS, ?_, ?_, ?_, ?_⟩
  · obtain ⟨e, he, hs, ht⟩ := hT.has hz ⟨1, 0, 1000⟩ (hf _ (by decide))
    obtain ⟨p, q⟩ := same_scale (hzS e he) (by simp [nz]) hs
    have pz := sizeH_pos (hzS e he)
    have e1 : sizeH ⟨1, 0, 1000⟩ = 1 := by decide
    unfold tle at ht
    rw [e1] at p q ht
    simp only [Int.mul_zero, Int.one_mul, Int.mul_one] at p q ht
    exact ⟨e, he, by omega, by omega, by rw [p]; exact ht⟩
  · obtain ⟨e, he, hs, ht⟩ := hT.has hz ⟨0, 1, 1000⟩ (hf _ (by decide))
    obtain ⟨p, q⟩ := same_scale (hzS e he) (by simp [nz]) hs
    have pz := sizeH_pos (hzS e he)
    have e1 : sizeH ⟨0, 1, 1000⟩ = 1 := by decide
    unfold tle at ht
    rw [e1] at p q ht
    simp only [Int.mul_zero, Int.one_mul, Int.mul_one] at p q ht
    exact ⟨e, he, by omega, by omega, by rw [q]; exact ht⟩
  · obtain ⟨e, he, hs, ht⟩ := hT.has hz ⟨-1, 0, 1000⟩ (hf _ (by decide))
    obtain ⟨p, q⟩ := same_scale (hzS e he) (by simp [nz]) hs
    have pz := sizeH_pos (hzS e he)
    have e1 : sizeH ⟨-1, 0, 1000⟩ = 1 := by decide
    unfold tle at ht
    rw [e1] at p q ht
    simp only [Int.mul_zero, Int.one_mul, Int.mul_one, Int.mul_neg] at p q ht
    exact ⟨e, he, by omega, by omega, by rw [p, Int.neg_neg]; exact ht⟩
  · obtain ⟨e, he, hs, ht⟩ := hT.has hz ⟨0, -1, 1000⟩ (hf _ (by decide))
    obtain ⟨p, q⟩ := same_scale (hzS e he) (by simp [nz]) hs
    have pz := sizeH_pos (hzS e he)
    have e1 : sizeH ⟨0, -1, 1000⟩ = 1 := by decide
    unfold tle at ht
    rw [e1] at p q ht
    simp only [Int.mul_zero, Int.one_mul, Int.mul_one, Int.mul_neg] at p q ht
    exact ⟨e, he, by omega, by omega, by rw [q, Int.neg_neg]; exact ht⟩
theorem same_det {k i g h : Half} (hg : nz g) (hh : nz h) (hs : sameDir g h = true) : sizeH g * det3 k i h = sizeH h * det3 k i g + (sizeH g * h.C - sizeH h * g.C) * cross k i := by
  obtain ⟨e1, e2⟩ := same_scale hg hh hs
  unfold det3 cross
  generalize sizeH g = s at *
  generalize sizeH h = t at *
  grind
theorem make_again {L L' : List Half} (hL : ∀ x ∈ L, halfOk x = true) (hf : ∀ x ∈ frame, x ∈ L) (hf' : ∀ x ∈ frame, x ∈ L') {S S' : List Half} (hT : Tst S L) (hT' : Tst S' L')
    (hsub : ∀ x ∈ L', x ∈ L) (ho : openP S) (hne : edges S ≠ []) (hE : ∀ x ∈ edges S, x ∈ L') : openP S' ∧ edges S' = edges S := by
  have hL' : ∀ x ∈ L', halfOk x = true := fun x hx => hL x (hsub x hx)
  have hS := good_of hT hL hf
  have hS' := good_of hT' hL' hf'
  have hz := ok_nz hL
  -- each of S' has a tighter one of its direction in S
  have up : ∀ x ∈ S', ∃ y ∈ S, sameDir y x = true ∧ tle y x := fun x hx => hT.has hz x (hsub x (hT'.sub hx))
  have open' : openP S' := by
    intro g hg h hh h0 hn
    obtain ⟨a, ha, sa, ta⟩ := up g hg
    obtain ⟨b, hb, sb, tb⟩ := up h hh
    have zg := hS'.nz g hg
    have zh := hS'.nz h hh
    have za := hS.nz a ha
    have zb := hS.nz b hb
    have pa := sizeH_pos za
    have pb := sizeH_pos zb
    have pg := sizeH_pos zg
    have ph := sizeH_pos zh
    have c1 : cross a b = 0 := by
      have e1 := same_turn (c := b) za zg sa
      have e2 := same_turn (c := g) zb zh sb
      have e3 := cross_anti g b
      have e4 := cross_anti g h
      rw [show cross h g = 0 by omega, Int.mul_zero] at e2
      have e5 : cross b g = 0 := (Int.mul_eq_zero.1 e2).resolve_left (by omega)
      rw [show cross g b = 0 by omega, Int.mul_zero] at e1
      exact (Int.mul_eq_zero.1 e1).resolve_left (by omega)
    have c2 : sameDir a b = false := by
      rw [← Bool.not_eq_true]
      intro e
      have := same_trans zg za zh (sameDir_symm sa) (same_trans za zb zh e sb)
      rw [hn] at this; cases this
    have r := ho a ha b hb c1 c2
    unfold tle at ta tb
    unfold room at r ⊢
    have q1 := Int.mul_pos (Int.mul_pos r pg) ph
    have q2 := Int.mul_le_mul_of_nonneg_right (Int.mul_le_mul_of_nonneg_right ta (Int.le_of_lt pb)) (Int.le_of_lt ph)
    have q3 := Int.mul_le_mul_of_nonneg_right (Int.mul_le_mul_of_nonneg_right tb (Int.le_of_lt pa)) (Int.le_of_lt pg)
    have q4 : 0 < sizeH a * sizeH b * (g.C * sizeH h + h.C * sizeH g) := by grind
    exact pos_of_mul' (Int.mul_pos pa pb) q4
  -- the edges of S are edges of S'
  have there : ∀ k ∈ edges S, k ∈ S' := by
    intro k hk
    obtain ⟨hkS, _⟩ := edges_mem.1 hk
    exact (hT'.mem k).2 ⟨hE k hk, fun y hy e => ((hT.mem k).1 hkS).2 y (hsub y hy) e⟩
  have keeps : ∀ k ∈ edges S, edgeF S' k := by
    intro k hk i hi j hj fi fj
    obtain ⟨hkS, he⟩ := edges_mem.1 hk
    obtain ⟨a, ha, sa, ta⟩ := up i hi
    obtain ⟨b, hb, sb, tb⟩ := up j hj
    have zi := hS'.nz i hi
    have zj := hS'.nz j hj
    have za := hS.nz a ha
    have zb := hS.nz b hb
    have pa := sizeH_pos za
    have pb := sizeH_pos zb
    have pi := sizeH_pos zi
    have pj := sizeH_pos zj
    have e1 := same_turn (c := k) za zi sa
    have e2 := same_turn (c := k) zb zj sb
    rw [cross_anti k a, cross_anti k i] at e1
    rw [cross_anti k b, cross_anti k j] at e2
    have f1 : cross k a < 0 := by
      have := Int.mul_neg_of_pos_of_neg pa fi
      rw [Int.mul_neg, Int.mul_neg] at e1
      rcases Int.lt_or_le (cross k a) 0 with x | x
      · exact x
      · have := Int.mul_nonneg (Int.le_of_lt pi) x; omega
    have f2 : 0 < cross k b := by
      have := Int.mul_pos pb fj
      rw [Int.mul_neg, Int.mul_neg] at e2
      exact pos_of_mul' pj (by omega)
    have d := he a ha b hb f1 f2
    have g1 := same_det (k := k) (i := a) zb zj sb
    have g2 := same_det (k := k) (i := j) za zi sa
    unfold tle at ta tb
    have w1 := det3_swap2 k i j
    have w2 := det3_swap2 k a j
    rw [w1, w2] at g2
    -- size b * det k a j = size j * det k a b + (..) * cross k a: below 0
    have m1 := Int.mul_neg_of_pos_of_neg pj d
    have m2 := mul_pn (show 0 ≤ sizeH b * j.C - sizeH j * b.C by rw [Int.mul_comm, Int.mul_comm (sizeH j)]; omega) (Int.le_of_lt f1)
    have d2 : det3 k a j < 0 := by
      rcases Int.lt_or_le (det3 k a j) 0 with x | x
      · exact x
      · have := Int.mul_nonneg (Int.le_of_lt pb) x; omega
    have m3 := Int.mul_neg_of_pos_of_neg pi d2
    have m4 := Int.mul_nonneg (show 0 ≤ sizeH a * i.C - sizeH i * a.C by rw [Int.mul_comm, Int.mul_comm (sizeH i)]; omega) (Int.le_of_lt fj)
    rcases Int.lt_or_le (det3 k i j) 0 with x | x
    · exact x
    · have := Int.mul_nonneg (Int.le_of_lt pa) x
      rw [Int.mul_neg, Int.mul_neg] at g2
      omega
  refine ⟨open', srt_eq (edges_srt hS'.srt) (edges_srt hS.srt) fun k => ⟨fun hk => ?_, fun hk => edges_mem.2 ⟨there k hk, keeps k hk⟩⟩⟩
  obtain ⟨hkS, he⟩ := edges_mem.1 hk
  obtain ⟨i, hi, j, hj, ni, nj, si, sj, hd⟩ := edgeF_S hS' open' hkS he
  -- what lies in S' lies in S
  have all : ∀ p, (∀ m ∈ S', sat k p m) → ∀ m ∈ S, sat k p m := by
    intro p hp m hm
    obtain ⟨a, ha, b, hb, hc, h1, h2⟩ := implied hS ho hne hm
    exact sat_implied hc hm h1 h2 (hp a (there a ha)) (hp b (there b hb))
  obtain ⟨s, hs, ss, ts⟩ := up k hkS
  have zk := hS'.nz k hkS
  have zs := hS.nz s hs
  have pk := sizeH_pos zk
  have e := same_det (k := k) (i := i) zk zs (sameDir_symm ss)
  have z : det3 k i k = 0 := by unfold det3 cross; grind
  rw [z, Int.mul_zero, Int.zero_add] at e
  have ts' := ts
  unfold tle at ts
  have t2 : tle k s := by
    unfold tle
    have q := all i si s hs
    rcases Int.lt_or_le 0 (sizeH s * k.C - sizeH k * s.C) with x | x
    · exfalso
      unfold sat at q
      rcases q with ⟨p, q⟩ | ⟨p, q⟩
      · have m1 := Int.mul_nonneg (Int.le_of_lt pk) q
        have m2 := Int.mul_neg_of_neg_of_pos (show sizeH k * s.C - sizeH s * k.C < 0 by omega) p
        omega
      · have m1 := mul_pn (Int.le_of_lt pk) q
        have m2 := Int.mul_pos_of_neg_of_neg (show sizeH k * s.C - sizeH s * k.C < 0 by omega) p
        omega
    · rw [Int.mul_comm, Int.mul_comm s.C]; omega
  have ek : s = k := tle_antisymm (hL s (hT.sub hs)) (hL' k (hT'.sub hkS)) ss ts' t2
  exact edges_mem.2 ⟨by rw [← ek]; exact hs, edgeF_of ni nj (all i si) (all j sj) hd⟩
end Go.Proofs.YtfnmbpjkjajpcaaGreatDoor
namespace Go.Proofs.YtfnmbpjkjajpcaaGreatDoor
set_option linter.unusedVariables false
def sqH (h : Half) : Int := h.A * h.A + h.B * h.B
theorem sq_pos {h : Half} (hz : nz h) : 0 < sqH h := by
  unfold sqH nz at *
  have h1 : 0 ≤ h.A * h.A := by rcases Int.le_total 0 h.A with x | x; exact Int.mul_nonneg x x; exact Int.mul_nonneg_of_nonpos_of_nonpos x x
  have h2 : 0 ≤ h.B * h.B := by rcases Int.le_total 0 h.B with x | x; exact Int.mul_nonneg x x; exact Int.mul_nonneg_of_nonpos_of_nonpos x x
  rcases hz with x | x
  · have : h.A * h.A ≠ 0 := fun e => x (by rcases Int.mul_eq_zero.1 e with y | y <;> exact y)
    omega
  · have : h.B * h.B ≠ 0 := fun e => x (by rcases Int.mul_eq_zero.1 e with y | y <;> exact y)
    omega
def frN (h g : Half) : Int := if cross h g < 0 then -(g.C * sqH h - h.C * (h.A * g.A + h.B * g.B)) else g.C * sqH h - h.C * (h.A * g.A + h.B * g.B)
def frD (h g : Half) : Int := if cross h g < 0 then -cross h g else cross h g
theorem frD_pos {h g : Half} (hn : cross h g ≠ 0) : 0 < frD h g := by unfold frD; split <;> omega
theorem fr_det {h i j : Half} (hi : cross h i < 0) (hj : 0 < cross h j) : frN h j * frD h i - frN h i * frD h j = -(sqH h * det3 h i j) := by
  unfold frN frD
  rw [if_pos hi, if_neg (by omega), if_pos hi, if_neg (by omega)]
  unfold det3 cross sqH
  grind
theorem fr_lt {h i j : Half} (hz : nz h) (hi : cross h i < 0) (hj : 0 < cross h j) : frN h i * frD h j < frN h j * frD h i ↔ det3 h i j < 0 := by
  have e := fr_det hi hj
  have hp := sq_pos hz
  constructor
  · intro h1
    have : 0 < -(sqH h * det3 h i j) := by omega
    rcases Int.lt_or_le (det3 h i j) 0 with x | x
    · exact x
    · have := Int.mul_nonneg (Int.le_of_lt hp) x
      omega
  · intro h1
    have := Int.mul_neg_of_pos_of_neg hp h1
    omega
theorem fr_trans {a b c d e f : Int} (hb : 0 < b) (hd : 0 < d) (hf : 0 < f) (h1 : a * d ≤ c * b) (h2 : c * f ≤ e * d) : a * f ≤ e * b := by
  have x1 := Int.mul_le_mul_of_nonneg_right h1 (Int.le_of_lt hf)
  have x2 := Int.mul_le_mul_of_nonneg_right h2 (Int.le_of_lt hb)
  have x3 : d * (a * f) ≤ d * (e * b) := by
    rw [show d * (a * f) = a * d * f by grind, show d * (e * b) = e * d * b by grind]
    rw [show c * b * f = c * f * b by grind] at x1
    omega
  exact Int.le_of_mul_le_mul_left x3 hd
structure Mark where
  n : Int
  d : Int
  is : Bool
def onSide (later : Bool) (h g : Half) : Prop := if later = true then cross h g < 0 else 0 < cross h g
def noWorse (later : Bool) (n d n' d' : Int) : Prop := if later = true then n' * d ≤ n * d' else n * d' ≤ n' * d
def Best (later : Bool) (h : Half) (done : List Half) (m : Mark) : Prop :=
  (m.is = false ∧ ∀ g ∈ done, ¬ onSide later h g) ∨ (m.is = true ∧ ∃ g ∈ done, onSide later h g ∧ m.n = frN h g ∧ m.d = frD h g ∧ ∀ g' ∈ done, onSide later h g' → noWorse later m.n m.d (frN h g') (frD h g'))
theorem onSide_ne {later : Bool} {h g : Half} (hs : onSide later h g) : cross h g ≠ 0 := by unfold onSide at hs; split at hs <;> omega
theorem Best.nil (later : Bool) (h : Half) : Best later h [] ⟨0, 0, false⟩ := .inl ⟨rfl, fun g hg => by cases hg⟩
theorem Best.pos {later : Bool} {h : Half} {done : List Half} {m : Mark} (hb : Best later h done m) (hi : m.is = true) : 0 < m.d := by
  rcases hb with ⟨h1, _⟩ | ⟨_, g, _, hs, _, hd, _⟩
  · rw [h1] at hi; cases hi
  · rw [hd]; exact frD_pos (onSide_ne hs)
theorem Best.skip {later : Bool} {h g : Half} {done : List Half} {m : Mark} (hb : Best later h done m) (hn : ¬ onSide later h g) : Best later h (done ++ [g]) m := by
  rcases hb with ⟨h1, h2⟩ | ⟨h1, g0, hg0, hs, e1, e2, h3⟩
  · refine .inl ⟨h1, fun x hx => ?_⟩
    rcases List.mem_append.1 hx with hx | hx
    · exact h2 x hx
    · rw [List.mem_singleton.1 hx]; exact hn
  · refine .inr ⟨h1, g0, List.mem_append_left _ hg0, hs, e1, e2, fun x hx hsx => ?_⟩
    rcases List.mem_append.1 hx with hx | hx
    · exact h3 x hx hsx
    · rw [List.mem_singleton.1 hx] at hsx; exact absurd hsx hn
theorem noWorse_refl (later : Bool) (n d : Int) : noWorse later n d n d := by unfold noWorse; split <;> omega
theorem Best.first {later : Bool} {h g : Half} {done : List Half} {m : Mark} (hb : Best later h done m) (h0 : m.is = false) (hs : onSide later h g) : Best later h (done ++ [g]) ⟨frN h g, frD h g, true⟩ := by
  rcases hb with ⟨h1, h2⟩ | ⟨h1, _⟩
  · refine .inr ⟨rfl, g, by simp, hs, rfl, rfl, fun x hx hsx => ?_⟩
    rcases List.mem_append.1 hx with hx | hx
    · exact absurd hsx (h2 x hx)
    · rw [List.mem_singleton.1 hx]; exact noWorse_refl _ _ _
  · rw [h1] at h0; cases h0
theorem Best.keep {later : Bool} {h g : Half} {done : List Half} {m : Mark} (hb : Best later h done m) (h0 : m.is = true) (hk : noWorse later m.n m.d (frN h g) (frD h g)) : Best later h (done ++ [g]) m := by
  rcases hb with ⟨h1, h2⟩ | ⟨h1, g0, hg0, hs, e1, e2, h3⟩
  · rw [h1] at h0; cases h0
  · refine .inr ⟨h1, g0, List.mem_append_left _ hg0, hs, e1, e2, fun x hx hsx => ?_⟩
    rcases List.mem_append.1 hx with hx | hx
    · exact h3 x hx hsx
    · rw [List.mem_singleton.1 hx]; exact hk
theorem Best.take {later : Bool} {h g : Half} {done : List Half} {m : Mark} (hb : Best later h done m) (h0 : m.is = true) (hs : onSide later h g) (hk : ¬ noWorse later m.n m.d (frN h g) (frD h g)) : Best later h (done ++ [g]) ⟨frN h g, frD h g, true⟩ := by
  have hd := hb.pos h0
  have hg := frD_pos (onSide_ne hs)
  rcases hb with ⟨h1, h2⟩ | ⟨h1, g0, hg0, hs0, e1, e2, h3⟩
  · rw [h1] at h0; cases h0
  · refine .inr ⟨rfl, g, by simp, hs, rfl, rfl, fun x hx hsx => ?_⟩
    rcases List.mem_append.1 hx with hx | hx
    · have hw := h3 x hx hsx
      have hxp := frD_pos (onSide_ne hsx)
      unfold noWorse at *
      cases later
      · simp only [Bool.false_eq_true, if_false] at *
        exact fr_trans hg hd hxp (by omega) hw
      · simp only [if_true] at *
        exact fr_trans hxp hd hg hw (by omega)
    · rw [List.mem_singleton.1 hx]; exact noWorse_refl _ _ _
def narrowM (m : Mark) (n d : Int) (later : Bool) : Mark :=
  if m.is = true ∧ ((later = true ∧ cmpI (n * m.d) (m.n * d) ≤ 0) ∨ (later = false ∧ 0 ≤ cmpI (n * m.d) (m.n * d))) then m else ⟨n, d, true⟩
theorem cmpI_ge {x y : Int} : 0 ≤ cmpI x y ↔ y ≤ x := by unfold cmpI; split <;> (try split) <;> omega
theorem cmpI_le' {x y : Int} : cmpI x y ≤ 0 ↔ x ≤ y := by unfold cmpI; split <;> (try split) <;> omega
theorem cmpI_lt' {x y : Int} : cmpI x y < 0 ↔ x < y := by unfold cmpI; split <;> (try split) <;> omega
theorem Best.narrow {later : Bool} {h g : Half} {done : List Half} {m : Mark} (hb : Best later h done m) (hs : onSide later h g) : Best later h (done ++ [g]) (narrowM m (frN h g) (frD h g) later) := by
  unfold narrowM
  split
  · rename_i hc
    refine hb.keep hc.1 ?_
    unfold noWorse
    rcases hc.2 with ⟨h1, h2⟩ | ⟨h1, h2⟩
    · rw [if_pos h1]; exact cmpI_le'.1 h2
    · rw [if_neg (by rw [h1]; simp)]; exact cmpI_ge.1 h2
  · rename_i hc
    cases hm : m.is
    · exact hb.first hm hs
    · refine hb.take hm hs (fun hw => hc ⟨hm, ?_⟩)
      unfold noWorse at hw
      cases later
      · exact .inr ⟨rfl, cmpI_ge.2 (by simpa using hw)⟩
      · exact .inl ⟨rfl, cmpI_le'.2 (by simpa using hw)⟩
theorem edge_of_best {S : List Half} {k : Half} {F T : Mark} (hS : Good S) (hk : k ∈ S) (hF : Best true k S F) (hT : Best false k S T) :
    (F.is && T.is && decide (cmpI (F.n * T.d) (T.n * F.d) < 0)) = edgeFb S k := by
  have hz := hS.nz k hk
  obtain ⟨lo, hlo, clo⟩ := hS.fr.lo hz
  obtain ⟨hi, hhi, chi⟩ := hS.fr.hi hz
  rcases hF with ⟨_, h2⟩ | ⟨f1, f, hf, sf, fn, fd, fb⟩
  · exact absurd (show onSide true k lo from clo) (h2 lo hlo)
  rcases hT with ⟨_, h2⟩ | ⟨t1, t, ht, st, tn, td, tb⟩
  · exact absurd (show onSide false k hi from by unfold onSide; simpa using chi) (h2 hi hhi)
  have sf' : cross k f < 0 := sf
  have st' : 0 < cross k t := by unfold onSide at st; simpa using st
  rw [f1, t1, Bool.true_and, Bool.true_and, Bool.eq_iff_iff, decide_eq_true_eq, cmpI_lt', edgeFb_iff]
  constructor
  · intro h i hi j hj ci cj
    have w1 := fb i hi ci
    have w2 := tb j hj (by unfold onSide; simpa using cj)
    unfold noWorse at w1 w2
    simp only [if_true, Bool.false_eq_true, if_false] at w1 w2
    rw [fn, fd] at w1 h
    rw [tn, td] at w2 h
    have pi := frD_pos (h := k) (g := i) (by omega)
    have pj := frD_pos (h := k) (g := j) (by omega)
    have pf := frD_pos (h := k) (g := f) (by omega)
    have pt := frD_pos (h := k) (g := t) (by omega)
    rw [← fr_lt hz ci cj]
    -- i <= f < t <= j
    rcases Int.lt_or_le (frN k i * frD k j) (frN k j * frD k i) with x | x
    · exact x
    · exfalso
      -- j <= i, so t <= j <= i <= f
      have y1 := fr_trans pt pj pi w2 x
      have y2 := fr_trans pt pi pf y1 w1
      omega
  · intro h
    rw [fn, fd, tn, td]
    exact (fr_lt hz sf' st').2 (h f hf t ht sf' st')
def roomAt (S : List Half) (k i : Nat) : Bool := decide (i = k) || decide (cross (S.getD k ⟨0, 0, 0⟩) (S.getD i ⟨0, 0, 0⟩) ≠ 0) || decide (0 < room (S.getD i ⟨0, 0, 0⟩) (S.getD k ⟨0, 0, 0⟩))
theorem room_symm (g h : Half) : room g h = room h g := by unfold room; omega
theorem open_rooms {S : List Half} (hS : Good S) : openB S = true ↔ ∀ k i, k < S.length → i < S.length → roomAt S k i = true := by
  rw [openB_iff]
  unfold openP roomAt
  constructor
  · intro h k i hk hi
    simp only [Bool.or_eq_true, decide_eq_true_eq, List.getD_eq_getElem?_getD, List.getElem?_eq_getElem hk, List.getElem?_eq_getElem hi, Option.getD_some]
    by_cases e : i = k
    · exact .inl (.inl e)
    · by_cases c : cross S[k] S[i] = 0
      · refine .inr ?_
        rw [room_symm]
        refine h _ (List.getElem_mem hk) _ (List.getElem_mem hi) c ?_
        cases hd : sameDir S[k] S[i]
        · rfl
        · exfalso
          rcases Nat.lt_or_gt_of_ne e with x | x
          · have := before_not_same (hS.srt.at_ hi hk x)
            rw [sameDir_symm hd] at this
            cases this
          · have := before_not_same (hS.srt.at_ hk hi x)
            rw [hd] at this
            cases this
      · exact .inl (.inr c)
  · intro h g hg x hx c hs
    obtain ⟨k, hk, rfl⟩ := List.mem_iff_getElem.1 hg
    obtain ⟨i, hi, rfl⟩ := List.mem_iff_getElem.1 hx
    have := h k i hk hi
    simp only [Bool.or_eq_true, decide_eq_true_eq, List.getD_eq_getElem?_getD, List.getElem?_eq_getElem hk, List.getElem?_eq_getElem hi, Option.getD_some] at this
    rcases this with (e | e) | e
    · subst e
      rw [sameDir_refl] at hs
      cases hs
    · exact absurd c e
    · rw [room_symm]; exact e
def placeH (h : Half) : List Half → Nat
  | [] => 0
  | g :: l => if before g h = true then placeH h l + 1 else 0
theorem placeH_le (h : Half) : ∀ l : List Half, placeH h l ≤ l.length
  | [] => Nat.le_refl _
  | g :: l => by
    unfold placeH
    split
    · have := placeH_le h l; simp; omega
    · simp
theorem placeH_before (h : Half) : ∀ (l : List Half) (i : Nat) (hi : i < l.length), i < placeH h l → before l[i] h = true
  | g :: l, i, hi, hp => by
    unfold placeH at hp
    split at hp
    · rename_i hb
      cases i with
      | zero => exact hb
      | succ i => exact placeH_before h l i (by simpa using hi) (by omega)
    · omega
theorem placeH_at (h : Half) : ∀ (l : List Half) (hp : placeH h l < l.length), before l[placeH h l] h = false
  | g :: l, hp => by
    by_cases hb : before g h = true
    · have e : placeH h (g :: l) = placeH h l + 1 := if_pos hb
      have hp' : placeH h l < l.length := by rw [e] at hp; simpa using hp
      have := placeH_at h l hp'
      simp only [e, List.getElem_cons_succ]
      exact this
    · have e : placeH h (g :: l) = 0 := if_neg hb
      simp only [e, List.getElem_cons_zero]
      simpa using hb
theorem placeH_of {h : Half} {l : List Half} {k : Nat} (hk : k ≤ l.length) (h1 : ∀ i (hi : i < l.length), i < k → before l[i] h = true) (h2 : ∀ hk : k < l.length, before l[k] h = false) : placeH h l = k := by
  rcases Nat.lt_trichotomy (placeH h l) k with x | x | x
  · have := placeH_at h l (by omega)
    rw [h1 _ (by omega) x] at this
    cases this
  · exact x
  · have hl := placeH_le h l
    have := placeH_before h l k (by omega) x
    rw [h2 (by omega)] at this
    cases this
theorem insertH_same (h : Half) : ∀ (l : List Half) (hp : placeH h l < l.length), sameDir l[placeH h l] h = true → insertH h l = l.set (placeH h l) (tighter l[placeH h l] h)
  | g :: l, hp, hs => by
    by_cases hb : before g h = true
    · have e : placeH h (g :: l) = placeH h l + 1 := if_pos hb
      have hp' : placeH h l < l.length := by rw [e] at hp; simpa using hp
      simp only [e, List.getElem_cons_succ] at hs ⊢
      have := insertH_same h l hp' hs
      unfold insertH
      rw [if_pos hb, this]
      rfl
    · have e : placeH h (g :: l) = 0 := if_neg hb
      simp only [e, List.getElem_cons_zero] at hs ⊢
      unfold insertH
      rw [if_neg hb, if_pos hs]
      rfl
theorem insertH_new (h : Half) : ∀ (l : List Half), (∀ hp : placeH h l < l.length, sameDir l[placeH h l] h = false) → insertH h l = l.take (placeH h l) ++ h :: l.drop (placeH h l)
  | [], _ => rfl
  | g :: l, hs => by
    by_cases hb : before g h = true
    · have e : placeH h (g :: l) = placeH h l + 1 := if_pos hb
      have := insertH_new h l (fun hp => by
        have := hs (by rw [e]; simpa using hp)
        simp only [e, List.getElem_cons_succ] at this
        exact this)
      unfold insertH
      rw [if_pos hb, this, e]
      rfl
    · have e : placeH h (g :: l) = 0 := if_neg hb
      have := hs (by rw [e]; simp)
      simp only [e, List.getElem_cons_zero] at this
      unfold insertH
      rw [if_neg hb, if_neg (by rw [this]; simp), e]
      rfl
theorem insertH_len (h : Half) : ∀ l : List Half, (insertH h l).length ≤ l.length + 1
  | [] => Nat.le_refl _
  | g :: l => by
    unfold insertH
    split
    · have := insertH_len h l; simp; omega
    · split <;> simp
def sortedTo (l : List Half) (k : Nat) : List Half := sortedH (l.take k)
theorem sortedTo_succ {l : List Half} {k : Nat} (h : k < l.length) : sortedTo l (k + 1) = insertH l[k] (sortedTo l k) := by
  unfold sortedTo sortedH
  rw [List.take_succ_eq_append_getElem h, List.foldl_append]
  rfl
theorem sortedTo_all (l : List Half) : sortedTo l l.length = sortedH l := by unfold sortedTo; rw [List.take_length]
theorem sortedTo_len (l : List Half) : ∀ k, (sortedTo l k).length ≤ k
  | 0 => Nat.le_refl _
  | k + 1 => by
    by_cases h : k < l.length
    · rw [sortedTo_succ h]
      have := insertH_len l[k] (sortedTo l k)
      have := sortedTo_len l k
      omega
    · have : sortedTo l (k + 1) = sortedTo l k := by unfold sortedTo; rw [List.take_of_length_le (by omega), List.take_of_length_le (by omega)]
      rw [this]
      have := sortedTo_len l k
      omega
theorem insertH_ok {h : Half} {l : List Half} (hh : halfOk h = true) (hl : ∀ x ∈ l, halfOk x = true) : ∀ x ∈ insertH h l, halfOk x = true := fun x hx => by
  rcases insertH_sub h l x hx with rfl | hx
  · exact hh
  · exact hl x hx
theorem sortedTo_ok {l : List Half} (hl : ∀ x ∈ l, halfOk x = true) : ∀ k, ∀ x ∈ sortedTo l k, halfOk x = true
  | 0 => fun x hx => by cases hx
  | k + 1 => by
    by_cases h : k < l.length
    · rw [sortedTo_succ h]
      exact insertH_ok (hl _ (List.getElem_mem h)) (sortedTo_ok hl k)
    · have : sortedTo l (k + 1) = sortedTo l k := by unfold sortedTo; rw [List.take_of_length_le (by omega), List.take_of_length_le (by omega)]
      rw [this]
      exact sortedTo_ok hl k
def madeOf (hs : List Half) : List Half := makeI (sortedH (frame ++ hs))
def fitR (l : List Half) : List Half × Bool := if l.length ≤ 40 then (l, true) else ([], false)
def fromR (hs : List Half) : List Half × Bool := if hs.length ≤ 40 ∧ hs.all halfOk = true then fitR (madeOf hs) else ([], false)
def regOk (hs : List Half) : Bool := hs.isEmpty || ((fromR hs).2 && decide ((fromR hs).1 = hs))
theorem made_good {hs : List Half} (h : hs.all halfOk = true) : Good (sortedH (frame ++ hs)) := by
  have hok : ∀ x ∈ frame ++ hs, halfOk x = true := fun x hx => by
    rcases List.mem_append.1 hx with hx | hx
    · exact frame_ok x hx
    · exact List.all_eq_true.1 h x hx
  exact good_of (sortedH_tst hok) hok (fun x hx => List.mem_append_left _ hx)
theorem made_len (hs : List Half) : (madeOf hs).length ≤ 4 + hs.length := by
  unfold madeOf makeI
  split
  · refine Nat.le_trans (List.length_filter_le _ _) ?_
    have := sortedTo_len (frame ++ hs) (frame ++ hs).length
    rw [sortedTo_all, List.length_append] at this
    exact this
  · simp
end Go.Proofs.YtfnmbpjkjajpcaaGreatDoor
namespace Go.Proofs.YtfnmbpjkjajpcaaGreatDoor
set_option linter.unusedVariables false
def ptX (k i : Half) : Int := if cross k i < 0 then -(k.C * i.B - i.C * k.B) else k.C * i.B - i.C * k.B
def ptY (k i : Half) : Int := if cross k i < 0 then -(k.A * i.C - i.A * k.C) else k.A * i.C - i.A * k.C
def inPt (x y d : Int) (m : Half) : Bool := decide (m.A * x + m.B * y ≤ m.C * d)
def inBox (x y d : Int) : Bool := decide (d ≠ 0) && decide (x ≤ 1000 * d) && decide (-1000 * d ≤ x) && decide (y ≤ 1000 * d) && decide (-1000 * d ≤ y)
def insideB (S : List Half) (k i : Half) : Bool := inBox (ptX k i) (ptY k i) (frD k i) && S.all (inPt (ptX k i) (ptY k i) (frD k i))
theorem inPt_sat {k i m : Half} (hn : cross k i ≠ 0) : inPt (ptX k i) (ptY k i) (frD k i) m = true ↔ sat k i m := by
  unfold inPt ptX ptY frD sat
  rw [decide_eq_true_eq]
  have e : m.C * cross k i - (m.A * (k.C * i.B - i.C * k.B) + m.B * (k.A * i.C - i.A * k.C)) = det3 k i m := by unfold det3 cross; grind
  rcases Int.lt_or_gt_of_ne hn with h | h
  · rw [if_pos h, if_pos h, if_pos h]
    constructor
    · intro h1
      refine .inr ⟨h, ?_⟩
      have e2 : m.C * -cross k i - (m.A * -(k.C * i.B - i.C * k.B) + m.B * -(k.A * i.C - i.A * k.C)) = -det3 k i m := by rw [← e]; grind
      omega
    · rintro (⟨h1, _⟩ | ⟨_, h1⟩)
      · omega
      · have e2 : m.C * -cross k i - (m.A * -(k.C * i.B - i.C * k.B) + m.B * -(k.A * i.C - i.A * k.C)) = -det3 k i m := by rw [← e]; grind
        omega
  · rw [if_neg (by omega), if_neg (by omega), if_neg (by omega)]
    constructor
    · intro h1
      exact .inl ⟨h, by omega⟩
    · rintro (⟨_, h1⟩ | ⟨h1, _⟩)
      · omega
      · omega
theorem frD_zero {k i : Half} : frD k i = 0 ↔ cross k i = 0 := by unfold frD; split <;> omega
theorem le_of_mulP {a x y : Int} (ha : 0 < a) (h : a * x ≤ a * y) : x ≤ y := Int.le_of_mul_le_mul_left h ha
theorem box_of {S : List Half} (f : Framed S) {x y d : Int} (hd : 0 < d) (h : ∀ m ∈ S, inPt x y d m = true) : inBox x y d = true := by
  obtain ⟨a, ha, a1, a2, a3⟩ := f.e1
  obtain ⟨b, hb, b1, b2, b3⟩ := f.e2
  obtain ⟨c, hc, c1, c2, c3⟩ := f.e3
  obtain ⟨e, he, d1, d2, d3⟩ := f.e4
  have ga := h a ha
  have gb := h b hb
  have gc := h c hc
  have ge := h e he
  unfold inPt at ga gb gc ge
  rw [decide_eq_true_eq] at ga gb gc ge
  rw [a2, Int.zero_mul, Int.add_zero] at ga
  rw [b1, Int.zero_mul, Int.zero_add] at gb
  rw [c2, Int.zero_mul, Int.add_zero] at gc
  rw [d1, Int.zero_mul, Int.zero_add] at ge
  have k1 := Int.mul_le_mul_of_nonneg_right a3 (Int.le_of_lt hd)
  have k2 := Int.mul_le_mul_of_nonneg_right b3 (Int.le_of_lt hd)
  have k3 := Int.mul_le_mul_of_nonneg_right c3 (Int.le_of_lt hd)
  have k4 := Int.mul_le_mul_of_nonneg_right d3 (Int.le_of_lt hd)
  have r1 : x ≤ 1000 * d := le_of_mulP a1 (by rw [show a.A * (1000 * d) = 1000 * a.A * d by grind]; omega)
  have r2 : y ≤ 1000 * d := le_of_mulP b2 (by rw [show b.B * (1000 * d) = 1000 * b.B * d by grind]; omega)
  have r3 : -x ≤ 1000 * d := le_of_mulP (a := -c.A) (by omega) (by rw [show -c.A * (1000 * d) = 1000 * -c.A * d by grind, show -c.A * -x = c.A * x by grind]; omega)
  have r4 : -y ≤ 1000 * d := le_of_mulP (a := -e.B) (by omega) (by rw [show -e.B * (1000 * d) = 1000 * -e.B * d by grind, show -e.B * -y = e.B * y by grind]; omega)
  unfold inBox
  simp only [Bool.and_eq_true, decide_eq_true_eq]
  refine ⟨⟨⟨⟨?_, ?_⟩, ?_⟩, ?_⟩, ?_⟩ <;> omega
theorem inside_iff {S : List Half} (hS : Good S) {k i : Half} : insideB S k i = true ↔ cross k i ≠ 0 ∧ ∀ m ∈ S, sat k i m := by
  unfold insideB
  rw [Bool.and_eq_true, List.all_eq_true]
  constructor
  · rintro ⟨h1, h2⟩
    have hn : cross k i ≠ 0 := by
      intro e
      unfold inBox at h1
      rw [frD_zero.2 e] at h1
      simp at h1
    exact ⟨hn, fun m hm => (inPt_sat hn).1 (h2 m hm)⟩
  · rintro ⟨hn, h2⟩
    have h3 : ∀ m ∈ S, inPt (ptX k i) (ptY k i) (frD k i) m = true := fun m hm => (inPt_sat hn).2 (h2 m hm)
    exact ⟨box_of hS.fr (frD_pos hn) h3, h3⟩
theorem same_point {k i j : Half} (hz : nz k) : (ptX k i * frD k j = ptX k j * frD k i ∧ ptY k i * frD k j = ptY k j * frD k i) ↔ det3 k i j = 0 := by
  have eX : (k.C * i.B - i.C * k.B) * cross k j - (k.C * j.B - j.C * k.B) * cross k i = k.B * det3 k i j := by unfold det3 cross; grind
  have eY : (k.A * i.C - i.A * k.C) * cross k j - (k.A * j.C - j.A * k.C) * cross k i = -(k.A * det3 k i j) := by unfold det3 cross; grind
  have hX : (ptX k i * frD k j = ptX k j * frD k i) ↔ k.B * det3 k i j = 0 := by
    unfold ptX frD
    split <;> split <;> (try rw [Int.neg_mul]) <;> (try rw [Int.mul_neg]) <;> (try rw [Int.neg_mul]) <;> (try rw [Int.mul_neg]) <;> omega
  have hY : (ptY k i * frD k j = ptY k j * frD k i) ↔ k.A * det3 k i j = 0 := by
    unfold ptY frD
    split <;> split <;> (try rw [Int.neg_mul]) <;> (try rw [Int.mul_neg]) <;> (try rw [Int.neg_mul]) <;> (try rw [Int.mul_neg]) <;> omega
  rw [hX, hY, Int.mul_eq_zero, Int.mul_eq_zero]
  unfold nz at hz
  omega
def gcd3 (x y d : Int) : Nat := Nat.gcd (Int.gcd x y) d.natAbs
def lowSpot (x y d : Int) : Spot := ⟨x / (gcd3 x y d : Int), y / (gcd3 x y d : Int), d / (gcd3 x y d : Int)⟩
theorem gcd3_pos {x y d : Int} (hd : 0 < d) : 0 < gcd3 x y d := by
  unfold gcd3
  exact Nat.gcd_pos_of_pos_right _ (by omega)
theorem gcd3_dvd (x y d : Int) : (gcd3 x y d : Int) ∣ x ∧ (gcd3 x y d : Int) ∣ y ∧ (gcd3 x y d : Int) ∣ d := by
  unfold gcd3
  have h1 : ((Nat.gcd (Int.gcd x y) d.natAbs : Nat) : Int) ∣ (Int.gcd x y : Int) := Int.natCast_dvd_natCast.2 (Nat.gcd_dvd_left _ _)
  refine ⟨Int.dvd_trans h1 (Int.gcd_dvd_left ..), Int.dvd_trans h1 (Int.gcd_dvd_right ..), ?_⟩
  have h2 := Nat.gcd_dvd_right (Int.gcd x y) d.natAbs
  exact Int.dvd_natAbs.1 (Int.natCast_dvd_natCast.2 h2)
theorem low_mul (x y d : Int) : (lowSpot x y d).X * (gcd3 x y d : Int) = x ∧ (lowSpot x y d).Y * (gcd3 x y d : Int) = y ∧ (lowSpot x y d).D * (gcd3 x y d : Int) = d := by
  obtain ⟨h1, h2, h3⟩ := gcd3_dvd x y d
  exact ⟨Int.ediv_mul_cancel h1, Int.ediv_mul_cancel h2, Int.ediv_mul_cancel h3⟩
theorem low_gcd {x y d : Int} (hd : 0 < d) : gcd3 (lowSpot x y d).X (lowSpot x y d).Y (lowSpot x y d).D = 1 := by
  obtain ⟨h1, h2, h3⟩ := low_mul x y d
  have hp := gcd3_pos (x := x) (y := y) hd
  generalize hg : gcd3 x y d = g at *
  have hx : x.natAbs = (lowSpot x y d).X.natAbs * g := by rw [← Int.natAbs_natCast g, ← Int.natAbs_mul, h1]
  have hy : y.natAbs = (lowSpot x y d).Y.natAbs * g := by rw [← Int.natAbs_natCast g, ← Int.natAbs_mul, h2]
  have hdd : d.natAbs = (lowSpot x y d).D.natAbs * g := by rw [← Int.natAbs_natCast g, ← Int.natAbs_mul, h3]
  unfold gcd3 Int.gcd at hg ⊢
  rw [hx, hy, hdd, Nat.gcd_mul_right, Nat.gcd_mul_right] at hg
  exact Nat.eq_of_mul_eq_mul_right hp (by rw [hg, Nat.one_mul])
theorem gcd3_mul (a b c : Int) (k : Nat) : gcd3 (a * k) (b * k) (c * k) = gcd3 a b c * k := by
  unfold gcd3 Int.gcd
  rw [Int.natAbs_mul, Int.natAbs_mul, Int.natAbs_mul, Int.natAbs_natCast, Nat.gcd_mul_right, Nat.gcd_mul_right]
theorem low_pos {x y d : Int} (hd : 0 < d) : 0 < (lowSpot x y d).D := by
  obtain ⟨_, _, h3⟩ := low_mul x y d
  have hp := gcd3_pos (x := x) (y := y) hd
  rcases Int.lt_or_le 0 (lowSpot x y d).D with h | h
  · exact h
  · have := Int.mul_le_mul_of_nonneg_right h (show (0 : Int) ≤ (gcd3 x y d : Int) by omega)
    omega
theorem low_eq {x y d x' y' d' : Int} (hd : 0 < d) (hd' : 0 < d') : lowSpot x y d = lowSpot x' y' d' ↔ (x * d' = x' * d ∧ y * d' = y' * d) := by
  obtain ⟨h1, h2, h3⟩ := low_mul x y d
  obtain ⟨k1, k2, k3⟩ := low_mul x' y' d'
  have hg := low_gcd (x := x) (y := y) hd
  have kg := low_gcd (x := x') (y := y') hd'
  have hp := low_pos (x := x) (y := y) hd
  have kp := low_pos (x := x') (y := y') hd'
  have gp := gcd3_pos (x := x) (y := y) hd
  have gp' := gcd3_pos (x := x') (y := y') hd'
  generalize lowSpot x y d = s at *
  generalize lowSpot x' y' d' = t at *
  generalize gcd3 x y d = g at *
  generalize gcd3 x' y' d' = g' at *
  constructor
  · rintro rfl
    rw [← h1, ← h2, ← h3, ← k1, ← k2, ← k3]
    constructor <;> grind
  · rintro ⟨e1, e2⟩
    have f1 : s.X * t.D = t.X * s.D := by
      have e : (s.X * t.D) * ((g : Int) * g') = (t.X * s.D) * ((g : Int) * g') := by
        rw [show (s.X * t.D) * ((g : Int) * g') = (s.X * g) * (t.D * g') by grind, show (t.X * s.D) * ((g : Int) * g') = (t.X * g') * (s.D * g) by grind, h1, k3, k1, h3, e1]
      exact Int.eq_of_mul_eq_mul_right (by have : 0 < (g : Int) * g' := Int.mul_pos (by omega) (by omega); omega) e
    have f2 : s.Y * t.D = t.Y * s.D := by
      have e : (s.Y * t.D) * ((g : Int) * g') = (t.Y * s.D) * ((g : Int) * g') := by
        rw [show (s.Y * t.D) * ((g : Int) * g') = (s.Y * g) * (t.D * g') by grind, show (t.Y * s.D) * ((g : Int) * g') = (t.Y * g') * (s.D * g) by grind, h2, k3, k2, h3, e2]
      exact Int.eq_of_mul_eq_mul_right (by have : 0 < (g : Int) * g' := Int.mul_pos (by omega) (by omega); omega) e
    have q1 := gcd3_mul s.X s.Y s.D t.D.toNat
    have q2 := gcd3_mul t.X t.Y t.D s.D.toNat
    rw [show (t.D.toNat : Int) = t.D by omega, f1, f2, hg] at q1
    rw [show (s.D.toNat : Int) = s.D by omega, show t.D * s.D = s.D * t.D by grind, kg] at q2
    have hD : s.D = t.D := by rw [q1] at q2; omega
    rw [hD] at f1 f2
    have f3 := Int.eq_of_mul_eq_mul_right (by omega) f1
    have f4 := Int.eq_of_mul_eq_mul_right (by omega) f2
    cases s; cases t; simp_all
def lowPt (k i : Half) : Spot := lowSpot (ptX k i) (ptY k i) (frD k i)
theorem lowPt_eq {k i j : Half} (hz : nz k) (hi : cross k i ≠ 0) (hj : cross k j ≠ 0) : lowPt k i = lowPt k j ↔ det3 k i j = 0 := by
  unfold lowPt
  rw [low_eq (frD_pos hi) (frD_pos hj), same_point hz]
theorem edge_yes {S : List Half} (hS : Good S) {k f j : Half} (hk : k ∈ S) (hf : f ∈ S) (hj : j ∈ S) (hif : insideB S k f = true) (hij : insideB S k j = true) (hd : lowPt k f ≠ lowPt k j) : edgeSb S k = true := by
  obtain ⟨c1, s1⟩ := (inside_iff hS).1 hif
  obtain ⟨c2, s2⟩ := (inside_iff hS).1 hij
  rw [edgeSb_iff]
  exact ⟨f, hf, j, hj, c1, c2, s1, s2, fun e => hd ((lowPt_eq (hS.nz k hk) c1 c2).2 e)⟩
theorem mul_bd {a b A B : Int} (ha : -A ≤ a ∧ a ≤ A) (hb : -B ≤ b ∧ b ≤ B) : -(A * B) ≤ a * b ∧ a * b ≤ A * B := by
  have hA : 0 ≤ A := by omega
  have hB : 0 ≤ B := by omega
  have h1 : (a * b).natAbs ≤ (A * B).natAbs := by
    rw [Int.natAbs_mul, Int.natAbs_mul]
    exact Nat.mul_le_mul (by omega) (by omega)
  have h2 : 0 ≤ A * B := Int.mul_nonneg hA hB
  omega
structure SmallH (h : Half) : Prop where
  a : -50000 ≤ h.A ∧ h.A ≤ 50000
  b : -50000 ≤ h.B ∧ h.B ≤ 50000
  c : -100000000 ≤ h.C ∧ h.C ≤ 100000000
theorem small_ok {h : Half} (hk : halfOk h = true) : SmallH h := by
  obtain ⟨h1, h2, h3, h4, h5, h6, _⟩ := halfOk_bd hk
  exact ⟨⟨h1, h2⟩, ⟨h3, h4⟩, ⟨h5, h6⟩⟩
theorem pt_bd {k i : Half} (hk : SmallH k) (hi : SmallH i) : (-10000000000000 ≤ ptX k i ∧ ptX k i ≤ 10000000000000) ∧ (-10000000000000 ≤ ptY k i ∧ ptY k i ≤ 10000000000000) ∧ 0 ≤ frD k i ∧ frD k i ≤ 5000000000 := by
  have x1 := mul_bd hk.c hi.b
  have x2 := mul_bd hi.c hk.b
  have x3 := mul_bd hk.a hi.c
  have x4 := mul_bd hi.a hk.c
  have x5 := mul_bd hk.a hi.b
  have x6 := mul_bd hk.b hi.a
  unfold ptX ptY frD cross
  refine ⟨?_, ?_, ?_⟩
  · split <;> omega
  · split <;> omega
  · split <;> omega
theorem fr_bd {k i : Half} (hk : SmallH k) (hi : SmallH i) : -1000000000000000000 ≤ frN k i ∧ frN k i ≤ 1000000000000000000 := by
  have x1 := mul_bd hk.a hk.a
  have x2 := mul_bd hk.b hk.b
  have x3 := mul_bd hk.a hi.a
  have x4 := mul_bd hk.b hi.b
  have s0 : -5000000000 ≤ sqH k ∧ sqH k ≤ 5000000000 := by unfold sqH; omega
  have x5 := mul_bd hi.c s0
  have s1 : -5000000000 ≤ k.A * i.A + k.B * i.B ∧ k.A * i.A + k.B * i.B ≤ 5000000000 := by omega
  have x6 := mul_bd hk.c s1
  unfold frN
  split <;> omega
end Go.Proofs.YtfnmbpjkjajpcaaGreatDoor
namespace Go.Proofs.YtfnmbpjkjajpcaaGreatDoor
set_option linter.unusedVariables false
theorem frN_pt (h g : Half) : h.A * ptY h g - h.B * ptX h g = frN h g := by
  unfold ptY ptX frN sqH
  split <;> grind
def edgeV (S : List Half) (k : Nat) : Bool := !allN (roomAt S k) S.length
def edgeE (S : List Half) (k : Nat) : Bool := if edgeV S k = true then false else edgeFb S (S.getD k ⟨0, 0, 0⟩)
theorem edge_good {S : List Half} {k : Nat} (h : allN (roomAt S k) S.length = true) : edgeV S k = false ∧ edgeE S k = edgeFb S (S.getD k ⟨0, 0, 0⟩) := by
  have e : edgeV S k = false := by unfold edgeV; rw [h]; rfl
  exact ⟨e, by unfold edgeE; rw [e]; rfl⟩
theorem edge_bad {S : List Half} {k i : Nat} (hi : i < S.length) (h : roomAt S k i = false) : edgeV S k = true ∧ edgeE S k = false := by
  have e : edgeV S k = true := by unfold edgeV; rw [allN_not hi h]; rfl
  exact ⟨e, by unfold edgeE; rw [e]; rfl⟩
theorem getD_at {S : List Half} {k : Nat} (hk : k < S.length) : S.getD k ⟨0, 0, 0⟩ = S[k] := by simp [List.getD_eq_getElem?_getD, hk]
theorem roomAt_iff {S : List Half} {k i : Nat} (hk : k < S.length) (hi : i < S.length) : roomAt S k i = (decide (i = k) || decide (cross S[k] S[i] ≠ 0) || decide (0 < room S[i] S[k])) := by
  unfold roomAt; rw [getD_at hk, getD_at hi]
theorem Best.is_lo {S : List Half} {k : Half} {F : Mark} (hS : Good S) (hk : k ∈ S) (hF : Best true k S F) : F.is = true := by
  obtain ⟨lo, hlo, clo⟩ := hS.fr.lo (hS.nz k hk)
  rcases hF with ⟨_, h2⟩ | ⟨f1, _⟩
  · exact absurd (show onSide true k lo from clo) (h2 lo hlo)
  · exact f1
theorem Best.is_hi {S : List Half} {k : Half} {T : Mark} (hS : Good S) (hk : k ∈ S) (hT : Best false k S T) : T.is = true := by
  obtain ⟨hi, hhi, chi⟩ := hS.fr.hi (hS.nz k hk)
  rcases hT with ⟨_, h2⟩ | ⟨t1, _⟩
  · exact absurd (show onSide false k hi from by unfold onSide; simpa using chi) (h2 hi hhi)
  · exact t1
end Go.Proofs.YtfnmbpjkjajpcaaGreatDoor
namespace Go.Proofs.YtfnmbpjkjajpcaaGreatDoor
set_option linter.unusedVariables false
end Go.Proofs.YtfnmbpjkjajpcaaGreatDoor
