/- Plain models of what the Go functions compute; nothing of a program is in sight. -/
namespace Go.Proofs.YtlgkfjhbimffiaaDoor

def inR (n lo hi : Int) : Bool := decide (lo ≤ n) && decide (n ≤ hi)

structure Ratio where
  N : Int
  D : Int
  deriving DecidableEq
def Ratio.ints (a : Ratio) : List Int := [a.N, a.D]

structure Spot where
  X : Int
  Y : Int
  D : Int
  deriving DecidableEq
def Spot.ints (a : Spot) : List Int := [a.X, a.Y, a.D]

structure Half where
  A : Int
  B : Int
  C : Int
  deriving DecidableEq
def Half.ints (a : Half) : List Int := [a.A, a.B, a.C]

structure Piece where
  A : Int
  B : Int
  C : Int
  D : Int
  deriving DecidableEq
def Piece.ints (a : Piece) : List Int := [a.A, a.B, a.C, a.D]

structure Mode where
  Low : Int
  High : Int
  deriving DecidableEq
def Mode.ints (a : Mode) : List Int := [a.Low, a.High]

structure Record where
  Before : Int
  Input : Int
  After : Int
  deriving DecidableEq
def Record.ints (a : Record) : List Int := [a.Before, a.Input, a.After]

structure Rule where
  Low : Int
  High : Int
  Step : Int
  Window : Int
  Drift : Int
  deriving DecidableEq
def Rule.ints (a : Rule) : List Int := [a.Low, a.High, a.Step, a.Window, a.Drift]

structure Ask where
  Low : Int
  High : Int
  Wish : Int
  Rank : Int
  deriving DecidableEq
def Ask.ints (a : Ask) : List Int := [a.Low, a.High, a.Wish, a.Rank]

def ruleOk (u : Rule) : Bool := inR u.Low (-1000) 1000 && inR u.High u.Low 1000 && inR u.Step 0 2000 && inR u.Window 1 60 && inR u.Drift 0 120000
def stricter (u v : Rule) : Bool := ruleOk u && ruleOk v && decide (u.Window = v.Window) && decide (v.Low ≤ u.Low) && decide (u.High ≤ v.High) && decide (u.Step ≤ v.Step) && decide (u.Drift ≤ v.Drift)
def allMeasure (xs : List Int) : Bool := xs.all (fun n => inR n (-1000) 1000)
def seriesOk (xs : List Int) : Bool := allMeasure xs && decide (xs.length ≤ 60)
def allPrice (xs : List Int) : Bool := xs.all (fun n => inR n 0 1000)
def tariffOk (xs : List Int) : Bool := allPrice xs && inR xs.length 1 24
def askOk (a : Ask) : Bool := inR a.Low (-1000) 1000 && inR a.Wish a.Low 1000 && inR a.High a.Wish 1000 && inR a.Rank 0 100
def asksOk (l : List Ask) : Bool := l.all askOk && decide (l.length ≤ 6)


/-- structs of q ints each, laid one behind the other -/
def flat {α : Type} (f : α → List Int) (l : List α) : List Int := l.flatMap f
theorem flat_length {α : Type} {f : α → List Int} {q : Nat} (hf : ∀ a, (f a).length = q) (l : List α) : (flat f l).length = l.length * q := by
  induction l with
  | nil => simp [flat]
  | cons a l ih =>
    have h : flat f (a :: l) = f a ++ flat f l := rfl
    rw [h, List.length_append, hf, ih, List.length_cons, Nat.add_mul]
    omega
theorem flat_get {α : Type} {f : α → List Int} {q : Nat} (hf : ∀ a, (f a).length = q) : ∀ (l : List α) (k i : Nat) (hk : k < l.length), i < q → (flat f l)[k * q + i]? = (f l[k])[i]? := by
  intro l
  induction l with
  | nil => intro k i hk; simp at hk
  | cons a l ih =>
    intro k i hk hi
    have h : flat f (a :: l) = f a ++ flat f l := rfl
    cases k with
    | zero =>
      rw [h, Nat.zero_mul, Nat.zero_add, List.getElem?_append_left (by rw [hf]; exact hi)]
      rfl
    | succ k =>
      rw [h, List.getElem?_append_right (by rw [hf, Nat.add_mul]; omega), hf]
      have e : (k + 1) * q + i - q = k * q + i := by rw [Nat.add_mul]; omega
      rw [e]
      exact ih k i (by simpa using hk) hi
theorem unflat {α : Type} {f : α → List Int} {q : Nat} (hf : ∀ zs : List Int, zs.length = q → ∃ a, f a = zs) : ∀ (n : Nat) (zs : List Int), zs.length = n * q → ∃ l : List α, l.length = n ∧ flat f l = zs := by
  intro n
  induction n with
  | zero => intro zs h; exact ⟨[], rfl, (List.eq_nil_of_length_eq_zero (by simpa using h)).symm⟩
  | succ n ih =>
    intro zs h
    rw [Nat.add_mul] at h
    obtain ⟨a, ha⟩ := hf (zs.take q) (by rw [List.length_take]; omega)
    obtain ⟨l, hl, hz⟩ := ih (zs.drop q) (by rw [List.length_drop]; omega)
    refine ⟨a :: l, by simp [hl], ?_⟩
    have h : flat f (a :: l) = f a ++ flat f l := rfl
    rw [h, ha, hz, List.take_append_drop]

theorem take_eq_succ {α : Type} {xs ys : List α} {k : Nat} (hx : k < xs.length) (hy : k < ys.length) (h : xs.take k = ys.take k) (e : xs[k] = ys[k]) : xs.take (k + 1) = ys.take (k + 1) := by
  rw [List.take_succ_eq_append_getElem hx, List.take_succ_eq_append_getElem hy, h, e]
theorem ne_of_get {α : Type} {xs ys : List α} {k : Nat} (hx : k < xs.length) (hy : k < ys.length) (e : ¬ xs[k] = ys[k]) : xs ≠ ys := by
  rintro rfl
  exact e rfl

theorem all_take_succ {α : Type} (p : α → Bool) (l : List α) (k : Nat) (h : k < l.length) : (l.take (k + 1)).all p = ((l.take k).all p && p l[k]) := by
  rw [List.take_succ_eq_append_getElem h, List.all_append]; simp
theorem all_of_take {α : Type} (p : α → Bool) (l : List α) (k : Nat) (h : l.length ≤ k) : (l.take k).all p = l.all p := by
  rw [List.take_of_length_le h]
theorem all_false_at {α : Type} (p : α → Bool) (l : List α) (k : Nat) (h : k < l.length) (hp : p l[k] = false) : l.all p = false := by
  rw [List.all_eq_false]
  exact ⟨l[k], List.getElem_mem h, by simp [hp]⟩

def breachName (n : Int) : ByteArray := if n = 0 then ⟨#[110, 111, 110, 101]⟩ else if n = 1 then ⟨#[114, 97, 110, 103, 101]⟩ else if n = 2 then ⟨#[115, 116, 101, 112]⟩ else if n = 3 then ⟨#[109, 101, 97, 110]⟩ else ⟨#[]⟩

/-- the sum of f at 0 .. k-1 -/
def sumN (f : Nat → Int) : Nat → Int
  | 0 => 0
  | k + 1 => sumN f k + f k
theorem sumN_bd {f : Nat → Int} {lo hi : Int} : ∀ (k : Nat), (∀ i, i < k → lo ≤ f i ∧ f i ≤ hi) → (k : Int) * lo ≤ sumN f k ∧ sumN f k ≤ (k : Int) * hi := by
  intro k
  induction k with
  | zero => intro _; simp [sumN]
  | succ k ih =>
    intro h
    have h1 := ih fun i hi => h i (by omega)
    have h2 := h k (by omega)
    have e1 : ((k + 1 : Nat) : Int) * lo = (k : Int) * lo + lo := by rw [Int.natCast_add, Int.add_mul]; simp
    have e2 : ((k + 1 : Nat) : Int) * hi = (k : Int) * hi + hi := by rw [Int.natCast_add, Int.add_mul]; simp
    rw [e1, e2]
    simp only [sumN]
    omega
def allN (p : Nat → Bool) : Nat → Bool
  | 0 => true
  | k + 1 => allN p k && p k
theorem allN_at {p : Nat → Bool} : ∀ {n k : Nat}, allN p n = true → k < n → p k = true := by
  intro n
  induction n with
  | zero => intro k _ h; omega
  | succ n ih =>
    intro k h hk
    simp only [allN, Bool.and_eq_true] at h
    by_cases e : k = n
    · subst e; exact h.2
    · exact ih h.1 (by omega)
theorem allN_not {p : Nat → Bool} {n k : Nat} (hk : k < n) (h : p k = false) : allN p n = false := by
  cases e : allN p n with
  | false => rfl
  | true => rw [allN_at e hk] at h; cases h
/-- what is left of a budget -/
def szI (n : Nat) (left : Int) : Int := if (n : Int) ≤ left then left - n else -1
theorem szI_pos {n : Nat} {left : Int} (h : (n : Int) ≤ left) : szI n left = left - n := if_pos h
theorem szI_neg {n : Nat} {left : Int} (h : ¬ (n : Int) ≤ left) : szI n left = -1 := if_neg h

/-- k, k+1, .. -/
def upTo (k : Int) (n : Nat) : List Int := (List.range n).map fun (i : Nat) => k + (i : Int)
theorem upTo_length (k : Int) (n : Nat) : (upTo k n).length = n := by simp [upTo]
theorem upTo_get {k : Int} {n i : Nat} (h : i < n) : (upTo k n)[i]? = some (k + (i : Int)) := by simp [upTo, h]
theorem upTo_at {k : Int} {n i : Nat} (h : i < (upTo k n).length) : (upTo k n)[i] = k + (i : Int) := by simp [upTo]
def keepN (p : Nat → Bool) : Nat → List Int
  | 0 => []
  | k + 1 => if p k = true then keepN p k ++ [(k : Int)] else keepN p k
theorem keepN_length (p : Nat → Bool) (k : Nat) : (keepN p k).length ≤ k := by
  induction k with
  | zero => simp [keepN]
  | succ k ih =>
    unfold keepN
    split
    · rw [List.length_append, List.length_singleton]; omega
    · omega

def askLow (xs : List Ask) (i : Nat) : Int := (xs[i]?.map Ask.Low).getD 0
def askHigh (xs : List Ask) (i : Nat) : Int := (xs[i]?.map Ask.High).getD 0
def askWish (xs : List Ask) (i : Nat) : Int := (xs[i]?.map Ask.Wish).getD 0
def askRank (xs : List Ask) (i : Nat) : Int := (xs[i]?.map Ask.Rank).getD 0
theorem askLow_at {xs : List Ask} {i : Nat} (h : i < xs.length) : askLow xs i = xs[i].Low := by simp [askLow, h]
theorem askHigh_at {xs : List Ask} {i : Nat} (h : i < xs.length) : askHigh xs i = xs[i].High := by simp [askHigh, h]
theorem askWish_at {xs : List Ask} {i : Nat} (h : i < xs.length) : askWish xs i = xs[i].Wish := by simp [askWish, h]
theorem askRank_at {xs : List Ask} {i : Nat} (h : i < xs.length) : askRank xs i = xs[i].Rank := by simp [askRank, h]
def num (xs : List Int) (i : Nat) : Int := xs.getD i 0
theorem num_at {xs : List Int} {i : Nat} (h : i < xs.length) : num xs i = xs[i] := by simp [num, h]
theorem asksOk_len {xs : List Ask} (h : asksOk xs = true) : xs.length ≤ 6 := by
  simp only [asksOk, Bool.and_eq_true, decide_eq_true_eq] at h; exact h.2
theorem asksOk_at {xs : List Ask} (h : asksOk xs = true) {i : Nat} (hi : i < xs.length) :
    -1000 ≤ xs[i].Low ∧ xs[i].Low ≤ xs[i].Wish ∧ xs[i].Wish ≤ xs[i].High ∧ xs[i].High ≤ 1000 ∧ 0 ≤ xs[i].Rank ∧ xs[i].Rank ≤ 100 := by
  simp only [asksOk, Bool.and_eq_true, List.all_eq_true] at h
  have := h.1 _ (List.getElem_mem hi)
  simp [askOk, inR] at this
  omega
def leastCap (xs : List Ask) : Int := if asksOk xs = true then sumN (askLow xs) xs.length else 0
def fullCap (xs : List Ask) : Int := if asksOk xs = true then sumN (askWish xs) xs.length else 0
theorem sumLow_bd {xs : List Ask} (h : asksOk xs = true) {k : Nat} (hk : k ≤ xs.length) : -6000 ≤ sumN (askLow xs) k ∧ sumN (askLow xs) k ≤ 6000 := by
  have hl := asksOk_len h
  have := sumN_bd (f := askLow xs) (lo := -1000) (hi := 1000) k fun i hi => by
    have := asksOk_at h (i := i) (by omega)
    rw [askLow_at (by omega)]
    omega
  omega
theorem sumWish_bd {xs : List Ask} (h : asksOk xs = true) {k : Nat} (hk : k ≤ xs.length) : -6000 ≤ sumN (askWish xs) k ∧ sumN (askWish xs) k ≤ 6000 := by
  have hl := asksOk_len h
  have := sumN_bd (f := askWish xs) (lo := -1000) (hi := 1000) k fun i hi => by
    have := asksOk_at h (i := i) (by omega)
    rw [askWish_at (by omega)]
    omega
  omega
def fitAt (xs : List Ask) (ins : List Int) (i : Nat) : Bool := inR (num ins i) (askLow xs i) (askHigh xs i)
def isAllot (xs : List Ask) (total : Int) (ins : List Int) : Bool := asksOk xs && decide (ins.length = xs.length) && allN (fitAt xs ins) ins.length && decide (sumN (num ins) ins.length ≤ total)
theorem sumIns_bd {xs : List Ask} {ins : List Int} (h : asksOk xs = true) (hl : ins.length = xs.length) {n : Nat} (hf : allN (fitAt xs ins) n = true) (hn : n ≤ ins.length) {k : Nat} (hk : k ≤ n) :
    -6000 ≤ sumN (num ins) k ∧ sumN (num ins) k ≤ 6000 := by
  have h6 := asksOk_len h
  have := sumN_bd (f := num ins) (lo := -1000) (hi := 1000) k fun i hi => by
    have h1 := asksOk_at h (i := i) (by omega)
    have h2 := allN_at hf (k := i) (by omega)
    simp only [fitAt, inR, Bool.and_eq_true, decide_eq_true_eq] at h2
    rw [askLow_at (by omega), askHigh_at (by omega)] at h2
    omega
  omega
def unusedOf (xs : List Ask) (total : Int) (ins : List Int) : Int := if total > 1000000 ∨ isAllot xs total ins = false then -1 else total - sumN (num ins) ins.length
def shortOf (xs : List Ask) (ins : List Int) : List Int := if asksOk xs = true ∧ ins.length = xs.length then keepN (fun i => decide (num ins i < askWish xs i)) ins.length else []

def priceAt (xs : List Int) (p : Int) : Int := if 0 ≤ p ∧ tariffOk xs = true then num xs (p % (xs.length : Int)).toNat else 0
theorem tariffOk_len {xs : List Int} (h : tariffOk xs = true) : 1 ≤ xs.length ∧ xs.length ≤ 24 := by
  simp only [tariffOk, inR, Bool.and_eq_true, decide_eq_true_eq] at h
  omega
theorem tariffOk_at {xs : List Int} (h : tariffOk xs = true) {i : Nat} (hi : i < xs.length) : 0 ≤ xs[i] ∧ xs[i] ≤ 1000 := by
  simp only [tariffOk, allPrice, Bool.and_eq_true, List.all_eq_true] at h
  have := h.1 _ (List.getElem_mem hi)
  simpa [inR] using this
theorem price_bd {xs : List Int} (p : Int) : 0 ≤ priceAt xs p ∧ priceAt xs p ≤ 1000 := by
  unfold priceAt
  split
  · rename_i h
    have hl := tariffOk_len h.2
    have hm : (p % (xs.length : Int)).toNat < xs.length := by
      have h1 := Int.emod_lt_of_pos p (b := (xs.length : Int)) (by omega)
      have h2 := Int.emod_nonneg p (b := (xs.length : Int)) (by omega)
      omega
    rw [num_at hm]
    exact tariffOk_at h.2 hm
  · omega
def absI (n : Int) : Int := if n < -n then -n else n
theorem absI_bd {n : Int} (h : inR n (-1000) 1000 = true) : 0 ≤ absI n ∧ absI n ≤ 1000 := by
  simp only [inR, Bool.and_eq_true, decide_eq_true_eq] at h
  unfold absI
  split <;> omega
def costAt (f : List Int) (ins : List Int) (i : Nat) : Int := priceAt f i * absI (num ins i)
theorem costAt_bd {f ins : List Int} {i : Nat} (h : inR (num ins i) (-1000) 1000 = true) : 0 ≤ costAt f ins i ∧ costAt f ins i ≤ 1000000 := by
  have h1 := price_bd (xs := f) (i : Int)
  have h2 := absI_bd h
  unfold costAt
  refine ⟨Int.mul_nonneg h1.1 h2.1, ?_⟩
  have h3 := Int.mul_le_mul h1.2 h2.2 h2.1 (by omega)
  simpa using h3
def measAt (ins : List Int) (i : Nat) : Bool := inR (num ins i) (-1000) 1000
def costOf (f : List Int) (ins : List Int) : Int := if tariffOk f = true ∧ ins.length ≤ 1000 ∧ allN (measAt ins) ins.length = true then sumN (costAt f ins) ins.length else -1
theorem cost_bd {f ins : List Int} {n : Nat} (h : allN (measAt ins) n = true) {k : Nat} (hk : k ≤ n) (hn : n ≤ 1000) : 0 ≤ sumN (costAt f ins) k ∧ sumN (costAt f ins) k ≤ 1000000000 := by
  have := sumN_bd (f := costAt f ins) (lo := 0) (hi := 1000000) k fun i hi => costAt_bd (allN_at h (by omega))
  omega
end Go.Proofs.YtlgkfjhbimffiaaDoor
