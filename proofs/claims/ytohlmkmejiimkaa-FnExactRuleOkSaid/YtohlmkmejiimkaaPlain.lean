/- Plain models of what the Go functions compute; nothing of a program is in sight. -/
namespace Go.Proofs.Ytohlmkmejiimkaa

def inR (n lo hi : Int) : Bool := decide (lo ≤ n) && decide (n ≤ hi)

structure Rule where
  Low : Int
  High : Int
  Step : Int
  Window : Int
  Drift : Int
  deriving DecidableEq

structure Ask where
  Low : Int
  High : Int
  Wish : Int
  Rank : Int
  deriving DecidableEq

def ruleOk (u : Rule) : Bool := inR u.Low (-1000) 1000 && inR u.High u.Low 1000 && inR u.Step 0 2000 && inR u.Window 1 60 && inR u.Drift 0 120000
def stricter (u v : Rule) : Bool := ruleOk u && ruleOk v && decide (u.Window = v.Window) && decide (v.Low ≤ u.Low) && decide (u.High ≤ v.High) && decide (u.Step ≤ v.Step) && decide (u.Drift ≤ v.Drift)
def allMeasure (xs : List Int) : Bool := xs.all (fun n => inR n (-1000) 1000)
def seriesOk (xs : List Int) : Bool := allMeasure xs && decide (xs.length ≤ 60)
def allPrice (xs : List Int) : Bool := xs.all (fun n => inR n 0 1000)
def tariffOk (xs : List Int) : Bool := allPrice xs && inR xs.length 1 24
def askOk (a : Ask) : Bool := inR a.Low (-1000) 1000 && inR a.Wish a.Low 1000 && inR a.High a.Wish 1000 && inR a.Rank 0 100
def asksOk (l : List Ask) : Bool := l.all askOk && decide (l.length ≤ 6)

def Ask.ints (a : Ask) : List Int := [a.Low, a.High, a.Wish, a.Rank]
def Rule.ints (a : Rule) : List Int := [a.Low, a.High, a.Step, a.Window, a.Drift]

/-- structs of q ints each, laid one behind the other -/
def flat {α : Type} (f : α → List Int) (l : List α) : List Int := l.flatMap f
theorem flat_length {α : Type} {f : α → List Int} {q : Nat} (hf : ∀ a, (f a).length = q) (l : List α) : (flat f l).length = l.length * q := by
  induction l with
  | nil => simp [flat]
  | cons a l ih =>
    have h : flat f (a :: l) = f a ++ flat f l := rfl
    rw [h, List.length_append, hf, ih, List.length_cons, Nat.add_mul]
    omega
theorem flat_get {α : Type} {f : α → List Int} {q : Nat} (hf : ∀ a, (f a).length = q) : ∀ (l : List α) (k i : Nat) (hk : k < l.length), i < q → (flat f l)[k * q + i]? = (f l[k])[i]? := by
  intro l
  induction l with
  | nil => intro k i hk; simp at hk
  | cons a l ih =>
    intro k i hk hi
    have h : flat f (a :: l) = f a ++ flat f l := rfl
    cases k with
    | zero =>
      rw [h, Nat.zero_mul, Nat.zero_add, List.getElem?_append_left (by rw [hf]; exact hi)]
      rfl
    | succ k =>
      rw [h, List.getElem?_append_right (by rw [hf, Nat.add_mul]; omega), hf]
      have e : (k + 1) * q + i - q = k * q + i := by rw [Nat.add_mul]; omega
      rw [e]
      exact ih k i (by simpa using hk) hi
theorem unflat {α : Type} {f : α → List Int} {q : Nat} (hf : ∀ zs : List Int, zs.length = q → ∃ a, f a = zs) : ∀ (n : Nat) (zs : List Int), zs.length = n * q → ∃ l : List α, l.length = n ∧ flat f l = zs := by
  intro n
  induction n with
  | zero => intro zs h; exact ⟨[], rfl, (List.eq_nil_of_length_eq_zero (by simpa using h)).symm⟩
  | succ n ih =>
    intro zs h
    rw [Nat.add_mul] at h
    obtain ⟨a, ha⟩ := hf (zs.take q) (by rw [List.length_take]; omega)
    obtain ⟨l, hl, hz⟩ := ih (zs.drop q) (by rw [List.length_drop]; omega)
    refine ⟨a :: l, by simp [hl], ?_⟩
    have h : flat f (a :: l) = f a ++ flat f l := rfl
    rw [h, ha, hz, List.take_append_drop]

theorem take_eq_succ {α : Type} {xs ys : List α} {k : Nat} (hx : k < xs.length) (hy : k < ys.length) (h : xs.take k = ys.take k) (e : xs[k] = ys[k]) : xs.take (k + 1) = ys.take (k + 1) := by
  rw [List.take_succ_eq_append_getElem hx, List.take_succ_eq_append_getElem hy, h, e]
theorem ne_of_get {α : Type} {xs ys : List α} {k : Nat} (hx : k < xs.length) (hy : k < ys.length) (e : ¬ xs[k] = ys[k]) : xs ≠ ys := by
  rintro rfl
  exact e rfl

theorem all_take_succ {α : Type} (p : α → Bool) (l : List α) (k : Nat) (h : k < l.length) : (l.take (k + 1)).all p = ((l.take k).all p && p l[k]) := by
  rw [List.take_succ_eq_append_getElem h, List.all_append]; simp
theorem all_of_take {α : Type} (p : α → Bool) (l : List α) (k : Nat) (h : l.length ≤ k) : (l.take k).all p = l.all p := by
  rw [List.take_of_length_le h]
theorem all_false_at {α : Type} (p : α → Bool) (l : List α) (k : Nat) (h : k < l.length) (hp : p l[k] = false) : l.all p = false := by
  rw [List.all_eq_false]
  exact ⟨l[k], List.getElem_mem h, by simp [hp]⟩

def breachName (n : Int) : ByteArray := if n = 0 then ⟨#[110, 111, 110, 101]⟩ else if n = 1 then ⟨#[114, 97, 110, 103, 101]⟩ else if n = 2 then ⟨#[115, 116, 101, 112]⟩ else if n = 3 then ⟨#[109, 101, 97, 110]⟩ else ⟨#[]⟩
end Go.Proofs.Ytohlmkmejiimkaa
