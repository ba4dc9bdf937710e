/- Plain Lean models of what the Go functions compute; nothing of a program is in sight. -/
namespace Go.Proofs.Ytohlmkmejiimkaa

def inR (n lo hi : Int) : Bool := decide (lo ≤ n) && decide (n ≤ hi)

structure Rule where
  Low : Int
  High : Int
  Step : Int
  Window : Int
  Drift : Int
deriving DecidableEq

structure Ask where
  Low : Int
  High : Int
  Wish : Int
  Rank : Int
deriving DecidableEq

def ruleOk (u : Rule) : Bool := inR u.Low (-1000) 1000 && inR u.High u.Low 1000 && inR u.Step 0 2000 && inR u.Window 1 60 && inR u.Drift 0 120000
def stricter (u v : Rule) : Bool := ruleOk u && ruleOk v && decide (u.Window = v.Window) && decide (v.Low ≤ u.Low) && decide (u.High ≤ v.High) && decide (u.Step ≤ v.Step) && decide (u.Drift ≤ v.Drift)
def allMeasure (xs : List Int) : Bool := xs.all (fun n => inR n (-1000) 1000)
def seriesOk (xs : List Int) : Bool := allMeasure xs && decide (xs.length ≤ 60)
def allPrice (xs : List Int) : Bool := xs.all (fun n => inR n 0 1000)
def tariffOk (xs : List Int) : Bool := allPrice xs && inR xs.length 1 24
def askOk (a : Ask) : Bool := inR a.Low (-1000) 1000 && inR a.Wish a.Low 1000 && inR a.High a.Wish 1000 && inR a.Rank 0 100
def asksOk (l : List Ask) : Bool := l.all askOk && decide (l.length ≤ 6)

theorem all_take_succ {α : Type} (p : α → Bool) (l : List α) (k : Nat) (h : k < l.length) : (l.take (k + 1)).all p = ((l.take k).all p && p l[k]) := by
  rw [List.take_succ_eq_append_getElem h, List.all_append]; simp
theorem all_of_take {α : Type} (p : α → Bool) (l : List α) (k : Nat) (h : l.length ≤ k) : (l.take k).all p = l.all p := by
  rw [List.take_of_length_le h]
theorem all_false_at {α : Type} (p : α → Bool) (l : List α) (k : Nat) (h : k < l.length) (hp : p l[k] = false) : l.all p = false := by
  rw [List.all_eq_false]
  exact ⟨l[k], List.getElem_mem h, by simp [hp]⟩

def breachName (n : Int) : List UInt8 := if n = 0 then [110, 111, 110, 101] else if n = 1 then [114, 97, 110, 103, 101] else if n = 2 then [115, 116, 101, 112] else if n = 3 then [109, 101, 97, 110] else []
end Go.Proofs.Ytohlmkmejiimkaa
