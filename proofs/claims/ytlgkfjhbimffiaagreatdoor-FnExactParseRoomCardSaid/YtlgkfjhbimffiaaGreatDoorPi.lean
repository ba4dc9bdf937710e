/- Numbers read from text: the plain law of ParseInt: which texts are numbers, and of which number. -/
import Derived.Test.YtlgkfjhbimffiaaGreatDoorTx
import Derived.Lib.AtoiAll
import Derived.Lib.AtoiAllCases
namespace Go.Proofs.YtlgkfjhbimffiaaGreatDoor
set_option linter.unusedVariables false

def pI (l : List UInt8) : Option Int := match Lib.atoiAll l with | .ok v => if numT v = l then some v else none | _ => none
def isDig (c : UInt8) : Bool := decide (48 ≤ c.toNat ∧ c.toNat ≤ 57)
def digN (a : Nat) (c : UInt8) : Nat := a * 10 + (c.toNat - 48)
def valN (l : List UInt8) : Nat := l.foldl digN 0
def magOf (l : List UInt8) : List UInt8 := if l.head? = some 45 then l.tail else l

theorem pI_some {l : List UInt8} {n : Int} (h : pI l = some n) : numT n = l ∧ -9223372036854775808 ≤ n ∧ n ≤ 9223372036854775807 := by
  unfold pI at h
  split at h
  · rename_i v hv
    split at h
    · rename_i he
      injection h with h
      subst h
      exact ⟨he, Lib.atoiAll_bounds hv⟩
    · cases h
  · cases h

theorem ofNat_toNat {u : Nat} (h : u < 10) : (UInt8.ofNat (48 + u)).toNat = 48 + u := by
  rw [UInt8.toNat_ofNat']
  omega

theorem dec_spec (u : Nat) : (Lib.decDigits u).all isDig = true ∧ Lib.decDigits u ≠ [] ∧ valN (Lib.decDigits u) = u := by
  induction u using Nat.strongRecOn with
  | _ u ih =>
    rw [Lib.decDigits]
    split
    · rename_i h
      refine ⟨?_, by simp, ?_⟩
      · simp [isDig]; omega
      · simp [valN, digN]; omega
    · rename_i h
      obtain ⟨h1, h2, h3⟩ := ih (u / 10) (by omega)
      have hm : u % 10 < 10 := by omega
      refine ⟨?_, by simp, ?_⟩
      · rw [List.all_append, h1]
        simp [isDig]; omega
      · unfold valN at h3 ⊢
        rw [List.foldl_append, h3]
        simp [digN]
        omega

theorem dec_len (k : Nat) : ∀ u : Nat, u < 10 ^ (k + 1) → (Lib.decDigits u).length ≤ k + 1 := by
  induction k with
  | zero =>
    intro u h
    rw [Lib.decDigits, dif_pos (by simpa using h)]
    simp
  | succ k ih =>
    intro u h
    rw [Lib.decDigits]
    split
    · simp
    · have := ih (u / 10) (by rw [Nat.pow_succ] at h; omega)
      simp; omega

theorem digN_mono (l : List UInt8) : ∀ a : Nat, a ≤ l.foldl digN a := by
  induction l with
  | nil => intro a; exact Nat.le_refl _
  | cons c r ih => intro a; exact Nat.le_trans (by unfold digN; omega) (ih (digN a c))

theorem parse_dig (l : List UInt8) : ∀ a : Nat, l.all isDig = true → l.foldl digN a ≤ 9223372036854775808 → Lib.parseUint10 a l = .ok (l.foldl digN a) := by
  induction l with
  | nil => intro a _ _; rfl
  | cons c r ih =>
    intro a h hb
    rw [List.all_cons, Bool.and_eq_true] at h
    have hc : 48 ≤ c.toNat ∧ c.toNat ≤ 57 := by simpa [isDig] using h.1
    have hm := digN_mono r (digN a c)
    have hb' : r.foldl digN (digN a c) ≤ 9223372036854775808 := hb
    have hd : digN a c = a * 10 + (c.toNat - 48) := rfl
    rw [Lib.parseUint10, if_pos hc, if_neg (by omega), if_neg (by omega)]
    exact ih _ h.2 hb'

theorem dec_not45 (u : Nat) : (Lib.decDigits u).head? ≠ some 45 := by
  obtain ⟨h1, _, _⟩ := dec_spec u
  intro h
  cases hl : Lib.decDigits u with
  | nil => rw [hl] at h; cases h
  | cons c r =>
    rw [hl] at h h1
    rw [List.head?_cons] at h
    injection h with h
    subst h
    simp [isDig] at h1

theorem pI_num (n : Int) (h0 : -9223372036854775808 ≤ n) (h1 : n ≤ 9223372036854775807) : pI (numT n) = some n := by
  have key : Lib.atoiAll (numT n) = .ok n := by
    by_cases hn : n < 0
    · obtain ⟨u, rfl⟩ : ∃ u : Nat, n = -(u : Int) := ⟨n.natAbs, by omega⟩
      rw [numT_neg (by omega), Lib.atoiAll_minus]
      obtain ⟨d1, d2, d3⟩ := dec_spec u
      unfold Lib.parseMag
      rw [if_neg d2, parse_dig _ _ d1 (by unfold valN at d3; omega)]
      unfold valN at d3
      rw [d3]
      unfold Lib.signed
      simp only
      rw [if_neg (by omega)]
    · obtain ⟨u, rfl⟩ : ∃ u : Nat, n = (u : Int) := ⟨n.toNat, by omega⟩
      rw [numT_pos]
      obtain ⟨d1, d2, d3⟩ := dec_spec u
      cases hl : Lib.decDigits u with
      | nil => exact absurd hl d2
      | cons c r =>
        rw [hl] at d1 d3
        have hc : 48 ≤ c.toNat ∧ c.toNat ≤ 57 := by rw [List.all_cons, Bool.and_eq_true] at d1; simpa [isDig] using d1.1
        rw [Lib.atoiAll_plain c r (by omega) (by omega)]
        unfold Lib.parseMag
        unfold valN at d3
        rw [if_neg (by simp), parse_dig _ _ d1 (by omega), d3]
        unfold Lib.signless
        simp only
        rw [if_neg (by omega)]
  unfold pI
  rw [key]
  simp

/-- WHAT A NUMBER's TEXT LOOKS LIKE. -/
theorem pI_shape {l : List UInt8} {n : Int} (h : pI l = some n) : (magOf l).all isDig = true ∧ magOf l ≠ [] ∧ (magOf l).length ≤ 19 ∧ valN (magOf l) ≤ 9223372036854775808 ∧ n = (if l.head? = some 45 then -(valN (magOf l) : Int) else (valN (magOf l) : Int)) := by
  obtain ⟨h1, h2, h3⟩ := pI_some h
  subst h1
  by_cases hn : n < 0
  · obtain ⟨u, rfl⟩ : ∃ u : Nat, n = -(u : Int) := ⟨n.natAbs, by omega⟩
    obtain ⟨d1, d2, d3⟩ := dec_spec u
    have hm : magOf (numT (-(u : Int))) = Lib.decDigits u := by rw [numT_neg (by omega)]; simp [magOf]
    rw [hm, d3]
    refine ⟨d1, d2, dec_len 18 u (by omega), by omega, ?_⟩
    rw [numT_neg (by omega), List.head?_cons, if_pos rfl]
  · obtain ⟨u, rfl⟩ : ∃ u : Nat, n = (u : Int) := ⟨n.toNat, by omega⟩
    obtain ⟨d1, d2, d3⟩ := dec_spec u
    have h45 := dec_not45 u
    have hm : magOf (numT (u : Int)) = Lib.decDigits u := by rw [numT_pos]; unfold magOf; rw [if_neg h45]
    rw [hm, d3]
    refine ⟨d1, d2, dec_len 18 u (by omega), by omega, ?_⟩
    rw [numT_pos, if_neg h45]
end Go.Proofs.YtlgkfjhbimffiaaGreatDoor
