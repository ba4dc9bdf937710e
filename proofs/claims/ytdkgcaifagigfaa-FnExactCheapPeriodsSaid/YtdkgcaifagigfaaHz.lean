/- Words for memory that all walks of this family use: a world that extends another, and a slice that reads as a list. -/
import Derived.Test.YtdkgcaifagigfaaRows
import Derived.WalkKit
import Derived.ProofKit
import Derived.OpenShut
import Derived.Below
import Derived.WalkSpells
import Derived.WalkLawsBesides
import Derived.Lib.Hide
import Derived.LoopTactic
import Derived.RegionTactic
import Derived.Deep.QuietTactic
import Derived.BigQuiet
import Derived.Outline
import Derived.Deep.Draws
import Derived.Laws.OwnMore
import Derived.Test.YtdkgcaifagigfaaPz
import Derived.StillTailTactics
import Derived.ChangeOld
import Derived.ShutString
namespace Go.Proofs.Ytdkgcaifagigfaa
open Go.ChangeShapes Go.WideShapes Go.ChangeAt Go.RowKit

/-- the world w' extends w: what was there in w is there unchanged -/
def Ext (w w' : World) : Prop := Below w.heap.size w w'

section
variable {a b c : World}
theorem Ext.refl (w : World) : Ext w w := Below.refl _ w
theorem Ext.size (h : Ext a b) : a.heap.size ≤ b.heap.size := Below.size h
theorem Ext.trans (h : Ext a b) (k : Ext b c) : Ext a c := Below.trans h (Below.mono k (Below.size h))
theorem Ext.alloc (h : Ext a b) (o : Obj) : Ext a (b.alloc o) := Below.alloc h (Below.size h) o
theorem Ext.drew (h : Ext a b) : Ext a b.drew := Below.drew h
theorem Ext.drewN (h : Ext a b) (n : Nat) : Ext a (b.drewN n) := ⟨h.os, h.tape, h.output, h.size, h.block⟩
theorem Ext.setCell (h : Ext a b) {p : Addr} (hp : a.heap.size ≤ p.block) (u : Value) : Ext a (b.setCell p u) := Below.setCell h hp u
theorem Ext.grown {row : Option Nat} (h : Ext a b) (hg : b.grownBy c row) (hr : ∀ k, row = some k → a.heap.size ≤ k) : Ext a c := Below.grown h hg (Below.size h) hr
theorem Ext.use (h : Ext a b) : (∀ x o, x < a.heap.size → b.cell? ⟨x, o, none⟩ = a.cell? ⟨x, o, none⟩) ∧ (∀ x o, x < a.heap.size → b.frozen? ⟨x, o, none⟩ = a.frozen? ⟨x, o, none⟩) ∧ a.heap.size ≤ b.heap.size :=
  ⟨fun x o hx => Below.cell (p := ⟨x, o, none⟩) h hx, fun x o hx => Below.frozen (p := ⟨x, o, none⟩) h hx, Below.size h⟩
theorem Ext.below (h : Ext a b) : Below a.heap.size a b := h
theorem Ext.cellOf (h : Ext a b) {p : Addr} {v : Value} (hc : a.cell? p = some v) : b.cell? p = some v := (Below.cell h (World.block_lt_of_cell? a p hc)).trans hc
end

/-- the cells cs lie from the address on -/
def Row (w : World) (A : Option Addr) (cs : List Value) : Prop :=
  cs = [] ∨ ∃ b off, A = some ⟨b, off, none⟩ ∧ ∀ j v, cs[j]? = some v → w.cell? ⟨b, off + j, none⟩ = some v

theorem Row.ext {w w' : World} {A : Option Addr} {cs : List Value} (h : Row w A cs) (e : Ext w w') : Row w' A cs := by
  rcases h with h | ⟨b, off, hA, hc⟩
  · exact .inl h
  · exact .inr ⟨b, off, hA, fun j v hj => e.cellOf (hc j v hj)⟩
theorem Row.at_ {w : World} {A : Option Addr} {cs : List Value} (h : Row w A cs) (hne : cs ≠ []) :
    ∃ b off, A = some ⟨b, off, none⟩ ∧ b < w.heap.size ∧ ∀ j v, cs[j]? = some v → w.cell? ⟨b, off + j, none⟩ = some v := by
  rcases h with h | ⟨b, off, hA, hc⟩
  · exact absurd h hne
  · refine ⟨b, off, hA, ?_, hc⟩
    cases cs with
    | nil => exact absurd rfl hne
    | cons v r => exact World.block_lt_of_cell? w _ (hc 0 v rfl)
theorem Row.nil (w : World) (A : Option Addr) : Row w A [] := .inl rfl

theorem Row.of_own {w : World} {base : Nat} {e : TypeId} {size n c : Nat} {A : Option Addr} {cs : List Value} (h : w.ownsRow base e size (.slice A n c) n cs) : Row w A cs := by
  by_cases hn : cs = []
  · exact .inl hn
  · rcases h.2 with ⟨hv, h0⟩ | ⟨g, cap, cur, hv, _⟩
    · have : cs.length = 0 := by have := h.1; subst h0; simpa using this
      exact absurd (List.eq_nil_of_length_eq_zero this) hn
    · injection hv with hA _ _
      subst hA
      refine .inr ⟨g, 0, rfl, fun j v hj => ?_⟩
      have := h.cells (g := g) rfl j v hj
      rwa [show ((⟨g, 0, none⟩ : Addr).add j) = ⟨g, 0 + j, none⟩ from by unfold Addr.add; split <;> simp_all] at this

/-- a list of ints as cells -/
def ints (xs : List Int) : List Value := xs.map (Value.int .i64)
theorem ints_length (xs : List Int) : (ints xs).length = xs.length := by simp [ints]
theorem ints_append (xs ys : List Int) : ints (xs ++ ys) = ints xs ++ ints ys := by simp [ints]
theorem ints_ne {xs : List Int} {k : Nat} (h : k < xs.length) : ints xs ≠ [] := by
  intro e
  have h2 : (ints xs).length = 0 := by rw [e]; rfl
  rw [ints_length] at h2
  omega
theorem ints_get {xs : List Int} {k : Nat} (h : k < xs.length) : (ints xs)[k]? = some (.int .i64 xs[k]) := by simp [ints, h]
theorem Row.int {w : World} {A : Option Addr} {xs : List Int} (h : Row w A (ints xs)) {k : Nat} (hk : k < xs.length) :
    ∃ b off, A = some ⟨b, off, none⟩ ∧ b < w.heap.size ∧ w.cell? ⟨b, off + k, none⟩ = some (.int .i64 xs[k]) := by
  obtain ⟨b, off, hA, hb, hc⟩ := h.at_ (ints_ne hk)
  exact ⟨b, off, hA, hb, hc k _ (ints_get hk)⟩

theorem ret_bool {a b : Bool} (h : a = b) : Ending.returned (.bool a) = .returned (.bool b) := by rw [h]
theorem ret_int {a b : Int} (h : a = b) : Ending.returned (.int .i64 a) = .returned (.int .i64 b) := by rw [h]

/-- a row of the call's own stays in a world that extends -/
theorem own_ext {w w' : World} {base : Nat} {e : TypeId} {size : Nat} {v : Value} {n : Nat} {xs : List Value} (h : w.ownsRow base e size v n xs) (hx : Ext w w') : w'.ownsRow base e size v n xs := by
  obtain ⟨h1, h2⟩ := h
  refine ⟨h1, ?_⟩
  rcases h2 with h2 | ⟨g, cap, cur, hv, hg, hh, r⟩
  · exact .inl h2
  · exact .inr ⟨g, cap, cur, hv, hg, by rw [hx.block g (Array.getElem?_eq_some_iff.1 hh).1]; exact hh, r⟩
theorem own_base {w : World} {base base' : Nat} {e : TypeId} {size : Nat} {v : Value} {n : Nat} {xs : List Value} (h : w.ownsRow base e size v n xs) (hb : base' ≤ base) : w.ownsRow base' e size v n xs := by
  obtain ⟨h1, h2⟩ := h
  refine ⟨h1, ?_⟩
  rcases h2 with h2 | ⟨g, cap, cur, hv, hg, r⟩
  · exact .inl h2
  · exact .inr ⟨g, cap, cur, hv, by omega, r⟩

/-- of what was there in w only block row has turned -/
def Only (row : Option Nat) (w w' : World) : Prop := w.grownBy w' row
theorem Only.refl (row : Option Nat) (w : World) : Only row w w := ⟨rfl, rfl, rfl, Nat.le_refl _, fun _ _ _ => rfl⟩
theorem Only.trans {row : Option Nat} {a b c : World} (h : Only row a b) (k : Only row b c) : Only row a c :=
  ⟨k.os.trans h.os, k.tape.trans h.tape, k.output.trans h.output, Nat.le_trans h.size k.size, fun i hi hn => (k.block i (Nat.lt_of_lt_of_le hi h.size) hn).trans (h.block i hi hn)⟩
theorem Only.set {g : Nat} {a b : World} (h : Only (some g) a b) (j : Nat) (u : Value) : Only (some g) a (b.setCell ⟨g, j, none⟩ u) :=
  h.trans ⟨rfl, rfl, rfl, by simp [World.setCell], fun k _ hk => heap_setCell_other b ⟨g, j, none⟩ k u (fun e => hk (by simp [e]))⟩
theorem Only.alloc {row : Option Nat} {a b : World} (h : Only row a b) (o : Obj) : Only row a (b.alloc o) := h.trans (World.grownBy_alloc b o row)
theorem Only.drewN {row : Option Nat} {a b : World} (h : Only row a b) (n : Nat) : Only row a (b.drewN n) := ⟨h.os, h.tape, h.output, h.size, h.block⟩
theorem Only.of_ext {row : Option Nat} {a b : World} (h : Ext a b) : Only row a b := ⟨h.os, h.tape, h.output, h.size, fun i hi _ => h.block i hi⟩
theorem Only.size {row : Option Nat} {a b : World} (h : Only row a b) : a.heap.size ≤ b.heap.size := World.grownBy.size h
/-- what the call itself has made may turn -/
theorem Ext.only {row : Option Nat} {a b c : World} (h : Ext a b) (k : Only row b c) (hr : ∀ g, row = some g → a.heap.size ≤ g) : Ext a c := Ext.grown h k hr
theorem Row.only {w w' : World} {row : Option Nat} {A : Option Addr} {cs : List Value} (h : Row w A cs) (k : Only row w w') (hr : ∀ g ad, row = some g → A = some ad → ad.block ≠ g) : Row w' A cs := by
  rcases h with h | ⟨b, off, hA, hc⟩
  · exact .inl h
  · exact .inr ⟨b, off, hA, fun j v hj => World.grownBy.cell k (hc j v hj) (fun e => hr b _ e.symm hA rfl)⟩
/-- what came in stays where only what the call itself made has turned -/
theorem Row.only0 {w0 w w' : World} {row : Option Nat} {A : Option Addr} {cs : List Value} (h : Row w A cs) (h0 : Row w0 A cs) (k : Only row w w') (hr : ∀ g, row = some g → w0.heap.size ≤ g) : Row w' A cs := by
  by_cases hne : cs = []
  · exact .inl hne
  · obtain ⟨b, off, rfl, hb, _⟩ := h0.at_ hne
    exact h.only k (fun g ad hg had => by
      have := hr g hg
      injection had with had
      subst had
      simp only
      omega)
theorem own_only {w w' : World} {row : Option Nat} {base : Nat} {e : TypeId} {size : Nat} {v : Value} {n : Nat} {xs : List Value} (h : w.ownsRow base e size v n xs) (k : Only row w w') (hr : ∀ g, row = some g → v.ownBlock ≠ some g) : w'.ownsRow base e size v n xs := by
  refine World.ownsRow.kept h k ?_
  cases row with
  | none => cases v.ownBlock <;> simp
  | some g => exact .inr (hr g rfl)

/-- cur agrees with full below m -/
def Pref (cur full : List Value) (m : Nat) : Prop := cur.length = full.length ∧ ∀ j, j < m → cur[j]? = full[j]?
theorem Pref.start {cur full : List Value} (h : cur.length = full.length) : Pref cur full 0 := ⟨h, fun j hj => by omega⟩
theorem Pref.set {cur full : List Value} {m : Nat} {u : Value} (h : Pref cur full m) (hu : full[m]? = some u) : Pref (cur.set m u) full (m + 1) := by
  refine ⟨by simpa using h.1, fun j hj => ?_⟩
  by_cases e : j = m
  · subst e
    have hl : j < cur.length := by rw [h.1]; exact (List.getElem?_eq_some_iff.1 hu).1
    rw [List.getElem?_set_self hl, hu]
  · rw [List.getElem?_set_ne (by omega)]
    exact h.2 j (by omega)
theorem Pref.done {cur full : List Value} {m : Nat} (h : Pref cur full m) (hm : full.length ≤ m) : cur = full := by
  apply List.ext_getElem?
  intro j
  by_cases hj : j < m
  · exact h.2 j hj
  · rw [List.getElem?_eq_none (by rw [h.1]; omega), List.getElem?_eq_none (by omega)]

/-- cells of a row of one's own, for the walk -/
theorem own_cell {w : World} {base : Nat} {e : TypeId} {size g n cap : Nat} {xs : List Value} (h : w.ownsRow base e size (.slice (some ⟨g, 0, none⟩) n cap) n xs) {j : Nat} (hj : j < n * size) :
    ∃ v, w.cell? ⟨g, j, none⟩ = some v := by
  have hl : j < xs.length := by rw [h.1]; exact hj
  exact ⟨xs[j], by rw [h.cellAt j hj, List.getElem?_eq_getElem hl]⟩

/-- the cells of a new row, kept from the walk's eyes -/
def made (z : Value) (size n : Nat) : Array Value := madeCells z.cells (n * size)
/-- make([]T, n), n a variable -/
theorem run_make_n {P : Program} (t e : TypeId) (size bytes : Nat) (z : Value) (ht : P.underlying t = some (.slice e)) (hi : (P.info? e).map (fun i => (i.zero, i.size, i.bytes)) = some (some z, size, bytes))
    (n : Nat) (hn : n ≤ 1048576) (hb : bytes ≤ 4096) (w : World) :
    (Instr.makeSlice t (.int .i64 (n : Int)) (.int .i64 (n : Int))).run P w = .ok (.slice (some ⟨w.heap.size, 0, none⟩) n n) (w.alloc (.cells (made z size n) e)) := by
  unfold made
  cases hie : P.info? e with
  | none => rw [hie] at hi; simp at hi
  | some i =>
    rw [hie] at hi
    simp only [Option.map_some, Option.some.injEq, Prod.mk.injEq] at hi
    obtain ⟨hz, hs, hby⟩ := hi
    have hm : (i.bytes : Int) * (n : Int) ≤ 281474976710656 := by
      have h1 : i.bytes * n ≤ 4096 * 1048576 := Nat.mul_le_mul (by omega) hn
      have h2 : ((i.bytes * n : Nat) : Int) ≤ 281474976710656 := by omega
      rwa [Int.natCast_mul] at h2
    have hr := run_make (P := P) w t e i z ht hie hz .i64 .i64 n n (by omega) (by omega) hm (by omega)
    simp only [Int.toNat_natCast, hs] at hr
    exact hr
theorem own_made (w : World) (e : TypeId) (z : Value) (size n : Nat) (hn : n ≤ 1048576) :
    (w.alloc (.cells (made z size n) e)).ownsRow w.heap.size e size (.slice (some ⟨w.heap.size, 0, none⟩) n n) n (made z size n).toList :=
  World.ownsRow_lit w _ n (Nat.le_refl _) (by unfold maxLen; omega) (size_madeCells _ _)
theorem length_made (z : Value) (size n : Nat) : (made z size n).toList.length = n * size := by simp [made, size_madeCells]

theorem own_form {w : World} {base : Nat} {e : TypeId} {size : Nat} {v : Value} {n : Nat} {xs : List Value} (h : w.ownsRow base e size v n xs) : ∃ A c, v = .slice A n c := by
  rcases h.2 with ⟨rfl, rfl⟩ | ⟨g, cap, cur, rfl, _⟩
  · exact ⟨_, _, rfl⟩
  · exact ⟨_, _, rfl⟩
theorem own_lt {w : World} {base : Nat} {e : TypeId} {size n c g : Nat} {A : Option Addr} {xs : List Value} (h : w.ownsRow base e size (.slice A n c) n xs) (hg : Value.ownBlock (.slice A n c) = some g) : base ≤ g ∧ g < w.heap.size := World.ownsRow.lt h g hg

/-- numbers of an int -/
def I64 (n : Int) : Prop := -9223372036854775808 ≤ n ∧ n ≤ 9223372036854775807
theorem I64_of_wf {n : Int} (h : (Lit.int .i64 n).wf = true) : I64 n := by
  simpa [I64, Lit.wf, IntKind.min, IntKind.max, IntKind.signed, IntKind.bits] using h
end Go.Proofs.Ytdkgcaifagigfaa
/- A block of the call's own that is known whole. -/
namespace Go.Proofs.Ytdkgcaifagigfaa
open Go.ChangeShapes Go.WideShapes Go.ChangeAt Go.RowKit

/-- block g holds just these cells, none of them frozen -/
def Blk (w : World) (g : Nat) (t : TypeId) (cs : Array Value) : Prop := w.heap[g]? = some (.cells cs t (0, 0))
section
variable {w w' : World} {g : Nat} {t : TypeId} {cs : Array Value}
theorem Blk.lt (h : Blk w g t cs) : g < w.heap.size := (Array.getElem?_eq_some_iff.1 h).1
theorem Blk.cell (h : Blk w g t cs) (i : Nat) : w.cell? ⟨g, i, none⟩ = cs[i]? := cell_of_row w g i cs t (0, 0) h
theorem Blk.frozen (h : Blk w g t cs) (i : Nat) : w.frozen? ⟨g, i, none⟩ = false := frozen_of_row w g i cs t h
theorem Blk.new (w : World) (t : TypeId) (cs : Array Value) : Blk (w.alloc (.cells cs t)) w.heap.size t cs := heap_alloc_new w _
theorem Blk.ext (h : Blk w g t cs) (e : Ext w w') : Blk w' g t cs := (e.block g h.lt).trans h
theorem Blk.alloc (h : Blk w g t cs) (o : Obj) : Blk (w.alloc o) g t cs := h.ext ((Ext.refl w).alloc o)
theorem Blk.drewN (h : Blk w g t cs) (n : Nat) : Blk (w.drewN n) g t cs := h
theorem Blk.set_ (h : Blk w g t cs) (i : Nat) (u : Value) : Blk (w.setCell ⟨g, i, none⟩ u) g t (cs.setIfInBounds i u) := heap_setCell_same w g i cs t u h
theorem Blk.far (h : Blk w g t cs) {p : Addr} (hp : g ≠ p.block) (u : Value) : Blk (w.setCell p u) g t cs := (Below.heap_setCell w p u g hp).trans h
end
end Go.Proofs.Ytdkgcaifagigfaa
/- Contracts of functions on numbers and bounds. -/
namespace Go.Proofs.Ytdkgcaifagigfaa
open Go.ChangeShapes Go.WideShapes Go.ChangeAt Go.RowKit

theorem l01In_any (n lo hi : Int) (w : World) :
    Calls Try.prog 15 #[.int .i64 n, .int .i64 lo, .int .i64 hi] w fun e w' => e = .returned (.bool (inR n lo hi)) ∧ w = w' := by
  go_enter Try.func15, Try.ntmps15
  go_wp2
  all_goals go_ret
  all_goals exact ⟨ret_bool (by simp [inR, *]; try omega), rfl⟩
theorem l01In_eq {n lo hi : Int} {v : Bool} (h : inR n lo hi = v) (w : World) : Calls Try.prog 15 #[.int .i64 n, .int .i64 lo, .int .i64 hi] w fun e w' => e = .returned (.bool v) ∧ w' = w :=
  (l01In_any n lo hi w).mono fun _ _ ⟨h1, h2⟩ => ⟨by rw [h1, h], h2.symm⟩

theorem inRange_any (n lo hi : Int) (w : World) :
    Calls Try.prog 18 #[.int .i64 n, .int .i64 lo, .int .i64 hi] w fun e w' => e = .returned (.bool (inR n lo hi)) ∧ w = w' := by
  go_enter Try.func18, Try.ntmps18
  go_wp2
  all_goals go_ret
  all_goals exact ⟨ret_bool (by simp [inR, *]; try omega), rfl⟩


end Go.Proofs.Ytdkgcaifagigfaa
/- Contracts of the helpers on slices of ints: a copy, a comparison; and of the checks of a series. -/
namespace Go.Proofs.Ytdkgcaifagigfaa
open Go.ChangeShapes Go.WideShapes Go.ChangeAt Go.RowKit

set_option maxHeartbeats 400000 in
theorem toIntS_any (A : Option Addr) (n c : Nat) (xs : List Int) (w : World) (hn : xs.length = n) (hr : Row w A (ints xs)) (hle : n ≤ 1048576) :
    Calls Try.prog 16 #[.slice A n c] w fun e w' => ∃ g, e = .returned (.slice (some ⟨g, 0, none⟩) n n) ∧ w'.ownsRow w.heap.size 3 1 (.slice (some ⟨g, 0, none⟩) n n) n (ints xs) ∧ Ext w w' := by
  have hmk := run_make_n 22 3 1 8 (.int .i64 0) Try.underlying22 (by kernel_rfl) n hle (by omega)
  have hmd := own_made w 3 (.int .i64 0) 1 n hle
  have Hml := Lib.hid (length_made (Value.int .i64 0) 1 n)
  go_enter Try.func16, Try.ntmps16
  go_wp2
  go_loopw [4] (fun i wr => ∃ (k : Nat) (cur : List Value), k ≤ n ∧ i = .int .i64 k ∧ Ext w wr ∧ wr.ownsRow w.heap.size 3 1 (.slice (some ⟨w.heap.size, 0, none⟩) n n) n cur ∧ Pref cur (ints xs) k) (fun i _ => n - (intOf i).toNat)
  case atStart => exact ⟨0, _, Nat.zero_le _, rfl, (Ext.refl _).alloc _, hmd, Pref.start (by rw [Hml.out, ints_length, hn]; omega)⟩
  case round =>
    obtain ⟨k, cur, hk, rfl, hx, hown, hp⟩ := hrel
    have Hp := Lib.hid hp
    clear hp hmd hmk
    by_cases hlt : k < n
    · obtain ⟨b, off, rfl, hb, hc⟩ := (hr.ext hx).int (k := k) (by omega)
      obtain ⟨vg, hcg⟩ := own_cell hown (j := k) (by omega)
      have hfg := hown.frozenAt k
      have hst := hown.stored k (.int .i64 (xs[k]'(by omega)))
      have Hst := Lib.hid hst
      clear hst hown
      go_wp2
      go_roundw
      case rel => exact ⟨k + 1, _, by omega, by go_num, hx.setCell (Nat.le_refl _) _, Hst.out.1, Hp.out.set (ints_get (by omega))⟩
      case measure => simp [intOf]; omega
    · go_wp2
      go_ret
      refine ⟨_, rfl, ?_, hx⟩
      have e := Hp.out.done (by rw [ints_length]; omega)
      rw [e] at hown
      exact hown

set_option maxHeartbeats 400000 in
theorem eqIntS_any (A B : Option Addr) (n m c d : Nat) (xs ys : List Int) (w : World) (hn : xs.length = n) (hm : ys.length = m) (hr : Row w A (ints xs)) (hs : Row w B (ints ys)) (hle : n ≤ maxLen) (hle' : m ≤ maxLen) :
    Calls Try.prog 8 #[.slice A n c, .slice B m d] w fun e w' => e = .returned (.bool (decide (xs = ys))) ∧ Ext w w' := by
  unfold maxLen at hle hle'
  by_cases hnm : n = m
  · subst hnm
    go_enter Try.func8, Try.ntmps8
    go_wp2
    go_loopw [5] (fun i wr => ∃ (k : Nat), k ≤ n ∧ i = .int .i64 k ∧ Ext w wr ∧ xs.take k = ys.take k) (fun i _ => n - (intOf i).toNat)
    case atStart => exact ⟨0, Nat.zero_le _, rfl, Ext.refl _, rfl⟩
    case round =>
      obtain ⟨k, hk, rfl, hx, hp⟩ := hrel
      have Hp := Lib.hid hp
      clear hp
      by_cases hlt : k < n
      · obtain ⟨b, off, rfl, hb, hc⟩ := (hr.ext hx).int (k := k) (by omega)
        obtain ⟨b', off', rfl, hb', hc'⟩ := (hs.ext hx).int (k := k) (by omega)
        by_cases he : xs[k]'(by omega) = ys[k]'(by omega)
        · have he' : (xs[k]'(by omega) != ys[k]'(by omega)) = false := by simp [he]
          have He := Lib.hid he
          clear he
          go_wp2
          go_quiet (fail)
          go_wp2
          go_roundw
          case rel => exact ⟨k + 1, by omega, by go_num, hx.drewN _, take_eq_succ (by omega) (by omega) Hp.out He.out⟩
          case measure => simp [intOf]; omega
        · have he' : (xs[k]'(by omega) != ys[k]'(by omega)) = true := by simp [he]
          have He := Lib.hid he
          clear he
          go_wp2
          go_quiet (fail)
          go_wp2
          go_ret
          exact ⟨ret_bool (by rw [decide_eq_false (ne_of_get (by omega) (by omega) He.out)]), hx.drewN _⟩
      · go_wp2
        go_ret
        refine ⟨ret_bool ?_, hx⟩
        have h := Hp.out
        rw [List.take_of_length_le (by omega), List.take_of_length_le (by omega)] at h
        rw [decide_eq_true h]
  · have h' : ((n : Int) != (m : Int)) = true := by simp; omega
    go_enter Try.func8, Try.ntmps8
    go_wp2
    go_ret
    exact ⟨ret_bool (by rw [decide_eq_false]; rintro rfl; omega), Ext.refl _⟩


theorem szIntS_any (A : Option Addr) (n c : Nat) (left : Int) (w : World) (h0 : 0 ≤ left) (hl : left ≤ 1048576) (hn : n ≤ maxLen) :
    Calls Try.prog 13 #[.slice A n c, .int .i64 left] w fun e w' => e = .returned (.int .i64 (szI n left)) ∧ w = w' := by
  unfold maxLen at hn
  by_cases hc : (n : Int) ≤ left
  · have H : Hid (szI n left = left - n) := szI_pos hc
    have hc2 : ¬ left - (n : Int) < 0 := by omega
    go_enter Try.func13, Try.ntmps13
    go_wp2
    go_ret
    exact ⟨by rw [H.out]; rfl, rfl⟩
  · have H : Hid (szI n left = -1) := szI_neg hc
    have hc2 : left - (n : Int) < 0 := by omega
    go_enter Try.func13, Try.ntmps13
    go_wp2
    go_ret
    exact ⟨by rw [H.out]; rfl, rfl⟩


set_option maxHeartbeats 400000 in
theorem markIntS_any (A : Option Addr) (n c : Nat) (k0 : Int) (cur0 : List Value) (base : Nat) (w : World) (ho : w.ownsRow base 3 1 (.slice A n c) n cur0) (h0 : 0 ≤ k0) (h1 : k0 ≤ 1000000000000) (hn : n ≤ 1000000000000) :
    Calls Try.prog 11 #[.slice A n c, .int .i64 k0] w fun e w' => e = .returned (.int .i64 (k0 + n)) ∧ w'.ownsRow base 3 1 (.slice A n c) n (ints (upTo k0 n)) ∧ Only (Value.ownBlock (.slice A n c)) w w' := by
  have Hl := Lib.hid ho.1
  go_enter Try.func11, Try.ntmps11
  go_wp2
  go_loopw [1, 5] (fun m i wr => ∃ (k : Nat) (cur : List Value), k ≤ n ∧ i = .int .i64 k ∧ m = .int .i64 (k0 + k) ∧ wr.ownsRow base 3 1 (.slice A n c) n cur ∧ Pref cur (ints (upTo k0 n)) k ∧ Only (Value.ownBlock (.slice A n c)) w wr) (fun _ i _ => n - (intOf i).toNat)
  case atStart => exact ⟨0, _, Nat.zero_le _, rfl, by simp, ho, Pref.start (by rw [Hl.out, ints_length, upTo_length]; omega), Only.refl _ _⟩
  case round =>
    obtain ⟨k, cur, hk, rfl, rfl, hown, hp, hx⟩ := hrel
    have Hp := Lib.hid hp
    clear hp ho
    by_cases hlt : k < n
    · obtain ⟨g, rfl⟩ : ∃ g, A = some ⟨g, 0, none⟩ := by
        rcases hown.2 with ⟨_, h⟩ | ⟨g, cap, cu, hv, _⟩
        · omega
        · injection hv with hA _ _; exact ⟨g, hA⟩
      obtain ⟨vg, hcg⟩ := own_cell hown (j := k) (by omega)
      have hfg := hown.frozenAt k
      have hst := hown.stored k (.int .i64 (k0 + k))
      have Hst := Lib.hid hst
      clear hst hown
      go_wp2
      go_roundw
      case rel => exact ⟨k + 1, _, by omega, by go_num, by go_num, Hst.out.1, Hp.out.set (by unfold ints; rw [List.getElem?_map, upTo_get hlt]; rfl), Only.set hx k _⟩
      case measure => simp [intOf]; omega
    · go_wp2
      go_ret
      refine ⟨ret_int (by rw [show k = n from by omega]), ?_, hx⟩
      have e := Hp.out.done (by rw [ints_length, upTo_length]; omega)
      rw [e] at hown
      exact hown

set_option maxHeartbeats 400000 in
theorem heldIntS_any (A : Option Addr) (n c : Nat) (k0 : Int) (w : World) (hr : Row w A (ints (upTo k0 n))) (h0 : 0 ≤ k0) (h1 : k0 ≤ 1000000000000) (hn : n ≤ 1000000000000) :
    Calls Try.prog 12 #[.slice A n c, .int .i64 k0] w fun e w' => e = .returned (.int .i64 (k0 + n)) ∧ w = w' := by
  have Hl := Lib.hid (upTo_length k0 n)
  go_enter Try.func12, Try.ntmps12
  go_wp2
  go_loop [1, 5] (fun m i => ∃ (k : Nat), k ≤ n ∧ i = .int .i64 k ∧ m = .int .i64 (k0 + k)) (fun _ i => n - (intOf i).toNat)
  case atStart => exact ⟨0, Nat.zero_le _, rfl, by simp⟩
  case round =>
    obtain ⟨k, hk, rfl, rfl⟩ := hrel
    by_cases hlt : k < n
    · obtain ⟨b, off, rfl, hb, hc⟩ := hr.int (k := k) (by rw [Hl.out]; exact hlt)
      rw [upTo_at] at hc
      go_wp2
      go_round
      case rel => exact ⟨k + 1, by omega, by go_num, by go_num⟩
      case measure => simp [intOf]; omega
    · go_wp2
      go_ret
      exact ⟨ret_int (by rw [show k = n from by omega]), rfl⟩
end Go.Proofs.Ytdkgcaifagigfaa
/- Contracts of the helpers on Half and slices of it: copies and comparisons. -/
namespace Go.Proofs.Ytdkgcaifagigfaa
open Go.ChangeShapes Go.WideShapes Go.ChangeAt Go.RowKit

theorem Half.ints_len (a : Half) : a.ints.length = 3 := rfl
theorem Half.unints (zs : List Int) (h : zs.length = 3) : ∃ a : Half, a.ints = zs := by
  match zs, h with
  | [a0, a1, a2], _ => exact ⟨⟨a0, a1, a2⟩, rfl⟩
theorem Row.Half {w : World} {A : Option Addr} {xs : List Half} (h : Row w A (ints (flat Half.ints xs))) {k : Nat} (hk : k < xs.length) :
    ∃ b off, A = some ⟨b, off, none⟩ ∧ b < w.heap.size ∧ w.cell? ⟨b, off + k * 3, none⟩ = some (.int .i64 xs[k].A) ∧ w.cell? ⟨b, off + k * 3 + 1, none⟩ = some (.int .i64 xs[k].B) ∧ w.cell? ⟨b, off + k * 3 + 2, none⟩ = some (.int .i64 xs[k].C) := by
  have hl := flat_length Half.ints_len xs
  have hm : k * 3 + 3 ≤ xs.length * 3 := by omega
  obtain ⟨b, off, hA, hb, hc⟩ := h.at_ (ints_ne (k := k * 3) (by omega))
  have key : ∀ i z, i < 3 → xs[k].ints[i]? = some z → w.cell? ⟨b, off + k * 3 + i, none⟩ = some (.int .i64 z) := by
    intro i z hi hz
    have := hc (k * 3 + i) (.int .i64 z) (by unfold ints; rw [List.getElem?_map, flat_get Half.ints_len xs k i hk hi, hz]; rfl)
    rwa [← Nat.add_assoc] at this
  exact ⟨b, off, hA, hb, key 0 _ (by omega) rfl, key 1 _ (by omega) rfl, key 2 _ (by omega) rfl⟩
theorem full_Half {xs : List Half} {k i : Nat} {z : Int} (hk : k < xs.length) (hi : i < 3) (hz : xs[k].ints[i]? = some z) : (ints (flat Half.ints xs))[k * 3 + i]? = some (.int .i64 z) := by
  unfold ints; rw [List.getElem?_map, flat_get Half.ints_len xs k i hk hi, hz]; rfl






end Go.Proofs.Ytdkgcaifagigfaa
/- Contracts of the helpers on Spot and slices of it: copies and comparisons. -/
namespace Go.Proofs.Ytdkgcaifagigfaa
open Go.ChangeShapes Go.WideShapes Go.ChangeAt Go.RowKit

theorem Spot.ints_len (a : Spot) : a.ints.length = 3 := rfl
theorem Spot.unints (zs : List Int) (h : zs.length = 3) : ∃ a : Spot, a.ints = zs := by
  match zs, h with
  | [a0, a1, a2], _ => exact ⟨⟨a0, a1, a2⟩, rfl⟩
theorem Row.Spot {w : World} {A : Option Addr} {xs : List Spot} (h : Row w A (ints (flat Spot.ints xs))) {k : Nat} (hk : k < xs.length) :
    ∃ b off, A = some ⟨b, off, none⟩ ∧ b < w.heap.size ∧ w.cell? ⟨b, off + k * 3, none⟩ = some (.int .i64 xs[k].X) ∧ w.cell? ⟨b, off + k * 3 + 1, none⟩ = some (.int .i64 xs[k].Y) ∧ w.cell? ⟨b, off + k * 3 + 2, none⟩ = some (.int .i64 xs[k].D) := by
  have hl := flat_length Spot.ints_len xs
  have hm : k * 3 + 3 ≤ xs.length * 3 := by omega
  obtain ⟨b, off, hA, hb, hc⟩ := h.at_ (ints_ne (k := k * 3) (by omega))
  have key : ∀ i z, i < 3 → xs[k].ints[i]? = some z → w.cell? ⟨b, off + k * 3 + i, none⟩ = some (.int .i64 z) := by
    intro i z hi hz
    have := hc (k * 3 + i) (.int .i64 z) (by unfold ints; rw [List.getElem?_map, flat_get Spot.ints_len xs k i hk hi, hz]; rfl)
    rwa [← Nat.add_assoc] at this
  exact ⟨b, off, hA, hb, key 0 _ (by omega) rfl, key 1 _ (by omega) rfl, key 2 _ (by omega) rfl⟩
theorem full_Spot {xs : List Spot} {k i : Nat} {z : Int} (hk : k < xs.length) (hi : i < 3) (hz : xs[k].ints[i]? = some z) : (ints (flat Spot.ints xs))[k * 3 + i]? = some (.int .i64 z) := by
  unfold ints; rw [List.getElem?_map, flat_get Spot.ints_len xs k i hk hi, hz]; rfl






end Go.Proofs.Ytdkgcaifagigfaa
/- Contracts of the helpers on Ratio and slices of it: copies and comparisons. -/
namespace Go.Proofs.Ytdkgcaifagigfaa
open Go.ChangeShapes Go.WideShapes Go.ChangeAt Go.RowKit

theorem Ratio.ints_len (a : Ratio) : a.ints.length = 2 := rfl
theorem Ratio.unints (zs : List Int) (h : zs.length = 2) : ∃ a : Ratio, a.ints = zs := by
  match zs, h with
  | [a0, a1], _ => exact ⟨⟨a0, a1⟩, rfl⟩
theorem Row.Ratio {w : World} {A : Option Addr} {xs : List Ratio} (h : Row w A (ints (flat Ratio.ints xs))) {k : Nat} (hk : k < xs.length) :
    ∃ b off, A = some ⟨b, off, none⟩ ∧ b < w.heap.size ∧ w.cell? ⟨b, off + k * 2, none⟩ = some (.int .i64 xs[k].N) ∧ w.cell? ⟨b, off + k * 2 + 1, none⟩ = some (.int .i64 xs[k].D) := by
  have hl := flat_length Ratio.ints_len xs
  have hm : k * 2 + 2 ≤ xs.length * 2 := by omega
  obtain ⟨b, off, hA, hb, hc⟩ := h.at_ (ints_ne (k := k * 2) (by omega))
  have key : ∀ i z, i < 2 → xs[k].ints[i]? = some z → w.cell? ⟨b, off + k * 2 + i, none⟩ = some (.int .i64 z) := by
    intro i z hi hz
    have := hc (k * 2 + i) (.int .i64 z) (by unfold ints; rw [List.getElem?_map, flat_get Ratio.ints_len xs k i hk hi, hz]; rfl)
    rwa [← Nat.add_assoc] at this
  exact ⟨b, off, hA, hb, key 0 _ (by omega) rfl, key 1 _ (by omega) rfl⟩
theorem full_Ratio {xs : List Ratio} {k i : Nat} {z : Int} (hk : k < xs.length) (hi : i < 2) (hz : xs[k].ints[i]? = some z) : (ints (flat Ratio.ints xs))[k * 2 + i]? = some (.int .i64 z) := by
  unfold ints; rw [List.getElem?_map, flat_get Ratio.ints_len xs k i hk hi, hz]; rfl






end Go.Proofs.Ytdkgcaifagigfaa
/- Contracts of the helpers on Ask and slices of it: copies and comparisons. -/
namespace Go.Proofs.Ytdkgcaifagigfaa
open Go.ChangeShapes Go.WideShapes Go.ChangeAt Go.RowKit

theorem Ask.ints_len (a : Ask) : a.ints.length = 4 := rfl
theorem Ask.unints (zs : List Int) (h : zs.length = 4) : ∃ a : Ask, a.ints = zs := by
  match zs, h with
  | [a0, a1, a2, a3], _ => exact ⟨⟨a0, a1, a2, a3⟩, rfl⟩
theorem Row.Ask {w : World} {A : Option Addr} {xs : List Ask} (h : Row w A (ints (flat Ask.ints xs))) {k : Nat} (hk : k < xs.length) :
    ∃ b off, A = some ⟨b, off, none⟩ ∧ b < w.heap.size ∧ w.cell? ⟨b, off + k * 4, none⟩ = some (.int .i64 xs[k].Low) ∧ w.cell? ⟨b, off + k * 4 + 1, none⟩ = some (.int .i64 xs[k].High) ∧ w.cell? ⟨b, off + k * 4 + 2, none⟩ = some (.int .i64 xs[k].Wish) ∧ w.cell? ⟨b, off + k * 4 + 3, none⟩ = some (.int .i64 xs[k].Rank) := by
  have hl := flat_length Ask.ints_len xs
  have hm : k * 4 + 4 ≤ xs.length * 4 := by omega
  obtain ⟨b, off, hA, hb, hc⟩ := h.at_ (ints_ne (k := k * 4) (by omega))
  have key : ∀ i z, i < 4 → xs[k].ints[i]? = some z → w.cell? ⟨b, off + k * 4 + i, none⟩ = some (.int .i64 z) := by
    intro i z hi hz
    have := hc (k * 4 + i) (.int .i64 z) (by unfold ints; rw [List.getElem?_map, flat_get Ask.ints_len xs k i hk hi, hz]; rfl)
    rwa [← Nat.add_assoc] at this
  exact ⟨b, off, hA, hb, key 0 _ (by omega) rfl, key 1 _ (by omega) rfl, key 2 _ (by omega) rfl, key 3 _ (by omega) rfl⟩
theorem full_Ask {xs : List Ask} {k i : Nat} {z : Int} (hk : k < xs.length) (hi : i < 4) (hz : xs[k].ints[i]? = some z) : (ints (flat Ask.ints xs))[k * 4 + i]? = some (.int .i64 z) := by
  unfold ints; rw [List.getElem?_map, flat_get Ask.ints_len xs k i hk hi, hz]; rfl






end Go.Proofs.Ytdkgcaifagigfaa
/- Arguments opened: a value of a type that holds ints alone is a list of ints; a slice of such values is a row of ints. And the last step of a law's row. -/
namespace Go.Proofs.Ytdkgcaifagigfaa
open Go.ChangeShapes Go.WideShapes Go.ChangeAt Go.RowKit
open Go.ChangeMaps (open_string shut_string)

theorem own : ownKnob Try.prog.godebug = none := by kernel_rfl
theorem laidOut : laidOutB Try.prog = true := by kernel_rfl

def flatFs (P : Program) (r : TypeId → Bool) : Nat → List Field → Option Nat
  | o, [] => some o
  | o, f :: fs => if f.offset = o ∧ r f.type = true then flatFs P r (o + P.cellsOf f.type) fs else none

def flatB (P : Program) : Nat → TypeId → Bool
  | 0, _ => false
  | n + 1, t => match P.underlying t with
    | some (.int .i64) => P.cellsOf t == 1
    | some (.struct fs) => flatFs P (flatB P n) 0 fs.toList == some (P.cellsOf t)
    | _ => false

section
variable {H : Type} {enc : TypeId × Value → H} {P : Program} {w : World} {base : Nat} {spare : Nat → Bool} {held : Bool}

theorem flatFs_open {r : TypeId → Bool} {fuel K : Nat} {cs : List Value}
    (hr : ∀ t cs' (x : DataW H × List MemPlace), r t = true → DataW.trod enc P w base spare held fuel t cs' = some x → ∃ zs, zs.length = P.cellsOf t ∧ cs' = ints zs ∧ ∀ z ∈ zs, I64 z) :
    ∀ (fs : List Field) (o : Nat), flatFs P r o fs = some K → K = cs.length →
      (∀ f ∈ fs, ∃ x : DataW H × List MemPlace, DataW.trod enc P w base spare held fuel f.type ((cs.drop f.offset).take (P.cellsOf f.type)) = some x) →
      ∃ zs, cs.drop o = ints zs ∧ ∀ z ∈ zs, I64 z := by
  intro fs
  induction fs with
  | nil =>
    intro o h hK _
    simp only [flatFs, Option.some.injEq] at h
    exact ⟨[], by rw [List.drop_eq_nil_of_le (by omega)]; rfl, by simp⟩
  | cons f fs ih =>
    intro o h hK hx
    simp only [flatFs] at h
    split at h
    · rename_i hc
      obtain ⟨ho, hrf⟩ := hc
      obtain ⟨zs2, h2, hw2⟩ := ih _ h hK (fun g hg => hx g (List.mem_cons_of_mem _ hg))
      obtain ⟨x, hxf⟩ := hx f (List.mem_cons_self ..)
      obtain ⟨zs1, _, h1, hw1⟩ := hr _ _ _ hrf hxf
      refine ⟨zs1 ++ zs2, ?_, fun z hz => ?_⟩
      · rw [ints_append, ← h1, ← h2, ho, ← List.drop_drop, List.take_append_drop]
      · rcases List.mem_append.1 hz with hz | hz
        · exact hw1 z hz
        · exact hw2 z hz
    · cases h

theorem flat_open : ∀ (n : Nat) (t : TypeId) (fuel : Nat) (cs : List Value) (x : DataW H × List MemPlace), flatB P n t = true → DataW.trod enc P w base spare held fuel t cs = some x →
    ∃ zs, zs.length = P.cellsOf t ∧ cs = ints zs ∧ ∀ z ∈ zs, I64 z := by
  intro n
  induction n with
  | zero => intro t fuel cs x h; simp [flatB] at h
  | succ n ih =>
    intro t fuel cs x h hx
    unfold flatB at h
    split at h
    · rename_i hu
      obtain ⟨z, rfl, _, hw⟩ := DataW.trod_int hu hx
      exact ⟨[z], by simpa using (beq_iff_eq.1 h).symm, rfl, by simpa using I64_of_wf hw⟩
    · rename_i fs hu
      obtain ⟨xs, m, _, _, hl, hxl, hf⟩ := DataW.trod_struct hu hx
      have hk := beq_iff_eq.1 h
      obtain ⟨zs, hz, hw⟩ := flatFs_open (enc := enc) (w := w) (base := base) (spare := spare) (held := held) (fuel := m) (cs := cs)
        (fun t' cs' x' hr' hx' => ih t' m cs' x' hr' hx') fs.toList 0 hk hl.symm (fun f hf' => by
          obtain ⟨i, hi⟩ := List.mem_iff_getElem?.1 hf'
          have hi' : fs[i]? = some f := by simpa using hi
          have hlt : i < fs.size := (Array.getElem?_eq_some_iff.1 hi').1
          exact ⟨xs[i]'(by omega), by rw [hf i f hi', List.getElem?_eq_getElem]⟩)
      rw [List.drop_zero] at hz
      exact ⟨zs, by rw [← hl, hz, ints_length], hz, hw⟩
    · cases h

theorem add_none {a : Addr} {n : Nat} {v : Value} (h : w.cell? (a.add n) = some v) : ∃ b off, a = ⟨b, off, none⟩ ∨ (n ≠ 0 ∧ a = ⟨b, off, a.spot⟩) := by
  exact ⟨a.block, a.off, by
    by_cases hn : n = 0
    · subst hn
      have := World.cell?_spot h
      left
      cases a
      simp [Addr.add] at this
      simp [this]
    · right; exact ⟨hn, rfl⟩⟩

/-- A slice of a type that holds ints alone. -/
theorem open_flat_slice {n : Nat} {t e : TypeId} {fuel : Nat} {cs : List Value} {x : DataW H × List MemPlace} (ht : P.underlying t = some (.slice e)) (he : flatB P n e = true)
    (h : DataW.trod enc P w base spare held fuel t cs = some x) :
    ∃ A len cap zs, cs = [.slice A len cap] ∧ zs.length = len * P.cellsOf e ∧ Row w A (ints zs) ∧ len ≤ cap ∧ cap ≤ maxLen ∧ ∀ z ∈ zs, I64 z := by
  rcases Go.DataW.trod_slice ht h with ⟨rfl, _⟩ | ⟨a, len, cap, elems, rest, m, _, rfl, _, _, hl, hm, hlen, hel, _, _⟩
  · exact ⟨none, 0, 0, [], rfl, by simp, .inl rfl, Nat.le_refl _, Nat.zero_le _, by simp⟩
  · have key : ∀ k, k ≤ len → ∃ zs : List Int, zs.length = k * P.cellsOf e ∧ (∀ j v, (ints zs)[j]? = some v → w.cell? (a.add j) = some v) ∧ ∀ z ∈ zs, I64 z := by
      intro k
      induction k with
      | zero => intro _; exact ⟨[], by simp, by simp [ints], by simp⟩
      | succ k ih =>
        intro hk
        obtain ⟨zs, hz, hc, hw⟩ := ih (by omega)
        have hk1 := hel k (by omega)
        rw [List.getElem?_eq_getElem (by omega), Option.bind_eq_some_iff] at hk1
        obtain ⟨cs', hcs, htr⟩ := hk1
        obtain ⟨zs', hz', rfl, hw'⟩ := flat_open n e m cs' _ he htr
        obtain ⟨_, _, hcell⟩ := World.cells?_some hcs
        refine ⟨zs ++ zs', by rw [List.length_append, hz, hz', Nat.add_mul]; omega, fun j v hj => ?_, fun z hz => ?_⟩
        · rw [ints_append, List.getElem?_append] at hj
          split at hj
          · exact hc j v hj
          · rename_i hlt
            rw [ints_length, hz] at hlt hj
            have hjl : j - k * P.cellsOf e < P.cellsOf e := by
              have := (List.getElem?_eq_some_iff.1 hj).1
              rw [ints_length, hz'] at this
              exact this
            have := hcell _ hjl
            rw [hj] at this
            rwa [show (a.add (k * P.cellsOf e)).add (j - k * P.cellsOf e) = a.add j from by
              unfold Addr.add
              by_cases h1 : k * P.cellsOf e = 0 <;> by_cases h2 : j - k * P.cellsOf e = 0 <;> by_cases h3 : j = 0 <;> simp [h1, h2, h3] <;> omega] at this
        · rcases List.mem_append.1 hz with hz | hz
          · exact hw z hz
          · exact hw' z hz
    obtain ⟨zs, hz, hc, hw⟩ := key len (Nat.le_refl _)
    refine ⟨some a, len, cap, zs, rfl, hz, ?_, hl, hm, hw⟩
    by_cases hne : zs = []
    · subst hne; exact .inl rfl
    · have hl0 : 0 < zs.length := by
        cases zs with
        | nil => exact absurd rfl hne
        | cons _ _ => simp
      have h0 := hc 0 _ (ints_get hl0)
      obtain ⟨b, off, hs⟩ := add_none h0
      rcases hs with rfl | ⟨hs, _⟩
      · refine .inr ⟨b, off, rfl, fun j v hj => ?_⟩
        have := hc j v hj
        rwa [show (⟨b, off, none⟩ : Addr).add j = ⟨b, off + j, none⟩ from by unfold Addr.add; split <;> simp_all] at this
      · exact absurd rfl hs

theorem openArg_int {t : TypeId} {r : Reach} {b0 : Nat} {v : Value} {d : DataW H} {p : List MemPlace} (ht : P.underlying t = some (.int .i64)) (hv : Value.okWide P w r b0 t v) (h : DataW.Trod enc P w base spare held t v d p) :
    ∃ z, v = .int .i64 z ∧ I64 z := by
  obtain ⟨z, hz, _, _, hw⟩ := open_int ht hv h
  exact ⟨z, hz, I64_of_wf hw⟩
theorem openArg_flat {n : Nat} {t : TypeId} {fs : Array Field} {r : Reach} {b0 : Nat} {v : Value} {d : DataW H} {p : List MemPlace} (ht : P.underlying t = some (.struct fs)) (he : flatB P n t = true) (hv : Value.okWide P w r b0 t v) (h : DataW.Trod enc P w base spare held t v d p) :
    ∃ zs : List Int, v = .agg (ints zs).toArray ∧ zs.length = P.cellsOf t ∧ ∀ z ∈ zs, I64 z := by
  obtain ⟨cs, rfl, _⟩ := okWide_struct ht hv
  obtain ⟨fuel, hf⟩ := h
  obtain ⟨zs, hl, hz, hw⟩ := flat_open n t fuel _ _ he hf
  refine ⟨zs, ?_, hl, hw⟩
  simp only [Value.cells] at hz
  rw [← hz]
theorem openArg_slice {n : Nat} {t e : TypeId} {r : Reach} {b0 : Nat} {v : Value} {d : DataW H} {p : List MemPlace} (ht : P.underlying t = some (.slice e)) (he : flatB P n e = true)
    (hv : Value.okWide P w r b0 t v) (h : DataW.Trod enc P w base spare held t v d p) :
    ∃ A len cap zs, v = .slice A len cap ∧ zs.length = len * P.cellsOf e ∧ Row w A (ints zs) ∧ len ≤ cap ∧ cap ≤ maxLen ∧ ∀ z ∈ zs, I64 z := by
  obtain ⟨a, l, c, rfl⟩ := okWide_slice ht hv
  obtain ⟨fuel, hf⟩ := h
  obtain ⟨A, len, cap, zs, hcs, rest⟩ := open_flat_slice ht he hf
  refine ⟨A, len, cap, zs, ?_, rest⟩
  simpa [Value.cells] using hcs

/-- a struct of one field, a slice of a type that holds ints alone -/
theorem open_struct1_slice {n : Nat} {t ts e : TypeId} {f : Field} {fuel : Nat} {cs : List Value} {x : DataW H × List MemPlace} (ht : P.underlying t = some (.struct #[f])) (hf : f.offset = 0) (hc : P.cellsOf f.type = 1) (htf : f.type = ts) (hk : P.cellsOf t = 1)
    (hs : P.underlying ts = some (.slice e)) (he : flatB P n e = true) (h : DataW.trod enc P w base spare held fuel t cs = some x) :
    ∃ A len cap zs, cs = [.slice A len cap] ∧ zs.length = len * P.cellsOf e ∧ Row w A (ints zs) ∧ len ≤ cap ∧ cap ≤ maxLen ∧ ∀ z ∈ zs, I64 z := by
  subst htf
  obtain ⟨xs, m, _, _, hl, hxl, hg⟩ := DataW.trod_struct ht h
  have h0 := hg 0 f rfl
  rw [hf, hc, List.drop_zero] at h0
  have hx0 : xs[0]? = some (xs[0]'(by rw [hxl]; exact Nat.one_pos)) := List.getElem?_eq_getElem _
  rw [hx0] at h0
  obtain ⟨A, len, cap, zs, hcs, rest⟩ := open_flat_slice hs he h0
  refine ⟨A, len, cap, zs, ?_, rest⟩
  have h1 : cs.length = 1 := by rw [hl, hk]
  rw [← hcs, List.take_of_length_le (by omega)]

theorem list2 {α : Type} {l : List α} (h : l.length = 2) : ∃ a b, l = [a, b] := by
  match l, h with
  | [a, b], _ => exact ⟨a, b, rfl⟩
theorem list3 {α : Type} {l : List α} (h : l.length = 3) : ∃ a b c, l = [a, b, c] := by
  match l, h with
  | [a, b, c], _ => exact ⟨a, b, c, rfl⟩
theorem list4 {α : Type} {l : List α} (h : l.length = 4) : ∃ a b c d, l = [a, b, c, d] := by
  match l, h with
  | [a, b, c, d], _ => exact ⟨a, b, c, d, rfl⟩
theorem list5 {α : Type} {l : List α} (h : l.length = 5) : ∃ a b c d e, l = [a, b, c, d, e] := by
  match l, h with
  | [a, b, c, d, e], _ => exact ⟨a, b, c, d, e, rfl⟩

theorem trodAll_lt {ts : List TypeId} : ∀ {vs : List Value} {ds : List (DataW H)} {ps : List MemPlace}, DataW.TrodAll enc P w base spare held ts vs ds ps → ∀ x ∈ ps, x.block < w.heap.size := by
  induction ts with
  | nil =>
    intro vs ds ps h
    obtain ⟨_, _, rfl⟩ := trodAll_nil h
    simp
  | cons t ts ih =>
    intro vs ds ps h
    obtain ⟨v, vs', d, ds', p, q, rfl, rfl, rfl, h1, h2⟩ := trodAll_cons h
    intro x hx
    rcases List.mem_append.1 hx with hx | hx
    · obtain ⟨m, hm⟩ := h1
      exact DataW.trod_lt m _ _ _ hm x hx
    · exact ih h2 x hx

theorem trodAll_ext (hl : laidOutB P = true) {ts : List TypeId} (hts : ts.all (fun t => P.readableRec t && decide (t < P.types.size)) = true) :
    ∀ {W W' : World} {vs : List Value} {ds : List (DataW H)} {ps : List MemPlace}, DataW.TrodAll enc P W 0 (fun _ => true) true ts vs ds ps → Ext W W' →
      DataW.TrodAll enc P W' 0 (fun b => decide (b < W.heap.size)) true ts vs ds ps := by
  induction ts with
  | nil =>
    intro W W' vs ds ps h _
    obtain ⟨rfl, rfl, rfl⟩ := trodAll_nil h
    exact trodAll_mk0
  | cons t ts ih =>
    intro W W' vs ds ps h hb
    have hlt := trodAll_lt h
    obtain ⟨v, vs', d, ds', p, q, rfl, rfl, rfl, h1, h2⟩ := trodAll_cons h
    simp only [List.all_cons, Bool.and_eq_true, decide_eq_true_eq] at hts
    exact trodAll_cons_mk (Below.trod hl hts.1.1 hts.1.2 h1 hb (fun x hx => hlt x (List.mem_append_left _ hx))) (ih hts.2 h2 hb)

/-- the last step of a law's row: it returned true in a world that extends the first -/
theorem law_post {f : Func} {s : ChangeSpec} {W W' : World} {args : Array Value} {ds gs : List (DataW H)} {before : List MemPlace} {tb : TypeId} (hl : laidOutB P = true)
    (hts : f.params.toList.all (fun t => P.readableRec t && decide (t < P.types.size)) = true) (hv : s.vars = []) (hb : P.underlying tb = some .bool) (hr : f.resultTypes = #[tb])
    (hW : DataW.Whole enc P f.params.toList s.vars false W args.toList ds gs before)
    (hres : (s.fn H (ds ++ gs)).results = [.lit (.bool true)]) (hargs : (s.fn H (ds ++ gs)).args = ds) (hvars : (s.fn H (ds ++ gs)).vars = []) (hext : Ext W W') :
    s.post enc P f false true false false W args (.bool true) W' := by
  have hW' := hW
  obtain ⟨p, q, hA, hV, rfl, _, _⟩ := hW
  refine ⟨ds, gs, p ++ q, [], p, [], hW', ?_, ?_, ?_, hext.below.frame _, fun h => by cases h⟩
  · rw [hres, hr]
    exact trodAll_mk1 (shut_bool hb _)
  · rw [hargs]
    exact trodAll_ext hl hts hA hext
  · rw [hv, hvars]
    rfl
end
end Go.Proofs.Ytdkgcaifagigfaa
/- Regions that draw their order, whose operations read, and whose callees may make memory of their own: one walk in the order of the text, over the class of worlds that extend the first. -/
namespace Go.Proofs.Ytdkgcaifagigfaa
open Go.ChangeShapes Go.WideShapes Go.ChangeAt Go.RowKit
set_option linter.unusedVariables false

/-- a world that extends W -/
structure After (W : World) where
  x : World
  h : Ext W x
instance {W : World} : Nonempty (After W) := ⟨⟨W, Ext.refl W⟩⟩
theorem wp_region_after {P : Program} {id : Nat} {Q : Exit → Act → World → Prop} {a : Act} {W : World} {l : List Oper} (hm : P.follows .mixedOrders = true) (hB : Region.lexB .any l.toArray = true)
    (h : wpQuiet P l.toArray (fun w' => ∃ p : After W, w' = p.x) (fun a' => ∀ w', (∃ p : After W, w' = p.x) → Q .normal a' w') l a) : (Code.region id l.toArray true).wp P Q a W :=
  wp_region_quiet (C := fun w' => ∃ p : After W, w' = p.x) hm hB ⟨⟨W.drew, (Ext.refl W).drew⟩, rfl⟩ (by simpa using h)
theorem Calls.after_of {P : Program} {f : FuncId} {args : Array Value} {W : World} {p : After W} {v : Value}
    (h : Calls P f args p.x fun e w' => e = .returned v ∧ Ext p.x w') : Calls P f args p.x fun e w'' => e = .returned v ∧ ∃ q : After W, w'' = q.x :=
  h.mono fun _ w'' ⟨h1, h2⟩ => ⟨h1, ⟨w'', p.h.trans h2⟩, rfl⟩
theorem Calls.after_same {P : Program} {f : FuncId} {args : Array Value} {W : World} {p : After W} {v : Value}
    (h : Calls P f args p.x fun e w' => e = .returned v ∧ p.x = w') : Calls P f args p.x fun e w'' => e = .returned v ∧ ∃ q : After W, w'' = q.x :=
  h.mono fun _ w'' ⟨h1, h2⟩ => ⟨h1, p, h2.symm⟩
end Go.Proofs.Ytdkgcaifagigfaa
