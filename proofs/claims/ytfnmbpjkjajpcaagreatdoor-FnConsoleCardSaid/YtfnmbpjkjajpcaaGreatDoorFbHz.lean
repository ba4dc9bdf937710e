/- Words for memory that all walks of this family use: a world that extends another, and a slice that reads as a list. -/
import Derived.Test.YtfnmbpjkjajpcaaGreatDoorRows
import Derived.WalkKit
import Derived.ProofKit
import Derived.OpenShut
import Derived.Below
import Derived.WalkSpells
import Derived.WalkLawsBesides
import Derived.Lib.Hide
import Derived.LoopTactic
import Derived.RegionTactic
import Derived.Deep.QuietTactic
import Derived.BigQuiet
import Derived.Outline
import Derived.Deep.Draws
import Derived.Laws.OwnMore
import Derived.ChangeOld
import Derived.ShutString
import Derived.Test.YtfnmbpjkjajpcaaGreatDoorFbPz
import Derived.StillTailTactics
namespace Go.Proofs.YtfnmbpjkjajpcaaGreatDoor
open Go.ChangeShapes Go.WideShapes Go.ChangeAt Go.RowKit
def Ext (w w' : World) : Prop := Below w.heap.size w w'
section
variable {a b c : World}
theorem Ext.refl (w : World) : Ext w w := Below.refl _ w
theorem Ext.size (h : Ext a b) : a.heap.size ≤ b.heap.size := Below.size h
theorem Ext.trans (h : Ext a b) (k : Ext b c) : Ext a c := Below.trans h (Below.mono k (Below.size h))
theorem Ext.alloc (h : Ext a b) (o : Obj) : Ext a (b.alloc o) := Below.alloc h (Below.size h) o
theorem Ext.drew (h : Ext a b) : Ext a b.drew := Below.drew h
theorem Ext.drewN (h : Ext a b) (n : Nat) : Ext a (b.drewN n) := ⟨h.os, h.tape, h.output, h.size, h.block⟩
theorem Ext.setCell (h : Ext a b) {p : Addr} (hp : a.heap.size ≤ p.block) (u : Value) : Ext a (b.setCell p u) := Below.setCell h hp u
theorem Ext.grown {row : Option Nat} (h : Ext a b) (hg : b.grownBy c row) (hr : ∀ k, row = some k → a.heap.size ≤ k) : Ext a c := Below.grown h hg (Below.size h) hr
theorem Ext.use (h : Ext a b) : (∀ x o, x < a.heap.size → b.cell? ⟨x, o, none⟩ = a.cell? ⟨x, o, none⟩) ∧ (∀ x o, x < a.heap.size → b.frozen? ⟨x, o, none⟩ = a.frozen? ⟨x, o, none⟩) ∧ a.heap.size ≤ b.heap.size :=
  ⟨fun x o hx => Below.cell (p := ⟨x, o, none⟩) h hx, fun x o hx => Below.frozen (p := ⟨x, o, none⟩) h hx, Below.size h⟩
theorem Ext.below (h : Ext a b) : Below a.heap.size a b := h
theorem Ext.cellOf (h : Ext a b) {p : Addr} {v : Value} (hc : a.cell? p = some v) : b.cell? p = some v := (Below.cell h (World.block_lt_of_cell? a p hc)).trans hc
end
def Row (w : World) (A : Option Addr) (cs : List Value) : Prop :=
  cs = [] ∨ ∃ b off, A = some ⟨b, off, none⟩ ∧ ∀ j v, cs[j]? = some v → w.cell? ⟨b, off + j, none⟩ = some v
theorem Row.ext {w w' : World} {A : Option Addr} {cs : List Value} (h : Row w A cs) (e : Ext w w') : Row w' A cs := by
  rcases h with h | ⟨b, off, hA, hc⟩
  · exact .inl h
  · exact .inr ⟨b, off, hA, fun j v hj => e.cellOf (hc j v hj)⟩
theorem Row.at_ {w : World} {A : Option Addr} {cs : List Value} (h : Row w A cs) (hne : cs ≠ []) :
    ∃ b off, A = some ⟨b, off, none⟩ ∧ b < w.heap.size ∧ ∀ j v, cs[j]? = some v → w.cell? ⟨b, off + j, none⟩ = some v := by
  rcases h with h | ⟨b, off, hA, hc⟩
  · exact absurd h hne
  · refine ⟨b, off, hA, ?_, hc⟩
    cases cs with
    | nil => exact absurd rfl hne
    | cons v r => exact World.block_lt_of_cell? w _ (hc 0 v rfl)
theorem Row.nil (w : World) (A : Option Addr) : Row w A [] := .inl rfl
theorem Row.of_own {w : World} {base : Nat} {e : TypeId} {size n c : Nat} {A : Option Addr} {cs : List Value} (h : w.ownsRow base e size (.slice A n c) n cs) : Row w A cs := by
  by_cases hn : cs = []
  · exact .inl hn
  · rcases h.2 with ⟨hv, h0⟩ | ⟨g, cap, cur, hv, _⟩
    · have : cs.length = 0 := by have := h.1; subst h0; simpa using this
      exact absurd (List.eq_nil_of_length_eq_zero this) hn
    · injection hv with hA _ _
      subst hA
      refine .inr ⟨g, 0, rfl, fun j v hj => ?_⟩
      have := h.cells (g := g) rfl j v hj
      rwa [show ((⟨g, 0, none⟩ : Addr).add j) = ⟨g, 0 + j, none⟩ from by unfold Addr.add; split <;> simp_all] at this
def ints (xs : List Int) : List Value := xs.map (Value.int .i64)
theorem ints_length (xs : List Int) : (ints xs).length = xs.length := by simp [ints]
theorem ints_append (xs ys : List Int) : ints (xs ++ ys) = ints xs ++ ints ys := by simp [ints]
theorem ints_ne {xs : List Int} {k : Nat} (h : k < xs.length) : ints xs ≠ [] := by
  intro e
  have h2 : (ints xs).length = 0 := by rw [e]; rfl
  rw [ints_length] at h2
  omega
theorem ints_get {xs : List Int} {k : Nat} (h : k < xs.length) : (ints xs)[k]? = some (.int .i64 xs[k]) := by simp [ints, h]
theorem Row.int {w : World} {A : Option Addr} {xs : List Int} (h : Row w A (ints xs)) {k : Nat} (hk : k < xs.length) :
    ∃ b off, A = some ⟨b, off, none⟩ ∧ b < w.heap.size ∧ w.cell? ⟨b, off + k, none⟩ = some (.int .i64 xs[k]) := by
  obtain ⟨b, off, hA, hb, hc⟩ := h.at_ (ints_ne hk)
  exact ⟨b, off, hA, hb, hc k _ (ints_get hk)⟩
theorem ret_bool {a b : Bool} (h : a = b) : Ending.returned (.bool a) = .returned (.bool b) := by rw [h]
theorem ret_int {a b : Int} (h : a = b) : Ending.returned (.int .i64 a) = .returned (.int .i64 b) := by rw [h]
theorem own_ext {w w' : World} {base : Nat} {e : TypeId} {size : Nat} {v : Value} {n : Nat} {xs : List Value} (h : w.ownsRow base e size v n xs) (hx : Ext w w') : w'.ownsRow base e size v n xs := by
  obtain ⟨h1, h2⟩ := h
  refine ⟨h1, ?_⟩
  rcases h2 with h2 | ⟨g, cap, cur, hv, hg, hh, r⟩
  · exact .inl h2
  · exact .inr ⟨g, cap, cur, hv, hg, by rw [hx.block g (Array.getElem?_eq_some_iff.1 hh).1]; exact hh, r⟩
theorem own_base {w : World} {base base' : Nat} {e : TypeId} {size : Nat} {v : Value} {n : Nat} {xs : List Value} (h : w.ownsRow base e size v n xs) (hb : base' ≤ base) : w.ownsRow base' e size v n xs := by
  obtain ⟨h1, h2⟩ := h
  refine ⟨h1, ?_⟩
  rcases h2 with h2 | ⟨g, cap, cur, hv, hg, r⟩
  · exact .inl h2
  · exact .inr ⟨g, cap, cur, hv, by omega, r⟩
def Only (row : Option Nat) (w w' : World) : Prop := w.grownBy w' row
theorem Only.refl (row : Option Nat) (w : World) : Only row w w := ⟨rfl, rfl, rfl, Nat.le_refl _, fun _ _ _ => rfl⟩
theorem Only.trans {row : Option Nat} {a b c : World} (h : Only row a b) (k : Only row b c) : Only row a c :=
  ⟨k.os.trans h.os, k.tape.trans h.tape, k.output.trans h.output, Nat.le_trans h.size k.size, fun i hi hn => (k.block i (Nat.lt_of_lt_of_le hi h.size) hn).trans (h.block i hi hn)⟩
theorem Only.set {g : Nat} {a b : World} (h : Only (some g) a b) (j : Nat) (u : Value) : Only (some g) a (b.setCell ⟨g, j, none⟩ u) :=
  h.trans ⟨rfl, rfl, rfl, by simp [World.setCell], fun k _ hk => heap_setCell_other b ⟨g, j, none⟩ k u (fun e => hk (by simp [e]))⟩
theorem Only.alloc {row : Option Nat} {a b : World} (h : Only row a b) (o : Obj) : Only row a (b.alloc o) := h.trans (World.grownBy_alloc b o row)
theorem Only.drewN {row : Option Nat} {a b : World} (h : Only row a b) (n : Nat) : Only row a (b.drewN n) := ⟨h.os, h.tape, h.output, h.size, h.block⟩
theorem Only.of_ext {row : Option Nat} {a b : World} (h : Ext a b) : Only row a b := ⟨h.os, h.tape, h.output, h.size, fun i hi _ => h.block i hi⟩
theorem Only.size {row : Option Nat} {a b : World} (h : Only row a b) : a.heap.size ≤ b.heap.size := World.grownBy.size h
theorem Ext.only {row : Option Nat} {a b c : World} (h : Ext a b) (k : Only row b c) (hr : ∀ g, row = some g → a.heap.size ≤ g) : Ext a c := Ext.grown h k hr
theorem Row.only {w w' : World} {row : Option Nat} {A : Option Addr} {cs : List Value} (h : Row w A cs) (k : Only row w w') (hr : ∀ g ad, row = some g → A = some ad → ad.block ≠ g) : Row w' A cs := by
  rcases h with h | ⟨b, off, hA, hc⟩
  · exact .inl h
  · exact .inr ⟨b, off, hA, fun j v hj => World.grownBy.cell k (hc j v hj) (fun e => hr b _ e.symm hA rfl)⟩
theorem own_only {w w' : World} {row : Option Nat} {base : Nat} {e : TypeId} {size : Nat} {v : Value} {n : Nat} {xs : List Value} (h : w.ownsRow base e size v n xs) (k : Only row w w') (hr : ∀ g, row = some g → v.ownBlock ≠ some g) : w'.ownsRow base e size v n xs := by
  refine World.ownsRow.kept h k ?_
  cases row with
  | none => cases v.ownBlock <;> simp
  | some g => exact .inr (hr g rfl)
def Pref (cur full : List Value) (m : Nat) : Prop := cur.length = full.length ∧ ∀ j, j < m → cur[j]? = full[j]?
theorem Pref.set {cur full : List Value} {m : Nat} {u : Value} (h : Pref cur full m) (hu : full[m]? = some u) : Pref (cur.set m u) full (m + 1) := by
  refine ⟨by simpa using h.1, fun j hj => ?_⟩
  by_cases e : j = m
  · subst e
    have hl : j < cur.length := by rw [h.1]; exact (List.getElem?_eq_some_iff.1 hu).1
    rw [List.getElem?_set_self hl, hu]
  · rw [List.getElem?_set_ne (by omega)]
    exact h.2 j (by omega)
theorem Pref.done {cur full : List Value} {m : Nat} (h : Pref cur full m) (hm : full.length ≤ m) : cur = full := by
  apply List.ext_getElem?
  intro j
  by_cases hj : j < m
  · exact h.2 j hj
  · rw [List.getElem?_eq_none (by rw [h.1]; omega), List.getElem?_eq_none (by omega)]
theorem own_form {w : World} {base : Nat} {e : TypeId} {size : Nat} {v : Value} {n : Nat} {xs : List Value} (h : w.ownsRow base e size v n xs) : ∃ A c, v = .slice A n c := by
  rcases h.2 with ⟨rfl, rfl⟩ | ⟨g, cap, cur, rfl, _⟩
  · exact ⟨_, _, rfl⟩
  · exact ⟨_, _, rfl⟩
theorem own_lt {w : World} {base : Nat} {e : TypeId} {size n c g : Nat} {A : Option Addr} {xs : List Value} (h : w.ownsRow base e size (.slice A n c) n xs) (hg : Value.ownBlock (.slice A n c) = some g) : base ≤ g ∧ g < w.heap.size := World.ownsRow.lt h g hg
def I64 (n : Int) : Prop := -9223372036854775808 ≤ n ∧ n ≤ 9223372036854775807
end Go.Proofs.YtfnmbpjkjajpcaaGreatDoor
namespace Go.Proofs.YtfnmbpjkjajpcaaGreatDoor
open Go.ChangeShapes Go.WideShapes Go.ChangeAt Go.RowKit
def Blk (w : World) (g : Nat) (t : TypeId) (cs : Array Value) : Prop := w.heap[g]? = some (.cells cs t (0, 0))
section
variable {w w' : World} {g : Nat} {t : TypeId} {cs : Array Value}
theorem Blk.lt (h : Blk w g t cs) : g < w.heap.size := (Array.getElem?_eq_some_iff.1 h).1
theorem Blk.cell (h : Blk w g t cs) (i : Nat) : w.cell? ⟨g, i, none⟩ = cs[i]? := cell_of_row w g i cs t (0, 0) h
theorem Blk.frozen (h : Blk w g t cs) (i : Nat) : w.frozen? ⟨g, i, none⟩ = false := frozen_of_row w g i cs t h
theorem Blk.new (w : World) (t : TypeId) (cs : Array Value) : Blk (w.alloc (.cells cs t)) w.heap.size t cs := heap_alloc_new w _
theorem Blk.ext (h : Blk w g t cs) (e : Ext w w') : Blk w' g t cs := (e.block g h.lt).trans h
theorem Blk.alloc (h : Blk w g t cs) (o : Obj) : Blk (w.alloc o) g t cs := h.ext ((Ext.refl w).alloc o)
theorem Blk.drewN (h : Blk w g t cs) (n : Nat) : Blk (w.drewN n) g t cs := h
theorem Blk.set_ (h : Blk w g t cs) (i : Nat) (u : Value) : Blk (w.setCell ⟨g, i, none⟩ u) g t (cs.setIfInBounds i u) := heap_setCell_same w g i cs t u h
theorem Blk.far (h : Blk w g t cs) {p : Addr} (hp : g ≠ p.block) (u : Value) : Blk (w.setCell p u) g t cs := (Below.heap_setCell w p u g hp).trans h
end
end Go.Proofs.YtfnmbpjkjajpcaaGreatDoor
namespace Go.Proofs.YtfnmbpjkjajpcaaGreatDoor
open Go.ChangeShapes Go.WideShapes Go.ChangeAt Go.RowKit
open Go.ChangeMaps (open_string shut_string)
theorem own : ownKnob Tryz.prog.godebug = none := by kernel_rfl
theorem laidOut : laidOutB Tryz.prog = true := by kernel_rfl
section
variable {H : Type} {enc : TypeId × Value → H} {P : Program} {w : World} {base : Nat} {spare : Nat → Bool} {held : Bool}
theorem add_none {a : Addr} {n : Nat} {v : Value} (h : w.cell? (a.add n) = some v) : ∃ b off, a = ⟨b, off, none⟩ ∨ (n ≠ 0 ∧ a = ⟨b, off, a.spot⟩) := by
  exact ⟨a.block, a.off, by
    by_cases hn : n = 0
    · subst hn
      have := World.cell?_spot h
      left
      cases a
      simp [Addr.add] at this
      simp [this]
    · right; exact ⟨hn, rfl⟩⟩
theorem trodAll_lt {ts : List TypeId} : ∀ {vs : List Value} {ds : List (DataW H)} {ps : List MemPlace}, DataW.TrodAll enc P w base spare held ts vs ds ps → ∀ x ∈ ps, x.block < w.heap.size := by
  induction ts with
  | nil =>
    intro vs ds ps h
    obtain ⟨_, _, rfl⟩ := trodAll_nil h
    simp
  | cons t ts ih =>
    intro vs ds ps h
    obtain ⟨v, vs', d, ds', p, q, rfl, rfl, rfl, h1, h2⟩ := trodAll_cons h
    intro x hx
    rcases List.mem_append.1 hx with hx | hx
    · obtain ⟨m, hm⟩ := h1
      exact DataW.trod_lt m _ _ _ hm x hx
    · exact ih h2 x hx
theorem trodAll_ext (hl : laidOutB P = true) {ts : List TypeId} (hts : ts.all (fun t => P.readableRec t && decide (t < P.types.size)) = true) :
    ∀ {W W' : World} {vs : List Value} {ds : List (DataW H)} {ps : List MemPlace}, DataW.TrodAll enc P W 0 (fun _ => true) true ts vs ds ps → Ext W W' →
      DataW.TrodAll enc P W' 0 (fun b => decide (b < W.heap.size)) true ts vs ds ps := by
  induction ts with
  | nil =>
    intro W W' vs ds ps h _
    obtain ⟨rfl, rfl, rfl⟩ := trodAll_nil h
    exact trodAll_mk0
  | cons t ts ih =>
    intro W W' vs ds ps h hb
    have hlt := trodAll_lt h
    obtain ⟨v, vs', d, ds', p, q, rfl, rfl, rfl, h1, h2⟩ := trodAll_cons h
    simp only [List.all_cons, Bool.and_eq_true, decide_eq_true_eq] at hts
    exact trodAll_cons_mk (Below.trod hl hts.1.1 hts.1.2 h1 hb (fun x hx => hlt x (List.mem_append_left _ hx))) (ih hts.2 h2 hb)
theorem law_post {f : Func} {s : ChangeSpec} {W W' : World} {args : Array Value} {ds gs : List (DataW H)} {before : List MemPlace} {tb : TypeId} (hl : laidOutB P = true)
    (hts : f.params.toList.all (fun t => P.readableRec t && decide (t < P.types.size)) = true) (hv : s.vars = []) (hb : P.underlying tb = some .bool) (hr : f.resultTypes = #[tb])
    (hW : DataW.Whole enc P f.params.toList s.vars false W args.toList ds gs before)
    (hres : (s.fn H (ds ++ gs)).results = [.lit (.bool true)]) (hargs : (s.fn H (ds ++ gs)).args = ds) (hvars : (s.fn H (ds ++ gs)).vars = []) (hext : Ext W W') :
    s.post enc P f false true false false W args (.bool true) W' := by
  have hW' := hW
  obtain ⟨p, q, hA, hV, rfl, _, _⟩ := hW
  refine ⟨ds, gs, p ++ q, [], p, [], hW', ?_, ?_, ?_, hext.below.frame _, fun h => by cases h⟩
  · rw [hres, hr]
    exact trodAll_mk1 (shut_bool hb _)
  · rw [hargs]
    exact trodAll_ext hl hts hA hext
  · rw [hv, hvars]
    rfl
end
end Go.Proofs.YtfnmbpjkjajpcaaGreatDoor
namespace Go.Proofs.YtfnmbpjkjajpcaaGreatDoor
open Go.ChangeShapes Go.WideShapes Go.ChangeAt Go.RowKit
theorem inRange_any (n lo hi : Int) (w : World) :
    Calls Tryz.prog 241 #[.int .i64 n, .int .i64 lo, .int .i64 hi] w fun e w' => e = .returned (.bool (inR n lo hi)) ∧ w = w' := by
  go_enter Tryz.func241, Tryz.ntmps241
  go_wp2
  all_goals go_ret
  all_goals exact ⟨ret_bool (by simp [inR, *]; try omega), rfl⟩
end Go.Proofs.YtfnmbpjkjajpcaaGreatDoor
namespace Go.Proofs.YtfnmbpjkjajpcaaGreatDoor
open Go.ChangeShapes Go.WideShapes Go.ChangeAt Go.RowKit
end Go.Proofs.YtfnmbpjkjajpcaaGreatDoor
namespace Go.Proofs.YtfnmbpjkjajpcaaGreatDoor
open Go.ChangeShapes Go.WideShapes Go.ChangeAt Go.RowKit
theorem Ask.ints_len (a : Ask) : a.ints.length = 4 := rfl
theorem Row.Ask {w : World} {A : Option Addr} {xs : List Ask} (h : Row w A (ints (flat Ask.ints xs))) {k : Nat} (hk : k < xs.length) :
    ∃ b off, A = some ⟨b, off, none⟩ ∧ b < w.heap.size ∧ w.cell? ⟨b, off + k * 4, none⟩ = some (.int .i64 xs[k].Low) ∧ w.cell? ⟨b, off + k * 4 + 1, none⟩ = some (.int .i64 xs[k].High) ∧ w.cell? ⟨b, off + k * 4 + 2, none⟩ = some (.int .i64 xs[k].Wish) ∧ w.cell? ⟨b, off + k * 4 + 3, none⟩ = some (.int .i64 xs[k].Rank) := by
  have hl := flat_length Ask.ints_len xs
  have hm : k * 4 + 4 ≤ xs.length * 4 := by omega
  obtain ⟨b, off, hA, hb, hc⟩ := h.at_ (ints_ne (k := k * 4) (by omega))
  have key : ∀ i z, i < 4 → xs[k].ints[i]? = some z → w.cell? ⟨b, off + k * 4 + i, none⟩ = some (.int .i64 z) := by
    intro i z hi hz
    have := hc (k * 4 + i) (.int .i64 z) (by unfold ints; rw [List.getElem?_map, flat_get Ask.ints_len xs k i hk hi, hz]; rfl)
    rwa [← Nat.add_assoc] at this
  exact ⟨b, off, hA, hb, key 0 _ (by omega) rfl, key 1 _ (by omega) rfl, key 2 _ (by omega) rfl, key 3 _ (by omega) rfl⟩
end Go.Proofs.YtfnmbpjkjajpcaaGreatDoor
namespace Go.Proofs.YtfnmbpjkjajpcaaGreatDoor
open Go.ChangeShapes Go.WideShapes Go.ChangeAt Go.RowKit
theorem Ratio.ints_len (a : Ratio) : a.ints.length = 2 := rfl
theorem Row.Ratio {w : World} {A : Option Addr} {xs : List Ratio} (h : Row w A (ints (flat Ratio.ints xs))) {k : Nat} (hk : k < xs.length) :
    ∃ b off, A = some ⟨b, off, none⟩ ∧ b < w.heap.size ∧ w.cell? ⟨b, off + k * 2, none⟩ = some (.int .i64 xs[k].N) ∧ w.cell? ⟨b, off + k * 2 + 1, none⟩ = some (.int .i64 xs[k].D) := by
  have hl := flat_length Ratio.ints_len xs
  have hm : k * 2 + 2 ≤ xs.length * 2 := by omega
  obtain ⟨b, off, hA, hb, hc⟩ := h.at_ (ints_ne (k := k * 2) (by omega))
  have key : ∀ i z, i < 2 → xs[k].ints[i]? = some z → w.cell? ⟨b, off + k * 2 + i, none⟩ = some (.int .i64 z) := by
    intro i z hi hz
    have := hc (k * 2 + i) (.int .i64 z) (by unfold ints; rw [List.getElem?_map, flat_get Ratio.ints_len xs k i hk hi, hz]; rfl)
    rwa [← Nat.add_assoc] at this
  exact ⟨b, off, hA, hb, key 0 _ (by omega) rfl, key 1 _ (by omega) rfl⟩
end Go.Proofs.YtfnmbpjkjajpcaaGreatDoor
namespace Go.Proofs.YtfnmbpjkjajpcaaGreatDoor
open Go.ChangeShapes Go.WideShapes Go.ChangeAt Go.RowKit
theorem Half.ints_len (a : Half) : a.ints.length = 3 := rfl
theorem Row.Half {w : World} {A : Option Addr} {xs : List Half} (h : Row w A (ints (flat Half.ints xs))) {k : Nat} (hk : k < xs.length) :
    ∃ b off, A = some ⟨b, off, none⟩ ∧ b < w.heap.size ∧ w.cell? ⟨b, off + k * 3, none⟩ = some (.int .i64 xs[k].A) ∧ w.cell? ⟨b, off + k * 3 + 1, none⟩ = some (.int .i64 xs[k].B) ∧ w.cell? ⟨b, off + k * 3 + 2, none⟩ = some (.int .i64 xs[k].C) := by
  have hl := flat_length Half.ints_len xs
  have hm : k * 3 + 3 ≤ xs.length * 3 := by omega
  obtain ⟨b, off, hA, hb, hc⟩ := h.at_ (ints_ne (k := k * 3) (by omega))
  have key : ∀ i z, i < 3 → xs[k].ints[i]? = some z → w.cell? ⟨b, off + k * 3 + i, none⟩ = some (.int .i64 z) := by
    intro i z hi hz
    have := hc (k * 3 + i) (.int .i64 z) (by unfold ints; rw [List.getElem?_map, flat_get Half.ints_len xs k i hk hi, hz]; rfl)
    rwa [← Nat.add_assoc] at this
  exact ⟨b, off, hA, hb, key 0 _ (by omega) rfl, key 1 _ (by omega) rfl, key 2 _ (by omega) rfl⟩
end Go.Proofs.YtfnmbpjkjajpcaaGreatDoor
namespace Go.Proofs.YtfnmbpjkjajpcaaGreatDoor
open Go.ChangeShapes Go.WideShapes Go.ChangeAt Go.RowKit
theorem Spot.ints_len (a : Spot) : a.ints.length = 3 := rfl
theorem Row.Spot {w : World} {A : Option Addr} {xs : List Spot} (h : Row w A (ints (flat Spot.ints xs))) {k : Nat} (hk : k < xs.length) :
    ∃ b off, A = some ⟨b, off, none⟩ ∧ b < w.heap.size ∧ w.cell? ⟨b, off + k * 3, none⟩ = some (.int .i64 xs[k].X) ∧ w.cell? ⟨b, off + k * 3 + 1, none⟩ = some (.int .i64 xs[k].Y) ∧ w.cell? ⟨b, off + k * 3 + 2, none⟩ = some (.int .i64 xs[k].D) := by
  have hl := flat_length Spot.ints_len xs
  have hm : k * 3 + 3 ≤ xs.length * 3 := by omega
  obtain ⟨b, off, hA, hb, hc⟩ := h.at_ (ints_ne (k := k * 3) (by omega))
  have key : ∀ i z, i < 3 → xs[k].ints[i]? = some z → w.cell? ⟨b, off + k * 3 + i, none⟩ = some (.int .i64 z) := by
    intro i z hi hz
    have := hc (k * 3 + i) (.int .i64 z) (by unfold ints; rw [List.getElem?_map, flat_get Spot.ints_len xs k i hk hi, hz]; rfl)
    rwa [← Nat.add_assoc] at this
  exact ⟨b, off, hA, hb, key 0 _ (by omega) rfl, key 1 _ (by omega) rfl, key 2 _ (by omega) rfl⟩
end Go.Proofs.YtfnmbpjkjajpcaaGreatDoor
namespace Go.Proofs.YtfnmbpjkjajpcaaGreatDoor
open Go.ChangeShapes Go.WideShapes Go.ChangeAt Go.RowKit
set_option linter.unusedVariables false
structure After (W : World) where
  x : World
  h : Ext W x
instance {W : World} : Nonempty (After W) := ⟨⟨W, Ext.refl W⟩⟩
theorem wp_region_after {P : Program} {id : Nat} {Q : Exit → Act → World → Prop} {a : Act} {W : World} {l : List Oper} (hm : P.follows .mixedOrders = true) (hB : Region.lexB .any l.toArray = true)
    (h : wpQuiet P l.toArray (fun w' => ∃ p : After W, w' = p.x) (fun a' => ∀ w', (∃ p : After W, w' = p.x) → Q .normal a' w') l a) : (Code.region id l.toArray true).wp P Q a W :=
  wp_region_quiet (C := fun w' => ∃ p : After W, w' = p.x) hm hB ⟨⟨W.drew, (Ext.refl W).drew⟩, rfl⟩ (by simpa using h)
theorem Calls.after_of {P : Program} {f : FuncId} {args : Array Value} {W : World} {p : After W} {v : Value}
    (h : Calls P f args p.x fun e w' => e = .returned v ∧ Ext p.x w') : Calls P f args p.x fun e w'' => e = .returned v ∧ ∃ q : After W, w'' = q.x :=
  h.mono fun _ w'' ⟨h1, h2⟩ => ⟨h1, ⟨w'', p.h.trans h2⟩, rfl⟩
end Go.Proofs.YtfnmbpjkjajpcaaGreatDoor
