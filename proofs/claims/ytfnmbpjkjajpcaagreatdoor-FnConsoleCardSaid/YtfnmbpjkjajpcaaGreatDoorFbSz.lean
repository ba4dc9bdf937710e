/- Contracts of valuesAt (an iterator over the corners' values) and support. -/
import Derived.RangeFuncNested
import Derived.RangeFuncBound
import Derived.RangeFuncCalls
import Derived.RangeFuncLeaves
import Derived.Shelf.Abstract
import Derived.WalkKit
import Derived.OwnWalkIn
import Derived.TacticsInMore
import Derived.LoopNIn
import Derived.LoopIn
import Derived.Test.YtfnmbpjkjajpcaaGreatDoorFbCn
import Derived.Test.YtfnmbpjkjajpcaaGreatDoorFbQC
import Derived.Test.YtfnmbpjkjajpcaaGreatDoorFbAp
import Derived.Test.YtfnmbpjkjajpcaaGreatDoorFbGz
import Derived.Test.YtfnmbpjkjajpcaaGreatDoorFbRat
import Derived.Deep.RegionHeld3
import Derived.Test.YtfnmbpjkjajpcaaGreatDoorFbHa
import Derived.Test.YtfnmbpjkjajpcaaGreatDoorFbBz
import Derived.StillTailTactics
import Derived.Test.YtfnmbpjkjajpcaaGreatDoorFbMn
namespace Go.Proofs.YtfnmbpjkjajpcaaGreatDoor
open Go.ChangeShapes Go.WideShapes Go.ChangeAt Go.RowKit Go.Shelf
set_option linter.unusedVariables false
set_option maxRecDepth 100000
attribute [local go_sem] Oper.semAt_some
structure KeepsBut (x y : Nat) (W W' : World) : Prop where
  os : W'.os = W.os
  tape : W'.tape = W.tape
  output : W'.output = W.output
  size : W.heap.size ≤ W'.heap.size
  same : ∀ (k : Nat) (o : Obj), W.heap[k]? = some o → o.isCells = true → k ≠ x → k ≠ y → W'.heap[k]? = some o
theorem KeepsBut.trans {x y : Nat} {A B C : World} (h : KeepsBut x y A B) (k : KeepsBut x y B C) : KeepsBut x y A C :=
  ⟨k.os.trans h.os, k.tape.trans h.tape, k.output.trans h.output, Nat.le_trans h.size k.size, fun i o hi ho h1 h2 => k.same i o (h.same i o hi ho h1 h2) ho h1 h2⟩
theorem KeepsBut.put {x y : Nat} (W : World) (l : Nat) (o o' : Obj) (hl : W.heap[l]? = some o) (hc : o.isCells = false) : KeepsBut x y W (W.putObj l o') := by
  have hg := grownBy_putObj' W l o'
  refine ⟨rfl, rfl, rfl, by simp, fun k p hk hp _ _ => ?_⟩
  have hne : k ≠ l := by
    intro e
    subst e
    rw [hl] at hk
    injection hk with hk
    subst hk
    rw [hc] at hp
    cases hp
  exact (World.putObj_heap_other hne).trans hk
theorem KeepsBut.blk {x y : Nat} {W W' : World} (h : KeepsBut x y W W') {g : Nat} {t : TypeId} {cs : Array Value} (b : Blk W g t cs) (h1 : g ≠ x) (h2 : g ≠ y) : Blk W' g t cs := h.same g _ b rfl h1 h2
theorem KeepsBut.cell {x y : Nat} {W W' : World} (h : KeepsBut x y W W') {p : Addr} {v : Value} (hc : W.cell? p = some v) (h1 : p.block ≠ x) (h2 : p.block ≠ y) : W'.cell? p = some v := by
  obtain ⟨o, ho, hcl⟩ := cells_of_cell hc
  exact (World.cell?_of_block ((h.same _ _ ho hcl h1 h2).trans ho.symm)).trans hc
theorem KeepsBut.refl (x y : Nat) (W : World) : KeepsBut x y W W := ⟨rfl, rfl, rfl, Nat.le_refl _, fun _ _ h _ _ _ => h⟩
theorem KeepsBut.of_ext {x y : Nat} {W W' : World} (h : Ext W W') : KeepsBut x y W W' := ⟨h.os, h.tape, h.output, h.size, fun k o hk _ _ _ => (h.block k (Array.getElem?_eq_some_iff.1 hk).1).trans hk⟩
theorem KeepsBut.setx {x y : Nat} (W : World) (o : Nat) (v : Value) : KeepsBut x y W (W.setCell ⟨x, o, none⟩ v) :=
  ⟨rfl, rfl, rfl, by simp [World.setCell], fun k p hk _ h1 _ => (Below.heap_setCell W ⟨x, o, none⟩ v k h1).trans hk⟩
theorem KeepsBut.sety {x y : Nat} (W : World) (o : Nat) (v : Value) : KeepsBut x y W (W.setCell ⟨y, o, none⟩ v) :=
  ⟨rfl, rfl, rfl, by simp [World.setCell], fun k p hk _ _ h2 => (Below.heap_setCell W ⟨y, o, none⟩ v k h2).trans hk⟩
theorem KeepsBut.row {x y : Nat} {W W' : World} {A : Option Addr} {cs : List Value} (h : KeepsBut x y W W') (hr : Row W A cs) (ho : ∀ ad, A = some ad → ad.block ≠ x ∧ ad.block ≠ y) : Row W' A cs := by
  rcases hr with hr | ⟨g, off, hg, hc⟩
  · exact .inl hr
  · have hb := ho _ hg
    exact .inr ⟨g, off, hg, fun j v hj => h.cell (p := ⟨g, off + j, none⟩) (hc j v hj) hb.1 hb.2⟩
theorem ext_grown {W W' : World} (h : Ext W W') : W.grownBy W' none := ⟨h.os, h.tape, h.output, h.size, fun k hk _ => h.block k hk⟩
abbrev Frac := { x : Int × Int // I64 x.1 ∧ I64 x.2 ∧ 0 < x.2 }
def fracV (x : Frac) : Array Value := #[.int .i64 x.1.1, .int .i64 x.1.2]
theorem fracs_of {a b : Int} : ∀ (l : List Spot), (∀ s ∈ l, I64 (a * s.X + b * s.Y) ∧ I64 s.D ∧ 0 < s.D) → ∃ vs : List Frac, vs.map (·.1) = l.map fun s => (a * s.X + b * s.Y, s.D)
  | [], _ => ⟨[], rfl⟩
  | s :: l, h => by
    obtain ⟨vs, hv⟩ := fracs_of l fun x hx => h x (List.mem_cons_of_mem _ hx)
    exact ⟨⟨(a * s.X + b * s.Y, s.D), h s (List.mem_cons_self ..)⟩ :: vs, by simp [hv]⟩
def farS (s : Int × Int) (x : Frac) : Int × Int := if s.2 = 0 ∨ s.1 * x.1.2 < x.1.1 * s.2 then x.1 else s
def farF (vs : List Frac) : Int × Int := vs.foldl farS (0, 0)
theorem farF_snoc (vs : List Frac) (x : Frac) : farF (vs ++ [x]) = farS (farF vs) x := by simp [farF]
theorem farF_inv (vs : List Frac) : farF vs = (0, 0) ∨ (I64 (farF vs).1 ∧ I64 (farF vs).2 ∧ 0 < (farF vs).2) := by
  have key : ∀ (vs : List Frac) (s : Int × Int), (s = (0, 0) ∨ (I64 s.1 ∧ I64 s.2 ∧ 0 < s.2)) → (vs.foldl farS s = (0, 0) ∨ (I64 (vs.foldl farS s).1 ∧ I64 (vs.foldl farS s).2 ∧ 0 < (vs.foldl farS s).2)) := by
    intro vs
    induction vs with
    | nil => intro s h; exact h
    | cons x vs ih =>
      intro s h
      rw [List.foldl_cons]
      refine ih _ ?_
      unfold farS
      split
      · exact .inr x.2
      · exact h
  exact key vs _ (.inl rfl)
theorem farF_to {a b : Int} {l : List Spot} {vs : List Frac} (hv : vs.map (·.1) = l.map fun s => (a * s.X + b * s.Y, s.D)) : ∀ k, k ≤ l.length → farF (vs.take k) = (farTo a b l k).2 := by
  have hlen : vs.length = l.length := by simpa using congrArg List.length hv
  intro k
  induction k with
  | zero => intro _; rfl
  | succ k ih =>
    intro hk
    have hk2 : k < vs.length := by omega
    have hk3 : k < l.length := by omega
    have hx : (vs[k]).1 = (a * (spotAt l k).X + b * (spotAt l k).Y, (spotAt l k).D) := by
      rw [spotAt_at hk3]
      have := congrArg (fun m => m[k]?) hv
      simpa [List.getElem?_map, List.getElem?_eq_getElem hk2, List.getElem?_eq_getElem hk3] using this
    rw [List.take_succ_eq_append_getElem hk2, farF_snoc, ih (by omega)]
    unfold farS
    rw [hx]
    show _ = (farTo a b l (k + 1)).2
    rw [farTo]
    simp only
    split <;> rfl
theorem valuesAt_any (A : Option Addr) (n c : Nat) (a b : Int) (w : World) :
    Calls Tryz.prog 302 #[.agg #[.slice A n c], .int .i64 a, .int .i64 b] w fun e w' => e = .returned (.func (.func 331) #[] #[.pointer (some ⟨w.heap.size, 0, none⟩), .pointer (some ⟨w.heap.size + 1, 0, none⟩), .pointer (some ⟨w.heap.size + 1 + 1, 0, none⟩)]) ∧
      w' = ((w.alloc (.cells #[.slice A n c] 34)).alloc (.cells #[.int .i64 a] 3)).alloc (.cells #[.int .i64 b] 3) := by
  go_enter Tryz.func302, Tryz.ntmps302
  go_wp2
  go_ret
  exact ⟨rfl, rfl⟩
set_option maxHeartbeats 4000000 in
theorem valuesAt1_in (m l x y P0 P1 P2 : Nat) (A : Option Addr) (n c : Nat) (a b : Int) (hs : List Half) (vs : List Frac) (L : List Spot) (hm : 1 ≤ m) (hn : hs.length = n) (hok : hs.all halfOk = true) (hle : n ≤ 1000000)
    (hL : cornersL hs = L) (hv : vs.map (·.1) = L.map fun s => (a * s.X + b * s.Y, s.D))
    (hb : ∀ s ∈ L, I64 (a * s.X) ∧ I64 (b * s.Y)) (hx0 : x ≠ P0 ∧ x ≠ P1 ∧ x ≠ P2) (hy0 : y ≠ P0 ∧ y ≠ P1 ∧ y ≠ P2)
    (J Jx : List Frac → World → Prop) (W : World) (hJ : AbidesFrom W.heap.size J) (hxl : x < W.heap.size) (hyl : y < W.heap.size)
    (hY : ∀ pre v W1, J pre W1 → pre.length < vs.length → YieldAt Fence.wide (m - 1) Tryz.prog l (fracV v) W1 fun e W' =>
      (e = .returned (.bool true) ∧ J (pre ++ [v]) W' ∧ KeepsBut x y W1 W') ∨ (e = .returned (.bool false) ∧ Jx (pre ++ [v]) W'))
    (b0 : Blk W P0 34 #[.slice A n c]) (b1 : Blk W P1 3 #[.int .i64 a]) (b2 : Blk W P2 3 #[.int .i64 b]) (hr : Row W A (ints (flat Half.ints hs))) (h0 : J [] W) :
    CallsIn Fence.wide m Tryz.prog 331 #[.func (.yield l) #[] #[], .pointer (some ⟨P0, 0, none⟩), .pointer (some ⟨P1, 0, none⟩), .pointer (some ⟨P2, 0, none⟩)] W fun e W' => (∃ v, e = .returned v) ∧
      ((∃ ys, ys = vs ∧ J ys W') ∨ (∃ pre, True ∧ Jx pre W')) := by
  have HC := Lib.hid (corners_any A n c hs W hn hr hok hle)
  rw [hL] at HC
  have HV := Lib.hid hv
  have HB := Lib.hid hb
  have hlen : vs.length = L.length := by simpa using congrArg List.length hv
  have hLl : L.length ≤ 1000000 := by rw [← hL, cornersL_len]; omega
  clear hv hb hL hn hok hle hr
  have c0 := fun o => b0.cell o
  refine callsIn_of_wp Tryz.func331 rfl trivial ?_ rfl
  simp only [Tryz.ntmps331, List.size_toArray, List.length_cons, List.length_nil, Nat.reduceAdd, Nat.reduceSub, Array.replicate_succ, Array.replicate_zero, List.push_toArray, List.append_toArray, List.nil_append, List.cons_append]
  gi_wp2_with (refine ⟨trivial, ?_⟩; gi_at_call 298; refine (callsIn_wide.2 HC.out).mono ?_; rintro e W1 ⟨AL, cL, nL, rfl, hnL, hx1, ownL⟩)
  subst hnL
  have HR := Lib.hid (Row.of_own ownL)
  have HO : Hid (∀ ad, AL = some ad → ad.block ≠ x ∧ ad.block ≠ y) := by
    intro ad h
    subst h
    have := (own_lt ownL (g := ad.block) rfl).1
    omega
  have HS1 := Lib.hid (hx1.size)
  have hJ1 := hJ _ _ _ none h0 (ext_grown hx1) (fun r e => by cases e)
  have d1 := b1.ext hx1
  have d2 := b2.ext hx1
  clear h0 b0 b1 b2 c0 ownL HC
  gi_loopw [10] (fun i wr => ∃ k : Nat, k ≤ L.length ∧ i = .int .i64 k ∧ J (vs.take k) wr ∧ KeepsBut x y W1 wr) (fun i _ => L.length - (intOf i).toNat)
  case atStart => exact ⟨0, Nat.zero_le _, rfl, hJ1, KeepsBut.refl _ _ _⟩
  case round =>
    obtain ⟨k, hk, rfl, hJs, hkp⟩ := hrel
    by_cases hlt : k < L.length
    · have hkv : k < vs.length := by omega
      obtain ⟨bb, off, rfl, hbb, s0, s1, s2⟩ := (hkp.row HR.out HO.out).Spot (k := k) hlt
      obtain ⟨m1, m2⟩ := HB.out (L[k]) (List.getElem_mem hlt)
      have hvk : (vs[k]).1 = (a * (L[k]).X + b * (L[k]).Y, (L[k]).D) := by
        have := congrArg (fun q => q[k]?) HV.out
        simpa [List.getElem?_map, List.getElem?_eq_getElem hkv, List.getElem?_eq_getElem hlt] using this
      have hvi := (vs[k]).2
      have hta : vs.take (k + 1) = vs.take k ++ [vs[k]] := List.take_succ_eq_append_getElem hkv
      obtain ⟨fn, tmps, assign, body, hy, hR⟩ := hY (vs.take k) (vs[k]) (wr.alloc (.cells #[.int .i64 (L[k]).X, .int .i64 (L[k]).Y, .int .i64 (L[k]).D] 38)) (hJ _ _ _ none hJs (World.grownBy_alloc _ _ _) (fun r e => by cases e)) (by rw [List.length_take]; omega)
      rw [fracV, hvk] at hy
      rw [hvk] at hvi
      rw [← hta] at hR
      obtain ⟨h, hh⟩ : ∃ h, L[k] = h := ⟨_, rfl⟩
      rw [hh] at s0 s1 s2 m1 m2 hy hvi hR
      simp only at hy hvi
      clear hh hvk
      have HLT := Lib.hid hlt
      have e1 : IntKind.i64.wrap (a * h.X) = a * h.X := IntWalk.i64_in _ (by unfold I64 at m1; omega)
      have e2 : IntKind.i64.wrap (b * h.Y) = b * h.Y := IntWalk.i64_in _ (by unfold I64 at m2; omega)
      have e3 : IntKind.i64.wrap (a * h.X + b * h.Y) = a * h.X + b * h.Y := IntWalk.i64_in _ (by have := hvi.1; unfold I64 at this; omega)
      have p1 := ((hkp.blk d1 hx0.2.1.symm hy0.2.1.symm).alloc (.cells #[.int .i64 h.X, .int .i64 h.Y, .int .i64 h.D] 38)).cell 0
      have p2 := ((hkp.blk d2 hx0.2.2.symm hy0.2.2.symm).alloc (.cells #[.int .i64 h.X, .int .i64 h.Y, .int .i64 h.D] 38)).cell 0
      gi_wp2
      refine hR.mono ?_
      rintro e W3 (⟨rfl, hJ3, hk3⟩ | ⟨rfl, hJx3⟩)
      · gi_wp2
        go_roundw
        case rel => exact ⟨k + 1, HLT.out, by go_num, hJ3, (hkp.trans (KeepsBut.of_ext ((Ext.refl wr).alloc _))).trans hk3⟩
        case measure => have := HLT.out; simp [intOf]; omega
      · gi_wp2
        refine bodyPost_ret (results_none rfl _ _ _) rfl ?_
        exact ⟨⟨_, rfl⟩, .inr ⟨_, True.intro, hJx3⟩⟩
    · obtain rfl : k = L.length := by omega
      gi_wp2
      go_end0
      exact ⟨⟨_, rfl⟩, .inl ⟨_, rfl, by rw [← hlen, List.take_length] at hJs; exact hJs⟩⟩
theorem Blk.kept {W W' : World} {row : Option Nat} {g : Nat} {t : TypeId} {cs : Array Value} (h : Blk W g t cs) (hg : W.grownBy W' row) (hr : ∀ r, row = some r → ∃ o : Obj, W.heap[r]? = some o ∧ o.isCells = false) : Blk W' g t cs :=
  (grownBy_keeps_cells hg hr h rfl).trans h
set_option maxHeartbeats 8000000 in
theorem implSupport_vs (A : Option Addr) (n c : Nat) (a b : Int) (hs : List Half) (vs : List Frac) (L : List Spot) (w : World) (hn : hs.length = n) (hok : hs.all halfOk = true) (hle : n ≤ 1000000)
    (hL : cornersL hs = L) (hv : vs.map (·.1) = L.map fun s => (a * s.X + b * s.Y, s.D))
    (hb : ∀ s ∈ L, I64 (a * s.X) ∧ I64 (b * s.Y)) (hr : Row w A (ints (flat Half.ints hs))) :
    Calls Tryz.prog 252 #[.agg #[.slice A n c], .int .i64 a, .int .i64 b] w fun e w' => e = .returned (.agg #[.int .i64 (ratioOf (farF vs).1 (farF vs).2).N, .int .i64 (ratioOf (farF vs).1 (farF vs).2).D]) ∧ Ext w w' := by
  have HS0 := Lib.hid (fun m l J Jx W hm hJ hxl hyl hY b0 b1 b2 hr h0 => valuesAt1_in m l (w.heap.size + 1 + 1) (w.heap.size + 1 + 1 + 1) (w.heap.size + 1 + 1 + 1 + 1) (w.heap.size + 1 + 1 + 1 + 1 + 1) (w.heap.size + 1 + 1 + 1 + 1 + 1 + 1) A n c a b hs vs L hm hn hok hle hL hv hb ⟨by omega, by omega, by omega⟩ ⟨by omega, by omega, by omega⟩ J Jx W hJ hxl hyl hY b0 b1 b2 hr h0)
  clear hn hok hle hL hv hb
  have HR := Lib.hid hr
  clear hr
  have hro : Fence.wide.round = none := rfl
  have h1 : 1 ≤ 5 := by decide
  refine (callsIn_wide (n := 5)).1 ?_
  refine callsIn_of_wp_marks Tryz.func252 rfl trivial ?_ rfl
  simp only [Tryz.ntmps252, List.size_toArray, List.length_cons, List.length_nil, Nat.reduceAdd, Nat.reduceSub, Array.replicate_succ, Array.replicate_zero, List.push_toArray, List.append_toArray, List.nil_append, List.cons_append]
  have bP := Blk.new w 34 #[.slice A n c]
  have c0 := fun o => bP.cell o
  gi_wp2_with (refine ⟨trivial, ?_⟩; gi_at_call 302; refine (callsIn_wide.2 (valuesAt_any _ _ _ _ _ _)).mono ?_; rintro e w' ⟨rfl, rfl⟩)
  clear c0
  have hE : Ext w (((((((w.alloc (.cells #[.slice A n c] 34)).alloc (.cells #[.int .i64 0, .int .i64 0] 139)).alloc (.cells #[.int .i64 0] 3)).alloc (.cells #[.int .i64 0] 3)).alloc (.cells #[.slice A n c] 34)).alloc (.cells #[.int .i64 a] 3)).alloc (.cells #[.int .i64 b] 3)) := (((((((Ext.refl w).alloc _).alloc _).alloc _).alloc _).alloc _).alloc _).alloc _
  have bR := ((((((Blk.new (w.alloc (.cells #[.slice A n c] 34)) 139 #[.int .i64 0, .int .i64 0]).alloc (.cells #[.int .i64 0] 3)).alloc (.cells #[.int .i64 0] 3)).alloc (.cells #[.slice A n c] 34)).alloc (.cells #[.int .i64 a] 3)).alloc (.cells #[.int .i64 b] 3))
  have bN := (((((Blk.new ((w.alloc (.cells #[.slice A n c] 34)).alloc (.cells #[.int .i64 0, .int .i64 0] 139)) 3 #[.int .i64 0]).alloc (.cells #[.int .i64 0] 3)).alloc (.cells #[.slice A n c] 34)).alloc (.cells #[.int .i64 a] 3)).alloc (.cells #[.int .i64 b] 3))
  have bD := ((((Blk.new (((w.alloc (.cells #[.slice A n c] 34)).alloc (.cells #[.int .i64 0, .int .i64 0] 139)).alloc (.cells #[.int .i64 0] 3)) 3 #[.int .i64 0]).alloc (.cells #[.slice A n c] 34)).alloc (.cells #[.int .i64 a] 3)).alloc (.cells #[.int .i64 b] 3))
  have b0 := (((Blk.new ((((w.alloc (.cells #[.slice A n c] 34)).alloc (.cells #[.int .i64 0, .int .i64 0] 139)).alloc (.cells #[.int .i64 0] 3)).alloc (.cells #[.int .i64 0] 3)) 34 #[.slice A n c]).alloc (.cells #[.int .i64 a] 3)).alloc (.cells #[.int .i64 b] 3))
  have b1 := ((Blk.new (((((w.alloc (.cells #[.slice A n c] 34)).alloc (.cells #[.int .i64 0, .int .i64 0] 139)).alloc (.cells #[.int .i64 0] 3)).alloc (.cells #[.int .i64 0] 3)).alloc (.cells #[.slice A n c] 34)) 3 #[.int .i64 a]).alloc (.cells #[.int .i64 b] 3))
  have b2 := Blk.new ((((((w.alloc (.cells #[.slice A n c] 34)).alloc (.cells #[.int .i64 0, .int .i64 0] 139)).alloc (.cells #[.int .i64 0] 3)).alloc (.cells #[.int .i64 0] 3)).alloc (.cells #[.slice A n c] 34)).alloc (.cells #[.int .i64 a] 3)) 3 #[.int .i64 b]
  have hsz : (((((((w.alloc (.cells #[.slice A n c] 34)).alloc (.cells #[.int .i64 0, .int .i64 0] 139)).alloc (.cells #[.int .i64 0] 3)).alloc (.cells #[.int .i64 0] 3)).alloc (.cells #[.slice A n c] 34)).alloc (.cells #[.int .i64 a] 3)).alloc (.cells #[.int .i64 b] 3)).heap.size = w.heap.size + 7 := by simp only [World.size_alloc]
  simp only [World.size_alloc] at bR bN bD b0 b1 b2
  clear bP
  generalize (((((((w.alloc (.cells #[.slice A n c] 34)).alloc (.cells #[.int .i64 0, .int .i64 0] 139)).alloc (.cells #[.int .i64 0] 3)).alloc (.cells #[.int .i64 0] 3)).alloc (.cells #[.slice A n c] 34)).alloc (.cells #[.int .i64 a] 3)).alloc (.cells #[.int .i64 b] 3)) = W0 at *
  refine wpIn_rangeFunc_ownF hro h1 (gf := 331) (lb := #[.pointer (some ⟨w.heap.size + 1 + 1 + 1 + 1, 0, none⟩), .pointer (some ⟨w.heap.size + 1 + 1 + 1 + 1 + 1, 0, none⟩), .pointer (some ⟨w.heap.size + 1 + 1 + 1 + 1 + 1 + 1, 0, none⟩)]) rfl trivial (enters_of Tryz.func331 (by kernel_rfl) rfl)
    (encs := fracV) (Kp := KeepsBut (w.heap.size + 1 + 1) (w.heap.size + 1 + 1 + 1)) (S := fun ys => ys = vs) (Sp := fun _ => True) (N := vs.length) (w0 := W0)
    (fun l J Jx W hW hJ hJx hY h0 => HS0.out 4 l J Jx W (by decide) hJ (by have := Ext.size hW; omega) (by have := Ext.size hW; omega) hY (b0.ext hW) (b1.ext hW) (b2.ext hW) ((HR.out.ext hE).ext hW) h0)
    (fun h k => h.trans k) (fun W l o o' _ h hc _ => KeepsBut.put W l o o' h hc) (Below.refl _ _) (fun _ => rfl)
    (fun pre W => (Blk W (w.heap.size + 1) 139 #[.int .i64 0, .int .i64 0] ∧ Blk W (w.heap.size + 1 + 1) 3 #[.int .i64 (farF pre).1] ∧ Blk W (w.heap.size + 1 + 1 + 1) 3 #[.int .i64 (farF pre).2]) ∧ Below w.heap.size w W)
    (fun _ _ _ => False)
    (OwnFrom.and (Own.from (fun s A B row hs hg hr => ⟨hs.1.kept hg hr, hs.2.1.kept hg hr, hs.2.2.kept hg hr⟩) _) (ownFrom_below (Nat.le_refl _) (by omega)))
    (fun _ _ _ _ _ hs _ _ => hs)
    ⟨⟨bR, bN, bD⟩, hE⟩
    (fun x => { tmps := #[.agg #[.slice A n c], .int .i64 a, .int .i64 b, .pointer (some ⟨w.heap.size, 0, none⟩), undef, undef, .pointer (some ⟨w.heap.size + 1, 0, none⟩), .pointer (some ⟨w.heap.size + 1 + 1, 0, none⟩), .pointer (some ⟨w.heap.size + 1 + 1 + 1, 0, none⟩), .int .i64 x.1.1, .int .i64 x.1.2, .agg #[.slice A n c], .int .i64 a, .int .i64 b, .func (.func 331) #[] #[.pointer (some ⟨w.heap.size + 1 + 1 + 1 + 1, 0, none⟩), .pointer (some ⟨w.heap.size + 1 + 1 + 1 + 1 + 1, 0, none⟩), .pointer (some ⟨w.heap.size + 1 + 1 + 1 + 1 + 1 + 1, 0, none⟩)], .int .i64 x.1.1, .int .i64 x.1.2, undef, undef, undef, undef, undef, undef, undef, undef, undef, undef, undef, undef, undef, undef, undef], defers := [] }) ?assign ?body ?done ?stop
  case assign =>
    intro l x W K hK
    simp only [fracV]
    gi_wp2
    exact hK
  case body =>
    rintro l pre x W ⟨⟨hR, hN, hD⟩, hB⟩ _
    have hinv := farF_inv pre
    have hsn := farF_snoc pre x
    unfold farS at hsn
    have hxi := x.2
    obtain ⟨p, hp⟩ : ∃ p, (farF pre).1 = p := ⟨_, rfl⟩
    obtain ⟨q, hq⟩ : ∃ q, (farF pre).2 = q := ⟨_, rfl⟩
    rw [hp] at hN hsn hinv
    rw [hq] at hD hsn hinv
    obtain ⟨t, ht⟩ : ∃ t, x.1.1 = t := ⟨_, rfl⟩
    obtain ⟨u, hu⟩ : ∃ u, x.1.2 = u := ⟨_, rfl⟩
    rw [ht, hu] at hsn hxi ⊢
    have cN := hN.cell 0
    have cD := hD.cell 0
    have fN := hN.frozen 0
    have fD := hD.frozen 0
    have yes : farF (pre ++ [x]) = (t, u) → ownPostK (KeepsBut (w.heap.size + 1 + 1) (w.heap.size + 1 + 1 + 1)) (fun pre W => (Blk W (w.heap.size + 1) 139 #[.int .i64 0, .int .i64 0] ∧ Blk W (w.heap.size + 1 + 1) 3 #[.int .i64 (farF pre).1] ∧ Blk W (w.heap.size + 1 + 1 + 1) 3 #[.int .i64 (farF pre).2]) ∧ Below w.heap.size w W) (fun _ _ _ => False) (pre ++ [x]) W .normal { tmps := #[], defers := [] } ((W.setCell ⟨w.heap.size + 1 + 1, 0, none⟩ (.int .i64 t)).setCell ⟨w.heap.size + 1 + 1 + 1, 0, none⟩ (.int .i64 u)) := by
      intro he
      refine ⟨(KeepsOthers.setCell _ _ _).trans (KeepsOthers.setCell _ _ _), (KeepsBut.setx W 0 _).trans (KeepsBut.sety _ 0 _), ⟨(hR.far (p := ⟨w.heap.size + 1 + 1, 0, none⟩) (by simp) _).far (p := ⟨w.heap.size + 1 + 1 + 1, 0, none⟩) (by simp <;> omega) _, ?_, ?_⟩, (hB.setCell (p := ⟨w.heap.size + 1 + 1, 0, none⟩) (by simp <;> omega) _).setCell (p := ⟨w.heap.size + 1 + 1 + 1, 0, none⟩) (by simp <;> omega) _⟩
      · rw [he]
        exact (hN.set_ 0 (.int .i64 t)).far (p := ⟨w.heap.size + 1 + 1 + 1, 0, none⟩) (by simp) _
      · rw [he]
        exact (hD.far (p := ⟨w.heap.size + 1 + 1, 0, none⟩) (by simp) (.int .i64 t)).set_ 0 (.int .i64 u)
    have no : farF (pre ++ [x]) = farF pre → ownPostK (KeepsBut (w.heap.size + 1 + 1) (w.heap.size + 1 + 1 + 1)) (fun pre W => (Blk W (w.heap.size + 1) 139 #[.int .i64 0, .int .i64 0] ∧ Blk W (w.heap.size + 1 + 1) 3 #[.int .i64 (farF pre).1] ∧ Blk W (w.heap.size + 1 + 1 + 1) 3 #[.int .i64 (farF pre).2]) ∧ Below w.heap.size w W) (fun _ _ _ => False) (pre ++ [x]) W .normal { tmps := #[], defers := [] } W := by
      intro he
      refine ⟨KeepsOthers.refl _, KeepsBut.refl _ _ _, ⟨hR, ?_, ?_⟩, hB⟩
      · rw [he, hp]; exact hN
      · rw [he, hq]; exact hD
    have HY := Lib.hid yes
    have HNo := Lib.hid no
    have hxe : x.1 = (t, u) := by rw [← ht, ← hu]
    rw [hxe] at hsn
    have HSN := Lib.hid hsn
    clear yes no hsn hxe
    by_cases hq0 : q = 0
    · have HE0 : farF (pre ++ [x]) = (t, u) := by rw [HSN.out, if_pos (.inl hq0)]
      have HE := Lib.hid HE0
      have hqb : (q == 0) = true := by rw [hq0]; rfl
      clear HE0 hq0
      gi_wp2
      refine ⟨trivial, ?_⟩
      gi_wp2
      exact HY.out HE.out
    · have hqb : (q == 0) = false := by simpa using hq0
      rcases hinv with h0 | ⟨i1, i2, i3⟩
      · rw [h0] at hq
        exact absurd hq.symm hq0
      have HC := Lib.hid (compareFractions_any t u p q W hxi.1 hxi.2.1 i1 i2 hxi.2.2 i3)
      by_cases hgt : p * u < t * q
      · have HE0 : farF (pre ++ [x]) = (t, u) := by rw [HSN.out, if_pos (.inr hgt)]
        have HE := Lib.hid HE0
        clear HE0
        rw [cmpI_gt hgt] at HC
        clear hgt
        gi_wp2_with (refine ⟨trivial, ?_⟩; gi_at_call 273; refine (CallsIn.inRound l (callsIn_wide.2 HC.out)).mono ?_; rintro e w' ⟨rfl, rfl⟩)
        exact HY.out HE.out
      · have HE0 : farF (pre ++ [x]) = farF pre := by rw [HSN.out, if_neg (by intro h; rcases h with h | h; exact hq0 h; exact hgt h)]
        have HE := Lib.hid HE0
        clear HE0
        obtain ⟨k, hk, hk0⟩ : ∃ k, cmpI (t * q) (p * u) = k ∧ ¬ 0 < k := ⟨_, rfl, by unfold cmpI; split <;> (try split) <;> omega⟩
        rw [hk] at HC
        clear hk hgt
        gi_wp2_with (refine ⟨trivial, ?_⟩; gi_at_call 273; refine (CallsIn.inRound l (callsIn_wide.2 HC.out)).mono ?_; rintro e w' ⟨rfl, rfl⟩)
        exact HNo.out HE.out
  case done =>
    rintro D ys W hD rfl ⟨⟨hR, hN, hDD⟩, hB⟩ hK
    have hinv := farF_inv ys
    obtain ⟨p, hp⟩ : ∃ p, (farF ys).1 = p := ⟨_, rfl⟩
    obtain ⟨q, hq⟩ : ∃ q, (farF ys).2 = q := ⟨_, rfl⟩
    rw [hp, hq] at hinv
    rw [hp] at hN
    rw [hq] at hDD
    have hi : I64 p ∧ I64 q := by
      rcases hinv with h | h
      · rw [← hp, ← hq, h]
        unfold I64
        omega
      · exact ⟨h.1, h.2.1⟩
    have HC := Lib.hid (fun w => implRatioOf_any p q w hi.1 hi.2)
    have HQ : Hid ((ratioOf (farF ys).1 (farF ys).2) = ratioOf p q) := by rw [hp, hq]; exact rfl
    clear hinv hp hq hi
    obtain ⟨r, hr⟩ : ∃ r, ratioOf p q = r := ⟨_, rfl⟩
    rw [hr] at HC HQ
    clear hr
    have cN := hN.cell 0
    have cD := hDD.cell 0
    have hDl : D < W.heap.size := (Array.getElem?_eq_some_iff.1 hK).1
    have hW0 : w.heap.size + 7 ≤ D := by omega
    gi_wp2_with (refine ⟨trivial, ?_⟩; gi_at_call 191; refine (callsIn_wide.2 (HC.out _)).mono ?_; rintro e W9 ⟨rfl, hx9⟩; have b9 := hR.ext hx9; have c9 := fun o => b9.cell o; have f9 := fun o => b9.frozen o)
    have hK9 : W9.heap[D]? = some (.deferred (some [])) := (hx9.block D hDl).trans hK
    have hKs := ((KeepsOthers.setCell W9 ⟨w.heap.size + 1, 0, none⟩ (.int .i64 r.N)).trans (KeepsOthers.setCell _ ⟨w.heap.size + 1, 1, none⟩ (.int .i64 r.D))).same D _ hK9 rfl
    refine ⟨by simp, .inl ⟨_, _, rfl, run_takeDeferred hKs, ?_⟩⟩
    have bF := ((b9.set_ 0 (.int .i64 r.N)).set_ 1 (.int .i64 r.D))
    have hBF : Ext w ((W9.setCell ⟨w.heap.size + 1, 0, none⟩ (.int .i64 r.N)).setCell ⟨w.heap.size + 1, 1, none⟩ (.int .i64 r.D)) := ((Ext.trans hB hx9).setCell (p := ⟨w.heap.size + 1, 0, none⟩) (by simp <;> omega) _).setCell (p := ⟨w.heap.size + 1, 1, none⟩) (by simp <;> omega) _
    generalize (W9.setCell ⟨w.heap.size + 1, 0, none⟩ (.int .i64 r.N)).setCell ⟨w.heap.size + 1, 1, none⟩ (.int .i64 r.D) = V at *
    have bG : Blk (V.putObj D (.deferred none)) (w.heap.size + 1) 139 #[.int .i64 r.N, .int .i64 r.D] := (World.putObj_heap_other (by omega)).trans bF
    have cG := fun o => bG.cell o
    refine ⟨.agg #[.int .i64 r.N, .int .i64 r.D], ?_, by rw [HQ.out], hBF.grown (grownBy_putObj' V D _) (fun k e => by cases e; omega)⟩
    simp [results, Tryz.results252, go_sem, cG]
  case stop =>
    rintro D c pre W _ _ h _
    exact h.elim
theorem corners_same {hs : List Half} (h : Shape hs) : cornersL hs = cornL hs := by
  refine List.ext_getElem (by rw [cornersL_len, cornL_len]) fun i h1 h2 => ?_
  have hi : i < hs.length := by rwa [cornersL_len] at h1
  have hu := Nat.mod_lt (i + 1) h.pos
  have co := h.corner hi hu
  have e : (cornersL hs)[i] = cornerAt hs i := by simp [cornersL, cornersTo]
  rw [h.corn hi hu, e]
  unfold cornerAt
  rw [halfAt_at hi, halfAt_at hu]
  unfold crossS
  rw [low_ok (ptB_of (small_ok (all_ok h.all _ (List.getElem_mem hi))) (small_ok (all_ok h.all _ (List.getElem_mem hu)))) (co.box h.good)]
  rfl
theorem shape_vs {a b : Int} (ha : -50000 ≤ a ∧ a ≤ 50000) (hb : -50000 ≤ b ∧ b ≤ 50000) {hs : List Half} (h : Shape hs) : ∀ s ∈ cornL hs, (I64 (a * s.X) ∧ I64 (b * s.Y)) ∧ I64 (a * s.X + b * s.Y) ∧ I64 s.D ∧ 0 < s.D := by
  intro s hs
  have B := h.spotB s hs
  have h1 := mul_bd (a := a) (b := s.X) (A := 50000) (B := 1000 * s.D) ha ⟨B.x1, B.x2⟩
  have h2 := mul_bd (a := b) (b := s.Y) (A := 50000) (B := 1000 * s.D) hb ⟨B.y1, B.y2⟩
  have d1 := B.d1
  have d2 := B.d2
  unfold I64
  omega
theorem implSupport_any (A : Option Addr) (n c : Nat) (a b : Int) (hs : List Half) (w : World) (hn : hs.length = n) (hk : regOk hs = true) (hne : hs ≠ []) (ha : -50000 ≤ a ∧ a ≤ 50000) (hb : -50000 ≤ b ∧ b ≤ 50000)
    (hr : Row w A (ints (flat Half.ints hs))) :
    Calls Tryz.prog 252 #[.agg #[.slice A n c], .int .i64 a, .int .i64 b] w fun e w' => e = .returned (.agg #[.int .i64 (suppR hs a b).N, .int .i64 (suppR hs a b).D]) ∧ Ext w w' := by
  have hS := shape_of hk hne
  have hv0 := shape_vs ha hb hS
  have hL : cornersL hs = cornL hs := corners_same hS
  have hl : (cornL hs).length = hs.length := cornL_len hs
  obtain ⟨vs, hv⟩ := fracs_of (a := a) (b := b) (cornL hs) (fun s h => (hv0 s h).2)
  have hf := farF_to hv (cornL hs).length (Nat.le_refl _)
  have hlen : vs.length = (cornL hs).length := by simpa using congrArg List.length hv
  rw [← hlen, List.take_length] at hf
  rw [hlen, hl] at hf
  have hq := implSupport_vs A n c a b hs vs (cornL hs) w hn (regOk_all hk) (by have := regOk_len hk; omega) hL hv (fun s h => (hv0 s h).1) hr
  rw [hf] at hq
  exact hq
end Go.Proofs.YtfnmbpjkjajpcaaGreatDoor
namespace Go.Proofs.YtfnmbpjkjajpcaaGreatDoor
open Go.ChangeShapes Go.WideShapes Go.ChangeAt Go.RowKit
set_option linter.unusedVariables false
set_option maxRecDepth 100000
end Go.Proofs.YtfnmbpjkjajpcaaGreatDoor
namespace Go.Proofs.YtfnmbpjkjajpcaaGreatDoor
open Go.ChangeShapes Go.WideShapes Go.ChangeAt Go.RowKit
set_option linter.unusedVariables false
set_option maxRecDepth 100000
theorem halves_add (l : List Half) (s : Half) : ints (flat Half.ints (l ++ [s])) = ints (flat Half.ints l) ++ #[.int .i64 s.A, .int .i64 s.B, .int .i64 s.C].toList := by
  unfold flat; rw [List.flatMap_append, ints_append]; simp [Half.ints, ints]
def movedTo (f : Half → Half × Bool) (hs : List Half) (k : Nat) : List Half := (hs.take k).map fun h => (f h).1
theorem movedTo_succ {f : Half → Half × Bool} {hs : List Half} {k : Nat} (h : k < hs.length) : movedTo f hs (k + 1) = movedTo f hs k ++ [(f hs[k]).1] := by
  unfold movedTo
  rw [List.take_succ_eq_append_getElem h, List.map_append]
  rfl
theorem movedTo_all (f : Half → Half × Bool) (hs : List Half) : movedTo f hs hs.length = hs.map fun h => (f h).1 := by unfold movedTo; rw [List.take_length]
theorem moved_fail {f : Half → Half × Bool} {hs : List Half} {k : Nat} (hk : k < hs.length) (h : (f hs[k]).2 = false) : movedR f hs = ([], false) := by
  unfold movedR
  rw [if_neg (fun e => by rw [e] at hk; simp at hk), if_neg]
  intro e
  have := List.all_eq_true.1 e _ (List.getElem_mem hk)
  rw [h] at this
  cases this
theorem moved_full {f : Half → Half × Bool} {hs : List Half} (hne : hs ≠ []) (h : ∀ k (hk : k < hs.length), (f hs[k]).2 = true) : movedR f hs = fitR (madeOf (hs.map fun h => (f h).1)) := by
  unfold movedR
  rw [if_neg hne, if_pos]
  refine List.all_eq_true.2 fun x hx => ?_
  obtain ⟨i, hi, rfl⟩ := List.getElem_of_mem hx
  exact h i hi
theorem moved_void (f : Half → Half × Bool) : movedR f [] = ([], true) := rfl
set_option maxHeartbeats 8000000 in
theorem implMoved_any (fk : Nat) (lb : Array Value) (f : Half → Half × Bool) (A : Option Addr) (n c : Nat) (hs : List Half) (w : World) (hn : hs.length = n) (hr : Row w A (ints (flat Half.ints hs))) (hle : n ≤ 1000)
    (he : ∀ args w, (callFunc fk args).run Tryz.prog w = .ok (.enter fk args) w)
    (hf : ∀ h ∈ hs, ∀ V, Ext w V → Calls Tryz.prog fk (#[.agg #[.int .i64 h.A, .int .i64 h.B, .int .i64 h.C]] ++ lb) V fun e V' => e = .returned (.tuple #[.agg #[.int .i64 (f h).1.A, .int .i64 (f h).1.B, .int .i64 (f h).1.C], .bool (f h).2]) ∧ Ext V V')
    (hok : ∀ h ∈ hs, (f h).2 = true → halfOk (f h).1 = true) :
    Calls Tryz.prog 336 #[.agg #[.slice A n c], .func (.func fk) #[] lb] w (RegMade (movedR f hs) w) := by
  obtain ⟨i0, hi0, hz0, hz1, hz2⟩ := info_parts half_info
  have hx : Ext w ((w.alloc (.cells #[.slice A n c] 34)).alloc (.cells #[.slice none 0 0] 34)) := ((Ext.refl w).alloc _).alloc _
  have bP := (Blk.new w 34 #[.slice A n c]).alloc (.cells #[.slice none 0 0] 34)
  have bR := Blk.new (w.alloc (.cells #[.slice A n c] 34)) 34 #[.slice none 0 0]
  simp only [World.size_alloc] at bR
  have HR := Lib.hid hr
  have HN := Lib.hid hn
  have HF : Hid (∀ k (hk : k < hs.length) V, Ext w V → Calls Tryz.prog fk (#[.agg #[.int .i64 hs[k].A, .int .i64 hs[k].B, .int .i64 hs[k].C]] ++ lb) V fun e V' => e = .returned (.tuple #[.agg #[.int .i64 (f hs[k]).1.A, .int .i64 (f hs[k]).1.B, .int .i64 (f hs[k]).1.C], .bool (f hs[k]).2]) ∧ Ext V V') := fun k hk V hV => hf _ (List.getElem_mem hk) V hV
  have HK : Hid (∀ k (hk : k < hs.length), (f hs[k]).2 = true → halfOk (f hs[k]).1 = true) := fun k hk h => hok _ (List.getElem_mem hk) h
  have HV := Lib.hid (fun w => implIsVoid_any A n c w (by unfold maxLen; omega))
  have cP := fun o => bP.cell o
  clear hr hn hf hok
  go_enter Tryz.func336, Tryz.ntmps336
  go_wp2_with fail
  refine (HV.out _).mono ?_
  rintro e w1 ⟨rfl, hx1⟩
  replace hx := hx.trans hx1
  replace bP := bP.ext hx1
  replace bR := bR.ext hx1
  clear cP
  have cR := fun o => bR.cell o
  have fR := fun o => bR.frozen o
  by_cases h0 : n = 0
  · have hv : decide (n = 0) = true := by simpa using h0
    have HM : Hid (movedR f hs = ([], true)) := by
      have : hs = [] := List.length_eq_zero_iff.1 (HN.out.trans h0)
      rw [this]
      exact moved_void f
    rw [hv]
    clear h0 hv
    go_wp2
    have bF := bR.set_ 0 (.slice none 0 0)
    have cF := fun o => bF.cell o
    clear cR fR
    refine bodyPost_ret (v := .tuple #[.agg #[.slice none 0 0], .bool true]) (by simp [results, Tryz.results336, go_sem, cF]) rfl ?_
    exact RegMade.nil true HM.out rfl (hx.setCell (by first | omega | (simp <;> omega)) _)
  have hv : decide (n = 0) = false := by simpa using h0
  rw [hv]
  have hn0 : 0 < n := by omega
  clear h0 hv
  have cP := fun o => bP.cell o
  go_wp2
  clear cP cR fR
  go_loopw [6, 17] (fun v i wr => ∃ k : Nat, k ≤ n ∧ i = .int .i64 k ∧ (∀ j (hj : j < hs.length), j < k → (f hs[j]).2 = true) ∧ Ext w wr ∧ Blk wr (w.heap.size + 1) 34 #[.slice none 0 0] ∧ wr.ownsRow (w.heap.size + 2) 116 3 v k (ints (flat Half.ints (movedTo f hs k)))) (fun _ i _ => n - (intOf i).toNat)
  case atStart => exact ⟨0, Nat.zero_le _, rfl, fun j _ h => by omega, hx, bR, World.ownsRow_nil _ _ _ _⟩
  case round =>
  obtain ⟨k, hk, rfl, hall, hy, bQ, hown⟩ := hrel
  have hsz := hy.size
  have hQl := bQ.lt
  have HAll := Lib.hid hall
  clear hall
  by_cases hlt : k < n
  rotate_left
  · obtain rfl : k = n := by omega
    obtain ⟨A', c', rfl⟩ := own_form hown
    have hne : hs ≠ [] := fun e => by have := HN.out; rw [e] at this; simp at this; omega
    have HM := Lib.hid (moved_full hne (fun j hj => HAll.out j hj (by have := HN.out; omega)))
    have hmt : movedTo f hs k = hs.map fun h => (f h).1 := by rw [← HN.out]; exact movedTo_all f hs
    rw [hmt] at hown
    have hml : (hs.map fun h => (f h).1).length = k := by rw [List.length_map]; exact HN.out
    have hma : (hs.map fun h => (f h).1).all halfOk = true := by
      refine List.all_eq_true.2 fun x hx => ?_
      obtain ⟨y, hy, rfl⟩ := List.mem_map.1 hx
      obtain ⟨j, hj, rfl⟩ := List.getElem_of_mem hy
      exact HK.out j hj (HAll.out j hj (by have := HN.out; omega))
    have HMA := Lib.hid (meetAll_any A' k c' (hs.map fun h => (f h).1) wr hml (Row.of_own hown) hn0 hle hma)
    rw [← HM.out] at HMA
    clear hml hma hmt hown
    go_wp2_with fail
    refine (HMA.out).mono ?_
    rintro e w3 ⟨A3, c3, n3, rfl, hn3, hx3, hown3⟩
    have b3 := bQ.ext hx3
    have c0 := fun o => b3.cell o
    have f0 := fun o => b3.frozen o
    have hy3 := hy.trans hx3
    subst hn3
    generalize movedR f hs = r at *
    go_wp2
    have bF := b3.set_ 0 (.slice A3 r.1.length c3)
    have cF := fun o => bF.cell o
    clear c0 f0
    refine bodyPost_ret (v := .tuple #[.agg #[.slice A3 r.1.length c3], .bool r.2]) (by simp [results, Tryz.results336, go_sem, cF]) rfl ?_
    exact ⟨A3, c3, _, rfl, rfl, hy3.setCell (by simp) _, own_base (own_far hown3 (by simp <;> omega) _) (by omega)⟩
  have hkl : k < hs.length := by rw [HN.out]; exact hlt
  obtain ⟨b, off, rfl, hb, c0, c1, c2⟩ := (HR.out.ext hy).Half (k := k) hkl
  have HFk := Lib.hid (HF.out k hkl)
  have HMk := Lib.hid (movedTo_succ (f := f) hkl)
  have HFail := Lib.hid (moved_fail (f := f) hkl)
  have HKk := Lib.hid (HAll.out)
  have HNext : Hid ((f hs[k]).2 = true → ∀ j (hj : j < hs.length), j < k + 1 → (f hs[j]).2 = true) := by
    intro h j hj hjk
    by_cases e : j = k
    · subst e; exact h
    · exact HAll.out j hj (by omega)
  obtain ⟨F, hF⟩ : ∃ F, f hs[k] = F := ⟨_, rfl⟩
  rw [hF] at HFk HMk HFail HNext
  obtain ⟨g, hg⟩ : ∃ g, hs[k]'hkl = g := ⟨_, rfl⟩
  rw [hg] at c0 c1 c2 HFk
  clear hF hg hkl HKk
  obtain ⟨F1, ok⟩ := F
  dsimp only at HFk HMk HFail HNext
  have bG := Blk.new wr 116 #[.int .i64 g.A, .int .i64 g.B, .int .i64 g.C]
  have cG := fun o => bG.cell o
  have hA := (Ext.refl wr).alloc (.cells #[.int .i64 g.A, .int .i64 g.B, .int .i64 g.C] 116)
  replace hy := hy.trans hA
  replace bQ := bQ.ext hA
  replace hown := own_ext hown hA
  go_wp2_with fail
  refine (HFk.out _ hy).mono ?_
  rintro e w5 ⟨rfl, hx5⟩
  replace hy := hy.trans hx5
  replace bQ := bQ.ext hx5
  replace hown := own_ext hown hx5
  have hQ5 := bQ.lt
  have bQ5 := bQ
  have hy5 := hy
  have b2 := Blk.new w5 116 #[.int .i64 F1.A, .int .i64 F1.B, .int .i64 F1.C]
  have hA5 := (Ext.refl w5).alloc (.cells #[.int .i64 F1.A, .int .i64 F1.B, .int .i64 F1.C] 116)
  replace hy := hy.trans hA5
  replace bQ := bQ.ext hA5
  replace hown := own_ext hown hA5
  have c2_ := fun o => b2.cell o
  have cQ := fun o => bQ.cell o
  have fQ := fun o => bQ.frozen o
  clear c0 c1 c2 cG
  cases ok
  · have HM := Lib.hid (HFail.out rfl)
    go_wp2
    have bF := (bQ5.set_ 0 (.slice none 0 0)).alloc (.cells #[.int .i64 F1.A, .int .i64 F1.B, .int .i64 F1.C] 116)
    have cF := fun o => bF.cell o
    clear cQ fQ
    refine bodyPost_ret (v := .tuple #[.agg #[.slice none 0 0], .bool false]) (by simp [results, Tryz.results336, go_sem, cF]) rfl ?_
    exact RegMade.nil false HM.out rfl ((hy5.setCell (by simp) _).alloc _)
  have hsz5 := hy.size
  have hnews := Blk.new (w5.alloc (.cells #[.int .i64 F1.A, .int .i64 F1.B, .int .i64 F1.C] 116)) 116 #[.int .i64 F1.A, .int .i64 F1.B, .int .i64 F1.C]
  have HLT := Lib.hid hlt
  simp only [World.size_alloc] at hnews hsz5
  go_wp2_with (at_builtin; go_must (refine wpList_append_own _ rfl _ _ 32 rfl (w.heap.size + 2) 116 i0 (.agg #[.int .i64 0, .int .i64 0, .int .i64 0]) 3 24 Tryz.underlying32 hi0 hz0 hz1 hz2 rfl (by decide) _ _ _ rfl (hown.alloc _) ⟨w5.heap.size + 1, 0, none⟩ 1 1 #[.int .i64 F1.A, .int .i64 F1.B, .int .i64 F1.C].toList rfl rfl (row_add (fun j v hj => by rw [hnews.cell, Nat.zero_add]; simpa using hj)) (by simp [Value.oneCell']) (by unfold maxLen; omega) (by omega) (by simp; omega) ?_); intro v' w6 hown' hgrow _)
  have hy6 : Ext w w6 := (hy.alloc _).grown hgrow (fun q hq => by have := (hown.lt q hq).1; omega)
  have b6 : Blk w6 (w.heap.size + 1) 34 #[.slice none 0 0] := (hgrow.block (w.heap.size + 1) (bQ.alloc (.cells #[.int .i64 F1.A, .int .i64 F1.B, .int .i64 F1.C] 116)).lt (fun e => by have := (hown.lt _ e.symm).1; omega)).trans (bQ.alloc (.cells #[.int .i64 F1.A, .int .i64 F1.B, .int .i64 F1.C] 116))
  go_roundw
  case rel => exact ⟨k + 1, HLT.out, by go_num, HNext.out (by first | rfl | trivial), hy6, b6, by rw [HMk.out, halves_add]; exact hown'⟩
  case measure => have := HLT.out; simp [intOf]; omega
set_option maxHeartbeats 2000000 in
theorem erode1_any (B : Nat) (h : Half) (A : Option Addr) (n c : Nat) (ws : List Half) (V : World) (bB : Blk V B 34 #[.slice A n c]) (hn : ws.length = n) (hk : regOk ws = true) (hne : ws ≠ []) (hr : Row V A (ints (flat Half.ints ws))) (hh : halfOk h = true) :
    Calls Tryz.prog 337 #[.agg #[.int .i64 h.A, .int .i64 h.B, .int .i64 h.C], .pointer (some ⟨B, 0, none⟩)] V fun e V' => e = .returned (.tuple #[.agg #[.int .i64 (erodeH ws h).1.A, .int .i64 (erodeH ws h).1.B, .int .i64 (erodeH ws h).1.C], .bool (erodeH ws h).2]) ∧ Ext V V' := by
  obtain ⟨b1, b2, b3, b4, b5, b6, hz, _⟩ := halfOk_bd hh
  have hS := shape_of hk hne
  obtain ⟨k1, k2, k3, k4, k5⟩ := supp_ok (a := h.A) (b := h.B) ⟨b1, b2⟩ ⟨b3, b4⟩ hS
  have HSu := Lib.hid (fun V hr => implSupport_any A n c h.A h.B ws V hn hk hne ⟨b1, b2⟩ ⟨b3, b4⟩ hr)
  have HE : Hid (erodeH ws h = halfOfZ (h.A * (suppR ws h.A h.B).D) (h.B * (suppR ws h.A h.B).D) (h.C * (suppR ws h.A h.B).D - (suppR ws h.A h.B).N)) := rfl
  generalize suppR ws h.A h.B = s at *
  have m1 := mul_bd (a := h.A) (b := s.D) (A := 50000) (B := 5000000000) ⟨b1, b2⟩ ⟨by omega, by omega⟩
  have m2 := mul_bd (a := h.B) (b := s.D) (A := 50000) (B := 5000000000) ⟨b3, b4⟩ ⟨by omega, by omega⟩
  have m3 := mul_bd (a := h.C) (b := s.D) (A := 100000000) (B := 5000000000) ⟨b5, b6⟩ ⟨by omega, by omega⟩
  have w1 : IntKind.i64.wrap (h.A * s.D) = h.A * s.D := IntWalk.i64_in _ (by omega)
  have w2 : IntKind.i64.wrap (h.B * s.D) = h.B * s.D := IntWalk.i64_in _ (by omega)
  have w3 : IntKind.i64.wrap (h.C * s.D) = h.C * s.D := IntWalk.i64_in _ (by omega)
  have w4 : IntKind.i64.wrap (h.C * s.D - s.N) = h.C * s.D - s.N := IntWalk.i64_in _ (by omega)
  have HHf := Lib.hid (fun w => implHalfOf_any (h.A * s.D) (h.B * s.D) (h.C * s.D - s.N) w (by unfold I64; omega) (by unfold I64; omega) (by unfold I64; omega))
  rw [← HE.out] at HHf
  have HR := Lib.hid hr
  clear k1 k2 k3 k4 k5 m1 m2 m3 b1 b2 b3 b4 b5 b6 hz hS hn hk hne hr
  generalize erodeH ws h = E at *
  have cB := bB.cell 0
  have cB2 := (bB.alloc (.cells #[.int .i64 h.A, .int .i64 h.B, .int .i64 h.C] 116)).cell 0
  have cB3 := ((bB.alloc (.cells #[.int .i64 h.A, .int .i64 h.B, .int .i64 h.C] 116)).alloc (.cells #[.int .i64 0, .int .i64 0, .int .i64 0] 116)).cell 0
  have hx : Ext V ((V.alloc (.cells #[.int .i64 h.A, .int .i64 h.B, .int .i64 h.C] 116)).alloc (.cells #[.int .i64 0, .int .i64 0, .int .i64 0] 116)) := ((Ext.refl V).alloc _).alloc _
  have bH := (Blk.new V 116 #[.int .i64 h.A, .int .i64 h.B, .int .i64 h.C]).alloc (.cells #[.int .i64 0, .int .i64 0, .int .i64 0] 116)
  have bR := Blk.new (V.alloc (.cells #[.int .i64 h.A, .int .i64 h.B, .int .i64 h.C] 116)) 116 #[.int .i64 0, .int .i64 0, .int .i64 0]
  simp only [World.size_alloc] at bR
  go_enter Tryz.func337, Tryz.ntmps337
  go_wp2_with fail
  refine (HSu.out _ (HR.out.ext hx)).mono ?_
  rintro e w1 ⟨rfl, hx1⟩
  replace hx := hx.trans hx1
  replace bH := bH.ext hx1
  replace bR := bR.ext hx1
  have bS := Blk.new w1 139 #[.int .i64 s.N, .int .i64 s.D]
  have hA1 := (Ext.refl w1).alloc (.cells #[.int .i64 s.N, .int .i64 s.D] 139)
  replace hx := hx.trans hA1
  replace bH := bH.ext hA1
  replace bR := bR.ext hA1
  have cH := fun o => bH.cell o
  have cS := fun o => bS.cell o
  clear cB cB2 cB3
  go_wp2_with fail
  refine (HHf.out _).mono ?_
  rintro e w2 ⟨rfl, hx2⟩
  replace hx := hx.trans hx2
  replace bR := bR.ext hx2
  obtain ⟨⟨x, y, z⟩, ok⟩ := E
  dsimp only
  have c0 := fun o => bR.cell o
  have f0 := fun o => bR.frozen o
  clear cH cS
  go_wp2
  have bF := ((bR.set_ 0 (.int .i64 x)).set_ 1 (.int .i64 y)).set_ 2 (.int .i64 z)
  have cF := fun o => bF.cell o
  clear c0 f0
  refine bodyPost_ret (v := .tuple #[.agg #[.int .i64 x, .int .i64 y, .int .i64 z], .bool ok]) (by simp [results, Tryz.results337, go_sem, cF]) rfl ?_
  exact ⟨rfl, ((hx.setCell (by simp) _).setCell (by simp) _).setCell (by simp) _⟩
set_option maxHeartbeats 4000000 in
theorem implErode_any (A : Option Addr) (n c : Nat) (ps : List Half) (A' : Option Addr) (n' c' : Nat) (ws : List Half) (w : World) (hn : ps.length = n) (hr : Row w A (ints (flat Half.ints ps))) (hpk : ps.all halfOk = true) (hle : n ≤ 1000)
    (hn' : ws.length = n') (hk : regOk ws = true) (hne : ws ≠ []) (hr' : Row w A' (ints (flat Half.ints ws))) :
    Calls Tryz.prog 321 #[.agg #[.slice A n c], .agg #[.slice A' n' c']] w (RegMade (erodeR ps ws) w) := by
  have hx : Ext w (((w.alloc (.cells #[.slice A n c] 34)).alloc (.cells #[.slice A' n' c'] 34)).alloc (.cells #[.slice none 0 0] 34)) := (((Ext.refl w).alloc _).alloc _).alloc _
  have bP := ((Blk.new w 34 #[.slice A n c]).alloc (.cells #[.slice A' n' c'] 34)).alloc (.cells #[.slice none 0 0] 34)
  have bW := (Blk.new (w.alloc (.cells #[.slice A n c] 34)) 34 #[.slice A' n' c']).alloc (.cells #[.slice none 0 0] 34)
  have bR := Blk.new ((w.alloc (.cells #[.slice A n c] 34)).alloc (.cells #[.slice A' n' c'] 34)) 34 #[.slice none 0 0]
  simp only [World.size_alloc] at bW bR
  have cP := fun o => bP.cell o
  have HM := Lib.hid (implMoved_any 337 #[.pointer (some ⟨w.heap.size + 1, 0, none⟩)] (erodeH ws) A n c ps _ hn (hr.ext hx) hle (enters_of Tryz.func337 (by kernel_rfl) rfl)
    (fun h hh V hV => erode1_any (w.heap.size + 1) h A' n' c' ws V (bW.ext hV) hn' hk hne ((hr'.ext hx).ext hV) (List.all_eq_true.1 hpk h hh)) (fun h hh e => halfOfZ_ok e))
  have HE : Hid (movedR (erodeH ws) ps = erodeR ps ws) := rfl
  rw [HE.out] at HM
  generalize erodeR ps ws = r at *
  clear hn hr hpk hn' hk hne hr' hle
  go_enter Tryz.func321, Tryz.ntmps321
  go_wp2_with fail
  refine (HM.out).mono ?_
  rintro e w3 ⟨A3, c3, n3, rfl, hn3, hx3, hown3⟩
  have b3 := bR.ext hx3
  have c0 := fun o => b3.cell o
  have f0 := fun o => b3.frozen o
  have hy3 := hx.trans hx3
  subst hn3
  clear cP
  go_wp2
  have bF := b3.set_ 0 (.slice A3 r.1.length c3)
  have cF := fun o => bF.cell o
  clear c0 f0
  refine bodyPost_ret (v := .tuple #[.agg #[.slice A3 r.1.length c3], .bool r.2]) (by simp [results, Tryz.results321, go_sem, cF]) rfl ?_
  exact ⟨A3, c3, _, rfl, rfl, hy3.setCell (by simp only; omega) _, own_base (own_far hown3 (by simp <;> omega) _) (by simp only [World.size_alloc]; omega)⟩
end Go.Proofs.YtfnmbpjkjajpcaaGreatDoor
namespace Go.Proofs.YtfnmbpjkjajpcaaGreatDoor
open Go.ChangeShapes Go.WideShapes Go.ChangeAt Go.RowKit
set_option linter.unusedVariables false
set_option maxRecDepth 100000
end Go.Proofs.YtfnmbpjkjajpcaaGreatDoor
namespace Go.Proofs.YtfnmbpjkjajpcaaGreatDoor
open Go.ChangeShapes Go.WideShapes Go.ChangeAt Go.RowKit
set_option linter.unusedVariables false
set_option maxRecDepth 100000
theorem halves_I {hs : List Half} (h : hs.all halfOk = true) : HalvesI hs := by
  intro x hx z hz
  obtain ⟨b1, b2, b3, b4, b5, b6, _⟩ := halfOk_bd (List.all_eq_true.1 h x hx)
  simp only [Half.ints, List.mem_cons, List.not_mem_nil, or_false] at hz
  unfold I64
  rcases hz with rfl | rfl | rfl <;> omega
end Go.Proofs.YtfnmbpjkjajpcaaGreatDoor
