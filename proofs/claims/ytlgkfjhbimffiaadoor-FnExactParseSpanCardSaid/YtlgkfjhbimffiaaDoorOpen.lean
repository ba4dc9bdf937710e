/- Arguments opened: a value of a type that holds ints alone is a list of ints; a slice of such values is a row of ints. And the last step of a law's row. -/
import Derived.Test.YtlgkfjhbimffiaaDoorMem
import Derived.ChangeOld
import Derived.ShutString
namespace Go.Proofs.YtlgkfjhbimffiaaDoor
open Go.ChangeShapes Go.WideShapes Go.ChangeAt Go.RowKit
open Go.ChangeMaps (open_string shut_string)

theorem own : ownKnob Tryd.prog.godebug = none := by kernel_rfl
theorem laidOut : laidOutB Tryd.prog = true := by kernel_rfl

def flatFs (P : Program) (r : TypeId → Bool) : Nat → List Field → Option Nat
  | o, [] => some o
  | o, f :: fs => if f.offset = o ∧ r f.type = true then flatFs P r (o + P.cellsOf f.type) fs else none

def flatB (P : Program) : Nat → TypeId → Bool
  | 0, _ => false
  | n + 1, t => match P.underlying t with
    | some (.int .i64) => P.cellsOf t == 1
    | some (.struct fs) => flatFs P (flatB P n) 0 fs.toList == some (P.cellsOf t)
    | _ => false

section
variable {H : Type} {enc : TypeId × Value → H} {P : Program} {w : World} {base : Nat} {spare : Nat → Bool} {held : Bool}

theorem flatFs_open {r : TypeId → Bool} {fuel K : Nat} {cs : List Value}
    (hr : ∀ t cs' (x : DataW H × List MemPlace), r t = true → DataW.trod enc P w base spare held fuel t cs' = some x → ∃ zs, zs.length = P.cellsOf t ∧ cs' = ints zs ∧ ∀ z ∈ zs, I64 z) :
    ∀ (fs : List Field) (o : Nat), flatFs P r o fs = some K → K = cs.length →
      (∀ f ∈ fs, ∃ x : DataW H × List MemPlace, DataW.trod enc P w base spare held fuel f.type ((cs.drop f.offset).take (P.cellsOf f.type)) = some x) →
      ∃ zs, cs.drop o = ints zs ∧ ∀ z ∈ zs, I64 z := by
  intro fs
  induction fs with
  | nil =>
    intro o h hK _
    simp only [flatFs, Option.some.injEq] at h
    exact ⟨[], by rw [List.drop_eq_nil_of_le (by omega)]; rfl, by simp⟩
  | cons f fs ih =>
    intro o h hK hx
    simp only [flatFs] at h
    split at h
    · rename_i hc
      obtain ⟨ho, hrf⟩ := hc
      obtain ⟨zs2, h2, hw2⟩ := ih _ h hK (fun g hg => hx g (List.mem_cons_of_mem _ hg))
      obtain ⟨x, hxf⟩ := hx f (List.mem_cons_self ..)
      obtain ⟨zs1, _, h1, hw1⟩ := hr _ _ _ hrf hxf
      refine ⟨zs1 ++ zs2, ?_, fun z hz => ?_⟩
      · rw [ints_append, ← h1, ← h2, ho, ← List.drop_drop, List.take_append_drop]
      · rcases List.mem_append.1 hz with hz | hz
        · exact hw1 z hz
        · exact hw2 z hz
    · cases h

theorem flat_open : ∀ (n : Nat) (t : TypeId) (fuel : Nat) (cs : List Value) (x : DataW H × List MemPlace), flatB P n t = true → DataW.trod enc P w base spare held fuel t cs = some x →
    ∃ zs, zs.length = P.cellsOf t ∧ cs = ints zs ∧ ∀ z ∈ zs, I64 z := by
  intro n
  induction n with
  | zero => intro t fuel cs x h; simp [flatB] at h
  | succ n ih =>
    intro t fuel cs x h hx
    unfold flatB at h
    split at h
    · rename_i hu
      obtain ⟨z, rfl, _, hw⟩ := DataW.trod_int hu hx
      exact ⟨[z], by simpa using (beq_iff_eq.1 h).symm, rfl, by simpa using I64_of_wf hw⟩
    · rename_i fs hu
      obtain ⟨xs, m, _, _, hl, hxl, hf⟩ := DataW.trod_struct hu hx
      have hk := beq_iff_eq.1 h
      obtain ⟨zs, hz, hw⟩ := flatFs_open (enc := enc) (w := w) (base := base) (spare := spare) (held := held) (fuel := m) (cs := cs)
        (fun t' cs' x' hr' hx' => ih t' m cs' x' hr' hx') fs.toList 0 hk hl.symm (fun f hf' => by
          obtain ⟨i, hi⟩ := List.mem_iff_getElem?.1 hf'
          have hi' : fs[i]? = some f := by simpa using hi
          have hlt : i < fs.size := (Array.getElem?_eq_some_iff.1 hi').1
          exact ⟨xs[i]'(by omega), by rw [hf i f hi', List.getElem?_eq_getElem]⟩)
      rw [List.drop_zero] at hz
      exact ⟨zs, by rw [← hl, hz, ints_length], hz, hw⟩
    · cases h

theorem add_none {a : Addr} {n : Nat} {v : Value} (h : w.cell? (a.add n) = some v) : ∃ b off, a = ⟨b, off, none⟩ ∨ (n ≠ 0 ∧ a = ⟨b, off, a.spot⟩) := by
  exact ⟨a.block, a.off, by
    by_cases hn : n = 0
    · subst hn
      have := World.cell?_spot h
      left
      cases a
      simp [Addr.add] at this
      simp [this]
    · right; exact ⟨hn, rfl⟩⟩

/-- A slice of a type that holds ints alone. -/
theorem open_flat_slice {n : Nat} {t e : TypeId} {fuel : Nat} {cs : List Value} {x : DataW H × List MemPlace} (ht : P.underlying t = some (.slice e)) (he : flatB P n e = true)
    (h : DataW.trod enc P w base spare held fuel t cs = some x) :
    ∃ A len cap zs, cs = [.slice A len cap] ∧ zs.length = len * P.cellsOf e ∧ Row w A (ints zs) ∧ len ≤ cap ∧ cap ≤ maxLen ∧ ∀ z ∈ zs, I64 z := by
  rcases Go.DataW.trod_slice ht h with ⟨rfl, _⟩ | ⟨a, len, cap, elems, rest, m, _, rfl, _, _, hl, hm, hlen, hel, _, _⟩
  · exact ⟨none, 0, 0, [], rfl, by simp, .inl rfl, Nat.le_refl _, Nat.zero_le _, by simp⟩
  · have key : ∀ k, k ≤ len → ∃ zs : List Int, zs.length = k * P.cellsOf e ∧ (∀ j v, (ints zs)[j]? = some v → w.cell? (a.add j) = some v) ∧ ∀ z ∈ zs, I64 z := by
      intro k
      induction k with
      | zero => intro _; exact ⟨[], by simp, by simp [ints], by simp⟩
      | succ k ih =>
        intro hk
        obtain ⟨zs, hz, hc, hw⟩ := ih (by omega)
        have hk1 := hel k (by omega)
        rw [List.getElem?_eq_getElem (by omega), Option.bind_eq_some_iff] at hk1
        obtain ⟨cs', hcs, htr⟩ := hk1
        obtain ⟨zs', hz', rfl, hw'⟩ := flat_open n e m cs' _ he htr
        obtain ⟨_, _, hcell⟩ := World.cells?_some hcs
        refine ⟨zs ++ zs', by rw [List.length_append, hz, hz', Nat.add_mul]; omega, fun j v hj => ?_, fun z hz => ?_⟩
        · rw [ints_append, List.getElem?_append] at hj
          split at hj
          · exact hc j v hj
          · rename_i hlt
            rw [ints_length, hz] at hlt hj
            have hjl : j - k * P.cellsOf e < P.cellsOf e := by
              have := (List.getElem?_eq_some_iff.1 hj).1
              rw [ints_length, hz'] at this
              exact this
            have := hcell _ hjl
            rw [hj] at this
            rwa [show (a.add (k * P.cellsOf e)).add (j - k * P.cellsOf e) = a.add j from by
              unfold Addr.add
              by_cases h1 : k * P.cellsOf e = 0 <;> by_cases h2 : j - k * P.cellsOf e = 0 <;> by_cases h3 : j = 0 <;> simp [h1, h2, h3] <;> omega] at this
        · rcases List.mem_append.1 hz with hz | hz
          · exact hw z hz
          · exact hw' z hz
    obtain ⟨zs, hz, hc, hw⟩ := key len (Nat.le_refl _)
    refine ⟨some a, len, cap, zs, rfl, hz, ?_, hl, hm, hw⟩
    by_cases hne : zs = []
    · subst hne; exact .inl rfl
    · have hl0 : 0 < zs.length := by
        cases zs with
        | nil => exact absurd rfl hne
        | cons _ _ => simp
      have h0 := hc 0 _ (ints_get hl0)
      obtain ⟨b, off, hs⟩ := add_none h0
      rcases hs with rfl | ⟨hs, _⟩
      · refine .inr ⟨b, off, rfl, fun j v hj => ?_⟩
        have := hc j v hj
        rwa [show (⟨b, off, none⟩ : Addr).add j = ⟨b, off + j, none⟩ from by unfold Addr.add; split <;> simp_all] at this
      · exact absurd rfl hs

theorem openArg_int {t : TypeId} {r : Reach} {b0 : Nat} {v : Value} {d : DataW H} {p : List MemPlace} (ht : P.underlying t = some (.int .i64)) (hv : Value.okWide P w r b0 t v) (h : DataW.Trod enc P w base spare held t v d p) :
    ∃ z, v = .int .i64 z ∧ I64 z := by
  obtain ⟨z, hz, _, _, hw⟩ := open_int ht hv h
  exact ⟨z, hz, I64_of_wf hw⟩
theorem openArg_flat {n : Nat} {t : TypeId} {fs : Array Field} {r : Reach} {b0 : Nat} {v : Value} {d : DataW H} {p : List MemPlace} (ht : P.underlying t = some (.struct fs)) (he : flatB P n t = true) (hv : Value.okWide P w r b0 t v) (h : DataW.Trod enc P w base spare held t v d p) :
    ∃ zs : List Int, v = .agg (ints zs).toArray ∧ zs.length = P.cellsOf t ∧ ∀ z ∈ zs, I64 z := by
  obtain ⟨cs, rfl, _⟩ := okWide_struct ht hv
  obtain ⟨fuel, hf⟩ := h
  obtain ⟨zs, hl, hz, hw⟩ := flat_open n t fuel _ _ he hf
  refine ⟨zs, ?_, hl, hw⟩
  simp only [Value.cells] at hz
  rw [← hz]
theorem openArg_slice {n : Nat} {t e : TypeId} {r : Reach} {b0 : Nat} {v : Value} {d : DataW H} {p : List MemPlace} (ht : P.underlying t = some (.slice e)) (he : flatB P n e = true)
    (hv : Value.okWide P w r b0 t v) (h : DataW.Trod enc P w base spare held t v d p) :
    ∃ A len cap zs, v = .slice A len cap ∧ zs.length = len * P.cellsOf e ∧ Row w A (ints zs) ∧ len ≤ cap ∧ cap ≤ maxLen ∧ ∀ z ∈ zs, I64 z := by
  obtain ⟨a, l, c, rfl⟩ := okWide_slice ht hv
  obtain ⟨fuel, hf⟩ := h
  obtain ⟨A, len, cap, zs, hcs, rest⟩ := open_flat_slice ht he hf
  refine ⟨A, len, cap, zs, ?_, rest⟩
  simpa [Value.cells] using hcs

/-- a struct of one field, a slice of a type that holds ints alone -/
theorem open_struct1_slice {n : Nat} {t ts e : TypeId} {f : Field} {fuel : Nat} {cs : List Value} {x : DataW H × List MemPlace} (ht : P.underlying t = some (.struct #[f])) (hf : f.offset = 0) (hc : P.cellsOf f.type = 1) (htf : f.type = ts) (hk : P.cellsOf t = 1)
    (hs : P.underlying ts = some (.slice e)) (he : flatB P n e = true) (h : DataW.trod enc P w base spare held fuel t cs = some x) :
    ∃ A len cap zs, cs = [.slice A len cap] ∧ zs.length = len * P.cellsOf e ∧ Row w A (ints zs) ∧ len ≤ cap ∧ cap ≤ maxLen ∧ ∀ z ∈ zs, I64 z := by
  subst htf
  obtain ⟨xs, m, _, _, hl, hxl, hg⟩ := DataW.trod_struct ht h
  have h0 := hg 0 f rfl
  rw [hf, hc, List.drop_zero] at h0
  have hx0 : xs[0]? = some (xs[0]'(by rw [hxl]; exact Nat.one_pos)) := List.getElem?_eq_getElem _
  rw [hx0] at h0
  obtain ⟨A, len, cap, zs, hcs, rest⟩ := open_flat_slice hs he h0
  refine ⟨A, len, cap, zs, ?_, rest⟩
  have h1 : cs.length = 1 := by rw [hl, hk]
  rw [← hcs, List.take_of_length_le (by omega)]

theorem list2 {α : Type} {l : List α} (h : l.length = 2) : ∃ a b, l = [a, b] := by
  match l, h with
  | [a, b], _ => exact ⟨a, b, rfl⟩
theorem list3 {α : Type} {l : List α} (h : l.length = 3) : ∃ a b c, l = [a, b, c] := by
  match l, h with
  | [a, b, c], _ => exact ⟨a, b, c, rfl⟩
theorem list4 {α : Type} {l : List α} (h : l.length = 4) : ∃ a b c d, l = [a, b, c, d] := by
  match l, h with
  | [a, b, c, d], _ => exact ⟨a, b, c, d, rfl⟩
theorem list5 {α : Type} {l : List α} (h : l.length = 5) : ∃ a b c d e, l = [a, b, c, d, e] := by
  match l, h with
  | [a, b, c, d, e], _ => exact ⟨a, b, c, d, e, rfl⟩

theorem trodAll_lt {ts : List TypeId} : ∀ {vs : List Value} {ds : List (DataW H)} {ps : List MemPlace}, DataW.TrodAll enc P w base spare held ts vs ds ps → ∀ x ∈ ps, x.block < w.heap.size := by
  induction ts with
  | nil =>
    intro vs ds ps h
    obtain ⟨_, _, rfl⟩ := trodAll_nil h
    simp
  | cons t ts ih =>
    intro vs ds ps h
    obtain ⟨v, vs', d, ds', p, q, rfl, rfl, rfl, h1, h2⟩ := trodAll_cons h
    intro x hx
    rcases List.mem_append.1 hx with hx | hx
    · obtain ⟨m, hm⟩ := h1
      exact DataW.trod_lt m _ _ _ hm x hx
    · exact ih h2 x hx

theorem trodAll_ext (hl : laidOutB P = true) {ts : List TypeId} (hts : ts.all (fun t => P.readableRec t && decide (t < P.types.size)) = true) :
    ∀ {W W' : World} {vs : List Value} {ds : List (DataW H)} {ps : List MemPlace}, DataW.TrodAll enc P W 0 (fun _ => true) true ts vs ds ps → Ext W W' →
      DataW.TrodAll enc P W' 0 (fun b => decide (b < W.heap.size)) true ts vs ds ps := by
  induction ts with
  | nil =>
    intro W W' vs ds ps h _
    obtain ⟨rfl, rfl, rfl⟩ := trodAll_nil h
    exact trodAll_mk0
  | cons t ts ih =>
    intro W W' vs ds ps h hb
    have hlt := trodAll_lt h
    obtain ⟨v, vs', d, ds', p, q, rfl, rfl, rfl, h1, h2⟩ := trodAll_cons h
    simp only [List.all_cons, Bool.and_eq_true, decide_eq_true_eq] at hts
    exact trodAll_cons_mk (Below.trod hl hts.1.1 hts.1.2 h1 hb (fun x hx => hlt x (List.mem_append_left _ hx))) (ih hts.2 h2 hb)

/-- the last step of a law's row: it returned true in a world that extends the first -/
theorem law_post {f : Func} {s : ChangeSpec} {W W' : World} {args : Array Value} {ds gs : List (DataW H)} {before : List MemPlace} {tb : TypeId} (hl : laidOutB P = true)
    (hts : f.params.toList.all (fun t => P.readableRec t && decide (t < P.types.size)) = true) (hv : s.vars = []) (hb : P.underlying tb = some .bool) (hr : f.resultTypes = #[tb])
    (hW : DataW.Whole enc P f.params.toList s.vars false W args.toList ds gs before)
    (hres : (s.fn H (ds ++ gs)).results = [.lit (.bool true)]) (hargs : (s.fn H (ds ++ gs)).args = ds) (hvars : (s.fn H (ds ++ gs)).vars = []) (hext : Ext W W') :
    s.post enc P f false true false false W args (.bool true) W' := by
  have hW' := hW
  obtain ⟨p, q, hA, hV, rfl, _, _⟩ := hW
  refine ⟨ds, gs, p ++ q, [], p, [], hW', ?_, ?_, ?_, hext.below.frame _, fun h => by cases h⟩
  · rw [hres, hr]
    exact trodAll_mk1 (shut_bool hb _)
  · rw [hargs]
    exact trodAll_ext hl hts hA hext
  · rw [hv, hvars]
    rfl
end
end Go.Proofs.YtlgkfjhbimffiaaDoor
