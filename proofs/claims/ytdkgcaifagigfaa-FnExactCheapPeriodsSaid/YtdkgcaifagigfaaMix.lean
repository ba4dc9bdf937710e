/- Words for structs of ints and slices: where their rows lie, what may turn; and such arguments opened. -/
import Derived.Test.YtdkgcaifagigfaaHz
import Derived.Test.YtdkgcaifagigfaaPz
namespace Go.Proofs.Ytdkgcaifagigfaa
open Go.ChangeShapes Go.WideShapes Go.ChangeAt Go.RowKit
set_option linter.unusedVariables false

/-- of what was there in a only blocks from lo up to hi may have turned -/
structure Touch (lo hi : Nat) (a b : World) : Prop where
  os : b.os = a.os
  tape : b.tape = a.tape
  output : b.output = a.output
  size : a.heap.size ≤ b.heap.size
  block : ∀ i, i < a.heap.size → i < lo ∨ hi ≤ i → b.heap[i]? = a.heap[i]?
section
variable {a b c : World} {lo hi lo' hi' : Nat}
theorem Touch.refl (lo hi : Nat) (w : World) : Touch lo hi w w := ⟨rfl, rfl, rfl, Nat.le_refl _, fun _ _ _ => rfl⟩
theorem Touch.trans (h : Touch lo hi a b) (k : Touch lo hi b c) : Touch lo hi a c :=
  ⟨k.os.trans h.os, k.tape.trans h.tape, k.output.trans h.output, Nat.le_trans h.size k.size, fun i hi ho => (k.block i (Nat.lt_of_lt_of_le hi h.size) ho).trans (h.block i hi ho)⟩
theorem Touch.mono (h : Touch lo hi a b) (h1 : lo' ≤ lo) (h2 : hi ≤ hi') : Touch lo' hi' a b := ⟨h.os, h.tape, h.output, h.size, fun i hi ho => h.block i hi (by omega)⟩
theorem Touch.of_ext (h : Ext a b) : Touch lo hi a b := ⟨h.os, h.tape, h.output, h.size, fun i hi _ => h.block i hi⟩
theorem Touch.of_only {row : Option Nat} (h : Only row a b) (hr : ∀ g, row = some g → lo ≤ g ∧ g < hi) : Touch lo hi a b :=
  ⟨h.os, h.tape, h.output, h.size, fun i hi ho => h.block i hi (fun e => by have := hr i e.symm; omega)⟩
/-- what the call itself has made may turn -/
theorem Ext.touch (h : Ext a b) (k : Touch lo hi b c) (hl : a.heap.size ≤ lo) : Ext a c :=
  ⟨k.os.trans h.os, k.tape.trans h.tape, k.output.trans h.output, Nat.le_trans h.size k.size, fun i hi => (k.block i (Nat.lt_of_lt_of_le hi h.size) (.inl (by omega))).trans (h.block i hi)⟩
theorem Touch.cell (h : Touch lo hi a b) {p : Addr} {v : Value} (hc : a.cell? p = some v) (hp : p.block < lo ∨ hi ≤ p.block) : b.cell? p = some v := by
  have hlt := World.block_lt_of_cell? a p hc
  have := h.block p.block hlt hp
  unfold World.cell? at hc ⊢
  rw [this]
  exact hc
theorem Row.touch {A : Option Addr} {cs : List Value} (h : Row a A cs) (k : Touch lo hi a b) (hA : ∀ ad, A = some ad → ad.block < lo ∨ hi ≤ ad.block) : Row b A cs := by
  rcases h with h | ⟨g, off, hg, hc⟩
  · exact .inl h
  · exact .inr ⟨g, off, hg, fun j v hj => k.cell (hc j v hj) (show g < lo ∨ hi ≤ g from hA _ hg)⟩
/-- what came in stays where only what the call itself made has turned -/
theorem Row.touch0 {w0 : World} {A : Option Addr} {cs : List Value} (h : Row a A cs) (h0 : Row w0 A cs) (k : Touch lo hi a b) (hl : w0.heap.size ≤ lo) : Row b A cs := by
  by_cases hne : cs = []
  · exact .inl hne
  · obtain ⟨g, off, rfl, hb, _⟩ := h0.at_ hne
    exact h.touch k (fun ad had => by injection had with had; subst had; left; simp only; omega)
theorem Blk.touch {g : Nat} {t : TypeId} {cs : Array Value} (h : Blk a g t cs) (k : Touch lo hi a b) (hg : g < lo ∨ hi ≤ g) : Blk b g t cs := (k.block g h.lt hg).trans h
end

theorem own_cap {w : World} {base : Nat} {e : TypeId} {size n c : Nat} {A : Option Addr} {xs : List Value} (h : w.ownsRow base e size (.slice A n c) n xs) : n ≤ c := by
  rcases h.2 with ⟨hv, h0⟩ | ⟨g, cap, cur, hv, _, _, hn, _⟩
  · subst h0; omega
  · injection hv with _ _ h3; subst h3; exact hn
/-- a slice of the call's own whose block lies from lo up to hi -/
def Mine (w : World) (lo hi : Nat) (e : TypeId) (s : Nat) (v : Value) (n : Nat) (cs : List Value) : Prop :=
  w.ownsRow lo e s v n cs ∧ ∀ g, v.ownBlock = some g → g < hi
section
variable {w w' : World} {lo hi lo' hi' : Nat} {e : TypeId} {s n : Nat} {v : Value} {cs : List Value}
theorem Mine.of_own {A : Option Addr} {c : Nat} (h : w.ownsRow lo e s (.slice A n c) n cs) : Mine w lo w.heap.size e s (.slice A n c) n cs := ⟨h, fun g hg => (own_lt h hg).2⟩
theorem Mine.ext (h : Mine w lo hi e s v n cs) (hx : Ext w w') : Mine w' lo hi e s v n cs := ⟨own_ext h.1 hx, h.2⟩
theorem Mine.wide (h : Mine w lo hi e s v n cs) (h1 : lo' ≤ lo) (h2 : hi ≤ hi') : Mine w lo' hi' e s v n cs := ⟨own_base h.1 h1, fun g hg => Nat.lt_of_lt_of_le (h.2 g hg) h2⟩
theorem Mine.row {A : Option Addr} {c : Nat} (h : Mine w lo hi e s (.slice A n c) n cs) : Row w A cs := Row.of_own h.1
theorem Mine.cap {A : Option Addr} {c : Nat} (h : Mine w lo hi e s (.slice A n c) n cs) : n ≤ c := own_cap h.1
theorem Mine.capm {A : Option Addr} {c : Nat} (h : Mine w lo hi e s (.slice A n c) n cs) : c ≤ maxLen := by
  rcases h.1.2 with ⟨hv, _⟩ | ⟨g, cap, cur, hv, _, _, _, hm, _⟩
  · injection hv with _ _ h3; subst h3; exact Nat.zero_le _
  · injection hv with _ _ h3; subst h3; exact hm
theorem Mine.len (h : Mine w lo hi e s v n cs) : cs.length = n * s := h.1.1
theorem Mine.at_ {A : Option Addr} {c g : Nat} (h : Mine w lo hi e s (.slice A n c) n cs) (hg : Value.ownBlock (.slice A n c) = some g) : lo ≤ g ∧ g < hi ∧ g < w.heap.size := by
  have h1 := own_lt h.1 hg
  exact ⟨h1.1, h.2 g hg, h1.2⟩
theorem Mine.touch {l h' : Nat} (h : Mine w lo hi e s v n cs) (k : Touch l h' w w') (hd : hi ≤ l ∨ h' ≤ lo) : Mine w' lo hi e s v n cs := by
  refine ⟨?_, h.2⟩
  obtain ⟨h1, h2⟩ := h.1
  refine ⟨h1, ?_⟩
  rcases h2 with h2 | ⟨g, cap, cur, hv, hg, hh, r⟩
  · exact .inl h2
  · have hlt := h.2 g (by rw [hv]; rfl)
    exact .inr ⟨g, cap, cur, hv, hg, by rw [k.block g (Array.getElem?_eq_some_iff.1 hh).1 (by omega)]; exact hh, r⟩
end

/-- the cells of a struct: an int, or a slice of n elements of s cells each that hold cs -/
inductive Fd where
  | i (z : Int)
  | s (e : TypeId) (s n : Nat) (cs : List Value)

/-- the values vs are such cells; their rows can be read -/
def AggRow (w : World) : List Fd → List Value → Prop
  | [], vs => vs = []
  | .i z :: fs, vs => ∃ r, vs = .int .i64 z :: r ∧ AggRow w fs r
  | .s e s n cs :: fs, vs => ∃ A c r, vs = .slice A n c :: r ∧ Row w A cs ∧ n ≤ c ∧ c ≤ maxLen ∧ AggRow w fs r
/-- the values vs are such cells; their rows are the call's own, one behind the other, from lo up to hi -/
def AggAt (w : World) : List Fd → List Value → Nat → Nat → Prop
  | [], vs, lo, hi => vs = [] ∧ lo ≤ hi
  | .i z :: fs, vs, lo, hi => ∃ r, vs = .int .i64 z :: r ∧ AggAt w fs r lo hi
  | .s e s n cs :: fs, vs, lo, hi => ∃ A c r mid, vs = .slice A n c :: r ∧ Mine w lo mid e s (.slice A n c) n cs ∧ lo ≤ mid ∧ AggAt w fs r mid hi
section
variable {w w' : World}
theorem AggRow.ext {fs : List Fd} (hx : Ext w w') : ∀ {vs : List Value}, AggRow w fs vs → AggRow w' fs vs := by
  induction fs with
  | nil => exact fun h => h
  | cons f fs ih =>
    intro vs h
    cases f with
    | i z => obtain ⟨r, hv, h⟩ := h; exact ⟨r, hv, ih h⟩
    | s e s n cs => obtain ⟨A, c, r, hv, hr, h1, h2, h⟩ := h; exact ⟨A, c, r, hv, hr.ext hx, h1, h2, ih h⟩
theorem AggAt.ext {fs : List Fd} (hx : Ext w w') : ∀ {vs : List Value} {lo hi : Nat}, AggAt w fs vs lo hi → AggAt w' fs vs lo hi := by
  induction fs with
  | nil => exact fun h => h
  | cons f fs ih =>
    intro vs lo hi h
    cases f with
    | i z => obtain ⟨r, hv, h⟩ := h; exact ⟨r, hv, ih h⟩
    | s e s n cs => obtain ⟨A, c, r, mid, hv, hm, h1, h⟩ := h; exact ⟨A, c, r, mid, hv, hm.ext hx, h1, ih h⟩
theorem AggAt.le {fs : List Fd} : ∀ {vs : List Value} {lo hi : Nat}, AggAt w fs vs lo hi → lo ≤ hi := by
  induction fs with
  | nil => exact fun h => h.2
  | cons f fs ih =>
    intro vs lo hi h
    cases f with
    | i z => obtain ⟨r, hv, h⟩ := h; exact ih h
    | s e s n cs => obtain ⟨A, c, r, mid, hv, hm, h1, h⟩ := h; exact Nat.le_trans h1 (ih h)
theorem AggAt.rows {fs : List Fd} : ∀ {vs : List Value} {lo hi : Nat}, AggAt w fs vs lo hi → AggRow w fs vs := by
  induction fs with
  | nil => exact fun h => h.1
  | cons f fs ih =>
    intro vs lo hi h
    cases f with
    | i z => obtain ⟨r, hv, h⟩ := h; exact ⟨r, hv, ih h⟩
    | s e s n cs => obtain ⟨A, c, r, mid, hv, hm, h1, h⟩ := h; exact ⟨A, c, r, hv, hm.row, hm.cap, hm.capm, ih h⟩
theorem AggAt.touch {fs : List Fd} {l h' : Nat} (k : Touch l h' w w') : ∀ {vs : List Value} {lo hi : Nat}, AggAt w fs vs lo hi → hi ≤ l ∨ h' ≤ lo → AggAt w' fs vs lo hi := by
  induction fs with
  | nil => exact fun h _ => h
  | cons f fs ih =>
    intro vs lo hi h hd
    cases f with
    | i z => obtain ⟨r, hv, h⟩ := h; exact ⟨r, hv, ih h hd⟩
    | s e s n cs =>
      obtain ⟨A, c, r, mid, hv, hm, h1, h⟩ := h
      have hle := h.le
      exact ⟨A, c, r, mid, hv, hm.touch k (by omega), h1, ih h (by omega)⟩
theorem AggAt.wide {fs : List Fd} {hi hi' : Nat} (hh : hi ≤ hi') : ∀ {vs : List Value} {lo lo' : Nat}, AggAt w fs vs lo hi → lo' ≤ lo → AggAt w fs vs lo' hi' := by
  induction fs with
  | nil => exact fun h hl => ⟨h.1, by have := h.2; omega⟩
  | cons f fs ih =>
    intro vs lo lo' h hl
    cases f with
    | i z => obtain ⟨r, hv, h⟩ := h; exact ⟨r, hv, ih h hl⟩
    | s e s n cs =>
      obtain ⟨A, c, r, mid, hv, hm, h1, h⟩ := h
      exact ⟨A, c, r, mid, hv, hm.wide hl (Nat.le_refl _), by omega, ih h (Nat.le_refl _)⟩
/-- what came in stays where only what the call itself made has turned -/
theorem AggRow.touch0 {w0 : World} {fs : List Fd} {lo hi : Nat} (k : Touch lo hi w w') (hl : w0.heap.size ≤ lo) : ∀ {vs : List Value}, AggRow w fs vs → AggRow w0 fs vs → AggRow w' fs vs := by
  induction fs with
  | nil => exact fun h _ => h
  | cons f fs ih =>
    intro vs h h0
    cases f with
    | i z =>
      obtain ⟨r, hv, h⟩ := h
      obtain ⟨r0, hv0, h0⟩ := h0
      rw [hv] at hv0
      injection hv0 with _ e
      subst e
      exact ⟨r, hv, ih h h0⟩
    | s e s n cs =>
      obtain ⟨A, c, r, hv, hr, h1, h2, h⟩ := h
      obtain ⟨A0, c0, r0, hv0, hr0, _, _, h0⟩ := h0
      rw [hv] at hv0
      injection hv0 with e1 e2
      injection e1 with e1 _ _
      subst e1 e2
      exact ⟨A, c, r, hv, hr.touch0 hr0 k hl, h1, h2, ih h h0⟩
end

/-- the shape of a type's cells -/
inductive Kd where
  | i
  | s (e : TypeId)
def kdFs (P : Program) (r : TypeId → Option (List Kd)) (K : Nat) : Nat → List Field → Option (List Kd)
  | o, [] => if o = K then some [] else none
  | o, f :: fs => if f.offset = o then (r f.type).bind fun a => (kdFs P r K (o + P.cellsOf f.type) fs).map fun b => a ++ b else none
def kdB (P : Program) : Nat → TypeId → Option (List Kd)
  | 0, _ => none
  | n + 1, t => match P.underlying t with
    | some (.int .i64) => if P.cellsOf t = 1 then some [.i] else none
    | some (.slice e) => if P.cellsOf t = 1 ∧ flatB P 8 e = true then some [.s e] else none
    | some (.struct fs) => kdFs P (kdB P n) (P.cellsOf t) 0 fs.toList
    | _ => none
/-- a value of a shape, as it came in -/
def KdIn (P : Program) (w : World) : Kd → Value → Prop
  | .i, v => ∃ z, v = .int .i64 z ∧ I64 z
  | .s e, v => ∃ A len cap zs, v = .slice A len cap ∧ zs.length = len * P.cellsOf e ∧ Row w A (ints zs) ∧ len ≤ cap ∧ cap ≤ maxLen ∧ ∀ z ∈ zs, I64 z
def KdAll (P : Program) (w : World) : List Kd → List Value → Prop
  | [], vs => vs = []
  | k :: ks, vs => ∃ v r, vs = v :: r ∧ KdIn P w k v ∧ KdAll P w ks r
section
variable {H : Type} {enc : TypeId × Value → H} {P : Program} {w : World} {base : Nat} {spare : Nat → Bool} {held : Bool}
theorem KdAll.append {a b : List Kd} : ∀ {xs ys : List Value}, KdAll P w a xs → KdAll P w b ys → KdAll P w (a ++ b) (xs ++ ys) := by
  induction a with
  | nil => intro xs ys h1 h2; rw [h1]; exact h2
  | cons k a ih =>
    intro xs ys h1 h2
    obtain ⟨v, r, rfl, hv, h⟩ := h1
    exact ⟨v, r ++ ys, rfl, hv, ih h h2⟩
theorem KdAll.length {a : List Kd} : ∀ {xs : List Value}, KdAll P w a xs → xs.length = a.length := by
  induction a with
  | nil => intro xs h; rw [show xs = [] from h]; rfl
  | cons k a ih => intro xs h; obtain ⟨v, r, rfl, _, h⟩ := h; rw [List.length_cons, List.length_cons, ih h]
theorem kdFs_open {r : TypeId → Option (List Kd)} {fuel K : Nat} {cs : List Value} (hK : K = cs.length)
    (hr : ∀ t cs' ks (x : DataW H × List MemPlace), r t = some ks → DataW.trod enc P w base spare held fuel t cs' = some x → KdAll P w ks cs') :
    ∀ (fs : List Field) (o : Nat) (ks : List Kd), kdFs P r K o fs = some ks →
      (∀ f ∈ fs, ∃ x : DataW H × List MemPlace, DataW.trod enc P w base spare held fuel f.type ((cs.drop f.offset).take (P.cellsOf f.type)) = some x) → KdAll P w ks (cs.drop o) := by
  intro fs
  induction fs with
  | nil =>
    intro o ks h _
    simp only [kdFs] at h
    split at h
    · injection h with h
      subst h
      show cs.drop o = []
      exact List.drop_eq_nil_of_le (by omega)
    · cases h
  | cons f fs ih =>
    intro o ks h hx
    simp only [kdFs] at h
    split at h
    · rename_i ho
      rw [Option.bind_eq_some_iff] at h
      obtain ⟨a, ha, h⟩ := h
      rw [Option.map_eq_some_iff] at h
      obtain ⟨b, hb, rfl⟩ := h
      obtain ⟨x, hxf⟩ := hx f (List.mem_cons_self ..)
      have h1 := hr _ _ _ _ ha hxf
      have h2 := ih _ _ hb (fun g hg => hx g (List.mem_cons_of_mem _ hg))
      have := KdAll.append h1 h2
      rwa [ho, ← List.drop_drop, List.take_append_drop] at this
    · cases h
theorem kd_open : ∀ (n : Nat) (t : TypeId) (fuel : Nat) (cs : List Value) (ks : List Kd) (x : DataW H × List MemPlace), kdB P n t = some ks → DataW.trod enc P w base spare held fuel t cs = some x → KdAll P w ks cs := by
  intro n
  induction n with
  | zero => intro t fuel cs ks x h; simp [kdB] at h
  | succ n ih =>
    intro t fuel cs ks x h hx
    unfold kdB at h
    split at h
    · rename_i hu
      split at h
      · injection h with h
        subst h
        obtain ⟨z, rfl, _, hw⟩ := DataW.trod_int hu hx
        exact ⟨_, _, rfl, ⟨z, rfl, I64_of_wf hw⟩, rfl⟩
      · cases h
    · rename_i e hu
      split at h
      · rename_i hc
        injection h with h
        subst h
        obtain ⟨A, len, cap, zs, rfl, rest⟩ := open_flat_slice hu hc.2 hx
        exact ⟨_, _, rfl, ⟨A, len, cap, zs, rfl, rest⟩, rfl⟩
      · cases h
    · rename_i fs hu
      obtain ⟨xs, m, _, _, hl, hxl, hf⟩ := DataW.trod_struct hu hx
      have h2 := kdFs_open (enc := enc) (w := w) (base := base) (spare := spare) (held := held) (fuel := m) (cs := cs) hl.symm
        (fun t' cs' ks' x' hr' hx' => ih t' m cs' ks' x' hr' hx') fs.toList 0 ks h (fun f hf' => by
          obtain ⟨i, hi⟩ := List.mem_iff_getElem?.1 hf'
          have hi' : fs[i]? = some f := by simpa using hi
          have hlt : i < fs.size := (Array.getElem?_eq_some_iff.1 hi').1
          exact ⟨xs[i]'(by omega), by rw [hf i f hi', List.getElem?_eq_getElem]⟩)
      rwa [List.drop_zero] at h2
    · cases h
theorem openArg_mix {n : Nat} {t : TypeId} {fs : Array Field} {ks : List Kd} {r : Reach} {b0 : Nat} {v : Value} {d : DataW H} {p : List MemPlace} (ht : P.underlying t = some (.struct fs)) (he : kdB P n t = some ks) (hv : Value.okWide P w r b0 t v) (h : DataW.Trod enc P w base spare held t v d p) :
    ∃ vs : List Value, v = .agg vs.toArray ∧ KdAll P w ks vs := by
  obtain ⟨cs, rfl, _⟩ := okWide_struct ht hv
  obtain ⟨fuel, hf⟩ := h
  exact ⟨cs.toList, by simp, kd_open n t fuel _ _ _ he hf⟩
end

/-- what is left of a bound that some lengths are taken from -/
def szL : List Nat → Int → Int
  | [], l => l
  | n :: r, l => if (n : Int) ≤ l then szL r (l - n) else -1
theorem szL_le : ∀ (ns : List Nat) (l : Int), 0 ≤ szL ns l → ∀ n ∈ ns, (n : Int) ≤ l := by
  intro ns
  induction ns with
  | nil => intro l _ n hn; cases hn
  | cons m r ih =>
    intro l h n hn
    simp only [szL] at h
    split at h
    · rename_i hm
      rcases List.mem_cons.1 hn with rfl | hn
      · exact hm
      · have := ih _ h n hn; omega
    · omega
theorem szL_bd : ∀ (ns : List Nat) (l : Int), -1 ≤ l → -1 ≤ szL ns l ∧ szL ns l ≤ l := by
  intro ns
  induction ns with
  | nil => intro l h; exact ⟨h, Int.le_refl _⟩
  | cons m r ih =>
    intro l h
    simp only [szL]
    split
    · rename_i hm
      have := ih (l - m) (by omega); omega
    · omega
theorem szL_one {n : Nat} {l : Int} : szL [n] l = szI n l := by
  unfold szI
  simp only [szL]
theorem Mine.grown {w w' : World} {lo hi : Nat} {e : TypeId} {s n : Nat} {u v : Value} {cs : List Value} (h : Mine w lo hi e s u n cs) (hg : w.grownBy w' (Value.ownBlock v)) (hb : ∀ g, Value.ownBlock v = some g → g < lo ∨ hi ≤ g) : Mine w' lo hi e s u n cs := by
  cases ho : Value.ownBlock v with
  | none => exact h.touch (Touch.of_only (lo := 0) (hi := 0) hg (fun g hg' => by rw [ho] at hg'; cases hg')) (Or.inr (Nat.zero_le _))
  | some g =>
    refine h.touch (Touch.of_only (lo := g) (hi := g + 1) hg (fun g' hg' => by rw [ho] at hg'; injection hg' with e; omega)) ?_
    rcases hb g ho with h1 | h1
    · exact Or.inr (by omega)
    · exact Or.inl (by omega)

end Go.Proofs.Ytdkgcaifagigfaa
