/- Contracts of NewConsole of the program and of the reference. -/
import Derived.Test.YtnkkfjlnjhmahaaBx
import Derived.Test.YtnkkfjlnjhmahaaMSep
namespace Go.Proofs.Ytnkkfjlnjhmahaa
open Go.ChangeShapes Go.WideShapes Go.ChangeAt Go.RowKit
set_option linter.unusedVariables false
set_option maxRecDepth 100000

def newRoom : Room := ⟨[1, 0, 0, 1], 1, 1, 0, -5, 5, (boxR (-1) (-1) 1 1).1, (boxR (-10) (-10) 10 10).1⟩
def noRoom : Room := ⟨[], 0, 0, 0, 0, 0, [], []⟩
def newConsole : Console := ⟨newRoom, ⟨0, 0, 1⟩, ⟨noRoom, [], []⟩, []⟩
def ConsMade (r : Console) (w : World) (e : Ending) (w' : World) : Prop :=
  ∃ us rs, e = .returned (.agg us.toArray) ∧ AggSep w' (consoleF r) us rs ∧ Apart rs ∧ (∀ p ∈ rs, w.heap.size ≤ p.1 ∧ p.2 ≤ w'.heap.size) ∧ Ext w w'
theorem Mine.nil (w : World) (e : TypeId) (s x y : Nat) : Mine w x y e s (.slice none 0 0) 0 [] := ⟨World.ownsRow_nil _ _ _ _, fun g hg => by cases hg⟩
theorem new_map (w : World) : Mine (w.alloc (.cells #[.int .i64 1, .int .i64 0, .int .i64 0, .int .i64 1] 3)) w.heap.size (w.heap.size + 1) 3 1 (.slice (some ⟨w.heap.size, 0, none⟩) 4 4) 4 (ints [1, 0, 0, 1]) := by
  exact ⟨World.ownsRow_lit w #[.int .i64 1, .int .i64 0, .int .i64 0, .int .i64 1] 4 (Nat.le_refl _) (by unfold maxLen; omega) rfl, fun g hg => by simp [Value.ownBlock] at hg; omega⟩
theorem newConsole_made (w w' : World) (a b c d x y : Nat) (A0 A6 A7 : Option Addr) (c6 c7 : Nat)
    (h0 : Mine w' x y 3 1 (.slice A0 4 4) 4 (ints [1, 0, 0, 1]))
    (h6 : Mine w' a b 74 3 (.slice A6 (boxR (-1) (-1) 1 1).1.length c6) (boxR (-1) (-1) 1 1).1.length (ints (flat Half.ints (boxR (-1) (-1) 1 1).1)))
    (h7 : Mine w' c d 74 3 (.slice A7 (boxR (-10) (-10) 10 10).1.length c7) (boxR (-10) (-10) 10 10).1.length (ints (flat Half.ints (boxR (-10) (-10) 10 10).1)))
    (e0 : w.heap.size ≤ x ∧ x ≤ y ∧ y ≤ w'.heap.size) (e6 : w.heap.size ≤ a ∧ a ≤ b ∧ b ≤ w'.heap.size) (e7 : w.heap.size ≤ c ∧ c ≤ d ∧ d ≤ w'.heap.size)
    (d1 : y ≤ a ∨ b ≤ x) (d2 : y ≤ c ∨ d ≤ x) (d3 : b ≤ c ∨ d ≤ a) (hx : Ext w w') :
    ConsMade newConsole w (.returned (.agg #[.slice A0 4 4, .int .i64 1, .int .i64 1, .int .i64 0, .int .i64 (-5), .int .i64 5, .slice A6 (boxR (-1) (-1) 1 1).1.length c6, .slice A7 (boxR (-10) (-10) 10 10).1.length c7, .int .i64 0, .int .i64 0, .int .i64 1, .slice none 0 0, .int .i64 0, .int .i64 0, .int .i64 0, .int .i64 0, .int .i64 0, .slice none 0 0, .slice none 0 0, .slice none 0 0, .slice none 0 0, .slice none 0 0])) w' := by
  have hl := hx.size
  refine ⟨[.slice A0 4 4, .int .i64 1, .int .i64 1, .int .i64 0, .int .i64 (-5), .int .i64 5, .slice A6 (boxR (-1) (-1) 1 1).1.length c6, .slice A7 (boxR (-10) (-10) 10 10).1.length c7, .int .i64 0, .int .i64 0, .int .i64 1, .slice none 0 0, .int .i64 0, .int .i64 0, .int .i64 0, .int .i64 0, .int .i64 0, .slice none 0 0, .slice none 0 0, .slice none 0 0, .slice none 0 0, .slice none 0 0], [(x, y), (a, b), (c, d), (w.heap.size, w.heap.size), (w.heap.size, w.heap.size), (w.heap.size, w.heap.size), (w.heap.size, w.heap.size), (w.heap.size, w.heap.size), (w.heap.size, w.heap.size)], rfl, ?_, ?_, ?_, hx⟩
  · exact ⟨_, _, _, _, _, _, rfl, rfl, h0, e0.2.1, _, rfl, _, rfl, _, rfl, _, rfl, _, rfl, _, _, _, _, _, _, rfl, rfl, h6, e6.2.1, _, _, _, _, _, _, rfl, rfl, h7, e7.2.1, _, rfl, _, rfl, _, rfl, _, _, _, _, _, _, rfl, rfl, Mine.nil _ _ _ _ _, Nat.le_refl _, _, rfl, _, rfl, _, rfl, _, rfl, _, rfl, _, _, _, _, _, _, rfl, rfl, Mine.nil _ _ _ _ _, Nat.le_refl _, _, _, _, _, _, _, rfl, rfl, Mine.nil _ _ _ _ _, Nat.le_refl _, _, _, _, _, _, _, rfl, rfl, Mine.nil _ _ _ _ _, Nat.le_refl _, _, _, _, _, _, _, rfl, rfl, Mine.nil _ _ _ _ _, Nat.le_refl _, _, _, _, _, _, _, rfl, rfl, Mine.nil _ _ _ _ _, Nat.le_refl _, rfl, rfl⟩
  · refine ⟨?_, ?_, ?_, ?_, ?_, ?_, ?_, ?_, ?_, True.intro⟩ <;> (intro q hq; simp only [List.mem_cons, List.not_mem_nil, or_false] at hq)
    all_goals (rcases hq with rfl | hq) <;> try (simp only; omega)
    all_goals (rcases hq with rfl | hq) <;> try (simp only; omega)
    all_goals (rcases hq with rfl | hq) <;> try (simp only; omega)
    all_goals (rcases hq with rfl | hq) <;> try (simp only; omega)
    all_goals (rcases hq with rfl | hq) <;> try (simp only; omega)
    all_goals (rcases hq with rfl | hq) <;> try (simp only; omega)
    all_goals (rcases hq with rfl | hq) <;> try (simp only; omega)
    all_goals (subst hq; simp only; omega)
  · exact forall_mem9 ⟨e0.1, e0.2.2⟩ ⟨e6.1, e6.2.2⟩ ⟨e7.1, e7.2.2⟩ ⟨Nat.le_refl _, hl⟩ ⟨Nat.le_refl _, hl⟩ ⟨Nat.le_refl _, hl⟩ ⟨Nat.le_refl _, hl⟩ ⟨Nat.le_refl _, hl⟩ ⟨Nat.le_refl _, hl⟩
theorem Blk.setRow {V : World} {g : Nat} {t : TypeId} {cs : Array Value} (h : Blk V g t cs) (vs : Array Value) : Blk (V.setRow g vs) g t vs := setRow_heap V g cs vs t _ h
theorem Blk.setRow_far {V : World} {g : Nat} {t : TypeId} {cs : Array Value} (h : Blk V g t cs) {k : Nat} (hk : g ≠ k) (vs : Array Value) : Blk (V.setRow k vs) g t cs := (setRow_other V k g vs hk).trans h
theorem Mine.setRow {V : World} {g : Nat} {lo hi : Nat} {e : TypeId} {s n : Nat} {v : Value} {cs : List Value} (h : Mine V lo hi e s v n cs) (hg : g < lo ∨ hi ≤ g) (vs : Array Value) : Mine (V.setRow g vs) lo hi e s v n cs :=
  h.touch (l := g) (h' := g + 1) ⟨rfl, rfl, rfl, by simp, fun i hi ho => setRow_other V g i vs (by omega)⟩ (by omega)
set_option maxHeartbeats 4000000 in
theorem implNewConsole_any (w : World) : Calls Try.prog 6 #[] w (ConsMade newConsole w) := by
  have hx : Ext w (w.alloc (.cells #[.slice none 0 0, .int .i64 0, .int .i64 0, .int .i64 0, .int .i64 0, .int .i64 0, .slice none 0 0, .slice none 0 0, .int .i64 0, .int .i64 0, .int .i64 0, .slice none 0 0, .int .i64 0, .int .i64 0, .int .i64 0, .int .i64 0, .int .i64 0, .slice none 0 0, .slice none 0 0, .slice none 0 0, .slice none 0 0, .slice none 0 0] 34)) := (Ext.refl w).alloc _
  have b0 := Blk.new w 34 #[.slice none 0 0, .int .i64 0, .int .i64 0, .int .i64 0, .int .i64 0, .int .i64 0, .slice none 0 0, .slice none 0 0, .int .i64 0, .int .i64 0, .int .i64 0, .slice none 0 0, .int .i64 0, .int .i64 0, .int .i64 0, .int .i64 0, .int .i64 0, .slice none 0 0, .slice none 0 0, .slice none 0 0, .slice none 0 0, .slice none 0 0]
  have HB1 := Lib.hid (fun w => implBoxRegion_any (-1) (-1) 1 1 w)
  have HB2 := Lib.hid (fun w => implBoxRegion_any (-10) (-10) 10 10 w)
  have HM := Lib.hid newConsole_made
  generalize newConsole = K at HM ⊢
  generalize boxR (-1) (-1) 1 1 = R1 at HB1 HM
  generalize boxR (-10) (-10) 10 10 = R2 at HB2 HM
  go_enter Try.func6, Try.ntmps6
  go_wp2_with fail
  refine (HB1.out _).mono ?_
  rintro e w1 ⟨A1, c1, n1, rfl, hn1, hx1, o1⟩
  subst hn1
  have m1 := Mine.of_own o1
  clear o1
  replace hx := hx.trans hx1
  replace b0 := b0.ext hx1
  have s1 := hx1.size
  simp only [World.size_alloc] at s1 m1
  have cc0 := fun o => b0.cell o
  have ff0 := fun o => b0.frozen o
  have v1 := Blk.new w1 25 #[.slice A1 R1.1.length c1]
  have ha1 := (Ext.refl w1).alloc (.cells #[.slice A1 R1.1.length c1] 25)
  replace hx := hx.trans ha1
  replace b0 := b0.ext ha1
  replace m1 := m1.ext ha1
  go_wp2_with fail
  refine (HB2.out _).mono ?_
  rintro e w2 ⟨A2, c2, n2, rfl, hn2, hx2, o2⟩
  subst hn2
  have m2 := Mine.of_own o2
  clear o2
  replace hx := hx.trans hx2
  replace b0 := b0.ext hx2
  replace m1 := m1.ext hx2
  replace v1 := v1.ext hx2
  have s2 := hx2.size
  simp only [World.size_alloc] at s2 m2
  have v2 := Blk.new w2 25 #[.slice A2 R2.1.length c2]
  have ha2 := (Ext.refl w2).alloc (.cells #[.slice A2 R2.1.length c2] 25)
  replace hx := hx.trans ha2
  replace b0 := b0.ext ha2
  replace m1 := m1.ext ha2
  replace m2 := m2.ext ha2
  replace v1 := v1.ext ha2
  have m0 := new_map (w2.alloc (.cells #[.slice A2 R2.1.length c2] 25))
  simp only [World.size_alloc] at m0
  have ha3 := (Ext.refl (w2.alloc (.cells #[.slice A2 R2.1.length c2] 25))).alloc (.cells #[.int .i64 1, .int .i64 0, .int .i64 0, .int .i64 1] 3)
  replace hx := hx.trans ha3
  replace b0 := b0.ext ha3
  replace m1 := m1.ext ha3
  replace m2 := m2.ext ha3
  replace v1 := v1.ext ha3
  replace v2 := v2.ext ha3
  have c1_ := fun o => v1.cell o
  have c2_ := fun o => v2.cell o
  have b9 := b0.alloc (.cells #[.slice (some ⟨w2.heap.size + 1, 0, none⟩) 4 4, .int .i64 1, .int .i64 1, .int .i64 0, .int .i64 (-5), .int .i64 5, .slice A1 R1.1.length c1, .slice A2 R2.1.length c2] 27)
  have c0 := fun o => b9.cell o
  have f0 := fun o => b9.frozen o
  replace hx := hx.alloc (.cells #[.slice (some ⟨w2.heap.size + 1, 0, none⟩) 4 4, .int .i64 1, .int .i64 1, .int .i64 0, .int .i64 (-5), .int .i64 5, .slice A1 R1.1.length c1, .slice A2 R2.1.length c2] 27)
  replace m0 := m0.alloc (.cells #[.slice (some ⟨w2.heap.size + 1, 0, none⟩) 4 4, .int .i64 1, .int .i64 1, .int .i64 0, .int .i64 (-5), .int .i64 5, .slice A1 R1.1.length c1, .slice A2 R2.1.length c2] 27)
  replace m1 := m1.alloc (.cells #[.slice (some ⟨w2.heap.size + 1, 0, none⟩) 4 4, .int .i64 1, .int .i64 1, .int .i64 0, .int .i64 (-5), .int .i64 5, .slice A1 R1.1.length c1, .slice A2 R2.1.length c2] 27)
  replace m2 := m2.alloc (.cells #[.slice (some ⟨w2.heap.size + 1, 0, none⟩) 4 4, .int .i64 1, .int .i64 1, .int .i64 0, .int .i64 (-5), .int .i64 5, .slice A1 R1.1.length c1, .slice A2 R2.1.length c2] 27)
  have STOP : ∀ p : Prop, Hid p → p := fun p h => h.out
  go_wp2_with (refine wpList_build (P := Try.prog) rfl 34 _ rfl (by kernel_rfl) (STOP _ ?_))
  refine Lib.hid ?_
  rw [show (Try.prog.built 34 [(0, Value.agg #[.slice (some ⟨w2.heap.size + 1, 0, none⟩) 4 4, .int .i64 1, .int .i64 1, .int .i64 0, .int .i64 (-5), .int .i64 5, .slice A1 R1.1.length c1, .slice A2 R2.1.length c2]), (1, Value.agg #[.int .i64 0, .int .i64 0, .int .i64 1])]).getD #[] = #[.slice (some ⟨w2.heap.size + 1, 0, none⟩) 4 4, .int .i64 1, .int .i64 1, .int .i64 0, .int .i64 (-5), .int .i64 5, .slice A1 R1.1.length c1, .slice A2 R2.1.length c2, .int .i64 0, .int .i64 0, .int .i64 1, .slice none 0 0, .int .i64 0, .int .i64 0, .int .i64 0, .int .i64 0, .int .i64 0, .slice none 0 0, .slice none 0 0, .slice none 0 0, .slice none 0 0, .slice none 0 0] from by kernel_rfl]
  refine wpList_store_row (P := Try.prog) rfl 34 _ _ rfl w.heap.size #[.slice (some ⟨w2.heap.size + 1, 0, none⟩) 4 4, .int .i64 1, .int .i64 1, .int .i64 0, .int .i64 (-5), .int .i64 5, .slice A1 R1.1.length c1, .slice A2 R2.1.length c2, .int .i64 0, .int .i64 0, .int .i64 1, .slice none 0 0, .int .i64 0, .int .i64 0, .int .i64 0, .int .i64 0, .int .i64 0, .slice none 0 0, .slice none 0 0, .slice none 0 0, .slice none 0 0, .slice none 0 0] rfl rfl 34 _ b9 (by kernel_rfl) rfl (by kernel_rfl) ?_
  go_wp2
  have bF := b9.setRow #[.slice (some ⟨w2.heap.size + 1, 0, none⟩) 4 4, .int .i64 1, .int .i64 1, .int .i64 0, .int .i64 (-5), .int .i64 5, .slice A1 R1.1.length c1, .slice A2 R2.1.length c2, .int .i64 0, .int .i64 0, .int .i64 1, .slice none 0 0, .int .i64 0, .int .i64 0, .int .i64 0, .int .i64 0, .int .i64 0, .slice none 0 0, .slice none 0 0, .slice none 0 0, .slice none 0 0, .slice none 0 0]
  have HL := run_loadVar_row (P := Try.prog) _ _ _ 34 _ _ _ bF Try.underlying34 rfl (by kernel_rfl)
  clear c0 f0 c1_ c2_
  refine bodyPost_ret (v := .agg #[.slice (some ⟨w2.heap.size + 1, 0, none⟩) 4 4, .int .i64 1, .int .i64 1, .int .i64 0, .int .i64 (-5), .int .i64 5, .slice A1 R1.1.length c1, .slice A2 R2.1.length c2, .int .i64 0, .int .i64 0, .int .i64 1, .slice none 0 0, .int .i64 0, .int .i64 0, .int .i64 0, .int .i64 0, .int .i64 0, .slice none 0 0, .slice none 0 0, .slice none 0 0, .slice none 0 0, .slice none 0 0]) (by simp [results, Try.results6, asAddr, Act.put, HL]) rfl ?_
  exact HM.out _ _ _ _ _ _ _ _ _ _ _ _ _ (m0.setRow (.inl (by omega)) _) (m1.setRow (.inl (by omega)) _) (m2.setRow (.inl (by omega)) _)
    (by simp; omega) (by simp; omega) (by simp; omega) (by omega) (by omega) (by omega) (hx.setRow (Nat.le_refl _) _)
set_option maxHeartbeats 4000000 in
theorem specNewConsole_any (w : World) : Calls Try.prog 5 #[] w (ConsMade newConsole w) := by
  have hx : Ext w (((w.alloc (.cells #[.slice none 0 0, .int .i64 0, .int .i64 0, .int .i64 0, .int .i64 0, .int .i64 0, .slice none 0 0, .slice none 0 0, .int .i64 0, .int .i64 0, .int .i64 0, .slice none 0 0, .int .i64 0, .int .i64 0, .int .i64 0, .int .i64 0, .int .i64 0, .slice none 0 0, .slice none 0 0, .slice none 0 0, .slice none 0 0, .slice none 0 0] 34)).alloc (.cells #[.int .i64 1, .int .i64 0, .int .i64 0, .int .i64 1] 3)).alloc (.cells #[.slice (some ⟨w.heap.size + 1, 0, none⟩) 4 4, .int .i64 1, .int .i64 1, .int .i64 0, .int .i64 (-5), .int .i64 5, .slice none 0 0, .slice none 0 0] 27)) := (((Ext.refl w).alloc _).alloc _).alloc _
  have b0 : Blk (((w.alloc (.cells #[.slice none 0 0, .int .i64 0, .int .i64 0, .int .i64 0, .int .i64 0, .int .i64 0, .slice none 0 0, .slice none 0 0, .int .i64 0, .int .i64 0, .int .i64 0, .slice none 0 0, .int .i64 0, .int .i64 0, .int .i64 0, .int .i64 0, .int .i64 0, .slice none 0 0, .slice none 0 0, .slice none 0 0, .slice none 0 0, .slice none 0 0] 34)).alloc (.cells #[.int .i64 1, .int .i64 0, .int .i64 0, .int .i64 1] 3)).alloc (.cells #[.slice (some ⟨w.heap.size + 1, 0, none⟩) 4 4, .int .i64 1, .int .i64 1, .int .i64 0, .int .i64 (-5), .int .i64 5, .slice none 0 0, .slice none 0 0] 27)) w.heap.size 34 #[.slice none 0 0, .int .i64 0, .int .i64 0, .int .i64 0, .int .i64 0, .int .i64 0, .slice none 0 0, .slice none 0 0, .int .i64 0, .int .i64 0, .int .i64 0, .slice none 0 0, .int .i64 0, .int .i64 0, .int .i64 0, .int .i64 0, .int .i64 0, .slice none 0 0, .slice none 0 0, .slice none 0 0, .slice none 0 0, .slice none 0 0] := ((Blk.new w _ _).alloc _).alloc _
  have m0 := (new_map (w.alloc (.cells #[.slice none 0 0, .int .i64 0, .int .i64 0, .int .i64 0, .int .i64 0, .int .i64 0, .slice none 0 0, .slice none 0 0, .int .i64 0, .int .i64 0, .int .i64 0, .slice none 0 0, .int .i64 0, .int .i64 0, .int .i64 0, .int .i64 0, .int .i64 0, .slice none 0 0, .slice none 0 0, .slice none 0 0, .slice none 0 0, .slice none 0 0] 34))).alloc (.cells #[.slice (some ⟨w.heap.size + 1, 0, none⟩) 4 4, .int .i64 1, .int .i64 1, .int .i64 0, .int .i64 (-5), .int .i64 5, .slice none 0 0, .slice none 0 0] 27)
  have v0 := Blk.new ((w.alloc (.cells #[.slice none 0 0, .int .i64 0, .int .i64 0, .int .i64 0, .int .i64 0, .int .i64 0, .slice none 0 0, .slice none 0 0, .int .i64 0, .int .i64 0, .int .i64 0, .slice none 0 0, .int .i64 0, .int .i64 0, .int .i64 0, .int .i64 0, .int .i64 0, .slice none 0 0, .slice none 0 0, .slice none 0 0, .slice none 0 0, .slice none 0 0] 34)).alloc (.cells #[.int .i64 1, .int .i64 0, .int .i64 0, .int .i64 1] 3)) 27 #[.slice (some ⟨w.heap.size + 1, 0, none⟩) 4 4, .int .i64 1, .int .i64 1, .int .i64 0, .int .i64 (-5), .int .i64 5, .slice none 0 0, .slice none 0 0]
  simp only [World.size_alloc] at m0 v0
  have HB1 := Lib.hid (fun w => specBoxRegion_any (-1) (-1) 1 1 w)
  have HB2 := Lib.hid (fun w => specBoxRegion_any (-10) (-10) 10 10 w)
  have HM := Lib.hid newConsole_made
  generalize newConsole = K at HM ⊢
  generalize boxR (-1) (-1) 1 1 = R1 at HB1 HM
  generalize boxR (-10) (-10) 10 10 = R2 at HB2 HM
  go_enter Try.func5, Try.ntmps5
  go_wp2_with fail
  refine (HB1.out _).mono ?_
  rintro e w1 ⟨A1, c1, n1, rfl, hn1, hx1, o1⟩
  subst hn1
  have m1 := Mine.of_own o1
  clear o1
  replace hx := hx.trans hx1
  replace b0 := b0.ext hx1
  replace m0 := m0.ext hx1
  replace v0 := v0.ext hx1
  have s1 := hx1.size
  simp only [World.size_alloc] at s1 m1
  have c0 := fun o => v0.cell o
  have f0 := fun o => v0.frozen o
  go_wp2_with fail
  refine (HB2.out _).mono ?_
  rintro e w2 ⟨A2, c2, n2, rfl, hn2, hx2, o2⟩
  subst hn2
  have m2 := Mine.of_own o2
  clear o2
  have hk := (Ext.refl w1)
  replace hx := (hx.setCell (p := ⟨w.heap.size + 1 + 1, 6, none⟩) (by simp <;> omega) (.slice A1 R1.1.length c1)).trans hx2
  replace b0 := (b0.far (p := ⟨w.heap.size + 1 + 1, 6, none⟩) (by simp <;> omega) (.slice A1 R1.1.length c1)).ext hx2
  replace m0 := (m0.setB (p := ⟨w.heap.size + 1 + 1, 6, none⟩) (by simp <;> omega) (.slice A1 R1.1.length c1)).ext hx2
  replace m1 := (m1.setB (p := ⟨w.heap.size + 1 + 1, 6, none⟩) (by simp <;> omega) (.slice A1 R1.1.length c1)).ext hx2
  have v1 := (v0.set_ 6 (.slice A1 R1.1.length c1)).ext hx2
  have s2 := hx2.size
  simp only [World.size_setCell] at s2 m2
  clear c0 f0 v0
  have v2 := v1.set_ 7 (.slice A2 R2.1.length c2)
  replace hx := hx.setCell (p := ⟨w.heap.size + 1 + 1, 7, none⟩) (by simp <;> omega) (.slice A2 R2.1.length c2)
  replace b0 := b0.far (p := ⟨w.heap.size + 1 + 1, 7, none⟩) (by simp <;> omega) (.slice A2 R2.1.length c2)
  replace m0 := m0.setB (p := ⟨w.heap.size + 1 + 1, 7, none⟩) (by simp <;> omega) (.slice A2 R2.1.length c2)
  replace m1 := m1.setB (p := ⟨w.heap.size + 1 + 1, 7, none⟩) (by simp <;> omega) (.slice A2 R2.1.length c2)
  replace m2 := m2.setB (p := ⟨w.heap.size + 1 + 1, 7, none⟩) (by simp <;> omega) (.slice A2 R2.1.length c2)
  have c1_ := fun o => v1.cell o
  have f1_ := fun o => v1.frozen o
  have c2_ := fun o => v2.cell o
  have STOP : ∀ p : Prop, Hid p → p := fun p h => h.out
  go_wp2_with (refine wpList_build (P := Try.prog) rfl 34 _ rfl (by kernel_rfl) (STOP _ ?_))
  refine Lib.hid ?_
  rw [show (Try.prog.built 34 [(0, Value.agg #[.slice (some ⟨w.heap.size + 1, 0, none⟩) 4 4, .int .i64 1, .int .i64 1, .int .i64 0, .int .i64 (-5), .int .i64 5, .slice A1 R1.1.length c1, .slice A2 R2.1.length c2]), (1, Value.agg #[.int .i64 0, .int .i64 0, .int .i64 1])]).getD #[] = #[.slice (some ⟨w.heap.size + 1, 0, none⟩) 4 4, .int .i64 1, .int .i64 1, .int .i64 0, .int .i64 (-5), .int .i64 5, .slice A1 R1.1.length c1, .slice A2 R2.1.length c2, .int .i64 0, .int .i64 0, .int .i64 1, .slice none 0 0, .int .i64 0, .int .i64 0, .int .i64 0, .int .i64 0, .int .i64 0, .slice none 0 0, .slice none 0 0, .slice none 0 0, .slice none 0 0, .slice none 0 0] from by kernel_rfl]
  refine wpList_store_row (P := Try.prog) rfl 34 _ _ rfl w.heap.size #[.slice (some ⟨w.heap.size + 1, 0, none⟩) 4 4, .int .i64 1, .int .i64 1, .int .i64 0, .int .i64 (-5), .int .i64 5, .slice A1 R1.1.length c1, .slice A2 R2.1.length c2, .int .i64 0, .int .i64 0, .int .i64 1, .slice none 0 0, .int .i64 0, .int .i64 0, .int .i64 0, .int .i64 0, .int .i64 0, .slice none 0 0, .slice none 0 0, .slice none 0 0, .slice none 0 0, .slice none 0 0] rfl rfl 34 _ b0 (by kernel_rfl) rfl (by kernel_rfl) ?_
  go_wp2
  have bF := b0.setRow #[.slice (some ⟨w.heap.size + 1, 0, none⟩) 4 4, .int .i64 1, .int .i64 1, .int .i64 0, .int .i64 (-5), .int .i64 5, .slice A1 R1.1.length c1, .slice A2 R2.1.length c2, .int .i64 0, .int .i64 0, .int .i64 1, .slice none 0 0, .int .i64 0, .int .i64 0, .int .i64 0, .int .i64 0, .int .i64 0, .slice none 0 0, .slice none 0 0, .slice none 0 0, .slice none 0 0, .slice none 0 0]
  have HL := run_loadVar_row (P := Try.prog) _ _ _ 34 _ _ _ bF Try.underlying34 rfl (by kernel_rfl)
  clear c1_ f1_ c2_
  refine bodyPost_ret (v := .agg #[.slice (some ⟨w.heap.size + 1, 0, none⟩) 4 4, .int .i64 1, .int .i64 1, .int .i64 0, .int .i64 (-5), .int .i64 5, .slice A1 R1.1.length c1, .slice A2 R2.1.length c2, .int .i64 0, .int .i64 0, .int .i64 1, .slice none 0 0, .int .i64 0, .int .i64 0, .int .i64 0, .int .i64 0, .int .i64 0, .slice none 0 0, .slice none 0 0, .slice none 0 0, .slice none 0 0, .slice none 0 0]) (by simp [results, Try.results5, asAddr, Act.put, HL]) rfl ?_
  exact HM.out _ _ _ _ _ _ _ _ _ _ _ _ _ (m0.setRow (.inl (by omega)) _) (m1.setRow (.inl (by omega)) _) (m2.setRow (.inl (by omega)) _)
    (by simp; omega) (by simp; omega) (by simp; omega) (by omega) (by omega) (by omega) (hx.setRow (Nat.le_refl _) _)
end Go.Proofs.Ytnkkfjlnjhmahaa
