/- Contracts of tables: TableOk, FormatTable of the program and of the reference. (written by tools/mkTb.py) -/
import Derived.Test.YtlgkfjhbimffiaaDoorMTable
import Derived.Test.YtlgkfjhbimffiaaDoorSs
import Derived.IntWalk
namespace Go.Proofs.YtlgkfjhbimffiaaDoor
open Go.ChangeShapes Go.WideShapes Go.ChangeAt Go.RowKit
set_option linter.unusedVariables false
set_option maxRecDepth 100000

def gridOk (t : Table) : Bool := inR t.X0 (-1000) 1000 && inR t.Y0 (-1000) 1000 && inR t.Step 1 100 && inR t.Nx 1 100 && inR t.Ny 1 100 && decide (t.Nx * t.Ny ≤ 400) && decide (t.X0 + t.Nx * t.Step ≤ 1000) && decide (t.Y0 + t.Ny * t.Step ≤ 1000)
def cellOk (n : Int) : Bool := decide (n = -1000000) || inR n (-1000) 1000
def tableOk (t : Table) : Bool := gridOk t && decide ((t.Cells.length : Int) = t.Nx * t.Ny) && t.Cells.all cellOk
def cellT (n : Int) : List UInt8 := if n = -1000000 then [45] else numT n
theorem mul_bd {a b : Int} (h1 : 1 ≤ a) (h2 : a ≤ 100) (h3 : 1 ≤ b) (h4 : b ≤ 100) : 1 ≤ a * b ∧ a * b ≤ 10000 := by
  refine ⟨?_, ?_⟩
  · have := Int.mul_le_mul h1 h3 (by omega) (by omega); simpa using this
  · have := Int.mul_le_mul h2 h4 (by omega) (by omega); simpa using this
theorem wrap_mul {a b : Int} (h : 1 ≤ a * b ∧ a * b ≤ 10000) : IntKind.i64.wrap (a * b) = a * b := IntWalk.i64_in _ (by omega)
theorem gridOk_parts {t : Table} (h : gridOk t = true) : (1 ≤ t.Nx ∧ t.Nx ≤ 100) ∧ (1 ≤ t.Ny ∧ t.Ny ≤ 100) ∧ t.Nx * t.Ny ≤ 400 := by
  simp only [gridOk, inR, Bool.and_eq_true, decide_eq_true_eq] at h
  omega
set_option maxHeartbeats 2000000 in
theorem implGrid_any (t : Table) (vs : List Value) (w : World) (h : AggRow w (tableF t) vs) (hI : tableFI t) :
    Calls Tryd.prog 94 #[.agg vs.toArray] w fun e w' => e = .returned (.bool (gridOk t)) ∧ Ext w w' := by
  obtain ⟨_, rfl, _, rfl, _, rfl, _, rfl, _, rfl, A5, c5, _, rfl, r5, n5, m5, rfl⟩ := h
  have hy : Ext w (w.alloc (.cells #[.int .i64 t.X0, .int .i64 t.Y0, .int .i64 t.Step, .int .i64 t.Nx, .int .i64 t.Ny, .slice A5 t.Cells.length c5] 28)) := (Ext.refl w).alloc _
  rcases Bool.eq_false_or_eq_true (inR t.X0 (-1000) 1000) with h0 | h0
  rotate_left
  · have H : Hid (gridOk t = false) := by unfold Hid gridOk; simp only [h0]; simp
    go_enter Tryd.func94, Tryd.ntmps94
    go_wp2_with (go_at_call 95; refine (inRange_any _ _ _ _).mono ?_; rintro e w' ⟨rfl, rfl⟩)
    all_goals go_ret
    all_goals exact ⟨ret_bool H.out.symm, hy⟩
  rcases Bool.eq_false_or_eq_true (inR t.Y0 (-1000) 1000) with h1 | h1
  rotate_left
  · have H : Hid (gridOk t = false) := by unfold Hid gridOk; simp only [h1]; simp
    go_enter Tryd.func94, Tryd.ntmps94
    go_wp2_with (go_at_call 95; refine (inRange_any _ _ _ _).mono ?_; rintro e w' ⟨rfl, rfl⟩)
    all_goals go_ret
    all_goals exact ⟨ret_bool H.out.symm, hy⟩
  rcases Bool.eq_false_or_eq_true (inR t.Step 1 100) with h2 | h2
  rotate_left
  · have H : Hid (gridOk t = false) := by unfold Hid gridOk; simp only [h2]; simp
    go_enter Tryd.func94, Tryd.ntmps94
    go_wp2_with (go_at_call 95; refine (inRange_any _ _ _ _).mono ?_; rintro e w' ⟨rfl, rfl⟩)
    all_goals go_ret
    all_goals exact ⟨ret_bool H.out.symm, hy⟩
  rcases Bool.eq_false_or_eq_true (inR t.Nx 1 100) with h3 | h3
  rotate_left
  · have H : Hid (gridOk t = false) := by unfold Hid gridOk; simp only [h3]; simp
    go_enter Tryd.func94, Tryd.ntmps94
    go_wp2_with (go_at_call 95; refine (inRange_any _ _ _ _).mono ?_; rintro e w' ⟨rfl, rfl⟩)
    all_goals go_ret
    all_goals exact ⟨ret_bool H.out.symm, hy⟩
  rcases Bool.eq_false_or_eq_true (inR t.Ny 1 100) with h4 | h4
  rotate_left
  · have H : Hid (gridOk t = false) := by unfold Hid gridOk; simp only [h4]; simp
    go_enter Tryd.func94, Tryd.ntmps94
    go_wp2_with (go_at_call 95; refine (inRange_any _ _ _ _).mono ?_; rintro e w' ⟨rfl, rfl⟩)
    all_goals go_ret
    all_goals exact ⟨ret_bool H.out.symm, hy⟩
  have k3 : 1 ≤ t.Nx ∧ t.Nx ≤ 100 := by simpa [inR] using h3
  have k4 : 1 ≤ t.Ny ∧ t.Ny ≤ 100 := by simpa [inR] using h4
  have k2 : 1 ≤ t.Step ∧ t.Step ≤ 100 := by simpa [inR] using h2
  have k0 : -1000 ≤ t.X0 ∧ t.X0 ≤ 1000 := by simpa [inR] using h0
  have k1 : -1000 ≤ t.Y0 ∧ t.Y0 ≤ 1000 := by simpa [inR] using h1
  have e1 := mul_bd k3.1 k3.2 k4.1 k4.2
  have e2 := mul_bd k3.1 k3.2 k2.1 k2.2
  have e3 := mul_bd k4.1 k4.2 k2.1 k2.2
  have w1 := wrap_mul e1
  have w2 := wrap_mul e2
  have w3 := wrap_mul e3
  have HG : Hid (gridOk t = (decide (t.Nx * t.Ny ≤ 400) && decide (t.X0 + t.Nx * t.Step ≤ 1000) && decide (t.Y0 + t.Ny * t.Step ≤ 1000))) := by unfold Hid gridOk; simp only [h0, h1, h2, h3, h4]; simp
  obtain ⟨p1, hp1⟩ : ∃ p, t.Nx * t.Ny = p := ⟨_, rfl⟩
  obtain ⟨p2, hp2⟩ : ∃ p, t.Nx * t.Step = p := ⟨_, rfl⟩
  obtain ⟨p3, hp3⟩ : ∃ p, t.Ny * t.Step = p := ⟨_, rfl⟩
  rw [hp1] at e1 HG w1
  rw [hp2] at e2 HG w2
  rw [hp3] at e3 HG w3
  replace w1 : IntKind.i64.wrap (t.Nx * t.Ny) = p1 := by rw [hp1]; exact w1
  replace w2 : IntKind.i64.wrap (t.Nx * t.Step) = p2 := by rw [hp2]; exact w2
  replace w3 : IntKind.i64.wrap (t.Ny * t.Step) = p3 := by rw [hp3]; exact w3
  obtain ⟨e1a, e1b⟩ := e1
  obtain ⟨e2a, e2b⟩ := e2
  obtain ⟨e3a, e3b⟩ := e3
  obtain ⟨k0a, k0b⟩ := k0
  obtain ⟨k1a, k1b⟩ := k1
  clear k2 k3 k4
  have Hp1 := Lib.hid hp1
  have Hp2 := Lib.hid hp2
  have Hp3 := Lib.hid hp3
  clear hp1 hp2 hp3
  by_cases g1 : p1 ≤ 400
  rotate_left
  · have H : Hid (gridOk t = false) := by rw [Hid, HG.out]; simp [g1]
    have g1' : 400 < p1 := by omega
    go_enter Tryd.func94, Tryd.ntmps94
    go_wp2_with (go_at_call 95; refine (inRange_any _ _ _ _).mono ?_; rintro e w' ⟨rfl, rfl⟩)
    all_goals go_ret
    all_goals exact ⟨ret_bool H.out.symm, hy⟩
  by_cases g2 : t.X0 + p2 ≤ 1000
  rotate_left
  · have H : Hid (gridOk t = false) := by rw [Hid, HG.out]; simp [g2]
    go_enter Tryd.func94, Tryd.ntmps94
    go_wp2_with (go_at_call 95; refine (inRange_any _ _ _ _).mono ?_; rintro e w' ⟨rfl, rfl⟩)
    all_goals go_ret
    all_goals exact ⟨ret_bool H.out.symm, hy⟩
  by_cases g3 : t.Y0 + p3 ≤ 1000
  · have H : Hid (gridOk t = true) := by rw [Hid, HG.out]; simp [g1, g2, g3]
    go_enter Tryd.func94, Tryd.ntmps94
    go_wp2_with (go_at_call 95; refine (inRange_any _ _ _ _).mono ?_; rintro e w' ⟨rfl, rfl⟩)
    all_goals go_ret
    all_goals exact ⟨ret_bool (by rw [H.out] <;> simp [*]), hy⟩
  · have H : Hid (gridOk t = false) := by rw [Hid, HG.out]; simp [g3]
    go_enter Tryd.func94, Tryd.ntmps94
    go_wp2_with (go_at_call 95; refine (inRange_any _ _ _ _).mono ?_; rintro e w' ⟨rfl, rfl⟩)
    all_goals go_ret
    all_goals exact ⟨ret_bool (by rw [H.out] <;> simp [*]), hy⟩
set_option maxHeartbeats 2000000 in
theorem specGrid_any (t : Table) (vs : List Value) (w : World) (h : AggRow w (tableF t) vs) (hI : tableFI t) :
    Calls Tryd.prog 92 #[.agg vs.toArray] w fun e w' => e = .returned (.bool (gridOk t)) ∧ Ext w w' := by
  obtain ⟨_, rfl, _, rfl, _, rfl, _, rfl, _, rfl, A5, c5, _, rfl, r5, n5, m5, rfl⟩ := h
  have hy : Ext w (w.alloc (.cells #[.int .i64 t.X0, .int .i64 t.Y0, .int .i64 t.Step, .int .i64 t.Nx, .int .i64 t.Ny, .slice A5 t.Cells.length c5] 28)) := (Ext.refl w).alloc _
  rcases Bool.eq_false_or_eq_true (inR t.X0 (-1000) 1000) with h0 | h0
  rotate_left
  · have H : Hid (gridOk t = false) := by unfold Hid gridOk; simp only [h0]; simp
    go_enter Tryd.func92, Tryd.ntmps92
    go_wp2_with (go_at_call 93; refine (l01In_any _ _ _ _).mono ?_; rintro e w' ⟨rfl, rfl⟩)
    all_goals go_ret
    all_goals exact ⟨ret_bool H.out.symm, hy⟩
  rcases Bool.eq_false_or_eq_true (inR t.Y0 (-1000) 1000) with h1 | h1
  rotate_left
  · have H : Hid (gridOk t = false) := by unfold Hid gridOk; simp only [h1]; simp
    go_enter Tryd.func92, Tryd.ntmps92
    go_wp2_with (go_at_call 93; refine (l01In_any _ _ _ _).mono ?_; rintro e w' ⟨rfl, rfl⟩)
    all_goals go_ret
    all_goals exact ⟨ret_bool H.out.symm, hy⟩
  rcases Bool.eq_false_or_eq_true (inR t.Step 1 100) with h2 | h2
  rotate_left
  · have H : Hid (gridOk t = false) := by unfold Hid gridOk; simp only [h2]; simp
    go_enter Tryd.func92, Tryd.ntmps92
    go_wp2_with (go_at_call 93; refine (l01In_any _ _ _ _).mono ?_; rintro e w' ⟨rfl, rfl⟩)
    all_goals go_ret
    all_goals exact ⟨ret_bool H.out.symm, hy⟩
  rcases Bool.eq_false_or_eq_true (inR t.Nx 1 100) with h3 | h3
  rotate_left
  · have H : Hid (gridOk t = false) := by unfold Hid gridOk; simp only [h3]; simp
    go_enter Tryd.func92, Tryd.ntmps92
    go_wp2_with (go_at_call 93; refine (l01In_any _ _ _ _).mono ?_; rintro e w' ⟨rfl, rfl⟩)
    all_goals go_ret
    all_goals exact ⟨ret_bool H.out.symm, hy⟩
  rcases Bool.eq_false_or_eq_true (inR t.Ny 1 100) with h4 | h4
  rotate_left
  · have H : Hid (gridOk t = false) := by unfold Hid gridOk; simp only [h4]; simp
    go_enter Tryd.func92, Tryd.ntmps92
    go_wp2_with (go_at_call 93; refine (l01In_any _ _ _ _).mono ?_; rintro e w' ⟨rfl, rfl⟩)
    all_goals go_ret
    all_goals exact ⟨ret_bool H.out.symm, hy⟩
  have k3 : 1 ≤ t.Nx ∧ t.Nx ≤ 100 := by simpa [inR] using h3
  have k4 : 1 ≤ t.Ny ∧ t.Ny ≤ 100 := by simpa [inR] using h4
  have k2 : 1 ≤ t.Step ∧ t.Step ≤ 100 := by simpa [inR] using h2
  have k0 : -1000 ≤ t.X0 ∧ t.X0 ≤ 1000 := by simpa [inR] using h0
  have k1 : -1000 ≤ t.Y0 ∧ t.Y0 ≤ 1000 := by simpa [inR] using h1
  have e1 := mul_bd k3.1 k3.2 k4.1 k4.2
  have e2 := mul_bd k3.1 k3.2 k2.1 k2.2
  have e3 := mul_bd k4.1 k4.2 k2.1 k2.2
  have w1 := wrap_mul e1
  have w2 := wrap_mul e2
  have w3 := wrap_mul e3
  have HG : Hid (gridOk t = (decide (t.Nx * t.Ny ≤ 400) && decide (t.X0 + t.Nx * t.Step ≤ 1000) && decide (t.Y0 + t.Ny * t.Step ≤ 1000))) := by unfold Hid gridOk; simp only [h0, h1, h2, h3, h4]; simp
  obtain ⟨p1, hp1⟩ : ∃ p, t.Nx * t.Ny = p := ⟨_, rfl⟩
  obtain ⟨p2, hp2⟩ : ∃ p, t.Nx * t.Step = p := ⟨_, rfl⟩
  obtain ⟨p3, hp3⟩ : ∃ p, t.Ny * t.Step = p := ⟨_, rfl⟩
  rw [hp1] at e1 HG w1
  rw [hp2] at e2 HG w2
  rw [hp3] at e3 HG w3
  replace w1 : IntKind.i64.wrap (t.Nx * t.Ny) = p1 := by rw [hp1]; exact w1
  replace w2 : IntKind.i64.wrap (t.Nx * t.Step) = p2 := by rw [hp2]; exact w2
  replace w3 : IntKind.i64.wrap (t.Ny * t.Step) = p3 := by rw [hp3]; exact w3
  obtain ⟨e1a, e1b⟩ := e1
  obtain ⟨e2a, e2b⟩ := e2
  obtain ⟨e3a, e3b⟩ := e3
  obtain ⟨k0a, k0b⟩ := k0
  obtain ⟨k1a, k1b⟩ := k1
  clear k2 k3 k4
  have Hp1 := Lib.hid hp1
  have Hp2 := Lib.hid hp2
  have Hp3 := Lib.hid hp3
  clear hp1 hp2 hp3
  by_cases g1 : p1 ≤ 400
  rotate_left
  · have H : Hid (gridOk t = false) := by rw [Hid, HG.out]; simp [g1]
    have g1' : 400 < p1 := by omega
    go_enter Tryd.func92, Tryd.ntmps92
    go_wp2_with (go_at_call 93; refine (l01In_any _ _ _ _).mono ?_; rintro e w' ⟨rfl, rfl⟩)
    all_goals go_ret
    all_goals exact ⟨ret_bool H.out.symm, hy⟩
  by_cases g2 : t.X0 + p2 ≤ 1000
  rotate_left
  · have H : Hid (gridOk t = false) := by rw [Hid, HG.out]; simp [g2]
    go_enter Tryd.func92, Tryd.ntmps92
    go_wp2_with (go_at_call 93; refine (l01In_any _ _ _ _).mono ?_; rintro e w' ⟨rfl, rfl⟩)
    all_goals go_ret
    all_goals exact ⟨ret_bool H.out.symm, hy⟩
  by_cases g3 : t.Y0 + p3 ≤ 1000
  · have H : Hid (gridOk t = true) := by rw [Hid, HG.out]; simp [g1, g2, g3]
    go_enter Tryd.func92, Tryd.ntmps92
    go_wp2_with (go_at_call 93; refine (l01In_any _ _ _ _).mono ?_; rintro e w' ⟨rfl, rfl⟩)
    all_goals go_ret
    all_goals exact ⟨ret_bool (by rw [H.out] <;> simp [*]), hy⟩
  · have H : Hid (gridOk t = false) := by rw [Hid, HG.out]; simp [g3]
    go_enter Tryd.func92, Tryd.ntmps92
    go_wp2_with (go_at_call 93; refine (l01In_any _ _ _ _).mono ?_; rintro e w' ⟨rfl, rfl⟩)
    all_goals go_ret
    all_goals exact ⟨ret_bool (by rw [H.out] <;> simp [*]), hy⟩

theorem all_cell_at {l : List Int} {k : Nat} (hk : k < l.length) (h : l.all cellOk = true) : cellOk l[k] = true := List.all_eq_true.1 h _ (List.getElem_mem hk)
theorem tableOk_grid {t : Table} (h : tableOk t = true) : gridOk t = true ∧ (t.Cells.length : Int) = t.Nx * t.Ny ∧ t.Cells.all cellOk = true := by
  simpa [tableOk, and_assoc] using h
set_option maxHeartbeats 2000000 in
theorem implTableOk_any (t : Table) (vs : List Value) (w : World) (h : AggRow w (tableF t) vs) (hI : tableFI t) (hl : t.Cells.length ≤ 1048576) :
    Calls Tryd.prog 45 #[.agg vs.toArray] w fun e w' => e = .returned (.bool (tableOk t)) ∧ Ext w w' := by
  obtain ⟨_, rfl, _, rfl, _, rfl, _, rfl, _, rfl, A5, c5, _, rfl, r5, n5, m5, rfl⟩ := h
  have hy : Ext w (w.alloc (.cells #[.int .i64 t.X0, .int .i64 t.Y0, .int .i64 t.Step, .int .i64 t.Nx, .int .i64 t.Ny, .slice A5 t.Cells.length c5] 28)) := (Ext.refl w).alloc _
  have bR := Blk.new w 28 #[.int .i64 t.X0, .int .i64 t.Y0, .int .i64 t.Step, .int .i64 t.Nx, .int .i64 t.Ny, .slice A5 t.Cells.length c5]
  obtain ⟨n, hn⟩ : ∃ n, t.Cells.length = n := ⟨_, rfl⟩
  have HN := Lib.hid hn
  rw [hn] at hl n5 bR hy ⊢
  clear hn
  have hag : AggRow (w.alloc (.cells #[.int .i64 t.X0, .int .i64 t.Y0, .int .i64 t.Step, .int .i64 t.Nx, .int .i64 t.Ny, .slice A5 n c5] 28)) (tableF t) [.int .i64 t.X0, .int .i64 t.Y0, .int .i64 t.Step, .int .i64 t.Nx, .int .i64 t.Ny, .slice A5 n c5] := ⟨_, rfl, _, rfl, _, rfl, _, rfl, _, rfl, A5, c5, _, by rw [HN.out], r5.ext hy, by rw [HN.out]; exact n5, m5, rfl⟩
  go_enter Tryd.func45, Tryd.ntmps45
  go_wp2_with fail
  refine (implGrid_any t [.int .i64 t.X0, .int .i64 t.Y0, .int .i64 t.Step, .int .i64 t.Nx, .int .i64 t.Ny, .slice A5 n c5] _ hag hI).mono ?_
  rintro e w1 ⟨rfl, hx1⟩
  replace hy := hy.trans hx1
  replace bR := bR.ext hx1
  have cbR_1 := fun o => bR.cell o
  by_cases h1 : gridOk t = true
  rotate_left
  · have H : Hid (tableOk t = false) := by unfold Hid tableOk; simp [h1]
    rw [show gridOk t = false from by simpa using h1]
    clear h1
    go_wp2
    go_ret
    exact ⟨ret_bool H.out.symm, hy⟩
  obtain ⟨⟨a1, a2⟩, ⟨a3, a4⟩, a5⟩ := gridOk_parts h1
  have e1 := mul_bd a1 a2 a3 a4
  have w1 := wrap_mul e1
  have HT : Hid (tableOk t = (decide ((t.Cells.length : Int) = t.Nx * t.Ny) && t.Cells.all cellOk)) := by unfold Hid tableOk; rw [h1]; rfl
  rw [h1]
  clear h1
  obtain ⟨p1, hp1⟩ : ∃ p, t.Nx * t.Ny = p := ⟨_, rfl⟩
  rw [hp1] at e1 HT w1
  replace w1 : IntKind.i64.wrap (t.Nx * t.Ny) = p1 := by rw [hp1]; exact w1
  clear hp1
  obtain ⟨e1a, e1b⟩ := e1
  by_cases h2 : (n : Int) = p1
  rotate_left
  · have H : Hid (tableOk t = false) := by rw [Hid, HT.out, HN.out]; simp [h2]
    have h2b : ((n : Int) != p1) = true := by simpa using h2
    clear h2
    go_wp2
    go_ret
    exact ⟨ret_bool H.out.symm, hy⟩
  have h2b : ((n : Int) != p1) = false := by simpa using h2
  have HT2 : Hid (tableOk t = t.Cells.all cellOk) := by rw [Hid, HT.out, HN.out]; simp [h2]
  clear h2 HT
  have hr := r5.ext hy
  go_wp2
  go_loop [22] (fun i => ∃ k : Nat, k ≤ n ∧ i = .int .i64 k ∧ (t.Cells.take k).all cellOk = true) (fun i => n - (intOf i).toNat)
  case atStart => exact ⟨0, Nat.zero_le _, rfl, rfl⟩
  case round =>
    obtain ⟨k, hk, rfl, hall⟩ := hrel
    have Hall := Lib.hid hall
    clear hall
    by_cases hlt : k < n
    · have hlt2 : (k : Int) < (n : Int) := by omega
      obtain ⟨b, off, rfl, hb, hc⟩ := hr.int (k := k) (by rw [HN.out]; exact hlt)
      have Hs := Lib.hid (all_take_succ cellOk t.Cells k (by rw [HN.out]; exact hlt))
      have Hf := Lib.hid (all_false_at cellOk t.Cells k (by rw [HN.out]; exact hlt))
      have Hd : Hid (cellOk (t.Cells[k]'(by rw [HN.out]; exact hlt)) = (decide ((t.Cells[k]'(by rw [HN.out]; exact hlt)) = -1000000) || inR (t.Cells[k]'(by rw [HN.out]; exact hlt)) (-1000) 1000)) := rfl
      obtain ⟨z, hz⟩ : ∃ z, t.Cells[k]'(by rw [HN.out]; exact hlt) = z := ⟨_, rfl⟩
      rw [hz] at hc Hs Hf Hd
      clear hz
      by_cases hno : z = -1000000
      · have hnb : (z != -1000000) = false := by simpa using hno
        have Hd2 : Hid (cellOk z = true) := by rw [Hid, Hd.out]; simp [hno]
        clear hno
        go_wp2
        go_round
        case rel => exact ⟨k + 1, by omega, by go_num, by rw [Hs.out, Hall.out, Hd2.out]; rfl⟩
        case measure => simp [intOf]; omega
      · have hnb : (z != -1000000) = true := by simpa using hno
        rcases Bool.eq_false_or_eq_true (inR z (-1000) 1000) with hi | hi
        · have Hd2 : Hid (cellOk z = true) := by rw [Hid, Hd.out, hi]; simp
          clear hno
          go_wp2_with (go_at_call 95; refine (inRange_any _ _ _ _).mono ?_; rintro e w' ⟨rfl, rfl⟩)
          go_round
          case rel => exact ⟨k + 1, by omega, by go_num, by rw [Hs.out, Hall.out, Hd2.out]; rfl⟩
          case measure => simp [intOf]; omega
        · have Hd2 : Hid (cellOk z = false) := by rw [Hid, Hd.out, hi]; simp [hno]
          clear hno
          go_wp2_with (go_at_call 95; refine (inRange_any _ _ _ _).mono ?_; rintro e w' ⟨rfl, rfl⟩)
          go_ret
          exact ⟨ret_bool (by rw [HT2.out]; exact (Hf.out Hd2.out).symm), hy⟩
    · obtain rfl : k = n := by omega
      have hall := Hall.out
      rw [List.take_of_length_le (by rw [HN.out]; exact Nat.le_refl _)] at hall
      have Hall2 := Lib.hid hall
      clear hall
      go_wp2
      go_ret
      exact ⟨ret_bool (by rw [HT2.out]; exact Hall2.out.symm), hy⟩
set_option maxHeartbeats 2000000 in
theorem specTableOk_any (t : Table) (vs : List Value) (w : World) (h : AggRow w (tableF t) vs) (hI : tableFI t) (hl : t.Cells.length ≤ 1048576) :
    Calls Tryd.prog 41 #[.agg vs.toArray] w fun e w' => e = .returned (.bool (tableOk t)) ∧ Ext w w' := by
  obtain ⟨_, rfl, _, rfl, _, rfl, _, rfl, _, rfl, A5, c5, _, rfl, r5, n5, m5, rfl⟩ := h
  have hy : Ext w (w.alloc (.cells #[.int .i64 t.X0, .int .i64 t.Y0, .int .i64 t.Step, .int .i64 t.Nx, .int .i64 t.Ny, .slice A5 t.Cells.length c5] 28)) := (Ext.refl w).alloc _
  have bR := Blk.new w 28 #[.int .i64 t.X0, .int .i64 t.Y0, .int .i64 t.Step, .int .i64 t.Nx, .int .i64 t.Ny, .slice A5 t.Cells.length c5]
  obtain ⟨n, hn⟩ : ∃ n, t.Cells.length = n := ⟨_, rfl⟩
  have HN := Lib.hid hn
  rw [hn] at hl n5 bR hy ⊢
  clear hn
  have hag : AggRow (w.alloc (.cells #[.int .i64 t.X0, .int .i64 t.Y0, .int .i64 t.Step, .int .i64 t.Nx, .int .i64 t.Ny, .slice A5 n c5] 28)) (tableF t) [.int .i64 t.X0, .int .i64 t.Y0, .int .i64 t.Step, .int .i64 t.Nx, .int .i64 t.Ny, .slice A5 n c5] := ⟨_, rfl, _, rfl, _, rfl, _, rfl, _, rfl, A5, c5, _, by rw [HN.out], r5.ext hy, by rw [HN.out]; exact n5, m5, rfl⟩
  go_enter Tryd.func41, Tryd.ntmps41
  go_wp2_with fail
  refine (specGrid_any t [.int .i64 t.X0, .int .i64 t.Y0, .int .i64 t.Step, .int .i64 t.Nx, .int .i64 t.Ny, .slice A5 n c5] _ hag hI).mono ?_
  rintro e w1 ⟨rfl, hx1⟩
  replace hy := hy.trans hx1
  replace bR := bR.ext hx1
  have cbR_2 := fun o => bR.cell o
  by_cases h1 : gridOk t = true
  rotate_left
  · have H : Hid (tableOk t = false) := by unfold Hid tableOk; simp [h1]
    rw [show gridOk t = false from by simpa using h1]
    clear h1
    go_wp2
    go_ret
    exact ⟨ret_bool H.out.symm, hy⟩
  obtain ⟨⟨a1, a2⟩, ⟨a3, a4⟩, a5⟩ := gridOk_parts h1
  have e1 := mul_bd a1 a2 a3 a4
  have w1 := wrap_mul e1
  have HT : Hid (tableOk t = (decide ((t.Cells.length : Int) = t.Nx * t.Ny) && t.Cells.all cellOk)) := by unfold Hid tableOk; rw [h1]; rfl
  rw [h1]
  clear h1
  obtain ⟨p1, hp1⟩ : ∃ p, t.Nx * t.Ny = p := ⟨_, rfl⟩
  rw [hp1] at e1 HT w1
  replace w1 : IntKind.i64.wrap (t.Nx * t.Ny) = p1 := by rw [hp1]; exact w1
  clear hp1
  obtain ⟨e1a, e1b⟩ := e1
  by_cases h2 : (n : Int) = p1
  rotate_left
  · have H : Hid (tableOk t = false) := by rw [Hid, HT.out, HN.out]; simp [h2]
    have h2b : ((n : Int) != p1) = true := by simpa using h2
    clear h2
    go_wp2
    go_ret
    exact ⟨ret_bool H.out.symm, hy⟩
  have h2b : ((n : Int) != p1) = false := by simpa using h2
  have HT2 : Hid (tableOk t = t.Cells.all cellOk) := by rw [Hid, HT.out, HN.out]; simp [h2]
  clear h2 HT
  have hr := r5.ext hy
  go_wp2
  go_loop [22] (fun i => ∃ k : Nat, k ≤ n ∧ i = .int .i64 k ∧ (t.Cells.take k).all cellOk = true) (fun i => n - (intOf i).toNat)
  case atStart => exact ⟨0, Nat.zero_le _, rfl, rfl⟩
  case round =>
    obtain ⟨k, hk, rfl, hall⟩ := hrel
    have Hall := Lib.hid hall
    clear hall
    by_cases hlt : k < n
    · have hlt2 : (k : Int) < (n : Int) := by omega
      obtain ⟨b, off, rfl, hb, hc⟩ := hr.int (k := k) (by rw [HN.out]; exact hlt)
      have Hs := Lib.hid (all_take_succ cellOk t.Cells k (by rw [HN.out]; exact hlt))
      have Hf := Lib.hid (all_false_at cellOk t.Cells k (by rw [HN.out]; exact hlt))
      have Hd : Hid (cellOk (t.Cells[k]'(by rw [HN.out]; exact hlt)) = (decide ((t.Cells[k]'(by rw [HN.out]; exact hlt)) = -1000000) || inR (t.Cells[k]'(by rw [HN.out]; exact hlt)) (-1000) 1000)) := rfl
      obtain ⟨z, hz⟩ : ∃ z, t.Cells[k]'(by rw [HN.out]; exact hlt) = z := ⟨_, rfl⟩
      rw [hz] at hc Hs Hf Hd
      clear hz
      by_cases hno : z = -1000000
      · have hnb : (z != -1000000) = false := by simpa using hno
        have Hd2 : Hid (cellOk z = true) := by rw [Hid, Hd.out]; simp [hno]
        clear hno
        go_wp2
        go_round
        case rel => exact ⟨k + 1, by omega, by go_num, by rw [Hs.out, Hall.out, Hd2.out]; rfl⟩
        case measure => simp [intOf]; omega
      · have hnb : (z != -1000000) = true := by simpa using hno
        rcases Bool.eq_false_or_eq_true (inR z (-1000) 1000) with hi | hi
        · have Hd2 : Hid (cellOk z = true) := by rw [Hid, Hd.out, hi]; simp
          clear hno
          go_wp2_with (go_at_call 93; refine (l01In_any _ _ _ _).mono ?_; rintro e w' ⟨rfl, rfl⟩)
          go_round
          case rel => exact ⟨k + 1, by omega, by go_num, by rw [Hs.out, Hall.out, Hd2.out]; rfl⟩
          case measure => simp [intOf]; omega
        · have Hd2 : Hid (cellOk z = false) := by rw [Hid, Hd.out, hi]; simp [hno]
          clear hno
          go_wp2_with (go_at_call 93; refine (l01In_any _ _ _ _).mono ?_; rintro e w' ⟨rfl, rfl⟩)
          go_ret
          exact ⟨ret_bool (by rw [HT2.out]; exact (Hf.out Hd2.out).symm), hy⟩
    · obtain rfl : k = n := by omega
      have hall := Hall.out
      rw [List.take_of_length_le (by rw [HN.out]; exact Nat.le_refl _)] at hall
      have Hall2 := Lib.hid hall
      clear hall
      go_wp2
      go_ret
      exact ⟨ret_bool (by rw [HT2.out]; exact Hall2.out.symm), hy⟩

def rowCells (L : List Int) (a nx : Nat) : List Int := (L.drop a).take nx
def partsTo (L : List Int) (a q : Nat) : List (List UInt8) := (rowCells L a q).map cellT
def rowT (L : List Int) (a nx : Nat) : List UInt8 := Lib.join (partsTo L a nx) [32]
def linesTo (L : List Int) (nx ny k : Nat) : List (List UInt8) := (List.range k).map fun (q : Nat) => rowT L ((ny - 1 - q) * nx) nx
def tableT (t : Table) : List (List UInt8) := if tableOk t = true then linesTo t.Cells t.Nx.toNat t.Ny.toNat t.Ny.toNat else []
theorem partsTo_zero (L : List Int) (a : Nat) : partsTo L a 0 = [] := by simp [partsTo, rowCells]
theorem partsTo_succ {L : List Int} {a q : Nat} (h : a + q < L.length) : partsTo L a (q + 1) = partsTo L a q ++ [cellT L[a + q]] := by
  unfold partsTo rowCells
  rw [List.take_succ_eq_append_getElem (by rw [List.length_drop]; omega), List.map_append]
  simp
theorem partsTo_len {L : List Int} {a q : Nat} (h : a + q ≤ L.length) : (partsTo L a q).length = q := by
  unfold partsTo rowCells
  rw [List.length_map, List.length_take, List.length_drop]; omega
theorem linesTo_succ (L : List Int) (nx ny k : Nat) : linesTo L nx ny (k + 1) = linesTo L nx ny k ++ [rowT L ((ny - 1 - k) * nx) nx] := by
  unfold linesTo
  rw [List.range_succ, List.map_append]
  rfl
theorem linesTo_len (L : List Int) (nx ny k : Nat) : (linesTo L nx ny k).length = k := by simp [linesTo]
theorem tableT_le (t : Table) : (tableT t).length ≤ 1048576 := by
  unfold tableT
  split
  · rename_i h
    rw [linesTo_len]
    have := (gridOk_parts (tableOk_grid h).1).2.1
    omega
  · simp
theorem cellT_len {n : Int} (h : I64 n) : (cellT n).length ≤ 64 := by
  unfold cellT
  split
  · simp
  · exact numT_len h.1 h.2
theorem parts_join {L : List Int} {a q : Nat} (h : a + q ≤ L.length) (hI : ∀ z ∈ L, I64 z) : (Lib.join (partsTo L a q) [32]).length ≤ q * 65 := by
  have := join_len_le (partsTo L a q) [32] 64 (fun x hx => by
    obtain ⟨n, hn, rfl⟩ := List.mem_map.1 hx
    exact cellT_len (hI n (List.mem_of_mem_drop (List.mem_of_mem_take hn))))
  rw [partsTo_len h] at this
  simpa using this
set_option maxHeartbeats 4000000 in
theorem implFormatTable_any (t : Table) (vs : List Value) (w : World) (h : AggRow w (tableF t) vs) (hI : tableFI t) (hl : t.Cells.length ≤ 1048576) (ht : Tab w) :
    Calls Tryd.prog 12 #[.agg vs.toArray] w fun e w' => StrsMade (tableT t) w e w' := by
  have HT := Lib.hid ht
  clear ht
  obtain ⟨i0, hi0, hz0, hz1, hz2⟩ := info_parts str_info
  by_cases hok : tableOk t = true
  rotate_left
  · have H : Hid (tableT t = []) := by unfold Hid tableT; rw [if_neg hok]
    have h' := h
    obtain ⟨_, rfl, _, rfl, _, rfl, _, rfl, _, rfl, A5, c5, _, rfl, r5, n5, m5, rfl⟩ := h'
    have hy : Ext w (w.alloc (.cells #[.int .i64 t.X0, .int .i64 t.Y0, .int .i64 t.Step, .int .i64 t.Nx, .int .i64 t.Ny, .slice A5 t.Cells.length c5] 28)) := (Ext.refl w).alloc _
    have hag : AggRow (w.alloc (.cells #[.int .i64 t.X0, .int .i64 t.Y0, .int .i64 t.Step, .int .i64 t.Nx, .int .i64 t.Ny, .slice A5 t.Cells.length c5] 28)) (tableF t) [.int .i64 t.X0, .int .i64 t.Y0, .int .i64 t.Step, .int .i64 t.Nx, .int .i64 t.Ny, .slice A5 t.Cells.length c5] := h.ext hy
    go_enter Tryd.func12, Tryd.ntmps12
    go_wp2_with fail
    refine (implTableOk_any t [.int .i64 t.X0, .int .i64 t.Y0, .int .i64 t.Step, .int .i64 t.Nx, .int .i64 t.Ny, .slice A5 t.Cells.length c5] _ hag hI hl).mono ?_
    rintro e w1 ⟨rfl, hx1⟩
    replace hy := hy.trans hx1
    rw [show tableOk t = false from by simpa using hok]
    clear hok
    go_wp2
    go_ret
    exact StrsMade.none H.out rfl hy
  have Hok := Lib.hid hok
  obtain ⟨hg, hlen, _⟩ := tableOk_grid hok
  obtain ⟨⟨a1, a2⟩, ⟨a3, a4⟩, a5⟩ := gridOk_parts hg
  clear hok hg
  have HTT : Hid (tableT t = linesTo t.Cells t.Nx.toNat t.Ny.toNat t.Ny.toNat) := by unfold Hid tableT; rw [if_pos Hok.out]
  obtain ⟨X0, Y0, Step, Nx, Ny, L⟩ := t
  change AggRow w [.i X0, .i Y0, .i Step, .i Nx, .i Ny, intF L] vs at h
  change (L.length : Int) = Nx * Ny at hlen
  change 1 ≤ Nx at a1
  change Nx ≤ 100 at a2
  change 1 ≤ Ny at a3
  change Ny ≤ 100 at a4
  change L.length ≤ 1048576 at hl
  have hIL : ∀ z ∈ L, I64 z := hI.2.2.2.2.2
  obtain ⟨nx, rfl⟩ := Int.eq_ofNat_of_zero_le (show 0 ≤ Nx by omega)
  obtain ⟨ny, rfl⟩ := Int.eq_ofNat_of_zero_le (show 0 ≤ Ny by omega)
  have hlN : L.length = nx * ny := by exact_mod_cast hlen
  have HlN := Lib.hid hlN
  change Hid (tableT _ = linesTo L nx ny ny) at HTT
  have HI := Lib.hid hI
  have HIL := Lib.hid hIL
  clear hlen hlN a5 hI hIL
  have h' := h
  obtain ⟨_, rfl, _, rfl, _, rfl, _, rfl, _, rfl, A5, c5, _, rfl, r5, n5, m5, rfl⟩ := h'
  have hy : Ext w (w.alloc (.cells #[.int .i64 X0, .int .i64 Y0, .int .i64 Step, .int .i64 (nx : Int), .int .i64 (ny : Int), .slice A5 L.length c5] 28)) := (Ext.refl w).alloc _
  have bR := Blk.new w 28 #[.int .i64 X0, .int .i64 Y0, .int .i64 Step, .int .i64 (nx : Int), .int .i64 (ny : Int), .slice A5 L.length c5]
  have hag : AggRow (w.alloc (.cells #[.int .i64 X0, .int .i64 Y0, .int .i64 Step, .int .i64 (nx : Int), .int .i64 (ny : Int), .slice A5 L.length c5] 28)) (tableF ⟨X0, Y0, Step, (nx : Int), (ny : Int), L⟩) [.int .i64 X0, .int .i64 Y0, .int .i64 Step, .int .i64 (nx : Int), .int .i64 (ny : Int), .slice A5 L.length c5] := h.ext hy
  have Hag := Lib.hid hag
  clear hag h
  go_enter Tryd.func12, Tryd.ntmps12
  go_wp2_with fail
  refine (implTableOk_any ⟨X0, Y0, Step, (nx : Int), (ny : Int), L⟩ [.int .i64 X0, .int .i64 Y0, .int .i64 Step, .int .i64 (nx : Int), .int .i64 (ny : Int), .slice A5 L.length c5] _ Hag.out HI.out hl).mono ?_
  rintro e w1 ⟨rfl, hx1⟩
  replace hy := hy.trans hx1
  replace bR := bR.ext hx1
  have cbR_3 := fun o => bR.cell o
  rw [Hok.out]
  have hr1 := r5.ext hy
  have hs1 := hy.size
  have hlt0 := bR.lt
  go_wp2
  go_loopw [3, 4] (fun v i wr => ∃ (k : Nat) (z : Int), k ≤ ny ∧ z = (ny : Int) - 1 - k ∧ i = .int .i64 z ∧ Ext w1 wr ∧ wr.ownsRow w1.heap.size 9 1 v k (strs (linesTo L nx ny k))) (fun _ i _ => (intOf i + 1).toNat)
  case atStart => exact ⟨0, _, Nat.zero_le _, rfl, by congr 1; omega, Ext.refl _, World.ownsRow_nil _ _ _ _⟩
  case round =>
  obtain ⟨k, z, hk, hzz, rfl, hx, hown⟩ := hrel
  obtain ⟨w2, rfl⟩ : ∃ w2, w2 = wr := ⟨_, rfl⟩
  have hsz := hx.size
  by_cases hlt : k < ny
  · obtain ⟨j, rfl⟩ : ∃ j : Nat, z = j := ⟨ny - 1 - k, by omega⟩
    have hjk : ny - 1 - k = j := by omega
    have hj0 : (0 : Int) ≤ (j : Int) := by omega
    obtain ⟨a, ha⟩ : ∃ a, j * nx = a := ⟨_, rfl⟩
    have hjn : j + 1 ≤ ny := by omega
    have han : a + nx ≤ L.length := by
      rw [HlN.out, ← ha, Nat.mul_comm nx ny]
      have := Nat.mul_le_mul_right nx hjn
      rw [Nat.succ_mul] at this
      exact this
    have HLS : Hid (linesTo L nx ny (k + 1) = linesTo L nx ny k ++ [rowT L a nx]) := by rw [Hid, linesTo_succ, hjk, ha]
    have wm : IntKind.i64.wrap ((j : Int) * (nx : Int)) = (a : Int) := by
      rw [← ha, Int.natCast_mul]
      refine IntWalk.i64_in _ ?_
      have h1 : ((j * nx : Nat) : Int) = (j : Int) * (nx : Int) := Int.natCast_mul _ _
      omega
    have wn : IntKind.i64.wrap (((j : Int) + 1) * (nx : Int)) = ((a + nx : Nat) : Int) := by
      have h1 : ((j : Int) + 1) * (nx : Int) = (((j + 1) * nx : Nat) : Int) := by rw [Int.natCast_mul]; rfl
      have h2 : (j + 1) * nx = a + nx := by rw [Nat.succ_mul, ha]
      rw [h1, h2]
      exact IntWalk.i64_in _ (by omega)
    have HJ : Hid (j + k + 1 = ny) := by unfold Hid; omega
    clear ha hzz hjk
    have hA : ∃ b off, A5 = some ⟨b, off, none⟩ := by
      obtain ⟨b, off, e, _⟩ := r5.int (k := a) (by omega)
      exact ⟨b, off, e⟩
    obtain ⟨b, off, rfl⟩ := hA
    have bR2 := bR.ext hx
    have cR2 := fun o => bR2.cell o
    unfold maxLen at m5
    go_wp2
    simp only [Nat.add_sub_cancel_left]
    go_loopw [5, 31] (fun v i wr2 => ∃ q : Nat, q ≤ nx ∧ i = .int .i64 (q : Int) ∧ Ext w2 wr2 ∧ wr2.ownsRow w2.heap.size 9 1 v q (strs (partsTo L a q))) (fun _ i _ => nx - (intOf i).toNat)
    case atStart => exact ⟨0, Nat.zero_le _, rfl, Ext.refl _, by rw [partsTo_zero]; exact World.ownsRow_nil _ _ _ _⟩
    case round =>
    obtain ⟨q, hq, rfl, hx2, hown2⟩ := hrel
    have hsz2 := hx2.size
    have bR3 := bR2.ext hx2
    have cR3 := fun o => bR3.cell o
    by_cases hqn : q < nx
    · have hqn2 : (q : Int) < (nx : Int) := by omega
      obtain ⟨b', off', hA', hb, hc⟩ := ((hr1.ext hx).ext hx2).int (k := a + q) (by omega)
      injection hA' with hA'
      injection hA' with e1 e2
      subst e1 e2
      have Hk := Lib.hid (partsTo_succ (L := L) (a := a) (q := q) (by omega))
      have hIz := HIL.out _ (List.getElem_mem (show a + q < L.length by omega))
      obtain ⟨z, hz⟩ : ∃ z, L[a + q]'(by omega) = z := ⟨_, rfl⟩
      rw [hz] at hc Hk hIz
      have hc2 := hc
      rw [← Nat.add_assoc] at hc2
      clear hz
      by_cases hno : z = -1000000
      · have hnb : (z == -1000000) = true := by simpa using hno
        have Hc : Hid (txt (cellT z) = ⟨#[45]⟩) := by unfold Hid cellT; rw [if_pos hno]; rfl
        clear hno
        go_wp2_with (at_builtin; go_must (refine wpList_append_own _ rfl _ _ 26 rfl w2.heap.size 9 i0 (.string ByteArray.empty) 1 16 Tryd.underlying26 hi0 hz0 hz1 hz2 rfl (by decide) _ _ _ rfl (hown2.alloc _) ⟨wr.heap.size, 0, none⟩ 1 1 [.string (⟨#[45]⟩)] rfl rfl (cell_one_new _ _ _) (by simp [Value.oneCell']) (by unfold maxLen; omega) (by omega) (by simp; omega) ?_); intro v' w9 hown' hgrow _)
        have hx3 : Ext w2 w9 := (hx2.alloc _).grown hgrow (fun g hg => (hown2.lt g hg).1)
        go_roundw
        case rel =>
          first | refine ⟨q + 1, ?_, ?_, hx3, ?_⟩ | refine ⟨_, ⟨q + 1, ?_, ?_, hx3, ?_⟩, rfl⟩ | refine ⟨_, _, ⟨q + 1, ?_, ?_, hx3, ?_⟩, rfl, rfl⟩ | refine ⟨_, _, _, ⟨q + 1, ?_, ?_, hx3, ?_⟩, rfl, rfl, rfl⟩ | refine ⟨_, _, _, _, ⟨q + 1, ?_, ?_, hx3, ?_⟩, rfl, rfl, rfl, rfl⟩ | refine ⟨_, _, _, _, _, ⟨q + 1, ?_, ?_, hx3, ?_⟩, rfl, rfl, rfl, rfl, rfl⟩ | ((repeat apply Exists.intro); refine ⟨⟨q + 1, ?_, ?_, hx3, ?_⟩, rfl⟩)
          · omega
          · go_num
          · rw [Hk.out, strs_append, show strs [cellT z] = [.string (txt (cellT z))] from rfl, Hc.out]; exact hown'
        case measure => simp [intOf]; omega
      · have hnb : (z == -1000000) = false := by simpa using hno
        have Hc : Hid (cellT z = numT z) := by unfold Hid cellT; rw [if_neg hno]
        clear hno
        go_wp2_with fail
        refine (implFormatInt_any _ _ hIz (HT.out.ext (hy.trans (hx.trans hx2)))).mono ?_
        rintro e w8 ⟨rfl, hx8⟩
        replace hown2 := own_ext hown2 hx8
        have hsz8 := hx8.size
        obtain ⟨tt, ht⟩ : ∃ t, numT z = t := ⟨_, rfl⟩
        rw [ht] at Hc ⊢
        clear ht
        go_wp2_with (at_builtin; go_must (refine wpList_append_own _ rfl _ _ 26 rfl w2.heap.size 9 i0 (.string ByteArray.empty) 1 16 Tryd.underlying26 hi0 hz0 hz1 hz2 rfl (by decide) _ _ _ rfl (hown2.alloc _) ⟨w8.heap.size, 0, none⟩ 1 1 [.string (txt tt)] rfl rfl (cell_one_new _ _ _) (by simp [Value.oneCell']) (by unfold maxLen; omega) (by omega) (by simp; omega) ?_); intro v' w9 hown' hgrow _)
        have hx3 : Ext w2 w9 := ((hx2.trans hx8).alloc _).grown hgrow (fun g hg => (hown2.lt g hg).1)
        go_roundw
        case rel =>
          first | refine ⟨q + 1, ?_, ?_, hx3, ?_⟩ | refine ⟨_, ⟨q + 1, ?_, ?_, hx3, ?_⟩, rfl⟩ | refine ⟨_, _, ⟨q + 1, ?_, ?_, hx3, ?_⟩, rfl, rfl⟩ | refine ⟨_, _, _, ⟨q + 1, ?_, ?_, hx3, ?_⟩, rfl, rfl, rfl⟩ | refine ⟨_, _, _, _, ⟨q + 1, ?_, ?_, hx3, ?_⟩, rfl, rfl, rfl, rfl⟩ | refine ⟨_, _, _, _, _, ⟨q + 1, ?_, ?_, hx3, ?_⟩, rfl, rfl, rfl, rfl, rfl⟩ | ((repeat apply Exists.intro); refine ⟨⟨q + 1, ?_, ?_, hx3, ?_⟩, rfl⟩)
          · omega
          · go_num
          · rw [Hk.out, strs_append, show strs [cellT z] = [.string (txt (cellT z))] from rfl, Hc.out]; exact hown'
        case measure => simp [intOf]; omega
    · obtain rfl : q = nx := by omega
      obtain ⟨A', c', rfl⟩ := own_form hown2
      have hrow := Row.of_own hown2
      have hcap := own_cap hown2
      have hbb := parts_join (L := L) (a := a) (q := q) han HIL.out
      have Hlen := Lib.hid (partsTo_len (L := L) (a := a) (q := q) han)
      have hb : (Lib.join (partsTo L a q) [32]).length ≤ 140737488355328 := by omega
      have Hb := Lib.hid hb
      have HR : Hid (Lib.join (partsTo L a q) [32] = rowT L a q) := rfl
      clear hb hbb
      go_wp2_with fail
      refine (implJoin_any _ _ _ (partsTo L a q) _ _ Hlen.out hrow hcap (by omega) Hb.out).mono ?_
      rintro e w8 ⟨rfl, hx8⟩
      change _ at HR
      have hown3 := own_ext (own_ext hown hx2) hx8
      have hsz8 := hx8.size
      obtain ⟨tt, ht⟩ : ∃ t, rowT L a q = t := ⟨_, rfl⟩
      rw [show Lib.join (partsTo L a q) (ByteArray.data ⟨#[32]⟩).toList = tt from ht]
      rw [ht] at HLS
      clear ht HR hown hown2
      go_wp2_with (at_builtin; go_must (refine wpList_append_own _ rfl _ _ 26 rfl w1.heap.size 9 i0 (.string ByteArray.empty) 1 16 Tryd.underlying26 hi0 hz0 hz1 hz2 rfl (by decide) _ _ _ rfl (hown3.alloc _) ⟨w8.heap.size, 0, none⟩ 1 1 [.string (txt tt)] rfl rfl (cell_one_new _ _ _) (by simp [Value.oneCell']) (by unfold maxLen; omega) (by omega) (by simp; omega) ?_); intro v' w9 hown' hgrow _)
      have hx3 : Ext w1 w9 := ((hx.trans (hx2.trans hx8)).alloc _).grown hgrow (fun g hg => (hown3.lt g hg).1)
      go_roundw
      case rel => exact ⟨k + 1, _, by omega, rfl, by have := HJ.out; congr 1; omega, hx3, by rw [HLS.out, strs_append]; exact hown'⟩
      case measure => simp [intOf] <;> omega
  · obtain rfl : k = ny := by omega
    have hneg : z < 0 := by omega
    have hn0 : ¬ (0 : Int) ≤ z := by omega
    obtain ⟨A', c', rfl⟩ := own_form hown
    have HL2 : Hid ((tableT ⟨X0, Y0, Step, (nx : Int), (k : Int), L⟩).length = k) := by rw [Hid, HTT.out, linesTo_len]
    clear hzz
    go_wp2
    go_ret
    exact StrsMade.mk (A := A') (c := c') HL2.out.symm rfl (hy.trans hx) (by rw [HTT.out]; exact own_base hown hs1)
set_option maxHeartbeats 4000000 in
theorem specFormatTable_any (t : Table) (vs : List Value) (w : World) (h : AggRow w (tableF t) vs) (hI : tableFI t) (hl : t.Cells.length ≤ 1048576) :
    Calls Tryd.prog 10 #[.agg vs.toArray] w fun e w' => StrsMade (tableT t) w e w' := by
  obtain ⟨i0, hi0, hz0, hz1, hz2⟩ := info_parts str_info
  by_cases hok : tableOk t = true
  rotate_left
  · have H : Hid (tableT t = []) := by unfold Hid tableT; rw [if_neg hok]
    have h' := h
    obtain ⟨_, rfl, _, rfl, _, rfl, _, rfl, _, rfl, A5, c5, _, rfl, r5, n5, m5, rfl⟩ := h'
    have hy : Ext w (w.alloc (.cells #[.int .i64 t.X0, .int .i64 t.Y0, .int .i64 t.Step, .int .i64 t.Nx, .int .i64 t.Ny, .slice A5 t.Cells.length c5] 28)) := (Ext.refl w).alloc _
    have hag : AggRow (w.alloc (.cells #[.int .i64 t.X0, .int .i64 t.Y0, .int .i64 t.Step, .int .i64 t.Nx, .int .i64 t.Ny, .slice A5 t.Cells.length c5] 28)) (tableF t) [.int .i64 t.X0, .int .i64 t.Y0, .int .i64 t.Step, .int .i64 t.Nx, .int .i64 t.Ny, .slice A5 t.Cells.length c5] := h.ext hy
    go_enter Tryd.func10, Tryd.ntmps10
    go_wp2_with fail
    refine (specTableOk_any t [.int .i64 t.X0, .int .i64 t.Y0, .int .i64 t.Step, .int .i64 t.Nx, .int .i64 t.Ny, .slice A5 t.Cells.length c5] _ hag hI hl).mono ?_
    rintro e w1 ⟨rfl, hx1⟩
    replace hy := hy.trans hx1
    rw [show tableOk t = false from by simpa using hok]
    clear hok
    go_wp2
    go_ret
    exact StrsMade.none H.out rfl hy
  have Hok := Lib.hid hok
  obtain ⟨hg, hlen, _⟩ := tableOk_grid hok
  obtain ⟨⟨a1, a2⟩, ⟨a3, a4⟩, a5⟩ := gridOk_parts hg
  clear hok hg
  have HTT : Hid (tableT t = linesTo t.Cells t.Nx.toNat t.Ny.toNat t.Ny.toNat) := by unfold Hid tableT; rw [if_pos Hok.out]
  obtain ⟨X0, Y0, Step, Nx, Ny, L⟩ := t
  change AggRow w [.i X0, .i Y0, .i Step, .i Nx, .i Ny, intF L] vs at h
  change (L.length : Int) = Nx * Ny at hlen
  change 1 ≤ Nx at a1
  change Nx ≤ 100 at a2
  change 1 ≤ Ny at a3
  change Ny ≤ 100 at a4
  change L.length ≤ 1048576 at hl
  have hIL : ∀ z ∈ L, I64 z := hI.2.2.2.2.2
  obtain ⟨nx, rfl⟩ := Int.eq_ofNat_of_zero_le (show 0 ≤ Nx by omega)
  obtain ⟨ny, rfl⟩ := Int.eq_ofNat_of_zero_le (show 0 ≤ Ny by omega)
  have hlN : L.length = nx * ny := by exact_mod_cast hlen
  have HlN := Lib.hid hlN
  change Hid (tableT _ = linesTo L nx ny ny) at HTT
  have HI := Lib.hid hI
  have HIL := Lib.hid hIL
  clear hlen hlN a5 hI hIL
  have h' := h
  obtain ⟨_, rfl, _, rfl, _, rfl, _, rfl, _, rfl, A5, c5, _, rfl, r5, n5, m5, rfl⟩ := h'
  have hy : Ext w (w.alloc (.cells #[.int .i64 X0, .int .i64 Y0, .int .i64 Step, .int .i64 (nx : Int), .int .i64 (ny : Int), .slice A5 L.length c5] 28)) := (Ext.refl w).alloc _
  have bR := Blk.new w 28 #[.int .i64 X0, .int .i64 Y0, .int .i64 Step, .int .i64 (nx : Int), .int .i64 (ny : Int), .slice A5 L.length c5]
  have hag : AggRow (w.alloc (.cells #[.int .i64 X0, .int .i64 Y0, .int .i64 Step, .int .i64 (nx : Int), .int .i64 (ny : Int), .slice A5 L.length c5] 28)) (tableF ⟨X0, Y0, Step, (nx : Int), (ny : Int), L⟩) [.int .i64 X0, .int .i64 Y0, .int .i64 Step, .int .i64 (nx : Int), .int .i64 (ny : Int), .slice A5 L.length c5] := h.ext hy
  have Hag := Lib.hid hag
  clear hag h
  go_enter Tryd.func10, Tryd.ntmps10
  go_wp2_with fail
  refine (specTableOk_any ⟨X0, Y0, Step, (nx : Int), (ny : Int), L⟩ [.int .i64 X0, .int .i64 Y0, .int .i64 Step, .int .i64 (nx : Int), .int .i64 (ny : Int), .slice A5 L.length c5] _ Hag.out HI.out hl).mono ?_
  rintro e w1 ⟨rfl, hx1⟩
  replace hy := hy.trans hx1
  replace bR := bR.ext hx1
  have cbR_4 := fun o => bR.cell o
  rw [Hok.out]
  have hr1 := r5.ext hy
  have hs1 := hy.size
  have hlt0 := bR.lt
  go_wp2
  go_loopw [3, 4] (fun v i wr => ∃ (k : Nat) (z : Int), k ≤ ny ∧ z = (ny : Int) - 1 - k ∧ i = .int .i64 z ∧ Ext w1 wr ∧ wr.ownsRow w1.heap.size 9 1 v k (strs (linesTo L nx ny k))) (fun _ i _ => (intOf i + 1).toNat)
  case atStart => exact ⟨0, _, Nat.zero_le _, rfl, by congr 1; omega, (Ext.refl _).alloc _, World.ownsRow_lit w1 #[] 0 (Nat.le_refl _) (by unfold maxLen; omega) rfl⟩
  case round =>
  obtain ⟨k, z, hk, hzz, rfl, hx, hown⟩ := hrel
  obtain ⟨w2, rfl⟩ : ∃ w2, w2 = wr := ⟨_, rfl⟩
  have hsz := hx.size
  by_cases hlt : k < ny
  · obtain ⟨j, rfl⟩ : ∃ j : Nat, z = j := ⟨ny - 1 - k, by omega⟩
    have hjk : ny - 1 - k = j := by omega
    have hj0 : (0 : Int) ≤ (j : Int) := by omega
    obtain ⟨a, ha⟩ : ∃ a, j * nx = a := ⟨_, rfl⟩
    have hjn : j + 1 ≤ ny := by omega
    have han : a + nx ≤ L.length := by
      rw [HlN.out, ← ha, Nat.mul_comm nx ny]
      have := Nat.mul_le_mul_right nx hjn
      rw [Nat.succ_mul] at this
      exact this
    have HLS : Hid (linesTo L nx ny (k + 1) = linesTo L nx ny k ++ [rowT L a nx]) := by rw [Hid, linesTo_succ, hjk, ha]
    have wm : IntKind.i64.wrap ((j : Int) * (nx : Int)) = (a : Int) := by
      rw [← ha, Int.natCast_mul]
      refine IntWalk.i64_in _ ?_
      have h1 : ((j * nx : Nat) : Int) = (j : Int) * (nx : Int) := Int.natCast_mul _ _
      omega
    have wn : IntKind.i64.wrap (((j : Int) + 1) * (nx : Int)) = ((a + nx : Nat) : Int) := by
      have h1 : ((j : Int) + 1) * (nx : Int) = (((j + 1) * nx : Nat) : Int) := by rw [Int.natCast_mul]; rfl
      have h2 : (j + 1) * nx = a + nx := by rw [Nat.succ_mul, ha]
      rw [h1, h2]
      exact IntWalk.i64_in _ (by omega)
    have HJ : Hid (j + k + 1 = ny) := by unfold Hid; omega
    clear ha hzz hjk
    have hA : ∃ b off, A5 = some ⟨b, off, none⟩ := by
      obtain ⟨b, off, e, _⟩ := r5.int (k := a) (by omega)
      exact ⟨b, off, e⟩
    obtain ⟨b, off, rfl⟩ := hA
    have bR2 := bR.ext hx
    have cR2 := fun o => bR2.cell o
    unfold maxLen at m5
    go_wp2
    go_loopw [5, 6] (fun v i wr2 => ∃ q : Nat, q ≤ nx ∧ i = .int .i64 (q : Int) ∧ Ext w2 wr2 ∧ wr2.ownsRow w2.heap.size 9 1 v q (strs (partsTo L a q))) (fun _ i _ => nx - (intOf i).toNat)
    case atStart => exact ⟨0, Nat.zero_le _, rfl, (Ext.refl _).alloc _, by rw [partsTo_zero]; exact World.ownsRow_lit w2 #[] 0 (Nat.le_refl _) (by unfold maxLen; omega) rfl⟩
    case round =>
    obtain ⟨q, hq, rfl, hx2, hown2⟩ := hrel
    have hsz2 := hx2.size
    have bR3 := bR2.ext hx2
    have cR3 := fun o => bR3.cell o
    by_cases hqn : q < nx
    · have hqn2 : (q : Int) < (nx : Int) := by omega
      obtain ⟨b', off', hA', hb, hc⟩ := ((hr1.ext hx).ext hx2).int (k := a + q) (by omega)
      injection hA' with hA'
      injection hA' with e1 e2
      subst e1 e2
      have Hk := Lib.hid (partsTo_succ (L := L) (a := a) (q := q) (by omega))
      have hIz := HIL.out _ (List.getElem_mem (show a + q < L.length by omega))
      obtain ⟨z, hz⟩ : ∃ z, L[a + q]'(by omega) = z := ⟨_, rfl⟩
      rw [hz] at hc Hk hIz
      have hc2 := hc
      rw [← Nat.add_assoc] at hc2
      clear hz
      have ws : IntKind.i64.wrap ((a : Int) + (q : Int)) = ((a + q : Nat) : Int) := by rw [show (a : Int) + (q : Int) = ((a + q : Nat) : Int) from by omega]; exact IntWalk.i64_in _ (by omega)
      have hxt : a + q < L.length := by omega
      by_cases hno : z = -1000000
      · have hnb : (z == -1000000) = true := by simpa using hno
        have Hc : Hid (txt (cellT z) = ⟨#[45]⟩) := by unfold Hid cellT; rw [if_pos hno]; rfl
        clear hno
        go_wp2_with (at_builtin; go_must (refine wpList_append_own _ rfl _ _ 26 rfl w2.heap.size 9 i0 (.string ByteArray.empty) 1 16 Tryd.underlying26 hi0 hz0 hz1 hz2 rfl (by decide) _ _ _ rfl (hown2.alloc _) ⟨wr.heap.size, 0, none⟩ 1 1 [.string (⟨#[45]⟩)] rfl rfl (cell_one_new _ _ _) (by simp [Value.oneCell']) (by unfold maxLen; omega) (by omega) (by simp; omega) ?_); intro v' w9 hown' hgrow _)
        have hx3 : Ext w2 w9 := (hx2.alloc _).grown hgrow (fun g hg => (hown2.lt g hg).1)
        go_roundw
        case rel =>
          first | refine ⟨q + 1, ?_, ?_, hx3, ?_⟩ | refine ⟨_, ⟨q + 1, ?_, ?_, hx3, ?_⟩, rfl⟩ | refine ⟨_, _, ⟨q + 1, ?_, ?_, hx3, ?_⟩, rfl, rfl⟩ | refine ⟨_, _, _, ⟨q + 1, ?_, ?_, hx3, ?_⟩, rfl, rfl, rfl⟩ | refine ⟨_, _, _, _, ⟨q + 1, ?_, ?_, hx3, ?_⟩, rfl, rfl, rfl, rfl⟩ | refine ⟨_, _, _, _, _, ⟨q + 1, ?_, ?_, hx3, ?_⟩, rfl, rfl, rfl, rfl, rfl⟩ | ((repeat apply Exists.intro); refine ⟨⟨q + 1, ?_, ?_, hx3, ?_⟩, rfl⟩)
          · omega
          · go_num
          · rw [Hk.out, strs_append, show strs [cellT z] = [.string (txt (cellT z))] from rfl, Hc.out]; exact hown'
        case measure => simp [intOf]; omega
      · have hnb : (z == -1000000) = false := by simpa using hno
        have Hc : Hid (cellT z = numT z) := by unfold Hid cellT; rw [if_neg hno]
        clear hno
        go_wp2_with fail
        refine (specFormatInt_any _ _ hIz).mono ?_
        rintro e w8 ⟨rfl, hx8⟩
        replace hown2 := own_ext hown2 hx8
        have hsz8 := hx8.size
        obtain ⟨tt, ht⟩ : ∃ t, numT z = t := ⟨_, rfl⟩
        rw [ht] at Hc ⊢
        clear ht
        go_wp2_with (at_builtin; go_must (refine wpList_append_own _ rfl _ _ 26 rfl w2.heap.size 9 i0 (.string ByteArray.empty) 1 16 Tryd.underlying26 hi0 hz0 hz1 hz2 rfl (by decide) _ _ _ rfl (hown2.alloc _) ⟨w8.heap.size, 0, none⟩ 1 1 [.string (txt tt)] rfl rfl (cell_one_new _ _ _) (by simp [Value.oneCell']) (by unfold maxLen; omega) (by omega) (by simp; omega) ?_); intro v' w9 hown' hgrow _)
        have hx3 : Ext w2 w9 := ((hx2.trans hx8).alloc _).grown hgrow (fun g hg => (hown2.lt g hg).1)
        go_roundw
        case rel =>
          first | refine ⟨q + 1, ?_, ?_, hx3, ?_⟩ | refine ⟨_, ⟨q + 1, ?_, ?_, hx3, ?_⟩, rfl⟩ | refine ⟨_, _, ⟨q + 1, ?_, ?_, hx3, ?_⟩, rfl, rfl⟩ | refine ⟨_, _, _, ⟨q + 1, ?_, ?_, hx3, ?_⟩, rfl, rfl, rfl⟩ | refine ⟨_, _, _, _, ⟨q + 1, ?_, ?_, hx3, ?_⟩, rfl, rfl, rfl, rfl⟩ | refine ⟨_, _, _, _, _, ⟨q + 1, ?_, ?_, hx3, ?_⟩, rfl, rfl, rfl, rfl, rfl⟩ | ((repeat apply Exists.intro); refine ⟨⟨q + 1, ?_, ?_, hx3, ?_⟩, rfl⟩)
          · omega
          · go_num
          · rw [Hk.out, strs_append, show strs [cellT z] = [.string (txt (cellT z))] from rfl, Hc.out]; exact hown'
        case measure => simp [intOf]; omega
    · obtain rfl : q = nx := by omega
      obtain ⟨A', c', rfl⟩ := own_form hown2
      have hrow := Row.of_own hown2
      have hcap := own_cap hown2
      have hbb := parts_join (L := L) (a := a) (q := q) han HIL.out
      have Hlen := Lib.hid (partsTo_len (L := L) (a := a) (q := q) han)
      have hb : (Lib.join (partsTo L a q) [32]).length ≤ 140737488355328 := by omega
      have Hb := Lib.hid hb
      have HR : Hid (Lib.join (partsTo L a q) [32] = rowT L a q) := rfl
      clear hb hbb
      go_wp2_with fail
      refine (specJoin_any _ _ _ (partsTo L a q) _ _ Hlen.out hrow (by omega) Hb.out).mono ?_
      rintro e w8 ⟨rfl, hx8⟩
      change _ at HR
      have hown3 := own_ext (own_ext hown hx2) hx8
      have hsz8 := hx8.size
      obtain ⟨tt, ht⟩ : ∃ t, rowT L a q = t := ⟨_, rfl⟩
      rw [show Lib.join (partsTo L a q) (ByteArray.data ⟨#[32]⟩).toList = tt from ht]
      rw [ht] at HLS
      clear ht HR hown hown2
      go_wp2_with (at_builtin; go_must (refine wpList_append_own _ rfl _ _ 26 rfl w1.heap.size 9 i0 (.string ByteArray.empty) 1 16 Tryd.underlying26 hi0 hz0 hz1 hz2 rfl (by decide) _ _ _ rfl (hown3.alloc _) ⟨w8.heap.size, 0, none⟩ 1 1 [.string (txt tt)] rfl rfl (cell_one_new _ _ _) (by simp [Value.oneCell']) (by unfold maxLen; omega) (by omega) (by simp; omega) ?_); intro v' w9 hown' hgrow _)
      have hx3 : Ext w1 w9 := ((hx.trans (hx2.trans hx8)).alloc _).grown hgrow (fun g hg => (hown3.lt g hg).1)
      go_roundw
      case rel => exact ⟨k + 1, _, by omega, rfl, by have := HJ.out; congr 1; omega, hx3, by rw [HLS.out, strs_append]; exact hown'⟩
      case measure => simp [intOf] <;> omega
  · obtain rfl : k = ny := by omega
    have hneg : z < 0 := by omega
    have hn0 : ¬ (0 : Int) ≤ z := by omega
    obtain ⟨A', c', rfl⟩ := own_form hown
    have HL2 : Hid ((tableT ⟨X0, Y0, Step, (nx : Int), (k : Int), L⟩).length = k) := by rw [Hid, HTT.out, linesTo_len]
    clear hzz
    go_wp2
    go_ret
    exact StrsMade.mk (A := A') (c := c') HL2.out.symm rfl (hy.trans hx) (by rw [HTT.out]; exact own_base hown hs1)
end Go.Proofs.YtlgkfjhbimffiaaDoor
