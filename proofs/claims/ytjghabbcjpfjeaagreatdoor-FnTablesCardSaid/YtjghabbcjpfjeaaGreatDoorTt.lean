/- Contracts of the helpers on Table: copies, comparisons, sizes, marks. (written by tools/structs.py) -/
import Derived.Test.YtjghabbcjpfjeaaGreatDoorMs
import Derived.Test.YtjghabbcjpfjeaaGreatDoorTz
import Derived.IntWalk
import Derived.Test.YtjghabbcjpfjeaaGreatDoorTw
import Derived.Deep.CutRange
import Derived.Deep.RegionHeld3
import Derived.Test.YtjghabbcjpfjeaaGreatDoorDz
import Derived.Test.YtjghabbcjpfjeaaGreatDoorCn
import Derived.Maps.AppendAt
namespace Go.Proofs.YtjghabbcjpfjeaaGreatDoor
open Go.ChangeShapes Go.WideShapes Go.ChangeAt Go.RowKit
set_option linter.unusedVariables false
set_option maxRecDepth 100000

structure Table where
  X0 : Int
  Y0 : Int
  Step : Int
  Nx : Int
  Ny : Int
  Cells : List Int
def tableF (r : Table) : List Fd := [.i r.X0, .i r.Y0, .i r.Step, .i r.Nx, .i r.Ny, intF r.Cells]
theorem tableF_len (r : Table) : lenF (tableF r) = [r.Cells.length] := rfl
def tableFI (r : Table) : Prop := I64 r.X0 ∧ I64 r.Y0 ∧ I64 r.Step ∧ I64 r.Nx ∧ I64 r.Ny ∧ (∀ z ∈ r.Cells, I64 z)
end Go.Proofs.YtjghabbcjpfjeaaGreatDoor
/- Contracts of tables: TableOk, FormatTable of the program and of the reference. (written by tools/mkTb.py) -/
namespace Go.Proofs.YtjghabbcjpfjeaaGreatDoor
open Go.ChangeShapes Go.WideShapes Go.ChangeAt Go.RowKit
set_option linter.unusedVariables false
set_option maxRecDepth 100000

def gridOk (t : Table) : Bool := inR t.X0 (-1000) 1000 && inR t.Y0 (-1000) 1000 && inR t.Step 1 100 && inR t.Nx 1 100 && inR t.Ny 1 100 && decide (t.Nx * t.Ny ≤ 400) && decide (t.X0 + t.Nx * t.Step ≤ 1000) && decide (t.Y0 + t.Ny * t.Step ≤ 1000)
def cellOk (n : Int) : Bool := decide (n = -1000000) || inR n (-1000) 1000
def tableOk (t : Table) : Bool := gridOk t && decide ((t.Cells.length : Int) = t.Nx * t.Ny) && t.Cells.all cellOk
def cellT (n : Int) : List UInt8 := if n = -1000000 then [45] else numT n
theorem nxny_bd {a b : Int} (h1 : 1 ≤ a) (h2 : a ≤ 100) (h3 : 1 ≤ b) (h4 : b ≤ 100) : 1 ≤ a * b ∧ a * b ≤ 10000 := by
  refine ⟨?_, ?_⟩
  · have := Int.mul_le_mul h1 h3 (by omega) (by omega); simpa using this
  · have := Int.mul_le_mul h2 h4 (by omega) (by omega); simpa using this
theorem wrap_mul {a b : Int} (h : 1 ≤ a * b ∧ a * b ≤ 10000) : IntKind.i64.wrap (a * b) = a * b := IntWalk.i64_in _ (by omega)
theorem gridOk_parts {t : Table} (h : gridOk t = true) : (1 ≤ t.Nx ∧ t.Nx ≤ 100) ∧ (1 ≤ t.Ny ∧ t.Ny ≤ 100) ∧ t.Nx * t.Ny ≤ 400 := by
  simp only [gridOk, inR, Bool.and_eq_true, decide_eq_true_eq] at h
  omega
set_option maxHeartbeats 2000000 in
theorem implGrid_any (t : Table) (vs : List Value) (w : World) (h : AggRow w (tableF t) vs) (hI : tableFI t) :
    Calls Tryz.prog 37 #[.agg vs.toArray] w fun e w' => e = .returned (.bool (gridOk t)) ∧ Ext w w' := by
  obtain ⟨_, rfl, _, rfl, _, rfl, _, rfl, _, rfl, A5, c5, _, rfl, r5, n5, m5, rfl⟩ := h
  have hy : Ext w (w.alloc (.cells #[.int .i64 t.X0, .int .i64 t.Y0, .int .i64 t.Step, .int .i64 t.Nx, .int .i64 t.Ny, .slice A5 t.Cells.length c5] 34)) := (Ext.refl w).alloc _
  rcases Bool.eq_false_or_eq_true (inR t.X0 (-1000) 1000) with h0 | h0
  rotate_left
  · have H : Hid (gridOk t = false) := by unfold Hid gridOk; simp only [h0]; simp
    go_enter Tryz.func37, Tryz.ntmps37
    go_wp2_with (go_at_call 36; refine (inRange_any _ _ _ _).mono ?_; rintro e w' ⟨rfl, rfl⟩)
    all_goals go_ret
    all_goals exact ⟨ret_bool H.out.symm, hy⟩
  rcases Bool.eq_false_or_eq_true (inR t.Y0 (-1000) 1000) with h1 | h1
  rotate_left
  · have H : Hid (gridOk t = false) := by unfold Hid gridOk; simp only [h1]; simp
    go_enter Tryz.func37, Tryz.ntmps37
    go_wp2_with (go_at_call 36; refine (inRange_any _ _ _ _).mono ?_; rintro e w' ⟨rfl, rfl⟩)
    all_goals go_ret
    all_goals exact ⟨ret_bool H.out.symm, hy⟩
  rcases Bool.eq_false_or_eq_true (inR t.Step 1 100) with h2 | h2
  rotate_left
  · have H : Hid (gridOk t = false) := by unfold Hid gridOk; simp only [h2]; simp
    go_enter Tryz.func37, Tryz.ntmps37
    go_wp2_with (go_at_call 36; refine (inRange_any _ _ _ _).mono ?_; rintro e w' ⟨rfl, rfl⟩)
    all_goals go_ret
    all_goals exact ⟨ret_bool H.out.symm, hy⟩
  rcases Bool.eq_false_or_eq_true (inR t.Nx 1 100) with h3 | h3
  rotate_left
  · have H : Hid (gridOk t = false) := by unfold Hid gridOk; simp only [h3]; simp
    go_enter Tryz.func37, Tryz.ntmps37
    go_wp2_with (go_at_call 36; refine (inRange_any _ _ _ _).mono ?_; rintro e w' ⟨rfl, rfl⟩)
    all_goals go_ret
    all_goals exact ⟨ret_bool H.out.symm, hy⟩
  rcases Bool.eq_false_or_eq_true (inR t.Ny 1 100) with h4 | h4
  rotate_left
  · have H : Hid (gridOk t = false) := by unfold Hid gridOk; simp only [h4]; simp
    go_enter Tryz.func37, Tryz.ntmps37
    go_wp2_with (go_at_call 36; refine (inRange_any _ _ _ _).mono ?_; rintro e w' ⟨rfl, rfl⟩)
    all_goals go_ret
    all_goals exact ⟨ret_bool H.out.symm, hy⟩
  have k3 : 1 ≤ t.Nx ∧ t.Nx ≤ 100 := by simpa [inR] using h3
  have k4 : 1 ≤ t.Ny ∧ t.Ny ≤ 100 := by simpa [inR] using h4
  have k2 : 1 ≤ t.Step ∧ t.Step ≤ 100 := by simpa [inR] using h2
  have k0 : -1000 ≤ t.X0 ∧ t.X0 ≤ 1000 := by simpa [inR] using h0
  have k1 : -1000 ≤ t.Y0 ∧ t.Y0 ≤ 1000 := by simpa [inR] using h1
  have e1 := nxny_bd k3.1 k3.2 k4.1 k4.2
  have e2 := nxny_bd k3.1 k3.2 k2.1 k2.2
  have e3 := nxny_bd k4.1 k4.2 k2.1 k2.2
  have w1 := wrap_mul e1
  have w2 := wrap_mul e2
  have w3 := wrap_mul e3
  have HG : Hid (gridOk t = (decide (t.Nx * t.Ny ≤ 400) && decide (t.X0 + t.Nx * t.Step ≤ 1000) && decide (t.Y0 + t.Ny * t.Step ≤ 1000))) := by unfold Hid gridOk; simp only [h0, h1, h2, h3, h4]; simp
  obtain ⟨p1, hp1⟩ : ∃ p, t.Nx * t.Ny = p := ⟨_, rfl⟩
  obtain ⟨p2, hp2⟩ : ∃ p, t.Nx * t.Step = p := ⟨_, rfl⟩
  obtain ⟨p3, hp3⟩ : ∃ p, t.Ny * t.Step = p := ⟨_, rfl⟩
  rw [hp1] at e1 HG w1
  rw [hp2] at e2 HG w2
  rw [hp3] at e3 HG w3
  replace w1 : IntKind.i64.wrap (t.Nx * t.Ny) = p1 := by rw [hp1]; exact w1
  replace w2 : IntKind.i64.wrap (t.Nx * t.Step) = p2 := by rw [hp2]; exact w2
  replace w3 : IntKind.i64.wrap (t.Ny * t.Step) = p3 := by rw [hp3]; exact w3
  obtain ⟨e1a, e1b⟩ := e1
  obtain ⟨e2a, e2b⟩ := e2
  obtain ⟨e3a, e3b⟩ := e3
  obtain ⟨k0a, k0b⟩ := k0
  obtain ⟨k1a, k1b⟩ := k1
  clear k2 k3 k4
  have Hp1 := Lib.hid hp1
  have Hp2 := Lib.hid hp2
  have Hp3 := Lib.hid hp3
  clear hp1 hp2 hp3
  by_cases g1 : p1 ≤ 400
  rotate_left
  · have H : Hid (gridOk t = false) := by rw [Hid, HG.out]; simp [g1]
    have g1' : 400 < p1 := by omega
    go_enter Tryz.func37, Tryz.ntmps37
    go_wp2_with (go_at_call 36; refine (inRange_any _ _ _ _).mono ?_; rintro e w' ⟨rfl, rfl⟩)
    all_goals go_ret
    all_goals exact ⟨ret_bool H.out.symm, hy⟩
  by_cases g2 : t.X0 + p2 ≤ 1000
  rotate_left
  · have H : Hid (gridOk t = false) := by rw [Hid, HG.out]; simp [g2]
    go_enter Tryz.func37, Tryz.ntmps37
    go_wp2_with (go_at_call 36; refine (inRange_any _ _ _ _).mono ?_; rintro e w' ⟨rfl, rfl⟩)
    all_goals go_ret
    all_goals exact ⟨ret_bool H.out.symm, hy⟩
  by_cases g3 : t.Y0 + p3 ≤ 1000
  · have H : Hid (gridOk t = true) := by rw [Hid, HG.out]; simp [g1, g2, g3]
    go_enter Tryz.func37, Tryz.ntmps37
    go_wp2_with (go_at_call 36; refine (inRange_any _ _ _ _).mono ?_; rintro e w' ⟨rfl, rfl⟩)
    all_goals go_ret
    all_goals exact ⟨ret_bool (by rw [H.out] <;> simp [*]), hy⟩
  · have H : Hid (gridOk t = false) := by rw [Hid, HG.out]; simp [g3]
    go_enter Tryz.func37, Tryz.ntmps37
    go_wp2_with (go_at_call 36; refine (inRange_any _ _ _ _).mono ?_; rintro e w' ⟨rfl, rfl⟩)
    all_goals go_ret
    all_goals exact ⟨ret_bool (by rw [H.out] <;> simp [*]), hy⟩

theorem all_cell_at {l : List Int} {k : Nat} (hk : k < l.length) (h : l.all cellOk = true) : cellOk l[k] = true := List.all_eq_true.1 h _ (List.getElem_mem hk)
theorem tableOk_grid {t : Table} (h : tableOk t = true) : gridOk t = true ∧ (t.Cells.length : Int) = t.Nx * t.Ny ∧ t.Cells.all cellOk = true := by
  simpa [tableOk, and_assoc] using h
set_option maxHeartbeats 2000000 in
theorem implTableOk_any (t : Table) (vs : List Value) (w : World) (h : AggRow w (tableF t) vs) (hI : tableFI t) (hl : t.Cells.length ≤ 1048576) :
    Calls Tryz.prog 8 #[.agg vs.toArray] w fun e w' => e = .returned (.bool (tableOk t)) ∧ Ext w w' := by
  obtain ⟨_, rfl, _, rfl, _, rfl, _, rfl, _, rfl, A5, c5, _, rfl, r5, n5, m5, rfl⟩ := h
  have hy : Ext w (w.alloc (.cells #[.int .i64 t.X0, .int .i64 t.Y0, .int .i64 t.Step, .int .i64 t.Nx, .int .i64 t.Ny, .slice A5 t.Cells.length c5] 34)) := (Ext.refl w).alloc _
  have bR := Blk.new w 34 #[.int .i64 t.X0, .int .i64 t.Y0, .int .i64 t.Step, .int .i64 t.Nx, .int .i64 t.Ny, .slice A5 t.Cells.length c5]
  obtain ⟨n, hn⟩ : ∃ n, t.Cells.length = n := ⟨_, rfl⟩
  have HN := Lib.hid hn
  rw [hn] at hl n5 bR hy ⊢
  clear hn
  have hag : AggRow (w.alloc (.cells #[.int .i64 t.X0, .int .i64 t.Y0, .int .i64 t.Step, .int .i64 t.Nx, .int .i64 t.Ny, .slice A5 n c5] 34)) (tableF t) [.int .i64 t.X0, .int .i64 t.Y0, .int .i64 t.Step, .int .i64 t.Nx, .int .i64 t.Ny, .slice A5 n c5] := ⟨_, rfl, _, rfl, _, rfl, _, rfl, _, rfl, A5, c5, _, by rw [HN.out], r5.ext hy, by rw [HN.out]; exact n5, m5, rfl⟩
  go_enter Tryz.func8, Tryz.ntmps8
  go_wp2_with fail
  refine (implGrid_any t [.int .i64 t.X0, .int .i64 t.Y0, .int .i64 t.Step, .int .i64 t.Nx, .int .i64 t.Ny, .slice A5 n c5] _ hag hI).mono ?_
  rintro e w1 ⟨rfl, hx1⟩
  replace hy := hy.trans hx1
  replace bR := bR.ext hx1
  have cbR_3 := fun o => bR.cell o
  by_cases h1 : gridOk t = true
  rotate_left
  · have H : Hid (tableOk t = false) := by unfold Hid tableOk; simp [h1]
    rw [show gridOk t = false from by simpa using h1]
    clear h1
    go_wp2
    go_ret
    exact ⟨ret_bool H.out.symm, hy⟩
  obtain ⟨⟨a1, a2⟩, ⟨a3, a4⟩, a5⟩ := gridOk_parts h1
  have e1 := nxny_bd a1 a2 a3 a4
  have w1 := wrap_mul e1
  have HT : Hid (tableOk t = (decide ((t.Cells.length : Int) = t.Nx * t.Ny) && t.Cells.all cellOk)) := by unfold Hid tableOk; rw [h1]; rfl
  rw [h1]
  clear h1
  obtain ⟨p1, hp1⟩ : ∃ p, t.Nx * t.Ny = p := ⟨_, rfl⟩
  rw [hp1] at e1 HT w1
  replace w1 : IntKind.i64.wrap (t.Nx * t.Ny) = p1 := by rw [hp1]; exact w1
  clear hp1
  obtain ⟨e1a, e1b⟩ := e1
  by_cases h2 : (n : Int) = p1
  rotate_left
  · have H : Hid (tableOk t = false) := by rw [Hid, HT.out, HN.out]; simp [h2]
    have h2b : ((n : Int) != p1) = true := by simpa using h2
    clear h2
    go_wp2
    go_ret
    exact ⟨ret_bool H.out.symm, hy⟩
  have h2b : ((n : Int) != p1) = false := by simpa using h2
  have HT2 : Hid (tableOk t = t.Cells.all cellOk) := by rw [Hid, HT.out, HN.out]; simp [h2]
  clear h2 HT
  have hr := r5.ext hy
  go_wp2
  go_loop [22] (fun i => ∃ k : Nat, k ≤ n ∧ i = .int .i64 k ∧ (t.Cells.take k).all cellOk = true) (fun i => n - (intOf i).toNat)
  case atStart => exact ⟨0, Nat.zero_le _, rfl, rfl⟩
  case round =>
    obtain ⟨k, hk, rfl, hall⟩ := hrel
    have Hall := Lib.hid hall
    clear hall
    by_cases hlt : k < n
    · have hlt2 : (k : Int) < (n : Int) := by omega
      obtain ⟨b, off, rfl, hb, hc⟩ := hr.int (k := k) (by rw [HN.out]; exact hlt)
      have Hs := Lib.hid (all_take_succ cellOk t.Cells k (by rw [HN.out]; exact hlt))
      have Hf := Lib.hid (all_false_at cellOk t.Cells k (by rw [HN.out]; exact hlt))
      have Hd : Hid (cellOk (t.Cells[k]'(by rw [HN.out]; exact hlt)) = (decide ((t.Cells[k]'(by rw [HN.out]; exact hlt)) = -1000000) || inR (t.Cells[k]'(by rw [HN.out]; exact hlt)) (-1000) 1000)) := rfl
      obtain ⟨z, hz⟩ : ∃ z, t.Cells[k]'(by rw [HN.out]; exact hlt) = z := ⟨_, rfl⟩
      rw [hz] at hc Hs Hf Hd
      clear hz
      by_cases hno : z = -1000000
      · have hnb : (z != -1000000) = false := by simpa using hno
        have Hd2 : Hid (cellOk z = true) := by rw [Hid, Hd.out]; simp [hno]
        clear hno
        go_wp2
        go_round
        case rel => exact ⟨k + 1, by omega, by go_num, by rw [Hs.out, Hall.out, Hd2.out]; rfl⟩
        case measure => simp [intOf]; omega
      · have hnb : (z != -1000000) = true := by simpa using hno
        rcases Bool.eq_false_or_eq_true (inR z (-1000) 1000) with hi | hi
        · have Hd2 : Hid (cellOk z = true) := by rw [Hid, Hd.out, hi]; simp
          clear hno
          go_wp2_with (go_at_call 36; refine (inRange_any _ _ _ _).mono ?_; rintro e w' ⟨rfl, rfl⟩)
          go_round
          case rel => exact ⟨k + 1, by omega, by go_num, by rw [Hs.out, Hall.out, Hd2.out]; rfl⟩
          case measure => simp [intOf]; omega
        · have Hd2 : Hid (cellOk z = false) := by rw [Hid, Hd.out, hi]; simp [hno]
          clear hno
          go_wp2_with (go_at_call 36; refine (inRange_any _ _ _ _).mono ?_; rintro e w' ⟨rfl, rfl⟩)
          go_ret
          exact ⟨ret_bool (by rw [HT2.out]; exact (Hf.out Hd2.out).symm), hy⟩
    · obtain rfl : k = n := by omega
      have hall := Hall.out
      rw [List.take_of_length_le (by rw [HN.out]; exact Nat.le_refl _)] at hall
      have Hall2 := Lib.hid hall
      clear hall
      go_wp2
      go_ret
      exact ⟨ret_bool (by rw [HT2.out]; exact Hall2.out.symm), hy⟩

def rowCells (L : List Int) (a nx : Nat) : List Int := (L.drop a).take nx
def partsTo (L : List Int) (a q : Nat) : List (List UInt8) := (rowCells L a q).map cellT
def rowT (L : List Int) (a nx : Nat) : List UInt8 := Lib.join (partsTo L a nx) [32]
def linesTo (L : List Int) (nx ny k : Nat) : List (List UInt8) := (List.range k).map fun (q : Nat) => rowT L ((ny - 1 - q) * nx) nx
def tableT (t : Table) : List (List UInt8) := if tableOk t = true then linesTo t.Cells t.Nx.toNat t.Ny.toNat t.Ny.toNat else []
theorem partsTo_zero (L : List Int) (a : Nat) : partsTo L a 0 = [] := by simp [partsTo, rowCells]
theorem partsTo_succ {L : List Int} {a q : Nat} (h : a + q < L.length) : partsTo L a (q + 1) = partsTo L a q ++ [cellT L[a + q]] := by
  unfold partsTo rowCells
  rw [List.take_succ_eq_append_getElem (by rw [List.length_drop]; omega), List.map_append]
  simp
theorem partsTo_len {L : List Int} {a q : Nat} (h : a + q ≤ L.length) : (partsTo L a q).length = q := by
  unfold partsTo rowCells
  rw [List.length_map, List.length_take, List.length_drop]; omega
theorem linesTo_succ (L : List Int) (nx ny k : Nat) : linesTo L nx ny (k + 1) = linesTo L nx ny k ++ [rowT L ((ny - 1 - k) * nx) nx] := by
  unfold linesTo
  rw [List.range_succ, List.map_append]
  rfl
theorem linesTo_len (L : List Int) (nx ny k : Nat) : (linesTo L nx ny k).length = k := by simp [linesTo]
theorem tableT_le (t : Table) : (tableT t).length ≤ 1048576 := by
  unfold tableT
  split
  · rename_i h
    rw [linesTo_len]
    have := (gridOk_parts (tableOk_grid h).1).2.1
    omega
  · simp
theorem cellT_len {n : Int} (h : I64 n) : (cellT n).length ≤ 64 := by
  unfold cellT
  split
  · simp
  · exact numT_len h.1 h.2
theorem parts_join {L : List Int} {a q : Nat} (h : a + q ≤ L.length) (hI : ∀ z ∈ L, I64 z) : (Lib.join (partsTo L a q) [32]).length ≤ q * 65 := by
  have := join_len_le (partsTo L a q) [32] 64 (fun x hx => by
    obtain ⟨n, hn, rfl⟩ := List.mem_map.1 hx
    exact cellT_len (hI n (List.mem_of_mem_drop (List.mem_of_mem_take hn))))
  rw [partsTo_len h] at this
  simpa using this
set_option maxHeartbeats 4000000 in
theorem implFormatTable_any (t : Table) (vs : List Value) (w : World) (h : AggRow w (tableF t) vs) (hI : tableFI t) (hl : t.Cells.length ≤ 1048576) (ht : Tab w) :
    Calls Tryz.prog 10 #[.agg vs.toArray] w fun e w' => StrsMade (tableT t) w e w' := by
  have HT := Lib.hid ht
  clear ht
  obtain ⟨i0, hi0, hz0, hz1, hz2⟩ := info_parts str_info
  by_cases hok : tableOk t = true
  rotate_left
  · have H : Hid (tableT t = []) := by unfold Hid tableT; rw [if_neg hok]
    have h' := h
    obtain ⟨_, rfl, _, rfl, _, rfl, _, rfl, _, rfl, A5, c5, _, rfl, r5, n5, m5, rfl⟩ := h'
    have hy : Ext w (w.alloc (.cells #[.int .i64 t.X0, .int .i64 t.Y0, .int .i64 t.Step, .int .i64 t.Nx, .int .i64 t.Ny, .slice A5 t.Cells.length c5] 34)) := (Ext.refl w).alloc _
    have hag : AggRow (w.alloc (.cells #[.int .i64 t.X0, .int .i64 t.Y0, .int .i64 t.Step, .int .i64 t.Nx, .int .i64 t.Ny, .slice A5 t.Cells.length c5] 34)) (tableF t) [.int .i64 t.X0, .int .i64 t.Y0, .int .i64 t.Step, .int .i64 t.Nx, .int .i64 t.Ny, .slice A5 t.Cells.length c5] := h.ext hy
    go_enter Tryz.func10, Tryz.ntmps10
    go_wp2_with fail
    refine (implTableOk_any t [.int .i64 t.X0, .int .i64 t.Y0, .int .i64 t.Step, .int .i64 t.Nx, .int .i64 t.Ny, .slice A5 t.Cells.length c5] _ hag hI hl).mono ?_
    rintro e w1 ⟨rfl, hx1⟩
    replace hy := hy.trans hx1
    rw [show tableOk t = false from by simpa using hok]
    clear hok
    go_wp2
    go_ret
    exact StrsMade.none H.out rfl hy
  have Hok := Lib.hid hok
  obtain ⟨hg, hlen, _⟩ := tableOk_grid hok
  obtain ⟨⟨a1, a2⟩, ⟨a3, a4⟩, a5⟩ := gridOk_parts hg
  clear hok hg
  have HTT : Hid (tableT t = linesTo t.Cells t.Nx.toNat t.Ny.toNat t.Ny.toNat) := by unfold Hid tableT; rw [if_pos Hok.out]
  obtain ⟨X0, Y0, Step, Nx, Ny, L⟩ := t
  change AggRow w [.i X0, .i Y0, .i Step, .i Nx, .i Ny, intF L] vs at h
  change (L.length : Int) = Nx * Ny at hlen
  change 1 ≤ Nx at a1
  change Nx ≤ 100 at a2
  change 1 ≤ Ny at a3
  change Ny ≤ 100 at a4
  change L.length ≤ 1048576 at hl
  have hIL : ∀ z ∈ L, I64 z := hI.2.2.2.2.2
  obtain ⟨nx, rfl⟩ := Int.eq_ofNat_of_zero_le (show 0 ≤ Nx by omega)
  obtain ⟨ny, rfl⟩ := Int.eq_ofNat_of_zero_le (show 0 ≤ Ny by omega)
  have hlN : L.length = nx * ny := by exact_mod_cast hlen
  have HlN := Lib.hid hlN
  change Hid (tableT _ = linesTo L nx ny ny) at HTT
  have HI := Lib.hid hI
  have HIL := Lib.hid hIL
  clear hlen hlN a5 hI hIL
  have h' := h
  obtain ⟨_, rfl, _, rfl, _, rfl, _, rfl, _, rfl, A5, c5, _, rfl, r5, n5, m5, rfl⟩ := h'
  have hy : Ext w (w.alloc (.cells #[.int .i64 X0, .int .i64 Y0, .int .i64 Step, .int .i64 (nx : Int), .int .i64 (ny : Int), .slice A5 L.length c5] 34)) := (Ext.refl w).alloc _
  have bR := Blk.new w 34 #[.int .i64 X0, .int .i64 Y0, .int .i64 Step, .int .i64 (nx : Int), .int .i64 (ny : Int), .slice A5 L.length c5]
  have hag : AggRow (w.alloc (.cells #[.int .i64 X0, .int .i64 Y0, .int .i64 Step, .int .i64 (nx : Int), .int .i64 (ny : Int), .slice A5 L.length c5] 34)) (tableF ⟨X0, Y0, Step, (nx : Int), (ny : Int), L⟩) [.int .i64 X0, .int .i64 Y0, .int .i64 Step, .int .i64 (nx : Int), .int .i64 (ny : Int), .slice A5 L.length c5] := h.ext hy
  have Hag := Lib.hid hag
  clear hag h
  go_enter Tryz.func10, Tryz.ntmps10
  go_wp2_with fail
  refine (implTableOk_any ⟨X0, Y0, Step, (nx : Int), (ny : Int), L⟩ [.int .i64 X0, .int .i64 Y0, .int .i64 Step, .int .i64 (nx : Int), .int .i64 (ny : Int), .slice A5 L.length c5] _ Hag.out HI.out hl).mono ?_
  rintro e w1 ⟨rfl, hx1⟩
  replace hy := hy.trans hx1
  replace bR := bR.ext hx1
  have cbR_5 := fun o => bR.cell o
  rw [Hok.out]
  have hr1 := r5.ext hy
  have hs1 := hy.size
  have hlt0 := bR.lt
  go_wp2
  go_loopw [3, 4] (fun v i wr => ∃ (k : Nat) (z : Int), k ≤ ny ∧ z = (ny : Int) - 1 - k ∧ i = .int .i64 z ∧ Ext w1 wr ∧ wr.ownsRow w1.heap.size 9 1 v k (strs (linesTo L nx ny k))) (fun _ i _ => (intOf i + 1).toNat)
  case atStart => exact ⟨0, _, Nat.zero_le _, rfl, by congr 1; omega, Ext.refl _, World.ownsRow_nil _ _ _ _⟩
  case round =>
  obtain ⟨k, z, hk, hzz, rfl, hx, hown⟩ := hrel
  obtain ⟨w2, rfl⟩ : ∃ w2, w2 = wr := ⟨_, rfl⟩
  have hsz := hx.size
  by_cases hlt : k < ny
  · obtain ⟨j, rfl⟩ : ∃ j : Nat, z = j := ⟨ny - 1 - k, by omega⟩
    have hjk : ny - 1 - k = j := by omega
    have hj0 : (0 : Int) ≤ (j : Int) := by omega
    obtain ⟨a, ha⟩ : ∃ a, j * nx = a := ⟨_, rfl⟩
    have hjn : j + 1 ≤ ny := by omega
    have han : a + nx ≤ L.length := by
      rw [HlN.out, ← ha, Nat.mul_comm nx ny]
      have := Nat.mul_le_mul_right nx hjn
      rw [Nat.succ_mul] at this
      exact this
    have HLS : Hid (linesTo L nx ny (k + 1) = linesTo L nx ny k ++ [rowT L a nx]) := by rw [Hid, linesTo_succ, hjk, ha]
    have wm : IntKind.i64.wrap ((j : Int) * (nx : Int)) = (a : Int) := by
      rw [← ha, Int.natCast_mul]
      refine IntWalk.i64_in _ ?_
      have h1 : ((j * nx : Nat) : Int) = (j : Int) * (nx : Int) := Int.natCast_mul _ _
      omega
    have wn : IntKind.i64.wrap (((j : Int) + 1) * (nx : Int)) = ((a + nx : Nat) : Int) := by
      have h1 : ((j : Int) + 1) * (nx : Int) = (((j + 1) * nx : Nat) : Int) := by rw [Int.natCast_mul]; rfl
      have h2 : (j + 1) * nx = a + nx := by rw [Nat.succ_mul, ha]
      rw [h1, h2]
      exact IntWalk.i64_in _ (by omega)
    have HJ : Hid (j + k + 1 = ny) := by unfold Hid; omega
    clear ha hzz hjk
    have hA : ∃ b off, A5 = some ⟨b, off, none⟩ := by
      obtain ⟨b, off, e, _⟩ := r5.int (k := a) (by omega)
      exact ⟨b, off, e⟩
    obtain ⟨b, off, rfl⟩ := hA
    have bR2 := bR.ext hx
    have cR2 := fun o => bR2.cell o
    unfold maxLen at m5
    go_wp2
    simp only [Nat.add_sub_cancel_left]
    go_loopw [5, 31] (fun v i wr2 => ∃ q : Nat, q ≤ nx ∧ i = .int .i64 (q : Int) ∧ Ext w2 wr2 ∧ wr2.ownsRow w2.heap.size 9 1 v q (strs (partsTo L a q))) (fun _ i _ => nx - (intOf i).toNat)
    case atStart => exact ⟨0, Nat.zero_le _, rfl, Ext.refl _, by rw [partsTo_zero]; exact World.ownsRow_nil _ _ _ _⟩
    case round =>
    obtain ⟨q, hq, rfl, hx2, hown2⟩ := hrel
    have hsz2 := hx2.size
    have bR3 := bR2.ext hx2
    have cR3 := fun o => bR3.cell o
    by_cases hqn : q < nx
    · have hqn2 : (q : Int) < (nx : Int) := by omega
      obtain ⟨b', off', hA', hb, hc⟩ := ((hr1.ext hx).ext hx2).int (k := a + q) (by omega)
      injection hA' with hA'
      injection hA' with e1 e2
      subst e1 e2
      have Hk := Lib.hid (partsTo_succ (L := L) (a := a) (q := q) (by omega))
      have hIz := HIL.out _ (List.getElem_mem (show a + q < L.length by omega))
      obtain ⟨z, hz⟩ : ∃ z, L[a + q]'(by omega) = z := ⟨_, rfl⟩
      rw [hz] at hc Hk hIz
      have hc2 := hc
      rw [← Nat.add_assoc] at hc2
      clear hz
      by_cases hno : z = -1000000
      · have hnb : (z == -1000000) = true := by simpa using hno
        have Hc : Hid (txt (cellT z) = ⟨#[45]⟩) := by unfold Hid cellT; rw [if_pos hno]; rfl
        clear hno
        go_wp2_with (at_builtin; go_must (refine wpList_append_own _ rfl _ _ 41 rfl w2.heap.size 9 i0 (.string ByteArray.empty) 1 16 Tryz.underlying41 hi0 hz0 hz1 hz2 rfl (by decide) _ _ _ rfl (hown2.alloc _) ⟨wr.heap.size, 0, none⟩ 1 1 [.string (⟨#[45]⟩)] rfl rfl (cell_one_new _ _ _) (by simp [Value.oneCell']) (by unfold maxLen; omega) (by omega) (by simp; omega) ?_); intro v' w9 hown' hgrow _)
        have hx3 : Ext w2 w9 := (hx2.alloc _).grown hgrow (fun g hg => (hown2.lt g hg).1)
        go_roundw
        case rel =>
          first | refine ⟨q + 1, ?_, ?_, hx3, ?_⟩ | refine ⟨_, ⟨q + 1, ?_, ?_, hx3, ?_⟩, rfl⟩ | refine ⟨_, _, ⟨q + 1, ?_, ?_, hx3, ?_⟩, rfl, rfl⟩ | refine ⟨_, _, _, ⟨q + 1, ?_, ?_, hx3, ?_⟩, rfl, rfl, rfl⟩ | refine ⟨_, _, _, _, ⟨q + 1, ?_, ?_, hx3, ?_⟩, rfl, rfl, rfl, rfl⟩ | refine ⟨_, _, _, _, _, ⟨q + 1, ?_, ?_, hx3, ?_⟩, rfl, rfl, rfl, rfl, rfl⟩ | ((repeat apply Exists.intro); refine ⟨⟨q + 1, ?_, ?_, hx3, ?_⟩, rfl⟩)
          · omega
          · go_num
          · rw [Hk.out, strs_append, show strs [cellT z] = [.string (txt (cellT z))] from rfl, Hc.out]; exact hown'
        case measure => simp [intOf]; omega
      · have hnb : (z == -1000000) = false := by simpa using hno
        have Hc : Hid (cellT z = numT z) := by unfold Hid cellT; rw [if_neg hno]
        clear hno
        go_wp2_with fail
        refine (implFormatInt_any _ _ hIz (HT.out.ext (hy.trans (hx.trans hx2)))).mono ?_
        rintro e w8 ⟨rfl, hx8⟩
        replace hown2 := own_ext hown2 hx8
        have hsz8 := hx8.size
        obtain ⟨tt, ht⟩ : ∃ t, numT z = t := ⟨_, rfl⟩
        rw [ht] at Hc ⊢
        clear ht
        go_wp2_with (at_builtin; go_must (refine wpList_append_own _ rfl _ _ 41 rfl w2.heap.size 9 i0 (.string ByteArray.empty) 1 16 Tryz.underlying41 hi0 hz0 hz1 hz2 rfl (by decide) _ _ _ rfl (hown2.alloc _) ⟨w8.heap.size, 0, none⟩ 1 1 [.string (txt tt)] rfl rfl (cell_one_new _ _ _) (by simp [Value.oneCell']) (by unfold maxLen; omega) (by omega) (by simp; omega) ?_); intro v' w9 hown' hgrow _)
        have hx3 : Ext w2 w9 := ((hx2.trans hx8).alloc _).grown hgrow (fun g hg => (hown2.lt g hg).1)
        go_roundw
        case rel =>
          first | refine ⟨q + 1, ?_, ?_, hx3, ?_⟩ | refine ⟨_, ⟨q + 1, ?_, ?_, hx3, ?_⟩, rfl⟩ | refine ⟨_, _, ⟨q + 1, ?_, ?_, hx3, ?_⟩, rfl, rfl⟩ | refine ⟨_, _, _, ⟨q + 1, ?_, ?_, hx3, ?_⟩, rfl, rfl, rfl⟩ | refine ⟨_, _, _, _, ⟨q + 1, ?_, ?_, hx3, ?_⟩, rfl, rfl, rfl, rfl⟩ | refine ⟨_, _, _, _, _, ⟨q + 1, ?_, ?_, hx3, ?_⟩, rfl, rfl, rfl, rfl, rfl⟩ | ((repeat apply Exists.intro); refine ⟨⟨q + 1, ?_, ?_, hx3, ?_⟩, rfl⟩)
          · omega
          · go_num
          · rw [Hk.out, strs_append, show strs [cellT z] = [.string (txt (cellT z))] from rfl, Hc.out]; exact hown'
        case measure => simp [intOf]; omega
    · obtain rfl : q = nx := by omega
      obtain ⟨A', c', rfl⟩ := own_form hown2
      have hrow := Row.of_own hown2
      have hcap := own_cap hown2
      have hbb := parts_join (L := L) (a := a) (q := q) han HIL.out
      have Hlen := Lib.hid (partsTo_len (L := L) (a := a) (q := q) han)
      have hb : (Lib.join (partsTo L a q) [32]).length ≤ 140737488355328 := by omega
      have Hb := Lib.hid hb
      have HR : Hid (Lib.join (partsTo L a q) [32] = rowT L a q) := rfl
      clear hb hbb
      go_wp2_with fail
      refine (implJoin_any _ _ _ (partsTo L a q) _ _ Hlen.out hrow hcap (by omega) Hb.out).mono ?_
      rintro e w8 ⟨rfl, hx8⟩
      change _ at HR
      have hown3 := own_ext (own_ext hown hx2) hx8
      have hsz8 := hx8.size
      obtain ⟨tt, ht⟩ : ∃ t, rowT L a q = t := ⟨_, rfl⟩
      rw [show Lib.join (partsTo L a q) (ByteArray.data ⟨#[32]⟩).toList = tt from ht]
      rw [ht] at HLS
      clear ht HR hown hown2
      go_wp2_with (at_builtin; go_must (refine wpList_append_own _ rfl _ _ 41 rfl w1.heap.size 9 i0 (.string ByteArray.empty) 1 16 Tryz.underlying41 hi0 hz0 hz1 hz2 rfl (by decide) _ _ _ rfl (hown3.alloc _) ⟨w8.heap.size, 0, none⟩ 1 1 [.string (txt tt)] rfl rfl (cell_one_new _ _ _) (by simp [Value.oneCell']) (by unfold maxLen; omega) (by omega) (by simp; omega) ?_); intro v' w9 hown' hgrow _)
      have hx3 : Ext w1 w9 := ((hx.trans (hx2.trans hx8)).alloc _).grown hgrow (fun g hg => (hown3.lt g hg).1)
      go_roundw
      case rel => exact ⟨k + 1, _, by omega, rfl, by have := HJ.out; congr 1; omega, hx3, by rw [HLS.out, strs_append]; exact hown'⟩
      case measure => simp [intOf] <;> omega
  · obtain rfl : k = ny := by omega
    have hneg : z < 0 := by omega
    have hn0 : ¬ (0 : Int) ≤ z := by omega
    obtain ⟨A', c', rfl⟩ := own_form hown
    have HL2 : Hid ((tableT ⟨X0, Y0, Step, (nx : Int), (k : Int), L⟩).length = k) := by rw [Hid, HTT.out, linesTo_len]
    clear hzz
    go_wp2
    go_ret
    exact StrsMade.mk (A := A') (c := c') HL2.out.symm rfl (hy.trans hx) (by rw [HTT.out]; exact own_base hown hs1)
end Go.Proofs.YtjghabbcjpfjeaaGreatDoor
/- Plain words: the inputs that all states of a cell of a table admit; with such an input every next state lies in the region again. -/
namespace Go.Proofs.YtjghabbcjpfjeaaGreatDoor
set_option linter.unusedVariables false

def meetS (a b : Span) : Span × Bool := if spanOk a = true ∧ spanOk b = true ∧ spanOk ⟨ratioMax a.Low b.Low, ratioMin a.High b.High⟩ = true then (⟨ratioMax a.Low b.Low, ratioMin a.High b.High⟩, true) else (zeroSpan, false)
theorem meetS_no {a b : Span} (h : ¬ (spanOk a = true ∧ spanOk b = true ∧ spanOk ⟨ratioMax a.Low b.Low, ratioMin a.High b.High⟩ = true)) : meetS a b = (zeroSpan, false) := if_neg h
theorem meetS_yes {a b : Span} (h : spanOk a = true ∧ spanOk b = true ∧ spanOk ⟨ratioMax a.Low b.Low, ratioMin a.High b.High⟩ = true) : meetS a b = (⟨ratioMax a.Low b.Low, ratioMin a.High b.High⟩, true) := if_pos h
theorem span_parts {w : Span} (h : spanOk w = true) : ratioOk w.Low = true ∧ ratioOk w.High = true ∧ rle w.Low w.High := by
  have hk := h
  unfold spanOk at hk
  simp only [Bool.and_eq_true, decide_eq_true_eq] at hk
  exact ⟨hk.1.1, hk.1.2, (cmp_le hk.1.1 hk.1.2).1 hk.2⟩
structure MeetIn (a b m : Span) : Prop where
  oa : spanOk a = true
  ob : spanOk b = true
  om : spanOk m = true
  la : rle a.Low m.Low
  lb : rle b.Low m.Low
  ha : rle m.High a.High
  hb : rle m.High b.High
theorem meetS_in {a b : Span} (h : (meetS a b).2 = true) : MeetIn a b (meetS a b).1 := by
  have hc : spanOk a = true ∧ spanOk b = true ∧ spanOk ⟨ratioMax a.Low b.Low, ratioMin a.High b.High⟩ = true := by
    rcases Classical.em (spanOk a = true ∧ spanOk b = true ∧ spanOk ⟨ratioMax a.Low b.Low, ratioMin a.High b.High⟩ = true) with q | q
    · exact q
    · rw [meetS_no q] at h; cases h
  rw [meetS_yes hc]
  obtain ⟨a1, a2, _⟩ := span_parts hc.1
  obtain ⟨b1, b2, _⟩ := span_parts hc.2.1
  obtain ⟨_, p1, p2, _⟩ := max_parts a1 b1
  obtain ⟨_, q1, q2, _⟩ := min_parts a2 b2
  exact ⟨hc.1, hc.2.1, hc.2.2, p1, p2, q1, q2⟩

variable {d : Dyn} {E : List Half} {ss : List Spot}
/-- what the first states admit -/
def allTo (d : Dyn) (E : List Half) (ss : List Spot) : Nat → Option Span
  | 0 => some zeroSpan
  | k + 1 => (allTo d E ss k).bind fun w =>
      if (admitR d E (ss.getD k ⟨0, 0, 0⟩)).2 = true then
        (if k = 0 then some (admitR d E (ss.getD k ⟨0, 0, 0⟩)).1 else if (meetS w (admitR d E (ss.getD k ⟨0, 0, 0⟩)).1).2 = true then some (meetS w (admitR d E (ss.getD k ⟨0, 0, 0⟩)).1).1 else none)
      else none
theorem allTo_none {k : Nat} (h : allTo d E ss k = none) : ∀ j, allTo d E ss (k + j) = none
  | 0 => h
  | j + 1 => by show (allTo d E ss (k + j)).bind _ = none; rw [allTo_none h j]; rfl
theorem allTo_no {k : Nat} {w : Span} (h : allTo d E ss k = some w) (h2 : (admitR d E (ss.getD k ⟨0, 0, 0⟩)).2 = false) : allTo d E ss (k + 1) = none := by
  show (allTo d E ss k).bind _ = none
  rw [h, Option.bind_some, if_neg (by rw [h2]; decide)]
theorem allTo_one {w : Span} (h : allTo d E ss 0 = some w) (h2 : (admitR d E (ss.getD 0 ⟨0, 0, 0⟩)).2 = true) : allTo d E ss 1 = some (admitR d E (ss.getD 0 ⟨0, 0, 0⟩)).1 := by
  show (allTo d E ss 0).bind _ = _
  rw [h, Option.bind_some, if_pos h2, if_pos rfl]
theorem allTo_yes {k : Nat} {w : Span} (h : allTo d E ss k = some w) (hk : k ≠ 0) (h2 : (admitR d E (ss.getD k ⟨0, 0, 0⟩)).2 = true) (h3 : (meetS w (admitR d E (ss.getD k ⟨0, 0, 0⟩)).1).2 = true) : allTo d E ss (k + 1) = some (meetS w (admitR d E (ss.getD k ⟨0, 0, 0⟩)).1).1 := by
  show (allTo d E ss k).bind _ = _
  rw [h, Option.bind_some, if_pos h2, if_neg hk, if_pos h3]
theorem allTo_gap {k : Nat} {w : Span} (h : allTo d E ss k = some w) (hk : k ≠ 0) (h2 : (admitR d E (ss.getD k ⟨0, 0, 0⟩)).2 = true) (h3 : (meetS w (admitR d E (ss.getD k ⟨0, 0, 0⟩)).1).2 = false) : allTo d E ss (k + 1) = none := by
  show (allTo d E ss k).bind _ = _
  rw [h, Option.bind_some, if_pos h2, if_neg hk, if_neg (by rw [h3]; decide)]
def admAll (d : Dyn) (E : List Half) (ss : List Spot) : Span × Bool := match allTo d E ss ss.length with
  | some w => (w, true)
  | none => (zeroSpan, false)
theorem admAll_none {k : Nat} (h : allTo d E ss k = none) (hk : k ≤ ss.length) : admAll d E ss = (zeroSpan, false) := by
  obtain ⟨j, hj⟩ : ∃ j, ss.length = k + j := ⟨ss.length - k, by omega⟩
  unfold admAll
  rw [hj, allTo_none h j]
theorem admAll_some {w : Span} (h : allTo d E ss ss.length = some w) : admAll d E ss = (w, true) := by
  unfold admAll
  rw [h]
structure AllIn (d : Dyn) (E : List Half) (ss : List Spot) (k : Nat) (w : Span) : Prop where
  ok : 0 < k → spanOk w = true
  inn : ∀ u, ratioOk u = true → rle w.Low u → rle u w.High → ∀ i, i < k → (admitR d E (ss.getD i ⟨0, 0, 0⟩)).2 = true ∧ rle (admitR d E (ss.getD i ⟨0, 0, 0⟩)).1.Low u ∧ rle u (admitR d E (ss.getD i ⟨0, 0, 0⟩)).1.High
theorem allTo_in : ∀ k w, allTo d E ss k = some w → AllIn d E ss k w
  | 0, w, h => ⟨fun h => by omega, fun _ _ _ _ i hi => by omega⟩
  | k + 1, w, h => by
    have h' : (allTo d E ss k).bind _ = some w := h
    cases hv : allTo d E ss k with
    | none => rw [hv] at h'; cases h'
    | some v =>
      have I := allTo_in k v hv
      rw [hv, Option.bind_some] at h'
      split at h'
      · rename_i h2
        have hs2 := admit_span h2
        split at h'
        · rename_i hk
          subst hk
          injection h' with h'
          subst h'
          exact ⟨fun _ => hs2, fun u hu h3 h4 i hi => by obtain rfl : i = 0 := by omega
                                                         exact ⟨h2, h3, h4⟩⟩
        · rename_i hk
          split at h'
          · rename_i h5
            injection h' with h'
            subst h'
            have M := meetS_in h5
            obtain ⟨a1, a2, _⟩ := span_parts M.oa
            obtain ⟨b1, b2, _⟩ := span_parts M.ob
            obtain ⟨m1, m2, _⟩ := span_parts M.om
            refine ⟨fun _ => M.om, fun u hu h3 h4 i hi => ?_⟩
            by_cases e : i = k
            · subst e
              exact ⟨h2, rle_trans b1 m1 hu M.lb h3, rle_trans hu m2 b2 h4 M.hb⟩
            · exact I.inn u hu (rle_trans a1 m1 hu M.la h3) (rle_trans hu m2 a2 h4 M.ha) i (by omega)
          · cases h'
      · cases h'
/-- the corners of a cell -/
def cellSpots (t : Table) (i j : Int) : List Spot := [⟨t.X0 + i * t.Step, t.Y0 + j * t.Step, 1⟩, ⟨t.X0 + i * t.Step + t.Step, t.Y0 + j * t.Step, 1⟩, ⟨t.X0 + i * t.Step + t.Step, t.Y0 + j * t.Step + t.Step, 1⟩, ⟨t.X0 + i * t.Step, t.Y0 + j * t.Step + t.Step, 1⟩]
structure GridB (t : Table) : Prop where
  x0 : -1000 ≤ t.X0 ∧ t.X0 ≤ 1000
  y0 : -1000 ≤ t.Y0 ∧ t.Y0 ≤ 1000
  st : 1 ≤ t.Step ∧ t.Step ≤ 100
  nx : 1 ≤ t.Nx ∧ t.Nx ≤ 100
  ny : 1 ≤ t.Ny ∧ t.Ny ≤ 100
  n : t.Nx * t.Ny ≤ 400
  xx : t.X0 + t.Nx * t.Step ≤ 1000
  yy : t.Y0 + t.Ny * t.Step ≤ 1000
theorem grid_b {t : Table} (h : gridOk t = true) : GridB t := by
  unfold gridOk inR at h
  simp only [Bool.and_eq_true, decide_eq_true_eq] at h
  obtain ⟨⟨⟨⟨⟨⟨⟨h1, h2⟩, h3⟩, h4⟩, h5⟩, h6⟩, h7⟩, h8⟩ := h
  exact ⟨h1, h2, h3, h4, h5, h6, h7, h8⟩
structure CellB (t : Table) (i j : Int) : Prop where
  is : 0 ≤ i * t.Step ∧ i * t.Step ≤ 10000
  js : 0 ≤ j * t.Step ∧ j * t.Step ≤ 10000
  x : -1000 ≤ t.X0 + i * t.Step ∧ t.X0 + i * t.Step + t.Step ≤ 1000
  y : -1000 ≤ t.Y0 + j * t.Step ∧ t.Y0 + j * t.Step + t.Step ≤ 1000
theorem step_in {i n s : Int} (hs : 1 ≤ s ∧ s ≤ 100) (hn : n ≤ 100) (h0 : 0 ≤ i) (h1 : i < n) : (0 ≤ i * s ∧ i * s ≤ 10000) ∧ i * s + s ≤ n * s := by
  have p1 : 0 ≤ i * s := Int.mul_nonneg h0 (by omega)
  have p2 : (i + 1) * s ≤ n * s := Int.mul_le_mul_of_nonneg_right (by omega) (by omega)
  have p3 : i * s ≤ 100 * s := Int.mul_le_mul_of_nonneg_right (by omega) (by omega)
  have p4 : (i + 1) * s = i * s + s := by grind
  omega
theorem cell_b {t : Table} (h : gridOk t = true) {i j : Int} (hi : 0 ≤ i ∧ i < t.Nx) (hj : 0 ≤ j ∧ j < t.Ny) : CellB t i j := by
  have g := grid_b h
  obtain ⟨a1, a2⟩ := step_in g.st g.nx.2 hi.1 hi.2
  obtain ⟨b1, b2⟩ := step_in g.st g.ny.2 hj.1 hj.2
  have := g.x0; have := g.y0; have := g.xx; have := g.yy; have := g.st
  exact ⟨a1, b1, by omega, by omega⟩
theorem whole_ok {x y : Int} (hx : -1000 ≤ x ∧ x ≤ 1000) (hy : -1000 ≤ y ∧ y ≤ 1000) : spotOk ⟨x, y, 1⟩ = true ∧ SpotS ⟨x, y, 1⟩ := by
  refine ⟨?_, ⟨⟨by show (1 : Int) ≤ 1; omega, by show (1 : Int) ≤ 5000000000; omega, by simp only; omega, by simp only; omega, by simp only; omega, by simp only; omega⟩, by show (1 : Int) ≤ 100000; omega⟩⟩
  unfold spotOk inR
  simp only [Bool.and_eq_true, decide_eq_true_eq]
  refine ⟨⟨⟨by omega, by omega⟩, by omega⟩, ?_⟩
  show Nat.gcd _ 1 = 1
  exact Nat.gcd_one_right _
theorem cellSpots_ok {t : Table} (h : gridOk t = true) {i j : Int} (hi : 0 ≤ i ∧ i < t.Nx) (hj : 0 ≤ j ∧ j < t.Ny) : ∀ s ∈ cellSpots t i j, s.D = 1 ∧ spotOk s = true ∧ SpotS s := by
  have c := cell_b h hi hj
  have g := (grid_b h).st
  have := c.x; have := c.y
  intro s hs
  unfold cellSpots at hs
  simp only [List.mem_cons, List.not_mem_nil, or_false] at hs
  rcases hs with rfl | rfl | rfl | rfl <;> exact ⟨rfl, whole_ok (by omega) (by omega)⟩
/-- what all corners of a cell admit -/
def cellR (r : Room) (P E : List Half) (t : Table) (i j : Int) : Span × Bool := if (cellSpots t i j).all (holdsR P) = true then admAll (dynOf r) E (cellSpots t i j) else (zeroSpan, false)
theorem cellR_no {r : Room} {P E : List Half} {t : Table} {i j : Int} (h : (cellSpots t i j).all (holdsR P) = false) : cellR r P E t i j = (zeroSpan, false) := if_neg (by rw [h]; decide)
theorem cellR_yes {r : Room} {P E : List Half} {t : Table} {i j : Int} (h : (cellSpots t i j).all (holdsR P) = true) : cellR r P E t i j = admAll (dynOf r) E (cellSpots t i j) := if_pos h
theorem cellR_in {r : Room} {P E : List Half} {t : Table} {i j : Int} (h : (cellR r P E t i j).2 = true) : (cellSpots t i j).all (holdsR P) = true ∧ AllIn (dynOf r) E (cellSpots t i j) 4 (cellR r P E t i j).1 := by
  cases e : (cellSpots t i j).all (holdsR P)
  · rw [cellR_no e] at h; cases h
  · refine ⟨rfl, ?_⟩
    rw [cellR_yes e] at h ⊢
    cases hw : allTo (dynOf r) E (cellSpots t i j) (cellSpots t i j).length with
    | none => rw [admAll_none hw (Nat.le_refl _)] at h; cases h
    | some w =>
      rw [admAll_some hw]
      exact allTo_in 4 w hw
theorem cellR_span {r : Room} {P E : List Half} {t : Table} {i j : Int} (h : (cellR r P E t i j).2 = true) : spanOk (cellR r P E t i j).1 = true := (cellR_in h).2.ok (by omega)
theorem cellR_adm {r : Room} (hv : RoomV r) {P E : List Half} (hE : erodeR P r.Noise = (E, true)) (hne : E ≠ []) {t : Table} (hg : gridOk t = true) {i j : Int} (hi : 0 ≤ i ∧ i < t.Nx) (hj : 0 ≤ j ∧ j < t.Ny) (h : (cellR r P E t i j).2 = true) {u : Ratio} (hu : ratioOk u = true) (h1 : rle (cellR r P E t i j).1.Low u) (h2 : rle u (cellR r P E t i j).1.High) :
    ∀ s ∈ cellSpots t i j, holdsR P s = true ∧ Admitted r P s u := by
  obtain ⟨ha, hI⟩ := cellR_in h
  intro s hs
  obtain ⟨hd, hk, _⟩ := cellSpots_ok hg hi hj s hs
  refine ⟨List.all_eq_true.1 ha s hs, ?_⟩
  obtain ⟨k, hk4, rfl⟩ := List.getElem_of_mem hs
  have hq := hI.inn u hu h1 h2 k hk4
  have e1 : (cellSpots t i j).getD k ⟨0, 0, 0⟩ = (cellSpots t i j)[k] := by rw [List.getD_eq_getElem?_getD, List.getElem?_eq_getElem hk4]; rfl
  rw [e1] at hq
  have e2 : admAtR r P (cellSpots t i j)[k] = admitR (dynOf r) E (cellSpots t i j)[k] := by
    have h0 : (erodeR P r.Noise).2 = true ∧ (erodeR P r.Noise).1 ≠ [] ∧ ((cellSpots t i j)[k]).D ≤ 100000 := by rw [hE]; exact ⟨rfl, hne, by omega⟩
    rw [admAt_yes h0, hE]
  rw [← e2] at hq
  exact admAt_in hv hk hq.1 hu hq.2.1 hq.2.2
theorem inRoom_bd {r : Room} (hv : RoomV r) {n : Int} (h : inRoom r ⟨n, 1⟩ = true) : -1000 ≤ n ∧ n ≤ 1000 := by
  unfold inRoom at h
  simp only [Bool.and_eq_true, decide_eq_true_eq] at h
  obtain ⟨⟨h1, h2⟩, h3⟩ := h
  have d := hv.dyn.1
  have e1 : (dynOf r).low = r.Low := rfl
  have e2 : (dynOf r).high = r.High := rfl
  have l := d.low; have m := d.mid; have g := d.high
  have o1 : ratioOk ⟨r.Low, 1⟩ = true := ratioOk_one (n := r.Low) (by omega) (by omega)
  have o2 : ratioOk ⟨r.High, 1⟩ = true := ratioOk_one (n := r.High) (by omega) (by omega)
  have q1 := (cmp_le o1 h1).1 h2
  have q2 := (cmp_le h1 o2).1 h3
  simp only at q1 q2
  omega
theorem next_fine {r : Room} (hv : RoomV r) {P : List Half} (hp : regOk P = true) {s t : Spot} {n : Int} (ha : Admitted r P s ⟨n, 1⟩) (hs : spotOk s = true) (hd : s.D = 1) (ht : t ∈ cornL r.Noise) (htd : t.D = 1) : (nextR (dynOf r) s ⟨n, 1⟩ t).2 = true := by
  have hn := inRoom_bd hv ha.room
  have hpn : P ≠ [] := (erode_parts ha.er ha.ne).1
  have hW := shape_of hv.noise hv.noiseN
  have hB := hW.spotB t ht
  have htk : spotOk t = true := by
    have b1 := hB.x1; have b2 := hB.x2; have b3 := hB.y1; have b4 := hB.y2
    unfold spotOk inR
    simp only [Bool.and_eq_true, decide_eq_true_eq]
    refine ⟨⟨⟨by omega, by omega⟩, by omega⟩, ?_⟩
    rw [htd]
    exact Nat.gcd_one_right _
  have hok : nextOk s t ⟨n, 1⟩ = true := by
    unfold nextOk isDriven inR
    rw [hs, htk, ratioOk_one (by omega) (by omega)]
    simp only [Bool.and_eq_true, Bool.true_and, decide_eq_true_eq]
    omega
  have hst := StepS.of hv.dyn.1 hok
  have b := hst.bd
  have hD : stepD (dynOf r) s t ⟨n, 1⟩ ≤ 20 := by
    have q := hv.dyn.1.q
    unfold stepD mapD
    rw [hd, htd]
    simp only [Int.mul_one]
    omega
  have hall := erode_held (regOk_all hp) hW ha.er ha.ne (s := pushed (dynOf r) s ⟨n, 1⟩) (t := t) (by show 0 < mapD (dynOf r) s * (⟨n, 1⟩ : Ratio).D; have := b.du; omega) hB.d1 ha.keep (fun x hx => hW.cornIn t ht x (hW.sub x hx))
  obtain ⟨h1, h2, h3⟩ := regOk_made hp hpn
  have hf := made_follows h1 (by rw [h3]; exact hpn) (s := ⟨stepX (dynOf r) s t ⟨n, 1⟩, stepY (dynOf r) s t ⟨n, 1⟩, stepD (dynOf r) s t ⟨n, 1⟩⟩) (by have := b.dt; simp only; omega) (by rw [h3]; exact hall)
  have f1 := hf ⟨1, 0, 1000⟩ (List.mem_append_left _ (by decide))
  have f2 := hf ⟨0, 1, 1000⟩ (List.mem_append_left _ (by decide))
  have f3 := hf ⟨-1, 0, 1000⟩ (List.mem_append_left _ (by decide))
  have f4 := hf ⟨0, -1, 1000⟩ (List.mem_append_left _ (by decide))
  unfold inH at f1 f2 f3 f4
  simp only at f1 f2 f3 f4
  have bt := b.dt
  rw [nextR_yes hok]
  rw [spotOf_yes ⟨by omega, least_not (by omega), least_not (by omega), low_spotOk (by omega) (by omega) (by omega) (by omega)⟩]
/-- the whole number of a span next to a wish -/
def nearI (w : Span) (wish : Int) : Int := if ratioFloor w.High < ratioCeil w.Low then -1000000 else if ratioCeil w.Low < (if wish < ratioFloor w.High then wish else ratioFloor w.High) then (if wish < ratioFloor w.High then wish else ratioFloor w.High) else ratioCeil w.Low
theorem nearI_no {w : Span} {wish : Int} (h : ratioFloor w.High < ratioCeil w.Low) : nearI w wish = -1000000 := if_pos h
theorem nearI_in {w : Span} (h : spanOk w = true) (wish : Int) (hle : ¬ ratioFloor w.High < ratioCeil w.Low) : ratioOk ⟨nearI w wish, 1⟩ = true ∧ rle w.Low ⟨nearI w wish, 1⟩ ∧ rle ⟨nearI w wish, 1⟩ w.High := by
  obtain ⟨a1, a2, _⟩ := span_parts h
  have c := ratioCeil_bd w.Low
  have f := ratioFloor_bd w.High
  have hm : ratioCeil w.Low ≤ nearI w wish ∧ nearI w wish ≤ ratioFloor w.High := by
    unfold nearI
    rw [if_neg hle]
    split <;> split <;> omega
  have q1 := (ceil_le a1).1 hm.1
  have q2 := (floor_le a2).1 hm.2
  refine ⟨ratioOk_one (by omega) (by omega), ?_, ?_⟩
  · unfold rle; simp only; omega
  · unfold rle; simp only; omega
/-- an input of a filled table -/
def fillC (r : Room) (P E : List Half) (ok : Bool) (t : Table) (wish i j : Int) : Int := if ok = true ∧ (cellR r P E t i j).2 = true then nearI (cellR r P E t i j).1 wish else -1000000
theorem fillC_no {r : Room} {P E : List Half} {ok : Bool} {t : Table} {wish i j : Int} (h : ¬ (ok = true ∧ (cellR r P E t i j).2 = true)) : fillC r P E ok t wish i j = -1000000 := if_neg h
theorem fillC_yes {r : Room} {P E : List Half} {ok : Bool} {t : Table} {wish i j : Int} (h : ok = true ∧ (cellR r P E t i j).2 = true) : fillC r P E ok t wish i j = nearI (cellR r P E t i j).1 wish := if_pos h
/-- what is known of an input of a filled table -/
structure Filled (r : Room) (P E : List Half) (ok : Bool) (t : Table) (i j n : Int) : Prop where
  void : n = -1000000 → ok = true ∧ (cellR r P E t i j).2 = true → wholeInputs (cellR r P E t i j).1 = 0
  full : n ≠ -1000000 → (ok = true ∧ (cellR r P E t i j).2 = true) ∧ (-1000 ≤ n ∧ n ≤ 1000) ∧ inSpan (cellR r P E t i j).1 ⟨n, 1⟩ = true ∧ ∀ s ∈ cellSpots t i j, hasSpot P s = true ∧ Admitted r P s ⟨n, 1⟩
theorem fill_known {r : Room} (hv : RoomV r) {P E : List Half} (hp : regOk P = true) {ok : Bool} (hE : ok = true → erodeR P r.Noise = (E, true) ∧ E ≠ []) {t : Table} (hg : gridOk t = true) {wish i j : Int} (hi : 0 ≤ i ∧ i < t.Nx) (hj : 0 ≤ j ∧ j < t.Ny) : Filled r P E ok t i j (fillC r P E ok t wish i j) := by
  rcases Classical.em (ok = true ∧ (cellR r P E t i j).2 = true) with q | q
  · rw [fillC_yes q]
    have hs := cellR_span q.2
    rcases Classical.em (ratioFloor (cellR r P E t i j).1.High < ratioCeil (cellR r P E t i j).1.Low) with hle | hle
    · rw [nearI_no hle]
      refine ⟨fun _ _ => ?_, fun h => absurd rfl h⟩
      unfold wholeInputs
      split
      · split <;> omega
      · rfl
    · obtain ⟨h1, h2, h3⟩ := nearI_in hs wish hle
      obtain ⟨a1, a2, _⟩ := span_parts hs
      obtain ⟨e1, e2⟩ := hE q.1
      have hA := cellR_adm hv e1 e2 hg hi hj q.2 h1 h2 h3
      have h0 := hA _ (List.getElem_mem (l := cellSpots t i j) (n := 0) (show 0 < 4 by omega))
      have hb := inRoom_bd hv h0.2.room
      refine ⟨fun h => by omega, fun _ => ⟨q, hb, ?_, fun s hs' => ?_⟩⟩
      · unfold inSpan
        rw [hs, h1, decide_eq_true ((cmp_le a1 h1).2 h2), decide_eq_true ((cmp_le h1 a2).2 h3)]
        rfl
      · obtain ⟨p1, p2⟩ := hA s hs'
        obtain ⟨_, hk, _⟩ := cellSpots_ok hg hi hj s hs'
        refine ⟨?_, p2⟩
        unfold hasSpot
        rw [hp, hk, p1]
        rfl
  · rw [fillC_no q]
    exact ⟨fun _ h => absurd h q, fun h => absurd rfl h⟩
def fillK (r : Room) (P E : List Half) (ok : Bool) (t : Table) (wish : Int) (k : Nat) : Int := fillC r P E ok t wish ((k % t.Nx.toNat : Nat) : Int) ((k / t.Nx.toNat : Nat) : Int)
def cellsTo (r : Room) (P E : List Half) (ok : Bool) (t : Table) (wish : Int) (n : Nat) : List Int := (List.range n).map (fillK r P E ok t wish)
def filledT (r : Room) (P E : List Half) (ok : Bool) (t : Table) (wish : Int) : Table := ⟨t.X0, t.Y0, t.Step, t.Nx, t.Ny, cellsTo r P E ok t wish (t.Nx.toNat * t.Ny.toNat)⟩
theorem cellsTo_len (r : Room) (P E : List Half) (ok : Bool) (t : Table) (wish : Int) (n : Nat) : (cellsTo r P E ok t wish n).length = n := by simp [cellsTo]
theorem cellsTo_succ (r : Room) (P E : List Half) (ok : Bool) (t : Table) (wish : Int) (n : Nat) : cellsTo r P E ok t wish (n + 1) = cellsTo r P E ok t wish n ++ [fillK r P E ok t wish n] := by unfold cellsTo; rw [List.range_succ, List.map_append]; rfl
theorem cellsTo_at {r : Room} {P E : List Half} {ok : Bool} {t : Table} {wish : Int} {n k : Nat} (h : k < (cellsTo r P E ok t wish n).length) : (cellsTo r P E ok t wish n)[k] = fillK r P E ok t wish k := by simp [cellsTo]
theorem grid_n {t : Table} (h : gridOk t = true) : t.Nx.toNat * t.Ny.toNat ≤ 400 ∧ ((t.Nx.toNat * t.Ny.toNat : Nat) : Int) = t.Nx * t.Ny := by
  have g := grid_b h
  have h1 := g.nx; have h2 := g.ny; have h3 := g.n
  have e : ((t.Nx.toNat * t.Ny.toNat : Nat) : Int) = t.Nx * t.Ny := by rw [Int.natCast_mul, Int.toNat_of_nonneg (by omega), Int.toNat_of_nonneg (by omega)]
  exact ⟨by omega, e⟩
theorem place_in {t : Table} (h : gridOk t = true) {k : Nat} (hk : k < t.Nx.toNat * t.Ny.toNat) : (0 ≤ ((k % t.Nx.toNat : Nat) : Int) ∧ ((k % t.Nx.toNat : Nat) : Int) < t.Nx) ∧ (0 ≤ ((k / t.Nx.toNat : Nat) : Int) ∧ ((k / t.Nx.toNat : Nat) : Int) < t.Ny) := by
  have g := grid_b h
  have h1 := g.nx; have h2 := g.ny
  have a := Nat.mod_lt k (show 0 < t.Nx.toNat by omega)
  have b : k / t.Nx.toNat < t.Ny.toNat := Nat.div_lt_of_lt_mul hk
  generalize k % t.Nx.toNat = x at *
  generalize k / t.Nx.toNat = y at *
  omega
theorem fillK_known {r : Room} (hv : RoomV r) {P E : List Half} (hp : regOk P = true) {ok : Bool} (hE : ok = true → erodeR P r.Noise = (E, true) ∧ E ≠ []) {t : Table} (hg : gridOk t = true) {wish : Int} {k : Nat} (hk : k < t.Nx.toNat * t.Ny.toNat) : Filled r P E ok t ((k % t.Nx.toNat : Nat) : Int) ((k / t.Nx.toNat : Nat) : Int) (fillK r P E ok t wish k) := by
  obtain ⟨a, b⟩ := place_in hg hk
  exact fill_known hv hp hE hg a b
theorem filled_ok {r : Room} (hv : RoomV r) {P E : List Half} (hp : regOk P = true) {ok : Bool} (hE : ok = true → erodeR P r.Noise = (E, true) ∧ E ≠ []) {t : Table} (hg : gridOk t = true) (wish : Int) : tableOk (filledT r P E ok t wish) = true := by
  obtain ⟨n1, n2⟩ := grid_n hg
  have e1 : gridOk (filledT r P E ok t wish) = gridOk t := rfl
  unfold tableOk
  rw [e1, hg]
  have e2 : ((filledT r P E ok t wish).Cells.length : Int) = (filledT r P E ok t wish).Nx * (filledT r P E ok t wish).Ny := by
    unfold filledT
    simp only [cellsTo_len]
    exact n2
  rw [decide_eq_true e2]
  have e3 : (filledT r P E ok t wish).Cells.all cellOk = true := List.all_eq_true.2 fun x hx => by
    obtain ⟨k, hk, rfl⟩ := List.getElem_of_mem hx
    unfold filledT at hk ⊢
    simp only at hk ⊢
    rw [cellsTo_at hk]
    rw [cellsTo_len] at hk
    have F := fillK_known hv hp hE hg (wish := wish) hk
    generalize fillK r P E ok t wish k = n at *
    unfold cellOk inR
    by_cases e : n = -1000000
    · rw [decide_eq_true e]; rfl
    · obtain ⟨_, hb, _⟩ := F.full e
      rw [decide_eq_true hb.1, decide_eq_true hb.2, Bool.and_self, Bool.or_true]
  rw [e3]
  rfl
end Go.Proofs.YtjghabbcjpfjeaaGreatDoor
/- Contracts of the program's functions of one cell: its corners, the spans of many states, the span of a cell. (written by tools/mkTa.py) -/
namespace Go.Proofs.YtjghabbcjpfjeaaGreatDoor
open Go.ChangeShapes Go.WideShapes Go.ChangeAt Go.RowKit
set_option linter.unusedVariables false
set_option maxRecDepth 100000

theorem Blk.far4 {V : World} {g k : Nat} {t : TypeId} {cs : Array Value} (b : Blk V k t cs) (h : k ≠ g) (p q r s : Value) : Blk ((((V.setCell ⟨g, 0, none⟩ p).setCell ⟨g, 1, none⟩ q).setCell ⟨g, 2, none⟩ r).setCell ⟨g, 3, none⟩ s) k t cs :=
  (((b.far (p := ⟨g, 0, none⟩) h p).far (p := ⟨g, 1, none⟩) h q).far (p := ⟨g, 2, none⟩) h r).far (p := ⟨g, 3, none⟩) h s
theorem Blk.set4 {V : World} {k : Nat} {t : TypeId} {x0 x1 x2 x3 : Value} (b : Blk V k t #[x0, x1, x2, x3]) (p q r s : Value) : Blk ((((V.setCell ⟨k, 0, none⟩ p).setCell ⟨k, 1, none⟩ q).setCell ⟨k, 2, none⟩ r).setCell ⟨k, 3, none⟩ s) k t #[p, q, r, s] :=
  (((b.set_ 0 p).set_ 1 q).set_ 2 r).set_ 3 s
set_option maxHeartbeats 8000000 in
theorem implCornersOfCell_ok (t : Table) (A5 : Option Addr) (n5 c5 : Nat) (i j : Int) (w : World) (hb : CellB t i j) (hst : 1 ≤ t.Step ∧ t.Step ≤ 100) :
    Calls Tryz.prog 54 #[.agg #[.int .i64 t.X0, .int .i64 t.Y0, .int .i64 t.Step, .int .i64 t.Nx, .int .i64 t.Ny, .slice A5 n5 c5], .int .i64 i, .int .i64 j] w (SpotsMade (cellSpots t i j) w) := by
  have hx : Ext w (w.alloc (.cells #[.int .i64 t.X0, .int .i64 t.Y0, .int .i64 t.Step, .int .i64 t.Nx, .int .i64 t.Ny, .slice A5 n5 c5] 34)) := (Ext.refl w).alloc _
  have bT := Blk.new w 34 #[.int .i64 t.X0, .int .i64 t.Y0, .int .i64 t.Step, .int .i64 t.Nx, .int .i64 t.Ny, .slice A5 n5 c5]
  have h1 := hb.is
  have h2 := hb.js
  have h3 := hb.x
  have h4 := hb.y
  have HC : Hid (cellSpots t i j = [⟨t.X0 + i * t.Step, t.Y0 + j * t.Step, 1⟩, ⟨t.X0 + i * t.Step + t.Step, t.Y0 + j * t.Step, 1⟩, ⟨t.X0 + i * t.Step + t.Step, t.Y0 + j * t.Step + t.Step, 1⟩, ⟨t.X0 + i * t.Step, t.Y0 + j * t.Step + t.Step, 1⟩]) := rfl
  obtain ⟨a, ha⟩ : ∃ a, i * t.Step = a := ⟨_, rfl⟩
  obtain ⟨b, hb_⟩ : ∃ b, j * t.Step = b := ⟨_, rfl⟩
  rw [ha] at h1 h3 HC
  rw [hb_] at h2 h4 HC
  have q1 : IntKind.i64.wrap (i * t.Step) = a := by rw [ha]; exact IntWalk.i64_in _ (by omega)
  have q2 : IntKind.i64.wrap (j * t.Step) = b := by rw [hb_]; exact IntWalk.i64_in _ (by omega)
  obtain ⟨x, hx_⟩ : ∃ x, t.X0 + a = x := ⟨_, rfl⟩
  obtain ⟨y, hy_⟩ : ∃ y, t.Y0 + b = y := ⟨_, rfl⟩
  rw [hx_] at h3 HC
  rw [hy_] at h4 HC
  have q3 : IntKind.i64.wrap (t.X0 + a) = x := by rw [hx_]; exact IntWalk.i64_in _ (by omega)
  have q4 : IntKind.i64.wrap (t.Y0 + b) = y := by rw [hy_]; exact IntWalk.i64_in _ (by omega)
  have q5 : IntKind.i64.wrap (x + t.Step) = x + t.Step := IntWalk.i64_in _ (by omega)
  have q6 : IntKind.i64.wrap (y + t.Step) = y + t.Step := IntWalk.i64_in _ (by omega)
  clear ha hb_ hx_ hy_ hb
  have cT := fun o => bT.cell o
  go_enter Tryz.func54, Tryz.ntmps54
  go_wp2
  go_quiet (fail)
  generalize nq = nq1
  go_wp2
  go_quiet (fail)
  generalize nq = nq2
  go_wp2
  go_ret
  refine ⟨_, _, _, rfl, rfl, ?_, ?_⟩
  · repeat (first | exact hx | refine Ext.alloc ?_ _ | refine Ext.drewN ?_ _)
  · rw [HC.out]
    have q := Blk.new ((w.alloc (.cells #[.int .i64 t.X0, .int .i64 t.Y0, .int .i64 t.Step, .int .i64 t.Nx, .int .i64 t.Ny, .slice A5 n5 c5] 34)).drewN (nq1 + nq2)) 30 #[.int .i64 x, .int .i64 y, .int .i64 1, .int .i64 (x + t.Step), .int .i64 y, .int .i64 1, .int .i64 (x + t.Step), .int .i64 (y + t.Step), .int .i64 1, .int .i64 x, .int .i64 (y + t.Step), .int .i64 1]
    simp only [World.heap_drewN, World.size_alloc] at q
    exact own_base (own_blk (n := 4) (s := 3) q rfl (by unfold maxLen; omega)) (by omega)
set_option maxHeartbeats 4000000 in
theorem implIsCell_ok (t : Table) (A5 : Option Addr) (n5 c5 : Nat) (i j : Int) (w : World) (hi : 0 ≤ i ∧ i < t.Nx) (hj : 0 ≤ j ∧ j < t.Ny) :
    Calls Tryz.prog 45 #[.agg #[.int .i64 t.X0, .int .i64 t.Y0, .int .i64 t.Step, .int .i64 t.Nx, .int .i64 t.Ny, .slice A5 n5 c5], .int .i64 i, .int .i64 j] w fun e w' => e = .returned (.bool true) ∧ Ext w w' := by
  have hx : Ext w (w.alloc (.cells #[.int .i64 t.X0, .int .i64 t.Y0, .int .i64 t.Step, .int .i64 t.Nx, .int .i64 t.Ny, .slice A5 n5 c5] 34)) := (Ext.refl w).alloc _
  have bT := Blk.new w 34 #[.int .i64 t.X0, .int .i64 t.Y0, .int .i64 t.Step, .int .i64 t.Nx, .int .i64 t.Ny, .slice A5 n5 c5]
  obtain ⟨h1, h2⟩ := hi
  obtain ⟨h3, h4⟩ := hj
  have cT := fun o => bT.cell o
  go_enter Tryz.func45, Tryz.ntmps45
  go_wp2
  all_goals go_ret
  all_goals exact ⟨rfl, hx⟩
set_option maxHeartbeats 32000000 in
theorem implMeetSpans_any (a0 a1 a2 a3 b0 b1 b2 b3 : Int) (w : World) (i0 : I64 a0) (i1 : I64 a1) (i2 : I64 a2) (i3 : I64 a3) (j0 : I64 b0) (j1 : I64 b1) (j2 : I64 b2) (j3 : I64 b3) :
    Calls Tryz.prog 107 #[.agg #[.int .i64 a0, .int .i64 a1, .int .i64 a2, .int .i64 a3], .agg #[.int .i64 b0, .int .i64 b1, .int .i64 b2, .int .i64 b3]] w (SpanMade (meetS ⟨⟨a0, a1⟩, ⟨a2, a3⟩⟩ ⟨⟨b0, b1⟩, ⟨b2, b3⟩⟩) w) := by
  have HA := Lib.hid (fun w => implSpanOk_any a0 a1 a2 a3 w i0 i1 i2 i3)
  have HB := Lib.hid (fun w => implSpanOk_any b0 b1 b2 b3 w j0 j1 j2 j3)
  have HNo := Lib.hid (fun h => meetS_no (a := ⟨⟨a0, a1⟩, ⟨a2, a3⟩⟩) (b := ⟨⟨b0, b1⟩, ⟨b2, b3⟩⟩) h)
  have HYes := Lib.hid (fun h => meetS_yes (a := ⟨⟨a0, a1⟩, ⟨a2, a3⟩⟩) (b := ⟨⟨b0, b1⟩, ⟨b2, b3⟩⟩) h)
  have HI : Hid (spanOk ⟨⟨a0, a1⟩, ⟨a2, a3⟩⟩ = true → spanOk ⟨⟨b0, b1⟩, ⟨b2, b3⟩⟩ = true → (I64 (ratioMax ⟨a0, a1⟩ ⟨b0, b1⟩).N ∧ I64 (ratioMax ⟨a0, a1⟩ ⟨b0, b1⟩).D) ∧ (I64 (ratioMin ⟨a2, a3⟩ ⟨b2, b3⟩).N ∧ I64 (ratioMin ⟨a2, a3⟩ ⟨b2, b3⟩).D)) := fun h1 h2 => by
    obtain ⟨p1, p2, _⟩ := span_parts h1
    obtain ⟨q1, q2, _⟩ := span_parts h2
    exact ⟨ratio_I (max_parts p1 q1).1, ratio_I (min_parts p2 q2).1⟩
  have HMx := Lib.hid (fun w => implRatioMax_any a0 a1 b0 b1 w i0 i1 j0 j1)
  have HMn := Lib.hid (fun w => implRatioMin_any a2 a3 b2 b3 w i2 i3 j2 j3)
  dsimp only at HNo HYes
  generalize ratioMax ⟨a0, a1⟩ ⟨b0, b1⟩ = M at *
  generalize ratioMin ⟨a2, a3⟩ ⟨b2, b3⟩ = G at *
  generalize meetS ⟨⟨a0, a1⟩, ⟨a2, a3⟩⟩ ⟨⟨b0, b1⟩, ⟨b2, b3⟩⟩ = X at *
  generalize spanOk ⟨⟨a0, a1⟩, ⟨a2, a3⟩⟩ = o1 at *
  generalize spanOk ⟨⟨b0, b1⟩, ⟨b2, b3⟩⟩ = o2 at *
  obtain ⟨m0, m1⟩ := M
  obtain ⟨m2, m3⟩ := G
  dsimp only at *
  clear i0 i1 i2 i3 j0 j1 j2 j3
  have hx : Ext w (((w.alloc (.cells #[.int .i64 a0, .int .i64 a1, .int .i64 a2, .int .i64 a3] 46)).alloc (.cells #[.int .i64 b0, .int .i64 b1, .int .i64 b2, .int .i64 b3] 46)).alloc (.cells #[.int .i64 0, .int .i64 0, .int .i64 0, .int .i64 0] 46)) := by repeat (first | exact Ext.refl _ | refine Ext.alloc ?_ _)
  have bA : Blk (((w.alloc (.cells #[.int .i64 a0, .int .i64 a1, .int .i64 a2, .int .i64 a3] 46)).alloc (.cells #[.int .i64 b0, .int .i64 b1, .int .i64 b2, .int .i64 b3] 46)).alloc (.cells #[.int .i64 0, .int .i64 0, .int .i64 0, .int .i64 0] 46)) (w.heap.size) 46 #[.int .i64 a0, .int .i64 a1, .int .i64 a2, .int .i64 a3] := by
    have q := Blk.new w 46 #[.int .i64 a0, .int .i64 a1, .int .i64 a2, .int .i64 a3]
    replace q := q.alloc (.cells #[.int .i64 b0, .int .i64 b1, .int .i64 b2, .int .i64 b3] 46)
    replace q := q.alloc (.cells #[.int .i64 0, .int .i64 0, .int .i64 0, .int .i64 0] 46)
    simpa only [World.size_alloc] using q
  have bB : Blk (((w.alloc (.cells #[.int .i64 a0, .int .i64 a1, .int .i64 a2, .int .i64 a3] 46)).alloc (.cells #[.int .i64 b0, .int .i64 b1, .int .i64 b2, .int .i64 b3] 46)).alloc (.cells #[.int .i64 0, .int .i64 0, .int .i64 0, .int .i64 0] 46)) (w.heap.size + 1) 46 #[.int .i64 b0, .int .i64 b1, .int .i64 b2, .int .i64 b3] := by
    have q := Blk.new (w.alloc (.cells #[.int .i64 a0, .int .i64 a1, .int .i64 a2, .int .i64 a3] 46)) 46 #[.int .i64 b0, .int .i64 b1, .int .i64 b2, .int .i64 b3]
    replace q := q.alloc (.cells #[.int .i64 0, .int .i64 0, .int .i64 0, .int .i64 0] 46)
    simpa only [World.size_alloc] using q
  have bR : Blk (((w.alloc (.cells #[.int .i64 a0, .int .i64 a1, .int .i64 a2, .int .i64 a3] 46)).alloc (.cells #[.int .i64 b0, .int .i64 b1, .int .i64 b2, .int .i64 b3] 46)).alloc (.cells #[.int .i64 0, .int .i64 0, .int .i64 0, .int .i64 0] 46)) (w.heap.size + 1 + 1) 46 #[.int .i64 0, .int .i64 0, .int .i64 0, .int .i64 0] := by
    have q := Blk.new ((w.alloc (.cells #[.int .i64 a0, .int .i64 a1, .int .i64 a2, .int .i64 a3] 46)).alloc (.cells #[.int .i64 b0, .int .i64 b1, .int .i64 b2, .int .i64 b3] 46)) 46 #[.int .i64 0, .int .i64 0, .int .i64 0, .int .i64 0]
    simpa only [World.size_alloc] using q
  have cR := fun o => bR.cell o
  have cbA_7 := fun o => bA.cell o
  have cbB_8 := fun o => bB.cell o
  have cbR_9 := fun o => bR.cell o
  have fbR_9 := fun o => bR.frozen o
  go_enter Tryz.func107, Tryz.ntmps107
  go_wp2_with fail
  refine (HA.out _).mono ?_
  rintro e w1 ⟨rfl, hx1⟩
  replace hx := hx.trans hx1
  replace bA := bA.ext hx1
  replace bB := bB.ext hx1
  replace bR := bR.ext hx1
  have cbA_10 := fun o => bA.cell o
  have cbB_11 := fun o => bB.cell o
  have cbR_12 := fun o => bR.cell o
  have fbR_12 := fun o => bR.frozen o
  cases o1
  · have H := Lib.hid (HNo.out (by simp))
    go_wp2
    have bF := ((((bR.set_ 0 (.int .i64 0)).set_ 1 (.int .i64 0)).set_ 2 (.int .i64 0)).set_ 3 (.int .i64 0))
    have cF := fun o => bF.cell o
    clear cR
    refine bodyPost_ret (v := .tuple #[.agg #[.int .i64 0, .int .i64 0, .int .i64 0, .int .i64 0], .bool false]) (by first | (simp [results, Tryz.results107, go_sem]; done) | simp [results, Tryz.results107, go_sem, cF]) rfl ?_
    exact ⟨by rw [H.out]; rfl, by first | (with_reducible exact hx) | exact ext_set4 hx (by omega) _ _ _ _⟩
  go_wp2_with fail
  refine (HB.out _).mono ?_
  rintro e w2 ⟨rfl, hx2⟩
  replace hx := hx.trans hx2
  replace bA := bA.ext hx2
  replace bB := bB.ext hx2
  replace bR := bR.ext hx2
  have cbA_13 := fun o => bA.cell o
  have cbB_14 := fun o => bB.cell o
  have cbR_15 := fun o => bR.cell o
  have fbR_15 := fun o => bR.frozen o
  cases o2
  · have H := Lib.hid (HNo.out (by simp))
    go_wp2
    have bF := ((((bR.set_ 0 (.int .i64 0)).set_ 1 (.int .i64 0)).set_ 2 (.int .i64 0)).set_ 3 (.int .i64 0))
    have cF := fun o => bF.cell o
    clear cR
    refine bodyPost_ret (v := .tuple #[.agg #[.int .i64 0, .int .i64 0, .int .i64 0, .int .i64 0], .bool false]) (by first | (simp [results, Tryz.results107, go_sem]; done) | simp [results, Tryz.results107, go_sem, cF]) rfl ?_
    exact ⟨by rw [H.out]; rfl, by first | (with_reducible exact hx) | exact ext_set4 hx (by omega) _ _ _ _⟩
  obtain ⟨⟨k0, k1⟩, ⟨k2, k3⟩⟩ := HI.out (by first | rfl | trivial) (by first | rfl | trivial)
  have HK := Lib.hid (fun w => implSpanOk_any m0 m1 m2 m3 w k0 k1 k2 k3)
  have HNo1 := Lib.hid (fun (h : ¬ spanOk ⟨⟨m0, m1⟩, ⟨m2, m3⟩⟩ = true) => HNo.out (fun q => h q.2.2))
  have HYes1 := Lib.hid (fun (h : spanOk ⟨⟨m0, m1⟩, ⟨m2, m3⟩⟩ = true) => HYes.out ⟨by first | rfl | trivial, by first | rfl | trivial, h⟩)
  clear HNo HYes HI k0 k1 k2 k3 HA HB
  generalize spanOk ⟨⟨m0, m1⟩, ⟨m2, m3⟩⟩ = o3 at *
  have lA := bA.lt
  have lB := bB.lt
  have lR := bR.lt
  go_upto_region 3 with fail
  go_cut [6] from 16 to 26 (fun p wx => OneSpan ⟨⟨m0, m1⟩, ⟨m2, m3⟩⟩ w2 p wx)
  case first =>
    have hcur := Ext.refl w2
    have nA := Nat.ne_of_lt lA
    have nA' := (Nat.ne_of_lt lA).symm
    have nB := Nat.ne_of_lt lB
    have nB' := (Nat.ne_of_lt lB).symm
    go_region_held3 (fun w' => w'.cell? ⟨w.heap.size, 0, none⟩ = some (.int .i64 a0) ∧ w'.cell? ⟨w.heap.size, 1, none⟩ = some (.int .i64 a1) ∧ w'.cell? ⟨w.heap.size, 2, none⟩ = some (.int .i64 a2) ∧ w'.cell? ⟨w.heap.size, 3, none⟩ = some (.int .i64 a3) ∧ w'.cell? ⟨w.heap.size + 1, 0, none⟩ = some (.int .i64 b0) ∧ w'.cell? ⟨w.heap.size + 1, 1, none⟩ = some (.int .i64 b1) ∧ w'.cell? ⟨w.heap.size + 1, 2, none⟩ = some (.int .i64 b2) ∧ w'.cell? ⟨w.heap.size + 1, 3, none⟩ = some (.int .i64 b3))
      (go_keep)
      (first
        | (go_at_call 68; (with_reducible refine (HMx.out _).mono ?_); rintro e w9 ⟨rfl, hx9⟩; (first | have hx8 := (Ext.refl _).drew.trans hx9 | have hx8 := hx9); replace hcur := Ext.trans (by first | exact hcur | exact hcur.drew | exact hcur.alloc _ | exact hcur.drew.alloc _ | exact (hcur.alloc _).drew) hx9; have s9 := hcur.size; have d1 := fun o => (bA.ext hcur).cell o; have d2 := fun o => (bB.ext hcur).cell o; have nA := Nat.ne_of_lt (bA.ext hcur).lt; have nA' := (Nat.ne_of_lt (bA.ext hcur).lt).symm; have nB := Nat.ne_of_lt (bB.ext hcur).lt; have nB' := (Nat.ne_of_lt (bB.ext hcur).lt).symm; (first | (replace gA := gA.ext hx8; have gAc := fun o => gA.cell o; have gAf := fun o => gA.frozen o; have lG := gA.lt) | (have gA := Blk.ext (Blk.new _ 46 #[.int .i64 0, .int .i64 0, .int .i64 0, .int .i64 0]) hx8; have gAc := fun o => gA.cell o; have gAf := fun o => gA.frozen o; have lG := gA.lt) | skip))
        | (go_at_call 67; (with_reducible refine (HMn.out _).mono ?_); rintro e w9 ⟨rfl, hx9⟩; (first | have hx8 := (Ext.refl _).drew.trans hx9 | have hx8 := hx9); replace hcur := Ext.trans (by first | exact hcur | exact hcur.drew | exact hcur.alloc _ | exact hcur.drew.alloc _ | exact (hcur.alloc _).drew) hx9; have s9 := hcur.size; have d1 := fun o => (bA.ext hcur).cell o; have d2 := fun o => (bB.ext hcur).cell o; have nA := Nat.ne_of_lt (bA.ext hcur).lt; have nA' := (Nat.ne_of_lt (bA.ext hcur).lt).symm; have nB := Nat.ne_of_lt (bB.ext hcur).lt; have nB' := (Nat.ne_of_lt (bB.ext hcur).lt).symm; (first | (replace gA := gA.ext hx8; have gAc := fun o => gA.cell o; have gAf := fun o => gA.frozen o; have lG := gA.lt) | (have gA := Blk.ext (Blk.new _ 46 #[.int .i64 0, .int .i64 0, .int .i64 0, .int .i64 0]) hx8; have gAc := fun o => gA.cell o; have gAf := fun o => gA.frozen o; have lG := gA.lt) | skip)))
    all_goals
      go_wp2_with fail
      go_meet
      case rel => first | (with_reducible exact OneSpan.new (x := ⟨⟨m0, m1⟩, ⟨m2, m3⟩⟩) hcur) | (with_reducible exact OneSpan.old (x := ⟨⟨m0, m1⟩, ⟨m2, m3⟩⟩) hcur (by omega) gA)
  case rest =>
  obtain ⟨wA, rfl⟩ : ∃ W, W = wc := ⟨_, rfl⟩
  obtain ⟨b, rfl, hVb, hVc, bW⟩ := hcut
  replace bW : Blk wA b 46 #[.int .i64 m0, .int .i64 m1, .int .i64 m2, .int .i64 m3] := bW
  replace hx := hx.trans hVc
  replace bA := bA.ext hVc
  replace bB := bB.ext hVc
  replace bR := bR.ext hVc
  have cbA_16 := fun o => bA.cell o
  have cbB_17 := fun o => bB.cell o
  have cbR_18 := fun o => bR.cell o
  have fbR_18 := fun o => bR.frozen o
  have cbA_19 := fun o => bA.cell o
  have cbB_20 := fun o => bB.cell o
  have cbR_21 := fun o => bR.cell o
  have fbR_21 := fun o => bR.frozen o
  have cbW_22 := fun o => bW.cell o
  go_wp2_with fail
  refine (HK.out _).mono ?_
  rintro e w3 ⟨rfl, hx3⟩
  replace hx := hx.trans hx3
  replace bA := bA.ext hx3
  replace bB := bB.ext hx3
  replace bR := bR.ext hx3
  replace bW := bW.ext hx3
  have cbA_23 := fun o => bA.cell o
  have cbB_24 := fun o => bB.cell o
  have cbR_25 := fun o => bR.cell o
  have fbR_25 := fun o => bR.frozen o
  have cbW_26 := fun o => bW.cell o
  cases o3
  · have H := Lib.hid (HNo1.out (by simp))
    go_wp2
    have bF := ((((bR.set_ 0 (.int .i64 0)).set_ 1 (.int .i64 0)).set_ 2 (.int .i64 0)).set_ 3 (.int .i64 0))
    have cF := fun o => bF.cell o
    clear cR
    refine bodyPost_ret (v := .tuple #[.agg #[.int .i64 0, .int .i64 0, .int .i64 0, .int .i64 0], .bool false]) (by first | (simp [results, Tryz.results107, go_sem]; done) | simp [results, Tryz.results107, go_sem, cF]) rfl ?_
    exact ⟨by rw [H.out]; rfl, by first | (with_reducible exact hx) | exact ext_set4 hx (by omega) _ _ _ _⟩
  have H := Lib.hid (HYes1.out rfl)
  go_wp2
  have bF := ((((bR.set_ 0 (.int .i64 m0)).set_ 1 (.int .i64 m1)).set_ 2 (.int .i64 m2)).set_ 3 (.int .i64 m3))
  have cF := fun o => bF.cell o
  clear cR
  refine bodyPost_ret (v := .tuple #[.agg #[.int .i64 m0, .int .i64 m1, .int .i64 m2, .int .i64 m3], .bool true]) (by first | (simp [results, Tryz.results107, go_sem]; done) | simp [results, Tryz.results107, go_sem, cF]) rfl ?_
  exact ⟨by rw [H.out], by first | (with_reducible exact hx) | exact ext_set4 hx (by omega) _ _ _ _⟩
set_option maxHeartbeats 32000000 in
theorem implAdmitAll_ok (r : Room) (A0 A6 A7 : Option Addr) (c0 c6 c7 : Nat) (A : Option Addr) (n c : Nat) (E : List Half) (An : Option Addr) (m cn : Nat) (ss : List Spot) (w : World) (hv : RoomV r) (ha : RoomHere w r A0 A6 A7 c0 c6 c7) (hn : E.length = n) (hr : Row w A (ints (flat Half.ints E))) (hE : E.all halfOk = true) (hle : n ≤ 40) (hm : ss.length = m) (hs : Row w An (ints (flat Spot.ints ss))) (hS : ∀ s ∈ ss, SpotS s) (hml : m ≤ 1000) :
    Calls Tryz.prog 81 #[.agg #[.slice A0 r.Map.length c0, .int .i64 r.Div, .int .i64 r.Bx, .int .i64 r.By, .int .i64 r.Low, .int .i64 r.High, .slice A6 r.Noise.length c6, .slice A7 r.Limits.length c7], .agg #[.slice A n c], .slice An m cn] w (SpanMade (admAll (dynOf r) E ss) w) := by
  have HAd := Lib.hid (fun s w ha hr hs => implAdmit_ok r A0 A6 A7 c0 c6 c7 A n c E s w hv ha hn hr hE hle hs)
  have HA := Lib.hid ha
  have HR := Lib.hid hr
  have HS := Lib.hid hs
  have HM := Lib.hid hm
  have HP : Hid (∀ k (hk : k < ss.length), SpotS ss[k] ∧ ss.getD k ⟨0, 0, 0⟩ = ss[k]) := fun k hk => ⟨hS _ (List.getElem_mem hk), by rw [List.getD_eq_getElem?_getD, List.getElem?_eq_getElem hk]; rfl⟩
  have HNone := Lib.hid (fun k h hk => admAll_none (d := dynOf r) (E := E) (ss := ss) (k := k) h hk)
  have HSome := Lib.hid (fun w h => admAll_some (d := dynOf r) (E := E) (ss := ss) (w := w) h)
  have H0 : Hid (allTo (dynOf r) E ss 0 = some ⟨⟨0, 0⟩, ⟨0, 0⟩⟩) := rfl
  have HIn := Lib.hid (fun k w h => allTo_in (d := dynOf r) (E := E) (ss := ss) k w h)
  have hx : Ext w ((((w.alloc (.cells #[.slice A0 r.Map.length c0, .int .i64 r.Div, .int .i64 r.Bx, .int .i64 r.By, .int .i64 r.Low, .int .i64 r.High, .slice A6 r.Noise.length c6, .slice A7 r.Limits.length c7] 28)).alloc (.cells #[.slice A n c] 26)).alloc (.cells #[.int .i64 0, .int .i64 0, .int .i64 0, .int .i64 0] 46)).alloc (.cells #[.int .i64 0, .int .i64 0, .int .i64 0, .int .i64 0] 46)) := by repeat (first | exact Ext.refl _ | refine Ext.alloc ?_ _)
  have bM : Blk ((((w.alloc (.cells #[.slice A0 r.Map.length c0, .int .i64 r.Div, .int .i64 r.Bx, .int .i64 r.By, .int .i64 r.Low, .int .i64 r.High, .slice A6 r.Noise.length c6, .slice A7 r.Limits.length c7] 28)).alloc (.cells #[.slice A n c] 26)).alloc (.cells #[.int .i64 0, .int .i64 0, .int .i64 0, .int .i64 0] 46)).alloc (.cells #[.int .i64 0, .int .i64 0, .int .i64 0, .int .i64 0] 46)) (w.heap.size) 28 #[.slice A0 r.Map.length c0, .int .i64 r.Div, .int .i64 r.Bx, .int .i64 r.By, .int .i64 r.Low, .int .i64 r.High, .slice A6 r.Noise.length c6, .slice A7 r.Limits.length c7] := by
    have q := Blk.new w 28 #[.slice A0 r.Map.length c0, .int .i64 r.Div, .int .i64 r.Bx, .int .i64 r.By, .int .i64 r.Low, .int .i64 r.High, .slice A6 r.Noise.length c6, .slice A7 r.Limits.length c7]
    replace q := q.alloc (.cells #[.slice A n c] 26)
    replace q := q.alloc (.cells #[.int .i64 0, .int .i64 0, .int .i64 0, .int .i64 0] 46)
    replace q := q.alloc (.cells #[.int .i64 0, .int .i64 0, .int .i64 0, .int .i64 0] 46)
    simpa only [World.size_alloc] using q
  have bP : Blk ((((w.alloc (.cells #[.slice A0 r.Map.length c0, .int .i64 r.Div, .int .i64 r.Bx, .int .i64 r.By, .int .i64 r.Low, .int .i64 r.High, .slice A6 r.Noise.length c6, .slice A7 r.Limits.length c7] 28)).alloc (.cells #[.slice A n c] 26)).alloc (.cells #[.int .i64 0, .int .i64 0, .int .i64 0, .int .i64 0] 46)).alloc (.cells #[.int .i64 0, .int .i64 0, .int .i64 0, .int .i64 0] 46)) (w.heap.size + 1) 26 #[.slice A n c] := by
    have q := Blk.new (w.alloc (.cells #[.slice A0 r.Map.length c0, .int .i64 r.Div, .int .i64 r.Bx, .int .i64 r.By, .int .i64 r.Low, .int .i64 r.High, .slice A6 r.Noise.length c6, .slice A7 r.Limits.length c7] 28)) 26 #[.slice A n c]
    replace q := q.alloc (.cells #[.int .i64 0, .int .i64 0, .int .i64 0, .int .i64 0] 46)
    replace q := q.alloc (.cells #[.int .i64 0, .int .i64 0, .int .i64 0, .int .i64 0] 46)
    simpa only [World.size_alloc] using q
  have bR : Blk ((((w.alloc (.cells #[.slice A0 r.Map.length c0, .int .i64 r.Div, .int .i64 r.Bx, .int .i64 r.By, .int .i64 r.Low, .int .i64 r.High, .slice A6 r.Noise.length c6, .slice A7 r.Limits.length c7] 28)).alloc (.cells #[.slice A n c] 26)).alloc (.cells #[.int .i64 0, .int .i64 0, .int .i64 0, .int .i64 0] 46)).alloc (.cells #[.int .i64 0, .int .i64 0, .int .i64 0, .int .i64 0] 46)) (w.heap.size + 1 + 1) 46 #[.int .i64 0, .int .i64 0, .int .i64 0, .int .i64 0] := by
    have q := Blk.new ((w.alloc (.cells #[.slice A0 r.Map.length c0, .int .i64 r.Div, .int .i64 r.Bx, .int .i64 r.By, .int .i64 r.Low, .int .i64 r.High, .slice A6 r.Noise.length c6, .slice A7 r.Limits.length c7] 28)).alloc (.cells #[.slice A n c] 26)) 46 #[.int .i64 0, .int .i64 0, .int .i64 0, .int .i64 0]
    replace q := q.alloc (.cells #[.int .i64 0, .int .i64 0, .int .i64 0, .int .i64 0] 46)
    simpa only [World.size_alloc] using q
  have bW : Blk ((((w.alloc (.cells #[.slice A0 r.Map.length c0, .int .i64 r.Div, .int .i64 r.Bx, .int .i64 r.By, .int .i64 r.Low, .int .i64 r.High, .slice A6 r.Noise.length c6, .slice A7 r.Limits.length c7] 28)).alloc (.cells #[.slice A n c] 26)).alloc (.cells #[.int .i64 0, .int .i64 0, .int .i64 0, .int .i64 0] 46)).alloc (.cells #[.int .i64 0, .int .i64 0, .int .i64 0, .int .i64 0] 46)) (w.heap.size + 1 + 1 + 1) 46 #[.int .i64 0, .int .i64 0, .int .i64 0, .int .i64 0] := by
    have q := Blk.new (((w.alloc (.cells #[.slice A0 r.Map.length c0, .int .i64 r.Div, .int .i64 r.Bx, .int .i64 r.By, .int .i64 r.Low, .int .i64 r.High, .slice A6 r.Noise.length c6, .slice A7 r.Limits.length c7] 28)).alloc (.cells #[.slice A n c] 26)).alloc (.cells #[.int .i64 0, .int .i64 0, .int .i64 0, .int .i64 0] 46)) 46 #[.int .i64 0, .int .i64 0, .int .i64 0, .int .i64 0]
    simpa only [World.size_alloc] using q
  clear hv ha hn hr hE hm hs hS
  generalize admAll (dynOf r) E ss = AR at *
  go_enter Tryz.func81, Tryz.ntmps81
  go_wp2
  go_loopw [15] (fun i wr => ∃ (k : Nat) (sp : Span), k ≤ m ∧ i = .int .i64 k ∧ allTo (dynOf r) E ss k = some sp ∧ Ext w wr ∧ Blk wr w.heap.size 28 #[.slice A0 r.Map.length c0, .int .i64 r.Div, .int .i64 r.Bx, .int .i64 r.By, .int .i64 r.Low, .int .i64 r.High, .slice A6 r.Noise.length c6, .slice A7 r.Limits.length c7] ∧ Blk wr (w.heap.size + 1) 26 #[.slice A n c] ∧ Blk wr (w.heap.size + 1 + 1) 46 #[.int .i64 0, .int .i64 0, .int .i64 0, .int .i64 0] ∧ Blk wr (w.heap.size + 1 + 1 + 1) 46 #[.int .i64 sp.Low.N, .int .i64 sp.Low.D, .int .i64 sp.High.N, .int .i64 sp.High.D]) (fun i _ => m - (intOf i).toNat)
  case atStart => exact ⟨0, _, Nat.zero_le _, rfl, H0.out, hx, bM, bP, bR, bW⟩
  case round =>
  clear hx bM bP bR bW
  obtain ⟨k, sp, hk, rfl, hto, hx, bM, bP, bR, bW⟩ := hrel
  have Hto := Lib.hid hto
  have HAI := Lib.hid (HIn.out k sp hto)
  clear hto
  obtain ⟨⟨a0, a1⟩, ⟨a2, a3⟩⟩ := sp
  dsimp only at *
  by_cases hlt : k < m
  rotate_left
  · obtain rfl : k = m := by omega
    have H := Lib.hid (HSome.out _ (by rw [HM.out]; exact Hto.out))
    have cR := fun o => bR.cell o
    have cbR_27 := fun o => bR.cell o
    have fbR_27 := fun o => bR.frozen o
    have cbW_28 := fun o => bW.cell o
    go_wp2
    have bF := ((((bR.set_ 0 (.int .i64 a0)).set_ 1 (.int .i64 a1)).set_ 2 (.int .i64 a2)).set_ 3 (.int .i64 a3))
    have cF := fun o => bF.cell o
    clear cR
    refine bodyPost_ret (v := .tuple #[.agg #[.int .i64 a0, .int .i64 a1, .int .i64 a2, .int .i64 a3], .bool true]) (by first | (simp [results, Tryz.results81, go_sem]; done) | simp [results, Tryz.results81, go_sem, cF]) rfl ?_
    exact ⟨by rw [H.out], by first | (with_reducible exact hx) | exact ext_set4 hx (by omega) _ _ _ _⟩
  have hkl : k < ss.length := by rw [HM.out]; exact hlt
  obtain ⟨b1, o1, rfl, hb1, s0, s1, s2⟩ := (HS.out.ext hx).Spot (k := k) hkl
  obtain ⟨hSS, hgd⟩ := HP.out k hkl
  obtain ⟨s, hs_⟩ : ∃ s, ss[k]'hkl = s := ⟨_, rfl⟩
  rw [hs_] at s0 s1 s2 hSS hgd
  clear hs_ hkl
  have HN := Lib.hid (fun h => HNone.out (k + 1) (allTo_no Hto.out (by rw [hgd]; exact h)) (by rw [HM.out]; omega))
  have HO : Hid (k = 0 → (admitR (dynOf r) E s).2 = true → allTo (dynOf r) E ss (k + 1) = some (admitR (dynOf r) E s).1) := fun h0 h => by
    subst h0
    have q := allTo_one Hto.out (by rw [hgd]; exact h)
    rw [hgd] at q
    exact q
  have HY : Hid (k ≠ 0 → (admitR (dynOf r) E s).2 = true → (meetS ⟨⟨a0, a1⟩, ⟨a2, a3⟩⟩ (admitR (dynOf r) E s).1).2 = true → allTo (dynOf r) E ss (k + 1) = some (meetS ⟨⟨a0, a1⟩, ⟨a2, a3⟩⟩ (admitR (dynOf r) E s).1).1) := fun h0 h h2 => by
    have q := allTo_yes Hto.out h0 (by rw [hgd]; exact h) (by rw [hgd]; exact h2)
    rw [hgd] at q
    exact q
  have HG : Hid (k ≠ 0 → (admitR (dynOf r) E s).2 = true → (meetS ⟨⟨a0, a1⟩, ⟨a2, a3⟩⟩ (admitR (dynOf r) E s).1).2 = false → AR = (zeroSpan, false)) := fun h0 h h2 => HNone.out (k + 1) (allTo_gap Hto.out h0 (by rw [hgd]; exact h) (by rw [hgd]; exact h2)) (by rw [HM.out]; omega)
  have HSp : Hid ((admitR (dynOf r) E s).2 = true → spanOk (admitR (dynOf r) E s).1 = true) := fun h => admit_span h
  have HC := Lib.hid (fun w ha hr => HAd.out s w ha hr hSS)
  clear hSS hgd
  generalize admitR (dynOf r) E s = V at *
  obtain ⟨⟨⟨v0, v1⟩, ⟨v2, v3⟩⟩, ok⟩ := V
  unfold SpanMade at HC
  dsimp only at *
  have bS := Blk.new wr 30 #[.int .i64 s.X, .int .i64 s.Y, .int .i64 s.D]
  have hA := (Ext.refl wr).alloc (.cells #[.int .i64 s.X, .int .i64 s.Y, .int .i64 s.D] 30)
  have hsw := hx.size
  have hlW := bW.lt
  replace hx := hx.trans hA
  replace bM := bM.ext hA
  replace bP := bP.ext hA
  replace bR := bR.ext hA
  replace bW := bW.ext hA
  have cbM_29 := fun o => bM.cell o
  have cbP_30 := fun o => bP.cell o
  have cbR_31 := fun o => bR.cell o
  have fbR_31 := fun o => bR.frozen o
  have cbW_32 := fun o => bW.cell o
  have fbW_32 := fun o => bW.frozen o
  have cR := fun o => bR.cell o
  have cbM_33 := fun o => bM.cell o
  have cbP_34 := fun o => bP.cell o
  have cbR_35 := fun o => bR.cell o
  have fbR_35 := fun o => bR.frozen o
  have cbW_36 := fun o => bW.cell o
  have fbW_36 := fun o => bW.frozen o
  have cbS_37 := fun o => bS.cell o
  go_wp2_with fail
  refine (HC.out _ (HA.out.ext hx) (HR.out.ext hx)).mono ?_
  rintro e w2 ⟨rfl, hx2⟩
  replace hx := hx.trans hx2
  replace bM := bM.ext hx2
  replace bP := bP.ext hx2
  replace bR := bR.ext hx2
  replace bW := bW.ext hx2
  replace bS := bS.ext hx2
  have cbM_38 := fun o => bM.cell o
  have cbP_39 := fun o => bP.cell o
  have cbR_40 := fun o => bR.cell o
  have fbR_40 := fun o => bR.frozen o
  have cbW_41 := fun o => bW.cell o
  have fbW_41 := fun o => bW.frozen o
  have cbS_42 := fun o => bS.cell o
  have hs2 := hx2.size
  simp only [World.size_alloc] at hs2
  have bV := Blk.new w2 46 #[.int .i64 v0, .int .i64 v1, .int .i64 v2, .int .i64 v3]
  have ha2 := (Ext.refl w2).alloc (.cells #[.int .i64 v0, .int .i64 v1, .int .i64 v2, .int .i64 v3] 46)
  replace hx := hx.trans ha2
  replace bM := bM.ext ha2
  replace bP := bP.ext ha2
  replace bR := bR.ext ha2
  replace bW := bW.ext ha2
  replace bS := bS.ext ha2
  have cbM_43 := fun o => bM.cell o
  have cbP_44 := fun o => bP.cell o
  have cbR_45 := fun o => bR.cell o
  have fbR_45 := fun o => bR.frozen o
  have cbW_46 := fun o => bW.cell o
  have fbW_46 := fun o => bW.frozen o
  have cbS_47 := fun o => bS.cell o
  have cbM_48 := fun o => bM.cell o
  have cbP_49 := fun o => bP.cell o
  have cbR_50 := fun o => bR.cell o
  have fbR_50 := fun o => bR.frozen o
  have cbW_51 := fun o => bW.cell o
  have fbW_51 := fun o => bW.frozen o
  have cbS_52 := fun o => bS.cell o
  have cbV_53 := fun o => bV.cell o
  have fbV_53 := fun o => bV.frozen o
  cases ok
  · have H := Lib.hid (HN.out rfl)
    go_wp2
    have bF := ((((bR.set_ 0 (.int .i64 0)).set_ 1 (.int .i64 0)).set_ 2 (.int .i64 0)).set_ 3 (.int .i64 0))
    have cF := fun o => bF.cell o
    clear cR
    refine bodyPost_ret (v := .tuple #[.agg #[.int .i64 0, .int .i64 0, .int .i64 0, .int .i64 0], .bool false]) (by first | (simp [results, Tryz.results81, go_sem]; done) | simp [results, Tryz.results81, go_sem, cF]) rfl ?_
    exact ⟨by rw [H.out]; rfl, by first | (with_reducible exact hx) | exact ext_set4 hx (by omega) _ _ _ _⟩
  obtain ⟨⟨k0, k1⟩, ⟨k2, k3⟩⟩ := span_I (HSp.out rfl)
  simp only at k0 k1 k2 k3
  by_cases hz : k = 0
  · have HK := Lib.hid (HO.out hz rfl)
    have hz1 : ¬ (0 : Int) < (k : Int) := by omega
    have hz2 : decide ((0 : Int) < (k : Int)) = false := decide_eq_false hz1
    clear hz
    have eW := bW.set4 (.int .i64 v0) (.int .i64 v1) (.int .i64 v2) (.int .i64 v3)
    have eM := bM.far4 (show w.heap.size ≠ w.heap.size + 1 + 1 + 1 by omega) (.int .i64 v0) (.int .i64 v1) (.int .i64 v2) (.int .i64 v3)
    have eP := bP.far4 (show w.heap.size + 1 ≠ w.heap.size + 1 + 1 + 1 by omega) (.int .i64 v0) (.int .i64 v1) (.int .i64 v2) (.int .i64 v3)
    have eR := bR.far4 (show w.heap.size + 1 + 1 ≠ w.heap.size + 1 + 1 + 1 by omega) (.int .i64 v0) (.int .i64 v1) (.int .i64 v2) (.int .i64 v3)
    have hxF := ext_set4 hx (g := w.heap.size + 1 + 1 + 1) (by omega) (.int .i64 v0) (.int .i64 v1) (.int .i64 v2) (.int .i64 v3)
    go_wp2
    go_roundw
    case rel => exact ⟨k + 1, ⟨⟨v0, v1⟩, ⟨v2, v3⟩⟩, by omega, by go_num, HK.out, hxF, eM, eP, eR, eW⟩
    case measure => simp [intOf]; omega
  have hz1 : (0 : Int) < (k : Int) := by omega
  have hz2 : decide ((0 : Int) < (k : Int)) = true := decide_eq_true hz1
  obtain ⟨⟨l0, l1⟩, ⟨l2, l3⟩⟩ := span_I (HAI.out.ok (by omega))
  simp only at l0 l1 l2 l3
  have HMt := Lib.hid (fun w => implMeetSpans_any a0 a1 a2 a3 v0 v1 v2 v3 w l0 l1 l2 l3 k0 k1 k2 k3)
  have HYz := Lib.hid (fun h => HY.out hz rfl h)
  have HGz := Lib.hid (fun h => HG.out hz rfl h)
  clear hz HY HG HO
  generalize meetS ⟨⟨a0, a1⟩, ⟨a2, a3⟩⟩ ⟨⟨v0, v1⟩, ⟨v2, v3⟩⟩ = Q at *
  obtain ⟨⟨⟨m0, m1⟩, ⟨m2, m3⟩⟩, ok⟩ := Q
  unfold SpanMade at HMt
  dsimp only at *
  clear k0 k1 k2 k3 l0 l1 l2 l3
  go_wp2_with fail
  refine (HMt.out _).mono ?_
  rintro e w3 ⟨rfl, hx3⟩
  replace hx := hx.trans hx3
  replace bM := bM.ext hx3
  replace bP := bP.ext hx3
  replace bR := bR.ext hx3
  replace bW := bW.ext hx3
  replace bS := bS.ext hx3
  replace bV := bV.ext hx3
  have cbM_54 := fun o => bM.cell o
  have cbP_55 := fun o => bP.cell o
  have cbR_56 := fun o => bR.cell o
  have fbR_56 := fun o => bR.frozen o
  have cbW_57 := fun o => bW.cell o
  have fbW_57 := fun o => bW.frozen o
  have cbS_58 := fun o => bS.cell o
  have cbV_59 := fun o => bV.cell o
  have fbV_59 := fun o => bV.frozen o
  have hs3 := hx3.size
  simp only [World.size_alloc] at hs3
  have hlV := bV.lt
  cases ok
  · have H := Lib.hid (HGz.out rfl)
    go_wp2
    have bG := bR.far4 (show w.heap.size + 1 + 1 ≠ w2.heap.size by omega) (.int .i64 m0) (.int .i64 m1) (.int .i64 m2) (.int .i64 m3)
    have hxG := ext_set4 hx (g := w2.heap.size) (by omega) (.int .i64 m0) (.int .i64 m1) (.int .i64 m2) (.int .i64 m3)
    have bF := ((((bG.set_ 0 (.int .i64 0)).set_ 1 (.int .i64 0)).set_ 2 (.int .i64 0)).set_ 3 (.int .i64 0))
    have cF := fun o => bF.cell o
    clear cR
    refine bodyPost_ret (v := .tuple #[.agg #[.int .i64 0, .int .i64 0, .int .i64 0, .int .i64 0], .bool false]) (by first | (simp [results, Tryz.results81, go_sem]; done) | simp [results, Tryz.results81, go_sem, cF]) rfl ?_
    exact ⟨by rw [H.out]; rfl, by first | (with_reducible exact hxG) | exact ext_set4 hxG (by omega) _ _ _ _⟩
  have HK := Lib.hid (HYz.out rfl)
  have n1 : w.heap.size + 1 + 1 + 1 ≠ w2.heap.size := by omega
  have eW := (bW.far4 n1 (.int .i64 m0) (.int .i64 m1) (.int .i64 m2) (.int .i64 m3)).set4 (.int .i64 m0) (.int .i64 m1) (.int .i64 m2) (.int .i64 m3)
  have eM := (bM.far4 (show w.heap.size ≠ w2.heap.size by omega) (.int .i64 m0) (.int .i64 m1) (.int .i64 m2) (.int .i64 m3)).far4 (show w.heap.size ≠ w.heap.size + 1 + 1 + 1 by omega) (.int .i64 m0) (.int .i64 m1) (.int .i64 m2) (.int .i64 m3)
  have eP := (bP.far4 (show w.heap.size + 1 ≠ w2.heap.size by omega) (.int .i64 m0) (.int .i64 m1) (.int .i64 m2) (.int .i64 m3)).far4 (show w.heap.size + 1 ≠ w.heap.size + 1 + 1 + 1 by omega) (.int .i64 m0) (.int .i64 m1) (.int .i64 m2) (.int .i64 m3)
  have eR := (bR.far4 (show w.heap.size + 1 + 1 ≠ w2.heap.size by omega) (.int .i64 m0) (.int .i64 m1) (.int .i64 m2) (.int .i64 m3)).far4 (show w.heap.size + 1 + 1 ≠ w.heap.size + 1 + 1 + 1 by omega) (.int .i64 m0) (.int .i64 m1) (.int .i64 m2) (.int .i64 m3)
  have hxF := ext_set4 (ext_set4 hx (g := w2.heap.size) (by omega) (.int .i64 m0) (.int .i64 m1) (.int .i64 m2) (.int .i64 m3)) (g := w.heap.size + 1 + 1 + 1) (by omega) (.int .i64 m0) (.int .i64 m1) (.int .i64 m2) (.int .i64 m3)
  go_wp2
  go_roundw
  case rel => exact ⟨k + 1, ⟨⟨m0, m1⟩, ⟨m2, m3⟩⟩, by omega, by go_num, HK.out, hxF, eM, eP, eR, eW⟩
  case measure => simp [intOf]; omega
set_option maxHeartbeats 32000000 in
theorem implSpanOfCell_ok (r : Room) (A0 A6 A7 : Option Addr) (c0 c6 c7 : Nat) (A : Option Addr) (n c : Nat) (P : List Half) (A3 : Option Addr) (n3 c3 : Nat) (E : List Half) (t : Table) (A5 : Option Addr) (n5 c5 : Nat) (i j : Int) (w : World) (hv : RoomV r) (ha : RoomHere w r A0 A6 A7 c0 c6 c7) (hn : P.length = n) (hr : Row w A (ints (flat Half.ints P))) (hP : regOk P = true) (hn3 : E.length = n3) (hr3 : Row w A3 (ints (flat Half.ints E))) (hE : regOk E = true) (hg : gridOk t = true) (hi : 0 ≤ i ∧ i < t.Nx) (hj : 0 ≤ j ∧ j < t.Ny) :
    Calls Tryz.prog 40 #[.agg #[.slice A0 r.Map.length c0, .int .i64 r.Div, .int .i64 r.Bx, .int .i64 r.By, .int .i64 r.Low, .int .i64 r.High, .slice A6 r.Noise.length c6, .slice A7 r.Limits.length c7], .agg #[.slice A n c], .agg #[.slice A3 n3 c3], .agg #[.int .i64 t.X0, .int .i64 t.Y0, .int .i64 t.Step, .int .i64 t.Nx, .int .i64 t.Ny, .slice A5 n5 c5], .int .i64 i, .int .i64 j] w (SpanMade (cellR r P E t i j) w) := by
  have HCo := Lib.hid (fun w => implCornersOfCell_ok t A5 n5 c5 i j w (cell_b hg hi hj) (grid_b hg).st)
  have HHo := Lib.hid (fun s w hr hk => implHolds_ok A n c P s w hn hr (regOk_all hP) (by have := regOk_len hP; unfold maxLen; omega) hk)
  have HAA := Lib.hid (fun An cn w ha hr3 hs => implAdmitAll_ok r A0 A6 A7 c0 c6 c7 A3 n3 c3 E An 4 cn (cellSpots t i j) w hv ha hn3 hr3 (regOk_all hE) (by have := regOk_len hE; omega) rfl hs (fun s h => (cellSpots_ok hg hi hj s h).2.2) (by omega))
  have HP : Hid (∀ k (hk : k < (cellSpots t i j).length), spotOk (cellSpots t i j)[k] = true) := fun k hk => (cellSpots_ok hg hi hj _ (List.getElem_mem hk)).2.1
  have HNo := Lib.hid (fun h => cellR_no (r := r) (P := P) (E := E) (t := t) (i := i) (j := j) h)
  have HYes := Lib.hid (fun h => cellR_yes (r := r) (P := P) (E := E) (t := t) (i := i) (j := j) h)
  have HA := Lib.hid ha
  have HR := Lib.hid hr
  have HR3 := Lib.hid hr3
  have HL : Hid ((cellSpots t i j).length = 4) := rfl
  have hx : Ext w (((((w.alloc (.cells #[.slice A0 r.Map.length c0, .int .i64 r.Div, .int .i64 r.Bx, .int .i64 r.By, .int .i64 r.Low, .int .i64 r.High, .slice A6 r.Noise.length c6, .slice A7 r.Limits.length c7] 28)).alloc (.cells #[.slice A n c] 26)).alloc (.cells #[.slice A3 n3 c3] 26)).alloc (.cells #[.int .i64 t.X0, .int .i64 t.Y0, .int .i64 t.Step, .int .i64 t.Nx, .int .i64 t.Ny, .slice A5 n5 c5] 34)).alloc (.cells #[.int .i64 0, .int .i64 0, .int .i64 0, .int .i64 0] 46)) := by repeat (first | exact Ext.refl _ | refine Ext.alloc ?_ _)
  have bM : Blk (((((w.alloc (.cells #[.slice A0 r.Map.length c0, .int .i64 r.Div, .int .i64 r.Bx, .int .i64 r.By, .int .i64 r.Low, .int .i64 r.High, .slice A6 r.Noise.length c6, .slice A7 r.Limits.length c7] 28)).alloc (.cells #[.slice A n c] 26)).alloc (.cells #[.slice A3 n3 c3] 26)).alloc (.cells #[.int .i64 t.X0, .int .i64 t.Y0, .int .i64 t.Step, .int .i64 t.Nx, .int .i64 t.Ny, .slice A5 n5 c5] 34)).alloc (.cells #[.int .i64 0, .int .i64 0, .int .i64 0, .int .i64 0] 46)) (w.heap.size) 28 #[.slice A0 r.Map.length c0, .int .i64 r.Div, .int .i64 r.Bx, .int .i64 r.By, .int .i64 r.Low, .int .i64 r.High, .slice A6 r.Noise.length c6, .slice A7 r.Limits.length c7] := by
    have q := Blk.new w 28 #[.slice A0 r.Map.length c0, .int .i64 r.Div, .int .i64 r.Bx, .int .i64 r.By, .int .i64 r.Low, .int .i64 r.High, .slice A6 r.Noise.length c6, .slice A7 r.Limits.length c7]
    replace q := q.alloc (.cells #[.slice A n c] 26)
    replace q := q.alloc (.cells #[.slice A3 n3 c3] 26)
    replace q := q.alloc (.cells #[.int .i64 t.X0, .int .i64 t.Y0, .int .i64 t.Step, .int .i64 t.Nx, .int .i64 t.Ny, .slice A5 n5 c5] 34)
    replace q := q.alloc (.cells #[.int .i64 0, .int .i64 0, .int .i64 0, .int .i64 0] 46)
    simpa only [World.size_alloc] using q
  have bP : Blk (((((w.alloc (.cells #[.slice A0 r.Map.length c0, .int .i64 r.Div, .int .i64 r.Bx, .int .i64 r.By, .int .i64 r.Low, .int .i64 r.High, .slice A6 r.Noise.length c6, .slice A7 r.Limits.length c7] 28)).alloc (.cells #[.slice A n c] 26)).alloc (.cells #[.slice A3 n3 c3] 26)).alloc (.cells #[.int .i64 t.X0, .int .i64 t.Y0, .int .i64 t.Step, .int .i64 t.Nx, .int .i64 t.Ny, .slice A5 n5 c5] 34)).alloc (.cells #[.int .i64 0, .int .i64 0, .int .i64 0, .int .i64 0] 46)) (w.heap.size + 1) 26 #[.slice A n c] := by
    have q := Blk.new (w.alloc (.cells #[.slice A0 r.Map.length c0, .int .i64 r.Div, .int .i64 r.Bx, .int .i64 r.By, .int .i64 r.Low, .int .i64 r.High, .slice A6 r.Noise.length c6, .slice A7 r.Limits.length c7] 28)) 26 #[.slice A n c]
    replace q := q.alloc (.cells #[.slice A3 n3 c3] 26)
    replace q := q.alloc (.cells #[.int .i64 t.X0, .int .i64 t.Y0, .int .i64 t.Step, .int .i64 t.Nx, .int .i64 t.Ny, .slice A5 n5 c5] 34)
    replace q := q.alloc (.cells #[.int .i64 0, .int .i64 0, .int .i64 0, .int .i64 0] 46)
    simpa only [World.size_alloc] using q
  have bE : Blk (((((w.alloc (.cells #[.slice A0 r.Map.length c0, .int .i64 r.Div, .int .i64 r.Bx, .int .i64 r.By, .int .i64 r.Low, .int .i64 r.High, .slice A6 r.Noise.length c6, .slice A7 r.Limits.length c7] 28)).alloc (.cells #[.slice A n c] 26)).alloc (.cells #[.slice A3 n3 c3] 26)).alloc (.cells #[.int .i64 t.X0, .int .i64 t.Y0, .int .i64 t.Step, .int .i64 t.Nx, .int .i64 t.Ny, .slice A5 n5 c5] 34)).alloc (.cells #[.int .i64 0, .int .i64 0, .int .i64 0, .int .i64 0] 46)) (w.heap.size + 1 + 1) 26 #[.slice A3 n3 c3] := by
    have q := Blk.new ((w.alloc (.cells #[.slice A0 r.Map.length c0, .int .i64 r.Div, .int .i64 r.Bx, .int .i64 r.By, .int .i64 r.Low, .int .i64 r.High, .slice A6 r.Noise.length c6, .slice A7 r.Limits.length c7] 28)).alloc (.cells #[.slice A n c] 26)) 26 #[.slice A3 n3 c3]
    replace q := q.alloc (.cells #[.int .i64 t.X0, .int .i64 t.Y0, .int .i64 t.Step, .int .i64 t.Nx, .int .i64 t.Ny, .slice A5 n5 c5] 34)
    replace q := q.alloc (.cells #[.int .i64 0, .int .i64 0, .int .i64 0, .int .i64 0] 46)
    simpa only [World.size_alloc] using q
  have bT : Blk (((((w.alloc (.cells #[.slice A0 r.Map.length c0, .int .i64 r.Div, .int .i64 r.Bx, .int .i64 r.By, .int .i64 r.Low, .int .i64 r.High, .slice A6 r.Noise.length c6, .slice A7 r.Limits.length c7] 28)).alloc (.cells #[.slice A n c] 26)).alloc (.cells #[.slice A3 n3 c3] 26)).alloc (.cells #[.int .i64 t.X0, .int .i64 t.Y0, .int .i64 t.Step, .int .i64 t.Nx, .int .i64 t.Ny, .slice A5 n5 c5] 34)).alloc (.cells #[.int .i64 0, .int .i64 0, .int .i64 0, .int .i64 0] 46)) (w.heap.size + 1 + 1 + 1) 34 #[.int .i64 t.X0, .int .i64 t.Y0, .int .i64 t.Step, .int .i64 t.Nx, .int .i64 t.Ny, .slice A5 n5 c5] := by
    have q := Blk.new (((w.alloc (.cells #[.slice A0 r.Map.length c0, .int .i64 r.Div, .int .i64 r.Bx, .int .i64 r.By, .int .i64 r.Low, .int .i64 r.High, .slice A6 r.Noise.length c6, .slice A7 r.Limits.length c7] 28)).alloc (.cells #[.slice A n c] 26)).alloc (.cells #[.slice A3 n3 c3] 26)) 34 #[.int .i64 t.X0, .int .i64 t.Y0, .int .i64 t.Step, .int .i64 t.Nx, .int .i64 t.Ny, .slice A5 n5 c5]
    replace q := q.alloc (.cells #[.int .i64 0, .int .i64 0, .int .i64 0, .int .i64 0] 46)
    simpa only [World.size_alloc] using q
  have bR : Blk (((((w.alloc (.cells #[.slice A0 r.Map.length c0, .int .i64 r.Div, .int .i64 r.Bx, .int .i64 r.By, .int .i64 r.Low, .int .i64 r.High, .slice A6 r.Noise.length c6, .slice A7 r.Limits.length c7] 28)).alloc (.cells #[.slice A n c] 26)).alloc (.cells #[.slice A3 n3 c3] 26)).alloc (.cells #[.int .i64 t.X0, .int .i64 t.Y0, .int .i64 t.Step, .int .i64 t.Nx, .int .i64 t.Ny, .slice A5 n5 c5] 34)).alloc (.cells #[.int .i64 0, .int .i64 0, .int .i64 0, .int .i64 0] 46)) (w.heap.size + 1 + 1 + 1 + 1) 46 #[.int .i64 0, .int .i64 0, .int .i64 0, .int .i64 0] := by
    have q := Blk.new ((((w.alloc (.cells #[.slice A0 r.Map.length c0, .int .i64 r.Div, .int .i64 r.Bx, .int .i64 r.By, .int .i64 r.Low, .int .i64 r.High, .slice A6 r.Noise.length c6, .slice A7 r.Limits.length c7] 28)).alloc (.cells #[.slice A n c] 26)).alloc (.cells #[.slice A3 n3 c3] 26)).alloc (.cells #[.int .i64 t.X0, .int .i64 t.Y0, .int .i64 t.Step, .int .i64 t.Nx, .int .i64 t.Ny, .slice A5 n5 c5] 34)) 46 #[.int .i64 0, .int .i64 0, .int .i64 0, .int .i64 0]
    simpa only [World.size_alloc] using q
  clear hv ha hn hr hP hn3 hr3 hE hg hi hj
  generalize cellR r P E t i j = CR at *
  generalize hcs : cellSpots t i j = ss at *
  clear hcs
  have cR := fun o => bR.cell o
  have cbM_60 := fun o => bM.cell o
  have cbP_61 := fun o => bP.cell o
  have cbE_62 := fun o => bE.cell o
  have cbT_63 := fun o => bT.cell o
  have cbR_64 := fun o => bR.cell o
  have fbR_64 := fun o => bR.frozen o
  go_enter Tryz.func40, Tryz.ntmps40
  go_wp2_with fail
  refine (HCo.out _).mono ?_
  rintro e w1 ⟨A1, c1, n1, rfl, hn1, hx1, hown1⟩
  replace hx := hx.trans hx1
  replace bM := bM.ext hx1
  replace bP := bP.ext hx1
  replace bE := bE.ext hx1
  replace bT := bT.ext hx1
  replace bR := bR.ext hx1
  have cbM_65 := fun o => bM.cell o
  have cbP_66 := fun o => bP.cell o
  have cbE_67 := fun o => bE.cell o
  have cbT_68 := fun o => bT.cell o
  have cbR_69 := fun o => bR.cell o
  have fbR_69 := fun o => bR.frozen o
  obtain rfl : n1 = 4 := hn1.trans HL.out
  clear hn1
  have rS : Row w1 A1 (ints (flat Spot.ints ss)) := Row.of_own hown1
  have HSo := Lib.hid (fun V (h : Ext w1 V) => rS.ext h)
  clear rS hown1 bT
  go_wp2
  go_loopw [23] (fun i_ wr => ∃ k : Nat, k ≤ 4 ∧ i_ = .int .i64 k ∧ (ss.take k).all (holdsR P) = true ∧ Ext w wr ∧ Ext w1 wr ∧ Blk wr w.heap.size 28 #[.slice A0 r.Map.length c0, .int .i64 r.Div, .int .i64 r.Bx, .int .i64 r.By, .int .i64 r.Low, .int .i64 r.High, .slice A6 r.Noise.length c6, .slice A7 r.Limits.length c7] ∧ Blk wr (w.heap.size + 1) 26 #[.slice A n c] ∧ Blk wr (w.heap.size + 1 + 1) 26 #[.slice A3 n3 c3] ∧ Blk wr (w.heap.size + 1 + 1 + 1 + 1) 46 #[.int .i64 0, .int .i64 0, .int .i64 0, .int .i64 0]) (fun i_ _ => 4 - (intOf i_).toNat)
  case atStart => exact ⟨0, by omega, rfl, rfl, hx, Ext.refl _, bM, bP, bE, bR⟩
  case round =>
  clear hx bM bP bE bR
  obtain ⟨k, hk, rfl, hall, hx, hz, bM, bP, bE, bR⟩ := hrel
  have Hall := Lib.hid hall
  clear hall
  by_cases hlt : k < 4
  rotate_left
  · obtain rfl : k = 4 := by omega
    have hall2 : ss.all (holdsR P) = true := by
      have h := Hall.out
      rw [List.take_of_length_le (by rw [HL.out]; exact Nat.le_refl _)] at h
      exact h
    have H := Lib.hid (HYes.out hall2)
    clear hall2
    have cR := fun o => bR.cell o
    have cbM_70 := fun o => bM.cell o
    have cbP_71 := fun o => bP.cell o
    have cbE_72 := fun o => bE.cell o
    have cbR_73 := fun o => bR.cell o
    have fbR_73 := fun o => bR.frozen o
    go_wp2_with fail
    refine (HAA.out A1 c1 _ (HA.out.ext hx) (HR3.out.ext hx) (HSo.out _ hz)).mono ?_
    rintro e w3 ⟨rfl, hx3⟩
    have lR := bR.lt
    replace hx := hx.trans hx3
    replace bM := bM.ext hx3
    replace bP := bP.ext hx3
    replace bE := bE.ext hx3
    replace bR := bR.ext hx3
    have cbM_74 := fun o => bM.cell o
    have cbP_75 := fun o => bP.cell o
    have cbE_76 := fun o => bE.cell o
    have cbR_77 := fun o => bR.cell o
    have fbR_77 := fun o => bR.frozen o
    rw [← H.out]
    obtain ⟨⟨⟨m0, m1⟩, ⟨m2, m3⟩⟩, ok⟩ := CR
    dsimp only
    go_wp2
    have bF := bR.set4 (.int .i64 m0) (.int .i64 m1) (.int .i64 m2) (.int .i64 m3)
    have cF := fun o => bF.cell o
    clear cR
    refine bodyPost_ret (v := .tuple #[.agg #[.int .i64 m0, .int .i64 m1, .int .i64 m2, .int .i64 m3], .bool ok]) (by simp [results, Tryz.results40, go_sem, cF]) rfl ?_
    exact ⟨rfl, ext_set4 hx (by omega) _ _ _ _⟩
  have hkl : k < ss.length := by rw [HL.out]; exact hlt
  obtain ⟨b1, o1, rfl, hb1, s0, s1, s2⟩ := (HSo.out _ hz).Spot (k := k) hkl
  have hsk := HP.out k hkl
  have Hs := Lib.hid (all_take_succ (holdsR P) ss k hkl)
  have Hf := Lib.hid (all_false_at (holdsR P) ss k hkl)
  obtain ⟨s, hs_⟩ : ∃ s, ss[k]'hkl = s := ⟨_, rfl⟩
  rw [hs_] at s0 s1 s2 hsk Hs Hf
  clear hs_ hkl
  have HC := Lib.hid (fun w hr => HHo.out s w hr hsk)
  clear hsk
  generalize holdsR P s = o at *
  have bS := Blk.new wr 30 #[.int .i64 s.X, .int .i64 s.Y, .int .i64 s.D]
  have hA := (Ext.refl wr).alloc (.cells #[.int .i64 s.X, .int .i64 s.Y, .int .i64 s.D] 30)
  have hsw := hx.size
  replace hx := hx.trans hA
  replace bM := bM.ext hA
  replace bP := bP.ext hA
  replace bE := bE.ext hA
  replace bR := bR.ext hA
  replace hz := hz.trans hA
  have cbM_78 := fun o => bM.cell o
  have cbP_79 := fun o => bP.cell o
  have cbE_80 := fun o => bE.cell o
  have cbR_81 := fun o => bR.cell o
  have fbR_81 := fun o => bR.frozen o
  have cR := fun o => bR.cell o
  have cbM_82 := fun o => bM.cell o
  have cbP_83 := fun o => bP.cell o
  have cbE_84 := fun o => bE.cell o
  have cbR_85 := fun o => bR.cell o
  have fbR_85 := fun o => bR.frozen o
  have cbS_86 := fun o => bS.cell o
  go_wp2_with fail
  refine (HC.out _ (HR.out.ext hx)).mono ?_
  rintro e w3 ⟨rfl, hx3⟩
  have lR := bR.lt
  replace hx := hx.trans hx3
  replace bM := bM.ext hx3
  replace bP := bP.ext hx3
  replace bE := bE.ext hx3
  replace bR := bR.ext hx3
  replace hz := hz.trans hx3
  replace bS := bS.ext hx3
  have cbM_87 := fun o => bM.cell o
  have cbP_88 := fun o => bP.cell o
  have cbE_89 := fun o => bE.cell o
  have cbR_90 := fun o => bR.cell o
  have fbR_90 := fun o => bR.frozen o
  have cbS_91 := fun o => bS.cell o
  cases o
  · have H := Lib.hid (HNo.out (Hf.out rfl))
    go_wp2
    have bF := ((((bR.set_ 0 (.int .i64 0)).set_ 1 (.int .i64 0)).set_ 2 (.int .i64 0)).set_ 3 (.int .i64 0))
    have cF := fun o => bF.cell o
    clear cR
    refine bodyPost_ret (v := .tuple #[.agg #[.int .i64 0, .int .i64 0, .int .i64 0, .int .i64 0], .bool false]) (by first | (simp [results, Tryz.results40, go_sem]; done) | simp [results, Tryz.results40, go_sem, cF]) rfl ?_
    exact ⟨by rw [H.out]; rfl, by first | (with_reducible exact hx) | exact ext_set4 hx (by omega) _ _ _ _⟩
  have Hn : Hid ((ss.take (k + 1)).all (holdsR P) = true) := Hs.out.trans (by rw [Hall.out]; rfl)
  go_wp2
  go_roundw
  case rel => exact ⟨k + 1, by omega, by go_num, Hn.out, hx, hz, bM, bP, bE, bR⟩
  case measure => simp [intOf]; omega
end Go.Proofs.YtjghabbcjpfjeaaGreatDoor
/- Contracts: a drawn frame of a table; the program's nearest, IsHeld, CellCorners, CellSpan, CoveredCells. (written by tools/mkTe.py) -/
namespace Go.Proofs.YtjghabbcjpfjeaaGreatDoor
open Go.ChangeShapes Go.WideShapes Go.ChangeAt Go.RowKit
set_option linter.unusedVariables false
set_option maxRecDepth 100000

set_option maxHeartbeats 4000000 in
theorem l16Empty_any (w0 : World) (g : Nat) (A : Option Addr) (n c : Nat) (bs : List Int) (w : World) (hn : bs.length = n) (hr : Row w0 A (u8s bs)) (hle : n ≤ 1048576) (hc : Cur w0 w g A n c) :
    Calls Tryz.prog 35 #[.pointer (some ⟨g, 0, none⟩)] w fun e w' => (∃ x0 y0 st nx ny : Int, e = .returned (.agg #[.int .i64 x0, .int .i64 y0, .int .i64 st, .int .i64 nx, .int .i64 ny, .slice none 0 0]) ∧ (-19 ≤ x0 ∧ x0 ≤ 0) ∧ (-19 ≤ y0 ∧ y0 ≤ 0) ∧ (2 ≤ st ∧ st ≤ 6) ∧ (1 ≤ nx ∧ nx ≤ 4) ∧ (1 ≤ ny ∧ ny ≤ 4)) ∧ Cur w0 w' g A n c ∧ Only (some g) w w' := by
  have hc0 := hc.fwd ((Ext.refl w).alloc (.cells #[.int .i64 0, .int .i64 0, .int .i64 0, .int .i64 0, .int .i64 0, .slice none 0 0] 34))
  have b0 := Blk.new w 34 #[.int .i64 0, .int .i64 0, .int .i64 0, .int .i64 0, .int .i64 0, .slice none 0 0]
  have hgl := hc.lt
  have ho0 : Only (some g) w (w.alloc (.cells #[.int .i64 0, .int .i64 0, .int .i64 0, .int .i64 0, .int .i64 0, .slice none 0 0] 34)) := (Only.refl _ w).alloc _
  have hs := hc.ext.size
  go_enter Tryz.func35, Tryz.ntmps35
  go_wp2_with fail
  refine (l01Below_any _ _ _ _ _ bs _ _ hn hr hle hc0 (by simp [I64])).mono ?_
  rintro e w1 ⟨⟨x, rfl, hx0, hx1, _⟩, hc1, ho1⟩
  replace b0 := b0.only ho1 (by omega)
  have hx1 := hx1 (by omega)
  go_wp2_with fail
  refine (l01Below_any _ _ _ _ _ bs _ _ hn hr hle hc1 (by simp [I64])).mono ?_
  rintro e w2 ⟨⟨y, rfl, hy0, hy1, _⟩, hc2, ho2⟩
  replace b0 := b0.only ho2 (by omega)
  have hy1 := hy1 (by omega)
  go_wp2_with fail
  refine (l01Below_any _ _ _ _ _ bs _ _ hn hr hle hc2 (by simp [I64])).mono ?_
  rintro e w3 ⟨⟨z, rfl, hz0, hz1, _⟩, hc3, ho3⟩
  replace b0 := b0.only ho3 (by omega)
  have hz1 := hz1 (by omega)
  go_wp2_with fail
  refine (l01Below_any _ _ _ _ _ bs _ _ hn hr hle hc3 (by simp [I64])).mono ?_
  rintro e w4 ⟨⟨p, rfl, hp0, hp1, _⟩, hc4, ho4⟩
  replace b0 := b0.only ho4 (by omega)
  have hp1 := hp1 (by omega)
  go_wp2_with fail
  refine (l01Below_any _ _ _ _ _ bs _ _ hn hr hle hc4 (by simp [I64])).mono ?_
  rintro e w5 ⟨⟨q, rfl, hq0, hq1, _⟩, hc5, ho5⟩
  replace b0 := b0.only ho5 (by omega)
  have hq1 := hq1 (by omega)
  have c0 := fun o => b0.cell o
  have f0 := fun o => b0.frozen o
  have hz1 := ho1.size
  have hz2 := ho2.size
  have hz3 := ho3.size
  have hz4 := ho4.size
  have hz5 := ho5.size
  simp only [World.size_alloc] at hz1
  go_wp2
  refine bodyPost_ret (v := .agg #[.int .i64 (-x), .int .i64 (-y), .int .i64 (2 + z), .int .i64 (1 + p), .int .i64 (1 + q), .slice none 0 0]) (by simp [results, Tryz.results35, go_sem, c0]) rfl ⟨⟨_, _, _, _, _, rfl, by omega, by omega, by omega, by omega, by omega⟩, ?_, ?_⟩
  · obtain ⟨he, hle', i, k, hi, hk, hb⟩ := hc5
    have hgn : g ≠ w.heap.size := by omega
    refine ⟨?_, hle', i, k, hi, hk, ?_⟩
    · repeat (first | (with_reducible exact he) | refine Ext.setCell ?_ (by simp <;> omega) _)
    · repeat (first | (with_reducible exact hb) | refine Blk.far ?_ hgn _)
  · have hO := ((((ho0.trans ho1).trans ho2).trans ho3).trans ho4).trans ho5
    repeat (first | (with_reducible exact hO) | refine Only.setNew ?_ (by simp <;> omega) _)
theorem grid_drawn {x y s a b : Int} (hx : -19 ≤ x ∧ x ≤ 0) (hy : -19 ≤ y ∧ y ≤ 0) (hs : 2 ≤ s ∧ s ≤ 6) (ha : 1 ≤ a ∧ a ≤ 4) (hb : 1 ≤ b ∧ b ≤ 4) (l : List Int) : gridOk ⟨x, y, s, a, b, l⟩ = true := by
  have m1 : a * b ≤ 4 * 4 := Int.mul_le_mul ha.2 hb.2 (by omega) (by omega)
  have m2 : a * s ≤ 4 * 6 := Int.mul_le_mul ha.2 hs.2 (by omega) (by omega)
  have m3 : b * s ≤ 4 * 6 := Int.mul_le_mul hb.2 hs.2 (by omega) (by omega)
  unfold gridOk inR
  simp only [Bool.and_eq_true, decide_eq_true_eq]
  refine ⟨⟨⟨⟨⟨⟨⟨?_, ?_⟩, ?_⟩, ?_⟩, ?_⟩, ?_⟩, ?_⟩, ?_⟩ <;> omega
set_option maxHeartbeats 8000000 in
theorem makeFrame_any (A : Option Addr) (n c : Nat) (bs : List Int) (m : Int) (w : World) (hn : bs.length = n) (hr : Row w A (u8s bs)) (hle : n ≤ 1048576) (hm : I64 m) :
    Calls Tryz.prog 6 #[.slice A n c, .int .i64 m] w fun e w' => ∃ (t : Table) (wi : Int), e = .returned (.tuple #[.agg #[.int .i64 t.X0, .int .i64 t.Y0, .int .i64 t.Step, .int .i64 t.Nx, .int .i64 t.Ny, .slice none 0 0], .int .i64 wi]) ∧ gridOk t = true ∧ (-5 ≤ wi ∧ wi ≤ 5) ∧ t.Cells = [] ∧ Ext w w' := by
  have hx := (Ext.refl w).alloc (.cells #[.int .i64 0, .int .i64 0, .int .i64 0, .int .i64 0, .int .i64 0, .slice none 0 0] 34)
  have bR := Blk.new w 34 #[.int .i64 0, .int .i64 0, .int .i64 0, .int .i64 0, .int .i64 0, .slice none 0 0]
  have hr0 := hr.ext hx
  have hsz0 : (w.alloc (.cells #[.int .i64 0, .int .i64 0, .int .i64 0, .int .i64 0, .int .i64 0, .slice none 0 0] 34)).heap.size = w.heap.size + 1 := by simp only [World.size_alloc]
  have HNew := Lib.hid (l26New_any A n c bs m _ hn hr0 hle hm)
  have HDr := Lib.hid (fun w g hc => l16Empty_any _ g A n c bs w hn hr0 hle hc)
  have HB := Lib.hid (fun (m : Int) (hm : I64 m) w g hc => l01Below_any _ g A n c bs m w hn hr0 hle hc hm)
  clear hn hr hr0
  go_enter Tryz.func6, Tryz.ntmps6
  go_wp2_with fail
  refine (HNew.out).mono ?_
  rintro e w1 ⟨g, rfl, hc1⟩
  have hg1 := hc1.le
  rw [hsz0] at hg1
  go_wp2_with fail
  refine (HDr.out _ g hc1).mono ?_
  rintro e w2 ⟨⟨x, y, s, a, b, rfl, h1, h2, h3, h4, h5⟩, hc2, ho2⟩
  have HG := Lib.hid (grid_drawn h1 h2 h3 h4 h5 [])
  clear h1 h2 h3 h4 h5
  replace bR := bR.ext hc2.ext
  have hgl := hc2.lt
  have bV := Blk.new w2 34 #[.int .i64 x, .int .i64 y, .int .i64 s, .int .i64 a, .int .i64 b, .slice none 0 0]
  have hE := (Ext.refl w2).alloc (.cells #[.int .i64 x, .int .i64 y, .int .i64 s, .int .i64 a, .int .i64 b, .slice none 0 0] 34)
  have hc3 := hc2.fwd hE
  have hRl := bR.lt
  replace bR := bR.ext hE
  have hneV : w2.heap.size ≠ g := by omega
  have hneR : w.heap.size ≠ g := by omega
  have n1 : ¬ w2.heap.size = w.heap.size := by omega
  have n2 : ¬ w.heap.size = w2.heap.size := by omega
  have cV := fun o => bV.cell o
  clear hc2 hc1 hE ho2
  go_wp2_with fail
  generalize (w2.alloc (.cells #[.int .i64 x, .int .i64 y, .int .i64 s, .int .i64 a, .int .i64 b, .slice none 0 0] 34)) = W at *
  go_region_held3 (fun w' => w'.cell? ⟨w2.heap.size, 0, none⟩ = some (.int .i64 x) ∧ w'.cell? ⟨w2.heap.size, 1, none⟩ = some (.int .i64 y) ∧ w'.cell? ⟨w2.heap.size, 2, none⟩ = some (.int .i64 s) ∧ w'.cell? ⟨w2.heap.size, 3, none⟩ = some (.int .i64 a) ∧ w'.cell? ⟨w2.heap.size, 4, none⟩ = some (.int .i64 b) ∧ w'.cell? ⟨w2.heap.size, 5, none⟩ = some (.slice none 0 0))
    (go_keep)
    (first
      | (go_at_call 33; (with_reducible refine (HB.out 11 (by unfold I64; omega) _ g (by exact hc3.fwd ((Ext.refl _).drew))).mono ?_); rintro e w8 ⟨⟨q, rfl, hx0, hx1, _⟩, hc8, ho8⟩; replace hx1 := hx1 (by omega); have hw1 : IntKind.i64.wrap (q - 5) = q - 5 := IntWalk.i64_in _ (by omega); have bV8 := Blk.only (by exact bV) ho8 hneV; have bR8 := Blk.only (by exact bR) ho8 hneR; have d8 := fun o => bV8.cell o; have d8R := fun o => bR8.cell o; have f8R := fun o => bR8.frozen o))
  all_goals
    have bRF := (((((bR8.set_ 0 (.int .i64 x)).set_ 1 (.int .i64 y)).set_ 2 (.int .i64 s)).set_ 3 (.int .i64 a)).set_ 4 (.int .i64 b)).set_ 5 (.slice none 0 0)
    have hE9 := hx.trans hc8.ext
    have cRF := fun o => bRF.cell o
    go_wp2
    refine bodyPost_ret (v := .tuple #[.agg #[.int .i64 x, .int .i64 y, .int .i64 s, .int .i64 a, .int .i64 b, .slice none 0 0], .int .i64 (q - 5)]) (by simp [results, Tryz.results6, go_sem, cRF]) rfl ?_
    refine ⟨⟨x, y, s, a, b, []⟩, q - 5, rfl, HG.out, by omega, rfl, ?_⟩
    repeat (first | (with_reducible exact hE9) | refine Ext.setCell ?_ (by simp only; omega) _)
set_option maxHeartbeats 8000000 in
theorem implNearest_any (a b c d n : Int) (w : World) (ha : I64 a) (hb : I64 b) (hc : I64 c) (hd : I64 d) :
    Calls Tryz.prog 41 #[.agg #[.int .i64 a, .int .i64 b, .int .i64 c, .int .i64 d], .int .i64 n] w fun e w' => e = .returned (.int .i64 (nearI ⟨⟨a, b⟩, ⟨c, d⟩⟩ n)) ∧ Ext w w' := by
  have HC := Lib.hid (fun w => implRatioCeil_any a b w ha hb)
  have HF := Lib.hid (fun w => implRatioFloor_any c d w hc hd)
  have HN : Hid (nearI ⟨⟨a, b⟩, ⟨c, d⟩⟩ n = if ratioFloor ⟨c, d⟩ < ratioCeil ⟨a, b⟩ then -1000000 else if ratioCeil ⟨a, b⟩ < (if n < ratioFloor ⟨c, d⟩ then n else ratioFloor ⟨c, d⟩) then (if n < ratioFloor ⟨c, d⟩ then n else ratioFloor ⟨c, d⟩) else ratioCeil ⟨a, b⟩) := rfl
  generalize ratioCeil ⟨a, b⟩ = C at *
  generalize ratioFloor ⟨c, d⟩ = F at *
  generalize nearI ⟨⟨a, b⟩, ⟨c, d⟩⟩ n = R at *
  have hx := (Ext.refl w).alloc (.cells #[.int .i64 a, .int .i64 b, .int .i64 c, .int .i64 d] 46)
  have bW := Blk.new w 46 #[.int .i64 a, .int .i64 b, .int .i64 c, .int .i64 d]
  clear ha hb hc hd
  have cW := fun o => bW.cell o
  go_enter Tryz.func41, Tryz.ntmps41
  go_wp2_with fail
  have hcur := Ext.refl (w.alloc (.cells #[.int .i64 a, .int .i64 b, .int .i64 c, .int .i64 d] 46))
  go_region_held3 (fun w' => w'.cell? ⟨w.heap.size, 0, none⟩ = some (.int .i64 a) ∧ w'.cell? ⟨w.heap.size, 1, none⟩ = some (.int .i64 b) ∧ w'.cell? ⟨w.heap.size, 2, none⟩ = some (.int .i64 c) ∧ w'.cell? ⟨w.heap.size, 3, none⟩ = some (.int .i64 d))
    (go_keep)
    (first
      | (go_at_call 49; (with_reducible refine (HC.out _).mono ?_); rintro e w9 ⟨rfl, hx9⟩; replace hcur := Ext.trans (by first | exact hcur | exact hcur.drew) hx9; have d9 := fun o => (bW.ext hcur).cell o)
      | (go_at_call 48; (with_reducible refine (HF.out _).mono ?_); rintro e w9 ⟨rfl, hx9⟩; replace hcur := Ext.trans (by first | exact hcur | exact hcur.drew) hx9; have d9 := fun o => (bW.ext hcur).cell o))
  all_goals
    have hy := hx.trans hcur
    by_cases h1 : F < C
    · have H := Lib.hid (HN.out.trans (if_pos h1))
      go_wp2
      go_ret
      exact ⟨ret_int H.out.symm, hy⟩
    · have H := Lib.hid (HN.out.trans (if_neg h1))
      go_wp2
      go_ret
      exact ⟨ret_int (by rw [H.out]; omega), hy⟩
set_option maxHeartbeats 16000000 in
theorem implIsHeld_ok (r : Room) (A0 A6 A7 : Option Addr) (c0 c6 c7 : Nat) (A : Option Addr) (n c : Nat) (P : List Half) (s : Spot) (z : Int) (w : World) (hv : RoomV r) (ha : RoomHere w r A0 A6 A7 c0 c6 c7) (hn : P.length = n) (hr : Row w A (ints (flat Half.ints P))) (hP : regOk P = true) (hsk : spotOk s = true) (hd : s.D = 1) (had : Admitted r P s ⟨z, 1⟩) (hnd : ∀ t ∈ cornL r.Noise, t.D = 1) :
    Calls Tryz.prog 17 #[.agg #[.slice A0 r.Map.length c0, .int .i64 r.Div, .int .i64 r.Bx, .int .i64 r.By, .int .i64 r.Low, .int .i64 r.High, .slice A6 r.Noise.length c6, .slice A7 r.Limits.length c7], .agg #[.int .i64 s.X, .int .i64 s.Y, .int .i64 s.D], .agg #[.int .i64 z, .int .i64 1], .agg #[.slice A n c]] w fun e w' => e = .returned (.bool true) ∧ Ext w w' := by
  have hW := shape_of hv.noise hv.noiseN
  have hzb := inRoom_bd hv had.room
  have HIn := Lib.hid (fun w ha => implIsInput_ok r A0 A6 A7 c0 c6 c7 ⟨z, 1⟩ w hv ha had.room)
  have HSk := Lib.hid (fun w => implSpotOk_any s.X s.Y s.D w (spot_I hsk).1 (spot_I hsk).2.1 (spot_I hsk).2.2)
  have e1 : spotOk ⟨s.X, s.Y, s.D⟩ = true := hsk
  rw [e1] at HSk
  have hl : n ≤ 40 := by have := regOk_len hP; omega
  have HO := Lib.hid (fun w hr => implRegionOk_any A n c P w hn hr (halves_I (regOk_all hP)) (by unfold maxLen; omega))
  rw [hP] at HO
  have HCo := Lib.hid (fun w hr => corners_any A6 r.Noise.length c6 r.Noise w rfl hr (regOk_all hv.noise) (by have := regOk_len hv.noise; omega))
  rw [corners_same hW] at HCo
  have HHo := Lib.hid (fun x w hr hk => implHolds_ok A n c P x w hn hr (regOk_all hP) (by unfold maxLen; omega) hk)
  have HNx := Lib.hid (fun t w ha ht => implNext_ok r A0 A6 A7 c0 c6 c7 s t ⟨z, 1⟩ w hv ha (spot_I hsk) ht ⟨by show I64 z; unfold I64; omega, by show I64 1; unfold I64; decide⟩)
  have HT : Hid (∀ t ∈ cornL r.Noise, (nextR (dynOf r) s ⟨z, 1⟩ t).2 = true ∧ holdsR P (nextR (dynOf r) s ⟨z, 1⟩ t).1 = true ∧ spotOk (nextR (dynOf r) s ⟨z, 1⟩ t).1 = true ∧ (I64 t.X ∧ I64 t.Y ∧ I64 t.D)) := fun t ht => by
    have h1 := next_fine hv hP had hsk hd ht (hnd t ht)
    have h2 := next_held hv hP had ht h1
    unfold hasSpot at h2
    simp only [Bool.and_eq_true] at h2
    have hB := hW.spotB t ht
    have b1 := hB.d1; have b2 := hB.d2; have b3 := hB.x1; have b4 := hB.x2; have b5 := hB.y1; have b6 := hB.y2
    exact ⟨h1, h2.2, h2.1.2, by unfold I64; omega⟩
  have HA := Lib.hid ha
  have HR := Lib.hid hr
  have HL := Lib.hid (cornL_len r.Noise)
  have hll : r.Noise.length ≤ 40 := regOk_len hv.noise
  have hx : Ext w ((((w.alloc (.cells #[.slice A0 r.Map.length c0, .int .i64 r.Div, .int .i64 r.Bx, .int .i64 r.By, .int .i64 r.Low, .int .i64 r.High, .slice A6 r.Noise.length c6, .slice A7 r.Limits.length c7] 28)).alloc (.cells #[.int .i64 s.X, .int .i64 s.Y, .int .i64 s.D] 30)).alloc (.cells #[.int .i64 z, .int .i64 1] 44)).alloc (.cells #[.slice A n c] 26)) := by repeat (first | exact Ext.refl _ | refine Ext.alloc ?_ _)
  have bM : Blk ((((w.alloc (.cells #[.slice A0 r.Map.length c0, .int .i64 r.Div, .int .i64 r.Bx, .int .i64 r.By, .int .i64 r.Low, .int .i64 r.High, .slice A6 r.Noise.length c6, .slice A7 r.Limits.length c7] 28)).alloc (.cells #[.int .i64 s.X, .int .i64 s.Y, .int .i64 s.D] 30)).alloc (.cells #[.int .i64 z, .int .i64 1] 44)).alloc (.cells #[.slice A n c] 26)) (w.heap.size) 28 #[.slice A0 r.Map.length c0, .int .i64 r.Div, .int .i64 r.Bx, .int .i64 r.By, .int .i64 r.Low, .int .i64 r.High, .slice A6 r.Noise.length c6, .slice A7 r.Limits.length c7] := by
    have q := Blk.new w 28 #[.slice A0 r.Map.length c0, .int .i64 r.Div, .int .i64 r.Bx, .int .i64 r.By, .int .i64 r.Low, .int .i64 r.High, .slice A6 r.Noise.length c6, .slice A7 r.Limits.length c7]
    replace q := q.alloc (.cells #[.int .i64 s.X, .int .i64 s.Y, .int .i64 s.D] 30)
    replace q := q.alloc (.cells #[.int .i64 z, .int .i64 1] 44)
    replace q := q.alloc (.cells #[.slice A n c] 26)
    simpa only [World.size_alloc] using q
  have bS : Blk ((((w.alloc (.cells #[.slice A0 r.Map.length c0, .int .i64 r.Div, .int .i64 r.Bx, .int .i64 r.By, .int .i64 r.Low, .int .i64 r.High, .slice A6 r.Noise.length c6, .slice A7 r.Limits.length c7] 28)).alloc (.cells #[.int .i64 s.X, .int .i64 s.Y, .int .i64 s.D] 30)).alloc (.cells #[.int .i64 z, .int .i64 1] 44)).alloc (.cells #[.slice A n c] 26)) (w.heap.size + 1) 30 #[.int .i64 s.X, .int .i64 s.Y, .int .i64 s.D] := by
    have q := Blk.new (w.alloc (.cells #[.slice A0 r.Map.length c0, .int .i64 r.Div, .int .i64 r.Bx, .int .i64 r.By, .int .i64 r.Low, .int .i64 r.High, .slice A6 r.Noise.length c6, .slice A7 r.Limits.length c7] 28)) 30 #[.int .i64 s.X, .int .i64 s.Y, .int .i64 s.D]
    replace q := q.alloc (.cells #[.int .i64 z, .int .i64 1] 44)
    replace q := q.alloc (.cells #[.slice A n c] 26)
    simpa only [World.size_alloc] using q
  have bU : Blk ((((w.alloc (.cells #[.slice A0 r.Map.length c0, .int .i64 r.Div, .int .i64 r.Bx, .int .i64 r.By, .int .i64 r.Low, .int .i64 r.High, .slice A6 r.Noise.length c6, .slice A7 r.Limits.length c7] 28)).alloc (.cells #[.int .i64 s.X, .int .i64 s.Y, .int .i64 s.D] 30)).alloc (.cells #[.int .i64 z, .int .i64 1] 44)).alloc (.cells #[.slice A n c] 26)) (w.heap.size + 1 + 1) 44 #[.int .i64 z, .int .i64 1] := by
    have q := Blk.new ((w.alloc (.cells #[.slice A0 r.Map.length c0, .int .i64 r.Div, .int .i64 r.Bx, .int .i64 r.By, .int .i64 r.Low, .int .i64 r.High, .slice A6 r.Noise.length c6, .slice A7 r.Limits.length c7] 28)).alloc (.cells #[.int .i64 s.X, .int .i64 s.Y, .int .i64 s.D] 30)) 44 #[.int .i64 z, .int .i64 1]
    replace q := q.alloc (.cells #[.slice A n c] 26)
    simpa only [World.size_alloc] using q
  have bP : Blk ((((w.alloc (.cells #[.slice A0 r.Map.length c0, .int .i64 r.Div, .int .i64 r.Bx, .int .i64 r.By, .int .i64 r.Low, .int .i64 r.High, .slice A6 r.Noise.length c6, .slice A7 r.Limits.length c7] 28)).alloc (.cells #[.int .i64 s.X, .int .i64 s.Y, .int .i64 s.D] 30)).alloc (.cells #[.int .i64 z, .int .i64 1] 44)).alloc (.cells #[.slice A n c] 26)) (w.heap.size + 1 + 1 + 1) 26 #[.slice A n c] := by
    have q := Blk.new (((w.alloc (.cells #[.slice A0 r.Map.length c0, .int .i64 r.Div, .int .i64 r.Bx, .int .i64 r.By, .int .i64 r.Low, .int .i64 r.High, .slice A6 r.Noise.length c6, .slice A7 r.Limits.length c7] 28)).alloc (.cells #[.int .i64 s.X, .int .i64 s.Y, .int .i64 s.D] 30)).alloc (.cells #[.int .i64 z, .int .i64 1] 44)) 26 #[.slice A n c]
    simpa only [World.size_alloc] using q
  clear hv ha hn hr hP hsk hd had hnd hW e1
  have cbM_92 := fun o => bM.cell o
  have cbS_93 := fun o => bS.cell o
  have cbU_94 := fun o => bU.cell o
  have cbP_95 := fun o => bP.cell o
  go_enter Tryz.func17, Tryz.ntmps17
  go_wp2_with fail
  refine (HIn.out _ (HA.out.ext hx)).mono ?_
  rintro e w1 ⟨rfl, hx1⟩
  replace hx := hx.trans hx1
  replace bM := bM.ext hx1
  replace bS := bS.ext hx1
  replace bU := bU.ext hx1
  replace bP := bP.ext hx1
  have cbM_96 := fun o => bM.cell o
  have cbS_97 := fun o => bS.cell o
  have cbU_98 := fun o => bU.cell o
  have cbP_99 := fun o => bP.cell o
  go_wp2_with fail
  refine (HSk.out _).mono ?_
  rintro e w2 ⟨rfl, hx2⟩
  replace hx := hx.trans hx2
  replace bM := bM.ext hx2
  replace bS := bS.ext hx2
  replace bU := bU.ext hx2
  replace bP := bP.ext hx2
  have cbM_100 := fun o => bM.cell o
  have cbS_101 := fun o => bS.cell o
  have cbU_102 := fun o => bU.cell o
  have cbP_103 := fun o => bP.cell o
  go_wp2_with fail
  refine (HO.out _ (HR.out.ext hx)).mono ?_
  rintro e w3 ⟨rfl, hx3⟩
  replace hx := hx.trans hx3
  replace bM := bM.ext hx3
  replace bS := bS.ext hx3
  replace bU := bU.ext hx3
  replace bP := bP.ext hx3
  have cbM_104 := fun o => bM.cell o
  have cbS_105 := fun o => bS.cell o
  have cbU_106 := fun o => bU.cell o
  have cbP_107 := fun o => bP.cell o
  go_wp2_with fail
  refine (HCo.out _ (HA.out.ext hx).at_.p).mono ?_
  rintro e w4 ⟨A4, c4, n4, rfl, hn4, hx4, hown4⟩
  replace hx := hx.trans hx4
  replace bM := bM.ext hx4
  replace bS := bS.ext hx4
  replace bU := bU.ext hx4
  replace bP := bP.ext hx4
  have cbM_108 := fun o => bM.cell o
  have cbS_109 := fun o => bS.cell o
  have cbU_110 := fun o => bU.cell o
  have cbP_111 := fun o => bP.cell o
  rw [HL.out] at hn4
  subst hn4
  have rK : Row w4 A4 (ints (flat Spot.ints (cornL r.Noise))) := Row.of_own hown4
  have HRk := Lib.hid (fun V (h : Ext w4 V) => rK.ext h)
  clear rK hown4
  go_wp2
  go_loopw [31] (fun i_ wr => ∃ k : Nat, k ≤ r.Noise.length ∧ i_ = .int .i64 k ∧ Ext w4 wr) (fun i_ _ => r.Noise.length - (intOf i_).toNat)
  case atStart => exact ⟨0, by omega, rfl, Ext.refl _⟩
  case round =>
  obtain ⟨k, hk, rfl, hz⟩ := hrel
  replace hx := hx.trans hz
  replace bM := bM.ext hz
  replace bS := bS.ext hz
  replace bU := bU.ext hz
  replace bP := bP.ext hz
  have cbM_112 := fun o => bM.cell o
  have cbS_113 := fun o => bS.cell o
  have cbU_114 := fun o => bU.cell o
  have cbP_115 := fun o => bP.cell o
  by_cases hlt : k < r.Noise.length
  rotate_left
  · go_wp2
    go_ret
    exact ⟨rfl, hx⟩
  have hkl : k < (cornL r.Noise).length := by rw [HL.out]; exact hlt
  obtain ⟨b1, o1, rfl, hb1, y0, y1, y2⟩ := (HRk.out _ hz).Spot (k := k) hkl
  obtain ⟨g1, g2, g3, g4⟩ := HT.out _ (List.getElem_mem hkl)
  obtain ⟨t, ht_⟩ : ∃ t, (cornL r.Noise)[k]'hkl = t := ⟨_, rfl⟩
  rw [ht_] at y0 y1 y2 g1 g2 g3 g4
  clear ht_ hkl
  have HC := Lib.hid (fun w ha => HNx.out t w ha g4)
  generalize nextR (dynOf r) s ⟨z, 1⟩ t = X at *
  obtain ⟨x, ok⟩ := X
  unfold NextMade at HC
  dsimp only at *
  subst g1
  have HH := Lib.hid (fun w hr => HHo.out x w hr g3)
  rw [g2] at HH
  clear g2 g3 g4
  have hsz := hz.size
  have bT := Blk.new wr 30 #[.int .i64 t.X, .int .i64 t.Y, .int .i64 t.D]
  have hA := (Ext.refl wr).alloc (.cells #[.int .i64 t.X, .int .i64 t.Y, .int .i64 t.D] 30)
  replace hx := hx.trans hA
  replace bM := bM.ext hA
  replace bS := bS.ext hA
  replace bU := bU.ext hA
  replace bP := bP.ext hA
  replace hz := hz.trans hA
  have cbM_116 := fun o => bM.cell o
  have cbS_117 := fun o => bS.cell o
  have cbU_118 := fun o => bU.cell o
  have cbP_119 := fun o => bP.cell o
  have cbM_120 := fun o => bM.cell o
  have cbS_121 := fun o => bS.cell o
  have cbU_122 := fun o => bU.cell o
  have cbP_123 := fun o => bP.cell o
  have cbT_124 := fun o => bT.cell o
  go_wp2_with fail
  refine (HC.out _ (HA.out.ext hx)).mono ?_
  rintro e w5 ⟨rfl, hx5⟩
  replace hx := hx.trans hx5
  replace bM := bM.ext hx5
  replace bS := bS.ext hx5
  replace bU := bU.ext hx5
  replace bP := bP.ext hx5
  replace hz := hz.trans hx5
  replace bT := bT.ext hx5
  have cbM_125 := fun o => bM.cell o
  have cbS_126 := fun o => bS.cell o
  have cbU_127 := fun o => bU.cell o
  have cbP_128 := fun o => bP.cell o
  have cbT_129 := fun o => bT.cell o
  have bX := Blk.new w5 30 #[.int .i64 x.X, .int .i64 x.Y, .int .i64 x.D]
  have ha5 := (Ext.refl w5).alloc (.cells #[.int .i64 x.X, .int .i64 x.Y, .int .i64 x.D] 30)
  replace hx := hx.trans ha5
  replace bM := bM.ext ha5
  replace bS := bS.ext ha5
  replace bU := bU.ext ha5
  replace bP := bP.ext ha5
  replace hz := hz.trans ha5
  replace bT := bT.ext ha5
  have cbM_130 := fun o => bM.cell o
  have cbS_131 := fun o => bS.cell o
  have cbU_132 := fun o => bU.cell o
  have cbP_133 := fun o => bP.cell o
  have cbT_134 := fun o => bT.cell o
  have cbM_135 := fun o => bM.cell o
  have cbS_136 := fun o => bS.cell o
  have cbU_137 := fun o => bU.cell o
  have cbP_138 := fun o => bP.cell o
  have cbT_139 := fun o => bT.cell o
  have cbX_140 := fun o => bX.cell o
  go_wp2_with fail
  refine (HH.out _ (HR.out.ext hx)).mono ?_
  rintro e w6 ⟨rfl, hx6⟩
  go_wp2
  go_roundw
  case rel => exact ⟨k + 1, by omega, by go_num, hz.trans hx6⟩
  case measure => simp [intOf]; omega
set_option maxHeartbeats 4000000 in
theorem implCellCorners_ok (t : Table) (A5 : Option Addr) (n5 c5 : Nat) (i j : Int) (w : World) (h : AggRow w (tableF t) [.int .i64 t.X0, .int .i64 t.Y0, .int .i64 t.Step, .int .i64 t.Nx, .int .i64 t.Ny, .slice A5 n5 c5]) (hI : tableFI t) (hl : t.Cells.length ≤ 1048576) (hk : tableOk t = true) (hi : 0 ≤ i ∧ i < t.Nx) (hj : 0 ≤ j ∧ j < t.Ny) :
    Calls Tryz.prog 15 #[.agg #[.int .i64 t.X0, .int .i64 t.Y0, .int .i64 t.Step, .int .i64 t.Nx, .int .i64 t.Ny, .slice A5 n5 c5], .int .i64 i, .int .i64 j] w (SpotsMade (cellSpots t i j) w) := by
  have hg := (tableOk_grid hk).1
  have HT := Lib.hid (fun w h => implTableOk_any t [.int .i64 t.X0, .int .i64 t.Y0, .int .i64 t.Step, .int .i64 t.Nx, .int .i64 t.Ny, .slice A5 n5 c5] w h hI hl)
  rw [hk] at HT
  have HIs := Lib.hid (fun w => implIsCell_ok t A5 n5 c5 i j w hi hj)
  have HCo := Lib.hid (fun w => implCornersOfCell_ok t A5 n5 c5 i j w (cell_b hg hi hj) (grid_b hg).st)
  have HAg := Lib.hid h
  have hx : Ext w (w.alloc (.cells #[.int .i64 t.X0, .int .i64 t.Y0, .int .i64 t.Step, .int .i64 t.Nx, .int .i64 t.Ny, .slice A5 n5 c5] 34)) := (Ext.refl w).alloc _
  have bT := Blk.new w 34 #[.int .i64 t.X0, .int .i64 t.Y0, .int .i64 t.Step, .int .i64 t.Nx, .int .i64 t.Ny, .slice A5 n5 c5]
  clear h hI hl hk hi hj hg
  have cbT_141 := fun o => bT.cell o
  go_enter Tryz.func15, Tryz.ntmps15
  go_wp2_with fail
  refine (HT.out _ (HAg.out.ext hx)).mono ?_
  rintro e w1 ⟨rfl, hx1⟩
  replace hx := hx.trans hx1
  replace bT := bT.ext hx1
  have cbT_142 := fun o => bT.cell o
  go_wp2_with fail
  refine (HIs.out _).mono ?_
  rintro e w2 ⟨rfl, hx2⟩
  replace hx := hx.trans hx2
  replace bT := bT.ext hx2
  have cbT_143 := fun o => bT.cell o
  go_wp2_with fail
  refine (HCo.out _).mono ?_
  rintro e w3 ⟨A1, c1, n1, rfl, hn1, hx3, hown1⟩
  subst hn1
  go_wp2
  go_ret
  exact ⟨A1, c1, _, rfl, rfl, hx.trans hx3, own_base hown1 hx.size⟩
theorem rob_ok {P W E : List Half} {ok : Bool} (h : robR P W = (E, ok)) (hk : ok = true) : erodeR P W = (E, true) ∧ E ≠ [] := by
  unfold robR at h
  injection h with h1 h2
  rw [hk] at h2
  rw [Bool.and_eq_true] at h2
  have e : E ≠ [] := fun q => by rw [h1, decide_eq_true q] at h2; exact absurd h2.2 (by decide)
  exact ⟨Prod.ext h1 h2.1, e⟩
theorem rob_reg {P W E : List Half} {ok : Bool} (h : robR P W = (E, ok)) : regOk E = true := by
  unfold robR at h
  injection h with h1 h2
  rw [← h1]
  exact erodeR_ok _ _
/-- the span of a cell -/
def spanR (r : Room) (P E : List Half) (ok : Bool) (t : Table) (i j : Int) : Span × Bool := if ok = true then cellR r P E t i j else (zeroSpan, false)
set_option maxHeartbeats 16000000 in
theorem implCellSpan_ok (r : Room) (A0 A6 A7 : Option Addr) (c0 c6 c7 : Nat) (A : Option Addr) (n c : Nat) (P E : List Half) (okE : Bool) (t : Table) (A5 : Option Addr) (n5 c5 : Nat) (i j : Int) (w : World) (hv : RoomV r) (ha : RoomHere w r A0 A6 A7 c0 c6 c7) (hn : P.length = n) (hr : Row w A (ints (flat Half.ints P))) (hP : regOk P = true) (hE : robR P r.Noise = (E, okE)) (h : AggRow w (tableF t) [.int .i64 t.X0, .int .i64 t.Y0, .int .i64 t.Step, .int .i64 t.Nx, .int .i64 t.Ny, .slice A5 n5 c5]) (hI : tableFI t) (hl : t.Cells.length ≤ 1048576) (hk : tableOk t = true) (hi : 0 ≤ i ∧ i < t.Nx) (hj : 0 ≤ j ∧ j < t.Ny) :
    Calls Tryz.prog 11 #[.agg #[.slice A0 r.Map.length c0, .int .i64 r.Div, .int .i64 r.Bx, .int .i64 r.By, .int .i64 r.Low, .int .i64 r.High, .slice A6 r.Noise.length c6, .slice A7 r.Limits.length c7], .agg #[.slice A n c], .agg #[.int .i64 t.X0, .int .i64 t.Y0, .int .i64 t.Step, .int .i64 t.Nx, .int .i64 t.Ny, .slice A5 n5 c5], .int .i64 i, .int .i64 j] w (SpanMade (spanR r P E okE t i j) w) := by
  have hg := (tableOk_grid hk).1
  have HRo := Lib.hid (fun w ha hr => implRobustOf_ok r A0 A6 A7 c0 c6 c7 A n c P w hv ha hn hr hP)
  rw [hE] at HRo
  have HT := Lib.hid (fun w h => implTableOk_any t [.int .i64 t.X0, .int .i64 t.Y0, .int .i64 t.Step, .int .i64 t.Nx, .int .i64 t.Ny, .slice A5 n5 c5] w h hI hl)
  rw [hk] at HT
  have HIs := Lib.hid (fun w => implIsCell_ok t A5 n5 c5 i j w hi hj)
  have HSp := Lib.hid (fun A3 c3 w ha hr hr3 => implSpanOfCell_ok r A0 A6 A7 c0 c6 c7 A n c P A3 E.length c3 E t A5 n5 c5 i j w hv ha hn hr hP rfl hr3 (rob_reg hE) hg hi hj)
  have HX : Hid (spanR r P E okE t i j = if okE = true then cellR r P E t i j else (zeroSpan, false)) := rfl
  have HAg := Lib.hid h
  have HA := Lib.hid ha
  have HR := Lib.hid hr
  have hx : Ext w ((((w.alloc (.cells #[.slice A0 r.Map.length c0, .int .i64 r.Div, .int .i64 r.Bx, .int .i64 r.By, .int .i64 r.Low, .int .i64 r.High, .slice A6 r.Noise.length c6, .slice A7 r.Limits.length c7] 28)).alloc (.cells #[.slice A n c] 26)).alloc (.cells #[.int .i64 t.X0, .int .i64 t.Y0, .int .i64 t.Step, .int .i64 t.Nx, .int .i64 t.Ny, .slice A5 n5 c5] 34)).alloc (.cells #[.int .i64 0, .int .i64 0, .int .i64 0, .int .i64 0] 46)) := by repeat (first | exact Ext.refl _ | refine Ext.alloc ?_ _)
  have bM : Blk ((((w.alloc (.cells #[.slice A0 r.Map.length c0, .int .i64 r.Div, .int .i64 r.Bx, .int .i64 r.By, .int .i64 r.Low, .int .i64 r.High, .slice A6 r.Noise.length c6, .slice A7 r.Limits.length c7] 28)).alloc (.cells #[.slice A n c] 26)).alloc (.cells #[.int .i64 t.X0, .int .i64 t.Y0, .int .i64 t.Step, .int .i64 t.Nx, .int .i64 t.Ny, .slice A5 n5 c5] 34)).alloc (.cells #[.int .i64 0, .int .i64 0, .int .i64 0, .int .i64 0] 46)) (w.heap.size) 28 #[.slice A0 r.Map.length c0, .int .i64 r.Div, .int .i64 r.Bx, .int .i64 r.By, .int .i64 r.Low, .int .i64 r.High, .slice A6 r.Noise.length c6, .slice A7 r.Limits.length c7] := by
    have q := Blk.new w 28 #[.slice A0 r.Map.length c0, .int .i64 r.Div, .int .i64 r.Bx, .int .i64 r.By, .int .i64 r.Low, .int .i64 r.High, .slice A6 r.Noise.length c6, .slice A7 r.Limits.length c7]
    replace q := q.alloc (.cells #[.slice A n c] 26)
    replace q := q.alloc (.cells #[.int .i64 t.X0, .int .i64 t.Y0, .int .i64 t.Step, .int .i64 t.Nx, .int .i64 t.Ny, .slice A5 n5 c5] 34)
    replace q := q.alloc (.cells #[.int .i64 0, .int .i64 0, .int .i64 0, .int .i64 0] 46)
    simpa only [World.size_alloc] using q
  have bP : Blk ((((w.alloc (.cells #[.slice A0 r.Map.length c0, .int .i64 r.Div, .int .i64 r.Bx, .int .i64 r.By, .int .i64 r.Low, .int .i64 r.High, .slice A6 r.Noise.length c6, .slice A7 r.Limits.length c7] 28)).alloc (.cells #[.slice A n c] 26)).alloc (.cells #[.int .i64 t.X0, .int .i64 t.Y0, .int .i64 t.Step, .int .i64 t.Nx, .int .i64 t.Ny, .slice A5 n5 c5] 34)).alloc (.cells #[.int .i64 0, .int .i64 0, .int .i64 0, .int .i64 0] 46)) (w.heap.size + 1) 26 #[.slice A n c] := by
    have q := Blk.new (w.alloc (.cells #[.slice A0 r.Map.length c0, .int .i64 r.Div, .int .i64 r.Bx, .int .i64 r.By, .int .i64 r.Low, .int .i64 r.High, .slice A6 r.Noise.length c6, .slice A7 r.Limits.length c7] 28)) 26 #[.slice A n c]
    replace q := q.alloc (.cells #[.int .i64 t.X0, .int .i64 t.Y0, .int .i64 t.Step, .int .i64 t.Nx, .int .i64 t.Ny, .slice A5 n5 c5] 34)
    replace q := q.alloc (.cells #[.int .i64 0, .int .i64 0, .int .i64 0, .int .i64 0] 46)
    simpa only [World.size_alloc] using q
  have bT : Blk ((((w.alloc (.cells #[.slice A0 r.Map.length c0, .int .i64 r.Div, .int .i64 r.Bx, .int .i64 r.By, .int .i64 r.Low, .int .i64 r.High, .slice A6 r.Noise.length c6, .slice A7 r.Limits.length c7] 28)).alloc (.cells #[.slice A n c] 26)).alloc (.cells #[.int .i64 t.X0, .int .i64 t.Y0, .int .i64 t.Step, .int .i64 t.Nx, .int .i64 t.Ny, .slice A5 n5 c5] 34)).alloc (.cells #[.int .i64 0, .int .i64 0, .int .i64 0, .int .i64 0] 46)) (w.heap.size + 1 + 1) 34 #[.int .i64 t.X0, .int .i64 t.Y0, .int .i64 t.Step, .int .i64 t.Nx, .int .i64 t.Ny, .slice A5 n5 c5] := by
    have q := Blk.new ((w.alloc (.cells #[.slice A0 r.Map.length c0, .int .i64 r.Div, .int .i64 r.Bx, .int .i64 r.By, .int .i64 r.Low, .int .i64 r.High, .slice A6 r.Noise.length c6, .slice A7 r.Limits.length c7] 28)).alloc (.cells #[.slice A n c] 26)) 34 #[.int .i64 t.X0, .int .i64 t.Y0, .int .i64 t.Step, .int .i64 t.Nx, .int .i64 t.Ny, .slice A5 n5 c5]
    replace q := q.alloc (.cells #[.int .i64 0, .int .i64 0, .int .i64 0, .int .i64 0] 46)
    simpa only [World.size_alloc] using q
  have bR : Blk ((((w.alloc (.cells #[.slice A0 r.Map.length c0, .int .i64 r.Div, .int .i64 r.Bx, .int .i64 r.By, .int .i64 r.Low, .int .i64 r.High, .slice A6 r.Noise.length c6, .slice A7 r.Limits.length c7] 28)).alloc (.cells #[.slice A n c] 26)).alloc (.cells #[.int .i64 t.X0, .int .i64 t.Y0, .int .i64 t.Step, .int .i64 t.Nx, .int .i64 t.Ny, .slice A5 n5 c5] 34)).alloc (.cells #[.int .i64 0, .int .i64 0, .int .i64 0, .int .i64 0] 46)) (w.heap.size + 1 + 1 + 1) 46 #[.int .i64 0, .int .i64 0, .int .i64 0, .int .i64 0] := by
    have q := Blk.new (((w.alloc (.cells #[.slice A0 r.Map.length c0, .int .i64 r.Div, .int .i64 r.Bx, .int .i64 r.By, .int .i64 r.Low, .int .i64 r.High, .slice A6 r.Noise.length c6, .slice A7 r.Limits.length c7] 28)).alloc (.cells #[.slice A n c] 26)).alloc (.cells #[.int .i64 t.X0, .int .i64 t.Y0, .int .i64 t.Step, .int .i64 t.Nx, .int .i64 t.Ny, .slice A5 n5 c5] 34)) 46 #[.int .i64 0, .int .i64 0, .int .i64 0, .int .i64 0]
    simpa only [World.size_alloc] using q
  clear hv ha hn hr hP hE h hI hl hk hi hj hg
  generalize spanR r P E okE t i j = X at *
  generalize cellR r P E t i j = CR at *
  have cR := fun o => bR.cell o
  have cbM_144 := fun o => bM.cell o
  have cbP_145 := fun o => bP.cell o
  have cbT_146 := fun o => bT.cell o
  have cbR_147 := fun o => bR.cell o
  have fbR_147 := fun o => bR.frozen o
  go_enter Tryz.func11, Tryz.ntmps11
  go_wp2_with fail
  refine (HRo.out _ (HA.out.ext hx) (HR.out.ext hx)).mono ?_
  rintro e w1 ⟨A1, c1, n1, rfl, hn1, hx1, hown1⟩
  have lR := bR.lt
  replace hx := hx.trans hx1
  replace bM := bM.ext hx1
  replace bP := bP.ext hx1
  replace bT := bT.ext hx1
  replace bR := bR.ext hx1
  have cbM_148 := fun o => bM.cell o
  have cbP_149 := fun o => bP.cell o
  have cbT_150 := fun o => bT.cell o
  have cbR_151 := fun o => bR.cell o
  have fbR_151 := fun o => bR.frozen o
  obtain rfl : n1 = E.length := hn1
  have bE := Blk.new w1 26 #[.slice A1 E.length c1]
  have ha1 := (Ext.refl w1).alloc (.cells #[.slice A1 E.length c1] 26)
  replace hx := hx.trans ha1
  replace bM := bM.ext ha1
  replace bP := bP.ext ha1
  replace bT := bT.ext ha1
  replace bR := bR.ext ha1
  have cbM_152 := fun o => bM.cell o
  have cbP_153 := fun o => bP.cell o
  have cbT_154 := fun o => bT.cell o
  have cbR_155 := fun o => bR.cell o
  have fbR_155 := fun o => bR.frozen o
  have rE : Row (w1.alloc (.cells #[.slice A1 E.length c1] 26)) A1 (ints (flat Half.ints E)) := (Row.of_own hown1).ext ha1
  clear hown1
  have cbM_156 := fun o => bM.cell o
  have cbP_157 := fun o => bP.cell o
  have cbT_158 := fun o => bT.cell o
  have cbR_159 := fun o => bR.cell o
  have fbR_159 := fun o => bR.frozen o
  have cbE_160 := fun o => bE.cell o
  cases okE
  · have H := Lib.hid (HX.out.trans (if_neg (by decide)))
    go_wp2
    have bF := bR.set4 (.int .i64 0) (.int .i64 0) (.int .i64 0) (.int .i64 0)
    have cF := fun o => bF.cell o
    clear cR
    refine bodyPost_ret (v := .tuple #[.agg #[.int .i64 0, .int .i64 0, .int .i64 0, .int .i64 0], .bool false]) (by first | (simp [results, Tryz.results11, go_sem]; done) | simp [results, Tryz.results11, go_sem, cF]) rfl ?_
    exact ⟨by rw [H.out]; rfl, by first | (with_reducible exact hx) | exact ext_set4 hx (by omega) _ _ _ _⟩
  have H := Lib.hid (HX.out.trans (if_pos rfl))
  go_wp2_with fail
  refine (HT.out _ (HAg.out.ext hx)).mono ?_
  rintro e w2 ⟨rfl, hx2⟩
  replace hx := hx.trans hx2
  replace bM := bM.ext hx2
  replace bP := bP.ext hx2
  replace bT := bT.ext hx2
  replace bR := bR.ext hx2
  replace rE := rE.ext hx2
  replace bE := bE.ext hx2
  have cbM_161 := fun o => bM.cell o
  have cbP_162 := fun o => bP.cell o
  have cbT_163 := fun o => bT.cell o
  have cbR_164 := fun o => bR.cell o
  have fbR_164 := fun o => bR.frozen o
  have cbE_165 := fun o => bE.cell o
  go_wp2_with fail
  refine (HIs.out _).mono ?_
  rintro e w3 ⟨rfl, hx3⟩
  replace hx := hx.trans hx3
  replace bM := bM.ext hx3
  replace bP := bP.ext hx3
  replace bT := bT.ext hx3
  replace bR := bR.ext hx3
  replace rE := rE.ext hx3
  replace bE := bE.ext hx3
  have cbM_166 := fun o => bM.cell o
  have cbP_167 := fun o => bP.cell o
  have cbT_168 := fun o => bT.cell o
  have cbR_169 := fun o => bR.cell o
  have fbR_169 := fun o => bR.frozen o
  have cbE_170 := fun o => bE.cell o
  go_wp2_with fail
  refine (HSp.out A1 c1 _ (HA.out.ext hx) (HR.out.ext hx) rE).mono ?_
  rintro e w4 ⟨rfl, hx4⟩
  have lR2 := bR.lt
  replace hx := hx.trans hx4
  replace bM := bM.ext hx4
  replace bP := bP.ext hx4
  replace bT := bT.ext hx4
  replace bR := bR.ext hx4
  replace rE := rE.ext hx4
  replace bE := bE.ext hx4
  have cbM_171 := fun o => bM.cell o
  have cbP_172 := fun o => bP.cell o
  have cbT_173 := fun o => bT.cell o
  have cbR_174 := fun o => bR.cell o
  have fbR_174 := fun o => bR.frozen o
  have cbE_175 := fun o => bE.cell o
  rw [← H.out]
  obtain ⟨⟨⟨m0, m1⟩, ⟨m2, m3⟩⟩, ok⟩ := X
  dsimp only
  go_wp2
  have bF := bR.set4 (.int .i64 m0) (.int .i64 m1) (.int .i64 m2) (.int .i64 m3)
  have cF := fun o => bF.cell o
  clear cR
  refine bodyPost_ret (v := .tuple #[.agg #[.int .i64 m0, .int .i64 m1, .int .i64 m2, .int .i64 m3], .bool ok]) (by simp [results, Tryz.results11, go_sem, cF]) rfl ?_
  exact ⟨rfl, ext_set4 hx (by omega) _ _ _ _⟩
/-- the inputs of a list of cells -/
def coverN (l : List Int) : Int := ((l.filter fun z => decide (z ≠ -1000000)).length : Int)
theorem coverN_step {l : List Int} {k : Nat} (h : k < l.length) : coverN (l.take (k + 1)) = coverN (l.take k) + (if l[k] = -1000000 then 0 else 1) := by
  unfold coverN
  rw [List.take_succ_eq_append_getElem h, List.filter_append, List.length_append]
  by_cases e : l[k] = -1000000
  · simp [e]
  · simp [e]
theorem coverN_bd (l : List Int) : 0 ≤ coverN l ∧ coverN l ≤ l.length := by
  unfold coverN
  have := List.length_filter_le (fun z => decide (z ≠ -1000000)) l
  omega
set_option maxHeartbeats 4000000 in
theorem implCoveredCells_ok (t : Table) (A5 : Option Addr) (n5 c5 : Nat) (w : World) (h : AggRow w (tableF t) [.int .i64 t.X0, .int .i64 t.Y0, .int .i64 t.Step, .int .i64 t.Nx, .int .i64 t.Ny, .slice A5 n5 c5]) (hn5 : t.Cells.length = n5) (hr5 : Row w A5 (ints t.Cells)) (hI : tableFI t) (hl : n5 ≤ 1048576) (hk : tableOk t = true) :
    Calls Tryz.prog 18 #[.agg #[.int .i64 t.X0, .int .i64 t.Y0, .int .i64 t.Step, .int .i64 t.Nx, .int .i64 t.Ny, .slice A5 n5 c5]] w fun e w' => e = .returned (.int .i64 (coverN t.Cells)) ∧ Ext w w' := by
  have HT := Lib.hid (fun w h => implTableOk_any t [.int .i64 t.X0, .int .i64 t.Y0, .int .i64 t.Step, .int .i64 t.Nx, .int .i64 t.Ny, .slice A5 n5 c5] w h hI (by omega))
  rw [hk] at HT
  have HAg := Lib.hid h
  have HR := Lib.hid hr5
  have HN := Lib.hid hn5
  have hx : Ext w (w.alloc (.cells #[.int .i64 t.X0, .int .i64 t.Y0, .int .i64 t.Step, .int .i64 t.Nx, .int .i64 t.Ny, .slice A5 n5 c5] 34)) := (Ext.refl w).alloc _
  have bT := Blk.new w 34 #[.int .i64 t.X0, .int .i64 t.Y0, .int .i64 t.Step, .int .i64 t.Nx, .int .i64 t.Ny, .slice A5 n5 c5]
  clear h hr5 hn5 hI hk
  have cbT_176 := fun o => bT.cell o
  go_enter Tryz.func18, Tryz.ntmps18
  go_wp2_with fail
  refine (HT.out _ (HAg.out.ext hx)).mono ?_
  rintro e w1 ⟨rfl, hx1⟩
  replace hx := hx.trans hx1
  replace bT := bT.ext hx1
  have cbT_177 := fun o => bT.cell o
  have hr1 := Lib.hid (HR.out.ext hx)
  go_wp2
  go_loop [3, 12] (fun m i_ => ∃ k : Nat, k ≤ n5 ∧ i_ = .int .i64 k ∧ m = .int .i64 (coverN (t.Cells.take k))) (fun _ i_ => n5 - (intOf i_).toNat)
  case atStart => exact ⟨0, by omega, rfl, rfl⟩
  case round =>
  obtain ⟨k, hk, rfl, rfl⟩ := hrel
  by_cases hlt : k < n5
  rotate_left
  · obtain rfl : k = n5 := by omega
    have HE : Hid (t.Cells.take k = t.Cells) := List.take_of_length_le (by rw [HN.out]; exact Nat.le_refl _)
    go_wp2
    go_ret
    exact ⟨ret_int (by rw [HE.out]), hx⟩
  have hkl : k < t.Cells.length := by rw [HN.out]; exact hlt
  obtain ⟨b1, o1, rfl, hb1, y0⟩ := hr1.out.int (k := k) hkl
  have hbd := coverN_bd (t.Cells.take k)
  have hle2 : (t.Cells.take k).length ≤ k := List.length_take_le _ _
  have HS := Lib.hid (coverN_step hkl)
  obtain ⟨z, hz_⟩ : ∃ z, t.Cells[k]'hkl = z := ⟨_, rfl⟩
  rw [hz_] at y0 HS
  clear hz_ hkl
  by_cases hno : z = -1000000
  · have hnb : (z != -1000000) = false := by simpa using hno
    have H2 : Hid (coverN (t.Cells.take (k + 1)) = coverN (t.Cells.take k)) := by rw [Hid, HS.out, if_pos hno, Int.add_zero]
    clear hno
    go_wp2
    go_round
    case rel => exact ⟨k + 1, by omega, by go_num, by rw [H2.out]⟩
    case measure => simp [intOf]; omega
  · have hnb : (z != -1000000) = true := by simpa using hno
    have H2 : Hid (coverN (t.Cells.take (k + 1)) = coverN (t.Cells.take k) + 1) := by rw [Hid, HS.out, if_neg hno]
    clear hno
    go_wp2
    go_round
    case rel => exact ⟨k + 1, by omega, by go_num, by rw [H2.out]⟩
    case measure => simp [intOf]; omega
end Go.Proofs.YtjghabbcjpfjeaaGreatDoor
/- Contracts of FillTable and CheckTable of the program. (written by tools/mkTf.py) -/
namespace Go.Proofs.YtjghabbcjpfjeaaGreatDoor
open Go.ChangeShapes Go.WideShapes Go.ChangeAt Go.RowKit
set_option linter.unusedVariables false
set_option maxRecDepth 100000

theorem tab_int_info : (Tryz.prog.info? 3).map (fun i => (i.zero, i.size, i.bytes)) = some (some (.int .i64 0), 1, 8) := by kernel_rfl
theorem fillK_at {r : Room} {P E : List Half} {ok : Bool} {t : Table} {wish : Int} {nx i j : Nat} (hnx : t.Nx.toNat = nx) (hi : i < nx) : fillK r P E ok t wish (j * nx + i) = fillC r P E ok t wish (i : Int) (j : Int) := by
  unfold fillK
  rw [hnx]
  have e1 : (j * nx + i) % nx = i := by rw [Nat.mul_comm, Nat.mul_add_mod, Nat.mod_eq_of_lt hi]
  have e2 : (j * nx + i) / nx = j := by rw [Nat.mul_comm, Nat.mul_add_div (by omega), Nat.div_eq_of_lt hi, Nat.add_zero]
  rw [e1, e2]
theorem row_in {j nx ny : Nat} (h : j < ny) : j * nx + nx ≤ nx * ny := by
  have := Nat.mul_le_mul_right nx (show j + 1 ≤ ny by omega)
  rw [Nat.succ_mul] at this
  rw [Nat.mul_comm nx ny]
  exact this
/-- a filled table is made -/
def FillMade (r : Room) (P E : List Half) (okE : Bool) (t : Table) (wish : Int) (N : Nat) (w : World) (e : Ending) (w' : World) : Prop :=
  ∃ B d, e = .returned (.tuple #[.agg #[.int .i64 t.X0, .int .i64 t.Y0, .int .i64 t.Step, .int .i64 t.Nx, .int .i64 t.Ny, .slice B N d], .bool true]) ∧ w'.ownsRow w.heap.size 3 1 (.slice B N d) N (ints (cellsTo r P E okE t wish N)) ∧ Ext w w'
set_option maxHeartbeats 64000000 in
theorem implFillTable_ok (r : Room) (A0 A6 A7 : Option Addr) (c0 c6 c7 : Nat) (A : Option Addr) (n c : Nat) (P E : List Half) (okE : Bool) (t : Table) (A5 : Option Addr) (n5 c5 : Nat) (wish : Int) (nx ny : Nat) (w : World) (hv : RoomV r) (ha : RoomHere w r A0 A6 A7 c0 c6 c7) (hn : P.length = n) (hr : Row w A (ints (flat Half.ints P))) (hP : regOk P = true) (hE : robR P r.Noise = (E, okE)) (hg : gridOk t = true) (hwi : -1000 ≤ wish ∧ wish ≤ 1000) (h : AggRow w (tableF t) [.int .i64 t.X0, .int .i64 t.Y0, .int .i64 t.Step, .int .i64 t.Nx, .int .i64 t.Ny, .slice A5 n5 c5]) (hI : tableFI t) (hnx : t.Nx.toNat = nx) (hny : t.Ny.toNat = ny) :
    Calls Tryz.prog 7 #[.agg #[.slice A0 r.Map.length c0, .int .i64 r.Div, .int .i64 r.Bx, .int .i64 r.By, .int .i64 r.Low, .int .i64 r.High, .slice A6 r.Noise.length c6, .slice A7 r.Limits.length c7], .agg #[.slice A n c], .agg #[.int .i64 t.X0, .int .i64 t.Y0, .int .i64 t.Step, .int .i64 t.Nx, .int .i64 t.Ny, .slice A5 n5 c5], .int .i64 wish] w (FillMade r P E okE t wish (nx * ny) w) := by
  obtain ⟨i0, hi0, hz0, hz1, hz2⟩ := info_parts tab_int_info
  have ew : inR wish (-1000) 1000 = true := by unfold inR; simp only [Bool.and_eq_true, decide_eq_true_eq]; exact hwi
  have HG := Lib.hid (fun w h => implGrid_any t [.int .i64 t.X0, .int .i64 t.Y0, .int .i64 t.Step, .int .i64 t.Nx, .int .i64 t.Ny, .slice A5 n5 c5] w h hI)
  rw [hg] at HG
  have HRo := Lib.hid (fun w ha => implRoomOk_any r A0 A6 A7 c0 c6 c7 w ha hv.fi.1 hv.fi.2)
  rw [hv.ok] at HRo
  have hl : n ≤ 40 := by have := regOk_len hP; omega
  have HO := Lib.hid (fun w hr => implRegionOk_any A n c P w hn hr (halves_I (regOk_all hP)) (by unfold maxLen; omega))
  rw [hP] at HO
  have HRb := Lib.hid (fun w ha hr => implRobustOf_ok r A0 A6 A7 c0 c6 c7 A n c P w hv ha hn hr hP)
  rw [hE] at HRb
  have HSp := Lib.hid (fun A3 c3 (i j : Int) hi hj w ha hr hr3 => implSpanOfCell_ok r A0 A6 A7 c0 c6 c7 A n c P A3 E.length c3 E t A5 n5 c5 i j w hv ha hn hr hP rfl hr3 (rob_reg hE) hg hi hj)
  have HNo := Lib.hid (fun i j h => fillC_no (r := r) (P := P) (E := E) (ok := okE) (t := t) (wish := wish) (i := i) (j := j) h)
  have HYes := Lib.hid (fun i j h => fillC_yes (r := r) (P := P) (E := E) (ok := okE) (t := t) (wish := wish) (i := i) (j := j) h)
  have HAt := Lib.hid (fun (i j : Nat) (h : i < nx) => fillK_at (r := r) (P := P) (E := E) (ok := okE) (t := t) (wish := wish) (j := j) hnx h)
  have HSuc := Lib.hid (fun k => cellsTo_succ r P E okE t wish k)
  have hgb := grid_b hg
  have hgn := (grid_n hg).1
  rw [hnx, hny] at hgn
  obtain ⟨g1, g2⟩ := hgb.nx
  obtain ⟨g3, g4⟩ := hgb.ny
  have x1 : t.Nx ≤ (nx : Int) := by omega
  have x2 : (nx : Int) ≤ t.Nx := by omega
  have y1 : t.Ny ≤ (ny : Int) := by omega
  have y2 : (ny : Int) ≤ t.Ny := by omega
  have HAg := Lib.hid h
  have HA := Lib.hid ha
  have HR := Lib.hid hr
  have hx : Ext w ((((w.alloc (.cells #[.slice A0 r.Map.length c0, .int .i64 r.Div, .int .i64 r.Bx, .int .i64 r.By, .int .i64 r.Low, .int .i64 r.High, .slice A6 r.Noise.length c6, .slice A7 r.Limits.length c7] 28)).alloc (.cells #[.slice A n c] 26)).alloc (.cells #[.int .i64 t.X0, .int .i64 t.Y0, .int .i64 t.Step, .int .i64 t.Nx, .int .i64 t.Ny, .slice A5 n5 c5] 34)).alloc (.cells #[.int .i64 0, .int .i64 0, .int .i64 0, .int .i64 0, .int .i64 0, .slice none 0 0] 34)) := by repeat (first | exact Ext.refl _ | refine Ext.alloc ?_ _)
  have bM : Blk ((((w.alloc (.cells #[.slice A0 r.Map.length c0, .int .i64 r.Div, .int .i64 r.Bx, .int .i64 r.By, .int .i64 r.Low, .int .i64 r.High, .slice A6 r.Noise.length c6, .slice A7 r.Limits.length c7] 28)).alloc (.cells #[.slice A n c] 26)).alloc (.cells #[.int .i64 t.X0, .int .i64 t.Y0, .int .i64 t.Step, .int .i64 t.Nx, .int .i64 t.Ny, .slice A5 n5 c5] 34)).alloc (.cells #[.int .i64 0, .int .i64 0, .int .i64 0, .int .i64 0, .int .i64 0, .slice none 0 0] 34)) (w.heap.size) 28 #[.slice A0 r.Map.length c0, .int .i64 r.Div, .int .i64 r.Bx, .int .i64 r.By, .int .i64 r.Low, .int .i64 r.High, .slice A6 r.Noise.length c6, .slice A7 r.Limits.length c7] := by
    have q := Blk.new w 28 #[.slice A0 r.Map.length c0, .int .i64 r.Div, .int .i64 r.Bx, .int .i64 r.By, .int .i64 r.Low, .int .i64 r.High, .slice A6 r.Noise.length c6, .slice A7 r.Limits.length c7]
    replace q := q.alloc (.cells #[.slice A n c] 26)
    replace q := q.alloc (.cells #[.int .i64 t.X0, .int .i64 t.Y0, .int .i64 t.Step, .int .i64 t.Nx, .int .i64 t.Ny, .slice A5 n5 c5] 34)
    replace q := q.alloc (.cells #[.int .i64 0, .int .i64 0, .int .i64 0, .int .i64 0, .int .i64 0, .slice none 0 0] 34)
    simpa only [World.size_alloc] using q
  have bP : Blk ((((w.alloc (.cells #[.slice A0 r.Map.length c0, .int .i64 r.Div, .int .i64 r.Bx, .int .i64 r.By, .int .i64 r.Low, .int .i64 r.High, .slice A6 r.Noise.length c6, .slice A7 r.Limits.length c7] 28)).alloc (.cells #[.slice A n c] 26)).alloc (.cells #[.int .i64 t.X0, .int .i64 t.Y0, .int .i64 t.Step, .int .i64 t.Nx, .int .i64 t.Ny, .slice A5 n5 c5] 34)).alloc (.cells #[.int .i64 0, .int .i64 0, .int .i64 0, .int .i64 0, .int .i64 0, .slice none 0 0] 34)) (w.heap.size + 1) 26 #[.slice A n c] := by
    have q := Blk.new (w.alloc (.cells #[.slice A0 r.Map.length c0, .int .i64 r.Div, .int .i64 r.Bx, .int .i64 r.By, .int .i64 r.Low, .int .i64 r.High, .slice A6 r.Noise.length c6, .slice A7 r.Limits.length c7] 28)) 26 #[.slice A n c]
    replace q := q.alloc (.cells #[.int .i64 t.X0, .int .i64 t.Y0, .int .i64 t.Step, .int .i64 t.Nx, .int .i64 t.Ny, .slice A5 n5 c5] 34)
    replace q := q.alloc (.cells #[.int .i64 0, .int .i64 0, .int .i64 0, .int .i64 0, .int .i64 0, .slice none 0 0] 34)
    simpa only [World.size_alloc] using q
  have bT : Blk ((((w.alloc (.cells #[.slice A0 r.Map.length c0, .int .i64 r.Div, .int .i64 r.Bx, .int .i64 r.By, .int .i64 r.Low, .int .i64 r.High, .slice A6 r.Noise.length c6, .slice A7 r.Limits.length c7] 28)).alloc (.cells #[.slice A n c] 26)).alloc (.cells #[.int .i64 t.X0, .int .i64 t.Y0, .int .i64 t.Step, .int .i64 t.Nx, .int .i64 t.Ny, .slice A5 n5 c5] 34)).alloc (.cells #[.int .i64 0, .int .i64 0, .int .i64 0, .int .i64 0, .int .i64 0, .slice none 0 0] 34)) (w.heap.size + 1 + 1) 34 #[.int .i64 t.X0, .int .i64 t.Y0, .int .i64 t.Step, .int .i64 t.Nx, .int .i64 t.Ny, .slice A5 n5 c5] := by
    have q := Blk.new ((w.alloc (.cells #[.slice A0 r.Map.length c0, .int .i64 r.Div, .int .i64 r.Bx, .int .i64 r.By, .int .i64 r.Low, .int .i64 r.High, .slice A6 r.Noise.length c6, .slice A7 r.Limits.length c7] 28)).alloc (.cells #[.slice A n c] 26)) 34 #[.int .i64 t.X0, .int .i64 t.Y0, .int .i64 t.Step, .int .i64 t.Nx, .int .i64 t.Ny, .slice A5 n5 c5]
    replace q := q.alloc (.cells #[.int .i64 0, .int .i64 0, .int .i64 0, .int .i64 0, .int .i64 0, .slice none 0 0] 34)
    simpa only [World.size_alloc] using q
  have bR : Blk ((((w.alloc (.cells #[.slice A0 r.Map.length c0, .int .i64 r.Div, .int .i64 r.Bx, .int .i64 r.By, .int .i64 r.Low, .int .i64 r.High, .slice A6 r.Noise.length c6, .slice A7 r.Limits.length c7] 28)).alloc (.cells #[.slice A n c] 26)).alloc (.cells #[.int .i64 t.X0, .int .i64 t.Y0, .int .i64 t.Step, .int .i64 t.Nx, .int .i64 t.Ny, .slice A5 n5 c5] 34)).alloc (.cells #[.int .i64 0, .int .i64 0, .int .i64 0, .int .i64 0, .int .i64 0, .slice none 0 0] 34)) (w.heap.size + 1 + 1 + 1) 34 #[.int .i64 0, .int .i64 0, .int .i64 0, .int .i64 0, .int .i64 0, .slice none 0 0] := by
    have q := Blk.new (((w.alloc (.cells #[.slice A0 r.Map.length c0, .int .i64 r.Div, .int .i64 r.Bx, .int .i64 r.By, .int .i64 r.Low, .int .i64 r.High, .slice A6 r.Noise.length c6, .slice A7 r.Limits.length c7] 28)).alloc (.cells #[.slice A n c] 26)).alloc (.cells #[.int .i64 t.X0, .int .i64 t.Y0, .int .i64 t.Step, .int .i64 t.Nx, .int .i64 t.Ny, .slice A5 n5 c5] 34)) 34 #[.int .i64 0, .int .i64 0, .int .i64 0, .int .i64 0, .int .i64 0, .slice none 0 0]
    simpa only [World.size_alloc] using q
  clear hv ha hn hr hP hE hg hwi h hI hnx hny hgb
  have cbM_178 := fun o => bM.cell o
  have cbP_179 := fun o => bP.cell o
  have cbT_180 := fun o => bT.cell o
  have cbR_181 := fun o => bR.cell o
  have fbR_181 := fun o => bR.frozen o
  go_enter Tryz.func7, Tryz.ntmps7
  go_wp2_with fail
  refine (inRange_any _ _ _ _).mono ?_
  rintro e w0 ⟨rfl, rfl⟩
  rw [ew]
  clear ew
  go_wp2_with fail
  refine (HG.out _ (HAg.out.ext hx)).mono ?_
  rintro e w1 ⟨rfl, hx1⟩
  replace hx := hx.trans hx1
  replace bM := bM.ext hx1
  replace bP := bP.ext hx1
  replace bT := bT.ext hx1
  replace bR := bR.ext hx1
  have cbM_182 := fun o => bM.cell o
  have cbP_183 := fun o => bP.cell o
  have cbT_184 := fun o => bT.cell o
  have cbR_185 := fun o => bR.cell o
  have fbR_185 := fun o => bR.frozen o
  go_wp2_with fail
  refine (HRo.out _ (HA.out.ext hx).at_).mono ?_
  rintro e w2 ⟨rfl, hx2⟩
  replace hx := hx.trans hx2
  replace bM := bM.ext hx2
  replace bP := bP.ext hx2
  replace bT := bT.ext hx2
  replace bR := bR.ext hx2
  have cbM_186 := fun o => bM.cell o
  have cbP_187 := fun o => bP.cell o
  have cbT_188 := fun o => bT.cell o
  have cbR_189 := fun o => bR.cell o
  have fbR_189 := fun o => bR.frozen o
  go_wp2_with fail
  refine (HO.out _ (HR.out.ext hx)).mono ?_
  rintro e w3 ⟨rfl, hx3⟩
  replace hx := hx.trans hx3
  replace bM := bM.ext hx3
  replace bP := bP.ext hx3
  replace bT := bT.ext hx3
  replace bR := bR.ext hx3
  have cbM_190 := fun o => bM.cell o
  have cbP_191 := fun o => bP.cell o
  have cbT_192 := fun o => bT.cell o
  have cbR_193 := fun o => bR.cell o
  have fbR_193 := fun o => bR.frozen o
  go_wp2_with fail
  refine (HRb.out _ (HA.out.ext hx) (HR.out.ext hx)).mono ?_
  rintro e w4 ⟨A1, c1, n1, rfl, hn1, hx4, hown1⟩
  have lR := bR.lt
  replace hx := hx.trans hx4
  replace bM := bM.ext hx4
  replace bP := bP.ext hx4
  replace bT := bT.ext hx4
  replace bR := bR.ext hx4
  have cbM_194 := fun o => bM.cell o
  have cbP_195 := fun o => bP.cell o
  have cbT_196 := fun o => bT.cell o
  have cbR_197 := fun o => bR.cell o
  have fbR_197 := fun o => bR.frozen o
  obtain rfl : n1 = E.length := hn1
  have lR4 := bR.lt
  have bE := Blk.new w4 26 #[.slice A1 E.length c1]
  have ha4 := (Ext.refl w4).alloc (.cells #[.slice A1 E.length c1] 26)
  replace hx := hx.trans ha4
  replace bM := bM.ext ha4
  replace bP := bP.ext ha4
  replace bT := bT.ext ha4
  replace bR := bR.ext ha4
  have cbM_198 := fun o => bM.cell o
  have cbP_199 := fun o => bP.cell o
  have cbT_200 := fun o => bT.cell o
  have cbR_201 := fun o => bR.cell o
  have fbR_201 := fun o => bR.frozen o
  have rE : Row (w4.alloc (.cells #[.slice A1 E.length c1] 26)) A1 (ints (flat Half.ints E)) := (Row.of_own hown1).ext ha4
  have HEx : Hid (∀ V, Ext (w4.alloc (.cells #[.slice A1 E.length c1] 26)) V → Row V A1 (ints (flat Half.ints E))) := fun V h => rE.ext h
  clear rE hown1 ha4
  have bO := Blk.new (w4.alloc (.cells #[.slice A1 E.length c1] 26)) 34 #[.int .i64 t.X0, .int .i64 t.Y0, .int .i64 t.Step, .int .i64 t.Nx, .int .i64 t.Ny, .slice none 0 0]
  have hO := (Ext.refl (w4.alloc (.cells #[.slice A1 E.length c1] 26))).alloc (.cells #[.int .i64 t.X0, .int .i64 t.Y0, .int .i64 t.Step, .int .i64 t.Nx, .int .i64 t.Ny, .slice none 0 0] 34)
  simp only [World.size_alloc] at bO
  have hle0 : w4.heap.size + 2 ≤ ((w4.alloc (.cells #[.slice A1 E.length c1] 26)).alloc (.cells #[.int .i64 t.X0, .int .i64 t.Y0, .int .i64 t.Step, .int .i64 t.Nx, .int .i64 t.Ny, .slice none 0 0] 34)).heap.size := by simp only [World.size_alloc]; omega
  have sW1 : (w4.alloc (.cells #[.slice A1 E.length c1] 26)).heap.size = w4.heap.size + 1 := by rw [World.size_alloc]
  have SW1 := Lib.hid sW1
  clear sW1
  have cT := fun o => bT.cell o
  have cT2 := fun o => (bT.ext hO).cell o
  have n1 : ¬ w.heap.size + 1 = w4.heap.size := by omega
  have n2 : ¬ w4.heap.size = w.heap.size + 1 := by omega
  go_wp2
  go_loopw [47] (fun jv wr => ∃ (jn m : Nat) (B : Option Addr) (d : Nat), jn ≤ ny ∧ jv = .int .i64 jn ∧ Hid (m = jn * nx) ∧ Ext (w4.alloc (.cells #[.slice A1 E.length c1] 26)) wr ∧ w4.heap.size + 2 ≤ wr.heap.size ∧ Blk wr (w4.heap.size + 1) 34 #[.int .i64 t.X0, .int .i64 t.Y0, .int .i64 t.Step, .int .i64 t.Nx, .int .i64 t.Ny, .slice B (m) d] ∧ wr.ownsRow (w4.heap.size + 2) 3 1 (.slice B (m) d) (m) (ints (cellsTo r P E okE t wish (m)))) (fun jv _ => ny - (intOf jv).toNat)
  case atStart => exact ⟨0, 0, none, 0, Nat.zero_le _, rfl, Lib.hid (Nat.zero_mul nx).symm, hO, hle0, bO, World.ownsRow_nil _ _ _ _⟩
  case round =>
  clear bO hle0 hO
  obtain ⟨jn, m, B, d, hjn, rfl, Hm, hz, hsz, bO, own⟩ := hrel
  have bR2 := bR.ext hz
  have lR5 := bR.lt
  rw [SW1.out] at lR5
  by_cases hjl : jn < ny
  rotate_left
  · obtain rfl : jn = ny := by omega
    have e1 : m = nx * jn := by rw [Hm.out, Nat.mul_comm]
    have E1 := Lib.hid e1
    clear e1
    have cO := fun o => bO.cell o
    have cR := fun o => bR2.cell o
    have fR := fun o => bR2.frozen o
    go_wp2
    have bF := ((((((bR2.set_ 0 (.int .i64 t.X0)).set_ 1 (.int .i64 t.Y0)).set_ 2 (.int .i64 t.Step)).set_ 3 (.int .i64 t.Nx)).set_ 4 (.int .i64 t.Ny)).set_ 5 (.slice B m d))
    have cF := fun o => bF.cell o
    clear cR
    refine bodyPost_ret (v := .tuple #[.agg #[.int .i64 t.X0, .int .i64 t.Y0, .int .i64 t.Step, .int .i64 t.Nx, .int .i64 t.Ny, .slice B m d], .bool true]) (by simp [results, Tryz.results7, go_sem, cF]) rfl ?_
    have hxF := hx.trans hz
    rw [← E1.out]
    have ownF := (own_far (own_far (own_far (own_far (own_far (own_far own (p := ⟨w.heap.size + 1 + 1 + 1, 0, none⟩) (by show w.heap.size + 1 + 1 + 1 < w4.heap.size + 2; omega) (.int .i64 t.X0)) (p := ⟨w.heap.size + 1 + 1 + 1, 1, none⟩) (by show w.heap.size + 1 + 1 + 1 < w4.heap.size + 2; omega) (.int .i64 t.Y0)) (p := ⟨w.heap.size + 1 + 1 + 1, 2, none⟩) (by show w.heap.size + 1 + 1 + 1 < w4.heap.size + 2; omega) (.int .i64 t.Step)) (p := ⟨w.heap.size + 1 + 1 + 1, 3, none⟩) (by show w.heap.size + 1 + 1 + 1 < w4.heap.size + 2; omega) (.int .i64 t.Nx)) (p := ⟨w.heap.size + 1 + 1 + 1, 4, none⟩) (by show w.heap.size + 1 + 1 + 1 < w4.heap.size + 2; omega) (.int .i64 t.Ny)) (p := ⟨w.heap.size + 1 + 1 + 1, 5, none⟩) (by show w.heap.size + 1 + 1 + 1 < w4.heap.size + 2; omega) (.slice B m d))
    refine ⟨B, d, rfl, own_base ownF (by omega), ?_⟩
    repeat (first | (with_reducible exact hxF) | refine Ext.setCell ?_ (by simp only; omega) _)
  obtain ⟨wo, rfl⟩ : ∃ W, W = wr := ⟨_, rfl⟩
  have hrow := row_in (nx := nx) hjl
  rw [← Hm.out] at hrow
  have HM2 : Hid (∀ i, i < nx → fillK r P E okE t wish (m + i) = fillC r P E okE t wish (i : Int) (jn : Int)) := fun i hi => by rw [Hm.out]; exact HAt.out i jn hi
  have cT3 := fun o => (bT.ext hz).cell o
  have hjd : decide ((jn : Int) < t.Ny) = true := decide_eq_true (by omega)
  go_wp2
  clear cT3
  go_loopw [52] (fun iv wr => ∃ (i M : Nat) (B : Option Addr) (d : Nat), i ≤ nx ∧ iv = .int .i64 i ∧ Hid (M = m + i) ∧ Ext (w4.alloc (.cells #[.slice A1 E.length c1] 26)) wr ∧ w4.heap.size + 2 ≤ wr.heap.size ∧ Blk wr (w4.heap.size + 1) 34 #[.int .i64 t.X0, .int .i64 t.Y0, .int .i64 t.Step, .int .i64 t.Nx, .int .i64 t.Ny, .slice B (M) d] ∧ wr.ownsRow (w4.heap.size + 2) 3 1 (.slice B (M) d) (M) (ints (cellsTo r P E okE t wish (M)))) (fun iv _ => nx - (intOf iv).toNat)
  case atStart => exact ⟨0, m, B, d, Nat.zero_le _, rfl, Lib.hid rfl, hz, hsz, bO, own⟩
  case round =>
  clear hz hsz bO own bR2 lR5
  obtain ⟨i, M, B, d, hi, rfl, HM, hz, hsz, bO, own⟩ := hrel
  by_cases hil : i < nx
  rotate_left
  · go_wp2
    go_roundw
    case rel => exact ⟨jn + 1, M, B, d, by omega, by go_num, Lib.hid (by rw [HM.out, Hm.out, Nat.succ_mul, show i = nx by omega]), hz, hsz, bO, own⟩
    case measure => simp [intOf]; omega
  have hMb : M < nx * ny := by have := HM.out; omega
  obtain ⟨z, hz_⟩ : ∃ z, fillC r P E okE t wish (i : Int) (jn : Int) = z := ⟨_, rfl⟩
  have HCn : Hid (cellsTo r P E okE t wish (M + 1) = cellsTo r P E okE t wish M ++ [z]) := by rw [Hid, HSuc.out M, HM.out, HM2.out i hil, hz_]
  have HN2 := Lib.hid (fun h => HNo.out (i : Int) (jn : Int) h)
  have HY2 := Lib.hid (fun h => HYes.out (i : Int) (jn : Int) h)
  rw [hz_] at HN2 HY2
  clear hz_
  have HSp2 := Lib.hid (fun w ha hr hr3 => HSp.out A1 c1 (i : Int) (jn : Int) ⟨by omega, by omega⟩ ⟨by omega, by omega⟩ w ha hr hr3)
  have HSk : Hid ((cellR r P E t (i : Int) (jn : Int)).2 = true → spanOk (cellR r P E t (i : Int) (jn : Int)).1 = true) := cellR_span
  generalize cellR r P E t (i : Int) (jn : Int) = CR at *
  have hid_ : decide ((i : Int) < t.Nx) = true := decide_eq_true (by omega)
  go_upto_if 55 with (fail)
  go_cut [15] from 54 to 69 (fun v wx => v = .int .i64 z ∧ Ext wr wx)
  case first =>
    cases okE
    · go_wp2_with fail
      go_meet
      case rel => exact ⟨by rw [HN2.out (by simp)], Ext.refl _⟩
    have cM9 := fun o => (bM.ext hz).cell o
    have cP9 := fun o => (bP.ext hz).cell o
    have cT9 := fun o => (bT.ext hz).cell o
    have cE9 := fun o => (bE.ext hz).cell o
    go_wp2_with fail
    refine (HSp2.out _ (HA.out.ext (hx.trans hz)) (HR.out.ext (hx.trans hz)) (HEx.out _ hz)).mono ?_
    rintro e w5 ⟨rfl, hx5⟩
    obtain ⟨⟨⟨s0, s1⟩, ⟨s2, s3⟩⟩, ok⟩ := CR
    dsimp only at *
    have bS := Blk.new w5 46 #[.int .i64 s0, .int .i64 s1, .int .i64 s2, .int .i64 s3]
    have cS := fun o => bS.cell o
    cases ok
    · go_wp2_with fail
      go_meet
      case rel => exact ⟨by rw [HN2.out (by simp)], hx5.alloc _⟩
    obtain ⟨⟨k0, k1⟩, ⟨k2, k3⟩⟩ := span_I (HSk.out rfl)
    simp only at k0 k1 k2 k3
    have HNr := Lib.hid (fun w => implNearest_any s0 s1 s2 s3 wish w k0 k1 k2 k3)
    rw [← HY2.out ⟨by first | rfl | trivial, by first | rfl | trivial⟩] at HNr
    clear k0 k1 k2 k3
    go_wp2_with fail
    refine (HNr.out _).mono ?_
    rintro e w6 ⟨rfl, hx6⟩
    go_wp2_with fail
    go_meet
    case rel => exact ⟨rfl, (hx5.alloc _).trans hx6⟩
  case rest =>
  obtain ⟨rfl, hxc⟩ := hcut
  have hsc := hxc.size
  replace hz := hz.trans hxc
  replace bO := bO.ext hxc
  replace own := own_ext own hxc
  have cO := fun o => bO.cell o
  have fO := fun o => bO.frozen o
  clear HSp2 HSk HN2 HY2
  go_wp2_with (at_builtin; (refine wpList_append_own _ rfl _ _ 23 rfl (w4.heap.size + 2) 3 i0 (.int .i64 0) 1 8 Tryz.underlying23 hi0 hz0 hz1 hz2 rfl (by decide) _ _ _ rfl (own.alloc _) ⟨wc.heap.size, 0, none⟩ 1 1 [.int .i64 z] rfl rfl (cell_one_new _ _ _) (by simp [Value.oneCell']) (by unfold maxLen; omega) (by omega) (by simp; omega) ?_); intro v' w7 own' hgrow _; obtain ⟨B', d', rfl⟩ := own_form own'; have hgs := hgrow.size; simp only [World.size_alloc] at hgs; have bO7 := (bO.alloc (.cells #[.int .i64 z] 3)).grown hgrow (fun e => by have q := (own_lt own e).1; omega); have cO7 := fun o => bO7.cell o; have fO7 := fun o => bO7.frozen o; have hz7 := (hz.alloc (.cells #[.int .i64 z] 3)).grown hgrow (fun g hg => by have q := (own_lt own hg).1; have q2 := SW1.out; omega))
  have bOF := bO7.set_ 5 (.slice B' (M + 1) d')
  have ownF := own_far own' (p := ⟨w4.heap.size + 1, 5, none⟩) (by show w4.heap.size + 1 < w4.heap.size + 2; omega) (.slice B' (M + 1) d')
  have hzF := hz7.setCell (p := ⟨w4.heap.size + 1, 5, none⟩) (by have q2 := SW1.out; simp only at q2 ⊢; omega) (.slice B' (M + 1) d')
  go_roundw
  case rel => exact ⟨i + 1, M + 1, B', d', by omega, by go_num, Lib.hid (by rw [HM.out, Nat.add_assoc]), hzF, by simp only [World.size_setCell]; omega, bOF, by rw [HCn.out, ints_append]; exact ownF⟩
  case measure => simp [intOf]; omega
set_option maxHeartbeats 64000000 in
theorem implCheckTable_ok (r : Room) (A0 A6 A7 : Option Addr) (c0 c6 c7 : Nat) (A : Option Addr) (n c : Nat) (P E : List Half) (okE : Bool) (t : Table) (A5 : Option Addr) (n5 c5 : Nat) (nx : Nat) (w : World) (hv : RoomV r) (ha : RoomHere w r A0 A6 A7 c0 c6 c7) (hn : P.length = n) (hr : Row w A (ints (flat Half.ints P))) (hP : regOk P = true) (hE : robR P r.Noise = (E, okE)) (h : AggRow w (tableF t) [.int .i64 t.X0, .int .i64 t.Y0, .int .i64 t.Step, .int .i64 t.Nx, .int .i64 t.Ny, .slice A5 n5 c5]) (hn5 : t.Cells.length = n5) (hr5 : Row w A5 (ints t.Cells)) (hI : tableFI t) (hk : tableOk t = true) (hnx : t.Nx.toNat = nx)
    (hF : ∀ k (hk : k < t.Cells.length), Filled r P E okE t ((k % nx : Nat) : Int) ((k / nx : Nat) : Int) t.Cells[k]) :
    Calls Tryz.prog 9 #[.agg #[.slice A0 r.Map.length c0, .int .i64 r.Div, .int .i64 r.Bx, .int .i64 r.By, .int .i64 r.Low, .int .i64 r.High, .slice A6 r.Noise.length c6, .slice A7 r.Limits.length c7], .agg #[.slice A n c], .agg #[.int .i64 t.X0, .int .i64 t.Y0, .int .i64 t.Step, .int .i64 t.Nx, .int .i64 t.Ny, .slice A5 n5 c5]] w fun e w' => e = .returned (.int .i64 (-1)) ∧ Ext w w' := by
  have hg := (tableOk_grid hk).1
  have hcl := (tableOk_grid hk).2.1
  have hgb := grid_b hg
  have hgn := grid_n hg
  rw [hnx] at hgn
  have hl : n5 ≤ 400 := by omega
  have HT := Lib.hid (fun w h => implTableOk_any t [.int .i64 t.X0, .int .i64 t.Y0, .int .i64 t.Step, .int .i64 t.Nx, .int .i64 t.Ny, .slice A5 n5 c5] w h hI (by omega))
  rw [hk] at HT
  have HRo := Lib.hid (fun w ha => implRoomOk_any r A0 A6 A7 c0 c6 c7 w ha hv.fi.1 hv.fi.2)
  rw [hv.ok] at HRo
  have hn40 : n ≤ 40 := by have := regOk_len hP; omega
  have HO := Lib.hid (fun w hr => implRegionOk_any A n c P w hn hr (halves_I (regOk_all hP)) (by unfold maxLen; omega))
  rw [hP] at HO
  have HRb := Lib.hid (fun w ha hr => implRobustOf_ok r A0 A6 A7 c0 c6 c7 A n c P w hv ha hn hr hP)
  rw [hE] at HRb
  have HSp := Lib.hid (fun A3 c3 (i j : Int) hi hj w ha hr hr3 => implSpanOfCell_ok r A0 A6 A7 c0 c6 c7 A n c P A3 E.length c3 E t A5 n5 c5 i j w hv ha hn hr hP rfl hr3 (rob_reg hE) hg hi hj)
  have HPl : Hid (∀ k, k < n5 → (0 ≤ ((k % nx : Nat) : Int) ∧ ((k % nx : Nat) : Int) < t.Nx) ∧ (0 ≤ ((k / nx : Nat) : Int) ∧ ((k / nx : Nat) : Int) < t.Ny)) := fun k hk => by
    have := place_in hg (k := k) (by rw [hnx]; omega)
    rw [hnx] at this
    exact this
  have HFl := Lib.hid hF
  obtain ⟨g1, g2⟩ := hgb.nx
  obtain ⟨g3, g4⟩ := hgb.ny
  have x1 : t.Nx ≤ (nx : Int) := by omega
  have x2 : (nx : Int) ≤ t.Nx := by omega
  have x3 : ¬ t.Nx = 0 := by omega
  have x4 : (t.Nx == 0) = false := beq_false_of_ne x3
  have HAg := Lib.hid h
  have HA := Lib.hid ha
  have HR := Lib.hid hr
  have HR5 := Lib.hid hr5
  have HN5 := Lib.hid hn5
  have HNx : Hid (t.Nx = (nx : Int)) := by show t.Nx = (nx : Int); omega
  have hx : Ext w (((w.alloc (.cells #[.slice A0 r.Map.length c0, .int .i64 r.Div, .int .i64 r.Bx, .int .i64 r.By, .int .i64 r.Low, .int .i64 r.High, .slice A6 r.Noise.length c6, .slice A7 r.Limits.length c7] 28)).alloc (.cells #[.slice A n c] 26)).alloc (.cells #[.int .i64 t.X0, .int .i64 t.Y0, .int .i64 t.Step, .int .i64 t.Nx, .int .i64 t.Ny, .slice A5 n5 c5] 34)) := by repeat (first | exact Ext.refl _ | refine Ext.alloc ?_ _)
  have bM : Blk (((w.alloc (.cells #[.slice A0 r.Map.length c0, .int .i64 r.Div, .int .i64 r.Bx, .int .i64 r.By, .int .i64 r.Low, .int .i64 r.High, .slice A6 r.Noise.length c6, .slice A7 r.Limits.length c7] 28)).alloc (.cells #[.slice A n c] 26)).alloc (.cells #[.int .i64 t.X0, .int .i64 t.Y0, .int .i64 t.Step, .int .i64 t.Nx, .int .i64 t.Ny, .slice A5 n5 c5] 34)) (w.heap.size) 28 #[.slice A0 r.Map.length c0, .int .i64 r.Div, .int .i64 r.Bx, .int .i64 r.By, .int .i64 r.Low, .int .i64 r.High, .slice A6 r.Noise.length c6, .slice A7 r.Limits.length c7] := by
    have q := Blk.new w 28 #[.slice A0 r.Map.length c0, .int .i64 r.Div, .int .i64 r.Bx, .int .i64 r.By, .int .i64 r.Low, .int .i64 r.High, .slice A6 r.Noise.length c6, .slice A7 r.Limits.length c7]
    replace q := q.alloc (.cells #[.slice A n c] 26)
    replace q := q.alloc (.cells #[.int .i64 t.X0, .int .i64 t.Y0, .int .i64 t.Step, .int .i64 t.Nx, .int .i64 t.Ny, .slice A5 n5 c5] 34)
    simpa only [World.size_alloc] using q
  have bP : Blk (((w.alloc (.cells #[.slice A0 r.Map.length c0, .int .i64 r.Div, .int .i64 r.Bx, .int .i64 r.By, .int .i64 r.Low, .int .i64 r.High, .slice A6 r.Noise.length c6, .slice A7 r.Limits.length c7] 28)).alloc (.cells #[.slice A n c] 26)).alloc (.cells #[.int .i64 t.X0, .int .i64 t.Y0, .int .i64 t.Step, .int .i64 t.Nx, .int .i64 t.Ny, .slice A5 n5 c5] 34)) (w.heap.size + 1) 26 #[.slice A n c] := by
    have q := Blk.new (w.alloc (.cells #[.slice A0 r.Map.length c0, .int .i64 r.Div, .int .i64 r.Bx, .int .i64 r.By, .int .i64 r.Low, .int .i64 r.High, .slice A6 r.Noise.length c6, .slice A7 r.Limits.length c7] 28)) 26 #[.slice A n c]
    replace q := q.alloc (.cells #[.int .i64 t.X0, .int .i64 t.Y0, .int .i64 t.Step, .int .i64 t.Nx, .int .i64 t.Ny, .slice A5 n5 c5] 34)
    simpa only [World.size_alloc] using q
  have bT : Blk (((w.alloc (.cells #[.slice A0 r.Map.length c0, .int .i64 r.Div, .int .i64 r.Bx, .int .i64 r.By, .int .i64 r.Low, .int .i64 r.High, .slice A6 r.Noise.length c6, .slice A7 r.Limits.length c7] 28)).alloc (.cells #[.slice A n c] 26)).alloc (.cells #[.int .i64 t.X0, .int .i64 t.Y0, .int .i64 t.Step, .int .i64 t.Nx, .int .i64 t.Ny, .slice A5 n5 c5] 34)) (w.heap.size + 1 + 1) 34 #[.int .i64 t.X0, .int .i64 t.Y0, .int .i64 t.Step, .int .i64 t.Nx, .int .i64 t.Ny, .slice A5 n5 c5] := by
    have q := Blk.new ((w.alloc (.cells #[.slice A0 r.Map.length c0, .int .i64 r.Div, .int .i64 r.Bx, .int .i64 r.By, .int .i64 r.Low, .int .i64 r.High, .slice A6 r.Noise.length c6, .slice A7 r.Limits.length c7] 28)).alloc (.cells #[.slice A n c] 26)) 34 #[.int .i64 t.X0, .int .i64 t.Y0, .int .i64 t.Step, .int .i64 t.Nx, .int .i64 t.Ny, .slice A5 n5 c5]
    simpa only [World.size_alloc] using q
  clear hv ha hn hr hP hE h hn5 hr5 hI hk hnx hF hg hcl hgb hgn
  have cbM_202 := fun o => bM.cell o
  have cbP_203 := fun o => bP.cell o
  have cbT_204 := fun o => bT.cell o
  go_enter Tryz.func9, Tryz.ntmps9
  go_wp2_with fail
  refine (HT.out _ (HAg.out.ext hx)).mono ?_
  rintro e w1 ⟨rfl, hx1⟩
  replace hx := hx.trans hx1
  replace bM := bM.ext hx1
  replace bP := bP.ext hx1
  replace bT := bT.ext hx1
  have cbM_205 := fun o => bM.cell o
  have cbP_206 := fun o => bP.cell o
  have cbT_207 := fun o => bT.cell o
  go_wp2_with fail
  refine (HRo.out _ (HA.out.ext hx).at_).mono ?_
  rintro e w2 ⟨rfl, hx2⟩
  replace hx := hx.trans hx2
  replace bM := bM.ext hx2
  replace bP := bP.ext hx2
  replace bT := bT.ext hx2
  have cbM_208 := fun o => bM.cell o
  have cbP_209 := fun o => bP.cell o
  have cbT_210 := fun o => bT.cell o
  go_wp2_with fail
  refine (HO.out _ (HR.out.ext hx)).mono ?_
  rintro e w3 ⟨rfl, hx3⟩
  replace hx := hx.trans hx3
  replace bM := bM.ext hx3
  replace bP := bP.ext hx3
  replace bT := bT.ext hx3
  have cbM_211 := fun o => bM.cell o
  have cbP_212 := fun o => bP.cell o
  have cbT_213 := fun o => bT.cell o
  go_wp2_with fail
  refine (HRb.out _ (HA.out.ext hx) (HR.out.ext hx)).mono ?_
  rintro e w4 ⟨A1, c1, n1, rfl, hn1, hx4, hown1⟩
  replace hx := hx.trans hx4
  replace bM := bM.ext hx4
  replace bP := bP.ext hx4
  replace bT := bT.ext hx4
  have cbM_214 := fun o => bM.cell o
  have cbP_215 := fun o => bP.cell o
  have cbT_216 := fun o => bT.cell o
  obtain rfl : n1 = E.length := hn1
  have lT4 := bT.lt
  have bE := Blk.new w4 26 #[.slice A1 E.length c1]
  have ha4 := (Ext.refl w4).alloc (.cells #[.slice A1 E.length c1] 26)
  replace hx := hx.trans ha4
  replace bM := bM.ext ha4
  replace bP := bP.ext ha4
  replace bT := bT.ext ha4
  have cbM_217 := fun o => bM.cell o
  have cbP_218 := fun o => bP.cell o
  have cbT_219 := fun o => bT.cell o
  have rE : Row (w4.alloc (.cells #[.slice A1 E.length c1] 26)) A1 (ints (flat Half.ints E)) := (Row.of_own hown1).ext ha4
  have HEx : Hid (∀ V, Ext (w4.alloc (.cells #[.slice A1 E.length c1] 26)) V → Row V A1 (ints (flat Half.ints E))) := fun V h => rE.ext h
  clear rE hown1
  have cbM_220 := fun o => bM.cell o
  have cbP_221 := fun o => bP.cell o
  have cbT_222 := fun o => bT.cell o
  have cbE_223 := fun o => bE.cell o
  go_wp2
  go_loopw [35] (fun i wr => ∃ k : Nat, k ≤ n5 ∧ i = .int .i64 k ∧ Ext (w4.alloc (.cells #[.slice A1 E.length c1] 26)) wr) (fun i _ => n5 - (intOf i).toNat)
  case atStart => exact ⟨0, Nat.zero_le _, rfl, Ext.refl _⟩
  case round =>
  obtain ⟨k, hk, rfl, hz⟩ := hrel
  have hsz := hz.size
  simp only [World.size_alloc] at hsz
  replace hx := hx.trans hz
  replace bM := bM.ext hz
  replace bP := bP.ext hz
  replace bT := bT.ext hz
  replace bE := bE.ext hz
  have cbM_224 := fun o => bM.cell o
  have cbP_225 := fun o => bP.cell o
  have cbT_226 := fun o => bT.cell o
  have cbE_227 := fun o => bE.cell o
  by_cases hlt : k < n5
  rotate_left
  · go_wp2
    go_ret
    exact ⟨rfl, hx⟩
  have hkl : k < t.Cells.length := by rw [HN5.out]; exact hlt
  obtain ⟨b1, o1, rfl, hb1, y0⟩ := (HR5.out.ext hx).int (k := k) hkl
  have HF0 := Lib.hid (HFl.out k hkl)
  obtain ⟨⟨p1, p2⟩, p3, p4⟩ := HPl.out k hlt
  have HR5o := Lib.hid y0
  obtain ⟨z, hz_⟩ : ∃ z, t.Cells[k]'hkl = z := ⟨_, rfl⟩
  rw [hz_] at y0 HF0
  clear hz_ HR5o hkl
  by_cases hno : z = -1000000
  · have hnb : (z == -1000000) = true := by simpa using hno
    clear hno
    go_wp2
    go_roundw
    case rel => exact ⟨k + 1, by omega, by go_num, hz⟩
    case measure => simp [intOf]; omega
  have hnb : (z == -1000000) = false := by simpa using hno
  obtain ⟨⟨f1, f2⟩, _, f3, _⟩ := HF0.out.full hno
  subst f1
  have hq1 : IntKind.i64.wrap ((k : Int).tmod t.Nx) = ((k % nx : Nat) : Int) := by
    rw [HNx.out, show (k : Int).tmod (nx : Int) = ((k % nx : Nat) : Int) from rfl]
    generalize k % nx = i2 at *
    exact IntWalk.i64_in _ (by omega)
  have hq2 : IntKind.i64.wrap ((k : Int).tdiv t.Nx) = ((k / nx : Nat) : Int) := by
    rw [HNx.out, show (k : Int).tdiv (nx : Int) = ((k / nx : Nat) : Int) from rfl]
    generalize k / nx = j2 at *
    exact IntWalk.i64_in _ (by omega)
  have hq3 : (k : Int).tmod t.Nx = ((k % nx : Nat) : Int) := by
    rw [HNx.out]
    rfl
  have hq4 : IntKind.i64.wrap ((k : Int) / t.Nx) = ((k / nx : Nat) : Int) := by
    rw [HNx.out, show (k : Int) / (nx : Int) = ((k / nx : Nat) : Int) from rfl]
    generalize k / nx = j2 at *
    exact IntWalk.i64_in _ (by omega)
  clear HF0 HPl HFl
  generalize k % nx = i2 at *
  generalize k / nx = j2 at *
  have HSp2 := Lib.hid (fun w ha hr hr3 => HSp.out A1 c1 (i2 : Int) (j2 : Int) ⟨p1, p2⟩ ⟨p3, p4⟩ w ha hr hr3)
  have hsk := cellR_span f2
  generalize cellR r P E t (i2 : Int) (j2 : Int) = CR at *
  obtain ⟨⟨⟨s0, s1⟩, ⟨s2, s3⟩⟩, ok⟩ := CR
  dsimp only at *
  subst f2
  obtain ⟨⟨k0, k1⟩, ⟨k2, k3⟩⟩ := span_I hsk
  simp only at k0 k1 k2 k3
  have hzr : ratioOk ⟨z, 1⟩ = true := by
    unfold inSpan at f3
    simp only [Bool.and_eq_true] at f3
    exact f3.1.1.2
  have HIn := Lib.hid (fun w => inSpan_any s0 s1 s2 s3 z 1 w k0 k1 k2 k3 (ratio_I hzr).1 (ratio_I hzr).2)
  rw [f3] at HIn
  have HWh := Lib.hid (fun w => whole_any z w)
  have hkd : decide ((k : Int) < (n5 : Int)) = true := decide_eq_true (by omega)
  clear k0 k1 k2 k3 hzr f3 hsk hno HSp
  have SZ : wr.heap.size = wr.heap.size := rfl
  have cbM_228 := fun o => bM.cell o
  have cbP_229 := fun o => bP.cell o
  have cbT_230 := fun o => bT.cell o
  have cbE_231 := fun o => bE.cell o
  go_upto_region 10 with fail
  go_cut [11, 12] from 45 to 60 (fun p o wx => OneSpan ⟨⟨s0, s1⟩, ⟨s2, s3⟩⟩ wr p wx ∧ o = .bool true)
  case first =>
    have hcur := Ext.refl wr
    have nbM0 := Nat.ne_of_lt bM.lt
    have nbM0' := (Nat.ne_of_lt bM.lt).symm
    have nbP0 := Nat.ne_of_lt bP.lt
    have nbP0' := (Nat.ne_of_lt bP.lt).symm
    have nbT0 := Nat.ne_of_lt bT.lt
    have nbT0' := (Nat.ne_of_lt bT.lt).symm
    have nbE0 := Nat.ne_of_lt bE.lt
    have nbE0' := (Nat.ne_of_lt bE.lt).symm
    go_region_held3 (fun w' => w'.cell? ⟨w.heap.size, 0, none⟩ = some (.slice A0 r.Map.length c0) ∧ w'.cell? ⟨w.heap.size, 1, none⟩ = some (.int .i64 r.Div) ∧ w'.cell? ⟨w.heap.size, 2, none⟩ = some (.int .i64 r.Bx) ∧ w'.cell? ⟨w.heap.size, 3, none⟩ = some (.int .i64 r.By) ∧ w'.cell? ⟨w.heap.size, 4, none⟩ = some (.int .i64 r.Low) ∧ w'.cell? ⟨w.heap.size, 5, none⟩ = some (.int .i64 r.High) ∧ w'.cell? ⟨w.heap.size, 6, none⟩ = some (.slice A6 r.Noise.length c6) ∧ w'.cell? ⟨w.heap.size, 7, none⟩ = some (.slice A7 r.Limits.length c7) ∧ w'.cell? ⟨w.heap.size + 1, 0, none⟩ = some (.slice A n c) ∧ w'.cell? ⟨w4.heap.size, 0, none⟩ = some (.slice A1 E.length c1) ∧ w'.cell? ⟨w.heap.size + 1 + 1, 0, none⟩ = some (.int .i64 t.X0) ∧ w'.cell? ⟨w.heap.size + 1 + 1, 1, none⟩ = some (.int .i64 t.Y0) ∧ w'.cell? ⟨w.heap.size + 1 + 1, 2, none⟩ = some (.int .i64 t.Step) ∧ w'.cell? ⟨w.heap.size + 1 + 1, 3, none⟩ = some (.int .i64 t.Nx) ∧ w'.cell? ⟨w.heap.size + 1 + 1, 4, none⟩ = some (.int .i64 t.Ny) ∧ w'.cell? ⟨w.heap.size + 1 + 1, 5, none⟩ = some (.slice (some ⟨b1, o1, none⟩) n5 c5))
      (go_keep)
      (first
        | (go_at_call 40; (with_reducible refine (HSp2.out _ (HA.out.ext (hx.trans (by first | exact hcur | exact hcur.drew | exact hcur.alloc _ | exact hcur.drew.alloc _ | exact (hcur.alloc _).drew))) (HR.out.ext (hx.trans (by first | exact hcur | exact hcur.drew | exact hcur.alloc _ | exact hcur.drew.alloc _ | exact (hcur.alloc _).drew))) (HEx.out _ (hz.trans (by first | exact hcur | exact hcur.drew | exact hcur.alloc _ | exact hcur.drew.alloc _ | exact (hcur.alloc _).drew)))).mono ?_); rintro e w9 ⟨rfl, hx9⟩; (first | have hx8 := (Ext.refl _).drew.trans hx9 | have hx8 := hx9); replace hcur := Ext.trans (by first | exact hcur | exact hcur.drew | exact hcur.alloc _ | exact hcur.drew.alloc _ | exact (hcur.alloc _).drew) hx9; have s9 := hcur.size; have dbM9 := fun o => (bM.ext hcur).cell o; have dbP9 := fun o => (bP.ext hcur).cell o; have dbT9 := fun o => (bT.ext hcur).cell o; have dbE9 := fun o => (bE.ext hcur).cell o; have nbM9 := Nat.ne_of_lt (bM.ext hcur).lt; have nbM9' := (Nat.ne_of_lt (bM.ext hcur).lt).symm; have nbP9 := Nat.ne_of_lt (bP.ext hcur).lt; have nbP9' := (Nat.ne_of_lt (bP.ext hcur).lt).symm; have nbT9 := Nat.ne_of_lt (bT.ext hcur).lt; have nbT9' := (Nat.ne_of_lt (bT.ext hcur).lt).symm; have nbE9 := Nat.ne_of_lt (bE.ext hcur).lt; have nbE9' := (Nat.ne_of_lt (bE.ext hcur).lt).symm; (first | (have gA := Blk.ext (Blk.new _ 46 #[.int .i64 0, .int .i64 0, .int .i64 0, .int .i64 0]) hx8; have gAc := fun o => gA.cell o; have gAf := fun o => gA.frozen o; have lG := gA.lt) | skip)))
    all_goals
      go_wp2_with fail
      go_meet
      case rel => exact ⟨by first | (with_reducible exact OneSpan.new (x := ⟨⟨s0, s1⟩, ⟨s2, s3⟩⟩) hcur) | (with_reducible exact OneSpan.old (x := ⟨⟨s0, s1⟩, ⟨s2, s3⟩⟩) hcur (by omega) gA), rfl⟩
  case rest =>
  obtain ⟨wA, rfl⟩ : ∃ W, W = wc := ⟨_, rfl⟩
  obtain ⟨⟨bq, rfl, hVb, hVc, bW⟩, rfl⟩ := hcut
  replace bW : Blk wA bq 46 #[.int .i64 s0, .int .i64 s1, .int .i64 s2, .int .i64 s3] := bW
  replace hz := hz.trans hVc
  have cW := fun o => bW.cell o
  clear HSp2 hq1 hq2 hq3 hq4
  go_upto_region 11 with fail
  go_cut [69] from 61 to 69 (fun v wx => v = .bool false ∧ Ext wA wx)
  case first =>
    have hcur := Ext.refl wA
    go_region_held3 (fun w' => w'.cell? ⟨bq, 0, none⟩ = some (.int .i64 s0) ∧ w'.cell? ⟨bq, 1, none⟩ = some (.int .i64 s1) ∧ w'.cell? ⟨bq, 2, none⟩ = some (.int .i64 s2) ∧ w'.cell? ⟨bq, 3, none⟩ = some (.int .i64 s3))
      (go_keep)
      (first
        | (go_at_call 42; (with_reducible refine (HWh.out _).mono ?_); rintro e w9 ⟨rfl, hx9⟩; replace hcur := Ext.trans (by first | exact hcur | exact hcur.drew) hx9; have d9 := fun o => (bW.ext hcur).cell o)
        | (go_at_call 13; (with_reducible refine (HIn.out _).mono ?_); rintro e w9 ⟨rfl, hx9⟩; replace hcur := Ext.trans (by first | exact hcur | exact hcur.drew) hx9; have d9 := fun o => (bW.ext hcur).cell o))
    all_goals
      go_wp2_with fail
      go_meet
      case rel => exact ⟨rfl, hcur⟩
  case rest =>
  obtain ⟨rfl, hxc⟩ := hcut
  go_wp2
  go_roundw
  case rel => exact ⟨k + 1, by omega, by go_num, hz.trans hxc⟩
  case measure => simp [intOf]; omega
end Go.Proofs.YtjghabbcjpfjeaaGreatDoor
