/- The law FnTables returns true for all arguments: every input of a filled table is admitted at all states of its cell. No condition beyond the row's own: the library's tables lie as the program's text lays them (the card ties that). (written by tools/mkLtb.py) -/
import Derived.Test.YtjghabbcjpfjeaaGreatDoorHz
import Derived.Test.YtjghabbcjpfjeaaGreatDoorTt
import Derived.Test.YtjghabbcjpfjeaaGreatDoorCl
import Derived.Test.YtjghabbcjpfjeaaGreatDoorDz
import Derived.Test.YtjghabbcjpfjeaaGreatDoorDm
import Derived.Test.YtjghabbcjpfjeaaGreatDoorAz
import Derived.Test.YtjghabbcjpfjeaaGreatDoorCards
import Derived.Test.YtjghabbcjpfjeaaGreatDoorTie
import Derived.Deep.DeepHandedRow
import Derived.Lib.LaidTab
import Derived.LaidMore
import Derived.SevenTiedAt
import Derived.Deep.RegionHeld3
import Derived.Deep.CutRange
namespace Go.Proofs.YtjghabbcjpfjeaaGreatDoor
open Go.ChangeShapes Go.WideShapes Go.ChangeAt Go.RowKit
set_option linter.unusedVariables false
set_option maxRecDepth 100000

theorem filled_row {r : Room} {P E : List Half} {okE : Bool} {t : Table} {wi : Int} {nx ny N d base : Nat} {B : Option Addr} {w : World} (h : w.ownsRow base 3 1 (.slice B N d) N (ints (cellsTo r P E okE t wi N))) (hx : t.Nx.toNat = nx) (hy : t.Ny.toNat = ny) (hN : nx * ny = N) : AggRow w (tableF (filledT r P E okE t wi)) [.int .i64 t.X0, .int .i64 t.Y0, .int .i64 t.Step, .int .i64 t.Nx, .int .i64 t.Ny, .slice B N d] := by
  subst hN; subst hx; subst hy
  have hl : (filledT r P E okE t wi).Cells.length = t.Nx.toNat * t.Ny.toNat := cellsTo_len r P E okE t wi _
  have hM := Mine.of_own h
  exact ⟨_, rfl, _, rfl, _, rfl, _, rfl, _, rfl, B, d, _, by rw [hl], Row.of_own h, by rw [hl]; exact hM.cap, hM.capm, rfl⟩
structure FillFacts (r : Room) (E : List Half) (okE : Bool) (t : Table) (wi : Int) (nx ny N : Nat) : Prop where
  xn : t.Nx.toNat = nx
  yn : t.Ny.toNat = ny
  xy : nx * ny = N
  ok : tableOk (filledT r r.Limits E okE t wi) = true
  fi : tableFI (filledT r r.Limits E okE t wi)
  len : (cellsTo r r.Limits E okE t wi N).length = N
  all : ∀ k (hk : k < (cellsTo r r.Limits E okE t wi N).length), Filled r r.Limits E okE t ((k % nx : Nat) : Int) ((k / nx : Nat) : Int) (cellsTo r r.Limits E okE t wi N)[k]
  at_ : ∀ i j (hi : i < nx) (hj : j < ny) (hk : j * nx + i < (cellsTo r r.Limits E okE t wi N).length), Filled r r.Limits E okE t (i : Int) (j : Int) (cellsTo r r.Limits E okE t wi N)[j * nx + i]
  lines : (tableT (filledT r r.Limits E okE t wi)).length = ny
theorem fill_facts {r : Room} (hv : RoomV r) {E : List Half} {okE : Bool} (hE : robR r.Limits r.Noise = (E, okE)) {t : Table} (hg : gridOk t = true) {wi : Int} {nx ny N : Nat} (hx : t.Nx.toNat = nx) (hy : t.Ny.toNat = ny) (hN : nx * ny = N) : FillFacts r E okE t wi nx ny N := by
  subst hN
  have hE2 : okE = true → erodeR r.Limits r.Noise = (E, true) ∧ E ≠ [] := fun h => rob_ok hE h
  have hok := filled_ok hv hv.limits hE2 hg wi
  have hlen := cellsTo_len r r.Limits E okE t wi (nx * ny)
  have g := grid_b hg
  have hall : ∀ k (hk : k < (cellsTo r r.Limits E okE t wi (nx * ny)).length), Filled r r.Limits E okE t ((k % nx : Nat) : Int) ((k / nx : Nat) : Int) (cellsTo r r.Limits E okE t wi (nx * ny))[k] := fun k hk => by
    rw [cellsTo_at hk]
    have h := fillK_known hv hv.limits hE2 hg (wish := wi) (k := k) (by rw [hx, hy]; omega)
    rw [hx] at h
    exact h
  refine ⟨hx, hy, rfl, hok, ?_, hlen, hall, fun i j hi hj hk => ?_, ?_⟩
  · have a1 := g.x0; have a2 := g.y0; have a3 := g.st; have a4 := g.nx; have a5 := g.ny
    refine ⟨by show I64 t.X0; unfold I64; omega, by show I64 t.Y0; unfold I64; omega, by show I64 t.Step; unfold I64; omega, by show I64 t.Nx; unfold I64; omega, by show I64 t.Ny; unfold I64; omega, fun z hz => ?_⟩
    have hc := List.all_eq_true.1 (tableOk_grid hok).2.2 z hz
    unfold cellOk inR at hc
    simp only [Bool.or_eq_true, Bool.and_eq_true, decide_eq_true_eq] at hc
    unfold I64
    omega
  · have h := hall _ hk
    have e1 : (j * nx + i) % nx = i := by rw [Nat.mul_comm, Nat.mul_add_mod, Nat.mod_eq_of_lt hi]
    have e2 : (j * nx + i) / nx = j := by rw [Nat.mul_comm, Nat.mul_add_div (by omega), Nat.div_eq_of_lt hi, Nat.add_zero]
    rw [e1, e2] at h
    exact h
  · unfold tableT
    rw [if_pos hok, linesTo_len]
    exact hy
theorem Filled.of {r : Room} {P E P2 E2 : List Half} {ok ok2 : Bool} {t : Table} {wi i j z : Int} (h : Filled r P E ok t i j z) : Filled r P E ok (filledT r P2 E2 ok2 t wi) i j z := ⟨h.void, h.full⟩
structure CellFacts (r : Room) (P : List Half) (t : Table) (X : Span × Bool) (z i j : Int) : Prop where
  ok : X.2 = true → spanOk X.1 = true
  void : z = -1000000 → X.2 = true → wholeInputs X.1 = 0
  full : z ≠ -1000000 → X.2 = true ∧ (-1000 ≤ z ∧ z ≤ 1000) ∧ inSpan X.1 ⟨z, 1⟩ = true ∧ ∀ s ∈ cellSpots t i j, hasSpot P s = true ∧ Admitted r P s ⟨z, 1⟩
theorem cell_facts {r : Room} {P E : List Half} {okE : Bool} {t : Table} {z i j : Int} (h : Filled r P E okE t i j z) : CellFacts r P t (spanR r P E okE t i j) z i j := by
  unfold spanR
  cases okE
  · rw [if_neg (by decide)]
    exact ⟨(fun h => (by cases h)), (fun _ h => (by cases h)), (fun hz => (by have q := (h.full hz).1.1; cases q))⟩
  · rw [if_pos rfl]
    exact ⟨cellR_span, fun hz h2 => h.void hz ⟨rfl, h2⟩, fun hz => ⟨(h.full hz).1.2, (h.full hz).2⟩⟩
theorem implRatio1_any (n : Int) (h : -1000 ≤ n ∧ n ≤ 1000) (w : World) : Calls Tryz.prog 14 #[.int .i64 n, .int .i64 1] w fun e w' => e = .returned (.agg #[.int .i64 n, .int .i64 1]) ∧ Ext w w' := by
  have hc := implRatioOf_any n 1 w (by unfold I64; omega) (by unfold I64; omega)
  rw [ratioOf_whole h] at hc
  exact hc
set_option maxHeartbeats 64000000 in
theorem lawTables (A : Option Addr) (n c : Nat) (bs : List Int) (w : World) (hn : bs.length = n) (hr : Row w A (u8s bs)) (hlc : n ≤ 9223372036854775807) (ht : Tab w) :
    Calls Tryz.prog 3 #[.slice A n c] w fun e w' => e = .returned (.bool true) ∧ Ext w w' := by
  by_cases hbig : 1048576 < n
  · have hb : (1048576 : Int) < (n : Int) := by omega
    go_enter Tryz.func3, Tryz.ntmps3
    go_wp2
    go_ret
    exact ⟨rfl, Ext.refl w⟩
  have hb : ¬ (1048576 : Int) < (n : Int) := by omega
  have HMk := Lib.hid (makeState_w A n c bs w hn hr (by omega))
  have HFr := Lib.hid (fun w hr => makeFrame_any A n c bs 60 w hn hr (by omega) (by unfold I64; omega))
  have HT0 := Lib.hid ht
  have HRb := Lib.hid hr
  clear ht hr hn
  go_enter Tryz.func3, Tryz.ntmps3
  go_wp2_with fail
  refine (HMk.out).mono ?_
  rintro e w1 ⟨r, s, A0, A6, A7, c0, c6, c7, rfl, hok, hsk, hRH, hx⟩
  obtain ⟨hok, hnd⟩ := hok
  have hv := room_valid hok
  have HRHx : Hid (∀ V, Ext w1 V → RoomHere V r A0 A6 A7 c0 c6 c7) := fun V hV => hRH.ext hV
  have HTx : Hid (∀ V, Ext w V → Tab V) := fun V hV => HT0.out.ext hV
  have HV := Lib.hid hv
  have HND := Lib.hid hnd
  have hw1 := hx.size
  have bM := (Blk.new w1 28 #[.slice A0 r.Map.length c0, .int .i64 r.Div, .int .i64 r.Bx, .int .i64 r.By, .int .i64 r.Low, .int .i64 r.High, .slice A6 r.Noise.length c6, .slice A7 r.Limits.length c7]).alloc (.cells #[.int .i64 s.X, .int .i64 s.Y, .int .i64 s.D] 30)
  have hE_ := ((Ext.refl w1).alloc (.cells #[.slice A0 r.Map.length c0, .int .i64 r.Div, .int .i64 r.Bx, .int .i64 r.By, .int .i64 r.Low, .int .i64 r.High, .slice A6 r.Noise.length c6, .slice A7 r.Limits.length c7] 28)).alloc (.cells #[.int .i64 s.X, .int .i64 s.Y, .int .i64 s.D] 30)
  have hy := hx.trans hE_
  clear hok hnd hRH hv hsk hx
  have cbM_1 := fun o => bM.cell o
  go_wp2_with fail
  refine (HFr.out _ (HRb.out.ext hy)).mono ?_
  rintro e w2 ⟨t, wi, rfl, hg, hwi, hcl, hx2⟩
  replace hy := hy.trans hx2
  replace hE_ := hE_.trans hx2
  replace bM := bM.ext hx2
  have cbM_2 := fun o => bM.cell o
  have bT := Blk.new w2 34 #[.int .i64 t.X0, .int .i64 t.Y0, .int .i64 t.Step, .int .i64 t.Nx, .int .i64 t.Ny, .slice none 0 0]
  have ha2 := (Ext.refl w2).alloc (.cells #[.int .i64 t.X0, .int .i64 t.Y0, .int .i64 t.Step, .int .i64 t.Nx, .int .i64 t.Ny, .slice none 0 0] 34)
  replace hy := hy.trans ha2
  replace hE_ := hE_.trans ha2
  replace bM := bM.ext ha2
  have cbM_3 := fun o => bM.cell o
  have bP := Blk.new (w2.alloc (.cells #[.int .i64 t.X0, .int .i64 t.Y0, .int .i64 t.Step, .int .i64 t.Nx, .int .i64 t.Ny, .slice none 0 0] 34)) 26 #[.slice A7 r.Limits.length c7]
  have hP_ := (Ext.refl (w2.alloc (.cells #[.int .i64 t.X0, .int .i64 t.Y0, .int .i64 t.Step, .int .i64 t.Nx, .int .i64 t.Ny, .slice none 0 0] 34))).alloc (.cells #[.slice A7 r.Limits.length c7] 26)
  simp only [World.size_alloc] at bP
  have cbM_4 := fun o => bM.cell o
  have cbT_5 := fun o => bT.cell o
  replace hy := hy.trans hP_
  replace hE_ := hE_.trans hP_
  replace bM := bM.ext hP_
  replace bT := bT.ext hP_
  have cbM_6 := fun o => bM.cell o
  have cbT_7 := fun o => bT.cell o
  have cbM_8 := fun o => bM.cell o
  have cbT_9 := fun o => bT.cell o
  have cbP_10 := fun o => bP.cell o
  obtain ⟨⟨E, okE⟩, hE⟩ : ∃ x, robR r.Limits r.Noise = x := ⟨_, rfl⟩
  obtain ⟨nx, hnx⟩ : ∃ x, t.Nx.toNat = x := ⟨_, rfl⟩
  obtain ⟨ny, hny⟩ : ∃ x, t.Ny.toNat = x := ⟨_, rfl⟩
  have hgn := (grid_n hg).1
  rw [hnx, hny] at hgn
  obtain ⟨N, hN⟩ : ∃ x, nx * ny = x := ⟨_, rfl⟩
  have FF := Lib.hid (fill_facts HV.out hE hg (wi := wi) hnx hny hN)
  rw [hN] at hgn
  have g1 := (grid_b hg).nx
  have g2 := (grid_b hg).ny
  have x1 : t.Nx ≤ (nx : Int) := by omega
  have x2 : (nx : Int) ≤ t.Nx := by omega
  have y1 : t.Ny ≤ (ny : Int) := by omega
  have y2 : (ny : Int) ≤ t.Ny := by omega
  obtain ⟨x3, x4⟩ := g1
  obtain ⟨y3, y4⟩ := g2
  have hpl : r.Limits.length ≤ 40 := regOk_len HV.out.limits
  have hag : AggRow w (tableF t) [.int .i64 t.X0, .int .i64 t.Y0, .int .i64 t.Step, .int .i64 t.Nx, .int .i64 t.Ny, .slice none 0 0] := ⟨_, rfl, _, rfl, _, rfl, _, rfl, _, rfl, none, 0, _, by rw [hcl]; rfl, .inl (by rw [hcl]; rfl), by rw [hcl]; exact Nat.zero_le _, by unfold maxLen; omega, rfl⟩
  have hti : tableFI t := by
    have a := grid_b hg
    have a1 := a.x0; have a2 := a.y0; have a3 := a.st
    exact ⟨by unfold I64; omega, by unfold I64; omega, by unfold I64; omega, by unfold I64; omega, by unfold I64; omega, by rw [hcl]; intro z hz; cases hz⟩
  have HFi := Lib.hid (fun w ha hr h => implFillTable_ok r A0 A6 A7 c0 c6 c7 A7 r.Limits.length c7 r.Limits E okE t none 0 0 wi nx ny w HV.out ha rfl hr HV.out.limits hE hg ⟨by omega, by omega⟩ h hti hnx hny)
  rw [hN] at HFi
  have HG := Lib.hid hg
  have HEo := Lib.hid hE
  have hagx : Hid (∀ V, Ext w V → AggRow V (tableF t) [.int .i64 t.X0, .int .i64 t.Y0, .int .i64 t.Step, .int .i64 t.Nx, .int .i64 t.Ny, .slice none 0 0]) := fun V h => hag.ext h
  clear hE hnx hny hN hcl hti hag
  go_wp2_with fail
  refine (HFi.out _ (HRHx.out _ hE_) (HRHx.out _ hE_).at_.q (hagx.out _ hy)).mono ?_
  rintro e w3 ⟨B, d, rfl, own, hx3⟩
  have agF := filled_row own FF.out.xn FF.out.yn FF.out.xy
  have rF : Row w3 B (ints (cellsTo r r.Limits E okE t wi N)) := Row.of_own own
  clear own
  replace hy := hy.trans hx3
  replace hE_ := hE_.trans hx3
  replace bM := bM.ext hx3
  replace bT := bT.ext hx3
  replace bP := bP.ext hx3
  have cbM_11 := fun o => bM.cell o
  have cbT_12 := fun o => bT.cell o
  have cbP_13 := fun o => bP.cell o
  have bF := Blk.new w3 34 #[.int .i64 t.X0, .int .i64 t.Y0, .int .i64 t.Step, .int .i64 t.Nx, .int .i64 t.Ny, .slice B N d]
  have ha3 := (Ext.refl w3).alloc (.cells #[.int .i64 t.X0, .int .i64 t.Y0, .int .i64 t.Step, .int .i64 t.Nx, .int .i64 t.Ny, .slice B N d] 34)
  replace hy := hy.trans ha3
  replace hE_ := hE_.trans ha3
  replace bM := bM.ext ha3
  replace bT := bT.ext ha3
  replace bP := bP.ext ha3
  replace agF := agF.ext ha3
  replace rF := rF.ext ha3
  have cbM_14 := fun o => bM.cell o
  have cbT_15 := fun o => bT.cell o
  have cbP_16 := fun o => bP.cell o
  have cbM_17 := fun o => bM.cell o
  have cbT_18 := fun o => bT.cell o
  have cbP_19 := fun o => bP.cell o
  have cbF_20 := fun o => bF.cell o
  have hNl := FF.out.len
  have HTk := Lib.hid (fun w h => implTableOk_any (filledT r r.Limits E okE t wi) [.int .i64 t.X0, .int .i64 t.Y0, .int .i64 t.Step, .int .i64 t.Nx, .int .i64 t.Ny, .slice B N d] w h FF.out.fi (by show (cellsTo r r.Limits E okE t wi (t.Nx.toNat * t.Ny.toNat)).length ≤ 1048576; rw [cellsTo_len, FF.out.xn, FF.out.yn, FF.out.xy]; omega))
  rw [FF.out.ok] at HTk
  have HFm : Hid (∀ w, AggRow w (tableF (filledT r r.Limits E okE t wi)) [.int .i64 t.X0, .int .i64 t.Y0, .int .i64 t.Step, .int .i64 t.Nx, .int .i64 t.Ny, .slice B N d] → Tab w → Calls Tryz.prog 10 #[.agg #[.int .i64 t.X0, .int .i64 t.Y0, .int .i64 t.Step, .int .i64 t.Nx, .int .i64 t.Ny, .slice B N d]] w fun e w' => ∃ A c, e = .returned (.slice A ny c) ∧ Ext w w') := fun w h ht => by
    refine (implFormatTable_any (filledT r r.Limits E okE t wi) [.int .i64 t.X0, .int .i64 t.Y0, .int .i64 t.Step, .int .i64 t.Nx, .int .i64 t.Ny, .slice B N d] w h FF.out.fi (by show (cellsTo r r.Limits E okE t wi (t.Nx.toNat * t.Ny.toNat)).length ≤ 1048576; rw [cellsTo_len, FF.out.xn, FF.out.yn, FF.out.xy]; omega) ht).mono ?_
    rintro e w' ⟨A, c, he, _, hx⟩
    rw [FF.out.lines] at he
    exact ⟨A, c, he, hx⟩
  have hcx : cellsTo r r.Limits E okE t wi (t.Nx.toNat * t.Ny.toNat) = cellsTo r r.Limits E okE t wi N := by rw [FF.out.xn, FF.out.yn, FF.out.xy]
  have HCx := Lib.hid hcx
  have HCk : Hid (∀ w, RoomHere w r A0 A6 A7 c0 c6 c7 → AggRow w (tableF (filledT r r.Limits E okE t wi)) [.int .i64 t.X0, .int .i64 t.Y0, .int .i64 t.Step, .int .i64 t.Nx, .int .i64 t.Ny, .slice B N d] → Row w B (ints (cellsTo r r.Limits E okE t wi N)) → Calls Tryz.prog 9 #[.agg #[.slice A0 r.Map.length c0, .int .i64 r.Div, .int .i64 r.Bx, .int .i64 r.By, .int .i64 r.Low, .int .i64 r.High, .slice A6 r.Noise.length c6, .slice A7 r.Limits.length c7], .agg #[.slice A7 r.Limits.length c7], .agg #[.int .i64 t.X0, .int .i64 t.Y0, .int .i64 t.Step, .int .i64 t.Nx, .int .i64 t.Ny, .slice B N d]] w fun e w' => e = .returned (.int .i64 (-1)) ∧ Ext w w') := fun w ha h h5 => by
    exact implCheckTable_ok r A0 A6 A7 c0 c6 c7 A7 r.Limits.length c7 r.Limits E okE (filledT r r.Limits E okE t wi) B N d nx w HV.out ha rfl ha.at_.q HV.out.limits HEo.out h (by show (cellsTo r r.Limits E okE t wi (t.Nx.toNat * t.Ny.toNat)).length = N; rw [HCx.out]; exact FF.out.len) (by show Row w B (ints (cellsTo r r.Limits E okE t wi (t.Nx.toNat * t.Ny.toNat))); rw [HCx.out]; exact h5) FF.out.fi FF.out.ok FF.out.xn (fun k hk => by
      have hk' : k < (cellsTo r r.Limits E okE t wi N).length := by rw [← HCx.out]; exact hk
      have q := FF.out.all k hk'
      have e : (filledT r r.Limits E okE t wi).Cells[k]'hk = (cellsTo r r.Limits E okE t wi N)[k]'hk' := by show (cellsTo r r.Limits E okE t wi (t.Nx.toNat * t.Ny.toNat))[k]'hk = _; simp only [HCx.out]
      rw [e]
      exact q.of)
  clear hcx hNl
  have hnb : ((ny : Int) != t.Ny) = false := by simp only [bne_eq_false_iff_eq]; omega
  have hnq : ((ny : Int) == t.Ny) = true := by simp only [beq_iff_eq]; omega
  obtain ⟨W3, hW3⟩ : ∃ W, W = w3.alloc (.cells #[.int .i64 t.X0, .int .i64 t.Y0, .int .i64 t.Step, .int .i64 t.Nx, .int .i64 t.Ny, .slice B N d] 34) := ⟨_, rfl⟩
  go_upto_region 7 with fail
  go_cut [62] from 41 to 62 (fun v wx => v = .bool false ∧ Ext (w3.alloc (.cells #[.int .i64 t.X0, .int .i64 t.Y0, .int .i64 t.Step, .int .i64 t.Nx, .int .i64 t.Ny, .slice B N d] 34)) wx)
  case first =>
    have hcur := Ext.refl (w3.alloc (.cells #[.int .i64 t.X0, .int .i64 t.Y0, .int .i64 t.Step, .int .i64 t.Nx, .int .i64 t.Ny, .slice B N d] 34))
    go_region_held3 (fun w' => w'.cell? ⟨w3.heap.size, 0, none⟩ = some (.int .i64 t.X0) ∧ w'.cell? ⟨w3.heap.size, 1, none⟩ = some (.int .i64 t.Y0) ∧ w'.cell? ⟨w3.heap.size, 2, none⟩ = some (.int .i64 t.Step) ∧ w'.cell? ⟨w3.heap.size, 3, none⟩ = some (.int .i64 t.Nx) ∧ w'.cell? ⟨w3.heap.size, 4, none⟩ = some (.int .i64 t.Ny) ∧ w'.cell? ⟨w3.heap.size, 5, none⟩ = some (.slice B N d) ∧ w'.cell? ⟨w1.heap.size, 0, none⟩ = some (.slice A0 r.Map.length c0) ∧ w'.cell? ⟨w1.heap.size, 1, none⟩ = some (.int .i64 r.Div) ∧ w'.cell? ⟨w1.heap.size, 2, none⟩ = some (.int .i64 r.Bx) ∧ w'.cell? ⟨w1.heap.size, 3, none⟩ = some (.int .i64 r.By) ∧ w'.cell? ⟨w1.heap.size, 4, none⟩ = some (.int .i64 r.Low) ∧ w'.cell? ⟨w1.heap.size, 5, none⟩ = some (.int .i64 r.High) ∧ w'.cell? ⟨w1.heap.size, 6, none⟩ = some (.slice A6 r.Noise.length c6) ∧ w'.cell? ⟨w1.heap.size, 7, none⟩ = some (.slice A7 r.Limits.length c7) ∧ w'.cell? ⟨w2.heap.size + 1, 0, none⟩ = some (.slice A7 r.Limits.length c7) ∧ w'.cell? ⟨w2.heap.size, 4, none⟩ = some (.int .i64 t.Ny))
      (go_keep)
      (first
        | (go_at_call 8; (with_reducible refine (HTk.out _ (agF.ext (by first | exact hcur | exact hcur.drew))).mono ?_); rintro e w9 ⟨rfl, hx9⟩; replace hcur := Ext.trans (by first | exact hcur | exact hcur.drew) hx9; have dbF9 := fun o => (bF.ext hcur).cell o; have dbM9 := fun o => (bM.ext hcur).cell o; have dbP9 := fun o => (bP.ext hcur).cell o; have dbT9 := fun o => (bT.ext hcur).cell o)
        | (go_at_call 9; (with_reducible refine (HCk.out _ (HRHx.out _ (hE_.trans (by first | exact hcur | exact hcur.drew))) (agF.ext (by first | exact hcur | exact hcur.drew)) (rF.ext (by first | exact hcur | exact hcur.drew))).mono ?_); rintro e w9 ⟨rfl, hx9⟩; replace hcur := Ext.trans (by first | exact hcur | exact hcur.drew) hx9; have dbF9 := fun o => (bF.ext hcur).cell o; have dbM9 := fun o => (bM.ext hcur).cell o; have dbP9 := fun o => (bP.ext hcur).cell o; have dbT9 := fun o => (bT.ext hcur).cell o)
        | (go_at_call 10; (with_reducible refine (HFm.out _ (agF.ext (by first | exact hcur | exact hcur.drew)) (HTx.out _ (hy.trans (by first | exact hcur | exact hcur.drew)))).mono ?_); rintro e w9 ⟨A9, c9, rfl, hx9⟩; replace hcur := Ext.trans (by first | exact hcur | exact hcur.drew) hx9; have dbF9 := fun o => (bF.ext hcur).cell o; have dbM9 := fun o => (bM.ext hcur).cell o; have dbP9 := fun o => (bP.ext hcur).cell o; have dbT9 := fun o => (bT.ext hcur).cell o))
    all_goals
      go_wp2_with fail
      go_meet
      case rel => exact ⟨rfl, hcur⟩
  case rest =>
  obtain ⟨wD, rfl⟩ : ∃ W, W = wc := ⟨_, rfl⟩
  obtain ⟨rfl, hxD⟩ := hcut
  clear hW3
  replace hy := hy.trans hxD
  replace hE_ := hE_.trans hxD
  replace bM := bM.ext hxD
  replace bT := bT.ext hxD
  replace bP := bP.ext hxD
  replace agF := agF.ext hxD
  replace rF := rF.ext hxD
  replace bF := bF.ext hxD
  have cbM_21 := fun o => bM.cell o
  have cbT_22 := fun o => bT.cell o
  have cbP_23 := fun o => bP.cell o
  have cbF_24 := fun o => bF.cell o
  clear HTk HCk HFm HFi hnb hnq
  have RFx : Hid (∀ V, Ext wD V → Row V B (ints (cellsTo r r.Limits E okE t wi N))) := fun V h => rF.ext h
  have AGx : Hid (∀ V, Ext wD V → AggRow V (tableF (filledT r r.Limits E okE t wi)) [.int .i64 t.X0, .int .i64 t.Y0, .int .i64 t.Step, .int .i64 t.Nx, .int .i64 t.Ny, .slice B N d]) := fun V h => agF.ext h
  have RHx : Hid (∀ V, Ext wD V → RoomHere V r A0 A6 A7 c0 c6 c7) := fun V h => HRHx.out V (hE_.trans h)
  have HCS : Hid (∀ (i j : Nat), (i : Int) < t.Nx → (j : Int) < t.Ny → ∀ w, RoomHere w r A0 A6 A7 c0 c6 c7 → AggRow w (tableF (filledT r r.Limits E okE t wi)) [.int .i64 t.X0, .int .i64 t.Y0, .int .i64 t.Step, .int .i64 t.Nx, .int .i64 t.Ny, .slice B N d] → Calls Tryz.prog 11 #[.agg #[.slice A0 r.Map.length c0, .int .i64 r.Div, .int .i64 r.Bx, .int .i64 r.By, .int .i64 r.Low, .int .i64 r.High, .slice A6 r.Noise.length c6, .slice A7 r.Limits.length c7], .agg #[.slice A7 r.Limits.length c7], .agg #[.int .i64 t.X0, .int .i64 t.Y0, .int .i64 t.Step, .int .i64 t.Nx, .int .i64 t.Ny, .slice B N d], .int .i64 (i : Int), .int .i64 (j : Int)] w (SpanMade (spanR r r.Limits E okE t (i : Int) (j : Int)) w)) := fun i j hi hj w ha h => by
    exact implCellSpan_ok r A0 A6 A7 c0 c6 c7 A7 r.Limits.length c7 r.Limits E okE (filledT r r.Limits E okE t wi) B N d (i : Int) (j : Int) w HV.out ha rfl ha.at_.q HV.out.limits HEo.out h FF.out.fi (by show (cellsTo r r.Limits E okE t wi (t.Nx.toNat * t.Ny.toNat)).length ≤ 1048576; rw [HCx.out, FF.out.len]; omega) FF.out.ok ⟨by omega, hi⟩ ⟨by omega, hj⟩
  have HCC : Hid (∀ (i j : Nat), (i : Int) < t.Nx → (j : Int) < t.Ny → ∀ w, AggRow w (tableF (filledT r r.Limits E okE t wi)) [.int .i64 t.X0, .int .i64 t.Y0, .int .i64 t.Step, .int .i64 t.Nx, .int .i64 t.Ny, .slice B N d] → Calls Tryz.prog 15 #[.agg #[.int .i64 t.X0, .int .i64 t.Y0, .int .i64 t.Step, .int .i64 t.Nx, .int .i64 t.Ny, .slice B N d], .int .i64 (i : Int), .int .i64 (j : Int)] w (SpotsMade (cellSpots t (i : Int) (j : Int)) w)) := fun i j hi hj w h => by
    exact implCellCorners_ok (filledT r r.Limits E okE t wi) B N d (i : Int) (j : Int) w h FF.out.fi (by show (cellsTo r r.Limits E okE t wi (t.Nx.toNat * t.Ny.toNat)).length ≤ 1048576; rw [HCx.out, FF.out.len]; omega) FF.out.ok ⟨by omega, hi⟩ ⟨by omega, hj⟩
  have HHS := Lib.hid (fun x w (hr : RoomHere w r A0 A6 A7 c0 c6 c7) hs => implHasSpot_any A7 r.Limits.length c7 r.Limits x w rfl hr.at_.q (halves_I (regOk_all HV.out.limits)) (by unfold maxLen; omega) hs)
  have HIH := Lib.hid (fun x z w (ha : RoomHere w r A0 A6 A7 c0 c6 c7) hsk hd had => implIsHeld_ok r A0 A6 A7 c0 c6 c7 A7 r.Limits.length c7 r.Limits x z w HV.out ha rfl ha.at_.q HV.out.limits hsk hd had HND.out)
  have hlenN : (cellsTo r r.Limits E okE t wi N).length = N := FF.out.len
  have HLN := Lib.hid hlenN
  clear hlenN
  clear agF rF
  go_wp2
  go_loopw [10, 11] (fun nv jv wr => ∃ jn m : Nat, jn ≤ ny ∧ jv = .int .i64 jn ∧ Hid (m = jn * nx) ∧ nv = .int .i64 (coverN ((cellsTo r r.Limits E okE t wi N).take m)) ∧ Ext wD wr) (fun _ jv _ => ny - (intOf jv).toNat)
  case atStart => exact ⟨0, 0, Nat.zero_le _, rfl, Lib.hid (Nat.zero_mul nx).symm, rfl, Ext.refl _⟩
  case round =>
  obtain ⟨jn, m, hjn, rfl, Hm, rfl, hz⟩ := hrel
  have dT := fun o => (bT.ext hz).cell o
  have hcb := coverN_bd ((cellsTo r r.Limits E okE t wi N).take m)
  have htl := List.length_take_le m (cellsTo r r.Limits E okE t wi N)
  by_cases hjl : jn < ny
  rotate_left
  · have hfull : (cellsTo r r.Limits E okE t wi N).take m = (cellsTo r r.Limits E okE t wi N) := List.take_of_length_le (by rw [HLN.out, Hm.out, ← FF.out.xy, show jn = ny by omega, Nat.mul_comm]; exact Nat.le_refl _)
    rw [hfull]
    clear hfull hcb htl
    have HCo : Hid (∀ w, AggRow w (tableF (filledT r r.Limits E okE t wi)) [.int .i64 t.X0, .int .i64 t.Y0, .int .i64 t.Step, .int .i64 t.Nx, .int .i64 t.Ny, .slice B N d] → Row w B (ints (cellsTo r r.Limits E okE t wi N)) → Calls Tryz.prog 18 #[.agg #[.int .i64 t.X0, .int .i64 t.Y0, .int .i64 t.Step, .int .i64 t.Nx, .int .i64 t.Ny, .slice B N d]] w fun e w' => e = .returned (.int .i64 (coverN (cellsTo r r.Limits E okE t wi N))) ∧ Ext w w') := fun w h h5 => by
      have q := implCoveredCells_ok (filledT r r.Limits E okE t wi) B N d w h (by show (cellsTo r r.Limits E okE t wi (t.Nx.toNat * t.Ny.toNat)).length = N; rw [HCx.out]; exact FF.out.len) (by show Row w B (ints (cellsTo r r.Limits E okE t wi (t.Nx.toNat * t.Ny.toNat))); rw [HCx.out]; exact h5) FF.out.fi (by omega) FF.out.ok
      rw [show (filledT r r.Limits E okE t wi).Cells = (cellsTo r r.Limits E okE t wi N) from HCx.out] at q
      exact q
    generalize coverN (cellsTo r r.Limits E okE t wi N) = cv at *
    have eF := fun o => (bF.ext hz).cell o
    go_wp2_with fail
    refine (HCo.out _ (AGx.out _ hz) (RFx.out _ hz)).mono ?_
    rintro e w5 ⟨rfl, hx5⟩
    go_wp2
    go_ret
    exact ⟨rfl, (hy.trans hz).trans hx5⟩
  obtain ⟨wo, rfl⟩ : ∃ W, W = wr := ⟨_, rfl⟩
  have hrow := row_in (nx := nx) hjl
  rw [← Hm.out, FF.out.xy] at hrow
  have hjd : decide ((jn : Int) < t.Ny) = true := decide_eq_true (by omega)
  have hmp : m ≤ N := by omega
  go_wp2
  clear dT hcb htl
  go_loopw [10, 12] (fun nv iv wr => ∃ i M : Nat, i ≤ nx ∧ iv = .int .i64 i ∧ Hid (M = m + i) ∧ nv = .int .i64 (coverN ((cellsTo r r.Limits E okE t wi N).take M)) ∧ Ext wD wr) (fun _ iv _ => nx - (intOf iv).toNat)
  case atStart => exact ⟨0, m, Nat.zero_le _, rfl, Lib.hid rfl, rfl, hz⟩
  case round =>
  clear hz
  obtain ⟨i, M, hi, rfl, HM, rfl, hz⟩ := hrel
  have dT := fun o => (bT.ext hz).cell o
  by_cases hil : i < nx
  rotate_left
  · go_wp2
    go_roundw
    case rel => exact ⟨jn + 1, M, by omega, by go_num, Lib.hid (by rw [HM.out, Hm.out, Nat.succ_mul, show i = nx by omega]), rfl, hz⟩
    case measure => simp [intOf]; omega
  have hMN : M < N := by have := HM.out; omega
  have hMb : M < (cellsTo r r.Limits E okE t wi N).length := by rw [HLN.out]; exact hMN
  have hcb := coverN_bd ((cellsTo r r.Limits E okE t wi N).take M)
  have htl := List.length_take_le M (cellsTo r r.Limits E okE t wi N)
  obtain ⟨b1, o1, rfl, hb1, y0⟩ := (RFx.out _ hz).int (k := M) hMb
  have hidx : jn * nx + i = M := by rw [HM.out, Hm.out]
  have HCf0 := Lib.hid (cell_facts (FF.out.at_ i jn hil hjl (by rw [hidx]; exact hMb)))
  simp only [hidx] at HCf0
  have HStep := Lib.hid (coverN_step hMb)
  obtain ⟨z, hz_⟩ : ∃ z, (cellsTo r r.Limits E okE t wi N)[M]'hMb = z := ⟨_, rfl⟩
  rw [hz_] at y0 HCf0 HStep
  clear hz_ hidx
  have HCS2 := Lib.hid (fun w ha h => HCS.out i jn (by omega) (by omega) w ha h)
  obtain ⟨cv, hcv⟩ : ∃ cv, coverN ((cellsTo r r.Limits E okE t wi N).take M) = cv := ⟨_, rfl⟩
  rw [hcv] at hcb HStep
  have HCv := Lib.hid hcv
  have hprod : (jn : Int) * t.Nx = (m : Int) := by
    rw [show t.Nx = (nx : Int) by omega, Hm.out, Int.natCast_mul]
  have hsum : ((m : Int) + (i : Int)).toNat = M := by have := HM.out; omega
  have hM1 : (m : Int) + (i : Int) < (N : Int) := by have := HM.out; omega
  have hid_ : decide ((i : Int) < t.Nx) = true := decide_eq_true (by omega)
  rw [hcv]
  clear hcv
  generalize spanR r r.Limits E okE t (i : Int) (jn : Int) = X at *
  obtain ⟨⟨⟨s0, s1⟩, ⟨s2, s3⟩⟩, ok2⟩ := X
  have eM := fun o => (bM.ext hz).cell o
  have eP := fun o => (bP.ext hz).cell o
  have eF := fun o => (bF.ext hz).cell o
  have hsz := hz.size
  go_wp2_with fail
  refine (HCS2.out _ (RHx.out _ hz) (AGx.out _ hz)).mono ?_
  rintro e w5 ⟨rfl, hx5⟩
  replace hz := hz.trans hx5
  dsimp only
  have bW := Blk.new w5 46 #[.int .i64 s0, .int .i64 s1, .int .i64 s2, .int .i64 s3]
  have hA5 := (Ext.refl w5).alloc (.cells #[.int .i64 s0, .int .i64 s1, .int .i64 s2, .int .i64 s3] 46)
  replace hz := hz.trans hA5
  have cW := fun o => bW.cell o
  clear eM eP eF HCS2
  by_cases hno : z = -1000000
  · have hnb : (z == -1000000) = true := by simpa using hno
    have HV0 := Lib.hid (HCf0.out.void hno)
    have H2 : Hid (coverN ((cellsTo r r.Limits E okE t wi N).take (M + 1)) = cv) := HStep.out.trans (by rw [if_pos hno, Int.add_zero])
    clear hno
    cases ok2
    · go_wp2
      go_roundw
      case rel => exact ⟨i + 1, M + 1, by omega, by go_num, Lib.hid (by rw [HM.out, Nat.add_assoc]), by rw [H2.out], hz⟩
      case measure => simp [intOf]; omega
    obtain ⟨⟨k0, k1⟩, ⟨k2, k3⟩⟩ := span_I (HCf0.out.ok rfl)
    simp only at k0 k1 k2 k3
    have HWI := Lib.hid (fun w => wholeInputs_any s0 s1 s2 s3 w k0 k1 k2 k3)
    rw [HV0.out rfl] at HWI
    clear k0 k1 k2 k3
    go_wp2_with fail
    refine (HWI.out _).mono ?_
    rintro e w6 ⟨rfl, hx6⟩
    go_wp2
    go_roundw
    case rel => exact ⟨i + 1, M + 1, by omega, by go_num, Lib.hid (by rw [HM.out, Nat.add_assoc]), by rw [H2.out], hz.trans hx6⟩
    case measure => simp [intOf]; omega
  have hnb : (z == -1000000) = false := by simpa using hno
  have H2 : Hid (coverN ((cellsTo r r.Limits E okE t wi N).take (M + 1)) = cv + 1) := HStep.out.trans (by rw [if_neg hno])
  obtain ⟨f1, f2, f3, f4⟩ := HCf0.out.full hno
  simp only at f1 f3
  subst f1
  have hspk := HCf0.out.ok rfl
  obtain ⟨⟨k0, k1⟩, ⟨k2, k3⟩⟩ := span_I hspk
  simp only at k0 k1 k2 k3
  have hI1 : I64 z ∧ I64 1 := by unfold I64; omega
  have HIn := Lib.hid (fun w => inSpan_any s0 s1 s2 s3 z 1 w k0 k1 k2 k3 hI1.1 hI1.2)
  rw [f3] at HIn
  have HR1 := Lib.hid (fun w => implRatio1_any z f2 w)
  have H4 := Lib.hid f4
  have HCC2 := Lib.hid (fun w h => HCC.out i jn (by omega) (by omega) w h)
  have HG4 := Lib.hid (cellSpots_ok HG.out (i := (i : Int)) (j := (jn : Int)) ⟨by omega, by omega⟩ ⟨by omega, by omega⟩)
  have HL4 : Hid ((cellSpots t (i : Int) (jn : Int)).length = 4) := rfl
  clear k0 k1 k2 k3 hI1 hspk f3 f4 hno HCf0 HStep hprod hsum
  generalize cellSpots t (i : Int) (jn : Int) = ss at *
  go_upto_region 22 with fail
  go_cut [112] from 104 to 112 (fun v wx => v = .bool false ∧ Ext (w5.alloc (.cells #[.int .i64 s0, .int .i64 s1, .int .i64 s2, .int .i64 s3] 46)) wx)
  case first =>
    have hcur := Ext.refl (w5.alloc (.cells #[.int .i64 s0, .int .i64 s1, .int .i64 s2, .int .i64 s3] 46))
    go_region_held3 (fun w' => w'.cell? ⟨w5.heap.size, 0, none⟩ = some (.int .i64 s0) ∧ w'.cell? ⟨w5.heap.size, 1, none⟩ = some (.int .i64 s1) ∧ w'.cell? ⟨w5.heap.size, 2, none⟩ = some (.int .i64 s2) ∧ w'.cell? ⟨w5.heap.size, 3, none⟩ = some (.int .i64 s3))
      (go_keep)
      (first
        | (go_at_call 14; (with_reducible refine (HR1.out _).mono ?_); rintro e w9 ⟨rfl, hx9⟩; replace hcur := Ext.trans (by first | exact hcur | exact hcur.drew) hx9; have d9 := fun o => (bW.ext hcur).cell o)
        | (go_at_call 13; (with_reducible refine (HIn.out _).mono ?_); rintro e w9 ⟨rfl, hx9⟩; replace hcur := Ext.trans (by first | exact hcur | exact hcur.drew) hx9; have d9 := fun o => (bW.ext hcur).cell o))
    all_goals
      go_wp2_with fail
      go_meet
      case rel => exact ⟨rfl, hcur⟩
  case rest =>
  obtain ⟨wE, rfl⟩ : ∃ W, W = wc := ⟨_, rfl⟩
  obtain ⟨rfl, hxE⟩ := hcut
  replace hz := hz.trans hxE
  clear cW bW hA5 hx5 hxE
  have eF := fun o => (bF.ext hz).cell o
  go_wp2_with fail
  refine (HCC2.out _ (AGx.out _ hz)).mono ?_
  rintro e w7 ⟨Aq, cq, nq_, rfl, hn7, hx7, own7⟩
  clear eF
  obtain rfl : nq_ = 4 := hn7.trans HL4.out
  replace hz := hz.trans hx7
  have rS : Row w7 Aq (ints (flat Spot.ints ss)) := Row.of_own own7
  have HSq : Hid (∀ V, Ext w7 V → Row V Aq (ints (flat Spot.ints ss))) := fun V h => rS.ext h
  clear rS own7 hn7 hx7
  obtain ⟨wo2, rfl⟩ : ∃ W, W = wr := ⟨_, rfl⟩
  go_wp2
  go_loopw [118] (fun kv wr => ∃ k : Nat, k ≤ 4 ∧ kv = .int .i64 k ∧ Ext w7 wr) (fun kv _ => 4 - (intOf kv).toNat)
  case atStart => exact ⟨0, by omega, rfl, Ext.refl _⟩
  case round =>
  obtain ⟨k, hk, rfl, hq⟩ := hrel
  replace hz := hz.trans hq
  by_cases hkl4 : k < 4
  rotate_left
  · go_wp2
    go_roundw
    case rel => exact ⟨i + 1, M + 1, by omega, by go_num, Lib.hid (by rw [HM.out, Nat.add_assoc]), by rw [H2.out], hz⟩
    case measure => simp [intOf]; omega
  have hkl : k < ss.length := by rw [HL4.out]; exact hkl4
  obtain ⟨b2, o2, rfl, hb2, y1, y2, y3⟩ := (HSq.out _ hq).Spot (k := k) hkl
  have hmem := List.getElem_mem hkl
  obtain ⟨x, hx_⟩ : ∃ x, ss[k]'hkl = x := ⟨_, rfl⟩
  rw [hx_] at y1 y2 y3 hmem
  clear hx_ hkl
  obtain ⟨g5, g6, _⟩ := HG4.out x hmem
  obtain ⟨g7, g8⟩ := H4.out x hmem
  have HH := Lib.hid (fun w ha => HHS.out x w ha (spot_I g6))
  rw [g7] at HH
  have HI := Lib.hid (fun w ha => HIH.out x z w ha g6 g5 g8)
  have hkd : decide ((k : Int) < 4) = true := decide_eq_true (by omega)
  clear g5 g6 g7 g8 hmem
  have hsz2 := hz.size
  have bX := Blk.new wr 30 #[.int .i64 x.X, .int .i64 x.Y, .int .i64 x.D]
  have hA := (Ext.refl wr).alloc (.cells #[.int .i64 x.X, .int .i64 x.Y, .int .i64 x.D] 30)
  replace hz := hz.trans hA
  replace hq := hq.trans hA
  have cX := fun o => bX.cell o
  have eM := fun o => (bM.ext hz).cell o
  have eP := fun o => (bP.ext hz).cell o
  go_upto_region 27 with fail
  go_cut [134] from 122 to 134 (fun v wx => v = .bool false ∧ Ext (wr.alloc (.cells #[.int .i64 x.X, .int .i64 x.Y, .int .i64 x.D] 30)) wx)
  case first =>
    have hcur := Ext.refl (wr.alloc (.cells #[.int .i64 x.X, .int .i64 x.Y, .int .i64 x.D] 30))
    go_region_held3 (fun w' => w'.cell? ⟨w2.heap.size + 1, 0, none⟩ = some (.slice A7 r.Limits.length c7) ∧ w'.cell? ⟨wr.heap.size, 0, none⟩ = some (.int .i64 x.X) ∧ w'.cell? ⟨wr.heap.size, 1, none⟩ = some (.int .i64 x.Y) ∧ w'.cell? ⟨wr.heap.size, 2, none⟩ = some (.int .i64 x.D) ∧ w'.cell? ⟨w1.heap.size, 0, none⟩ = some (.slice A0 r.Map.length c0) ∧ w'.cell? ⟨w1.heap.size, 1, none⟩ = some (.int .i64 r.Div) ∧ w'.cell? ⟨w1.heap.size, 2, none⟩ = some (.int .i64 r.Bx) ∧ w'.cell? ⟨w1.heap.size, 3, none⟩ = some (.int .i64 r.By) ∧ w'.cell? ⟨w1.heap.size, 4, none⟩ = some (.int .i64 r.Low) ∧ w'.cell? ⟨w1.heap.size, 5, none⟩ = some (.int .i64 r.High) ∧ w'.cell? ⟨w1.heap.size, 6, none⟩ = some (.slice A6 r.Noise.length c6) ∧ w'.cell? ⟨w1.heap.size, 7, none⟩ = some (.slice A7 r.Limits.length c7))
      (go_keep)
      (first
        | (go_at_call 16; (with_reducible refine (HH.out _ (RHx.out _ (hz.trans (by first | exact hcur | exact hcur.drew)))).mono ?_); rintro e w9 ⟨rfl, hx9⟩; replace hcur := Ext.trans (by first | exact hcur | exact hcur.drew) hx9; have d9 := fun o => (bX.ext hcur).cell o; have d8 := fun o => (bM.ext (hz.trans hcur)).cell o; have d7 := fun o => (bP.ext (hz.trans hcur)).cell o)
        | (go_at_call 14; (with_reducible refine (HR1.out _).mono ?_); rintro e w9 ⟨rfl, hx9⟩; replace hcur := Ext.trans (by first | exact hcur | exact hcur.drew) hx9; have d9 := fun o => (bX.ext hcur).cell o; have d8 := fun o => (bM.ext (hz.trans hcur)).cell o; have d7 := fun o => (bP.ext (hz.trans hcur)).cell o)
        | (go_at_call 17; (with_reducible refine (HI.out _ (RHx.out _ (hz.trans (by first | exact hcur | exact hcur.drew)))).mono ?_); rintro e w9 ⟨rfl, hx9⟩; replace hcur := Ext.trans (by first | exact hcur | exact hcur.drew) hx9; have d9 := fun o => (bX.ext hcur).cell o; have d8 := fun o => (bM.ext (hz.trans hcur)).cell o; have d7 := fun o => (bP.ext (hz.trans hcur)).cell o))
    all_goals
      go_wp2_with fail
      go_meet
      case rel => exact ⟨rfl, hcur⟩
  case rest =>
  obtain ⟨rfl, hxc⟩ := hcut
  go_wp2
  go_roundw
  case rel => exact ⟨k + 1, by omega, by go_num, hq.trans hxc⟩
  case measure => simp [intOf]; omega

namespace lFnTables
set_option maxRecDepth 100000
theorem own : ownKnob Tryz.prog.godebug = none := by kernel_rfl
theorem pTab : (Tryz.prog.globals[0]?).map (·.type) = some 205 := by kernel_rfl
theorem table {W : World} (h : laidMetH Tryz.prog Rows.fnTablesRow.laid W) : Tab W := by
  change laidMet Tryz.prog _ W at h
  obtain ⟨ps, ⟨g0, t0, cs0, f0, p0, q0, hg0, ht0, hv0, hd0, ⟨g1, t1, cs1, f1, p1, q1, hg1, ht1, hv1, hd1, ⟨g2, t2, cs2, f2, p2, q2, hg2, ht2, hv2, hd2, _, _⟩, _⟩, _⟩, _⟩ := h
  obtain rfl := Option.some.inj (gTab.symm.trans hg2)
  obtain rfl := Option.some.inj (pTab.symm.trans ht2)
  unfold Tab Lib.TabIs
  rw [hv2, ← Lib.cells_of_tab (k := .u64) (zs := Lib.pow10Tab) Tryz.underlying205 Tryz.underlying96 (by kernel_rfl) (by kernel_rfl) hd2]
theorem laid_met (os : Os) : laidMet Tryz.prog Rows.fnTablesRow.laid ((World.doorLaid Tryz.prog 400 os).forCall (fun _ _ => 0) ⟨#[], #[.slice none 0 0], []⟩).memory :=
  laidMet_of_run' 8 (by kernel_rfl) (by kernel_rfl)
theorem reads (os : Os) {H : Type} (enc : TypeId × Value → H) : ∃ places, DataW.whole enc Tryz.prog ((World.doorLaid Tryz.prog 400 os).forCall (fun _ _ => 0) ⟨#[], #[.slice none 0 0], []⟩).memory Tryz.f3.params.toList Rows.fnTablesSpec.vars false (#[.slice none 0 0] : Array Value).toList 8 = some ([.nil], [], places) :=
  ⟨[], by kernel_rfl⟩
theorem lifted (os : Os) (started : os.Started) (H : Type) (enc : TypeId × Value → H) (F : Stop.Interp) :
    ReturnsInHanded {} Tryz.checked os 3 .any ((OpenSpec.ofChange Rows.fnTablesSpec).preRow enc Tryz.prog Tryz.f3 Rows.fnTablesRow.domain false Rows.fnTablesRow.laid) (((OpenSpec.ofChange Rows.fnTablesSpec).at F).post enc Tryz.prog Tryz.f3 false true false false) := by
  obtain ⟨places, hx⟩ := reads os enc
  refine returnsInHanded_of_row (C := Tryz.checked) (s := OpenSpec.ofChange Rows.fnTablesSpec) own started (by kernel_rfl) Tryz.func3
    (witness_row_at (enc := enc) (C := Tryz.checked) false (World.doorLaid Tryz.prog 400 os) #[.slice none 0 0] rfl (by kernel_rfl) (by kernel_rfl) (by kernel_rfl)
      (OpenSpec.preRow_of_cond 8 hx (by kernel_rfl) (fun k hk => by cases hk) (by kernel_rfl) (laid_met os))) ?_
  intro W base args ds gs before hval0 hW _ _ _ hL hShaped _
  have hTab := table hL
  have hval : ∀ (j : Nat) t v, Tryz.f3.params[j]? = some t → args[j]? = some v → Value.okWide Tryz.prog W .any base t v := hval0
  have hW' := hW
  obtain ⟨p, q, hA0, hV, rfl, _, _⟩ := hW
  have hA : DataW.TrodAll enc Tryz.prog W 0 (fun _ => true) true Tryz.f3.params.toList args.toList ds p := hA0
  rw [Tryz.params3] at hA hval
  obtain ⟨v0, vs0, d0, ds0, p0, q0, hargs, rfl, rfl, h0, r0⟩ := trodAll_cons hA
  obtain ⟨rfl, rfl, rfl⟩ := trodAll_nil r0
  obtain rfl : args = #[v0] := by cases args; simp_all
  obtain ⟨rfl, rfl⟩ := trodVars_none hV
  have hv0 := hval 0 22 v0 rfl rfl
  clear hA0 hval hval0
  obtain ⟨A0, n0, c0, bs0, rfl, hl0, hr0, hlc0, hm0⟩ := openArg_bytes Tryz.underlying22 Tryz.underlying5 (by kernel_rfl) hv0 h0
  refine (lawTables A0 n0 c0 bs0 W hl0 hr0 (by unfold maxLen at hm0; omega) hTab).mono fun e W' ⟨he, hx⟩ => ?_
  subst he
  exact ⟨_, rfl, law_post (tb := 4) laidOut (by kernel_rfl) rfl Tryz.underlying4 rfl hW' rfl rfl rfl hx⟩
theorem said : Rows.FnTablesSaid :=
  OpenClaim.holds_of_cond 3 Tryz.f3 rfl rfl rfl rfl rfl rfl rfl ⟨rfl, rfl, rfl, rfl, rfl⟩ rfl rfl rfl rfl rfl (by kernel_rfl) Tryz.func3 (by kernel_rfl)
    (of_decide_eq_true (by kernel_rfl)) (by unfold Func.isWrapper; first | (rw [if_pos (by decide +kernel)]; kernel_rfl) | (rw [if_neg (by decide +kernel)]; exact ⟨rfl, rfl⟩))
    (fun os started H enc _ F => by rw [OpenClaim.pre_eq_preRow]; exact lifted os started H enc F)
theorem plain (f : FuncId) (fn : Func) (hf : Tryz.pinned.checked.prog.funcNamed "loop.example/g00832/laws.FnTables" = some f) (hfn : Tryz.pinned.checked.prog.funcs[f]? = some fn) :
    false = Tryz.pinned.checked.prog.looks [] ∧ ∀ (j : Nat) t, fn.params[j]? = some t → Tryz.pinned.checked.prog.wantsStandIn t = false := by
  obtain rfl : f = 3 := Option.some.inj ((show Tryz.prog.funcNamed "loop.example/g00832/laws.FnTables" = some 3 by kernel_rfl).symm.trans hf) |>.symm
  obtain rfl : fn = Tryz.f3 := (Option.some.inj (Tryz.func3.symm.trans hfn)).symm
  refine ⟨by kernel_rfl, fun j t ht => ?_⟩
  rw [Tryz.params3] at ht
  have hm : t ∈ [22] := by simpa using Array.mem_of_getElem? ht
  have hall : ([22].all fun u => !Tryz.prog.wantsStandIn u) = true := by kernel_rfl
  exact (show Tryz.prog.wantsStandIn t = false by simpa using List.all_eq_true.1 hall t hm)
theorem proved : Rows.FnTablesCardSaid :=
  Claim7.holds_tied_plain_at .later [] _ _ _ _ said (fun _ h => by cases h) (by kernel_rfl) (fun _ h => by cases h) fnTables_row_tie rfl ⟨rfl, rfl⟩ (by kernel_rfl) rfl plain (by kernel_rfl)
end lFnTables
end Go.Proofs.YtjghabbcjpfjeaaGreatDoor
