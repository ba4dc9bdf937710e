/- Boxes: the plain law. -/
import Derived.Test.YtjghabbcjpfjeaaGreatDoorGz
import Derived.Test.YtjghabbcjpfjeaaGreatDoorGw
import Derived.Test.YtjghabbcjpfjeaaGreatDoorRo
import Derived.Test.YtjghabbcjpfjeaaGreatDoorHa
import Derived.Test.YtjghabbcjpfjeaaGreatDoorMn
import Derived.Test.YtjghabbcjpfjeaaGreatDoorRz
import Derived.Test.YtjghabbcjpfjeaaGreatDoorHz
import Derived.Deep.RegionHeld3
namespace Go.Proofs.YtjghabbcjpfjeaaGreatDoor
set_option linter.unusedVariables false

def boxHs (x0 y0 x1 y1 : Int) : List Half := [⟨1, 0, x1⟩, ⟨0, 1, y1⟩, ⟨-1, 0, -x0⟩, ⟨0, -1, -y0⟩]
def boundB (a b : Int) : Bool := decide (-1000 ≤ a) && decide (a < b) && decide (b ≤ 1000)
def boxR (x0 y0 x1 y1 : Int) : List Half × Bool := if boundB x0 x1 = true ∧ boundB y0 y1 = true then (madeOf (boxHs x0 y0 x1 y1), true) else ([], false)
theorem half_one {a b c : Int} (ha : -1 ≤ a ∧ a ≤ 1) (hb : -1 ≤ b ∧ b ≤ 1) (hg : Int.gcd a b = 1) (hc : -1000 ≤ c ∧ c ≤ 1000) : halfOk ⟨a, b, c⟩ = true := by
  unfold halfOk inR
  simp only [Bool.and_eq_true, decide_eq_true_eq, Bool.or_eq_true]
  refine ⟨⟨⟨⟨⟨by omega, by omega⟩, by omega, by omega⟩, by omega, by omega⟩, ?_⟩, ?_⟩
  · rcases Int.lt_trichotomy a 0 with h | h | h
    · exact .inl (by omega)
    · right
      intro e
      subst h e
      exact absurd hg (by decide)
    · exact .inl (by omega)
  · rw [hg]; exact Nat.gcd_one_left _
theorem box_all {x0 y0 x1 y1 : Int} (h1 : boundB x0 x1 = true) (h2 : boundB y0 y1 = true) : (boxHs x0 y0 x1 y1).all halfOk = true := by
  unfold boundB at h1 h2
  simp only [Bool.and_eq_true, decide_eq_true_eq] at h1 h2
  unfold boxHs
  simp only [List.all_cons, List.all_nil, Bool.and_true, Bool.and_eq_true]
  exact ⟨half_one (by omega) (by omega) (by decide) (by omega), half_one (by omega) (by omega) (by decide) (by omega), half_one (by omega) (by omega) (by decide) (by omega), half_one (by omega) (by omega) (by decide) (by omega)⟩
theorem box_len {x0 y0 x1 y1 : Int} : (madeOf (boxHs x0 y0 x1 y1)).length ≤ 8 := made_len _
theorem box_from {x0 y0 x1 y1 : Int} (h1 : boundB x0 x1 = true) (h2 : boundB y0 y1 = true) : fromR (boxHs x0 y0 x1 y1) = (madeOf (boxHs x0 y0 x1 y1), true) := by
  unfold fromR
  rw [if_pos ⟨by simp [boxHs], box_all h1 h2⟩]
  exact fit_ok (by have := @box_len x0 y0 x1 y1; omega)
theorem boxR_ok (x0 y0 x1 y1 : Int) : regOk (boxR x0 y0 x1 y1).1 = true := by
  unfold boxR
  split
  · rename_i h
    have := fit_regOk (hs := boxHs x0 y0 x1 y1) (box_all h.1 h.2)
    rwa [fit_ok (by have := @box_len x0 y0 x1 y1; omega)] at this
  · rfl
end Go.Proofs.YtjghabbcjpfjeaaGreatDoor
/- Contract of BoxRegion of the reference, for valid bounds. -/
namespace Go.Proofs.YtjghabbcjpfjeaaGreatDoor
open Go.ChangeShapes Go.WideShapes Go.ChangeAt Go.RowKit
set_option linter.unusedVariables false
set_option maxRecDepth 100000

set_option maxHeartbeats 8000000 in
theorem specBoxRegion_ok (x0 y0 x1 y1 : Int) (w : World) (h1 : -1000 ≤ x0 ∧ x0 < x1 ∧ x1 ≤ 1000) (h2 : -1000 ≤ y0 ∧ y0 < y1 ∧ y1 ≤ 1000) :
    Calls Tryz.prog 74 #[.int .i64 x0, .int .i64 y0, .int .i64 x1, .int .i64 y1] w (RegMade (madeOf (boxHs x0 y0 x1 y1), true) w) := by
  have b1 : boundB x0 x1 = true := by unfold boundB; simp [h1]
  have b2 : boundB y0 y1 = true := by unfold boundB; simp [h2]
  have HI1 := Lib.hid (fun w => l01In_yes (n := x0) (lo := -1000) (hi := 1000) (by omega) w)
  have HI2 := Lib.hid (fun w => l01In_yes (n := x1) (lo := x0 + 1) (hi := 1000) (by omega) w)
  have HI3 := Lib.hid (fun w => l01In_yes (n := y0) (lo := -1000) (hi := 1000) (by omega) w)
  have HI4 := Lib.hid (fun w => l01In_yes (n := y1) (lo := y0 + 1) (hi := 1000) (by omega) w)
  have w1 : IntKind.i64.wrap (x0 + 1) = x0 + 1 := IntWalk.i64_in _ (by omega)
  have w2 : IntKind.i64.wrap (y0 + 1) = y0 + 1 := IntWalk.i64_in _ (by omega)
  have w3 : IntKind.i64.wrap (-x0) = -x0 := IntWalk.i64_in _ (by omega)
  have w4 : IntKind.i64.wrap (-y0) = -y0 := IntWalk.i64_in _ (by omega)
  have hx : Ext w (w.alloc (.cells #[.slice none 0 0] 26)) := (Ext.refl w).alloc _
  have bR := Blk.new w 26 #[.slice none 0 0]
  have HAll : Hid ((boxHs x0 y0 x1 y1).all halfOk = true) := box_all b1 b2
  have HMk := Lib.hid (fun A c w hr hA => l05Make_any A 4 c (boxHs x0 y0 x1 y1) w rfl hr hA (by omega) HAll.out)
  have hA := hx.alloc (.cells #[.int .i64 1, .int .i64 0, .int .i64 x1, .int .i64 0, .int .i64 1, .int .i64 y1, .int .i64 (-1), .int .i64 0, .int .i64 (-x0), .int .i64 0, .int .i64 (-1), .int .i64 (-y0)] 120)
  have bRa := bR.alloc (.cells #[.int .i64 1, .int .i64 0, .int .i64 x1, .int .i64 0, .int .i64 1, .int .i64 y1, .int .i64 (-1), .int .i64 0, .int .i64 (-x0), .int .i64 0, .int .i64 (-1), .int .i64 (-y0)] 120)
  have hrow : Row ((w.alloc (.cells #[.slice none 0 0] 26)).alloc (.cells #[.int .i64 1, .int .i64 0, .int .i64 x1, .int .i64 0, .int .i64 1, .int .i64 y1, .int .i64 (-1), .int .i64 0, .int .i64 (-x0), .int .i64 0, .int .i64 (-1), .int .i64 (-y0)] 120)) (some ⟨w.heap.size + 1, 0, none⟩) (ints (flat Half.ints (boxHs x0 y0 x1 y1))) := by
    refine .inr ⟨w.heap.size + 1, 0, rfl, fun j v hj => ?_⟩
    have hb := Blk.new (w.alloc (.cells #[.slice none 0 0] 26)) 120 #[.int .i64 1, .int .i64 0, .int .i64 x1, .int .i64 0, .int .i64 1, .int .i64 y1, .int .i64 (-1), .int .i64 0, .int .i64 (-x0), .int .i64 0, .int .i64 (-1), .int .i64 (-y0)]
    simp only [World.size_alloc] at hb
    rw [hb.cell, Nat.zero_add]
    simpa [ints, flat, Half.ints, boxHs] using hj
  generalize madeOf (boxHs x0 y0 x1 y1) = ML at *
  clear h1 h2 b1 b2
  go_enter Tryz.func74, Tryz.ntmps74
  go_wp2_with fail
  refine (HI1.out _).mono ?_
  rintro e w' ⟨rfl, rfl⟩
  go_wp2_with fail
  refine (HI2.out _).mono ?_
  rintro e w' ⟨rfl, rfl⟩
  go_wp2_with fail
  refine (HI3.out _).mono ?_
  rintro e w' ⟨rfl, rfl⟩
  go_wp2_with fail
  refine (HI4.out _).mono ?_
  rintro e w' ⟨rfl, rfl⟩
  go_wp2_with fail
  refine (HMk.out _ _ _ hrow (by rintro ⟨⟩)).mono ?_
  rintro e w5 ⟨A5, c5, n5, rfl, hn5, hx5, hown5⟩
  subst hn5
  have hy := hA.trans hx5
  have b5 := bRa.ext hx5
  have c0 := fun o => b5.cell o
  have f0 := fun o => b5.frozen o
  go_wp2
  have bF := b5.set_ 0 (.slice A5 ML.length c5)
  have cF := fun o => bF.cell o
  clear c0 f0
  refine bodyPost_ret (v := .tuple #[.agg #[.slice A5 ML.length c5], .bool true]) (by simp [results, Tryz.results74, go_sem, cF]) rfl ?_
  exact ⟨A5, c5, _, rfl, rfl, hy.setCell (by simp only; omega) _, own_base (own_far hown5 (by simp only [World.size_alloc]; omega) _) (by simp only [World.size_alloc]; omega)⟩
end Go.Proofs.YtjghabbcjpfjeaaGreatDoor
/- Contract of CutRegion of the reference, for a valid region with points and a valid half plane. (written by tools/mkCt.py) -/
namespace Go.Proofs.YtjghabbcjpfjeaaGreatDoor
open Go.ChangeShapes Go.WideShapes Go.ChangeAt Go.RowKit
set_option linter.unusedVariables false
set_option maxRecDepth 100000

theorem Blk.nw1 (w : World) (o : Obj) (t : TypeId) (cs : Array Value) : Blk ((w.alloc o).alloc (.cells cs t)) (w.heap.size + 1) t cs := by simpa only [World.size_alloc] using Blk.new (w.alloc o) t cs
theorem own_eq {w : World} {base : Nat} {e : TypeId} {s n : Nat} {v : Value} {xs ys : List Value} (h : w.ownsRow base e s v n xs) (e' : xs = ys) : w.ownsRow base e s v n ys := e' ▸ h
set_option maxHeartbeats 16000000 in
theorem specCutRegion_ok (A : Option Addr) (n c : Nat) (ps : List Half) (h : Half) (w : World) (hn : ps.length = n) (hr : Row w A (ints (flat Half.ints ps))) (hp : regOk ps = true) (hne : ps ≠ []) (hl : n < 40) (hh : halfOk h = true) :
    Calls Tryz.prog 77 #[.agg #[.slice A n c], .agg #[.int .i64 h.A, .int .i64 h.B, .int .i64 h.C]] w (RegMade (madeOf (ps ++ [h]), true) w) := by
  obtain ⟨i0, hi0, hz0, hz1, hz2⟩ := info_parts half_info
  obtain ⟨b1, b2, b3, b4, b5, b6, _⟩ := halfOk_bd hh
  have hn0 : 0 < n := by rw [← hn]; exact List.length_pos_iff.2 hne
  have hA : A = none → n = 0 ∧ c = 0 := fun e => by
    subst e
    obtain ⟨b, off, e, _⟩ := hr.at_ (ints_ne (k := 0) (by rw [flat_length Half.ints_len, hn]; omega))
    cases e
  have HO1 := Lib.hid (fun w hr => specRegionOk_any A n c ps w hn hr hA (halves_I (regOk_all hp)) (by unfold maxLen; omega))
  rw [hp] at HO1
  have HH := Lib.hid (fun w => specHalfOk_any h.A h.B h.C w (by unfold I64; omega) (by unfold I64; omega) (by unfold I64; omega))
  have hh' : halfOk ⟨h.A, h.B, h.C⟩ = true := hh
  rw [hh'] at HH
  have HV1 := Lib.hid (fun w => specIsVoid_any A n c w (by unfold maxLen; omega))
  rw [decide_eq_false (by omega : ¬ n = 0)] at HV1
  have HAll : Hid ((ps ++ [h]).all halfOk = true) := by rw [Hid, List.all_append, regOk_all hp]; simp [hh]
  have HLen : Hid ((ps ++ [h]).length = n + 1) := by rw [Hid, List.length_append, hn]; rfl
  have HF1 : Hid ((ints (flat Half.ints ps)).length = n * 3) := by rw [Hid, ints_length, flat_length Half.ints_len, hn]
  have HMk := Lib.hid (fun A c w hr hA => l05Make_any A (n + 1) c (ps ++ [h]) w HLen.out hr hA (by omega) HAll.out)
  have HR := Lib.hid hr
  have hx : Ext w (((w.alloc (.cells #[.slice A n c] 26)).alloc (.cells #[.int .i64 h.A, .int .i64 h.B, .int .i64 h.C] 120)).alloc (.cells #[.slice none 0 0] 26)) := (((Ext.refl w).alloc _).alloc _).alloc _
  have bP := ((Blk.new w 26 #[.slice A n c]).alloc (.cells #[.int .i64 h.A, .int .i64 h.B, .int .i64 h.C] 120)).alloc (.cells #[.slice none 0 0] 26)
  have bQ := (Blk.new (w.alloc (.cells #[.slice A n c] 26)) 120 #[.int .i64 h.A, .int .i64 h.B, .int .i64 h.C]).alloc (.cells #[.slice none 0 0] 26)
  have bR := Blk.new ((w.alloc (.cells #[.slice A n c] 26)).alloc (.cells #[.int .i64 h.A, .int .i64 h.B, .int .i64 h.C] 120)) 26 #[.slice none 0 0]
  simp only [World.size_alloc] at bQ bR
  obtain ⟨g1, o1, rfl, hg1, hc1⟩ := hr.at_ (ints_ne (k := 0) (by rw [flat_length Half.ints_len, hn]; omega))
  have HM1 : Hid (∀ V, Ext w V → ∀ j u, (ints (flat Half.ints ps))[j]? = some u → V.cell? ((⟨g1, o1, none⟩ : Addr).add j) = some u) := fun V hV => row_add (fun j v hj => hV.cellOf (hc1 j v hj))
  have HCat : Hid (∀ l, l = ints (flat Half.ints ps) ++ #[.int .i64 h.A, .int .i64 h.B, .int .i64 h.C].toList → l = ints (flat Half.ints (ps ++ [h]))) := by
    intro l e
    rw [e, halves_add]
  clear hr hn hp hne hh hh' hA hc1 b1 b2 b3 b4 b5 b6
  generalize madeOf (ps ++ [h]) = ML at *
  have cbP_1 := fun o => bP.cell o
  have cbQ_2 := fun o => bQ.cell o
  have cbR_3 := fun o => bR.cell o
  have fbR_3 := fun o => bR.frozen o
  go_enter Tryz.func77, Tryz.ntmps77
  go_wp2_with fail
  refine (HO1.out _ (HR.out.ext hx)).mono ?_
  rintro e w1 ⟨rfl, hx1⟩
  replace hx := hx.trans hx1
  replace bP := bP.ext hx1
  replace bQ := bQ.ext hx1
  replace bR := bR.ext hx1
  have cbP_4 := fun o => bP.cell o
  have cbQ_5 := fun o => bQ.cell o
  have cbR_6 := fun o => bR.cell o
  have fbR_6 := fun o => bR.frozen o
  go_wp2_with fail
  refine (HH.out _).mono ?_
  rintro e w2 ⟨rfl, hx2⟩
  replace hx := hx.trans hx2
  replace bP := bP.ext hx2
  replace bQ := bQ.ext hx2
  replace bR := bR.ext hx2
  have cbP_7 := fun o => bP.cell o
  have cbQ_8 := fun o => bQ.cell o
  have cbR_9 := fun o => bR.cell o
  have fbR_9 := fun o => bR.frozen o
  have hlb : ¬ (40 : Int) ≤ (n : Int) := by omega
  have hlb2 : decide ((40 : Int) ≤ (n : Int)) = false := decide_eq_false hlb
  go_wp2_with fail
  refine (HV1.out _).mono ?_
  rintro e w3 ⟨rfl, hx3⟩
  replace hx := hx.trans hx3
  replace bP := bP.ext hx3
  replace bQ := bQ.ext hx3
  replace bR := bR.ext hx3
  have cbP_10 := fun o => bP.cell o
  have cbQ_11 := fun o => bQ.cell o
  have cbR_12 := fun o => bR.cell o
  have fbR_12 := fun o => bR.frozen o
  have hRl := bR.lt
  have hpl := bP.lt
  have hql := bQ.lt
  have L1 : (w3.alloc (.cells #[] 120)).ownsRow w3.heap.size 120 3 (.slice (some ⟨w3.heap.size, 0, none⟩) 0 0) 0 [] := by
    simpa using World.ownsRow_lit (base := w3.heap.size) (e := 120) (size := 3) w3 #[] 0 (Nat.le_refl _) (by unfold maxLen; omega) rfl
  have L2 : ((w3.alloc (.cells #[.int .i64 h.A, .int .i64 h.B, .int .i64 h.C] 120)).alloc (.cells #[] 120)).ownsRow w3.heap.size 120 3 (.slice (some ⟨w3.heap.size + 1, 0, none⟩) 0 0) 0 [] := by
    simpa using World.ownsRow_lit (base := w3.heap.size) (e := 120) (size := 3) (w3.alloc (.cells #[.int .i64 h.A, .int .i64 h.B, .int .i64 h.C] 120)) #[] 0 (by simp) (by unfold maxLen; omega) rfl
  have K1 := Blk.nw1 w3 (.cells #[] 120) 120 #[.int .i64 h.A, .int .i64 h.B, .int .i64 h.C]
  have K2 := (Blk.new w3 120 #[.int .i64 h.A, .int .i64 h.B, .int .i64 h.C]).alloc (.cells #[] 120)
  have ne1 : ¬ w.heap.size = w.heap.size + 1 + 1 := by omega
  have ne2 : ¬ w.heap.size + 1 + 1 = w.heap.size := by omega
  go_wp2_with fail
  go_region_held3 (fun w' => w'.cell? ⟨w.heap.size, 0, none⟩ = some (.slice (some ⟨g1, o1, none⟩) n c) ∧ w'.cell? ⟨w.heap.size + 1, 0, none⟩ = some (.int .i64 h.A) ∧ w'.cell? ⟨w.heap.size + 1, 1, none⟩ = some (.int .i64 h.B) ∧ w'.cell? ⟨w.heap.size + 1, 2, none⟩ = some (.int .i64 h.C))
    (go_keep)
    (first
      | (refine step_append_lies _ (by rfl) (.tmp 24) (.tmp 26) 24 (by rfl) w3.heap.size 120 i0 (.agg #[.int .i64 0, .int .i64 0, .int .i64 0]) 3 24 Tryz.underlying24 hi0 hz0 hz1 hz2 rfl (by decide) (.slice (some ⟨w3.heap.size, 0, none⟩) 0 0) 0 [] (by rfl) (by first | exact L1 | exact L1.drew | exact L1.alloc _ | exact (L1.alloc _).drew) ⟨g1, o1, none⟩ n c (ints (flat Half.ints ps)) (by rfl) HF1.out (HM1.out _ (by first | exact hx.alloc _ | exact (hx.alloc _).drew | exact hx.drew.alloc _ | exact (hx.alloc _).alloc _ | exact ((hx.alloc _).alloc _).drew)) (oneCell_ints _) hn0 (by unfold maxLen; omega) (by omega) (by simp <;> omega) _ rfl ?_; intro gg1 cap1 w9 hown1 hgrow1 hat1 hlt1; simp only [Nat.zero_add, List.nil_append] at hown1; have hcur : Ext w3 w9 := Ext.grown (by first | exact (Ext.refl w3).alloc _ | exact ((Ext.refl w3).alloc _).drew | exact ((Ext.refl w3).alloc _).alloc _ | exact (((Ext.refl w3).alloc _).alloc _).drew) hgrow1 (fun q hq => (World.ownsRow.lt L1 q hq).1); have d1 := fun o => (bP.ext hcur).cell o; have d2 := fun o => (bQ.ext hcur).cell o; have l9 := (bP.ext hcur).lt; have l9' := (bQ.ext hcur).lt; (first | (have gH : Blk w9 (w3.heap.size + 1) 120 #[.int .i64 h.A, .int .i64 h.B, .int .i64 h.C] := (hgrow1.block (w3.heap.size + 1) (by first | exact K1.lt) (by simp [Value.ownBlock])).trans (by first | exact K1); have gHc := fun o => gH.cell o; have gHl := gH.lt) | skip))
      | (refine step_append_lies _ (by rfl) (.tmp 24) (.tmp 26) 24 (by rfl) w3.heap.size 120 i0 (.agg #[.int .i64 0, .int .i64 0, .int .i64 0]) 3 24 Tryz.underlying24 hi0 hz0 hz1 hz2 rfl (by decide) (.slice (some ⟨w3.heap.size + 1, 0, none⟩) 0 0) 0 [] (by rfl) (by first | exact L2 | exact L2.drew | exact L2.alloc _ | exact (L2.alloc _).drew) ⟨g1, o1, none⟩ n c (ints (flat Half.ints ps)) (by rfl) HF1.out (HM1.out _ (by first | exact hx.alloc _ | exact (hx.alloc _).drew | exact hx.drew.alloc _ | exact (hx.alloc _).alloc _ | exact ((hx.alloc _).alloc _).drew)) (oneCell_ints _) hn0 (by unfold maxLen; omega) (by omega) (by simp <;> omega) _ rfl ?_; intro gg1 cap1 w9 hown1 hgrow1 hat1 hlt1; simp only [Nat.zero_add, List.nil_append] at hown1; have hcur : Ext w3 w9 := Ext.grown (by first | exact (Ext.refl w3).alloc _ | exact ((Ext.refl w3).alloc _).drew | exact ((Ext.refl w3).alloc _).alloc _ | exact (((Ext.refl w3).alloc _).alloc _).drew) hgrow1 (fun q hq => (World.ownsRow.lt L2 q hq).1); have d1 := fun o => (bP.ext hcur).cell o; have d2 := fun o => (bQ.ext hcur).cell o; have l9 := (bP.ext hcur).lt; have l9' := (bQ.ext hcur).lt; (have gH : Blk w9 w3.heap.size 120 #[.int .i64 h.A, .int .i64 h.B, .int .i64 h.C] := (hgrow1.block w3.heap.size (by first | exact K2.lt) (by simp [Value.ownBlock])).trans (by first | exact K2); have gHc := fun o => gH.cell o; have gHl := gH.lt))
      | (refine step_append_lies _ (by rfl) (.tmp 27) (.tmp 29) 24 (by rfl) w3.heap.size 120 i0 (.agg #[.int .i64 0, .int .i64 0, .int .i64 0]) 3 24 Tryz.underlying24 hi0 hz0 hz1 hz2 rfl (by decide) (.slice (some ⟨gg1, 0, none⟩) n cap1) n (ints (flat Half.ints ps)) (by first | rfl | simp [Act.eval]) (hown1.alloc _) ⟨w9.heap.size, 0, none⟩ 1 1 #[.int .i64 h.A, .int .i64 h.B, .int .i64 h.C].toList (by rfl) (by rfl) (row_add (fun j v hj => by rw [(Blk.new w9 _ _ : Blk _ _ 120 #[.int .i64 h.A, .int .i64 h.B, .int .i64 h.C]).cell, Nat.zero_add]; simpa using hj)) (by simp [Value.oneCell']) (by omega) (by unfold maxLen; omega) (by omega) (by first | exact hcur.size | exact (hcur.alloc _).size) _ rfl ?_; intro gg2 cap2 w10 hown2 hgrow2 hat2 hlt2; have hcur2 : Ext w3 w10 := Ext.grown (by first | exact hcur | exact hcur.alloc _) hgrow2 (fun q hq => (World.ownsRow.lt hown1 q hq).1); replace hown2 := own_eq hown2 (HCat.out _ rfl); have d3 := fun o => (bP.ext hcur2).cell o; have d4 := fun o => (bQ.ext hcur2).cell o)
      | (have gHx := gH; refine step_append_lies _ (by rfl) (.tmp 27) (.tmp 29) 24 (by rfl) w3.heap.size 120 i0 (.agg #[.int .i64 0, .int .i64 0, .int .i64 0]) 3 24 Tryz.underlying24 hi0 hz0 hz1 hz2 rfl (by decide) (.slice (some ⟨gg1, 0, none⟩) n cap1) n (ints (flat Half.ints ps)) (by first | rfl | simp [Act.eval]) (hown1) ⟨w3.heap.size + 1, 0, none⟩ 1 1 #[.int .i64 h.A, .int .i64 h.B, .int .i64 h.C].toList (by rfl) (by rfl) (row_add (fun j v hj => by rw [(gH : Blk _ _ 120 #[.int .i64 h.A, .int .i64 h.B, .int .i64 h.C]).cell, Nat.zero_add]; simpa using hj)) (by simp [Value.oneCell']) (by omega) (by unfold maxLen; omega) (by omega) (by first | exact hcur.size | exact (hcur.alloc _).size) _ rfl ?_; intro gg2 cap2 w10 hown2 hgrow2 hat2 hlt2; have hcur2 : Ext w3 w10 := Ext.grown (by first | exact hcur | exact hcur.alloc _) hgrow2 (fun q hq => (World.ownsRow.lt hown1 q hq).1); replace hown2 := own_eq hown2 (HCat.out _ rfl); have d3 := fun o => (bP.ext hcur2).cell o; have d4 := fun o => (bQ.ext hcur2).cell o)
      | (have gHx := gH; refine step_append_lies _ (by rfl) (.tmp 27) (.tmp 29) 24 (by rfl) w3.heap.size 120 i0 (.agg #[.int .i64 0, .int .i64 0, .int .i64 0]) 3 24 Tryz.underlying24 hi0 hz0 hz1 hz2 rfl (by decide) (.slice (some ⟨gg1, 0, none⟩) n cap1) n (ints (flat Half.ints ps)) (by first | rfl | simp [Act.eval]) (hown1) ⟨w3.heap.size, 0, none⟩ 1 1 #[.int .i64 h.A, .int .i64 h.B, .int .i64 h.C].toList (by rfl) (by rfl) (row_add (fun j v hj => by rw [(gH : Blk _ _ 120 #[.int .i64 h.A, .int .i64 h.B, .int .i64 h.C]).cell, Nat.zero_add]; simpa using hj)) (by simp [Value.oneCell']) (by omega) (by unfold maxLen; omega) (by omega) (by first | exact hcur.size | exact (hcur.alloc _).size) _ rfl ?_; intro gg2 cap2 w10 hown2 hgrow2 hat2 hlt2; have hcur2 : Ext w3 w10 := Ext.grown (by first | exact hcur | exact hcur.alloc _) hgrow2 (fun q hq => (World.ownsRow.lt hown1 q hq).1); replace hown2 := own_eq hown2 (HCat.out _ rfl); have d3 := fun o => (bP.ext hcur2).cell o; have d4 := fun o => (bQ.ext hcur2).cell o)
      | (go_at_call 98; (with_reducible refine (HMk.out _ _ _ (Row.of_own hown2) (by rintro ⟨⟩)).mono ?_); rintro e w11 ⟨A9, c9, n9, rfl, hn9, hx9, hown9⟩; have hcur3 := hcur2.trans hx9; have d5 := fun o => (bP.ext hcur3).cell o; have d6 := fun o => (bQ.ext hcur3).cell o; have d7 := fun o => (bR.ext hcur3).cell o; have d8 := fun o => (bR.ext hcur3).frozen o))
  all_goals
    have hs10 := hcur2.size
    have hn9' := hn9
    subst hn9'
    have bF := (bR.ext hcur3).set_ 0 (.slice A9 ML.length c9)
    have cF := fun o => bF.cell o
    have hEf := hx.trans hcur3
    clear d7 d8
    go_wp2
    refine bodyPost_ret (v := .tuple #[.agg #[.slice A9 ML.length c9], .bool true]) (by simp [results, Tryz.results77, go_sem, cF]) rfl ?_
    exact ⟨A9, c9, _, rfl, rfl, by first | exact hEf.setCell (by simp only; omega) _ | exact (hEf.setCell (by simp only; omega) _).drew, own_base (own_far hown9 (by simp only; omega) _) (by omega)⟩
end Go.Proofs.YtjghabbcjpfjeaaGreatDoor
/- Plain facts on the rooms that are drawn: their regions have points, the rooms are valid. -/
namespace Go.Proofs.YtjghabbcjpfjeaaGreatDoor
set_option linter.unusedVariables false
set_option maxRecDepth 100000

theorem noise_ne : ∀ a : Fin 2, madeOf (boxHs (-(1 + (a.val : Int))) (-1) (1 + (a.val : Int)) 1) ≠ [] := by decide +kernel
theorem noise_whole : ∀ a : Fin 2, ∀ t ∈ cornL (madeOf (boxHs (-(1 + (a.val : Int))) (-1) (1 + (a.val : Int)) 1)), t.D = 1 := by decide +kernel
theorem noise_whole' {a : Int} (h : 1 ≤ a ∧ a ≤ 2) : ∀ t ∈ cornL (madeOf (boxHs (-a) (-1) a 1)), t.D = 1 := by
  have := noise_whole ⟨(a - 1).toNat, by omega⟩
  rw [show ((((⟨(a - 1).toNat, by omega⟩ : Fin 2).val : Nat) : Int)) = a - 1 from by simp only; omega] at this
  rwa [show 1 + (a - 1) = a from by omega] at this
theorem limits_ne : ∀ x : Fin 30, ∀ y : Fin 30, madeOf (boxHs (-(15 + (x.val : Int))) (-(15 + (y.val : Int))) (15 + (x.val : Int)) (15 + (y.val : Int))) ≠ [] := by decide +kernel
theorem cut_ne : ∀ x : Fin 30, ∀ y : Fin 30, madeOf (madeOf (boxHs (-(15 + (x.val : Int))) (-(15 + (y.val : Int))) (15 + (x.val : Int)) (15 + (y.val : Int))) ++ [⟨1, 1, 15 + (x.val : Int) + (15 + (y.val : Int)) / 2⟩]) ≠ [] := by decide +kernel
theorem noise_ne' {a : Int} (h : 1 ≤ a ∧ a ≤ 2) : madeOf (boxHs (-a) (-1) a 1) ≠ [] := by
  have := noise_ne ⟨(a - 1).toNat, by omega⟩
  rw [show ((((⟨(a - 1).toNat, by omega⟩ : Fin 2).val : Nat) : Int)) = a - 1 from by simp only; omega] at this
  rwa [show 1 + (a - 1) = a from by omega] at this
theorem limits_ne' {x y : Int} (hx : 15 ≤ x ∧ x ≤ 44) (hy : 15 ≤ y ∧ y ≤ 44) : madeOf (boxHs (-x) (-y) x y) ≠ [] := by
  have := limits_ne ⟨(x - 15).toNat, by omega⟩ ⟨(y - 15).toNat, by omega⟩
  rw [show ((((⟨(x - 15).toNat, by omega⟩ : Fin 30).val : Nat) : Int)) = x - 15 from by simp only; omega, show ((((⟨(y - 15).toNat, by omega⟩ : Fin 30).val : Nat) : Int)) = y - 15 from by simp only; omega] at this
  rwa [show 15 + (x - 15) = x from by omega, show 15 + (y - 15) = y from by omega] at this
theorem cut_ne' {x y : Int} (hx : 15 ≤ x ∧ x ≤ 44) (hy : 15 ≤ y ∧ y ≤ 44) : madeOf (madeOf (boxHs (-x) (-y) x y) ++ [⟨1, 1, x + y / 2⟩]) ≠ [] := by
  have := cut_ne ⟨(x - 15).toNat, by omega⟩ ⟨(y - 15).toNat, by omega⟩
  rw [show ((((⟨(x - 15).toNat, by omega⟩ : Fin 30).val : Nat) : Int)) = x - 15 from by simp only; omega, show ((((⟨(y - 15).toNat, by omega⟩ : Fin 30).val : Nat) : Int)) = y - 15 from by simp only; omega] at this
  rwa [show 15 + (x - 15) = x from by omega, show 15 + (y - 15) = y from by omega] at this
theorem box_regOk {x0 y0 x1 y1 : Int} (h1 : -1000 ≤ x0 ∧ x0 < x1 ∧ x1 ≤ 1000) (h2 : -1000 ≤ y0 ∧ y0 < y1 ∧ y1 ≤ 1000) : regOk (madeOf (boxHs x0 y0 x1 y1)) = true := by
  have b1 : boundB x0 x1 = true := by unfold boundB; simp [h1]
  have b2 : boundB y0 y1 = true := by unfold boundB; simp [h2]
  have := boxR_ok x0 y0 x1 y1
  unfold boxR at this
  rwa [if_pos ⟨b1, b2⟩] at this
theorem half_11 {c : Int} (hc : -1000 ≤ c ∧ c ≤ 1000) : halfOfZ 1 1 c = (⟨1, 1, c⟩, true) ∧ halfOk ⟨1, 1, c⟩ = true := by
  have hk : halfOk ⟨1, 1, c⟩ = true := half_one (by omega) (by omega) (by decide) hc
  have hg : gcd3 1 1 c = 1 := by unfold gcd3; rw [show Int.gcd 1 1 = 1 from rfl]; exact Nat.gcd_one_left _
  have e : halfOk ⟨1 / (gcd3 1 1 c : Int), 1 / (gcd3 1 1 c : Int), c / (gcd3 1 1 c : Int)⟩ = true := by rw [hg]; simpa using hk
  have := half_yes (a := 1) (b := 1) (c := c) (by unfold isLeastI; decide) (by unfold isLeastI; decide) (by unfold isLeastI; simp; omega) e
  rw [hg] at this
  exact ⟨by simpa using this, hk⟩
theorem cut_regOk {p : List Half} {h : Half} (hp : regOk p = true) (hh : halfOk h = true) (hl : p.length < 40) (hne : p ≠ []) : regOk (madeOf (p ++ [h])) = true := by
  have := cutR_ok p h
  unfold cutR at this
  rwa [if_pos ⟨hp, hh, hl⟩, if_neg hne] at this
theorem drawn_ok {q a b d e f x y : Int} {P L : List Half} (hq : q = 2 ∨ q = 4 ∨ q = 5 ∨ q = 10) (ha : 0 ≤ a ∧ a < 2) (hb : 0 ≤ b ∧ b < 2) (hd : 0 ≤ d ∧ d < 2) (he : 0 ≤ e ∧ e < 3) (hf : 0 ≤ f ∧ f < 4) (hx : 0 ≤ x ∧ x < 12) (hy : 0 ≤ y ∧ y < 12)
    (hP : regOk P = true) (hPn : P ≠ []) (hL : regOk L = true) (hLn : L ≠ []) : roomOk ⟨[q - 1 + a, b, -d, q - 1], q, 1 + e, f - 1, -x - 3, 3 + y, P, L⟩ = true := by
  unfold roomOk
  have h1 : isMapB [q - 1 + a, b, -d, q - 1] q = true := by
    unfold isMapB inR
    simp only [List.length_cons, List.length_nil, List.all_cons, List.all_nil, Bool.and_true, Bool.and_eq_true, decide_eq_true_eq]
    refine ⟨⟨trivial, by omega, by omega⟩, by omega⟩
  have h2 : detM [q - 1 + a, b, -d, q - 1] ≠ 0 := by
    unfold detM
    simp only [List.getD_cons_zero, List.getD_cons_succ]
    rcases (by omega : b = 0 ∨ b = 1) with rfl | rfl <;> rcases hq with rfl | rfl | rfl | rfl <;> omega
  have h3 : P.length ≠ 0 := fun e => hPn (List.length_eq_zero_iff.1 e)
  have h4 : L.length ≠ 0 := fun e => hLn (List.length_eq_zero_iff.1 e)
  simp only [h1, hP, hL, Bool.true_and, Bool.and_eq_true, decide_not, Bool.not_eq_true', decide_eq_false_iff_not, Bool.and_true]
  unfold inR
  simp only [Bool.and_eq_true, decide_eq_true_eq]
  omega
end Go.Proofs.YtjghabbcjpfjeaaGreatDoor
/- A room's rows out of the words of its cells. -/
namespace Go.Proofs.YtjghabbcjpfjeaaGreatDoor
open Go.ChangeShapes Go.WideShapes Go.ChangeAt Go.RowKit
set_option linter.unusedVariables false

end Go.Proofs.YtjghabbcjpfjeaaGreatDoor
/- A room and a region out of the words of their cells, whatever their values. -/
namespace Go.Proofs.YtjghabbcjpfjeaaGreatDoor
open Go.ChangeShapes Go.WideShapes Go.ChangeAt Go.RowKit
set_option linter.unusedVariables false

end Go.Proofs.YtjghabbcjpfjeaaGreatDoor
/- The cursor of the drawing functions: what it may return, where it writes. -/
namespace Go.Proofs.YtjghabbcjpfjeaaGreatDoor
open Go.ChangeShapes Go.WideShapes Go.ChangeAt Go.RowKit
set_option linter.unusedVariables false

/-- the cells of bytes -/
def u8s (bs : List Int) : List Value := bs.map (.int .u8 ·)
theorem u8s_length (bs : List Int) : (u8s bs).length = bs.length := by simp [u8s]
theorem u8s_get {bs : List Int} {k : Nat} (h : k < bs.length) : (u8s bs)[k]? = some (.int .u8 bs[k]) := by simp [u8s, h]
theorem u8s_ne {bs : List Int} {k : Nat} (h : k < bs.length) : u8s bs ≠ [] := by
  intro e
  have := u8s_get h
  rw [e] at this
  cases this
theorem Row.u8 {w : World} {A : Option Addr} {bs : List Int} (h : Row w A (u8s bs)) {k : Nat} (hk : k < bs.length) :
    ∃ b off, A = some ⟨b, off, none⟩ ∧ b < w.heap.size ∧ w.cell? ⟨b, off + k, none⟩ = some (.int .u8 bs[k]) := by
  obtain ⟨b, off, hA, hb, hc⟩ := h.at_ (u8s_ne hk)
  exact ⟨b, off, hA, hb, hc k _ (u8s_get hk)⟩

theorem openArg_bytes {H : Type} {enc : TypeId × Value → H} {P : Program} {w : World} {base : Nat} {spare : Nat → Bool} {held : Bool} {t e : TypeId} {r : Reach} {b0 : Nat} {v : Value} {d : DataW H} {p : List MemPlace}
    (ht : P.underlying t = some (.slice e)) (he : P.underlying e = some (.int .u8)) (hc : P.cellsOf e = 1) (hv : Value.okWide P w r b0 t v) (h : DataW.Trod enc P w base spare held t v d p) :
    ∃ A len cap bs, v = .slice A len cap ∧ bs.length = len ∧ Row w A (u8s bs) ∧ len ≤ cap ∧ cap ≤ maxLen := by
  obtain ⟨a, l, c, rfl⟩ := okWide_slice ht hv
  obtain ⟨fuel, hf⟩ := h
  rcases open_ints ht he hc hf with ⟨hcs, _⟩ | ⟨a', len, cap, zs, hcs, _, hl, hm, hz, _, hcell, _⟩
  · simp only [Value.cells, List.cons.injEq, Value.slice.injEq] at hcs
    obtain ⟨⟨rfl, rfl, rfl⟩, _⟩ := hcs
    exact ⟨none, 0, 0, [], rfl, rfl, .inl rfl, Nat.le_refl _, Nat.zero_le _⟩
  · simp only [Value.cells, List.cons.injEq, Value.slice.injEq] at hcs
    obtain ⟨⟨rfl, rfl, rfl⟩, _⟩ := hcs
    have hlen : l ≤ zs.length := by rw [hz]; split <;> omega
    refine ⟨_, _, _, zs.take l, rfl, by rw [List.length_take]; omega, ?_, hl, hm⟩
    by_cases hl0 : l = 0
    · subst hl0; exact .inl rfl
    · have h0 := hcell 0 (by omega)
      obtain ⟨b, off, hs⟩ := add_none h0
      rcases hs with rfl | ⟨hs, _⟩
      · refine .inr ⟨b, off, rfl, fun j v hj => ?_⟩
        have hj' : j < l := by
          have := (List.getElem?_eq_some_iff.1 hj).1
          simp [u8s] at this; omega
        have h1 := hcell j (by omega)
        rw [show (⟨b, off, none⟩ : Addr).add j = ⟨b, off + j, none⟩ from by unfold Addr.add; split <;> simp_all] at h1
        have e2 : v = .int .u8 (zs.getD j 0) := by
          have hz' : j < zs.length := by omega
          simp [u8s, hj', hz'] at hj
          rw [← hj]
          simp [List.getD_eq_getElem?_getD, List.getElem?_eq_getElem hz']
        rw [e2]; exact h1
      · exact absurd rfl hs

theorem and_bd (x m : Int) (h0 : 0 ≤ m) (h1 : m ≤ 9223372036854775807) : 0 ≤ bits .and .i64 x m ∧ bits .and .i64 x m ≤ m := by
  have h2 : (BitVec.ofInt 64 m).toNat = m.toNat := by
    rw [BitVec.toNat_ofInt]
    omega
  have h3 : (BitVec.ofInt 64 x &&& BitVec.ofInt 64 m).toNat ≤ m.toNat := by
    rw [BitVec.toNat_and, h2]
    exact Nat.and_le_right
  have h4 : bits .and .i64 x m = IntKind.i64.wrap ((BitVec.ofInt 64 x &&& BitVec.ofInt 64 m).toNat : Int) := rfl
  rw [h4, IntKind.wrap_i64]
  omega

/-- a cursor over the bytes bs lies in block g, behind all that w0 has -/
structure Cur (w0 w : World) (g : Nat) (A : Option Addr) (n c : Nat) : Prop where
  ext : Ext w0 w
  le : w0.heap.size ≤ g
  blk : ∃ i h : Int, 0 ≤ i ∧ i ≤ n ∧ Blk w g 115 #[.slice A n c, .int .i64 i, .int .i64 h]

theorem Cur.fwd {w0 w w' : World} {g : Nat} {A : Option Addr} {n c : Nat} (h : Cur w0 w g A n c) (e : Ext w w') : Cur w0 w' g A n c := by
  obtain ⟨i, k, hi, hn, hb⟩ := h.blk
  exact ⟨h.ext.trans e, h.le, i, k, hi, hn, hb.ext e⟩

theorem Cur.lt {w0 w : World} {g : Nat} {A : Option Addr} {n c : Nat} (h : Cur w0 w g A n c) : g < w.heap.size := by
  obtain ⟨i, k, hi, hn, hb⟩ := h.blk
  exact hb.lt
theorem Only.setNew {row : Option Nat} {a b : World} (h : Only row a b) {p : Addr} (hp : a.heap.size ≤ p.block) (u : Value) : Only row a (b.setCell p u) :=
  ⟨h.os, h.tape, h.output, by have := h.size; simp [World.setCell]; omega, fun k hk hn => (heap_setCell_other b p k u (by omega)).trans (h.block k hk hn)⟩
theorem Blk.only {w w' : World} {g k : Nat} {t : TypeId} {cs : Array Value} (h : Blk w k t cs) (ho : Only (some g) w w') (hne : k ≠ g) : Blk w' k t cs :=
  (ho.block k h.lt (by intro e; cases e; exact hne rfl)).trans h

set_option maxHeartbeats 1000000 in
theorem l01Byte_any (w0 : World) (g : Nat) (A : Option Addr) (n c : Nat) (bs : List Int) (w : World) (hn : bs.length = n) (hr : Row w0 A (u8s bs)) (hle : n ≤ 1048576) (hc : Cur w0 w g A n c) :
    Calls Tryz.prog 65 #[.pointer (some ⟨g, 0, none⟩)] w fun e w' => (∃ x : Int, e = .returned (.int .i64 x) ∧ 0 ≤ x ∧ x ≤ 255) ∧ Cur w0 w' g A n c ∧ Only (some g) w w' := by
  obtain ⟨hx, hg, i, h, hi0, hin, hb⟩ := hc
  have c0 := fun o => hb.cell o
  have f0 := fun o => hb.frozen o
  have hl := hb.lt
  go_enter Tryz.func65, Tryz.ntmps65
  go_wp2_with fail
  generalize wrap64 (wrap64 (h * 6364136223846793005) + 1442695040888963407) = h1
  have hb1 : Blk (w.setCell ⟨g, 2, none⟩ (.int .i64 h1)) g 115 #[.slice A n c, .int .i64 i, .int .i64 h1] := hb.set_ 2 (.int .i64 h1)
  have hx1 : Ext w0 (w.setCell ⟨g, 2, none⟩ (.int .i64 h1)) := hx.setCell hg _
  have ho1 : Only (some g) w (w.setCell ⟨g, 2, none⟩ (.int .i64 h1)) := (Only.refl _ w).set 2 _
  clear c0 f0 hl hb hx
  generalize w.setCell ⟨g, 2, none⟩ (.int .i64 h1) = w1 at *
  have c0 := fun o => hb1.cell o
  have f0 := fun o => hb1.frozen o
  have hl := hb1.lt
  go_quiet (fail)
  go_wp2_with fail
  obtain ⟨ha1, ha2⟩ := and_bd (bits .xor .i64 (h1 / 8589934592) (h1 / 35184372088832)) 255 (by omega) (by omega)
  generalize bits .and .i64 (bits .xor .i64 (h1 / 8589934592) (h1 / 35184372088832)) 255 = x at *
  by_cases hlt : i < (n : Int)
  · obtain ⟨k, rfl⟩ := Int.eq_ofNat_of_zero_le hi0
    have hk : k < n := by omega
    obtain ⟨b, off, rfl, hb, hcode⟩ := hr.u8 (k := k) (by omega)
    have hcode1 := hx1.cellOf hcode
    generalize hbv : bs[k] = bv at hcode1
    have hz : (0 : Int) ≤ (k : Int) := by omega
    go_quiet (fail)
    go_wp2_with fail
    go_quiet (fail)
    go_wp2_with fail
    obtain ⟨hy1, hy2⟩ := and_bd (wrap64 (x + wrap64 bv)) 255 (by omega) (by omega)
    go_ret
    refine ⟨⟨_, rfl, hy1, hy2⟩, ⟨((hx1.drewN _).setCell hg _), hg, (k : Int) + 1, h1, by omega, by omega, ?_⟩, (ho1.drewN _).set 1 _⟩
    exact (hb1.drewN _).set_ 1 _
  · have hd : decide (i < (n : Int)) = false := by simpa using hlt
    clear hlt
    go_quiet (fail)
    go_wp2
    go_ret
    exact ⟨⟨_, rfl, ha1, ha2⟩, ⟨(hx1.drewN _).drewN _, hg, i, h1, hi0, hin, (hb1.drewN _).drewN _⟩, (ho1.drewN _).drewN _⟩

set_option maxHeartbeats 1000000 in
theorem l01Below_any (w0 : World) (g : Nat) (A : Option Addr) (n c : Nat) (bs : List Int) (m : Int) (w : World) (hn : bs.length = n) (hr : Row w0 A (u8s bs)) (hle : n ≤ 1048576) (hc : Cur w0 w g A n c) (hm : I64 m) :
    Calls Tryz.prog 33 #[.pointer (some ⟨g, 0, none⟩), .int .i64 m] w fun e w' => (∃ x : Int, e = .returned (.int .i64 x) ∧ 0 ≤ x ∧ (0 < m → x < m) ∧ (m ≤ 0 → x = 0)) ∧ Cur w0 w' g A n c ∧ Only (some g) w w' := by
  unfold I64 at hm
  by_cases h0 : m ≤ 0
  · go_enter Tryz.func33, Tryz.ntmps33
    go_wp2
    go_ret
    exact ⟨⟨0, rfl, by omega, fun h => by omega, fun _ => rfl⟩, hc, Only.refl _ _⟩
  have hmz : ¬ m = 0 := by omega
  have hmb : (m == 0) = false := by simpa using hmz
  by_cases h1 : m ≤ 256
  · go_enter Tryz.func33, Tryz.ntmps33
    go_wp2_with fail
    refine (l01Byte_any _ _ _ _ _ bs _ hn hr hle hc).mono ?_
    rintro e w1 ⟨⟨x, rfl, hx0, hx1⟩, hc1, ho1⟩
    have hq0 := Int.emod_nonneg x hmz
    have hq1 := Int.emod_lt_of_pos x (show 0 < m by omega)
    go_wp2
    go_ret
    exact ⟨⟨_, rfl, hq0, fun _ => hq1, fun h => by omega⟩, hc1, ho1⟩
  · go_enter Tryz.func33, Tryz.ntmps33
    go_wp2_with fail
    refine (l01Byte_any _ _ _ _ _ bs _ hn hr hle hc).mono ?_
    rintro e w1 ⟨⟨x, rfl, hx0, hx1⟩, hc1, ho1⟩
    go_wp2_with fail
    refine (l01Byte_any _ _ _ _ _ bs _ hn hr hle hc1).mono ?_
    rintro e w2 ⟨⟨y, rfl, hy0, hy1⟩, hc2, ho2⟩
    go_wp2_with fail
    refine (l01Byte_any _ _ _ _ _ bs _ hn hr hle hc2).mono ?_
    rintro e w3 ⟨⟨z, rfl, hz0, hz1⟩, hc3, ho3⟩
    go_wp2_with fail
    refine (l01Byte_any _ _ _ _ _ bs _ hn hr hle hc3).mono ?_
    rintro e w4 ⟨⟨v, rfl, hv0, hv1⟩, hc4, ho4⟩
    have hq0 := Int.emod_nonneg (x * 16777216 + y * 65536 + z * 256 + v) hmz
    have hq1 := Int.emod_lt_of_pos (x * 16777216 + y * 65536 + z * 256 + v) (show 0 < m by omega)
    go_wp2
    go_ret
    exact ⟨⟨_, rfl, hq0, fun _ => hq1, fun h => by omega⟩, hc4, ((ho1.trans ho2).trans ho3).trans ho4⟩

set_option maxRecDepth 100000 in
set_option maxHeartbeats 1000000 in
theorem l01New_any (A : Option Addr) (n c : Nat) (bs : List Int) (w : World) (hn : bs.length = n) (hr : Row w A (u8s bs)) (hle : n ≤ 1048576) :
    Calls Tryz.prog 31 #[.slice A n c] w fun e w' => ∃ g, e = .returned (.pointer (some ⟨g, 0, none⟩)) ∧ Cur w w' g A n c := by
  go_enter Tryz.func31, Tryz.ntmps31
  go_wp2
  go_loopw [3, 4] (fun h i wr => ∃ (k : Nat) (hv : Int), k ≤ n ∧ h = .int .i64 hv ∧ i = .int .i64 (k : Int) ∧ Ext w wr) (fun _ i _ => (n - (intOf i).toNat))
  case atStart => exact ⟨0, _, by omega, rfl, rfl, Ext.refl _⟩
  case round =>
    obtain ⟨k, hv, hk, rfl, rfl, hx⟩ := hrel
    by_cases hkn : k < n
    · by_cases hk4 : k < 4000
      · obtain ⟨b, off, rfl, hb, hcode⟩ := hr.u8 (k := k) (by omega)
        have hcode1 := hx.cellOf hcode
        generalize hbv : bs[k] = bv at hcode1
        have hz : (0 : Int) ≤ (k : Int) := by omega
        have hz2 : (k : Int) < (n : Int) := by omega
        go_wp2
        go_roundw
        case rel => exact ⟨k + 1, _, by omega, rfl, by go_num, hx⟩
        case measure => simp [intOf]; omega
      · have hd : decide ((k : Int) < 4000) = false := by simp; omega
        go_wp2
        go_ret
        exact ⟨wr.heap.size, rfl, hx.alloc _, hx.size, 0, hv, by omega, by omega, Blk.new wr _ _⟩
    · have hd : decide ((k : Int) < (n : Int)) = false := by simp; omega
      go_wp2
      go_ret
      exact ⟨wr.heap.size, rfl, hx.alloc _, hx.size, 0, hv, by omega, by omega, Blk.new wr _ _⟩

set_option maxHeartbeats 1000000 in
theorem l26New_any (A : Option Addr) (n c : Nat) (bs : List Int) (m : Int) (w : World) (hn : bs.length = n) (hr : Row w A (u8s bs)) (hle : n ≤ 1048576) (hm : I64 m) :
    Calls Tryz.prog 34 #[.slice A n c, .int .i64 m] w fun e w' => ∃ g, e = .returned (.pointer (some ⟨g, 0, none⟩)) ∧ Cur w w' g A n c := by
  unfold I64 at hm
  go_enter Tryz.func34, Tryz.ntmps34
  go_wp2_with fail
  refine (l01New_any _ _ _ bs _ hn hr hle).mono ?_
  rintro e w1 ⟨g, rfl, hc1⟩
  go_wp2
  go_loopw [6] (fun i wr => ∃ (k : Int), 0 ≤ k ∧ (k ≤ m ∨ k = 0) ∧ i = .int .i64 k ∧ Cur w wr g A n c) (fun i _ => (m - intOf i).toNat)
  case atStart => exact ⟨0, by omega, .inr rfl, rfl, hc1⟩
  case round =>
    obtain ⟨k, hk0, hk, rfl, hc⟩ := hrel
    by_cases hkm : k < m
    · go_wp2_with fail
      refine (l01Byte_any _ _ _ _ _ bs _ hn hr hle hc).mono ?_
      rintro e w2 ⟨⟨x, rfl, hx0, hx1⟩, hc2, ho2⟩
      go_wp2
      go_roundw
      case rel => exact ⟨k + 1, by omega, .inl (by omega), by go_num, hc2⟩
      case measure => simp [intOf]; omega
    · go_wp2
      go_ret
      exact ⟨g, rfl, hc⟩
end Go.Proofs.YtjghabbcjpfjeaaGreatDoor
/- Contracts of the draws of rooms of the reference. (written by tools/mkDr.py) -/
namespace Go.Proofs.YtjghabbcjpfjeaaGreatDoor
open Go.ChangeShapes Go.WideShapes Go.ChangeAt Go.RowKit
set_option linter.unusedVariables false
set_option maxRecDepth 100000

set_option maxHeartbeats 1000000 in
theorem l01Pick_any (w0 : World) (g : Nat) (A : Option Addr) (n c : Nat) (bs : List Int) (B : Option Addr) (m k : Nat) (zs : List Int) (w : World) (hn : bs.length = n) (hr : Row w0 A (u8s bs)) (hle : n ≤ 1048576) (hc : Cur w0 w g A n c)
    (hm : zs.length = m) (hm0 : 0 < m) (hml : m ≤ 1000) (hz : ∀ V, Only (some g) w V → Row V B (ints zs)) :
    Calls Tryz.prog 73 #[.pointer (some ⟨g, 0, none⟩), .slice B m k] w fun e w' => (∃ x : Int, e = .returned (.int .i64 x) ∧ x ∈ zs) ∧ Cur w0 w' g A n c ∧ Only (some g) w w' := by
  have HZ := Lib.hid hz
  have HM := Lib.hid hm
  go_enter Tryz.func73, Tryz.ntmps73
  go_wp2_with fail
  refine (l01Below_any _ _ _ _ _ bs _ _ hn hr hle hc (by unfold I64; omega)).mono ?_
  rintro e w1 ⟨⟨x, rfl, hx0, hx1, _⟩, hc1, ho1⟩
  have hx2 := hx1 (by omega)
  obtain ⟨t, rfl⟩ : ∃ t : Nat, x = (t : Int) := ⟨x.toNat, by omega⟩
  have htl : t < zs.length := by rw [HM.out]; omega
  obtain ⟨b, off, rfl, hb, hcell⟩ := (HZ.out _ ho1).int (k := t) htl
  have hmem : Hid (zs[t]'htl ∈ zs) := List.getElem_mem htl
  generalize zs[t]'htl = z at *
  clear htl hx1 hm hz
  go_wp2
  go_ret
  exact ⟨⟨_, rfl, hmem.out⟩, hc1, ho1⟩
set_option maxHeartbeats 1000000 in
theorem l01Once_any (w0 : World) (g : Nat) (A : Option Addr) (n c : Nat) (bs : List Int) (m : Int) (w : World) (hn : bs.length = n) (hr : Row w0 A (u8s bs)) (hle : n ≤ 1048576) (hc : Cur w0 w g A n c) (hm : I64 m) :
    Calls Tryz.prog 75 #[.pointer (some ⟨g, 0, none⟩), .int .i64 m] w fun e w' => (∃ b : Bool, e = .returned (.bool b)) ∧ Cur w0 w' g A n c ∧ Only (some g) w w' := by
  go_enter Tryz.func75, Tryz.ntmps75
  go_wp2_with fail
  refine (l01Below_any _ _ _ _ _ bs _ _ hn hr hle hc hm).mono ?_
  rintro e w1 ⟨⟨x, rfl, _⟩, hc1, ho1⟩
  go_wp2
  go_ret
  exact ⟨⟨_, rfl⟩, hc1, ho1⟩
theorem own_only' {w w' : World} {base g : Nat} {e : TypeId} {s n : Nat} {v : Value} {xs : List Value} (h : w.ownsRow base e s v n xs) (ho : Only (some g) w w') (hg : g < base) : w'.ownsRow base e s v n xs := by
  refine World.ownsRow.kept h (row := some g) ho (.inr (fun e => ?_))
  have := (h.lt _ e).1
  omega
theorem own_set8 {w : World} {base : Nat} {e : TypeId} {s n : Nat} {v : Value} {xs : List Value} (h : w.ownsRow base e s v n xs) {p : Addr} (hp : p.block < base) (u : Value) : (w.setCell p u).ownsRow base e s v n xs := own_far h hp u
/-- the blocks from lo on are as they were, but for g -/
def Keeps (lo g : Nat) (a b : World) : Prop := ∀ k, lo ≤ k → k < a.heap.size → k ≠ g → b.heap[k]? = a.heap[k]?
theorem cell_same {a b : World} {k o : Nat} (h : b.heap[k]? = a.heap[k]?) : b.cell? ⟨k, o, none⟩ = a.cell? ⟨k, o, none⟩ := by
  unfold World.cell?
  simp only [h]
theorem Blk.keeps {a b : World} {lo g k : Nat} {t : TypeId} {cs : Array Value} (h : Blk a k t cs) (hk : Keeps lo g a b) (h1 : lo ≤ k) (h2 : k ≠ g) : Blk b k t cs := (hk k h1 h.lt h2).trans h
theorem row_keeps {a b : World} {lo g base : Nat} {e : TypeId} {s n c : Nat} {A : Option Addr} {xs : List Value} (h : a.ownsRow base e s (.slice A n c) n xs) (hk : Keeps lo g a b) (h1 : lo ≤ base) (h2 : g < base) : Row b A xs := by
  rcases Row.of_own h with h' | ⟨k, off, rfl, hc⟩
  · exact .inl h'
  · have hl := h.lt k rfl
    refine .inr ⟨k, off, rfl, fun j v hj => ?_⟩
    rw [cell_same (hk k (by omega) hl.2 (by omega))]
    exact hc j v hj
theorem Keeps.set {lo g : Nat} {a b : World} (h : Keeps lo g a b) {p : Addr} (hp : p.block < lo) (u : Value) : Keeps lo g a (b.setCell p u) := fun k h1 h2 h3 => (heap_setCell_other b p k u (by omega)).trans (h k h1 h2 h3)
theorem Keeps.only {lo g : Nat} {a b c : World} (h : Keeps lo g a b) (hs : a.heap.size ≤ b.heap.size) (ho : Only (some g) b c) : Keeps lo g a c := fun k h1 h2 h3 => (ho.block k (by omega) (by intro e; cases e; exact h3 rfl)).trans (h k h1 h2 h3)
theorem Cur.set {w0 w : World} {g : Nat} {A : Option Addr} {n c : Nat} (h : Cur w0 w g A n c) {p : Addr} (hp : w0.heap.size ≤ p.block) (hne : g ≠ p.block) (u : Value) : Cur w0 (w.setCell p u) g A n c := by
  obtain ⟨i, k, hi, hn, hb⟩ := h.blk
  exact ⟨h.ext.setCell hp u, h.le, i, k, hi, hn, hb.far hne u⟩
set_option maxHeartbeats 32000000 in
theorem l08Draw_w (w0 : World) (g : Nat) (A : Option Addr) (n c : Nat) (bs : List Int) (w : World) (hn : bs.length = n) (hr : Row w0 A (u8s bs)) (hle : n ≤ 1048576) (hc : Cur w0 w g A n c) :
    Calls Tryz.prog 32 #[.pointer (some ⟨g, 0, none⟩)] w fun e w' => ∃ (r : Room) (A0 A6 A7 : Option Addr) (c0 c6 c7 : Nat), e = .returned (.agg #[.slice A0 r.Map.length c0, .int .i64 r.Div, .int .i64 r.Bx, .int .i64 r.By, .int .i64 r.Low, .int .i64 r.High, .slice A6 r.Noise.length c6, .slice A7 r.Limits.length c7]) ∧ (roomOk r = true ∧ ∀ t ∈ cornL r.Noise, t.D = 1) ∧ Cur w0 w' g A n c ∧ ∀ V, Keeps w0.heap.size g w' V → RoomHere V r A0 A6 A7 c0 c6 c7 := by
  have hg0 := hc.lt
  have HB := Lib.hid (fun (m : Int) (hm : I64 m) w hc => l01Below_any w0 g A n c bs m w hn hr hle hc hm)
  have HP := Lib.hid (fun B m k zs w hc hm hm0 hml hz => l01Pick_any w0 g A n c bs B m k zs w hn hr hle hc hm hm0 hml hz)
  have HOn := Lib.hid (fun (m : Int) (hm : I64 m) w hc => l01Once_any w0 g A n c bs m w hn hr hle hc hm)
  have bR := Blk.new w 28 #[.slice none 0 0, .int .i64 0, .int .i64 0, .int .i64 0, .int .i64 0, .int .i64 0, .slice none 0 0, .slice none 0 0]
  have hc0 := hc.fwd ((Ext.refl w).alloc (.cells #[.slice none 0 0, .int .i64 0, .int .i64 0, .int .i64 0, .int .i64 0, .int .i64 0, .slice none 0 0, .slice none 0 0] 28))
  have hneR : w.heap.size ≠ g := by omega
  have hw0le := hc.ext.size
  clear hr hn hc
  have bZ := Blk.new (w.alloc (.cells #[.slice none 0 0, .int .i64 0, .int .i64 0, .int .i64 0, .int .i64 0, .int .i64 0, .slice none 0 0, .slice none 0 0] 28)) 3 #[.int .i64 2, .int .i64 4, .int .i64 5, .int .i64 10]
  simp only [World.size_alloc] at bZ
  have hc1 := hc0.fwd ((Ext.refl _).alloc (.cells #[.int .i64 2, .int .i64 4, .int .i64 5, .int .i64 10] 3))
  have hneZ : w.heap.size + 1 ≠ g := by omega
  replace bR := bR.alloc (.cells #[.int .i64 2, .int .i64 4, .int .i64 5, .int .i64 10] 3)
  have hzr : ∀ V, Only (some g) ((w.alloc (.cells #[.slice none 0 0, .int .i64 0, .int .i64 0, .int .i64 0, .int .i64 0, .int .i64 0, .slice none 0 0, .slice none 0 0] 28)).alloc (.cells #[.int .i64 2, .int .i64 4, .int .i64 5, .int .i64 10] 3)) V → Row V (some ⟨w.heap.size + 1, 0, none⟩) (ints [2, 4, 5, 10]) := fun V hV => by
    refine .inr ⟨w.heap.size + 1, 0, rfl, fun j v hj => ?_⟩
    rw [(bZ.only hV hneZ).cell, Nat.zero_add]
    simpa [ints] using hj
  go_enter Tryz.func32, Tryz.ntmps32
  go_wp2_with fail
  refine (HP.out _ 4 4 [2, 4, 5, 10] _ hc1 rfl (by omega) (by omega) hzr).mono ?_
  rintro e w1 ⟨⟨q, rfl, hq⟩, hc2, ho2⟩
  replace bR := bR.only ho2 hneR
  have hq' : q = 2 ∨ q = 4 ∨ q = 5 ∨ q = 10 := by simpa using hq
  have hqb : 2 ≤ q ∧ q ≤ 10 := by omega
  clear hq hzr bZ hc0 hc1
  have v1 : IntKind.i64.wrap (q - 1) = q - 1 := IntWalk.i64_in _ (by omega)
  go_wp2_with fail
  refine (HB.out 2 (by unfold I64; omega) _ hc2).mono ?_
  rintro e w2 ⟨⟨a_, rfl, hx2, hy2, _⟩, hc3, ho3⟩
  replace hy2 := hy2 (by omega)
  replace bR := bR.only ho3 hneR
  have v2 : IntKind.i64.wrap (q - 1 + a_) = q - 1 + a_ := IntWalk.i64_in _ (by omega)
  go_wp2_with fail
  refine (HB.out 2 (by unfold I64; omega) _ hc3).mono ?_
  rintro e w3 ⟨⟨b_, rfl, hx3, hy3, _⟩, hc4, ho4⟩
  replace hy3 := hy3 (by omega)
  replace bR := bR.only ho4 hneR
  go_wp2_with fail
  refine (HB.out 2 (by unfold I64; omega) _ hc4).mono ?_
  rintro e w4 ⟨⟨d_, rfl, hx4, hy4, _⟩, hc5, ho5⟩
  replace hy4 := hy4 (by omega)
  replace bR := bR.only ho5 hneR
  have v3 : IntKind.i64.wrap (-d_) = -d_ := IntWalk.i64_in _ (by omega)
  have bM := Blk.new w4 3 #[.int .i64 (q - 1 + a_), .int .i64 b_, .int .i64 (-d_), .int .i64 (q - 1)]
  have hE4 := (Ext.refl w4).alloc (.cells #[.int .i64 (q - 1 + a_), .int .i64 b_, .int .i64 (-d_), .int .i64 (q - 1)] 3)
  have hc5' := hc5.fwd hE4
  have hgM := hc5.lt
  obtain ⟨BM, hBM⟩ : ∃ B, w4.heap.size = B := ⟨_, rfl⟩
  rw [hBM] at bM
  have hneM : BM ≠ g := by omega
  have hMR : BM ≠ w.heap.size := by have := bR.lt; omega
  have hBM0 : w0.heap.size ≤ BM := by have := hc5.ext.size; omega
  replace bR := bR.ext hE4
  go_wp2_with fail
  refine (HB.out 3 (by unfold I64; omega) _ hc5').mono ?_
  rintro e w5 ⟨⟨e_, rfl, hx5, hy5, _⟩, hc6, ho6⟩
  replace hy5 := hy5 (by omega)
  replace bR := bR.only ho6 hneR
  replace bM := bM.only ho6 hneM
  have v4 : IntKind.i64.wrap (1 + e_) = 1 + e_ := IntWalk.i64_in _ (by omega)
  go_wp2_with fail
  refine (HB.out 4 (by unfold I64; omega) _ hc6).mono ?_
  rintro e w6 ⟨⟨f_, rfl, hx6, hy6, _⟩, hc7, ho7⟩
  replace hy6 := hy6 (by omega)
  replace bR := bR.only ho7 hneR
  replace bM := bM.only ho7 hneM
  have v5 : IntKind.i64.wrap (f_ - 1) = f_ - 1 := IntWalk.i64_in _ (by omega)
  have bV := Blk.new w6 28 #[.slice (some ⟨BM, 0, none⟩) 4 4, .int .i64 q, .int .i64 (1 + e_), .int .i64 (f_ - 1), .int .i64 0, .int .i64 0, .slice none 0 0, .slice none 0 0]
  have hE6 := (Ext.refl w6).alloc (.cells #[.slice (some ⟨BM, 0, none⟩) 4 4, .int .i64 q, .int .i64 (1 + e_), .int .i64 (f_ - 1), .int .i64 0, .int .i64 0, .slice none 0 0, .slice none 0 0] 28)
  have hc7' := hc7.fwd hE6
  have hgV := hc7.lt
  have hneV : w6.heap.size ≠ g := by omega
  have hRV : w.heap.size ≠ w6.heap.size := by have := bR.lt; omega
  have hMV : BM ≠ w6.heap.size := by have := bM.lt; omega
  replace bR := bR.ext hE6
  replace bM := bM.ext hE6
  have hBMl := Lib.hid hBM
  clear hBM
  have hw0 : w0.heap.size ≤ w.heap.size := hw0le
  have hw0V : w0.heap.size ≤ w6.heap.size := hc7.ext.size
  have hneV' : g ≠ w6.heap.size := Ne.symm hneV
  clear hc2 hc3 hc4 hc5 hc5' hc6 hc7 hE4 hE6 ho2 ho3 ho4 ho5 ho6 ho7 hgM hgV
  go_wp2_with fail
  generalize (w6.alloc (.cells #[.slice (some ⟨BM, 0, none⟩) 4 4, .int .i64 q, .int .i64 (1 + e_), .int .i64 (f_ - 1), .int .i64 0, .int .i64 0, .slice none 0 0, .slice none 0 0] 28)) = W7 at *
  generalize w6.heap.size = BV at *
  refine (HB.out 12 (by unfold I64; omega) _ hc7').mono ?_
  rintro e w7 ⟨⟨x_, rfl, hx7, hy7, _⟩, hc8, ho8⟩
  replace hy7 := hy7 (by omega)
  replace bR := bR.only ho8 hneR
  replace bM := bM.only ho8 hneM
  replace bV := bV.only ho8 hneV
  have v6 : IntKind.i64.wrap (-x_) = -x_ := IntWalk.i64_in _ (by omega)
  have v7 : IntKind.i64.wrap (-x_ - 3) = -x_ - 3 := IntWalk.i64_in _ (by omega)
  have cV := fun o => bV.cell o
  have fV := fun o => bV.frozen o
  have hc8' := hc8.set (p := ⟨BV, 4, none⟩) hw0V hneV' (.int .i64 (-x_ - 3))
  replace bR := bR.far (p := ⟨BV, 4, none⟩) hRV (.int .i64 (-x_ - 3))
  replace bM := bM.far (p := ⟨BV, 4, none⟩) hMV (.int .i64 (-x_ - 3))
  replace bV := bV.set_ 4 (.int .i64 (-x_ - 3))
  go_wp2_with fail
  clear cV fV
  refine (HB.out 12 (by unfold I64; omega) _ hc8').mono ?_
  rintro e w8 ⟨⟨y_, rfl, hx8, hy8, _⟩, hc9, ho9⟩
  replace hy8 := hy8 (by omega)
  replace bR := bR.only ho9 hneR
  replace bM := bM.only ho9 hneM
  replace bV := bV.only ho9 hneV
  have v8 : IntKind.i64.wrap (3 + y_) = 3 + y_ := IntWalk.i64_in _ (by omega)
  have cV := fun o => bV.cell o
  have fV := fun o => bV.frozen o
  have hc9' := hc9.set (p := ⟨BV, 5, none⟩) hw0V hneV' (.int .i64 (3 + y_))
  replace bR := bR.far (p := ⟨BV, 5, none⟩) hRV (.int .i64 (3 + y_))
  replace bM := bM.far (p := ⟨BV, 5, none⟩) hMV (.int .i64 (3 + y_))
  replace bV := bV.set_ 5 (.int .i64 (3 + y_))
  go_wp2_with fail
  clear cV fV
  refine (HB.out 2 (by unfold I64; omega) _ hc9').mono ?_
  rintro e w9 ⟨⟨z_, rfl, hx9, hy9, _⟩, hc10, ho10⟩
  replace hy9 := hy9 (by omega)
  replace bR := bR.only ho10 hneR
  replace bM := bM.only ho10 hneM
  replace bV := bV.only ho10 hneV
  have v9 : IntKind.i64.wrap (1 + z_) = 1 + z_ := IntWalk.i64_in _ (by omega)
  obtain ⟨za, hza⟩ : ∃ u, 1 + z_ = u := ⟨_, rfl⟩
  have hzb : 1 ≤ za ∧ za ≤ 2 := by omega
  rw [hza] at v9
  have v10 : IntKind.i64.wrap (-za) = -za := IntWalk.i64_in _ (by omega)
  have v9' : IntKind.i64.wrap (1 + z_) = za := by rw [hza]; exact v9
  have HBox := Lib.hid (fun w => specBoxRegion_ok (-za) (-1) za 1 w (by omega) (by omega))
  have HPk : Hid (regOk (madeOf (boxHs (-za) (-1) za 1)) = true) := box_regOk (by omega) (by omega)
  have HPn : Hid (madeOf (boxHs (-za) (-1) za 1) ≠ []) := noise_ne' hzb
  have HPd : Hid (∀ t ∈ cornL (madeOf (boxHs (-za) (-1) za 1)), t.D = 1) := noise_whole' hzb
  generalize madeOf (boxHs (-za) (-1) za 1) = P at *
  clear v9 hza
  go_wp2_with fail
  with_reducible refine (HBox.out _).mono ?_
  rintro e w10 ⟨A6, c6, n6, rfl, hn6, hx10_, hN⟩
  dsimp only at hn6 hN ⊢
  subst hn6
  have hgN := hc10.lt
  have hVN := bV.lt
  have hRN := bR.lt
  have hc11 := hc10.fwd hx10_
  replace bR := bR.ext hx10_
  replace bM := bM.ext hx10_
  replace bV := bV.ext hx10_
  generalize w9.heap.size = SN at *
  have cV := fun o => bV.cell o
  have fV := fun o => bV.frozen o
  have hc11' := hc11.set (p := ⟨BV, 6, none⟩) hw0V hneV' (.slice A6 P.length c6)
  replace bR := bR.far (p := ⟨BV, 6, none⟩) hRV (.slice A6 P.length c6)
  replace bM := bM.far (p := ⟨BV, 6, none⟩) hMV (.slice A6 P.length c6)
  replace bV := bV.set_ 6 (.slice A6 P.length c6)
  replace hN := own_far hN (p := ⟨BV, 6, none⟩) hVN (.slice A6 P.length c6)
  go_wp2_with fail
  clear cV fV
  refine (HB.out 30 (by unfold I64; omega) _ hc11').mono ?_
  rintro e w11 ⟨⟨x2, rfl, hx11, hy11, _⟩, hc12, ho12⟩
  replace hy11 := hy11 (by omega)
  replace bR := bR.only ho12 hneR
  replace bM := bM.only ho12 hneM
  replace bV := bV.only ho12 hneV
  replace hN := own_only' hN ho12 hgN
  obtain ⟨X, hX⟩ : ∃ u, 15 + x2 = u := ⟨_, rfl⟩
  have v11' : IntKind.i64.wrap (15 + x2) = X := by rw [hX]; exact IntWalk.i64_in _ (by omega)
  have hXb : 15 ≤ X ∧ X ≤ 44 := by omega
  clear hX
  go_wp2_with fail
  refine (HB.out 30 (by unfold I64; omega) _ hc12).mono ?_
  rintro e w12 ⟨⟨y2, rfl, hx12, hy12, _⟩, hc13, ho13⟩
  replace hy12 := hy12 (by omega)
  replace bR := bR.only ho13 hneR
  replace bM := bM.only ho13 hneM
  replace bV := bV.only ho13 hneV
  replace hN := own_only' hN ho13 hgN
  obtain ⟨Y, hY⟩ : ∃ u, 15 + y2 = u := ⟨_, rfl⟩
  have v12' : IntKind.i64.wrap (15 + y2) = Y := by rw [hY]; exact IntWalk.i64_in _ (by omega)
  have hYb : 15 ≤ Y ∧ Y ≤ 44 := by omega
  have v13 : IntKind.i64.wrap (-X) = -X := IntWalk.i64_in _ (by omega)
  have v14 : IntKind.i64.wrap (-Y) = -Y := IntWalk.i64_in _ (by omega)
  have v15 : IntKind.i64.wrap (Y.tdiv 2) = Y / 2 := by rw [Int.tdiv_eq_ediv_of_nonneg (by omega)]; exact IntWalk.i64_in _ (by omega)
  have v16 : IntKind.i64.wrap (X + Y / 2) = X + Y / 2 := IntWalk.i64_in _ (by omega)
  have HBox2 := Lib.hid (fun w => specBoxRegion_ok (-X) (-Y) X Y w (by omega) (by omega))
  have HLk : Hid (regOk (madeOf (boxHs (-X) (-Y) X Y)) = true) := box_regOk (by omega) (by omega)
  have HLn : Hid (madeOf (boxHs (-X) (-Y) X Y) ≠ []) := limits_ne' hXb hYb
  have HLl : Hid ((madeOf (boxHs (-X) (-Y) X Y)).length ≤ 8) := box_len
  have HCn : Hid (madeOf (madeOf (boxHs (-X) (-Y) X Y) ++ [⟨1, 1, X + Y / 2⟩]) ≠ []) := cut_ne' hXb hYb
  have HH := Lib.hid (half_11 (c := X + Y / 2) (by omega))
  have HHf := Lib.hid (fun w => specHalfOf_any 1 1 (X + Y / 2) w (by unfold I64; omega) (by unfold I64; omega) (by unfold I64; omega))
  rw [HH.out.1] at HHf
  generalize madeOf (boxHs (-X) (-Y) X Y) = L at *
  clear hY
  go_wp2_with fail
  with_reducible refine (HBox2.out _).mono ?_
  rintro e w13 ⟨A7, c7, n7, rfl, hn7, hx13_, hL⟩
  dsimp only at hn7 hL ⊢
  subst hn7
  have hgL := hc13.lt
  have hVL := bV.lt
  have hRL := bR.lt
  have hc14 := hc13.fwd hx13_
  replace bR := bR.ext hx13_
  replace bM := bM.ext hx13_
  replace bV := bV.ext hx13_
  replace hN := own_ext hN hx13_
  generalize w12.heap.size = SL at *
  have cV := fun o => bV.cell o
  have fV := fun o => bV.frozen o
  have hc14' := hc14.set (p := ⟨BV, 7, none⟩) hw0V hneV' (.slice A7 L.length c7)
  replace bR := bR.far (p := ⟨BV, 7, none⟩) hRV (.slice A7 L.length c7)
  replace bM := bM.far (p := ⟨BV, 7, none⟩) hMV (.slice A7 L.length c7)
  replace bV := bV.set_ 7 (.slice A7 L.length c7)
  replace hN := own_far hN (p := ⟨BV, 7, none⟩) hVN (.slice A7 L.length c7)
  replace hL := own_far hL (p := ⟨BV, 7, none⟩) hVL (.slice A7 L.length c7)
  go_wp2_with fail
  clear cV fV
  refine (HOn.out 3 (by unfold I64; omega) _ hc14').mono ?_
  rintro e w14 ⟨⟨once, rfl⟩, hc15, ho15⟩
  replace bR := bR.only ho15 hneR
  replace bM := bM.only ho15 hneM
  replace bV := bV.only ho15 hneV
  replace hN := own_only' hN ho15 hgN
  replace hL := own_only' hL ho15 hgL
  cases once
  · skip
    have cV := fun o => bV.cell o
    have fV := fun o => bV.frozen o
    have cR := fun o => bR.cell o
    have fR := fun o => bR.frozen o
    go_wp2
    have bF := (((((((bR.set_ 0 (.slice (some ⟨BM, 0, none⟩) 4 4)).set_ 1 (.int .i64 q)).set_ 2 (.int .i64 (1 + e_))).set_ 3 (.int .i64 (f_ - 1))).set_ 4 (.int .i64 (-x_ - 3))).set_ 5 (.int .i64 (3 + y_))).set_ 6 (.slice A6 P.length c6)).set_ 7 (.slice A7 L.length c7)
    have cF := fun o => bF.cell o
    clear cR fR
    refine bodyPost_ret (v := .agg #[.slice (some ⟨BM, 0, none⟩) 4 4, .int .i64 q, .int .i64 (1 + e_), .int .i64 (f_ - 1), .int .i64 (-x_ - 3), .int .i64 (3 + y_), .slice A6 P.length c6, .slice A7 L.length c7]) (by simp [results, Tryz.results32, go_sem, cF]) rfl ?_
    refine ⟨⟨[q - 1 + a_, b_, -d_, q - 1], q, 1 + e_, f_ - 1, -x_ - 3, 3 + y_, P, L⟩, some ⟨BM, 0, none⟩, A6, A7, 4, c6, c7, rfl, ⟨drawn_ok hq' (by omega) (by omega) (by omega) (by omega) (by omega) (by omega) (by omega) HPk.out HPn.out HLk.out HLn.out, HPd.out⟩, ?_, fun V hV => ?_⟩
    · repeat (first | (with_reducible exact hc15) | refine Cur.set ?_ (by simp only; omega) (by simp only; omega) _)
    have hMx := bM
    have hNx := hN
    have hLx := hL
    have bMF := (((((((bM.far (p := ⟨w.heap.size, 0, none⟩) hMR (.slice (some ⟨BM, 0, none⟩) 4 4)).far (p := ⟨w.heap.size, 1, none⟩) hMR (.int .i64 q)).far (p := ⟨w.heap.size, 2, none⟩) hMR (.int .i64 (1 + e_))).far (p := ⟨w.heap.size, 3, none⟩) hMR (.int .i64 (f_ - 1))).far (p := ⟨w.heap.size, 4, none⟩) hMR (.int .i64 (-x_ - 3))).far (p := ⟨w.heap.size, 5, none⟩) hMR (.int .i64 (3 + y_))).far (p := ⟨w.heap.size, 6, none⟩) hMR (.slice A6 P.length c6)).far (p := ⟨w.heap.size, 7, none⟩) hMR (.slice A7 L.length c7)
    have bMV := bMF.keeps hV hBM0 hneM
    refine ⟨⟨?_, row_keeps (?_ : World.ownsRow _ SN 120 3 (.slice A6 P.length c6) P.length _) hV (by omega) hgN, row_keeps (?_ : World.ownsRow _ SL 120 3 (.slice A7 L.length c7) L.length _) hV (by omega) hgL⟩, (Mine.of_own hN).none, (Mine.of_own hL).none⟩
    · refine .inr ⟨BM, 0, rfl, fun j v hj => ?_⟩
      rw [bMV.cell, Nat.zero_add]
      simpa [ints] using hj
    · repeat (first | (with_reducible exact hNx) | refine own_far ?_ (by simp only; omega) _)
    · repeat (first | (with_reducible exact hLx) | refine own_far ?_ (by simp only; omega) _)
  go_wp2_with fail
  refine (HHf.out _).mono ?_
  rintro e w15 ⟨rfl, hx15_⟩
  have hE15 := hx15_.trans ((Ext.refl w15).alloc (.cells #[.int .i64 1, .int .i64 1, .int .i64 (X + Y / 2)] 120))
  have bH := Blk.new w15 120 #[.int .i64 1, .int .i64 1, .int .i64 (X + Y / 2)]
  have hc16 := hc15.fwd hE15
  replace bR := bR.ext hE15
  replace bM := bM.ext hE15
  replace bV := bV.ext hE15
  replace hN := own_ext hN hE15
  replace hL := own_ext hL hE15
  have cV := fun o => bV.cell o
  have cH := fun o => bH.cell o
  have HCut := Lib.hid (fun w hr => specCutRegion_ok A7 L.length c7 L ⟨1, 1, X + Y / 2⟩ w rfl hr HLk.out HLn.out (by have := HLl.out; omega) HH.out.2)
  have HCk : Hid (regOk (madeOf (L ++ [⟨1, 1, X + Y / 2⟩])) = true) := cut_regOk HLk.out HH.out.2 (by have := HLl.out; omega) HLn.out
  generalize madeOf (L ++ [⟨1, 1, X + Y / 2⟩]) = M at *
  go_wp2_with fail
  with_reducible refine (HCut.out _ (Row.of_own hL)).mono ?_
  rintro e w16 ⟨A8, c8, n8, rfl, hn8, hx16_, hQ⟩
  dsimp only at hn8 hQ ⊢
  subst hn8
  have hgQ := hc16.lt
  have hVQ := bV.lt
  have hRQ := bR.lt
  have hE16 := (Ext.refl w16).alloc (.cells #[.slice A8 M.length c8] 26)
  have bX := Blk.new w16 26 #[.slice A8 M.length c8]
  have hc17 := (hc16.fwd hx16_).fwd hE16
  replace bR := (bR.ext hx16_).ext hE16
  replace bM := (bM.ext hx16_).ext hE16
  replace bV := (bV.ext hx16_).ext hE16
  replace hN := own_ext (own_ext hN hx16_) hE16
  have hQ' := own_ext hQ hE16
  obtain ⟨SQ, hSQ⟩ : ∃ s, (w15.alloc (.cells #[.int .i64 1, .int .i64 1, .int .i64 (X + Y / 2)] 120)).heap.size = s := ⟨_, rfl⟩
  rw [hSQ] at hgQ hVQ hRQ hQ'
  clear hSQ cV cH hL hQ
  have cV0 := fun o => bV.cell o
  have fV0 := fun o => bV.frozen o
  have cX0 := fun o => bX.cell o
  have hc17' := hc17.set (p := ⟨BV, 7, none⟩) hw0V hneV' (.slice A8 M.length c8)
  replace bR := bR.far (p := ⟨BV, 7, none⟩) hRV (.slice A8 M.length c8)
  replace bM := bM.far (p := ⟨BV, 7, none⟩) hMV (.slice A8 M.length c8)
  replace bV := bV.set_ 7 (.slice A8 M.length c8)
  replace hN := own_far hN (p := ⟨BV, 7, none⟩) hVN (.slice A8 M.length c8)
  replace hQ' := own_far hQ' (p := ⟨BV, 7, none⟩) hVQ (.slice A8 M.length c8)
  have hL := hQ'
  have HLk' := HCk
  have HLn' := HCn
  have cV := fun o => bV.cell o
  have fV := fun o => bV.frozen o
  have cR := fun o => bR.cell o
  have fR := fun o => bR.frozen o
  go_wp2
  have bF := (((((((bR.set_ 0 (.slice (some ⟨BM, 0, none⟩) 4 4)).set_ 1 (.int .i64 q)).set_ 2 (.int .i64 (1 + e_))).set_ 3 (.int .i64 (f_ - 1))).set_ 4 (.int .i64 (-x_ - 3))).set_ 5 (.int .i64 (3 + y_))).set_ 6 (.slice A6 P.length c6)).set_ 7 (.slice A8 M.length c8)
  have cF := fun o => bF.cell o
  clear cR fR
  refine bodyPost_ret (v := .agg #[.slice (some ⟨BM, 0, none⟩) 4 4, .int .i64 q, .int .i64 (1 + e_), .int .i64 (f_ - 1), .int .i64 (-x_ - 3), .int .i64 (3 + y_), .slice A6 P.length c6, .slice A8 M.length c8]) (by simp [results, Tryz.results32, go_sem, cF]) rfl ?_
  refine ⟨⟨[q - 1 + a_, b_, -d_, q - 1], q, 1 + e_, f_ - 1, -x_ - 3, 3 + y_, P, M⟩, some ⟨BM, 0, none⟩, A6, A8, 4, c6, c8, rfl, ⟨drawn_ok hq' (by omega) (by omega) (by omega) (by omega) (by omega) (by omega) (by omega) HPk.out HPn.out HLk'.out HLn'.out, HPd.out⟩, ?_, fun V hV => ?_⟩
  · repeat (first | (with_reducible exact hc17') | refine Cur.set ?_ (by simp only; omega) (by simp only; omega) _)
  have hMx := bM
  have hNx := hN
  have hLx := hL
  have bMF := (((((((bM.far (p := ⟨w.heap.size, 0, none⟩) hMR (.slice (some ⟨BM, 0, none⟩) 4 4)).far (p := ⟨w.heap.size, 1, none⟩) hMR (.int .i64 q)).far (p := ⟨w.heap.size, 2, none⟩) hMR (.int .i64 (1 + e_))).far (p := ⟨w.heap.size, 3, none⟩) hMR (.int .i64 (f_ - 1))).far (p := ⟨w.heap.size, 4, none⟩) hMR (.int .i64 (-x_ - 3))).far (p := ⟨w.heap.size, 5, none⟩) hMR (.int .i64 (3 + y_))).far (p := ⟨w.heap.size, 6, none⟩) hMR (.slice A6 P.length c6)).far (p := ⟨w.heap.size, 7, none⟩) hMR (.slice A8 M.length c8)
  have bMV := bMF.keeps hV hBM0 hneM
  refine ⟨⟨?_, row_keeps (?_ : World.ownsRow _ SN 120 3 (.slice A6 P.length c6) P.length _) hV (by omega) hgN, row_keeps (?_ : World.ownsRow _ SQ 120 3 (.slice A8 M.length c8) M.length _) hV (by omega) hgQ⟩, (Mine.of_own hN).none, (Mine.of_own hL).none⟩
  · refine .inr ⟨BM, 0, rfl, fun j v hj => ?_⟩
    rw [bMV.cell, Nat.zero_add]
    simpa [ints] using hj
  · repeat (first | (with_reducible exact hNx) | refine own_far ?_ (by simp only; omega) _)
  · repeat (first | (with_reducible exact hLx) | refine own_far ?_ (by simp only; omega) _)
theorem spot_drawn {x y : Int} (hx : -15 ≤ x ∧ x ≤ 14) (hy : -15 ≤ y ∧ y ≤ 14) : spotOk ⟨x, y, 1⟩ = true := by
  unfold spotOk inR
  simp only [Bool.and_eq_true, decide_eq_true_eq]
  exact ⟨⟨⟨by omega, by omega⟩, by omega⟩, Nat.gcd_one_right _⟩
set_option maxHeartbeats 16000000 in
theorem makeState_w (A : Option Addr) (n c : Nat) (bs : List Int) (w : World) (hn : bs.length = n) (hr : Row w A (u8s bs)) (hle : n ≤ 1048576) :
    Calls Tryz.prog 5 #[.slice A n c] w fun e w' => ∃ (r : Room) (s : Spot) (A0 A6 A7 : Option Addr) (c0 c6 c7 : Nat), e = .returned (.tuple #[.agg #[.slice A0 r.Map.length c0, .int .i64 r.Div, .int .i64 r.Bx, .int .i64 r.By, .int .i64 r.Low, .int .i64 r.High, .slice A6 r.Noise.length c6, .slice A7 r.Limits.length c7], .agg #[.int .i64 s.X, .int .i64 s.Y, .int .i64 s.D]]) ∧ (roomOk r = true ∧ ∀ t ∈ cornL r.Noise, t.D = 1) ∧ spotOk s = true ∧ RoomHere w' r A0 A6 A7 c0 c6 c7 ∧ Ext w w' := by
  have hx : Ext w ((w.alloc (.cells #[.slice none 0 0, .int .i64 0, .int .i64 0, .int .i64 0, .int .i64 0, .int .i64 0, .slice none 0 0, .slice none 0 0] 28)).alloc (.cells #[.int .i64 0, .int .i64 0, .int .i64 0] 30)) := ((Ext.refl w).alloc _).alloc _
  have bR := (Blk.new w 28 #[.slice none 0 0, .int .i64 0, .int .i64 0, .int .i64 0, .int .i64 0, .int .i64 0, .slice none 0 0, .slice none 0 0]).alloc (.cells #[.int .i64 0, .int .i64 0, .int .i64 0] 30)
  have bS := Blk.new (w.alloc (.cells #[.slice none 0 0, .int .i64 0, .int .i64 0, .int .i64 0, .int .i64 0, .int .i64 0, .slice none 0 0, .slice none 0 0] 28)) 30 #[.int .i64 0, .int .i64 0, .int .i64 0]
  simp only [World.size_alloc] at bS
  have hr0 := hr.ext hx
  have hsz0 : ((w.alloc (.cells #[.slice none 0 0, .int .i64 0, .int .i64 0, .int .i64 0, .int .i64 0, .int .i64 0, .slice none 0 0, .slice none 0 0] 28)).alloc (.cells #[.int .i64 0, .int .i64 0, .int .i64 0] 30)).heap.size = w.heap.size + 2 := by simp only [World.size_alloc]
  have HNew := Lib.hid (l01New_any A n c bs _ hn hr0 hle)
  have HDr := Lib.hid (fun w g hc => l08Draw_w _ g A n c bs w hn hr0 hle hc)
  have HB := Lib.hid (fun (m : Int) (hm : I64 m) w g hc => l01Below_any _ g A n c bs m w hn hr0 hle hc hm)
  clear hn hr hr0
  go_enter Tryz.func5, Tryz.ntmps5
  go_wp2_with fail
  refine (HNew.out).mono ?_
  rintro e w1 ⟨g, rfl, hc1⟩
  have hg1 := hc1.le
  rw [hsz0] at hg1
  go_wp2_with fail
  refine (HDr.out _ g hc1).mono ?_
  rintro e w2 ⟨r, A0, A6, A7, c0, c6, c7, rfl, hok, hc2, hRH⟩
  have HRH := Lib.hid hRH
  rw [hsz0] at HRH
  clear hRH
  replace bR := bR.ext hc2.ext
  replace bS := bS.ext hc2.ext
  have hgl := hc2.lt
  have bV := Blk.new w2 28 #[.slice A0 r.Map.length c0, .int .i64 r.Div, .int .i64 r.Bx, .int .i64 r.By, .int .i64 r.Low, .int .i64 r.High, .slice A6 r.Noise.length c6, .slice A7 r.Limits.length c7]
  have hE := (Ext.refl w2).alloc (.cells #[.slice A0 r.Map.length c0, .int .i64 r.Div, .int .i64 r.Bx, .int .i64 r.By, .int .i64 r.Low, .int .i64 r.High, .slice A6 r.Noise.length c6, .slice A7 r.Limits.length c7] 28)
  have hc3 := hc2.fwd hE
  have hRl := bR.lt
  have hSl := bS.lt
  replace bR := bR.ext hE
  replace bS := bS.ext hE
  have hneV : w2.heap.size ≠ g := by omega
  have hneR : w.heap.size ≠ g := by omega
  have hneS : w.heap.size + 1 ≠ g := by omega
  have n1 : ¬ w2.heap.size = w.heap.size := by omega
  have n2 : ¬ w.heap.size = w2.heap.size := by omega
  have n3 : ¬ w2.heap.size = w.heap.size + 1 := by omega
  have n4 : ¬ w.heap.size + 1 = w2.heap.size := by omega
  have hK0 : Keeps (w.heap.size + 2) g w2 (w2.alloc (.cells #[.slice A0 r.Map.length c0, .int .i64 r.Div, .int .i64 r.Bx, .int .i64 r.By, .int .i64 r.Low, .int .i64 r.High, .slice A6 r.Noise.length c6, .slice A7 r.Limits.length c7] 28)) := fun k _ h2 _ => hE.block k h2
  have hwl : w.heap.size + 1 < w2.heap.size := hSl
  have cV := fun o => bV.cell o
  clear hc2 hc1 hE
  go_wp2_with fail
  generalize (w2.alloc (.cells #[.slice A0 r.Map.length c0, .int .i64 r.Div, .int .i64 r.Bx, .int .i64 r.By, .int .i64 r.Low, .int .i64 r.High, .slice A6 r.Noise.length c6, .slice A7 r.Limits.length c7] 28)) = W at *
  go_region_held3 (fun w' => w'.cell? ⟨w2.heap.size, 0, none⟩ = some (.slice A0 r.Map.length c0) ∧ w'.cell? ⟨w2.heap.size, 1, none⟩ = some (.int .i64 r.Div) ∧ w'.cell? ⟨w2.heap.size, 2, none⟩ = some (.int .i64 r.Bx) ∧ w'.cell? ⟨w2.heap.size, 3, none⟩ = some (.int .i64 r.By) ∧ w'.cell? ⟨w2.heap.size, 4, none⟩ = some (.int .i64 r.Low) ∧ w'.cell? ⟨w2.heap.size, 5, none⟩ = some (.int .i64 r.High) ∧ w'.cell? ⟨w2.heap.size, 6, none⟩ = some (.slice A6 r.Noise.length c6) ∧ w'.cell? ⟨w2.heap.size, 7, none⟩ = some (.slice A7 r.Limits.length c7))
    (go_keep)
    (first
      | (go_at_call 33; (with_reducible refine (HB.out 30 (by unfold I64; omega) _ g (by exact hc3.fwd ((Ext.refl _).drew))).mono ?_); rintro e w8 ⟨⟨x, rfl, hx0, hx1, _⟩, hc8, ho8⟩; replace hx1 := hx1 (by omega); have hw1 : IntKind.i64.wrap (x - 15) = x - 15 := IntWalk.i64_in _ (by omega); have bV8 := Blk.only (by exact bV) ho8 hneV; have bR8 := Blk.only (by exact bR) ho8 hneR; have bS8 := Blk.only (by exact bS) ho8 hneS; have d8 := fun o => bV8.cell o)
      | (go_at_call 33; (with_reducible refine (HB.out 30 (by unfold I64; omega) _ g hc8).mono ?_); rintro e w9 ⟨⟨y, rfl, hy0, hy1, _⟩, hc9, ho9⟩; replace hy1 := hy1 (by omega); have hw2 : IntKind.i64.wrap (y - 15) = y - 15 := IntWalk.i64_in _ (by omega); have bV9 := bV8.only ho9 hneV; have bR9 := bR8.only ho9 hneR; have bS9 := bS8.only ho9 hneS; have d9 := fun o => bV9.cell o; have d9R := fun o => bR9.cell o; have f9R := fun o => bR9.frozen o; have d9S := fun o => bS9.cell o; have f9S := fun o => bS9.frozen o))
  all_goals
    have n5 : w.heap.size ≠ w.heap.size + 1 := by omega
    have n6 : w.heap.size + 1 ≠ w.heap.size := by omega
    have bRF := (((((((((((bR9.set_ 0 (.slice A0 r.Map.length c0)).set_ 1 (.int .i64 r.Div)).set_ 2 (.int .i64 r.Bx)).set_ 3 (.int .i64 r.By)).set_ 4 (.int .i64 r.Low)).set_ 5 (.int .i64 r.High)).set_ 6 (.slice A6 r.Noise.length c6)).set_ 7 (.slice A7 r.Limits.length c7)).far (p := ⟨w.heap.size + 1, 0, none⟩) n5 (.int .i64 (x - 15))).far (p := ⟨w.heap.size + 1, 1, none⟩) n5 (.int .i64 (y - 15))).far (p := ⟨w.heap.size + 1, 2, none⟩) n5 (.int .i64 1))
    have bSF := (((((((((((bS9.far (p := ⟨w.heap.size, 0, none⟩) n6 (.slice A0 r.Map.length c0)).far (p := ⟨w.heap.size, 1, none⟩) n6 (.int .i64 r.Div)).far (p := ⟨w.heap.size, 2, none⟩) n6 (.int .i64 r.Bx)).far (p := ⟨w.heap.size, 3, none⟩) n6 (.int .i64 r.By)).far (p := ⟨w.heap.size, 4, none⟩) n6 (.int .i64 r.Low)).far (p := ⟨w.heap.size, 5, none⟩) n6 (.int .i64 r.High)).far (p := ⟨w.heap.size, 6, none⟩) n6 (.slice A6 r.Noise.length c6)).far (p := ⟨w.heap.size, 7, none⟩) n6 (.slice A7 r.Limits.length c7)).set_ 0 (.int .i64 (x - 15))).set_ 1 (.int .i64 (y - 15))).set_ 2 (.int .i64 1))
    have hK1 : Keeps (w.heap.size + 2) g w2 W.drew := hK0
    have hVl : w2.heap.size < W.heap.size := bV.lt
    have hWs : w2.heap.size ≤ W.drew.heap.size := Nat.le_of_lt hVl
    have hK9 := (hK1.only hWs ho8).only (Nat.le_trans hWs ho8.size) ho9
    have hE9 := hx.trans hc9.ext
    have hKF := (((((((((((hK9.set (p := ⟨w.heap.size, 0, none⟩) (by simp only; omega) (.slice A0 r.Map.length c0)).set (p := ⟨w.heap.size, 1, none⟩) (by simp only; omega) (.int .i64 r.Div)).set (p := ⟨w.heap.size, 2, none⟩) (by simp only; omega) (.int .i64 r.Bx)).set (p := ⟨w.heap.size, 3, none⟩) (by simp only; omega) (.int .i64 r.By)).set (p := ⟨w.heap.size, 4, none⟩) (by simp only; omega) (.int .i64 r.Low)).set (p := ⟨w.heap.size, 5, none⟩) (by simp only; omega) (.int .i64 r.High)).set (p := ⟨w.heap.size, 6, none⟩) (by simp only; omega) (.slice A6 r.Noise.length c6)).set (p := ⟨w.heap.size, 7, none⟩) (by simp only; omega) (.slice A7 r.Limits.length c7)).set (p := ⟨w.heap.size + 1, 0, none⟩) (by simp only; omega) (.int .i64 (x - 15))).set (p := ⟨w.heap.size + 1, 1, none⟩) (by simp only; omega) (.int .i64 (y - 15))).set (p := ⟨w.heap.size + 1, 2, none⟩) (by simp only; omega) (.int .i64 1))
    have hEF := (((((((((((hE9.setCell (p := ⟨w.heap.size, 0, none⟩) (by simp only; omega) (.slice A0 r.Map.length c0)).setCell (p := ⟨w.heap.size, 1, none⟩) (by simp only; omega) (.int .i64 r.Div)).setCell (p := ⟨w.heap.size, 2, none⟩) (by simp only; omega) (.int .i64 r.Bx)).setCell (p := ⟨w.heap.size, 3, none⟩) (by simp only; omega) (.int .i64 r.By)).setCell (p := ⟨w.heap.size, 4, none⟩) (by simp only; omega) (.int .i64 r.Low)).setCell (p := ⟨w.heap.size, 5, none⟩) (by simp only; omega) (.int .i64 r.High)).setCell (p := ⟨w.heap.size, 6, none⟩) (by simp only; omega) (.slice A6 r.Noise.length c6)).setCell (p := ⟨w.heap.size, 7, none⟩) (by simp only; omega) (.slice A7 r.Limits.length c7)).setCell (p := ⟨w.heap.size + 1, 0, none⟩) (by simp only; omega) (.int .i64 (x - 15))).setCell (p := ⟨w.heap.size + 1, 1, none⟩) (by simp only; omega) (.int .i64 (y - 15))).setCell (p := ⟨w.heap.size + 1, 2, none⟩) (by simp only; omega) (.int .i64 1))
    have cRF := fun o => bRF.cell o
    have cSF := fun o => bSF.cell o
    have hsk : spotOk ⟨x - 15, y - 15, 1⟩ = true := spot_drawn (by omega) (by omega)
    go_wp2
    refine bodyPost_ret (v := .tuple #[.agg #[.slice A0 r.Map.length c0, .int .i64 r.Div, .int .i64 r.Bx, .int .i64 r.By, .int .i64 r.Low, .int .i64 r.High, .slice A6 r.Noise.length c6, .slice A7 r.Limits.length c7], .agg #[.int .i64 (x - 15), .int .i64 (y - 15), .int .i64 1]]) (by simp [results, Tryz.results5, go_sem, cRF, cSF]) rfl ?_
    exact ⟨r, ⟨x - 15, y - 15, 1⟩, A0, A6, A7, c0, c6, c7, rfl, hok, hsk, HRH.out _ hKF, hEF⟩
theorem l08Draw_any (w0 : World) (g : Nat) (A : Option Addr) (n c : Nat) (bs : List Int) (w : World) (hn : bs.length = n) (hr : Row w0 A (u8s bs)) (hle : n ≤ 1048576) (hc : Cur w0 w g A n c) :
    Calls Tryz.prog 32 #[.pointer (some ⟨g, 0, none⟩)] w fun e w' => ∃ (r : Room) (A0 A6 A7 : Option Addr) (c0 c6 c7 : Nat), e = .returned (.agg #[.slice A0 r.Map.length c0, .int .i64 r.Div, .int .i64 r.Bx, .int .i64 r.By, .int .i64 r.Low, .int .i64 r.High, .slice A6 r.Noise.length c6, .slice A7 r.Limits.length c7]) ∧ roomOk r = true ∧ Cur w0 w' g A n c ∧ ∀ V, Keeps w0.heap.size g w' V → RoomHere V r A0 A6 A7 c0 c6 c7 :=
  (l08Draw_w w0 g A n c bs w hn hr hle hc).mono fun _ _ ⟨r, A0, A6, A7, c0, c6, c7, h1, h2, h3, h4⟩ => ⟨r, A0, A6, A7, c0, c6, c7, h1, h2.1, h3, h4⟩
theorem makeState_any (A : Option Addr) (n c : Nat) (bs : List Int) (w : World) (hn : bs.length = n) (hr : Row w A (u8s bs)) (hle : n ≤ 1048576) :
    Calls Tryz.prog 5 #[.slice A n c] w fun e w' => ∃ (r : Room) (s : Spot) (A0 A6 A7 : Option Addr) (c0 c6 c7 : Nat), e = .returned (.tuple #[.agg #[.slice A0 r.Map.length c0, .int .i64 r.Div, .int .i64 r.Bx, .int .i64 r.By, .int .i64 r.Low, .int .i64 r.High, .slice A6 r.Noise.length c6, .slice A7 r.Limits.length c7], .agg #[.int .i64 s.X, .int .i64 s.Y, .int .i64 s.D]]) ∧ roomOk r = true ∧ spotOk s = true ∧ RoomHere w' r A0 A6 A7 c0 c6 c7 ∧ Ext w w' :=
  (makeState_w A n c bs w hn hr hle).mono fun _ _ ⟨r, s, A0, A6, A7, c0, c6, c7, h1, h2, h3, h4, h5⟩ => ⟨r, s, A0, A6, A7, c0, c6, c7, h1, h2.1, h3, h4, h5⟩
end Go.Proofs.YtjghabbcjpfjeaaGreatDoor
