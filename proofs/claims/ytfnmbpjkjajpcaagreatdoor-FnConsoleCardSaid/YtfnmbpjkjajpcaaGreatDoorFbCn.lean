/- Contracts of the corners of a region: corners of the program, l05Corners of the reference. -/
import Derived.Test.YtfnmbpjkjajpcaaGreatDoorFbCo
import Derived.Test.YtfnmbpjkjajpcaaGreatDoorFbHz
import Derived.Test.YtfnmbpjkjajpcaaGreatDoorFbMix
import Derived.StillTailTactics
namespace Go.Proofs.YtfnmbpjkjajpcaaGreatDoor
open Go.ChangeShapes Go.WideShapes Go.ChangeAt Go.RowKit
set_option linter.unusedVariables false
set_option maxRecDepth 100000
theorem spot_info : (Tryz.prog.info? 38).map (fun i => (i.zero, i.size, i.bytes)) = some (some (.agg #[.int .i64 0, .int .i64 0, .int .i64 0]), 3, 24) := by kernel_rfl
def halfAt (hs : List Half) (i : Nat) : Half := hs.getD i ⟨0, 0, 0⟩
theorem halfAt_at {hs : List Half} {i : Nat} (h : i < hs.length) : halfAt hs i = hs[i] := by simp [halfAt, h]
def cornerAt (hs : List Half) (i : Nat) : Spot := (crossS (halfAt hs i) (halfAt hs ((i + 1) % hs.length))).1
def cornersTo (hs : List Half) (k : Nat) : List Spot := (List.range k).map (cornerAt hs)
def cornersL (hs : List Half) : List Spot := cornersTo hs hs.length
theorem cornersTo_succ (hs : List Half) (k : Nat) : cornersTo hs (k + 1) = cornersTo hs k ++ [cornerAt hs k] := by
  unfold cornersTo; rw [List.range_succ, List.map_append]; rfl
theorem cornersTo_len (hs : List Half) (k : Nat) : (cornersTo hs k).length = k := by simp [cornersTo]
theorem cornersL_len (hs : List Half) : (cornersL hs).length = hs.length := cornersTo_len _ _
theorem regOk_all {hs : List Half} (h : regOk hs = true) : hs.all halfOk = true := by
  unfold regOk at h
  cases hs with
  | nil => rfl
  | cons x l =>
    simp only [List.isEmpty_cons, Bool.false_or, Bool.and_eq_true] at h
    have h1 := h.1
    unfold fromR at h1
    split at h1
    · rename_i h2; exact h2.2
    · cases h1
theorem spotOf_I64 {x y d : Int} (hx : I64 x) (hy : I64 y) (hd : I64 d) : I64 (spotOf x y d).1.X ∧ I64 (spotOf x y d).1.Y ∧ I64 (spotOf x y d).1.D := by
  unfold spotOf
  split
  · rename_i h; exact low_I64 h.1 hx hy hd
  · unfold I64; simp
theorem cross_I64 {g h : Half} (hg : halfOk g = true) (hh : halfOk h = true) : I64 (crossS g h).1.X ∧ I64 (crossS g h).1.Y ∧ I64 (crossS g h).1.D := by
  obtain ⟨k1, k2, k3⟩ := pt_I64 (small_ok hg) (small_ok hh)
  exact spotOf_I64 k1 k2 k3
theorem halfAt_ok {hs : List Half} (h : hs.all halfOk = true) {i : Nat} (hi : i < hs.length) : halfOk (halfAt hs i) = true := by
  rw [halfAt_at hi]; exact List.all_eq_true.1 h _ (List.getElem_mem hi)
theorem corner_I64 {hs : List Half} (h : hs.all halfOk = true) {i : Nat} (hi : i < hs.length) : I64 (cornerAt hs i).X ∧ I64 (cornerAt hs i).Y ∧ I64 (cornerAt hs i).D :=
  cross_I64 (halfAt_ok h hi) (halfAt_ok h (Nat.mod_lt _ (by omega)))
def SpotsMade (l : List Spot) (w : World) (e : Ending) (w' : World) : Prop :=
  ∃ A c n, e = .returned (.slice A n c) ∧ n = l.length ∧ Ext w w' ∧ w'.ownsRow w.heap.size 38 3 (.slice A n c) n (ints (flat Spot.ints l))
theorem spots_add (l : List Spot) (s : Spot) : ints (flat Spot.ints (l ++ [s])) = ints (flat Spot.ints l) ++ #[.int .i64 s.X, .int .i64 s.Y, .int .i64 s.D].toList := by
  unfold flat; rw [List.flatMap_append, ints_append]; simp [Spot.ints, ints]
theorem rem_at {k n : Nat} (hk : k < n) : (IntKind.i64.wrap (((k : Int) + 1).tmod (n : Int)) = (((k + 1) % n : Nat) : Int) ∧ ((k : Int) + 1).tmod (n : Int) = (((k + 1) % n : Nat) : Int)) ∨ 9223372036854775807 < n := by
  rcases Nat.lt_or_ge 9223372036854775807 n with h | h
  · exact .inr h
  · left
    have e : ((k : Int) + 1).tmod (n : Int) = (((k + 1) % n : Nat) : Int) := by
      rw [show (k : Int) + 1 = ((k + 1 : Nat) : Int) by omega, Int.tmod_eq_emod_of_nonneg (by omega), ← Int.natCast_emod]
    refine ⟨?_, e⟩
    rw [e]
    have := Nat.mod_lt (k + 1) (show 0 < n by omega)
    exact IntWalk.i64_in _ (by omega)
set_option maxHeartbeats 4000000 in
theorem corners_any (A : Option Addr) (n c : Nat) (hs : List Half) (w : World) (hn : hs.length = n) (hr : Row w A (ints (flat Half.ints hs))) (hok : hs.all halfOk = true) (hle : n ≤ 1000000) :
    Calls Tryz.prog 298 #[.agg #[.slice A n c]] w (SpotsMade (cornersL hs) w) := by
  obtain ⟨i0, hi0, hz0, hz1, hz2⟩ := info_parts spot_info
  have hx : Ext w (w.alloc (.cells #[.slice A n c] 34)) := (Ext.refl w).alloc _
  have bR := Blk.new w 34 #[.slice A n c]
  have HR := Lib.hid hr
  have HN := Lib.hid hn
  have HOk : Hid (∀ k (hk : k < hs.length), halfOk hs[k] = true) := fun k hk => List.all_eq_true.1 hok _ (List.getElem_mem hk)
  have c0 := fun o => bR.cell o
  clear hr hn hok
  go_enter Tryz.func298, Tryz.ntmps298
  go_wp2
  clear c0
  go_loopw [3, 11] (fun v i wr => ∃ k : Nat, k ≤ n ∧ i = .int .i64 k ∧ Ext w wr ∧ Blk wr w.heap.size 34 #[.slice A n c] ∧ wr.ownsRow (w.heap.size + 1) 38 3 v k (ints (flat Spot.ints (cornersTo hs k)))) (fun _ i _ => n - (intOf i).toNat)
  case atStart => exact ⟨0, Nat.zero_le _, rfl, hx, bR, World.ownsRow_nil _ _ _ _⟩
  case round =>
  obtain ⟨k, hk, rfl, hy, bQ, hown⟩ := hrel
  have hsz := hy.size
  by_cases hlt : k < n
  rotate_left
  · obtain rfl : k = n := by omega
    obtain ⟨A', c', rfl⟩ := own_form hown
    go_wp2
    go_ret
    exact ⟨A', c', _, rfl, by rw [cornersL_len, HN.out], hy, by rw [show cornersL hs = cornersTo hs k from by unfold cornersL; rw [HN.out]]; exact own_base hown (by omega)⟩
  have hkl : k < hs.length := by rw [HN.out]; exact hlt
  have hmlt : (k + 1) % n < n := Nat.mod_lt _ (by omega)
  have hml : (k + 1) % n < hs.length := by rw [HN.out]; exact hmlt
  obtain ⟨b, off, rfl, hb, c0, c1, c2⟩ := (HR.out.ext hy).Half (k := k) hkl
  obtain ⟨b', off', hA', hb', d0, d1, d2⟩ := (HR.out.ext hy).Half (k := (k + 1) % n) hml
  injection hA' with hA'
  injection hA' with hA1 hA2
  subst hA1 hA2
  have Hk : Hid (cornersTo hs (k + 1) = cornersTo hs k ++ [(crossS hs[k] hs[(k + 1) % n]).1]) := by
    rw [Hid, cornersTo_succ]; unfold cornerAt; rw [halfAt_at hkl, HN.out, halfAt_at hml]
  have HC := Lib.hid (fun w => implCrossingOf_any hs[k] hs[(k + 1) % n] w (HOk.out k hkl) (HOk.out _ hml))
  obtain ⟨s, hs0⟩ : ∃ s, crossS hs[k] hs[(k + 1) % n] = s := ⟨_, rfl⟩
  rw [hs0] at Hk HC
  obtain ⟨g, hg⟩ : ∃ g, hs[k]'hkl = g := ⟨_, rfl⟩
  obtain ⟨h, hh⟩ : ∃ g, hs[(k + 1) % n]'hml = g := ⟨_, rfl⟩
  rw [hg] at c0 c1 c2 HC
  rw [hh] at d0 d1 d2 HC
  obtain ⟨hrem, hrem2⟩ := (rem_at hlt).resolve_right (by omega)
  obtain ⟨m, hm⟩ : ∃ m, (k + 1) % n = m := ⟨_, rfl⟩
  rw [hm] at hrem hrem2 d0 d1 d2 hmlt
  have hnz3 : ¬ n = 0 := by omega
  have hw1 : IntKind.i64.wrap ((k : Int) + 1) = (k : Int) + 1 := IntWalk.i64_in _ (by omega)
  have hnz : ((n : Int) == 0) = false := by rw [beq_eq_false_iff_ne]; omega
  have hnz2 : ¬ (n : Int) = 0 := by omega
  have hm2 : (m : Int) < (n : Int) := by omega
  have hm3 : (0 : Int) ≤ (m : Int) := by omega
  have hlt2 : (k : Int) < (n : Int) := by omega
  clear hs0 hg hh hm hml hkl
  replace bQ := bQ.alloc (.cells #[.int .i64 g.A, .int .i64 g.B, .int .i64 g.C] 116)
  have bG := Blk.new wr 116 #[.int .i64 g.A, .int .i64 g.B, .int .i64 g.C]
  have hy1 := hy.alloc (.cells #[.int .i64 g.A, .int .i64 g.B, .int .i64 g.C] 116)
  have e0 := ((Ext.refl wr).alloc (.cells #[.int .i64 g.A, .int .i64 g.B, .int .i64 g.C] 116)).cellOf d0
  have e1 := ((Ext.refl wr).alloc (.cells #[.int .i64 g.A, .int .i64 g.B, .int .i64 g.C] 116)).cellOf d1
  have e2 := ((Ext.refl wr).alloc (.cells #[.int .i64 g.A, .int .i64 g.B, .int .i64 g.C] 116)).cellOf d2
  have hcur := Ext.refl (wr.alloc (.cells #[.int .i64 g.A, .int .i64 g.B, .int .i64 g.C] 116))
  have cQ := fun o => bQ.cell o
  have cG := fun o => bG.cell o
  have hn1 : ¬ b = wr.heap.size + 1 := by omega
  have hn2 : ¬ wr.heap.size + 1 = b := by omega
  have hn3 : ¬ w.heap.size = wr.heap.size + 1 := by omega
  have hn4 : ¬ wr.heap.size + 1 = w.heap.size := by omega
  have hbQ := bQ.lt
  go_wp2_with fail
  go_region_held3 (fun w' => w'.cell? ⟨b, off + m * 3, none⟩ = some (.int .i64 h.A) ∧ w'.cell? ⟨b, off + m * 3 + 1, none⟩ = some (.int .i64 h.B) ∧ w'.cell? ⟨b, off + m * 3 + 2, none⟩ = some (.int .i64 h.C) ∧ w'.cell? ⟨wr.heap.size, 0, none⟩ = some (.int .i64 g.A) ∧ w'.cell? ⟨wr.heap.size, 1, none⟩ = some (.int .i64 g.B) ∧ w'.cell? ⟨wr.heap.size, 2, none⟩ = some (.int .i64 g.C) ∧ w'.cell? ⟨w.heap.size, 0, none⟩ = some (.slice (some ⟨b, off, none⟩) n c))
    (go_keep)
    ((go_at_call 324; (with_reducible refine (HC.out _).mono ?_); rintro e w9 ⟨rfl, hx9⟩; replace hcur := Ext.trans (by first | exact hcur | exact hcur.drew | exact hcur.alloc _ | exact (hcur.alloc _).drew | exact hcur.drew.alloc _) hx9; have c9 := fun o => hcur.use.1 b o (by simp; omega); have d9 := fun o => hcur.use.1 wr.heap.size o (by simp); have g9 := fun o => hcur.use.1 w.heap.size o (by simp; omega); have e9 := fun o hlt => hx9.use.1 (wr.heap.size + 1) o hlt; have f9 := fun o hlt => hx9.use.2.1 (wr.heap.size + 1) o hlt))
  · have bS := Blk.new w9 38 #[.int .i64 s.1.X, .int .i64 s.1.Y, .int .i64 s.1.D]
    have hW := hcur.alloc (.cells #[.int .i64 s.1.X, .int .i64 s.1.Y, .int .i64 s.1.D] 38)
    clear c9 d9 e9 f9 g9 hx9 cG cQ c0 c1 c2 d0 d1 d2 e0 e1 e2 hn1 hn2 hn3 hn4 bG
    generalize w9.alloc (.cells #[.int .i64 s.1.X, .int .i64 s.1.Y, .int .i64 s.1.D] 38) = W2 at *
    generalize w9.heap.size = qb at *
    replace bQ := bQ.ext hW
    have hy5 := hy1.trans hW
    replace hown := own_ext hown (((Ext.refl wr).alloc (.cells #[.int .i64 g.A, .int .i64 g.B, .int .i64 g.C] 116)).trans hW)
    have hsz5 := hy5.size
    clear hW hcur
    have cS := fun o => bS.cell o
    have hnews := Blk.new W2 38 #[.int .i64 s.1.X, .int .i64 s.1.Y, .int .i64 s.1.D]
    go_wp2_with (at_builtin; go_must (refine wpList_append_own _ rfl _ _ 187 rfl (w.heap.size + 1) 38 i0 (.agg #[.int .i64 0, .int .i64 0, .int .i64 0]) 3 24 Tryz.underlying187 hi0 hz0 hz1 hz2 rfl (by decide) _ _ _ rfl (hown.alloc _) ⟨W2.heap.size, 0, none⟩ 1 1 #[.int .i64 s.1.X, .int .i64 s.1.Y, .int .i64 s.1.D].toList rfl rfl (row_add (fun j v hj => by rw [hnews.cell, Nat.zero_add]; simpa using hj)) (by simp [Value.oneCell']) (by unfold maxLen; omega) (by omega) (by simp; omega) ?_); intro v' w6 hown' hgrow _)
    have hy6 : Ext w w6 := (hy5.alloc _).grown hgrow (fun g hg => by have := (hown.lt g hg).1; omega)
    have b6 : Blk w6 w.heap.size 34 #[.slice (some ⟨b, off, none⟩) n c] := (hgrow.block w.heap.size (bQ.alloc (.cells #[.int .i64 s.1.X, .int .i64 s.1.Y, .int .i64 s.1.D] 38)).lt (fun e => by have := (hown.lt _ e.symm).1; omega)).trans (bQ.alloc (.cells #[.int .i64 s.1.X, .int .i64 s.1.Y, .int .i64 s.1.D] 38))
    go_roundw
    case rel => exact ⟨k + 1, by omega, by go_num, hy6, b6, by rw [Hk.out, spots_add]; exact hown'⟩
    case measure => simp [intOf]; omega
  · have bS00 : Blk ((wr.alloc (.cells #[.int .i64 g.A, .int .i64 g.B, .int .i64 g.C] 116)).alloc (.cells #[.int .i64 0, .int .i64 0, .int .i64 0] 38)) (wr.heap.size + 1) 38 #[.int .i64 0, .int .i64 0, .int .i64 0] := by simpa using Blk.new (wr.alloc (.cells #[.int .i64 g.A, .int .i64 g.B, .int .i64 g.C] 116)) 38 #[.int .i64 0, .int .i64 0, .int .i64 0]
    have bS0 := Blk.ext (w := ((wr.alloc (.cells #[.int .i64 g.A, .int .i64 g.B, .int .i64 g.C] 116)).alloc (.cells #[.int .i64 0, .int .i64 0, .int .i64 0] 38)).drew) bS00 hx9
    have bS : Blk _ _ _ #[.int .i64 s.1.X, .int .i64 s.1.Y, .int .i64 s.1.D] := ((bS0.set_ 0 (.int .i64 s.1.X)).set_ 1 (.int .i64 s.1.Y)).set_ 2 (.int .i64 s.1.D)
    have hW := ((hcur.setCell (p := ⟨wr.heap.size + 1, 0, none⟩) (by simp) (.int .i64 s.1.X)).setCell (p := ⟨wr.heap.size + 1, 1, none⟩) (by simp) (.int .i64 s.1.Y)).setCell (p := ⟨wr.heap.size + 1, 2, none⟩) (by simp) (.int .i64 s.1.D)
    clear c9 d9 e9 f9 g9 hx9 cG cQ c0 c1 c2 d0 d1 d2 e0 e1 e2 hn1 hn2 hn3 hn4 bG bS0 bS00
    generalize ((w9.setCell ⟨wr.heap.size + 1, 0, none⟩ (.int .i64 s.1.X)).setCell ⟨wr.heap.size + 1, 1, none⟩ (.int .i64 s.1.Y)).setCell ⟨wr.heap.size + 1, 2, none⟩ (.int .i64 s.1.D) = W2 at *
    generalize wr.heap.size + 1 = qb at *
    replace bQ := bQ.ext hW
    have hy5 := hy1.trans hW
    replace hown := own_ext hown (((Ext.refl wr).alloc (.cells #[.int .i64 g.A, .int .i64 g.B, .int .i64 g.C] 116)).trans hW)
    have hsz5 := hy5.size
    clear hW hcur
    have cS := fun o => bS.cell o
    have hnews := Blk.new W2 38 #[.int .i64 s.1.X, .int .i64 s.1.Y, .int .i64 s.1.D]
    go_wp2_with (at_builtin; go_must (refine wpList_append_own _ rfl _ _ 187 rfl (w.heap.size + 1) 38 i0 (.agg #[.int .i64 0, .int .i64 0, .int .i64 0]) 3 24 Tryz.underlying187 hi0 hz0 hz1 hz2 rfl (by decide) _ _ _ rfl (hown.alloc _) ⟨W2.heap.size, 0, none⟩ 1 1 #[.int .i64 s.1.X, .int .i64 s.1.Y, .int .i64 s.1.D].toList rfl rfl (row_add (fun j v hj => by rw [hnews.cell, Nat.zero_add]; simpa using hj)) (by simp [Value.oneCell']) (by unfold maxLen; omega) (by omega) (by simp; omega) ?_); intro v' w6 hown' hgrow _)
    have hy6 : Ext w w6 := (hy5.alloc _).grown hgrow (fun g hg => by have := (hown.lt g hg).1; omega)
    have b6 : Blk w6 w.heap.size 34 #[.slice (some ⟨b, off, none⟩) n c] := (hgrow.block w.heap.size (bQ.alloc (.cells #[.int .i64 s.1.X, .int .i64 s.1.Y, .int .i64 s.1.D] 38)).lt (fun e => by have := (hown.lt _ e.symm).1; omega)).trans (bQ.alloc (.cells #[.int .i64 s.1.X, .int .i64 s.1.Y, .int .i64 s.1.D] 38))
    go_roundw
    case rel => exact ⟨k + 1, by omega, by go_num, hy6, b6, by rw [Hk.out, spots_add]; exact hown'⟩
    case measure => simp [intOf]; omega
end Go.Proofs.YtfnmbpjkjajpcaaGreatDoor
