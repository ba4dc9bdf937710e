/- slices.Insert at half planes: the library's own text, walked. -/
import Derived.Test.YtjghabbcjpfjeaaGreatDoorHz
import Derived.Test.YtjghabbcjpfjeaaGreatDoorMix
import Derived.Shelf.Spec.SlicesInsert
import Derived.Lib.AppendZerosOnto
import Derived.Laws.NewBlocks
import Derived.Deep.RegionLaw
namespace Go.Proofs.YtjghabbcjpfjeaaGreatDoor
open Go.ChangeShapes Go.WideShapes Go.ChangeAt Go.RowKit
open Go.Lib
set_option linter.unusedVariables false
set_option maxRecDepth 100000

theorem half_info : (Tryz.prog.info? 120).map (fun i => (i.zero, i.size, i.bytes)) = some (some (.agg #[.int .i64 0, .int .i64 0, .int .i64 0]), 3, 24) := by kernel_rfl
/-- copy(dst, src) of elements of k cells each into a row that is known whole -/
theorem run_copyK {P : Program} (w : World) (dT sT ty elem : TypeId) (k g o dLen dCap : Nat) (a : Addr) (sLen sCap : Nat) (cur : Array Value) (t : TypeId) (cs : List Value)
    (hu : P.underlying dT = some (.slice elem)) (hs : (P.info? elem).map (·.size) = some k)
    (hg : w.heap[g]? = some (.cells cur t (0, 0))) (hn : cs.length = Nat.min sLen dLen * k)
    (hsrc : ∀ j v, cs[j]? = some v → w.cell? (a.add j) = some v) (hfit : o + cs.length ≤ cur.size) (h1 : ∀ v ∈ cs, v.oneCell' = true) :
    (Builtin.copy_ #[dT, sT] ty #[.slice (some ⟨g, o, none⟩) dLen dCap, .slice (some a) sLen sCap]).run P w =
      .ok (goInt (Nat.min sLen dLen)) (w.setRow g (cur.toList.take o ++ cs ++ cur.toList.drop (o + cs.length)).toArray) := by
  have hl := run_loadCells_list (P := P) w a cs hsrc
  have hst := run_storeCells_at P g o t cs 0 cur w hg (by simpa using hfit) h1
  cases hq : P.info? elem with
  | none => simp [hq] at hs
  | some i =>
    have hi : i.size = k := by simpa [hq] using hs
    simp [Builtin.copy_, run_underlying hu, Builtin.lenOf, Builtin.firstCells, sizeOf, typeInfo, hq, hi, ← hn, hl, hst]
theorem Only.setRow {g : Nat} {a b : World} (h : Only (some g) a b) (cs : Array Value) : Only (some g) a (b.setRow g cs) :=
  h.trans ⟨rfl, rfl, rfl, by simp [World.setRow], fun k _ hk => setRow_other b g k cs (fun e => hk (by simp [e]))⟩
theorem oneCell_ints (xs : List Int) : ∀ v ∈ ints xs, v.oneCell' = true := by
  intro v hv
  unfold ints at hv
  obtain ⟨z, _, rfl⟩ := List.mem_map.1 hv
  rfl
theorem flat_app (a b : List Half) : flat Half.ints (a ++ b) = flat Half.ints a ++ flat Half.ints b := by unfold flat; rw [List.flatMap_append]
theorem flat_take (l : List Half) (i : Nat) (h : i ≤ l.length) : flat Half.ints (l.take i) = (flat Half.ints l).take (i * 3) := by
  have h1 := flat_app (l.take i) (l.drop i)
  rw [List.take_append_drop] at h1
  have h2 := flat_length Half.ints_len (l.take i)
  rw [List.length_take, Nat.min_eq_left h] at h2
  rw [h1, List.take_left' h2]
theorem flat_drop (l : List Half) (i : Nat) (h : i ≤ l.length) : flat Half.ints (l.drop i) = (flat Half.ints l).drop (i * 3) := by
  have h1 := flat_app (l.take i) (l.drop i)
  rw [List.take_append_drop] at h1
  have h2 := flat_length Half.ints_len (l.take i)
  rw [List.length_take, Nat.min_eq_left h] at h2
  rw [h1, List.drop_left' h2]

/-- what is known of a row of one's own -/
theorem own_whole {w : World} {base : Nat} {e : TypeId} {s n c : Nat} {A : Option Addr} {xs : List Value} (h : w.ownsRow base e s (.slice A n c) n xs) (hn : 0 < n) :
    ∃ g cur, A = some ⟨g, 0, none⟩ ∧ base ≤ g ∧ w.heap[g]? = some (.cells cur e (0, 0)) ∧ n ≤ c ∧ c ≤ maxLen ∧ cur.size = c * s ∧ cur.toList.take (n * s) = xs := by
  rcases h.2 with ⟨_, h0⟩ | ⟨g, cap, cur, hv, h1, h2, h3, h4, h5, h6⟩
  · omega
  · injection hv with hA _ hc
    subst hc
    exact ⟨g, cur, hA, h1, h2, h3, h4, h5, h6⟩

theorem ownB (A : Option Addr) (n c : Nat) : Value.ownBlock (.slice A n c) = A.map (·.block) := by cases A <;> rfl
set_option maxHeartbeats 4000000 in
/-- at the end -/
theorem insert_end (base : Nat) (A : Option Addr) (n c vb : Nat) (hs : List Half) (h : Half) (w : World) (ho : w.ownsRow base 120 3 (.slice A n c) n (ints (flat Half.ints hs))) (hn : n ≤ 1048576) (hbase : base ≤ w.heap.size)
    (hv : ∀ j u, (ints h.ints)[j]? = some u → w.cell? ⟨vb, j, none⟩ = some u) :
    Calls Tryz.prog 151 #[.slice A n c, .int .i64 n, .slice (some ⟨vb, 0, none⟩) 1 1] w fun e w' => ∃ A' c', e = .returned (.slice A' (n + 1) c') ∧ w'.ownsRow base 120 3 (.slice A' (n + 1) c') (n + 1) (ints (flat Half.ints (hs ++ [h]))) ∧ Only (Value.ownBlock (.slice A n c)) w w' := by
  obtain ⟨i0, hi0, hz0, hz1, hz2⟩ := info_parts half_info
  have hcap := own_cap ho
  have hcm : c ≤ 9223372036854775807 := by
    rcases ho.2 with ⟨hv', _⟩ | ⟨g, cap, cur, hv', _, _, _, h4, _⟩
    · injection hv' with _ _ e; omega
    · injection hv' with _ _ e; unfold maxLen at h4; omega
  have hnews : ∀ j u, (ints h.ints)[j]? = some u → w.cell? ((⟨vb, 0, none⟩ : Addr).add j) = some u := fun j u hj => by
    rw [show ((⟨vb, 0, none⟩ : Addr).add j) = ⟨vb, 0 + j, none⟩ from by unfold Addr.add; split <;> simp_all, Nat.zero_add]
    exact hv j u hj
  have hfa : ints (flat Half.ints (hs ++ [h])) = ints (flat Half.ints hs) ++ ints h.ints := by rw [flat_app, ints_append]; simp [flat]
  have HF := Lib.hid hfa
  clear hfa
  go_enter Tryz.func151, Tryz.ntmps151
  go_wp2_with (at_builtin; go_must (refine wpList_append_own _ rfl _ _ 24 rfl base 120 i0 (.agg #[.int .i64 0, .int .i64 0, .int .i64 0]) 3 24 Tryz.underlying24 hi0 hz0 hz1 hz2 rfl (by decide) _ _ _ rfl ho ⟨vb, 0, none⟩ 1 1 (ints h.ints) rfl rfl hnews (oneCell_ints _) (by unfold maxLen; omega) (by omega) hbase ?_); intro v' w1 hown hgrow _)
  all_goals
    obtain ⟨A', c', rfl⟩ := own_form hown
    go_ret
    refine ⟨A', c', rfl, by rw [HF.out]; exact hown, ?_⟩
    change w.grownBy w1 _
    simpa [Act.eval, ownB] using hgrow

theorem ints_take (xs : List Int) (k : Nat) : ints (xs.take k) = (ints xs).take k := by simp [ints, List.map_take]
theorem ints_drop (xs : List Int) (k : Nat) : ints (xs.drop k) = (ints xs).drop k := by simp [ints, List.map_drop]

set_option maxHeartbeats 8000000 in
/-- in the midst, there is room -/
theorem insert_shift (base : Nat) (A : Option Addr) (n c i vb : Nat) (hs : List Half) (h : Half) (w : World) (ho : w.ownsRow base 120 3 (.slice A n c) n (ints (flat Half.ints hs))) (hn : n ≤ 1048576) (hi : i < n) (hroom : n + 1 ≤ c)
    (hb : Blk w vb 120 #[.int .i64 h.A, .int .i64 h.B, .int .i64 h.C]) (hvb : Value.ownBlock (.slice A n c) ≠ some vb) :
    Calls Tryz.prog 151 #[.slice A n c, .int .i64 i, .slice (some ⟨vb, 0, none⟩) 1 1] w fun e w' => ∃ A' c', e = .returned (.slice A' (n + 1) c') ∧ w'.ownsRow base 120 3 (.slice A' (n + 1) c') (n + 1) (ints (flat Half.ints (hs.take i ++ h :: hs.drop i))) ∧ Only (Value.ownBlock (.slice A n c)) w w' := by
  obtain ⟨i0, hi0, hz0, hz1, hz2⟩ := info_parts half_info
  have hlen : hs.length = n := by have := ho.1; rw [ints_length, flat_length Half.ints_len] at this; omega
  obtain ⟨g, cur, rfl, hgb, hg, hnc, hcm, hcs, htk⟩ := own_whole ho (by omega)
  have hne : g ≠ vb := fun e => hvb (by rw [e]; rfl)
  unfold maxLen at hcm
  have hsz : (Tryz.prog.info? 120).map (·.size) = some 3 := by rw [hi0]; simp [hz1]
  -- the cells
  have hcell : ∀ j u, (ints (flat Half.ints hs))[j]? = some u → w.cell? ⟨g, j, none⟩ = some u := fun j u hj => by
    have hjl : j < n * 3 := by
      have := (List.getElem?_eq_some_iff.1 hj).1
      rw [ints_length, flat_length Half.ints_len, hlen] at this
      exact this
    rw [ho.cellAt j hjl]; exact hj
  have hfl : (ints (flat Half.ints hs)).length = n * 3 := by rw [ints_length, flat_length Half.ints_len, hlen]
  obtain ⟨D, hD⟩ : ∃ D, (ints (flat Half.ints hs)).drop (i * 3) = D := ⟨_, rfl⟩
  obtain ⟨U, hU⟩ : ∃ U, (ints (flat Half.ints hs)).take (i * 3) = U := ⟨_, rfl⟩
  have hDl : D.length = (n - i) * 3 := by rw [← hD, List.length_drop, hfl]; omega
  have hUl : U.length = i * 3 := by rw [← hU, List.length_take, hfl]; omega
  have hcurU : cur.toList.take (i * 3) = U := by rw [← hU, ← htk, List.take_take]; congr 1; omega
  have hD1 : ∀ v ∈ D, v.oneCell' = true := fun v hv => oneCell_ints _ v (by rw [← hD] at hv; exact List.mem_of_mem_drop hv)
  have hov : ∀ W lb cb, W.heap[g]? = w.heap[g]? → W.heap[vb]? = w.heap[vb]? → (callFunc 169 #[.slice (some ⟨vb, 0, none⟩) 1 1, .slice (some ⟨g, (i + 1) * 3, none⟩) lb cb]).run Tryz.prog W = .ok (.value (.bool false)) W := fun W lb cb hW1 hW2 => by
    have hbW : Blk W vb 120 #[.int .i64 h.A, .int .i64 h.B, .int .i64 h.C] := by unfold Blk; rw [hW2]; exact hb
    rw [run_callFunc_extern Tryz.func169 (by kernel_rfl) (by kernel_rfl) (by kernel_rfl) (e := Extern.SlicesOverlaps.overlaps #[24, 24] #[4]) (by kernel_rfl),
      Lib.run_overlaps_apart W 24 4 120 Tryz.underlying24 3 (fun w => by simp [Go.sizeOf, typeInfo, hi0, hz1]) ⟨vb, 0, none⟩ ⟨g, (i + 1) * 3, none⟩ 1 1 lb cb (fun e => hne e.symm) 120 120 3 cur.size (by unfold Blk at hbW; simp [World.shape?, hbW]) (by rw [← hW1] at hg; simp [World.shape?, hg]) (by omega) (hbW.frozen 0) (hbW.frozen 3)]
    rfl
  have hz1 : (((1 : Nat) : Int) == 0) = false := rfl
  have hz2 : ((i : Int) == (n : Int)) = false := by rw [beq_eq_false_iff_ne]; omega
  have hz3 : ¬ (c : Int) < (n : Int) + 1 := by omega
  have hb4 : ¬ c = i := by omega
  have hb5 : ¬ c = i + 1 := by omega
  have hb6 : (i : Int) ≤ (n : Int) := by omega
  have hw1 : IntKind.i64.wrap ((i : Int) + 1) = (i : Int) + 1 := by rw [IntKind.wrap_i64]; omega
  have hb1 : (0 : Int) ≤ (i : Int) + 1 := by omega
  have htn : ((i : Int) + 1).toNat = i + 1 := by omega
  have hin : i ≤ n := by omega
  have hb3 : (i : Int) ≤ (n : Int) + 1 := by omega
  have hmin : Nat.min (n + 1 - i) (n - i) = n - i := by simp only [Nat.min_def]; split <;> omega
  have hmin2 : Nat.min 1 (n + 1 - i) = 1 := by simp only [Nat.min_def]; split <;> omega
  obtain ⟨X1, hX1⟩ : ∃ X1 : Array Value, X1 = (cur.toList.take ((i + 1) * 3) ++ D ++ cur.toList.drop ((i + 1) * 3 + D.length)).toArray := ⟨_, rfl⟩
  have hX1s : X1.size = c * 3 := by
    rw [hX1, List.size_toArray]
    simp only [List.length_append, List.length_take, List.length_drop, Array.length_toList, hDl, hcs]
    simp only [Nat.min_def]
    split <;> omega
  obtain ⟨X2, hX2⟩ : ∃ X2 : Array Value, X2 = (X1.toList.take (i * 3) ++ ints h.ints ++ X1.toList.drop (i * 3 + 3)).toArray := ⟨_, rfl⟩
  have hcp1 : ∀ W ty dc sc, W.heap[g]? = w.heap[g]? → (Builtin.copy_ #[24, 24] ty #[.slice (some ⟨g, (i + 1) * 3, none⟩) (n - i) dc, .slice (some ⟨g, i * 3, none⟩) (n + 1 - i) sc]).run Tryz.prog W = .ok (goInt ((n - i : Nat) : Int)) (W.setRow g X1) := fun W ty dc sc hW => by
    have := run_copyK (P := Tryz.prog) W 24 24 ty 120 3 g ((i + 1) * 3) (n - i) dc ⟨g, i * 3, none⟩ (n + 1 - i) sc cur 120 D Tryz.underlying24 hsz (hW.trans hg) (by rw [hmin, hDl]) (fun j v hj => by
      rw [show ((⟨g, i * 3, none⟩ : Addr).add j) = ⟨g, i * 3 + j, none⟩ from by unfold Addr.add; split <;> simp_all]
      have := hcell (i * 3 + j) v (by rw [← hD, List.getElem?_drop] at hj; exact hj)
      unfold World.cell? at this ⊢
      rw [hW]; exact this) (by rw [hDl, hcs]; omega) hD1
    rw [hmin, ← hX1] at this
    exact this
  have hcp2 : ∀ W ty dc, W.heap[g]? = some (.cells X1 120 (0, 0)) → W.heap[vb]? = w.heap[vb]? → (Builtin.copy_ #[24, 24] ty #[.slice (some ⟨g, i * 3, none⟩) (n + 1 - i) dc, .slice (some ⟨vb, 0, none⟩) 1 1]).run Tryz.prog W = .ok (goInt 1) (W.setRow g X2) := fun W ty dc hW hV => by
    have hbW : Blk W vb 120 #[.int .i64 h.A, .int .i64 h.B, .int .i64 h.C] := by unfold Blk; rw [hV]; exact hb
    have := run_copyK (P := Tryz.prog) W 24 24 ty 120 3 g (i * 3) (n + 1 - i) dc ⟨vb, 0, none⟩ 1 1 X1 120 (ints h.ints) Tryz.underlying24 hsz hW (by rw [hmin2]; rfl) (fun j v hj => by
      rw [show ((⟨vb, 0, none⟩ : Addr).add j) = ⟨vb, 0 + j, none⟩ from by unfold Addr.add; split <;> simp_all, Nat.zero_add, hbW.cell]
      simpa [ints, Half.ints] using hj) (by rw [hX1s]; simp [ints, Half.ints]; omega) (oneCell_ints _)
    rw [hmin2] at this
    exact this.trans (by rw [hX2]; rfl)
  have HX := Lib.hid (And.intro hX1 (And.intro hX2 (And.intro hX1s (And.intro hDl (And.intro hUl (And.intro hcurU hcs))))))
  have HD := Lib.hid (And.intro hD hU)
  have HO := Lib.hid (And.intro hg (And.intro hfl htk))
  have hg1 : (w.drew.setRow g X1).heap[g]? = some (.cells X1 120 (0, 0)) := setRow_heap w.drew g cur X1 _ _ hg
  have hv1 : (w.drew.setRow g X1).heap[vb]? = w.heap[vb]? := setRow_other w.drew g vb X1 (fun e => hne e.symm)
  have hc2 := hcp2 (w.drew.setRow g X1) 3 (c - i) hg1 hv1
  have HG1 := Lib.hid hg1
  clear hX1 hX2 hX1s hDl hUl hcurU hD hU hfl htk hcs hcell hg1 hv1 hcp2
  go_enter Tryz.func151, Tryz.ntmps151
  go_wp2_with fail
  go_region_law (refine step_copy_runI rfl _ _ 24 24 rfl _ _ (by simp [Act.eval, Act.put]) (by simp [Act.eval, Act.put]) (hcp1 w.drew 3 (c - (i + 1)) (c - i) rfl) ?_)
  go_wp2
  go_ret
  obtain ⟨hX1, hX2, hX1s, hDl, hUl, hcurU, hcs⟩ := HX.out
  obtain ⟨hD, hU⟩ := HD.out
  obtain ⟨hg, hfl, htk⟩ := HO.out
  have hX1l : X1.toList = cur.toList.take ((i + 1) * 3) ++ D ++ cur.toList.drop ((i + 1) * 3 + D.length) := by rw [hX1]
  have hX2l : X2.toList = X1.toList.take (i * 3) ++ ints h.ints ++ X1.toList.drop (i * 3 + 3) := by rw [hX2]
  have hih : (ints h.ints).length = 3 := rfl
  have hclen : cur.toList.length = c * 3 := by simpa using hcs
  have e1 : X1.toList.take (i * 3) = U := by
    rw [hX1l, List.append_assoc, List.take_append_of_le_length (by rw [List.length_take, hclen]; omega), List.take_take, ← hcurU]
    congr 1; omega
  have e2 : X1.toList.drop (i * 3 + 3) = D ++ cur.toList.drop ((i + 1) * 3 + D.length) := by
    rw [hX1l, List.append_assoc, List.drop_left' (by rw [List.length_take, hclen]; omega)]
  have e3 : X2.toList = (U ++ ints h.ints ++ D) ++ cur.toList.drop ((i + 1) * 3 + D.length) := by rw [hX2l, e1, e2]; simp only [List.append_assoc]
  have hl3 : (U ++ ints h.ints ++ D).length = (n + 1) * 3 := by simp only [List.length_append, hUl, hih, hDl]; omega
  have e4 : ints (flat Half.ints (hs.take i ++ h :: hs.drop i)) = U ++ ints h.ints ++ D := by
    rw [flat_app, ints_append, flat_take _ _ (by omega), ints_take, hU]
    rw [show flat Half.ints (h :: hs.drop i) = h.ints ++ flat Half.ints (hs.drop i) from by simp [flat], ints_append, flat_drop _ _ (by omega), ints_drop, hD, List.append_assoc]
  have hX2s : X2.size = c * 3 := by
    have := congrArg List.length e3
    rw [Array.length_toList, List.length_append, hl3, List.length_drop, hclen, hDl] at this
    omega
  refine ⟨some ⟨g, 0, none⟩, c, rfl, ⟨by rw [e4]; exact hl3, .inr ⟨g, c, X2, rfl, hgb, setRow_heap (w.drew.setRow g X1) g X1 X2 _ _ HG1.out, hroom, by unfold maxLen; omega, hX2s, ?_⟩⟩, ((Only.refl _ _).drewN 1).setRow _ |>.setRow _⟩
  rw [e3, e4, List.take_left' hl3]

theorem Ext.setRow {a b : World} {g : Nat} (h : Ext a b) (hg : a.heap.size ≤ g) (cs : Array Value) : Ext a (b.setRow g cs) :=
  h.only (Only.setRow (Only.refl (some g) b) cs) (fun k e => by injection e with e; omega)
theorem size_zeroCells (z : Array Value) (k : Nat) : (Builtin.zeroCells z k).size = k * z.size := by simp [Builtin.zeroCells]

set_option maxHeartbeats 8000000 in
/-- in the midst, there is no room -/
theorem insert_grow (base : Nat) (A : Option Addr) (n c i vb : Nat) (hs : List Half) (h : Half) (w : World) (ho : w.ownsRow base 120 3 (.slice A n c) n (ints (flat Half.ints hs))) (hn : n ≤ 1048576) (hi : i < n) (hroom : c < n + 1) (hbase : base ≤ w.heap.size)
    (hb : Blk w vb 120 #[.int .i64 h.A, .int .i64 h.B, .int .i64 h.C]) :
    Calls Tryz.prog 151 #[.slice A n c, .int .i64 i, .slice (some ⟨vb, 0, none⟩) 1 1] w fun e w' => ∃ A' c', e = .returned (.slice A' (n + 1) c') ∧ w'.ownsRow base 120 3 (.slice A' (n + 1) c') (n + 1) (ints (flat Half.ints (hs.take i ++ h :: hs.drop i))) ∧ Only (Value.ownBlock (.slice A n c)) w w' := by
  obtain ⟨i0, hi0, hz0, hz1, hz2⟩ := info_parts half_info
  have hlen : hs.length = n := by have := ho.1; rw [ints_length, flat_length Half.ints_len] at this; omega
  obtain ⟨g, cur, rfl, hgb, hg, hnc, hcm, hcs, htk⟩ := own_whole ho (by omega)
  obtain rfl : c = n := by omega
  have hgw : g < w.heap.size := (Array.getElem?_eq_some_iff.1 hg).1
  have hvw : vb < w.heap.size := hb.lt
  unfold maxLen at hcm
  have hsz : (Tryz.prog.info? 120).map (·.size) = some 3 := by rw [hi0]; simp [hz1]
  have hcell : ∀ j u, (ints (flat Half.ints hs))[j]? = some u → w.cell? ⟨g, j, none⟩ = some u := fun j u hj => by
    have hjl : j < c * 3 := by
      have := (List.getElem?_eq_some_iff.1 hj).1
      rw [ints_length, flat_length Half.ints_len, hlen] at this
      exact this
    rw [ho.cellAt j hjl]; exact hj
  have hfl : (ints (flat Half.ints hs)).length = c * 3 := by rw [ints_length, flat_length Half.ints_len, hlen]
  obtain ⟨D, hD⟩ : ∃ D, (ints (flat Half.ints hs)).drop (i * 3) = D := ⟨_, rfl⟩
  obtain ⟨U, hU⟩ : ∃ U, (ints (flat Half.ints hs)).take (i * 3) = U := ⟨_, rfl⟩
  have hDl : D.length = (c - i) * 3 := by rw [← hD, List.length_drop, hfl]; omega
  have hUl : U.length = i * 3 := by rw [← hU, List.length_take, hfl]; omega
  have hD1 : ∀ v ∈ D, v.oneCell' = true := fun v hv => oneCell_ints _ v (by rw [← hD] at hv; exact List.mem_of_mem_drop hv)
  have hik : i + (c + 1 - i) = c + 1 := by omega
  have hold : (Builtin.firstCells i0.size i (.slice (some ⟨g, 0, none⟩) i c)).run Tryz.prog w.drew = .ok U.toArray w.drew := by
    rw [hz1]
    exact run_firstCells_some w.drew 3 i ⟨g, 0, none⟩ i c U hUl (fun j v hj => by
      rw [show ((⟨g, 0, none⟩ : Addr).add j) = ⟨g, 0 + j, none⟩ from by unfold Addr.add; split <;> simp_all, Nat.zero_add]
      refine hcell j v ?_
      rw [← hU, List.getElem?_take] at hj
      split at hj
      · exact hj
      · cases hj)
  obtain ⟨G, hG⟩ : ∃ G, G = grownCap w (c + 1) c 120 := ⟨_, rfl⟩
  have hGn : c + 1 ≤ G := by rw [hG]; exact grownCap_ge w _ _ _
  have hG63 : G ≤ 9223372036854775807 := by
    have := grownCap_le_maxLen w (c + 1) c 120 (by unfold maxLen; omega)
    rw [← hG] at this
    unfold maxLen at this
    omega
  obtain ⟨Z1, hZ1⟩ : ∃ Z1, Z1 = Builtin.zeroCells (Value.agg #[.int .i64 0, .int .i64 0, .int .i64 0]).cells (c + 1 - i) := ⟨_, rfl⟩
  obtain ⟨Z2, hZ2⟩ : ∃ Z1, Z1 = Builtin.zeroCells (Value.agg #[.int .i64 0, .int .i64 0, .int .i64 0]).cells (G - (c + 1)) := ⟨_, rfl⟩
  have hZ1s : Z1.size = (c + 1 - i) * 3 := by rw [hZ1, size_zeroCells]; rfl
  have hZ2s : Z2.size = (G - (c + 1)) * 3 := by rw [hZ2, size_zeroCells]; rfl
  obtain ⟨ROW, hROW⟩ : ∃ ROW : Array Value, ROW = U.toArray ++ Z1 ++ Z2 := ⟨_, rfl⟩
  have hRs : ROW.size = G * 3 := by
    rw [hROW, Array.size_append, Array.size_append, hZ1s, hZ2s, List.size_toArray, hUl]
    omega
  have hRt : ROW.toList.take (i * 3) = U := by
    rw [hROW]
    simp only [Array.toList_append, List.append_assoc]
    exact List.take_left' hUl
  have hrz : ∀ ty, (Builtin.append_ #[24, 3] ty #[.slice (some ⟨g, 0, none⟩) i c, .int .i64 ((c : Int) + 1 - (i : Int))]).run Tryz.prog w =
      .ok (.slice (some ⟨w.heap.size, 0, none⟩) (c + 1) G) (w.drew.alloc (.cells ROW 120)) := fun ty => by
    have h := Lib.run_append_grow_zeros (P := Tryz.prog) w 24 3 ty 120 i0 _ .i64 .i64 Tryz.underlying24 Tryz.underlying3 hi0 hz0 (some ⟨g, 0, none⟩) i c U hold (c + 1 - i) (by omega) (by omega) (by omega) (by omega) (by rw [hz2]; omega) (by rw [hz2, hik]; exact growslice_fits (by omega) (by omega))
    rw [hik, ← hG, ← hZ1, ← hZ2, ← hROW] at h
    rw [show ((c : Int) + 1 - (i : Int)) = ((c + 1 - i : Nat) : Int) by omega]
    exact h
  have hmin : Nat.min (c - i) (c - i) = c - i := Nat.min_self _
  have hmin2 : Nat.min 1 (c + 1 - i) = 1 := by simp only [Nat.min_def]; split <;> omega
  obtain ⟨X1, hX1⟩ : ∃ X1 : Array Value, X1 = (ROW.toList.take (i * 3) ++ ints h.ints ++ ROW.toList.drop (i * 3 + 3)).toArray := ⟨_, rfl⟩
  have hih : (ints h.ints).length = 3 := rfl
  have hX1s : X1.size = G * 3 := by
    rw [hX1, List.size_toArray]
    simp only [List.length_append, List.length_take, List.length_drop, Array.length_toList, hih, hRs]
    simp only [Nat.min_def]
    split <;> omega
  obtain ⟨X2, hX2⟩ : ∃ X2 : Array Value, X2 = (X1.toList.take ((i + 1) * 3) ++ D ++ X1.toList.drop ((i + 1) * 3 + D.length)).toArray := ⟨_, rfl⟩
  have hcpA : ∀ W ty dc, W.heap[w.heap.size]? = some (.cells ROW 120 (0, 0)) → W.heap[vb]? = w.heap[vb]? → (Builtin.copy_ #[24, 24] ty #[.slice (some ⟨w.heap.size, i * 3, none⟩) (c + 1 - i) dc, .slice (some ⟨vb, 0, none⟩) 1 1]).run Tryz.prog W = .ok (goInt 1) (W.setRow w.heap.size X1) := fun W ty dc hW hV => by
    have hbW : Blk W vb 120 #[.int .i64 h.A, .int .i64 h.B, .int .i64 h.C] := by unfold Blk; rw [hV]; exact hb
    have := run_copyK (P := Tryz.prog) W 24 24 ty 120 3 w.heap.size (i * 3) (c + 1 - i) dc ⟨vb, 0, none⟩ 1 1 ROW 120 (ints h.ints) Tryz.underlying24 hsz hW (by rw [hmin2]; rfl) (fun j v hj => by
      rw [show ((⟨vb, 0, none⟩ : Addr).add j) = ⟨vb, 0 + j, none⟩ from by unfold Addr.add; split <;> simp_all, Nat.zero_add, hbW.cell]
      simpa [ints, Half.ints] using hj) (by rw [hRs]; simp [ints, Half.ints]; omega) (oneCell_ints _)
    rw [hmin2] at this
    exact this.trans (by rw [hX1]; rfl)
  have hcpB : ∀ W ty dc sc, W.heap[w.heap.size]? = some (.cells X1 120 (0, 0)) → W.heap[g]? = w.heap[g]? → (Builtin.copy_ #[24, 24] ty #[.slice (some ⟨w.heap.size, (i + 1) * 3, none⟩) (c - i) dc, .slice (some ⟨g, i * 3, none⟩) (c - i) sc]).run Tryz.prog W = .ok (goInt ((c - i : Nat) : Int)) (W.setRow w.heap.size X2) := fun W ty dc sc hW hG2 => by
    have := run_copyK (P := Tryz.prog) W 24 24 ty 120 3 w.heap.size ((i + 1) * 3) (c - i) dc ⟨g, i * 3, none⟩ (c - i) sc X1 120 D Tryz.underlying24 hsz hW (by rw [hmin, hDl]) (fun j v hj => by
      rw [show ((⟨g, i * 3, none⟩ : Addr).add j) = ⟨g, i * 3 + j, none⟩ from by unfold Addr.add; split <;> simp_all]
      have := hcell (i * 3 + j) v (by rw [← hD, List.getElem?_drop] at hj; exact hj)
      unfold World.cell? at this ⊢
      rw [hG2]; exact this) (by rw [hDl, hX1s]; omega) hD1
    rw [hmin, ← hX2] at this
    exact this
  have hgA : (w.alloc (.cells ROW 120)).drew.heap[w.heap.size]? = some (.cells ROW 120 (0, 0)) := heap_alloc_new w _
  have hoA : ∀ k, k < w.heap.size → (w.alloc (.cells ROW 120)).drew.heap[k]? = w.heap[k]? := fun k hk => ((Ext.refl w).alloc (.cells ROW 120)).drew.block k hk
  have hcA := hcpA (w.alloc (.cells ROW 120)).drew 3 (G - i) hgA (hoA vb hvw)
  have hg1 : ((w.alloc (.cells ROW 120)).drew.setRow w.heap.size X1).heap[w.heap.size]? = some (.cells X1 120 (0, 0)) := setRow_heap _ _ ROW X1 _ _ hgA
  have ho1 : ((w.alloc (.cells ROW 120)).drew.setRow w.heap.size X1).heap[g]? = w.heap[g]? := (setRow_other _ _ g X1 (by omega)).trans (hoA g hgw)
  have hcB := fun (W : World) (e : W.heap = ((w.alloc (.cells ROW 120)).drew.setRow w.heap.size X1).heap) => hcpB W 3 (G - (i + 1)) (c - i) (by rw [e]; exact hg1) (by rw [e]; exact ho1)
  have HX := Lib.hid (And.intro hX1 (And.intro hX2 (And.intro hX1s (And.intro hDl (And.intro hUl (And.intro hRt hRs))))))
  have HD := Lib.hid (And.intro hD hU)
  have HG1 := Lib.hid hg1
  have HCB := Lib.hid hcB
  have hq1 : (((1 : Nat) : Int) == 0) = false := rfl
  have hz2' : ((i : Int) == (c : Int)) = false := by rw [beq_eq_false_iff_ne]; omega
  have hz3 : (c : Int) < (c : Int) + 1 := by omega
  have hb4 : ¬ c = i := by omega
  have hGi : ¬ (G = i) := by omega
  have hGim : ¬ (G = i + 1) := by omega
  have hb6 : (i : Int) ≤ (c : Int) := by omega
  have hw1 : IntKind.i64.wrap ((i : Int) + 1) = (i : Int) + 1 := by rw [IntKind.wrap_i64]; omega
  have hb1 : (0 : Int) ≤ (i : Int) + 1 := by omega
  have htn : ((i : Int) + 1).toNat = i + 1 := by omega
  have hin : i ≤ c := by omega
  have hb3 : (i : Int) ≤ (c : Int) + 1 := by omega
  clear hX1 hX2 hX1s hDl hUl hRt hRs hD hU hfl htk hcs hcell hg1 hcpA hcpB hcB ho1 hROW hZ1 hZ2 hZ1s hZ2s hG hold hgA hoA
  go_enter Tryz.func151, Tryz.ntmps151
  go_wp2_with (at_builtin; go_must (refine Lib.wpList_append_run _ rfl _ _ _ _ rfl _ _ rfl rfl _ _ (hrz _) ?_))
  go_region_law (refine step_copy_runI rfl _ _ 24 24 rfl _ _ (by simp [Act.eval, Act.put]) (by simp [Act.eval, Act.put]) (HCB.out (((w.alloc (.cells ROW 120)).drew.setRow w.heap.size X1).drew) rfl) ?_)
  go_wp2
  go_ret
  obtain ⟨hX1, hX2, hX1s, hDl, hUl, hRt, hRs⟩ := HX.out
  obtain ⟨hD, hU⟩ := HD.out
  have hX1l : X1.toList = ROW.toList.take (i * 3) ++ ints h.ints ++ ROW.toList.drop (i * 3 + 3) := by rw [hX1]
  have hX2l : X2.toList = X1.toList.take ((i + 1) * 3) ++ D ++ X1.toList.drop ((i + 1) * 3 + D.length) := by rw [hX2]
  have hX1n : X1.toList.length = G * 3 := by simpa using hX1s
  have hUh : (U ++ ints h.ints).length = (i + 1) * 3 := by simp only [List.length_append, hUl, hih]; omega
  have e1 : X1.toList.take ((i + 1) * 3) = U ++ ints h.ints := by
    rw [hX1l, hRt, List.take_left' hUh]
  have e3 : X2.toList = (U ++ ints h.ints ++ D) ++ X1.toList.drop ((i + 1) * 3 + D.length) := by rw [hX2l, e1]
  have hl3 : (U ++ ints h.ints ++ D).length = (c + 1) * 3 := by rw [List.length_append, hUh, hDl]; omega
  have e4 : ints (flat Half.ints (hs.take i ++ h :: hs.drop i)) = U ++ ints h.ints ++ D := by
    rw [flat_app, ints_append, flat_take _ _ (by omega), ints_take, hU]
    rw [show flat Half.ints (h :: hs.drop i) = h.ints ++ flat Half.ints (hs.drop i) from by simp [flat], ints_append, flat_drop _ _ (by omega), ints_drop, hD, List.append_assoc]
  have hX2s : X2.size = G * 3 := by
    have := congrArg List.length e3
    rw [Array.length_toList, List.length_append, hl3, List.length_drop, hX1n, hDl] at this
    omega
  refine ⟨some ⟨w.heap.size, 0, none⟩, G, rfl, ⟨by rw [e4]; exact hl3, .inr ⟨w.heap.size, G, X2, rfl, hbase, setRow_heap _ _ X1 X2 _ _ HG1.out, hGn, by unfold maxLen; omega, hX2s, ?_⟩⟩, Only.of_ext ((((((Ext.refl w).alloc _).drew).setRow (Nat.le_refl _) _).drew).setRow (Nat.le_refl _) _)⟩
  rw [e3, e4, List.take_left' hl3]

/-- slices.Insert of one half plane -/
def Inserted (base : Nat) (v : Value) (n : Nat) (l : List Half) (w : World) (e : Ending) (w' : World) : Prop :=
  ∃ A' c', e = .returned (.slice A' (n + 1) c') ∧ w'.ownsRow base 120 3 (.slice A' (n + 1) c') (n + 1) (ints (flat Half.ints l)) ∧ Only (Value.ownBlock v) w w'
theorem insert_any (base : Nat) (A : Option Addr) (n c i vb : Nat) (hs : List Half) (h : Half) (w : World) (ho : w.ownsRow base 120 3 (.slice A n c) n (ints (flat Half.ints hs))) (hn : n ≤ 1048576) (hi : i ≤ n) (hbase : base ≤ w.heap.size)
    (hb : Blk w vb 120 #[.int .i64 h.A, .int .i64 h.B, .int .i64 h.C]) (hvb : Value.ownBlock (.slice A n c) ≠ some vb) :
    Calls Tryz.prog 151 #[.slice A n c, .int .i64 i, .slice (some ⟨vb, 0, none⟩) 1 1] w (Inserted base (.slice A n c) n (hs.take i ++ h :: hs.drop i) w) := by
  by_cases hin : i = n
  · subst hin
    have hlen : hs.length = i := by have := ho.1; rw [ints_length, flat_length Half.ints_len] at this; omega
    have := insert_end base A i c vb hs h w ho hn hbase (fun j u hj => by rw [hb.cell]; simpa [ints, Half.ints] using hj)
    rw [List.take_of_length_le (by omega), List.drop_eq_nil_of_le (by omega)]
    exact this
  · by_cases hr : n + 1 ≤ c
    · exact insert_shift base A n c i vb hs h w ho hn (by omega) hr hb hvb
    · exact insert_grow base A n c i vb hs h w ho hn (by omega) (by omega) hbase hb
end Go.Proofs.YtjghabbcjpfjeaaGreatDoor
