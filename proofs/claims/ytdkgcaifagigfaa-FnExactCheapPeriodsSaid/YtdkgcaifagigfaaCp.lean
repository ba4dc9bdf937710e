/- Contracts of CheapPeriods of the program and of the reference. -/
import Derived.Test.YtdkgcaifagigfaaSt
import Derived.Test.YtdkgcaifagigfaaT
import Derived.Test.YtdkgcaifagigfaaHz
import Derived.OwnWalk
import Derived.Deep.DeepMust
import Derived.Lib.OwnBridge
import Derived.Sort.OwnSortedInts
import Derived.Laws.OwnMore
import Derived.IntWalk
namespace Go.Proofs.Ytdkgcaifagigfaa
open Go.ChangeShapes Go.WideShapes Go.ChangeAt Go.RowKit
open Go.Sort (putRow Holds)
set_option linter.unusedVariables false
set_option maxRecDepth 100000

theorem intC_info : (Try.prog.info? 3).map (fun i => (i.zero, i.size, i.bytes)) = some (some (.int .i64 0), 1, 8) := by kernel_rfl
/-- a list of ints was made: a slice of the call's own -/
def IntsGot (l : List Int) (w : World) (e : Ending) (w' : World) : Prop :=
  ∃ A c, e = .returned (.slice A l.length c) ∧ w'.ownsRow w.heap.size 3 1 (.slice A l.length c) l.length (ints l) ∧ Ext w w'
theorem IntsGot.mk {l : List Int} {w w' : World} {e : Ending} {A : Option Addr} {c : Nat} (he : e = .returned (.slice A l.length c)) (hx : Ext w w') (ho : w'.ownsRow w.heap.size 3 1 (.slice A l.length c) l.length (ints l)) : IntsGot l w e w' :=
  ⟨A, c, he, ho, hx⟩
/-- numbers of places as ints -/
def numsC (l : List Nat) : List Int := l.map fun (i : Nat) => (i : Int)
theorem numsC_length (l : List Nat) : (numsC l).length = l.length := by simp [numsC]
theorem numsC_append (a b : List Nat) : numsC (a ++ b) = numsC a ++ numsC b := by simp [numsC]
theorem numsC_range_succ (k : Nat) : numsC (List.range (k + 1)) = numsC (List.range k) ++ [(k : Int)] := by rw [List.range_succ, numsC_append]; rfl
theorem encF_nums (m : Nat) (l : List (Fin (m + 1))) : l.map (encF m) = ints (numsC (l.map Fin.val)) := by
  unfold ints numsC encF
  rw [List.map_map, List.map_map]
  rfl
def cheapPeriods (xs : List Int) (p : Int) : List Int := if tariffOk xs = true ∧ inR p 0 xs.length = true then numsC (cheapL (num xs) xs.length p.toNat) else []
theorem cheapPeriods_le (xs : List Int) (p : Int) : (cheapPeriods xs p).length ≤ xs.length := by
  unfold cheapPeriods
  split
  · rename_i h
    have hb : 0 ≤ p ∧ p ≤ xs.length := by have := h.2; unfold inR at this; simpa using this
    rw [numsC_length, cheapL_len _ (by omega)]
    omega
  · simp
theorem Row.keepC {w W : World} {g : Nat} {A : Option Addr} {cs : List Value} (h : Row w A cs) (hk : ∀ a : Addr, a.block < w.heap.size → a.block ≠ g → W.cell? a = w.cell? a) (hA : ∀ ad, A = some ad → ad.block ≠ g) : Row W A cs := by
  rcases h with h | ⟨b, o, hA2, hc⟩
  · exact .inl h
  · refine .inr ⟨b, o, hA2, fun j v hj => ?_⟩
    have hv := hc j v hj
    rw [hk _ (World.block_lt_of_cell? w _ hv) (show b ≠ g from hA _ hA2)]
    exact hv
theorem Row.srcC {w : World} {b off : Nat} {cs : List Value} (h : Row w (some ⟨b, off, none⟩) cs) : ∀ j u, cs[j]? = some u → w.cell? ((⟨b, off, none⟩ : Addr).add j) = some u := fun j u hj => by
  rcases h with h | ⟨b', off', hA, hc⟩
  · rw [h] at hj; cases hj
  · injection hA with hA
    injection hA with e1 e2
    subst e1 e2
    rw [show ((⟨b, off, none⟩ : Addr).add j) = ⟨b, off + j, none⟩ from by unfold Addr.add; split <;> simp_all]
    exact hc j u hj
theorem oneCell_intsC (xs : List Int) : ∀ v ∈ ints xs, v.oneCell' = true := by
  intro v hv
  unfold ints at hv
  obtain ⟨z, _, rfl⟩ := List.mem_map.1 hv
  rfl
/-- the marks of what is taken -/
def takenV (key : Nat → Int) (n k : Nat) : Array Value := ((List.range n).map fun i => Value.bool (takenP key n k i)).toArray
theorem takenV_get (key : Nat → Int) {n k i : Nat} (h : i < n) : (takenV key n k)[i]? = some (.bool (takenP key n k i)) := by
  unfold takenV
  simp [h]
theorem takenV_zero (key : Nat → Int) (n : Nat) : made (.bool false) 1 n = takenV key n 0 := by
  apply Array.toList_inj.1
  unfold made takenV
  rw [show (Value.bool false).cells = #[.bool false] from rfl, toList_madeCells_one, Nat.mul_one]
  apply List.ext_getElem
  · simp
  · intro i h1 h2
    simp [takenP_zero]
theorem takenV_set (key : Nat → Int) {n k b : Nat} (hk : k < (ordP key n).length) (hb : (ordP key n)[k] = b) : (takenV key n k).setIfInBounds b (.bool true) = takenV key n (k + 1) := by
  apply Array.ext_getElem?
  intro i
  by_cases h : i < n
  · rw [Array.getElem?_setIfInBounds, takenV_get key h, takenV_get key h, takenP_succ key hk, hb]
    have hs : (takenV key n k).size = n := by simp [takenV]
    by_cases e : b = i
    · subst e
      rw [if_pos rfl, if_pos (by omega)]
      simp
    · rw [if_neg e]
      simp [show ¬ i = b from fun q => e q.symm]
  · have hs : ∀ k, (takenV key n k).size = n := fun k => by simp [takenV]
    rw [Array.getElem?_eq_none (by rw [Array.size_setIfInBounds, hs]; omega), Array.getElem?_eq_none (by rw [hs]; omega)]

set_option maxHeartbeats 1000000 in
theorem cheapCmp_any (A : Option Addr) (n c : Nat) (xs : List Int) (B : Nat) (w : World) (hn : xs.length = n) (hB : w.cell? ⟨B, 0, none⟩ = some (.slice A n c)) (hr : Row w A (ints xs)) (hok : tariffOk xs = true) (i j : Nat) (hi : i < n) (hj : j < n) :
    Calls Try.prog 20 #[.int .i64 (i : Int), .int .i64 (j : Int), .pointer (some ⟨B, 0, none⟩)] w fun e w' => e = .returned (.int .i64 (num xs i - num xs j)) ∧ ∃ q, w' = w.drewN q := by
  have h6 := tariffOk_len hok
  obtain ⟨b, off, rfl, hb, hi3⟩ := hr.int (k := i) (by omega)
  obtain ⟨b', off', hA', hb', hj3⟩ := hr.int (k := j) (by omega)
  injection hA' with hA'
  injection hA' with e1 e2
  subst e1 e2
  have r1 := tariffOk_at hok (i := i) (by omega)
  have r2 := tariffOk_at hok (i := j) (by omega)
  have H : Hid (num xs i - num xs j = (xs[i]'(by omega)) - (xs[j]'(by omega))) := by unfold Hid; rw [num_at (by omega), num_at (by omega)]
  obtain ⟨u, hu⟩ : ∃ u, (xs[i]'(by omega)) = u := ⟨_, rfl⟩
  obtain ⟨v, hv⟩ : ∃ v, (xs[j]'(by omega)) = v := ⟨_, rfl⟩
  rw [hu] at hi3 H r1
  rw [hv] at hj3 H r2
  have hd : IntKind.i64.wrap (u - v) = u - v := IntWalk.i64_in _ (by omega)
  clear hu hv hr hok
  go_enter Try.func20, Try.ntmps20
  go_wp2_with fail
  go_quiet (fail)
  go_wp2
  go_ret
  exact ⟨ret_int H.out.symm, _, rfl⟩
set_option maxHeartbeats 2000000 in
theorem cloneInts_any (b off : Nat) (n c : Nat) (zs : List Int) (w : World) (hn : zs.length = n) (hr : Row w (some ⟨b, off, none⟩) (ints zs)) (hle : n ≤ 1000) :
    Calls Try.prog 21 #[.slice (some ⟨b, off, none⟩) n c] w (IntsGot zs w) := by
  obtain ⟨i0, hi0, hz0, hz1, hz2⟩ := info_parts intC_info
  have q : ∀ (w : World) (a : Option Addr) (n c n' c' : Nat), (binOp .eql 22 (.slice a n c) (.slice none n' c')).run Try.prog w = .ok (.bool a.isNone) w := fun w a n c n' c' => Lib.run_eql_slice_nil w _ _ a n c n' c' Try.underlying22
  have hxa : Ext w (w.alloc (.cells #[] 3)) := (Ext.refl w).alloc _
  have hlit : (w.alloc (.cells #[] 3)).ownsRow w.heap.size 3 1 (.slice (some ⟨w.heap.size, 0, none⟩) 0 0) 0 [] := by
    simpa using World.ownsRow_lit (base := w.heap.size) (e := 3) (size := 1) w #[] 0 (Nat.le_refl _) (by unfold maxLen; omega) rfl
  have hca := hr.ext hxa
  have hfl : (ints zs).length = n * 1 := by rw [ints_length, hn, Nat.mul_one]
  have HN := Lib.hid hn
  clear hr hn
  go_enter Try.func21, Try.ntmps21
  go_wp2_with (at_builtin; go_must (refine wpList_append_own _ rfl _ _ 22 rfl w.heap.size 3 i0 (.int .i64 0) 1 8 Try.underlying22 hi0 hz0 hz1 hz2 rfl (by decide) _ _ _ rfl hlit ⟨b, off, none⟩ n c (ints zs) rfl hfl hca.srcC (oneCell_intsC _) (by unfold maxLen; omega) (by omega) (by simp) ?_); intro v1 w1 hown1 hgrow1 _; obtain ⟨A1, c1, rfl⟩ := own_form hown1)
  have hx1 : Ext w w1 := hxa.grown hgrow1 (fun g e => (World.ownsRow.lt hlit _ e).1)
  simp only [Nat.zero_add, List.nil_append] at hown1
  go_wp2
  go_ret
  rw [← HN.out] at hown1 ⊢
  exact ⟨A1, c1, rfl, hown1, hx1⟩
theorem sortInts_any (zs : List Int) (base : Nat) (A : Option Addr) (c : Nat) (w : World) (hown : w.ownsRow base 3 1 (.slice A zs.length c) zs.length (ints zs)) (hle : zs.length ≤ 1000) :
    Calls Try.prog 22 #[.slice A zs.length c] w fun e w' => e = .returned (.tuple #[]) ∧ w'.ownsRow base 3 1 (.slice A zs.length c) zs.length (ints (zs.mergeSort fun x y => decide (x ≤ y))) ∧ ∀ w0, Ext w0 w → w0.heap.size ≤ base → Ext w0 w' := by
  have hq := hown.2
  rcases hq with ⟨hv, h0⟩ | ⟨g, cap, cur, hv, hb, hg, hn, hm, hs, ht⟩
  · have hz : zs = [] := List.eq_nil_of_length_eq_zero h0
    subst hz
    refine (Try.slices_Sort_int_none A c w).mono ?_
    rintro e w1 ⟨rfl, rfl⟩
    exact ⟨rfl, by simpa using hown, fun w0 hx _ => hx⟩
  · injection hv with hA _ hc
    subst hA hc
    have hH := holds_of_blockI (ss := zs) hg (by rw [Nat.mul_one] at ht; exact ht)
    refine (Try.slices_Sort_int g 0 c zs w hH (Array.getElem?_eq_some_iff.1 hg).1 (by omega)).mono ?_
    rintro e w1 ⟨rfl, n, os, rfl⟩
    exact ⟨rfl, ownsRow_sortedI (List.length_mergeSort _) hb hg hn hm hs, fun w0 hx hl => hx.grown (grownBy_sortedI _) (fun g' e => by injection e with e; subst e; omega)⟩
set_option maxHeartbeats 4000000 in
theorem implCheapPeriods_any (A : Option Addr) (n c : Nat) (xs : List Int) (p : Int) (w : World) (hn : xs.length = n) (hr : Row w A (ints xs)) (hle : n ≤ maxLen) :
    Calls Try.prog 7 #[.agg #[.slice A n c], .int .i64 p] w (IntsGot (cheapPeriods xs p) w) := by
  have Hle := Lib.hid hle
  unfold maxLen at hle
  have hx : Ext w (w.alloc (.cells #[.slice A n c] 27)) := (Ext.refl w).alloc _
  have bR := Blk.new w 27 #[.slice A n c]
  obtain ⟨i0, hi0, hz0, hz1, hz2⟩ := info_parts intC_info
  go_enter Try.func7, Try.ntmps7
  go_wp2_with fail
  refine (implTariffOk_any _ _ _ xs _ hn (hr.ext hx) Hle.out).mono ?_
  rintro e w1 ⟨rfl, hx1⟩
  replace hx := hx.trans hx1
  replace bR := bR.ext hx1
  have cbR_1 := fun o => bR.cell o
  by_cases hok : tariffOk xs = true
  rotate_left
  · rw [show tariffOk xs = false from by simpa using hok]
    have H : Hid (cheapPeriods xs p = []) := by
      unfold Hid cheapPeriods
      rw [if_neg (fun h => hok h.1)]
    clear hok
    go_wp2
    go_ret
    exact IntsGot.mk (A := none) (c := 0) (by rw [H.out]; rfl) hx (by rw [H.out]; exact World.ownsRow_nil _ _ _ _)
  rw [hok]
  have h6 := tariffOk_len hok
  have Hok := Lib.hid hok
  clear hok
  go_wp2_with fail
  refine (inRange_any _ _ _ _).mono ?_
  rintro e w2 ⟨rfl, rfl⟩
  by_cases hin : inR p 0 (n : Int) = true
  rotate_left
  · rw [show inR p 0 (n : Int) = false from by simpa using hin]
    have H : Hid (cheapPeriods xs p = []) := by
      unfold Hid cheapPeriods
      rw [if_neg (fun h => hin (by rw [← hn]; exact h.2))]
    clear hin
    go_wp2
    go_ret
    exact IntsGot.mk (A := none) (c := 0) (by rw [H.out]; rfl) hx (by rw [H.out]; exact World.ownsRow_nil _ _ _ _)
  have hpb : 0 ≤ p ∧ p ≤ n := by unfold inR at hin; simpa using hin
  obtain ⟨k0, rfl⟩ : ∃ k0 : Nat, p = (k0 : Int) := ⟨p.toNat, by omega⟩
  have hkn : k0 ≤ n := by omega
  have HG : Hid (cheapPeriods xs (k0 : Int) = numsC (cheapL (num xs) n k0)) := by
    unfold Hid cheapPeriods
    rw [if_pos ⟨Hok.out, by rw [hn]; exact hin⟩, hn, Int.toNat_natCast]
  rw [hin]
  clear hin hpb
  go_wp2
  go_loopw [5, 22] (fun v i wr => ∃ k : Nat, k ≤ n ∧ i = .int .i64 k ∧ Ext w wr ∧ Blk wr w.heap.size 27 #[.slice A n c] ∧ wr.ownsRow (w.heap.size + 1) 3 1 v k (ints (numsC (List.range k)))) (fun _ i _ => n - (intOf i).toNat)
  case atStart => exact ⟨0, Nat.zero_le _, rfl, hx, bR, World.ownsRow_nil _ _ _ _⟩
  case round =>
  obtain ⟨k, hk, rfl, hxr, bS, hown⟩ := hrel
  have hsz := bS.lt
  by_cases hlt : k < n
  · have hlt2 : (k : Int) < (n : Int) := by omega
    go_wp2_with (at_builtin; go_must (refine wpList_append_own _ rfl _ _ 22 rfl (w.heap.size + 1) 3 i0 (.int .i64 0) 1 8 Try.underlying22 hi0 hz0 hz1 hz2 rfl (by decide) _ _ _ rfl (hown.alloc _) ⟨wr.heap.size, 0, none⟩ 1 1 [.int .i64 k] rfl rfl (cell_one_new _ _ _) (by simp [Value.oneCell']) (by unfold maxLen; omega) (by omega) (by simp; omega) ?_); intro v' w2 hown' hgrow _)
    have hx2 : Ext w w2 := (hxr.alloc _).grown hgrow (fun g hg => by have := (hown.lt g hg).1; omega)
    have bS2 : Blk w2 w.heap.size 27 #[.slice A n c] := (hgrow.block _ (by simp; omega) (fun e => by have := (hown.lt _ e.symm).1; omega)).trans (bS.alloc _)
    go_roundw
    case rel => exact ⟨k + 1, by omega, by go_num, hx2, bS2, by rw [numsC_range_succ, ints_append]; exact hown'⟩
    case measure => simp [intOf]; omega
  · obtain rfl : k = n := by omega
    obtain ⟨m, hm⟩ : ∃ m, k = m + 1 := ⟨k - 1, by omega⟩
    have hl : ints (numsC (List.range k)) = (places m).toList.map (encF m) := by rw [encF_nums, places_list, hm]
    rw [hl] at hown
    obtain ⟨g, cap, rfl, hbg, hgl, hkc, hcm, _, hH⟩ := Lib.holds_of_ownsRow hown (by
      intro e
      rcases hown.2 with ⟨_, h2⟩ | ⟨_, _, _, h3, _⟩
      · omega
      · rw [e] at h3; cases h3)
    have hH' : Holds (encF m) wr g 0 (places m) := hH
    have hrow : Row wr A (ints xs) := hr.ext hxr
    have hAb : ∀ ad, A = some ad → ad.block ≠ g := by
      intro ad hA
      obtain ⟨b, off, hA2, hb, _⟩ := hr.int (k := 0) (by omega)
      rw [hA] at hA2
      injection hA2 with hA2
      rw [hA2]
      simp only
      omega
    have hbox := bS.cell 0
    have hcmp : CmpAll m (num xs) 20 #[.pointer (some ⟨w.heap.size, 0, none⟩)] wr g := by
      intro W hW x y
      exact cheapCmp_any A k c xs w.heap.size W hn (by rw [hW _ bS.lt (by simp only; omega)]; exact hbox) (hrow.keepC hW hAb) Hok.out x.val y.val (by omega) (by omega)
    have hcon := sortStable_any m (num xs) 20 #[.pointer (some ⟨w.heap.size, 0, none⟩)] k g cap wr hm (by omega) (enters_of Try.func20 (by kernel_rfl) rfl) hcmp hH'
    have HC := Lib.hid hcon
    have Hown := Lib.hid hown
    have HM := Lib.hid hm
    clear hcon hcmp hl hown hH hH' hAb hrow hm
    go_wp2_with fail
    refine HC.out.mono ?_
    rintro e w2 ⟨rfl, d', q, rfl, hs2, he2⟩
    have hsz2 : d'.toList.length = k := by rw [Array.length_toList, hs2, HM.out]
    have hw := rowOf_ahead m wr g d' q
    have ho2 := Lib.ownsRow_putRow (q := q) (k := k0) (ys := d'.toList) Hown.out hsz2 hkn
    have hE : (d'.toList.take k0).map (encF m) = ints (numsC ((ordP (num xs) k).take k0)) := by
      rw [encF_nums, List.map_take, he2, HM.out]
    rw [hE, show d'.toList.toArray = d' from by simp, ← hw] at ho2
    have hxs : Ext w (RowOf m wr g d' q) := by rw [hw]; exact Lib.below_putRow hxr (by omega)
    have hzl : (numsC ((ordP (num xs) k).take k0)).length = k0 := by rw [numsC_length, List.length_take, ordP_len]; omega
    have hsrt := cheap_sorted (num xs) k k0
    have HS : Hid ((numsC ((ordP (num xs) k).take k0)).mergeSort (fun x y => decide (x ≤ y)) = numsC (cheapL (num xs) k k0)) := hsrt
    have HL : Hid ((numsC (cheapL (num xs) k k0)).length = k0) := by unfold Hid; rw [numsC_length, cheapL_len _ hkn]
    clear hsrt hE hw hs2 he2 hsz2
    generalize RowOf m wr g d' q = ws at *
    generalize numsC ((ordP (num xs) k).take k0) = zs at *
    have hcz : k0 ≤ cap := by omega
    have hczz : (k0 : Int) ≤ (cap : Int) := by omega
    have HCl := Lib.hid (fun c' => cloneInts_any g 0 k0 c' zs ws hzl (Row.of_own ho2) (by omega))
    go_wp2_with fail
    refine (HCl.out _).mono ?_
    rintro e w3 ⟨A3, c3, rfl, ho3, hx3⟩
    have HSo := Lib.hid (sortInts_any zs _ A3 c3 w3 ho3 (by omega))
    rw [hzl] at HSo ⊢
    go_wp2_with fail
    refine (HSo.out).mono ?_
    rintro e w4 ⟨rfl, ho4, hx4⟩
    have hx5 := hx4 w (hxs.trans hx3) hxs.size
    rw [HS.out] at ho4
    have ho5 := own_base ho4 hxs.size
    clear ho4 hx4
    go_wp2
    go_ret
    exact IntsGot.mk (A := A3) (c := c3) (by rw [HG.out, HL.out]; rfl) hx5 (by rw [HG.out, HL.out]; exact ho5)
set_option maxHeartbeats 4000000 in
theorem specCheapPeriods_any (A : Option Addr) (n c : Nat) (xs : List Int) (p : Int) (w : World) (hn : xs.length = n) (hr : Row w A (ints xs)) (hle : n ≤ maxLen) :
    Calls Try.prog 5 #[.agg #[.slice A n c], .int .i64 p] w (IntsGot (cheapPeriods xs p) w) := by
  have Hle := Lib.hid hle
  unfold maxLen at hle
  have hx : Ext w (w.alloc (.cells #[.slice A n c] 27)) := (Ext.refl w).alloc _
  have bR := Blk.new w 27 #[.slice A n c]
  obtain ⟨i0, hi0, hz0, hz1, hz2⟩ := info_parts intC_info
  go_enter Try.func5, Try.ntmps5
  go_wp2_with fail
  refine (specTariffOk_any _ _ _ xs _ hn (hr.ext hx) Hle.out).mono ?_
  rintro e w1 ⟨rfl, hx1⟩
  replace hx := hx.trans hx1
  replace bR := bR.ext hx1
  have cbR_2 := fun o => bR.cell o
  by_cases hok : tariffOk xs = true
  rotate_left
  · rw [show tariffOk xs = false from by simpa using hok]
    have H : Hid (cheapPeriods xs p = []) := by
      unfold Hid cheapPeriods
      rw [if_neg (fun h => hok h.1)]
    clear hok
    go_wp2
    go_ret
    exact IntsGot.mk (A := none) (c := 0) (by rw [H.out]; rfl) hx (by rw [H.out]; exact World.ownsRow_nil _ _ _ _)
  rw [hok]
  have h6 := tariffOk_len hok
  clear hle
  go_wp2_with fail
  refine (l01In_any _ _ _ _).mono ?_
  rintro e w2 ⟨rfl, rfl⟩
  by_cases hin : inR p 0 (n : Int) = true
  rotate_left
  · rw [show inR p 0 (n : Int) = false from by simpa using hin]
    have H : Hid (cheapPeriods xs p = []) := by
      unfold Hid cheapPeriods
      rw [if_neg (fun h => hin (by rw [← hn]; exact h.2))]
    clear hin
    go_wp2
    go_ret
    exact IntsGot.mk (A := none) (c := 0) (by rw [H.out]; rfl) hx (by rw [H.out]; exact World.ownsRow_nil _ _ _ _)
  have hpb : 0 ≤ p ∧ p ≤ n := by unfold inR at hin; simpa using hin
  obtain ⟨k0, rfl⟩ : ∃ k0 : Nat, p = (k0 : Int) := ⟨p.toNat, by omega⟩
  have hkn : k0 ≤ n := by omega
  have HG : Hid (cheapPeriods xs (k0 : Int) = numsC (cheapTo (num xs) n k0 n)) := by
    unfold Hid cheapPeriods
    rw [if_pos ⟨hok, by rw [hn]; exact hin⟩, hn, Int.toNat_natCast]
    rfl
  rw [hin]
  clear hin hpb hok
  have hmk := run_make_n 36 4 1 1 (.bool false) Try.underlying36 (by kernel_rfl) n (by omega) (by omega)
  obtain ⟨T, hT⟩ : ∃ T, w1.heap.size = T := ⟨_, rfl⟩
  have bT : Blk (w1.alloc (.cells (made (.bool false) 1 n) 4)) T 4 (takenV (num xs) n 0) := by rw [← takenV_zero, ← hT]; exact Blk.new w1 _ _
  have hxT := hx.alloc (.cells (made (.bool false) 1 n) 4)
  have bRT := bR.alloc (.cells (made (.bool false) 1 n) 4)
  have hTB : w.heap.size < T := by have := bR.lt; omega
  go_wp2_with fail
  go_loopw [6] (fun i wr => ∃ k : Nat, k ≤ k0 ∧ i = .int .i64 k ∧ Ext w wr ∧ Blk wr w.heap.size 27 #[.slice A n c] ∧ Blk wr T 4 (takenV (num xs) n k)) (fun i _ => k0 - (intOf i).toNat)
  case atStart => exact ⟨0, Nat.zero_le _, rfl, hxT, bRT, by first | exact bT | (rw [hT]; exact bT)⟩
  case round =>
  clear hxT bRT bT
  obtain ⟨k, hk, rfl, hxr, bS, bK⟩ := hrel
  have cS := fun o => bS.cell o
  have cK := fun o => bK.cell o
  have fK := fun o => bK.frozen o
  by_cases hlt : k < k0
  · have hlt2 : (k : Int) < (k0 : Int) := by omega
    go_wp2
    go_loop [7, 36] (fun vb vi => ∃ (i : Nat) (b : Int), i ≤ n ∧ vi = .int .i64 i ∧ vb = .int .i64 b ∧ Hid (BestP (num xs) n k i b)) (fun _ i => n - (intOf i).toNat)
    case atStart => exact ⟨0, -1, Nat.zero_le _, rfl, rfl, BestP.zero (num xs) n k⟩
    case round =>
    obtain ⟨i, b, hi, rfl, rfl, HB⟩ := hrel
    by_cases hil : i < n
    · have hil2 : (i : Int) < (n : Int) := by omega
      have hti := cK i
      rw [takenV_get (num xs) hil] at hti
      obtain ⟨b0, off, rfl, hb0, hci⟩ := (hr.ext hxr).int (k := i) (by omega)
      have hnum : Hid (num xs i = xs[i]'(by omega)) := num_at (by omega)
      by_cases ht : takenP (num xs) n k i = true
      · rw [ht] at hti
        have HB2 := Lib.hid (BestP.skip (num xs) HB.out ht)
        clear ht cK
        go_wp2
        go_round
        case rel => exact ⟨i + 1, b, by omega, by go_num, rfl, HB2⟩
        case measure => simp [intOf]; omega
      · have htf : takenP (num xs) n k i = false := by simpa using ht
        rw [htf] at hti
        clear ht cK
        by_cases hb : b < 0
        · have HB2 := Lib.hid (BestP.take (num xs) HB.out htf (.inl hb))
          go_wp2
          go_round
          case rel => exact ⟨i + 1, i, by omega, by go_num, rfl, HB2⟩
          case measure => simp [intOf]; omega
        · obtain ⟨bn, rfl⟩ : ∃ bn : Nat, b = (bn : Int) := ⟨b.toNat, by omega⟩
          have hbn : bn < n := by have := (HB.out.some (by omega)).1; omega
          obtain ⟨b1, off1, hA1, hb1, hcb⟩ := (hr.ext hxr).int (k := bn) (by omega)
          injection hA1 with hA1
          injection hA1 with e1 e2
          subst e1 e2
          have hnumb : Hid (num xs bn = xs[bn]'(by omega)) := num_at (by omega)
          obtain ⟨u, hu⟩ : ∃ u, (xs[i]'(by omega)) = u := ⟨_, rfl⟩
          obtain ⟨v, hv⟩ : ∃ v, (xs[bn]'(by omega)) = v := ⟨_, rfl⟩
          rw [hu] at hci hnum
          rw [hv] at hcb hnumb
          clear hu hv
          by_cases hp : u < v
          · have HB2 := Lib.hid (BestP.take (num xs) HB.out htf (.inr (by rw [Int.toNat_natCast, hnum.out, hnumb.out]; exact hp)))
            clear htf
            go_wp2
            go_round
            case rel => exact ⟨i + 1, i, by omega, by go_num, rfl, HB2⟩
            case measure => simp [intOf]; omega
          · have HB2 := Lib.hid (BestP.stay (num xs) HB.out (by omega) (by rw [Int.toNat_natCast, hnum.out, hnumb.out]; exact hp))
            clear htf
            go_wp2
            go_round
            case rel => exact ⟨i + 1, bn, by omega, by go_num, rfl, HB2⟩
            case measure => simp [intOf]; omega
    · obtain rfl : i = n := by omega
      have hkl : k < (ordP (num xs) i).length := by rw [ordP_len]; omega
      have hbd := BestP.done (num xs) HB.out hkl
      have hbm : (ordP (num xs) i)[k] < i := (ordP_mem (num xs)).1 (List.getElem_mem hkl)
      obtain ⟨bn, hbn⟩ : ∃ bn, (ordP (num xs) i)[k] = bn := ⟨_, rfl⟩
      rw [hbn] at hbd hbm
      subst hbd
      have hcT := cK bn
      rw [takenV_get (num xs) hbm] at hcT
      have hfT := fK bn
      have bK2 := bK.set_ bn (.bool true)
      rw [takenV_set (num xs) hkl hbn] at bK2
      have BK2 := Lib.hid bK2
      have BS2 := Lib.hid (bS.far (p := ⟨T, bn, none⟩) (by simp only; omega) (.bool true))
      have HX2 := Lib.hid (hxr.setCell (p := ⟨T, bn, none⟩) (by simp only; omega) (.bool true))
      clear bK2 cK fK hbn hkl
      have hbz : (bn : Int) < (i : Int) := by omega
      go_wp2
      go_roundw
      case rel => exact ⟨k + 1, by omega, by go_num, HX2.out, BS2.out, BK2.out⟩
      case measure => simp [intOf]; omega
  · obtain rfl : k = k0 := by omega
    have hlt2 : ¬ (k : Int) < (k : Int) := by omega
    obtain ⟨B0, hB0⟩ : ∃ B0, wr.heap.size = B0 := ⟨_, rfl⟩
    have hTB0 : T < B0 := by have := bK.lt; omega
    have bKl := bK.alloc (.cells #[] 3)
    have hxl := hxr.alloc (.cells #[] 3)
    have hlit : (wr.alloc (.cells #[] 3)).ownsRow B0 3 1 (.slice (some ⟨B0, 0, none⟩) 0 0) 0 [] := by
      have := World.ownsRow_lit (base := wr.heap.size) (e := 3) (size := 1) wr #[] 0 (Nat.le_refl _) (by unfold maxLen; omega) rfl
      rw [hB0] at this
      simpa using this
    have HW := Lib.hid (Nat.le_trans hxr.size (by rw [hB0]; exact Nat.le_refl B0))
    clear cS cK fK
    go_wp2
    go_loopw [10, 67] (fun v i wr => ∃ j : Nat, j ≤ n ∧ i = .int .i64 j ∧ Ext w wr ∧ B0 ≤ wr.heap.size ∧ Blk wr T 4 (takenV (num xs) n k) ∧ wr.ownsRow B0 3 1 v (cheapTo (num xs) n k j).length (ints (numsC (cheapTo (num xs) n k j)))) (fun _ i _ => n - (intOf i).toNat)
    case atStart => exact ⟨0, Nat.zero_le _, rfl, hxl, by simp; omega, bKl, hlit⟩
    case round =>
    clear bKl hxl hlit
    obtain ⟨j, hj, rfl, hxq, hBq, bQ, hown⟩ := hrel
    have hsq := bQ.lt
    have cQ := bQ.cell j
    by_cases hjl : j < n
    · have hjl2 : (j : Int) < (n : Int) := by omega
      rw [takenV_get (num xs) hjl] at cQ
      have hcl : (cheapTo (num xs) n k j).length ≤ j := by unfold cheapTo; exact Nat.le_trans (List.length_filter_le _ _) (by simp)
      by_cases ht : takenP (num xs) n k j = true
      · rw [ht] at cQ
        have Hk : Hid (cheapTo (num xs) n k (j + 1) = cheapTo (num xs) n k j ++ [j]) := by unfold Hid; rw [cheapTo_succ, if_pos ht]
        clear ht
        go_wp2_with (at_builtin; go_must (refine wpList_append_own _ rfl _ _ 22 rfl B0 3 i0 (.int .i64 0) 1 8 Try.underlying22 hi0 hz0 hz1 hz2 rfl (by decide) _ _ _ rfl (hown.alloc _) ⟨wr.heap.size, 0, none⟩ 1 1 [.int .i64 j] rfl rfl (cell_one_new _ _ _) (by simp [Value.oneCell']) (by unfold maxLen; omega) (by omega) (by simp; omega) ?_); intro v' w2 hown' hgrow _)
        have hx2 : Ext w w2 := (hxq.alloc _).grown hgrow (fun g hg => by have h1 := (hown.lt g hg).1; have h2 := HW.out; omega)
        have bQ2 : Blk w2 T 4 (takenV (num xs) n k) := (hgrow.block _ (by simp; omega) (fun e => by have := (hown.lt _ e.symm).1; omega)).trans (bQ.alloc _)
        go_roundw
        case rel => exact ⟨j + 1, by omega, by go_num, hx2, by have := hgrow.size; simp at this; omega, bQ2, by rw [Hk.out, List.length_append, numsC_append, ints_append]; exact hown'⟩
        case measure => simp [intOf]; omega
      · have htf : takenP (num xs) n k j = false := by simpa using ht
        rw [htf] at cQ
        have Hk : Hid (cheapTo (num xs) n k (j + 1) = cheapTo (num xs) n k j) := by unfold Hid; rw [cheapTo_succ, if_neg ht]
        clear ht htf
        go_wp2
        go_roundw
        case rel => exact ⟨j + 1, by omega, by go_num, hxq, hBq, bQ, by rw [Hk.out]; exact hown⟩
        case measure => simp [intOf]; omega
    · obtain rfl : j = n := by omega
      obtain ⟨A', c', rfl⟩ := own_form hown
      have ho2 := own_base hown HW.out
      clear hown
      go_wp2
      go_ret
      exact IntsGot.mk (A := A') (c := c') (by rw [HG.out, numsC_length]; rfl) hxq (by rw [HG.out, numsC_length]; exact ho2)
end Go.Proofs.Ytdkgcaifagigfaa
