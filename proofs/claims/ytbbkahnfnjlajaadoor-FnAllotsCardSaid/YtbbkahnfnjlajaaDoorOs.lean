/- Contracts of RankOrder of the program and of the reference. -/
import Derived.Test.YtbbkahnfnjlajaaDoorK
import Derived.Test.YtbbkahnfnjlajaaDoorJ
import Derived.Test.YtbbkahnfnjlajaaDoorHz
import Derived.Test.YtbbkahnfnjlajaaDoorPlainL
import Derived.Test.YtbbkahnfnjlajaaDoorShelf
import Derived.Shelf.SlSortCmp.Insertion
import Derived.Lib.OwnBridge
import Derived.IntWalk
namespace Go.Proofs.YtbbkahnfnjlajaaDoor
open Go.ChangeShapes Go.WideShapes Go.ChangeAt Go.RowKit
open Go.Sort (putRow Holds insertionSort)
set_option linter.unusedVariables false

theorem cell_one_at (W : World) (a : Nat) (h : W.heap.size = a) (v : Value) (t : TypeId) : ∀ j u, [v][j]? = some u → (W.alloc (.cells #[v] t)).cell? ((⟨a, 0, none⟩ : Addr).add j) = some u := by
  subst h
  exact cell_one_new W v t
/-- numbers of places as ints -/
def nats (l : List Nat) : List Int := l.map fun (i : Nat) => (i : Int)
theorem nats_length (l : List Nat) : (nats l).length = l.length := by simp [nats]
theorem nats_append (a b : List Nat) : nats (a ++ b) = nats a ++ nats b := by simp [nats]
theorem nats_range_succ (k : Nat) : nats (List.range (k + 1)) = nats (List.range k) ++ [(k : Int)] := by rw [List.range_succ, nats_append]; rfl
def rankOrder (xs : List Ask) : List Int := if asksOk xs = true then nats (ordOf (askRank xs) xs.length) else []
theorem rankOrder_len {xs : List Ask} (h : asksOk xs = true) : (rankOrder xs).length = xs.length := by
  unfold rankOrder
  rw [if_pos h, nats_length, ord_len (fun i hi => askRank_bd h i hi)]
theorem rankOrder_le (xs : List Ask) : (rankOrder xs).length ≤ xs.length := by
  by_cases h : asksOk xs = true
  · rw [rankOrder_len h]; exact Nat.le_refl _
  · unfold rankOrder; rw [if_neg h]; simp
def encF (m : Nat) (x : Fin (m + 1)) : Value := .int .i64 (x.val : Int)
def cfK (m : Nat) (key : Nat → Int) (x y : Fin (m + 1)) : Int := key x.val - key y.val
theorem encF_list (m : Nat) (l : List (Fin (m + 1))) : l.map (encF m) = ints (nats (l.map Fin.val)) := by
  unfold ints nats encF
  rw [List.map_map, List.map_map]
  rfl
theorem ltOf_cfK (m : Nat) (key : Nat → Int) : ltOf (cfK m key) = ltK m key := rfl
theorem sortWorld_cell {α : Type} [Inhabited α] (enc : α → Value) (w : World) (blk off m : Nat) (dk : Array α) (os : Array Obj) (a : Addr) (h1 : a.block < w.heap.size) (h2 : a.block ≠ blk) :
    (sortWorld enc w blk off m dk os).cell? a = w.cell? a := by
  unfold sortWorld
  rw [Sort.cell?_grow _ _ _ (by simpa using h1), Sort.cell?_putRow_other _ _ _ _ _ _ (.inl h2), Sort.cell?_ahead]
theorem sortWorld_row {α : Type} [Inhabited α] (enc : α → Value) (w : World) (blk off m : Nat) (dk : Array α) (os : Array Obj) {A : Option Addr} {cs : List Value} (h : Row w A cs) (h2 : ∀ ad, A = some ad → ad.block ≠ blk) : Row (sortWorld enc w blk off m dk os) A cs := by
  rcases h with h | ⟨b, o, hA, hc⟩
  · exact .inl h
  · refine .inr ⟨b, o, hA, fun j v hj => ?_⟩
    have hv := hc j v hj
    rw [sortWorld_cell enc w blk off m dk os _ (World.block_lt_of_cell? w _ hv) (show b ≠ blk from h2 _ hA)]
    exact hv

set_option maxHeartbeats 1000000 in
theorem stableCmp_small (m : Nat) (key : Nat → Int) (f : Nat) (cb : Array Value) (n g cap : Nat) (w : World) (hn : n = m + 1) (hn20 : n < 20)
    (eg : ∀ args w, (callFunc f args).run Tryd.prog w = .ok (.enter f args) w) (hcmp : CmpReads Tryd.prog f cb (encF m) (cfK m key) g 0 (m + 1) w) (hH : Holds (encF m) w g 0 (places m)) :
    Calls Tryd.prog 88 #[.slice (some ⟨g, 0, none⟩) n cap, .int .i64 (n : Int), .func (.func f) #[] cb] w fun e w' =>
      e = .returned (.tuple #[]) ∧ ∃ q, w' = (putRow (encF m) w g 0 (insertionSort (ltK m key) (places m) 0 (m + 1))).drewN q := by
  have hcon := Tryd.insertionSortCmpFunc_one (encF m) (fun _ => rfl) (cfK m key) f cb g 0 cap 0 n (places m) w eg (by rw [places_size]; exact hcmp) hH (Nat.zero_le _) (by rw [places_size, hn]; exact Nat.le_refl _) (by rw [places_size]; omega)
  rw [show (places m).size = n from (places_size m).trans hn.symm, ltOf_cfK] at hcon
  have hd : ∃ d', insertionSort (ltK m key) (places m) 0 n = d' ∧ insertionSort (ltK m key) (places m) 0 (m + 1) = d' := ⟨_, by rw [hn], rfl⟩
  obtain ⟨d', hd1, hd2⟩ := hd
  rw [hd1] at hcon
  rw [hd2]
  clear hcmp hH eg hd1 hd2
  have HC := Lib.hid hcon
  clear hcon
  have h20 : ¬ (20 : Int) ≤ (n : Int) := by omega
  have h20' : ¬ (20 : Int) < (n : Int) := by omega
  clear hn
  go_enter Tryd.func88, Tryd.ntmps88
  go_wp2
  go_loop [7, 8] (fun a b => a = .int .i64 0 ∧ b = .int .i64 20) (fun _ _ => 0)
  case atStart => exact ⟨rfl, rfl⟩
  case round =>
    obtain ⟨rfl, rfl⟩ := hrel
    go_wp2_with fail
    refine (HC.out).mono ?_
    rintro e w1 ⟨rfl, q, rfl⟩
    go_wp2
    go_loop [6] (fun s => s = .int .i64 20) (fun _ => 0)
    case atStart => rfl
    case round =>
      obtain rfl := hrel
      go_wp2
      go_end0
      exact ⟨rfl, q, rfl⟩

set_option maxHeartbeats 1000000 in
theorem sortStable_small (m : Nat) (key : Nat → Int) (f : Nat) (cb : Array Value) (n g cap : Nat) (w : World) (hn : n = m + 1) (hn20 : n < 20)
    (eg : ∀ args w, (callFunc f args).run Tryd.prog w = .ok (.enter f args) w) (hcmp : CmpReads Tryd.prog f cb (encF m) (cfK m key) g 0 (m + 1) w) (hH : Holds (encF m) w g 0 (places m)) :
    Calls Tryd.prog 58 #[.slice (some ⟨g, 0, none⟩) n cap, .func (.func f) #[] cb] w fun e w' =>
      e = .returned (.tuple #[]) ∧ ∃ q, w' = (putRow (encF m) w g 0 (insertionSort (ltK m key) (places m) 0 (m + 1))).drewN q := by
  have hcon := stableCmp_small m key f cb n g cap w hn hn20 eg hcmp hH
  generalize insertionSort (ltK m key) (places m) 0 (m + 1) = d' at hcon ⊢
  clear hcmp hH eg
  have HC := Lib.hid hcon
  clear hcon hn
  go_enter Tryd.func58, Tryd.ntmps58
  go_wp2_with fail
  refine (HC.out).mono ?_
  rintro e w1 ⟨rfl, q, rfl⟩
  go_wp2
  go_end0
  exact ⟨rfl, q, rfl⟩

theorem insCmp_nil (f : Value) (w : World) : Calls Tryd.prog 103 #[.slice none 0 0, .int .i64 0, .int .i64 0, f] w fun e w' => e = .returned (.tuple #[]) ∧ w = w' := by
  go_enter Tryd.func103, Tryd.ntmps103
  go_wp2
  go_loop [8] (fun i => i = .int .i64 1) (fun _ => 0)
  case atStart => rfl
  case round =>
    obtain rfl := hrel
    go_wp2
    go_end0
    exact ⟨rfl, rfl⟩
set_option maxHeartbeats 1000000 in
theorem sortStable_nil (f : Nat) (cb : Array Value) (w : World) : Calls Tryd.prog 58 #[.slice none 0 0, .func (.func f) #[] cb] w fun e w' => e = .returned (.tuple #[]) ∧ w = w' := by
  have hst : Calls Tryd.prog 88 #[.slice none 0 0, .int .i64 0, .func (.func f) #[] cb] w fun e w' => e = .returned (.tuple #[]) ∧ w = w' := by
    go_enter Tryd.func88, Tryd.ntmps88
    go_wp2
    go_loop [7, 8] (fun a b => a = .int .i64 0 ∧ b = .int .i64 20) (fun _ _ => 0)
    case atStart => exact ⟨rfl, rfl⟩
    case round =>
      obtain ⟨rfl, rfl⟩ := hrel
      go_wp2_with fail
      refine (insCmp_nil _ _).mono ?_
      rintro e w' ⟨rfl, rfl⟩
      go_wp2
      go_loop [6] (fun s => s = .int .i64 20) (fun _ => 0)
      case atStart => rfl
      case round =>
        obtain rfl := hrel
        go_wp2
        go_end0
        exact ⟨rfl, rfl⟩
  have HC := Lib.hid hst
  clear hst
  go_enter Tryd.func58, Tryd.ntmps58
  go_wp2_with fail
  refine (HC.out).mono ?_
  rintro e w' ⟨rfl, rfl⟩
  go_wp2
  go_end0
  exact ⟨rfl, rfl⟩

set_option maxHeartbeats 1000000 in
theorem rankCmp_any (A : Option Addr) (n c : Nat) (xs : List Ask) (B : Nat) (w : World) (hn : xs.length = n) (hB : w.cell? ⟨B, 0, none⟩ = some (.slice A n c)) (hr : Row w A (ints (flat Ask.ints xs))) (hok : asksOk xs = true) (i j : Nat) (hi : i < n) (hj : j < n) :
    Calls Tryd.prog 59 #[.int .i64 (i : Int), .int .i64 (j : Int), .pointer (some ⟨B, 0, none⟩)] w fun e w' => e = .returned (.int .i64 (askRank xs i - askRank xs j)) ∧ ∃ q, w' = w.drewN q := by
  have h6 := asksOk_len hok
  obtain ⟨b, off, rfl, hb, hi0, hi1, hi2, hi3⟩ := hr.Ask (k := i) (by omega)
  obtain ⟨b', off', hA', hb', hj0, hj1, hj2, hj3⟩ := hr.Ask (k := j) (by omega)
  injection hA' with hA'
  injection hA' with e1 e2
  subst e1 e2
  have r1 := asksOk_at hok (i := i) (by omega)
  have r2 := asksOk_at hok (i := j) (by omega)
  have H : Hid (askRank xs i - askRank xs j = (xs[i]'(by omega)).Rank - (xs[j]'(by omega)).Rank) := by unfold Hid; rw [askRank_at (by omega), askRank_at (by omega)]
  obtain ⟨u, hu⟩ : ∃ u, (xs[i]'(by omega)).Rank = u := ⟨_, rfl⟩
  obtain ⟨v, hv⟩ : ∃ v, (xs[j]'(by omega)).Rank = v := ⟨_, rfl⟩
  rw [hu] at hi3 H r1
  rw [hv] at hj3 H r2
  obtain ⟨_, _, _, _, r1, r1'⟩ := r1
  obtain ⟨_, _, _, _, r2, r2'⟩ := r2
  have hd : IntKind.i64.wrap (u - v) = u - v := IntWalk.i64_in _ (by omega)
  clear hu hv hr hok hi0 hi1 hi2 hj0 hj1 hj2
  go_enter Tryd.func59, Tryd.ntmps59
  go_wp2_with fail
  go_quiet (fail)
  go_wp2
  go_ret
  exact ⟨ret_int H.out.symm, _, rfl⟩

set_option maxHeartbeats 1000000 in
theorem implRankOrder_any (A : Option Addr) (n c : Nat) (xs : List Ask) (w : World) (hn : xs.length = n) (hr : Row w A (ints (flat Ask.ints xs))) (hle : n ≤ maxLen) :
    Calls Tryd.prog 23 #[.slice A n c] w fun e w' => IntsMade (rankOrder xs) w e w' := by
  have Hle := Lib.hid hle
  unfold maxLen at hle
  have hx : Ext w (w.alloc (.cells #[.slice A n c] 42)) := (Ext.refl w).alloc _
  have bR := Blk.new w 42 #[.slice A n c]
  obtain ⟨i0, hi0, hz0, hz1, hz2⟩ := info_parts int_info
  go_enter Tryd.func23, Tryd.ntmps23
  go_wp2_with fail
  refine (implAsksOk_any _ _ _ xs _ hn (hr.ext hx) Hle.out).mono ?_
  rintro e w1 ⟨rfl, hx1⟩
  replace hx := hx.trans hx1
  replace bR := bR.ext hx1
  have cbR_1 := fun o => bR.cell o
  by_cases hok : asksOk xs = true
  · rw [hok]
    have h6 := asksOk_len hok
    have Hok := Lib.hid hok
    clear hok
    go_wp2
    go_loopw [3, 10] (fun v i wr => ∃ k : Nat, k ≤ n ∧ i = .int .i64 k ∧ Ext w wr ∧ Blk wr w.heap.size 42 #[.slice A n c] ∧ (k = 0 → v = .slice none 0 0) ∧ wr.ownsRow (w.heap.size + 1) 3 1 v k (ints (nats (List.range k)))) (fun _ i _ => n - (intOf i).toNat)
    case atStart => exact ⟨0, Nat.zero_le _, rfl, hx, bR, fun _ => rfl, World.ownsRow_nil _ _ _ _⟩
    case round =>
    obtain ⟨k, hk, rfl, hxr, bS, hnil, hown⟩ := hrel
    have hsz := bS.lt
    by_cases hlt : k < n
    · have hlt2 : (k : Int) < (n : Int) := by omega
      go_wp2_with (at_builtin; go_must (refine wpList_append_own _ rfl _ _ 26 rfl (w.heap.size + 1) 3 i0 (.int .i64 0) 1 8 Tryd.underlying26 hi0 hz0 hz1 hz2 rfl (by decide) _ _ _ rfl (hown.alloc _) ⟨wr.heap.size, 0, none⟩ 1 1 [.int .i64 k] rfl rfl (cell_one_new _ _ _) (by simp [Value.oneCell']) (by unfold maxLen; omega) (by omega) (by simp; omega) ?_); intro v' w2 hown' hgrow _)
      have hx2 : Ext w w2 := (hxr.alloc _).grown hgrow (fun g hg => by have := (hown.lt g hg).1; omega)
      have bS2 : Blk w2 w.heap.size 42 #[.slice A n c] := (hgrow.block _ (by simp; omega) (fun e => by have := (hown.lt _ e.symm).1; omega)).trans (bS.alloc _)
      go_roundw
      case rel => exact ⟨k + 1, by omega, by go_num, hx2, bS2, fun h => by omega, by rw [nats_range_succ, ints_append]; exact hown'⟩
      case measure => simp [intOf]; omega
    · obtain rfl : k = n := by omega
      have Hlen := Lib.hid (rankOrder_len Hok.out)
      by_cases h0 : k = 0
      · obtain rfl := hnil h0
        subst h0
        have E : rankOrder xs = [] := List.eq_nil_of_length_eq_zero (by rw [Hlen.out, hn])
        have HE := Lib.hid E
        clear E hnil
        have hf := fun (cb : Array Value) => sortStable_nil 59 cb
        go_wp2_with fail
        refine (hf _ _).mono ?_
        rintro e w' ⟨rfl, rfl⟩
        go_wp2
        go_ret
        exact IntsMade.mk (A := none) (c := 0) (by rw [HE.out]; rfl) hxr (by rw [HE.out]; exact World.ownsRow_nil _ _ _ _)
      · obtain ⟨m, hm⟩ : ∃ m, k = m + 1 := ⟨k - 1, by omega⟩
        have hl : ints (nats (List.range k)) = (places m).toList.map (encF m) := by rw [encF_list, places_list, hm]
        rw [hl] at hown
        obtain ⟨g, cap, rfl, hbg, hgl, hkc, hcm, _, hH⟩ := Lib.holds_of_ownsRow hown (by
          intro e
          have h1 := hown.1
          rcases hown.2 with ⟨_, h2⟩ | ⟨_, _, _, h3, _⟩
          · exact h0 h2
          · rw [e] at h3; cases h3)
        have hH' : Holds (encF m) wr g 0 (places m) := hH
        have hkey : ∀ i, i < m + 1 → 0 ≤ askRank xs i ∧ askRank xs i ≤ 100 := fun i hi => askRank_bd Hok.out i (by omega)
        have E : (insertionSort (ltK m (askRank xs)) (places m) 0 (m + 1)).toList.map Fin.val = ordOf (askRank xs) (m + 1) := ins_ord m (askRank xs) hkey
        have hsz2 : (insertionSort (ltK m (askRank xs)) (places m) 0 (m + 1)).toList.length = k := by
          have := congrArg List.length E
          rw [List.length_map, ord_len hkey] at this
          omega
        have E2 : (insertionSort (ltK m (askRank xs)) (places m) 0 (m + 1)).toList.map (encF m) = ints (rankOrder xs) := by
          rw [encF_list, E]; unfold rankOrder; rw [if_pos Hok.out, hn, hm]
        have hrow : Row wr A (ints (flat Ask.ints xs)) := hr.ext hxr
        have hAb : ∀ ad, A = some ad → ad.block ≠ g := by
          intro ad hA
          by_cases hne : ints (flat Ask.ints xs) = []
          · exfalso
            have := congrArg List.length hne
            rw [ints_length, flat_length Ask.ints_len] at this
            simp at this
            omega
          · obtain ⟨b, off, hA2, hb, _⟩ := hr.at_ hne
            rw [hA] at hA2
            injection hA2 with hA2
            rw [hA2]
            simp only
            omega
        have hbox := bS.cell 0
        have hcmp : CmpReads Tryd.prog 59 #[.pointer (some ⟨w.heap.size, 0, none⟩)] (encF m) (cfK m (askRank xs)) g 0 (m + 1) wr := by
          intro mm os dk _ x y
          exact rankCmp_any A k c xs w.heap.size _ hn (by rw [sortWorld_cell _ _ _ _ _ _ _ _ bS.lt (by simp only; omega)]; exact hbox) (sortWorld_row _ _ _ _ _ _ _ hrow hAb) Hok.out x.val y.val (by omega) (by omega)
        have hcon := sortStable_small m (askRank xs) 59 #[.pointer (some ⟨w.heap.size, 0, none⟩)] k g cap wr hm (by omega) (enters_of Tryd.func59 (by kernel_rfl) rfl) hcmp hH'
        obtain ⟨d', hd⟩ : ∃ d', insertionSort (ltK m (askRank xs)) (places m) 0 (m + 1) = d' := ⟨_, rfl⟩
        rw [hd] at hcon hsz2 E2
        have HC := Lib.hid hcon
        have HE2 := Lib.hid E2
        have Hs2 := Lib.hid hsz2
        have Hown := Lib.hid hown
        clear hcon hcmp E E2 hd hl hown hH hH' hsz2 hkey hAb hnil hrow hm
        go_wp2_with fail
        refine HC.out.mono ?_
        rintro e w2 ⟨rfl, q, rfl⟩
        go_wp2
        go_ret
        have hw : (putRow (encF m) wr g 0 d').drewN q = putRow (encF m) (Sort.ahead wr q) g 0 d'.toList.toArray := by
          have := putRow_drewN (enc := encF m) wr 0 q g 0 d'
          rw [Sort.ahead_zero, Nat.zero_add] at this
          simpa using this
        have ho2 := Lib.ownsRow_putRow (q := q) (k := k) (ys := d'.toList) Hown.out Hs2.out (Nat.le_refl _)
        rw [List.take_of_length_le (by rw [Hs2.out]; exact Nat.le_refl _), HE2.out, ← hw] at ho2
        refine IntsMade.mk (A := some ⟨g, 0, none⟩) (c := cap) (by rw [Hlen.out, hn]; rfl) ?_ (by rw [Hlen.out, hn]; exact own_base ho2 (by omega))
        rw [hw]
        exact Lib.below_putRow hxr (by omega)
  · rw [show asksOk xs = false from by simpa using hok]
    have H : Hid (rankOrder xs = []) := by
      unfold Hid rankOrder
      rw [if_neg hok]
    clear hok
    go_wp2
    go_ret
    exact IntsMade.mk (A := none) (c := 0) (by rw [H.out]; rfl) hx (by rw [H.out]; exact World.ownsRow_nil _ _ _ _)

end Go.Proofs.YtbbkahnfnjlajaaDoor
