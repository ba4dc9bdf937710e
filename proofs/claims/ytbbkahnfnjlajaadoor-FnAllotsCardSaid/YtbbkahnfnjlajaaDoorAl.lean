/- Contracts of AllotChiller of the program and of the reference. (written by tools/mkAl.py) -/
import Derived.Test.YtbbkahnfnjlajaaDoorOs
namespace Go.Proofs.YtbbkahnfnjlajaaDoor
open Go.ChangeShapes Go.WideShapes Go.ChangeAt Go.RowKit
set_option linter.unusedVariables false

/-- a list of ints of the call's own, and a bool -/
def IntsOk (l : List Int) (b : Bool) (w : World) (e : Ending) (w' : World) : Prop :=
  ∃ A c, e = .returned (.tuple #[.slice A l.length c, .bool b]) ∧ w'.ownsRow w.heap.size 3 1 (.slice A l.length c) l.length (ints l) ∧ Ext w w'
theorem ints_set (l : List Int) (i : Nat) (x : Int) : ints (l.set i x) = (ints l).set i (.int .i64 x) := by simp [ints, List.map_set]
theorem rankOrder_at {xs : List Ask} (h : asksOk xs = true) {k : Nat} (hk : k < xs.length) (hk' : k < (rankOrder xs).length) : (rankOrder xs)[k] = ((ordAt xs k : Nat) : Int) := by
  have hl := ord_length h
  unfold ordAt
  rw [List.getD_eq_getElem?_getD, List.getElem?_eq_getElem (by omega), Option.getD_some]
  simp only [rankOrder, if_pos h, nats, List.getElem_map]

set_option maxRecDepth 100000 in
set_option maxHeartbeats 2000000 in
theorem implAllot_any (A : Option Addr) (n c : Nat) (xs : List Ask) (total : Int) (w : World) (hn : xs.length = n) (hr : Row w A (ints (flat Ask.ints xs))) (hle : n ≤ maxLen) (ht : I64 total) :
    Calls Tryd.prog 22 #[.slice A n c, .int .i64 total] w fun e w' => IntsOk (allotOf xs total) (allotOk xs total) w e w' := by
  have Hle := Lib.hid hle
  unfold maxLen at hle
  obtain ⟨ht1, ht2⟩ := ht
  obtain ⟨i0, hi0, hz0, hz1, hz2⟩ := info_parts int_info
  have hLb := leastCap_bd xs
  obtain ⟨hLb1, hLb2⟩ := hLb
  by_cases hok : asksOk xs = true
  rotate_left
  · have HG := Lib.hid (allotOf_bad (xs := xs) (total := total) (fun h => hok h.1))
    have hokf : asksOk xs = false := by simpa using hok
    have Hokf := Lib.hid hokf
    clear hok hokf
    have hy := Ext.refl w
    go_enter Tryd.func22, Tryd.ntmps22
    go_wp2_with fail
    refine (implLeastCap_any _ _ _ xs _ hn hr Hle.out).mono ?_
    rintro e w1 ⟨rfl, hx1⟩
    replace hy := hy.trans hx1
    go_wp2_with fail
    refine (implAsksOk_any _ _ _ xs _ hn (hr.ext hy) Hle.out).mono ?_
    rintro e w2 ⟨rfl, hx2⟩
    replace hy := hy.trans hx2
    rw [Hokf.out]
    go_wp2
    refine bodyPost_ret (v := .tuple #[.slice none 0 0, .bool false]) (by simp [results, Tryd.results22, go_sem]) rfl ⟨none, 0, ?_, ?_, hy⟩
    · rw [HG.out.1, HG.out.2]; rfl
    · rw [HG.out.2]; exact World.ownsRow_nil _ _ _ _
  have Hok := Lib.hid hok
  clear hok
  by_cases hcap : leastCap xs ≤ total
  rotate_left
  · have HG := Lib.hid (allotOf_bad (xs := xs) (total := total) (fun h => hcap h.2))
    have hcap2 : total < leastCap xs := by omega
    have hy := Ext.refl w
    go_enter Tryd.func22, Tryd.ntmps22
    go_wp2_with fail
    refine (implLeastCap_any _ _ _ xs _ hn hr Hle.out).mono ?_
    rintro e w1 ⟨rfl, hx1⟩
    replace hy := hy.trans hx1
    go_wp2_with fail
    refine (implAsksOk_any _ _ _ xs _ hn (hr.ext hy) Hle.out).mono ?_
    rintro e w2 ⟨rfl, hx2⟩
    replace hy := hy.trans hx2
    rw [Hok.out]
    go_wp2
    refine bodyPost_ret (v := .tuple #[.slice none 0 0, .bool false]) (by simp [results, Tryd.results22, go_sem]) rfl ⟨none, 0, ?_, ?_, hy⟩
    · rw [HG.out.1, HG.out.2]; rfl
    · rw [HG.out.2]; exact World.ownsRow_nil _ _ _ _
  have hL0 := left0_bd (xs := xs) (total := total) hcap
  have HG := Lib.hid (allotOf_good Hok.out hcap)
  have HB := Lib.hid (allotN_bd Hok.out hL0.1)
  have H6 := asksOk_len Hok.out
  obtain ⟨hL1, hL2⟩ := hL0
  by_cases hbig : 1000000 < total
  · have hE : left0 xs total = 1000000 - leastCap xs := by unfold left0; rw [if_pos hbig]
    obtain ⟨l0, hl0⟩ : ∃ l, left0 xs total = l := ⟨_, rfl⟩
    rw [hl0] at HB HG hL1 hL2 hE
    have HE := Lib.hid hE
    clear hl0 hE
    have hy := Ext.refl w
    go_enter Tryd.func22, Tryd.ntmps22
    go_wp2_with fail
    refine (implLeastCap_any _ _ _ xs _ hn hr Hle.out).mono ?_
    rintro e w1 ⟨rfl, hx1⟩
    replace hy := hy.trans hx1
    go_wp2_with fail
    refine (implAsksOk_any _ _ _ xs _ hn (hr.ext hy) Hle.out).mono ?_
    rintro e w2 ⟨rfl, hx2⟩
    replace hy := hy.trans hx2
    rw [Hok.out]
    go_wp2
    go_loopw [8, 30] (fun v i wr => ∃ k : Nat, k ≤ n ∧ i = .int .i64 k ∧ Ext w wr ∧ wr.ownsRow w.heap.size 3 1 v k (ints (lowsTo xs k))) (fun _ i _ => n - (intOf i).toNat)
    case atStart => exact ⟨0, Nat.zero_le _, rfl, hy, World.ownsRow_nil _ _ _ _⟩
    case round =>
    obtain ⟨k, hk, rfl, hx, hown⟩ := hrel
    have hsz := hx.size
    by_cases hlt : k < n
    · have hlt2 : (k : Int) < (n : Int) := by omega
      obtain ⟨b, off, rfl, hb, hc0, hc1, hc2, hc3⟩ := (hr.ext hx).Ask (k := k) (by omega)
      have Hk := Lib.hid (lowsTo_succ (xs := xs) (k := k) (by omega))
      go_wp2_with (at_builtin; go_must (refine wpList_append_own _ rfl _ _ 26 rfl w.heap.size 3 i0 (.int .i64 0) 1 8 Tryd.underlying26 hi0 hz0 hz1 hz2 rfl (by decide) _ _ _ rfl (own_ext hown (((Ext.refl _).alloc _).alloc _)) ⟨wr.heap.size + 1, 0, none⟩ 1 1 [.int .i64 (xs[k]'(by omega)).Low] rfl rfl (cell_one_at _ _ (by simp) _ _) (by simp [Value.oneCell']) (by unfold maxLen; omega) (by omega) (by simp; omega) ?_); intro v' w2 hown' hgrow _)
      have hx2 : Ext w w2 := ((hx.alloc _).alloc _).grown hgrow (fun g hg => (hown.lt g hg).1)
      go_roundw
      case rel => exact ⟨k + 1, by omega, by go_num, hx2, by rw [Hk.out, ints_append]; exact hown'⟩
      case measure => simp [intOf]; omega
    · obtain rfl : k = n := by omega
      obtain ⟨Ai, ci, rfl⟩ := own_form hown
      have hall : lowsTo xs k = (allotN xs l0 0).1 := by rw [← hn, lowsTo_all]; rfl
      rw [hall] at hown
      clear hall
      go_wp2_with fail
      refine (implRankOrder_any _ _ _ xs _ hn (hr.ext hx) Hle.out).mono ?_
      rintro e w2 ⟨Ao, co, rfl, hord, hx2⟩
      have HI := Lib.hid (fun g (hg : Value.ownBlock (.slice Ai k ci) = some g) => own_lt hown hg)
      have HJ := Lib.hid (fun g (hg : Value.ownBlock (.slice Ao (rankOrder xs).length co) = some g) => own_lt hord hg)
      replace hown := own_ext hown hx2
      have hy2 := hx.trans hx2
      have Hro := Lib.hid (rankOrder_len Hok.out)
      have hll : (rankOrder xs).length = k := by rw [Hro.out, hn]
      rw [hll] at hord HJ
      rw [hll]
      clear hll
      obtain ⟨B2, hB2⟩ : ∃ B, wr.heap.size = B := ⟨_, rfl⟩
      rw [hB2] at hord HI HJ
      clear hB2
      go_wp2
      go_loopw [7, 43] (fun l i wr => ∃ q : Nat, q ≤ k ∧ i = .int .i64 q ∧ l = .int .i64 (allotN xs l0 q).2 ∧ Ext w wr ∧ wr.ownsRow w.heap.size 3 1 (.slice Ai k ci) k (ints (allotN xs l0 q).1) ∧ wr.ownsRow B2 3 1 (.slice Ao k co) k (ints (rankOrder xs))) (fun _ i _ => k - (intOf i).toNat)
      case atStart => exact ⟨0, Nat.zero_le _, rfl, by have := HE.out; show _ = Value.int .i64 l0; congr 1; omega, hy2, hown, hord⟩
      case round =>
      clear hown hord hy2 hx2 hx hsz
      obtain ⟨q, hq, rfl, rfl, hx, hown, hord⟩ := hrel
      have hsz := hx.size
      by_cases hqk : q < k
      · have hqk2 : (q : Int) < (k : Int) := by omega
        obtain ⟨bo, oo, rfl, hbo, hco⟩ := (Row.of_own hord).int (k := q) (by rw [Hro.out]; omega)
        rw [rankOrder_at Hok.out (by omega) (by rw [Hro.out]; omega)] at hco
        obtain ⟨g, rfl⟩ : ∃ g, Ai = some ⟨g, 0, none⟩ := by
          rcases hown.2 with ⟨_, h⟩ | ⟨g, cap, cu, hv, _⟩
          · omega
          · injection hv with hA _ _; exact ⟨g, hA⟩
        have hi := ordAt_lt Hok.out (k := q) (by omega)
        have hst : Hid (allotN xs l0 (q + 1) = ((allotN xs l0 q).1.set (ordAt xs q) (num (allotN xs l0 q).1 (ordAt xs q) + moreOf xs (allotN xs l0 q).2 (ordAt xs q)), (allotN xs l0 q).2 - moreOf xs (allotN xs l0 q).2 (ordAt xs q))) := rfl
        obtain ⟨b1, b2, b3⟩ := HB.out q (by omega)
        have hlen := allotN_length xs l0 q
        obtain ⟨L, hLe⟩ : ∃ L, (allotN xs l0 q).1 = L := ⟨_, rfl⟩
        obtain ⟨left, hleft⟩ : ∃ l, (allotN xs l0 q).2 = l := ⟨_, rfl⟩
        obtain ⟨i, hie⟩ : ∃ i, ordAt xs q = i := ⟨_, rfl⟩
        rw [hLe] at hst hlen b3 hown
        rw [hleft] at hst b1 b2 ⊢
        rw [hie] at hst hi hco
        clear hLe hleft hie
        obtain ⟨b, off, rfl, hb, hc0, hc1, hc2, hc3⟩ := (hr.ext hx).Ask (k := i) hi
        obtain ⟨b4, b5⟩ := b3 i hi
        have hm := more_bd Hok.out hi b1
        have hmd : Hid (moreOf xs left i = if left < (xs[i]'hi).Wish - (xs[i]'hi).Low then left else (xs[i]'hi).Wish - (xs[i]'hi).Low) := by unfold Hid moreOf; rw [askWish_at hi, askLow_at hi]
        have hcell : wr.cell? ⟨g, i, none⟩ = some (.int .i64 (num L i)) := by
          rw [hown.cellAt i (by omega), ints_get (by omega), num_at (by omega)]
        have hfz := hown.frozenAt i
        have hab := asksOk_at Hok.out hi
        obtain ⟨a1, a2, a3, a4, _, _⟩ := hab
        obtain ⟨x, hxe⟩ : ∃ x, num L i = x := ⟨_, rfl⟩
        obtain ⟨low, hlo⟩ : ∃ x, (xs[i]'hi).Low = x := ⟨_, rfl⟩
        obtain ⟨wish, hwi⟩ : ∃ x, (xs[i]'hi).Wish = x := ⟨_, rfl⟩
        rw [hxe] at hst hcell b4 b5
        rw [hlo] at hmd hc0 a1 a2
        rw [hwi] at hmd hc2 a2 a3
        clear hxe hlo hwi b3 hc1 hc3
        have hlen' := Lib.hid hlen
        have hin : (i : Int) < (k : Int) := by omega
        have hdw : IntKind.i64.wrap (wish - low) = wish - low := IntWalk.i64_in _ (by omega)
        have hblk : g < B2 ∧ w.heap.size ≤ g := by have h1 := HI.out g rfl; omega
        have hbo2 : B2 ≤ bo := by have h1 := HJ.out bo rfl; omega
        have hq13 : (q : Int) ≤ 6 := by omega
        clear hlen
        have hmv : moreOf xs left i = min (wish - low) left := by rw [hmd.out]; split <;> omega
        rw [hmv] at hst hm
        have HM := Lib.hid hmv
        clear hmv
        go_wp2_with fail
        go_quiet (fail)
        have hown2 := own_ext hown ((Ext.refl wr).drewN nq)
        have hord2 := own_ext hord ((Ext.refl wr).drewN nq)
        have hx2 := hx.drewN nq
        obtain ⟨w3, hw3⟩ : ∃ w3, wr.drewN nq = w3 := ⟨_, rfl⟩
        have hcell2 : (wr.drewN nq).cell? ⟨g, i, none⟩ = some (.int .i64 x) := hcell
        have hfz2 : (wr.drewN nq).frozen? ⟨g, i, none⟩ = false := hfz
        rw [hw3] at hown2 hord2 hx2 hcell2 hfz2 ⊢
        clear hw3
        go_wp2
        go_roundw
        case rel => exact ⟨q + 1, by omega, by go_num, by rw [hst.out], hx2.setCell hblk.2 _, by rw [hst.out, ints_set]; exact (World.ownsRow.stored hown2 i _).1, own_only hord2 ((Only.refl (some g) w3).set i _) (fun g' hg' he => by injection hg' with hg'; injection he with he; simp only at he; omega)⟩
        case measure => simp [intOf]; omega
      · obtain rfl : q = k := by omega
        have E1 := HG.out.1
        have E2 : allotOf xs total = (allotN xs l0 q).1 := by rw [HG.out.2, hn]
        have El := allotN_length xs l0 q
        rw [hn] at El
        have HE1 := Lib.hid E1
        have HE2 := Lib.hid E2
        have HEl := Lib.hid El
        clear E1 E2 El
        go_wp2
        refine bodyPost_ret (v := .tuple #[.slice Ai q ci, .bool true]) (by simp [results, Tryd.results22, go_sem]) rfl ⟨Ai, ci, ?_, ?_, hx⟩
        · rw [HE1.out, HE2.out, HEl.out]
        · rw [HE2.out, HEl.out]; exact hown
  · have hE : left0 xs total = total - leastCap xs := by unfold left0; rw [if_neg hbig]
    obtain ⟨l0, hl0⟩ : ∃ l, left0 xs total = l := ⟨_, rfl⟩
    rw [hl0] at HB HG hL1 hL2 hE
    have HE := Lib.hid hE
    clear hl0 hE
    have hy := Ext.refl w
    go_enter Tryd.func22, Tryd.ntmps22
    go_wp2_with fail
    refine (implLeastCap_any _ _ _ xs _ hn hr Hle.out).mono ?_
    rintro e w1 ⟨rfl, hx1⟩
    replace hy := hy.trans hx1
    go_wp2_with fail
    refine (implAsksOk_any _ _ _ xs _ hn (hr.ext hy) Hle.out).mono ?_
    rintro e w2 ⟨rfl, hx2⟩
    replace hy := hy.trans hx2
    rw [Hok.out]
    go_wp2
    go_loopw [8, 30] (fun v i wr => ∃ k : Nat, k ≤ n ∧ i = .int .i64 k ∧ Ext w wr ∧ wr.ownsRow w.heap.size 3 1 v k (ints (lowsTo xs k))) (fun _ i _ => n - (intOf i).toNat)
    case atStart => exact ⟨0, Nat.zero_le _, rfl, hy, World.ownsRow_nil _ _ _ _⟩
    case round =>
    obtain ⟨k, hk, rfl, hx, hown⟩ := hrel
    have hsz := hx.size
    by_cases hlt : k < n
    · have hlt2 : (k : Int) < (n : Int) := by omega
      obtain ⟨b, off, rfl, hb, hc0, hc1, hc2, hc3⟩ := (hr.ext hx).Ask (k := k) (by omega)
      have Hk := Lib.hid (lowsTo_succ (xs := xs) (k := k) (by omega))
      go_wp2_with (at_builtin; go_must (refine wpList_append_own _ rfl _ _ 26 rfl w.heap.size 3 i0 (.int .i64 0) 1 8 Tryd.underlying26 hi0 hz0 hz1 hz2 rfl (by decide) _ _ _ rfl (own_ext hown (((Ext.refl _).alloc _).alloc _)) ⟨wr.heap.size + 1, 0, none⟩ 1 1 [.int .i64 (xs[k]'(by omega)).Low] rfl rfl (cell_one_at _ _ (by simp) _ _) (by simp [Value.oneCell']) (by unfold maxLen; omega) (by omega) (by simp; omega) ?_); intro v' w2 hown' hgrow _)
      have hx2 : Ext w w2 := ((hx.alloc _).alloc _).grown hgrow (fun g hg => (hown.lt g hg).1)
      go_roundw
      case rel => exact ⟨k + 1, by omega, by go_num, hx2, by rw [Hk.out, ints_append]; exact hown'⟩
      case measure => simp [intOf]; omega
    · obtain rfl : k = n := by omega
      obtain ⟨Ai, ci, rfl⟩ := own_form hown
      have hall : lowsTo xs k = (allotN xs l0 0).1 := by rw [← hn, lowsTo_all]; rfl
      rw [hall] at hown
      clear hall
      go_wp2_with fail
      refine (implRankOrder_any _ _ _ xs _ hn (hr.ext hx) Hle.out).mono ?_
      rintro e w2 ⟨Ao, co, rfl, hord, hx2⟩
      have HI := Lib.hid (fun g (hg : Value.ownBlock (.slice Ai k ci) = some g) => own_lt hown hg)
      have HJ := Lib.hid (fun g (hg : Value.ownBlock (.slice Ao (rankOrder xs).length co) = some g) => own_lt hord hg)
      replace hown := own_ext hown hx2
      have hy2 := hx.trans hx2
      have Hro := Lib.hid (rankOrder_len Hok.out)
      have hll : (rankOrder xs).length = k := by rw [Hro.out, hn]
      rw [hll] at hord HJ
      rw [hll]
      clear hll
      obtain ⟨B2, hB2⟩ : ∃ B, wr.heap.size = B := ⟨_, rfl⟩
      rw [hB2] at hord HI HJ
      clear hB2
      go_wp2
      go_loopw [7, 43] (fun l i wr => ∃ q : Nat, q ≤ k ∧ i = .int .i64 q ∧ l = .int .i64 (allotN xs l0 q).2 ∧ Ext w wr ∧ wr.ownsRow w.heap.size 3 1 (.slice Ai k ci) k (ints (allotN xs l0 q).1) ∧ wr.ownsRow B2 3 1 (.slice Ao k co) k (ints (rankOrder xs))) (fun _ i _ => k - (intOf i).toNat)
      case atStart => exact ⟨0, Nat.zero_le _, rfl, by have := HE.out; show _ = Value.int .i64 l0; congr 1; omega, hy2, hown, hord⟩
      case round =>
      clear hown hord hy2 hx2 hx hsz
      obtain ⟨q, hq, rfl, rfl, hx, hown, hord⟩ := hrel
      have hsz := hx.size
      by_cases hqk : q < k
      · have hqk2 : (q : Int) < (k : Int) := by omega
        obtain ⟨bo, oo, rfl, hbo, hco⟩ := (Row.of_own hord).int (k := q) (by rw [Hro.out]; omega)
        rw [rankOrder_at Hok.out (by omega) (by rw [Hro.out]; omega)] at hco
        obtain ⟨g, rfl⟩ : ∃ g, Ai = some ⟨g, 0, none⟩ := by
          rcases hown.2 with ⟨_, h⟩ | ⟨g, cap, cu, hv, _⟩
          · omega
          · injection hv with hA _ _; exact ⟨g, hA⟩
        have hi := ordAt_lt Hok.out (k := q) (by omega)
        have hst : Hid (allotN xs l0 (q + 1) = ((allotN xs l0 q).1.set (ordAt xs q) (num (allotN xs l0 q).1 (ordAt xs q) + moreOf xs (allotN xs l0 q).2 (ordAt xs q)), (allotN xs l0 q).2 - moreOf xs (allotN xs l0 q).2 (ordAt xs q))) := rfl
        obtain ⟨b1, b2, b3⟩ := HB.out q (by omega)
        have hlen := allotN_length xs l0 q
        obtain ⟨L, hLe⟩ : ∃ L, (allotN xs l0 q).1 = L := ⟨_, rfl⟩
        obtain ⟨left, hleft⟩ : ∃ l, (allotN xs l0 q).2 = l := ⟨_, rfl⟩
        obtain ⟨i, hie⟩ : ∃ i, ordAt xs q = i := ⟨_, rfl⟩
        rw [hLe] at hst hlen b3 hown
        rw [hleft] at hst b1 b2 ⊢
        rw [hie] at hst hi hco
        clear hLe hleft hie
        obtain ⟨b, off, rfl, hb, hc0, hc1, hc2, hc3⟩ := (hr.ext hx).Ask (k := i) hi
        obtain ⟨b4, b5⟩ := b3 i hi
        have hm := more_bd Hok.out hi b1
        have hmd : Hid (moreOf xs left i = if left < (xs[i]'hi).Wish - (xs[i]'hi).Low then left else (xs[i]'hi).Wish - (xs[i]'hi).Low) := by unfold Hid moreOf; rw [askWish_at hi, askLow_at hi]
        have hcell : wr.cell? ⟨g, i, none⟩ = some (.int .i64 (num L i)) := by
          rw [hown.cellAt i (by omega), ints_get (by omega), num_at (by omega)]
        have hfz := hown.frozenAt i
        have hab := asksOk_at Hok.out hi
        obtain ⟨a1, a2, a3, a4, _, _⟩ := hab
        obtain ⟨x, hxe⟩ : ∃ x, num L i = x := ⟨_, rfl⟩
        obtain ⟨low, hlo⟩ : ∃ x, (xs[i]'hi).Low = x := ⟨_, rfl⟩
        obtain ⟨wish, hwi⟩ : ∃ x, (xs[i]'hi).Wish = x := ⟨_, rfl⟩
        rw [hxe] at hst hcell b4 b5
        rw [hlo] at hmd hc0 a1 a2
        rw [hwi] at hmd hc2 a2 a3
        clear hxe hlo hwi b3 hc1 hc3
        have hlen' := Lib.hid hlen
        have hin : (i : Int) < (k : Int) := by omega
        have hdw : IntKind.i64.wrap (wish - low) = wish - low := IntWalk.i64_in _ (by omega)
        have hblk : g < B2 ∧ w.heap.size ≤ g := by have h1 := HI.out g rfl; omega
        have hbo2 : B2 ≤ bo := by have h1 := HJ.out bo rfl; omega
        have hq13 : (q : Int) ≤ 6 := by omega
        clear hlen
        have hmv : moreOf xs left i = min (wish - low) left := by rw [hmd.out]; split <;> omega
        rw [hmv] at hst hm
        have HM := Lib.hid hmv
        clear hmv
        go_wp2_with fail
        go_quiet (fail)
        have hown2 := own_ext hown ((Ext.refl wr).drewN nq)
        have hord2 := own_ext hord ((Ext.refl wr).drewN nq)
        have hx2 := hx.drewN nq
        obtain ⟨w3, hw3⟩ : ∃ w3, wr.drewN nq = w3 := ⟨_, rfl⟩
        have hcell2 : (wr.drewN nq).cell? ⟨g, i, none⟩ = some (.int .i64 x) := hcell
        have hfz2 : (wr.drewN nq).frozen? ⟨g, i, none⟩ = false := hfz
        rw [hw3] at hown2 hord2 hx2 hcell2 hfz2 ⊢
        clear hw3
        go_wp2
        go_roundw
        case rel => exact ⟨q + 1, by omega, by go_num, by rw [hst.out], hx2.setCell hblk.2 _, by rw [hst.out, ints_set]; exact (World.ownsRow.stored hown2 i _).1, own_only hord2 ((Only.refl (some g) w3).set i _) (fun g' hg' he => by injection hg' with hg'; injection he with he; simp only at he; omega)⟩
        case measure => simp [intOf]; omega
      · obtain rfl : q = k := by omega
        have E1 := HG.out.1
        have E2 : allotOf xs total = (allotN xs l0 q).1 := by rw [HG.out.2, hn]
        have El := allotN_length xs l0 q
        rw [hn] at El
        have HE1 := Lib.hid E1
        have HE2 := Lib.hid E2
        have HEl := Lib.hid El
        clear E1 E2 El
        go_wp2
        refine bodyPost_ret (v := .tuple #[.slice Ai q ci, .bool true]) (by simp [results, Tryd.results22, go_sem]) rfl ⟨Ai, ci, ?_, ?_, hx⟩
        · rw [HE1.out, HE2.out, HEl.out]
        · rw [HE2.out, HEl.out]; exact hown

end Go.Proofs.YtbbkahnfnjlajaaDoor
