/- Contracts of AllotLine of the program and of the reference. -/
import Derived.Test.YtlgkfjhbimffiaaDoorAl
import Derived.Test.YtlgkfjhbimffiaaDoorSs
namespace Go.Proofs.YtlgkfjhbimffiaaDoor
open Go.ChangeShapes Go.WideShapes Go.ChangeAt Go.RowKit
set_option linter.unusedVariables false

def allotT (xs : List Ask) (total : Int) : List UInt8 :=
  if asksOk xs = true then (if allotOk xs total = true then joinT (allotOf xs total) else [110, 111, 110, 101]) else []
theorem allotOf_I64 {xs : List Ask} {total : Int} (i : Nat) (hi : i < (allotOf xs total).length) : I64 (allotOf xs total)[i] := by
  by_cases h : asksOk xs = true ∧ leastCap xs ≤ total
  · have hb := (allotN_bd h.1 (left0_bd (xs := xs) (total := total) h.2).1 xs.length (Nat.le_refl _)).2.2
    have e := (allotOf_good h.1 h.2).2
    have h6 := asksOk_len h.1
    have hl := allotN_length xs (left0 xs total) xs.length
    have hi' : i < xs.length := by rw [e, hl] at hi; exact hi
    have h2 := hb i hi'
    rw [← e] at h2
    rw [num_at hi] at h2
    unfold I64
    omega
  · have := (allotOf_bad h).2
    rw [this] at hi
    simp at hi
theorem allotOf_len6 (xs : List Ask) (total : Int) : (allotOf xs total).length ≤ 6 := by
  by_cases h : asksOk xs = true
  · have h1 := allotOf_le xs total
    have h2 := asksOk_len h
    omega
  · rw [(allotOf_bad (xs := xs) (total := total) (fun e => h e.1)).2]; simp

set_option maxHeartbeats 1000000 in
theorem implAllotLine_any (A : Option Addr) (n c : Nat) (xs : List Ask) (total : Int) (w : World) (hn : xs.length = n) (hr : Row w A (ints (flat Ask.ints xs))) (hle : n ≤ maxLen) (ht : I64 total) (hT : Tab w) :
    Calls Tryd.prog 27 #[.slice A n c, .int .i64 total] w fun e w' => e = .returned (.string (txt (allotT xs total))) ∧ Ext w w' := by
  have HT := Lib.hid hT
  clear hT
  have hy := Ext.refl w
  go_enter Tryd.func27, Tryd.ntmps27
  go_wp2_with fail
  refine (implAsksOk_any _ _ _ xs _ hn (hr.ext hy) hle).mono ?_
  rintro e w1 ⟨rfl, hx1⟩
  replace hy := hy.trans hx1
  by_cases h1 : asksOk xs = true
  · rw [h1]
    have H1 := Lib.hid h1
    clear h1
    go_wp2_with fail
    refine (implAllot_any _ _ _ xs _ _ hn (hr.ext hy) hle ht).mono ?_
    rintro e w2 ⟨B, b, rfl, ho, hx2⟩
    replace hy := hy.trans hx2
    have HR := Lib.hid (Row.of_own ho)
    have h6 := allotOf_len6 xs total
    obtain ⟨l, hl⟩ : ∃ l, allotOf xs total = l := ⟨_, rfl⟩
    have hI : Hid (∀ i, (hi : i < l.length) → I64 l[i]) := by subst hl; exact allotOf_I64
    by_cases h2 : allotOk xs total = true
    · have H : Hid (allotT xs total = joinT l) := by unfold Hid allotT; rw [if_pos H1.out, if_pos h2, hl]
      rw [hl] at h6 HR
      rw [h2, hl]
      have hT2 := HT.out.ext hy
      clear h2 hl ho
      go_wp2_with fail
      refine (joinInts_any _ _ _ l _ rfl HR.out (by omega) hI.out hT2).mono ?_
      rintro e w3 ⟨rfl, hx3⟩
      replace hy := hy.trans hx3
      go_wp2
      go_ret
      exact ⟨ret_txt (by rw [H.out]), hy⟩
    · have H : Hid (allotT xs total = [110, 111, 110, 101]) := by unfold Hid allotT; rw [if_pos H1.out, if_neg h2]
      rw [show allotOk xs total = false from by simpa using h2]
      clear h2 ho
      go_wp2
      go_ret
      exact ⟨ret_txt (by rw [H.out]; rfl), hy⟩
  · have H : Hid (allotT xs total = []) := by unfold Hid allotT; rw [if_neg h1]
    rw [show asksOk xs = false from by simpa using h1]
    clear h1
    go_wp2
    go_ret
    exact ⟨ret_txt (by rw [H.out]; rfl), hy⟩

set_option maxHeartbeats 1000000 in
theorem specAllotLine_any (A : Option Addr) (n c : Nat) (xs : List Ask) (total : Int) (w : World) (hn : xs.length = n) (hr : Row w A (ints (flat Ask.ints xs))) (hle : n ≤ maxLen) (ht : I64 total) :
    Calls Tryd.prog 25 #[.slice A n c, .int .i64 total] w fun e w' => e = .returned (.string (txt (allotT xs total))) ∧ Ext w w' := by
  have hy := Ext.refl w
  obtain ⟨i0, hi0, hz0, hz1, hz2⟩ := info_parts str_info
  go_enter Tryd.func25, Tryd.ntmps25
  go_wp2_with fail
  refine (specAsksOk_any _ _ _ xs _ hn (hr.ext hy) hle).mono ?_
  rintro e w1 ⟨rfl, hx1⟩
  replace hy := hy.trans hx1
  by_cases h1 : asksOk xs = true
  · rw [h1]
    have H1 := Lib.hid h1
    clear h1
    go_wp2_with fail
    refine (specAllot_any _ _ _ xs _ _ hn (hr.ext hy) hle ht).mono ?_
    rintro e w2 ⟨B, b, rfl, ho, hx2⟩
    replace hy := hy.trans hx2
    have HR := Lib.hid (Row.of_own ho)
    have h6 := allotOf_len6 xs total
    obtain ⟨l, hl⟩ : ∃ l, allotOf xs total = l := ⟨_, rfl⟩
    have hI : Hid (∀ i, (hi : i < l.length) → I64 l[i]) := by subst hl; exact allotOf_I64
    by_cases h2 : allotOk xs total = true
    · have H : Hid (allotT xs total = joinT l) := by unfold Hid allotT; rw [if_pos H1.out, if_pos h2, hl]
      rw [hl] at h6 HR
      rw [h2, hl]
      have HL := Lib.hid (joinT_len hI.out)
      have hy0 := hy
      clear h2 hl ho
      obtain ⟨m, hm⟩ : ∃ m, l.length = m := ⟨_, rfl⟩
      have Hm := Lib.hid hm
      rw [hm] at h6 ⊢
      clear hm
      have hsz0 := hy.size
      go_wp2
      go_loopw [7, 24] (fun v i wr => ∃ k : Nat, k ≤ m ∧ i = .int .i64 k ∧ Ext w2 wr ∧ wr.ownsRow w2.heap.size 9 1 v k (strs (numsTo l k))) (fun _ i _ => m - (intOf i).toNat)
      case atStart => exact ⟨0, Nat.zero_le _, rfl, (Ext.refl _).alloc _, World.ownsRow_lit w2 #[] 0 (Nat.le_refl _) (by unfold maxLen; omega) rfl⟩
      case round =>
      obtain ⟨k, hk, rfl, hx, hown⟩ := hrel
      have hsz := hx.size
      by_cases hlt : k < m
      · obtain ⟨b', off, rfl, hb, hc0⟩ := (HR.out.ext hx).int (k := k) (by rw [Hm.out]; exact hlt)
        have hlt2 : (k : Int) < (m : Int) := by omega
        have Hk := Lib.hid (numsTo_succ (xs := l) (k := k) (by rw [Hm.out]; exact hlt))
        have hIk := hI.out k (by rw [Hm.out]; exact hlt)
        go_wp2_with fail
        refine (specFormatInt_any _ _ hIk).mono ?_
        rintro e w3 ⟨rfl, hx3⟩
        replace hown := own_ext hown hx3
        have hsz1 := hx3.size
        obtain ⟨t, ht⟩ : ∃ t, numT (l[k]'(by rw [Hm.out]; exact hlt)) = t := ⟨_, rfl⟩
        rw [ht] at Hk ⊢
        clear ht
        go_wp2_with (at_builtin; go_must (refine wpList_append_own _ rfl _ _ 26 rfl w2.heap.size 9 i0 (.string ByteArray.empty) 1 16 Tryd.underlying26 hi0 hz0 hz1 hz2 rfl (by decide) _ _ _ rfl (hown.alloc _) ⟨w3.heap.size, 0, none⟩ 1 1 [.string (txt t)] rfl rfl (cell_one_new _ _ _) (by simp [Value.oneCell']) (by unfold maxLen; omega) (by omega) (by simp; omega) ?_); intro v' w4 hown' hgrow _)
        have hx5 : Ext w2 w4 := ((hx.trans hx3).alloc _).grown hgrow (fun g hg => (hown.lt g hg).1)
        go_roundw
        case rel => exact ⟨k + 1, by omega, by go_num, hx5, by rw [Hk.out, strs_append]; exact hown'⟩
        case measure => simp [intOf]; omega
      · obtain rfl : k = m := by omega
        obtain ⟨A', c', rfl⟩ := own_form hown
        have hrow := Row.of_own hown
        have hcap := own_cap hown
        have hlen : (numsTo l k).length = k := numsTo_len (by rw [Hm.out]; exact Nat.le_refl _)
        have E : Hid (Lib.join (numsTo l k) [32] = joinT l) := by unfold Hid joinT; rw [← Hm.out, numsTo_all]
        have hb : (Lib.join (numsTo l k) [32]).length ≤ 140737488355328 := by rw [E.out]; have := HL.out; rw [Hm.out] at this; omega
        have Hlen := Lib.hid hlen
        have Hb := Lib.hid hb
        clear hlen hb
        go_wp2_with fail
        refine (specJoin_any _ _ _ (numsTo l k) _ _ Hlen.out hrow (by omega) Hb.out).mono ?_
        rintro e w3 ⟨rfl, hx3⟩
        go_wp2
        go_ret
        exact ⟨ret_txt (by rw [H.out, ← E.out]), hy0.trans (hx.trans hx3)⟩
    · have H : Hid (allotT xs total = [110, 111, 110, 101]) := by unfold Hid allotT; rw [if_pos H1.out, if_neg h2]
      rw [show allotOk xs total = false from by simpa using h2]
      clear h2 ho
      go_wp2
      go_ret
      exact ⟨ret_txt (by rw [H.out]; rfl), hy⟩
  · have H : Hid (allotT xs total = []) := by unfold Hid allotT; rw [if_neg h1]
    rw [show asksOk xs = false from by simpa using h1]
    clear h1
    go_wp2
    go_ret
    exact ⟨ret_txt (by rw [H.out]; rfl), hy⟩
end Go.Proofs.YtlgkfjhbimffiaaDoor
