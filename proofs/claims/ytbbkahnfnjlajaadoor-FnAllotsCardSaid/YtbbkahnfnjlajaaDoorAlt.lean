/- Contracts of AllotLine of the program and of the reference. -/
import Derived.Test.YtbbkahnfnjlajaaDoorAl
import Derived.Test.YtbbkahnfnjlajaaDoorSs
namespace Go.Proofs.YtbbkahnfnjlajaaDoor
open Go.ChangeShapes Go.WideShapes Go.ChangeAt Go.RowKit
set_option linter.unusedVariables false

def allotT (xs : List Ask) (total : Int) : List UInt8 :=
  if asksOk xs = true then (if allotOk xs total = true then joinT (allotOf xs total) else [110, 111, 110, 101]) else []
theorem allotOf_I64 {xs : List Ask} {total : Int} (i : Nat) (hi : i < (allotOf xs total).length) : I64 (allotOf xs total)[i] := by
  by_cases h : asksOk xs = true ∧ leastCap xs ≤ total
  · have hb := (allotN_bd h.1 (left0_bd (xs := xs) (total := total) h.2).1 xs.length (Nat.le_refl _)).2.2
    have e := (allotOf_good h.1 h.2).2
    have h6 := asksOk_len h.1
    have hl := allotN_length xs (left0 xs total) xs.length
    have hi' : i < xs.length := by rw [e, hl] at hi; exact hi
    have h2 := hb i hi'
    rw [← e] at h2
    rw [num_at hi] at h2
    unfold I64
    omega
  · have := (allotOf_bad h).2
    rw [this] at hi
    simp at hi
theorem allotOf_len6 (xs : List Ask) (total : Int) : (allotOf xs total).length ≤ 6 := by
  by_cases h : asksOk xs = true
  · have h1 := allotOf_le xs total
    have h2 := asksOk_len h
    omega
  · rw [(allotOf_bad (xs := xs) (total := total) (fun e => h e.1)).2]; simp

set_option maxHeartbeats 1000000 in
theorem implAllotLine_any (A : Option Addr) (n c : Nat) (xs : List Ask) (total : Int) (w : World) (hn : xs.length = n) (hr : Row w A (ints (flat Ask.ints xs))) (hle : n ≤ maxLen) (ht : I64 total) (hT : Tab w) :
    Calls Tryd.prog 26 #[.slice A n c, .int .i64 total] w fun e w' => e = .returned (.string (txt (allotT xs total))) ∧ Ext w w' := by
  have HT := Lib.hid hT
  clear hT
  have hy := Ext.refl w
  go_enter Tryd.func26, Tryd.ntmps26
  go_wp2_with fail
  refine (implAsksOk_any _ _ _ xs _ hn (hr.ext hy) hle).mono ?_
  rintro e w1 ⟨rfl, hx1⟩
  replace hy := hy.trans hx1
  by_cases h1 : asksOk xs = true
  · rw [h1]
    have H1 := Lib.hid h1
    clear h1
    go_wp2_with fail
    refine (implAllot_any _ _ _ xs _ _ hn (hr.ext hy) hle ht).mono ?_
    rintro e w2 ⟨B, b, rfl, ho, hx2⟩
    replace hy := hy.trans hx2
    have HR := Lib.hid (Row.of_own ho)
    have h6 := allotOf_len6 xs total
    obtain ⟨l, hl⟩ : ∃ l, allotOf xs total = l := ⟨_, rfl⟩
    have hI : Hid (∀ i, (hi : i < l.length) → I64 l[i]) := by subst hl; exact allotOf_I64
    by_cases h2 : allotOk xs total = true
    · have H : Hid (allotT xs total = joinT l) := by unfold Hid allotT; rw [if_pos H1.out, if_pos h2, hl]
      rw [hl] at h6 HR
      rw [h2, hl]
      have hT2 := HT.out.ext hy
      clear h2 hl ho
      go_wp2_with fail
      refine (joinInts_any _ _ _ l _ rfl HR.out (by omega) hI.out hT2).mono ?_
      rintro e w3 ⟨rfl, hx3⟩
      replace hy := hy.trans hx3
      go_wp2
      go_ret
      exact ⟨ret_txt (by rw [H.out]), hy⟩
    · have H : Hid (allotT xs total = [110, 111, 110, 101]) := by unfold Hid allotT; rw [if_pos H1.out, if_neg h2]
      rw [show allotOk xs total = false from by simpa using h2]
      clear h2 ho
      go_wp2
      go_ret
      exact ⟨ret_txt (by rw [H.out]; rfl), hy⟩
  · have H : Hid (allotT xs total = []) := by unfold Hid allotT; rw [if_neg h1]
    rw [show asksOk xs = false from by simpa using h1]
    clear h1
    go_wp2
    go_ret
    exact ⟨ret_txt (by rw [H.out]; rfl), hy⟩

end Go.Proofs.YtbbkahnfnjlajaaDoor
