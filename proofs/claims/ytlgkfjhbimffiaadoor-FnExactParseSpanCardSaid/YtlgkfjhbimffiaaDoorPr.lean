/- ParseRatio, both: read off their walks. (written by tools/mkPr.py) -/
import Derived.Test.YtlgkfjhbimffiaaDoorNu
import Derived.Test.YtlgkfjhbimffiaaDoorFm
import Derived.Test.YtlgkfjhbimffiaaDoorQR
import Derived.Deep.RegionHeld3
namespace Go.Proofs.YtlgkfjhbimffiaaDoor
open Go.ChangeShapes Go.WideShapes Go.ChangeAt Go.RowKit
set_option linter.unusedVariables false
set_option maxRecDepth 100000

def ratP (L : List UInt8) (P : List (List UInt8)) : Ratio × Bool :=
  match P with
  | [a] => if pB a = true ∧ ratioOk ⟨pV a, 1⟩ = true ∧ ratioT ⟨pV a, 1⟩ = L then (⟨pV a, 1⟩, true) else (⟨0, 0⟩, false)
  | [a, b] => if pB a = true ∧ pB b = true ∧ ratioOk ⟨pV a, pV b⟩ = true ∧ ratioT ⟨pV a, pV b⟩ = L then (⟨pV a, pV b⟩, true) else (⟨0, 0⟩, false)
  | _ => (⟨0, 0⟩, false)
/-- what ParseRatio gives of a text -/
def ratR (L : List UInt8) : Ratio × Bool := ratP L (splitC 47 L)
theorem first_short (q : UInt8) (l : List UInt8) (k : Nat) (hk : k ≤ l.length) : (pieces q l k).1 = [] ∨ ∃ x r, (pieces q l k).1 = x :: r ∧ x.length < l.length := by
  induction k with
  | zero => exact Or.inl rfl
  | succ k ih =>
    rw [pieces]
    split
    · rcases ih (by omega) with h | ⟨x, r, h, hx⟩
      · rw [h]
        refine Or.inr ⟨_, [], rfl, ?_⟩
        rw [List.length_drop, List.length_take]
        omega
      · rw [h]
        exact Or.inr ⟨x, r ++ [_], rfl, hx⟩
    · exact ih (by omega)
theorem ratR_bad0 {L t0 : List UInt8} {P : List (List UInt8)} (hP : splitC 47 L = P) (h0 : 0 < P.length) (ht : P[0] = t0) (h : pB t0 = false) : ratR L = (⟨0, 0⟩, false) := by
  unfold ratR ratP
  rw [hP]
  subst ht
  match P, h0, h with
  | [a], _, h => simp only [List.getElem_cons_zero] at h; simp [h]
  | [a, b], _, h => simp only [List.getElem_cons_zero] at h; simp [h]
  | a :: b :: c :: r, _, _ => rfl
theorem ratR_long {L : List UInt8} {P : List (List UInt8)} (hP : splitC 47 L = P) (h : 2 < P.length) : ratR L = (⟨0, 0⟩, false) := by
  unfold ratR ratP
  rw [hP]
  match P, h with
  | a :: b :: c :: r, _ => rfl
theorem one_of' {α : Type} {P : List α} (h : P.length = 1) : ∃ a, P = [a] := by
  match P, h with
  | [a], _ => exact ⟨a, rfl⟩
theorem two_of' {α : Type} {P : List α} (h : P.length = 2) : ∃ a b, P = [a, b] := by
  match P, h with
  | [a, b], _ => exact ⟨a, b, rfl⟩
/-- one piece, or more than two: the number alone -/
theorem ratR_one {L t0 : List UInt8} {P : List (List UInt8)} (hP : splitC 47 L = P) (h0 : 0 < P.length) (h2 : P.length ≠ 2) (ht : P[0] = t0) (h : pB t0 = true) :
    ratR L = if ratioOk ⟨pV t0, 1⟩ = true ∧ ratioT ⟨pV t0, 1⟩ = L then (⟨pV t0, 1⟩, true) else (⟨0, 0⟩, false) := by
  by_cases h1 : P.length = 1
  · obtain ⟨a, rfl⟩ := one_of' h1
    simp only [List.getElem_cons_zero] at ht
    subst ht
    unfold ratR ratP
    rw [hP]
    simp [h]
  · have h3 : 2 < P.length := by omega
    rw [ratR_long hP h3, if_neg]
    rintro ⟨e1, e2⟩
    unfold ratioT at e2
    rw [if_pos e1, if_pos rfl] at e2
    have e3 : numT (pV t0) = t0 := by
      unfold pB at h
      unfold pV
      cases hp : pI t0 with
      | none => rw [hp] at h; cases h
      | some n => exact (pI_some hp).1
    have e4 : L = t0 := e2.symm.trans e3
    unfold splitC at hP
    rcases first_short 47 L L.length (Nat.le_refl _) with h5 | ⟨x, r, h5, h6⟩
    · rw [h5] at hP
      rw [← hP] at h3
      simp at h3
    · rw [h5] at hP
      subst hP
      simp only [List.cons_append, List.getElem_cons_zero] at ht
      rw [e4, ← ht] at h6
      omega
theorem ratR_two {L t0 t1 : List UInt8} {P : List (List UInt8)} (hP : splitC 47 L = P) (h2 : P.length = 2) (ht : P[0] = t0) (ht1 : P[1] = t1) (h : pB t0 = true) :
    ratR L = if pB t1 = true ∧ ratioOk ⟨pV t0, pV t1⟩ = true ∧ ratioT ⟨pV t0, pV t1⟩ = L then (⟨pV t0, pV t1⟩, true) else (⟨0, 0⟩, false) := by
  obtain ⟨a, b, rfl⟩ := two_of' h2
  simp only [List.getElem_cons_zero, List.getElem_cons_succ] at ht ht1
  subst ht ht1
  unfold ratR ratP
  rw [hP]
  simp [h]
theorem splitC_pos (q : UInt8) (l : List UInt8) : 0 < (splitC q l).length := by
  unfold splitC
  simp
theorem ratR_bd (L : List UInt8) : I64 (ratR L).1.N ∧ I64 (ratR L).1.D := by
  unfold ratR ratP
  have z : I64 0 := ⟨by decide, by decide⟩
  split
  · split
    · exact ⟨pV_bd _, (⟨by decide, by decide⟩ : I64 1)⟩
    · exact ⟨z, z⟩
  · split
    · exact ⟨pV_bd _, pV_bd _⟩
    · exact ⟨z, z⟩
  · exact ⟨z, z⟩

set_option maxHeartbeats 8000000 in
theorem implParseRatio_any (s : ByteArray) (hs : s.size ≤ 1048576) (w : World) (ht : Tab w) (he : Ers w) :
    Calls Tryd.prog 82 #[.string s] w fun e w' => e = .returned (.tuple #[.agg #[.int .i64 (ratR s.data.toList).1.N, .int .i64 (ratR s.data.toList).1.D], .bool (ratR s.data.toList).2]) ∧ Ext w w' := by
  have hx : Ext w (w.alloc (.cells #[.int .i64 0, .int .i64 0] 63)) := (Ext.refl w).alloc _
  have b0 := Blk.new w 63 #[.int .i64 0, .int .i64 0]
  obtain ⟨L, hL⟩ : ∃ L, s.data.toList = L := ⟨_, rfl⟩
  have HL := Lib.hid hL
  have hLn : L.length ≤ 1048576 := by rw [← hL]; simpa using hs
  obtain ⟨P, hP⟩ : ∃ P, splitC 47 L = P := ⟨_, rfl⟩
  have HP := Lib.hid hP
  have HS : Hid (∀ k (h : k < P.length), P[k].length ≤ 1048576) := fun k h => Nat.le_trans (splitC_small 47 L _ (by rw [hP]; exact List.getElem_mem h)) hLn
  have hP0 : 0 < P.length := by rw [← hP]; exact splitC_pos _ _
  have hPn : P.length ≤ 1048577 := by have := splitC_len 47 L; rw [hP] at this; omega
  obtain ⟨t0, ht0⟩ : ∃ t, P[0] = t := ⟨_, rfl⟩
  have hst : (txt t0).size ≤ 1048576 := by rw [txt_size, ← ht0]; exact HS.out 0 hP0
  have Hbad : Hid (∀ h : pB t0 = false, ratR L = (⟨0, 0⟩, false)) := fun h => ratR_bad0 hP hP0 ht0 h
  have Hone : Hid (∀ h2 : P.length ≠ 2, ∀ h : pB t0 = true, ratR L = if ratioOk ⟨pV t0, 1⟩ = true ∧ ratioT ⟨pV t0, 1⟩ = L then (⟨pV t0, 1⟩, true) else (⟨0, 0⟩, false)) := fun h2 h => ratR_one hP hP0 h2 ht0 h
  have Htwo : Hid (∀ h2 : P.length = 2, ∀ t1, ∀ _ : P[1] = t1, ∀ h : pB t0 = true, ratR L = if pB t1 = true ∧ ratioOk ⟨pV t0, pV t1⟩ = true ∧ ratioT ⟨pV t0, pV t1⟩ = L then (⟨pV t0, pV t1⟩, true) else (⟨0, 0⟩, false)) := fun h2 t1 e h => ratR_two hP h2 ht0 e h
  have Hlong : Hid (∀ h : 2 < P.length, ratR L = (⟨0, 0⟩, false)) := fun h => ratR_long hP h
  have H0 := Lib.hid ht0
  rw [hL]
  clear hP hL ht0
  have HT0 := Lib.hid ht
  have HE0 := Lib.hid he
  clear ht he
  go_enter Tryd.func82, Tryd.ntmps82
  go_wp2_with fail
  refine (implSplitAny_any 47 s hs _).mono ?_
  rintro e w1 ⟨A, c, rfl, th, hx1⟩
  rw [HL.out, HP.out] at th
  rw [HL.out, HP.out]
  have hrow := th.row
  clear th
  replace b0 := b0.ext hx1
  replace hx := hx.trans hx1
  obtain ⟨b, off, rfl, hb, hc0⟩ := hrow.str (k := 0) hP0
  rw [H0.out] at hc0
  rw [Nat.add_zero] at hc0
  have HR := Lib.hid hrow
  clear hrow
  have HT := HT0.out.ext hx
  have HE := HE0.out.ext hx
  go_wp2_with fail
  refine (implParseInt_any (txt t0) hst _ HT HE).mono ?_
  rintro e w2 ⟨rfl, hx2⟩
  rw [txt_list]
  clear HT HE
  have HR2 := Lib.hid (HR.out.ext hx2)
  replace b0 := b0.ext hx2
  replace hx := hx.trans hx2
  obtain ⟨n, hn⟩ : ∃ n, P.length = n := ⟨_, rfl⟩
  have hn0 := hP0
  rw [hn] at hPn hn0
  rw [hn]
  have HN := Lib.hid hn
  clear hn hc0
  obtain ⟨x, hxv⟩ : ∃ x, pV t0 = x := ⟨_, rfl⟩
  have hIx : I64 x := by rw [← hxv]; exact pV_bd _
  rw [hxv] at Hone Htwo ⊢
  clear hxv
  have c0 := fun o => b0.cell o
  have f0 := fun o => b0.frozen o
  have hlt := b0.lt
  by_cases hp : pB t0 = true
  rotate_left
  · have hp' : pB t0 = false := by simpa using hp
    have H := Lib.hid (Hbad.out hp')
    rw [hp']
    clear hp hp'
    have c0 := fun o => b0.cell o
    have f0 := fun o => b0.frozen o
    have hlt := b0.lt
    have hq := hx.size
    try simp only [World.size_alloc] at hq
    go_wp2
    have bF := (b0.set_ 0 (.int .i64 0)).set_ 1 (.int .i64 0)
    replace bF := bF.alloc (.cells #[.int .i64 x, .int .i64 1] 63)
    have cF := fun o => bF.cell o
    refine bodyPost_ret (v := .tuple #[.agg #[.int .i64 0, .int .i64 0], .bool false]) (by simp [results, Tryd.results82, go_sem, cF]) rfl ⟨by rw [H.out], ?_⟩
    exact ((hx.setCell (by first | omega | (simp <;> omega)) _).setCell (by first | omega | (simp <;> omega)) _).alloc _
  have Hp := Lib.hid hp
  rw [hp]
  clear hp
  by_cases h2 : n = 2
  · obtain ⟨t1, ht1⟩ : ∃ t, P[1]'(by rw [HN.out]; omega) = t := ⟨_, rfl⟩
    obtain ⟨b', off', hA1, hb1, hc1⟩ := HR2.out.str (k := 1) (by rw [HN.out]; omega)
    injection hA1 with hA1
    injection hA1 with q1 q2
    subst q1 q2
    rw [ht1] at hc1
    have hst1 : (txt t1).size ≤ 1048576 := by rw [txt_size, ← ht1]; exact HS.out 1 (by rw [HN.out]; omega)
    have HZ0 := Lib.hid (Htwo.out (by rw [HN.out]; exact h2) t1 ht1 Hp.out)
    have bH := Blk.new w2 63 #[.int .i64 x, .int .i64 1]
    clear ht1
    subst h2
    replace b0 := b0.alloc (.cells #[.int .i64 x, .int .i64 1] 63)
    replace hx := hx.alloc (.cells #[.int .i64 x, .int .i64 1] 63)
    have hsz2 := hx1.size
    have hsz3 := hx2.size
    simp only [World.size_alloc] at hsz2
    have HT := HT0.out.ext hx
    have HE := HE0.out.ext hx
    go_wp2_with fail
    refine (implParseInt_any (txt t1) hst1 _ HT HE).mono ?_
    rintro e w3 ⟨rfl, hx3⟩
    rw [txt_list]
    clear HT HE
    replace b0 := b0.ext hx3
    replace bH := bH.ext hx3
    replace hx := hx.trans hx3
    obtain ⟨y, hyv⟩ : ∃ y, pV t1 = y := ⟨_, rfl⟩
    have hIy : I64 y := by rw [← hyv]; exact pV_bd _
    rw [hyv] at HZ0 ⊢
    clear hyv hc1
    have cH := fun o => bH.cell o
    have fH := fun o => bH.frozen o
    have hltH := bH.lt
    replace hx := hx.setCell (p := ⟨w2.heap.size, 1, none⟩) (by first | omega | (simp <;> omega)) (.int .i64 y)
    replace b0 := b0.far (p := ⟨w2.heap.size, 1, none⟩) (by first | omega | (simp <;> omega)) (.int .i64 y)
    replace bH := bH.set_ 1 (.int .i64 y)
    by_cases hp1 : pB t1 = true
    rotate_left
    · have hp1' : pB t1 = false := by simpa using hp1
      have H := Lib.hid (HZ0.out.trans (if_neg (fun e => hp1 e.1)))
      rw [hp1']
      clear hp1 hp1' HZ0
      have c0 := fun o => b0.cell o
      have f0 := fun o => b0.frozen o
      have hlt := b0.lt
      have hq := hx.size
      try simp only [World.size_alloc] at hq
      go_wp2
      have bF := (b0.set_ 0 (.int .i64 0)).set_ 1 (.int .i64 0)
      have cF := fun o => bF.cell o
      refine bodyPost_ret (v := .tuple #[.agg #[.int .i64 0, .int .i64 0], .bool false]) (by simp [results, Tryd.results82, go_sem, cF]) rfl ⟨by rw [H.out], ?_⟩
      exact (hx.setCell (by first | omega | (simp <;> omega)) _).setCell (by first | omega | (simp <;> omega)) _
    have HZ : Hid (ratR L = if ratioOk ⟨x, y⟩ = true ∧ ratioT ⟨x, y⟩ = L then (⟨x, y⟩, true) else (⟨0, 0⟩, false)) := by
      have h9 := HZ0.out
      simp only [hp1, true_and] at h9
      exact h9
    rw [hp1]
    clear hp1 HZ0
    have cH2 := fun o => bH.cell o
    go_wp2_with fail
    refine (implRatioOk_any x y _ hIx hIy).mono ?_
    rintro e w7 ⟨rfl, hx7⟩
    replace b0 := b0.ext hx7
    replace bH := bH.ext hx7
    replace hx := hx.trans hx7
    have cH7 := fun o => bH.cell o
    by_cases hr : ratioOk ⟨x, y⟩ = true
    rotate_left
    · have hr' : ratioOk ⟨x, y⟩ = false := by simpa using hr
      have H := Lib.hid (HZ.out.trans (if_neg (fun e => hr e.1)))
      rw [hr']
      clear hr hr' HZ
      have c0 := fun o => b0.cell o
      have f0 := fun o => b0.frozen o
      have hlt := b0.lt
      have hq := hx.size
      try simp only [World.size_alloc] at hq
      go_wp2
      have bF := (b0.set_ 0 (.int .i64 0)).set_ 1 (.int .i64 0)
      have cF := fun o => bF.cell o
      refine bodyPost_ret (v := .tuple #[.agg #[.int .i64 0, .int .i64 0], .bool false]) (by simp [results, Tryd.results82, go_sem, cF]) rfl ⟨by rw [H.out], ?_⟩
      exact (hx.setCell (by first | omega | (simp <;> omega)) _).setCell (by first | omega | (simp <;> omega)) _
    rw [hr]
    have HR9 := Lib.hid hr
    clear hr
    have HT := HT0.out.ext hx
    go_wp2_with fail
    refine (implFormatRatio_any x y _ hIx hIy HT).mono ?_
    rintro e w8 ⟨rfl, hx8⟩
    clear HT
    replace b0 := b0.ext hx8
    replace bH := bH.ext hx8
    replace hx := hx.trans hx8
    have cH8 := fun o => bH.cell o
    by_cases hc : ratioT ⟨x, y⟩ = L
    rotate_left
    · have hcm : ((txt (ratioT ⟨x, y⟩)).toList == s.toList) = false := by rw [txt_same, HL.out, decide_eq_false_iff_not]; exact hc
      have H := Lib.hid (HZ.out.trans (if_neg (fun e => hc e.2)))
      clear hc HZ
      have c0 := fun o => b0.cell o
      have f0 := fun o => b0.frozen o
      have hlt := b0.lt
      have hq := hx.size
      try simp only [World.size_alloc] at hq
      go_wp2
      have bF := (b0.set_ 0 (.int .i64 0)).set_ 1 (.int .i64 0)
      have cF := fun o => bF.cell o
      refine bodyPost_ret (v := .tuple #[.agg #[.int .i64 0, .int .i64 0], .bool false]) (by simp [results, Tryd.results82, go_sem, cF]) rfl ⟨by rw [H.out], ?_⟩
      exact (hx.setCell (by first | omega | (simp <;> omega)) _).setCell (by first | omega | (simp <;> omega)) _
    have hcm : ((txt (ratioT ⟨x, y⟩)).toList == s.toList) = true := by rw [txt_same, HL.out, decide_eq_true_eq]; exact hc
    have HC9 := Lib.hid hc
    clear hc
    have H := Lib.hid (HZ.out.trans (if_pos ⟨HR9.out, HC9.out⟩))
    have c0 := fun o => b0.cell o
    have f0 := fun o => b0.frozen o
    have hlt := b0.lt
    have hq := hx.size
    try simp only [World.size_alloc] at hq
    go_wp2
    have bF := (b0.set_ 0 (.int .i64 x)).set_ 1 (.int .i64 y)
    have cF := fun o => bF.cell o
    refine bodyPost_ret (v := .tuple #[.agg #[.int .i64 x, .int .i64 y], .bool true]) (by simp [results, Tryd.results82, go_sem, cF]) rfl ⟨by rw [H.out], ?_⟩
    exact (hx.setCell (by first | omega | (simp <;> omega)) _).setCell (by first | omega | (simp <;> omega)) _
  have h2' : ((n : Int) == 2) = false := by rw [beq_eq_false_iff_ne]; omega
  have HZ := Lib.hid (Hone.out (by rw [HN.out]; exact h2) Hp.out)
  have hIy : I64 (1 : Int) := ⟨by decide, by decide⟩
  have bH := Blk.new w2 63 #[.int .i64 x, .int .i64 1]
  replace b0 := b0.alloc (.cells #[.int .i64 x, .int .i64 1] 63)
  replace hx := hx.alloc (.cells #[.int .i64 x, .int .i64 1] 63)
  have cH := fun o => bH.cell o
  go_wp2_with fail
  refine (implRatioOk_any x 1 _ hIx hIy).mono ?_
  rintro e w7 ⟨rfl, hx7⟩
  replace b0 := b0.ext hx7
  replace bH := bH.ext hx7
  replace hx := hx.trans hx7
  have cH7 := fun o => bH.cell o
  by_cases hr : ratioOk ⟨x, 1⟩ = true
  rotate_left
  · have hr' : ratioOk ⟨x, 1⟩ = false := by simpa using hr
    have H := Lib.hid (HZ.out.trans (if_neg (fun e => hr e.1)))
    rw [hr']
    clear hr hr' HZ
    have c0 := fun o => b0.cell o
    have f0 := fun o => b0.frozen o
    have hlt := b0.lt
    have hq := hx.size
    try simp only [World.size_alloc] at hq
    go_wp2
    have bF := (b0.set_ 0 (.int .i64 0)).set_ 1 (.int .i64 0)
    have cF := fun o => bF.cell o
    refine bodyPost_ret (v := .tuple #[.agg #[.int .i64 0, .int .i64 0], .bool false]) (by simp [results, Tryd.results82, go_sem, cF]) rfl ⟨by rw [H.out], ?_⟩
    exact (hx.setCell (by first | omega | (simp <;> omega)) _).setCell (by first | omega | (simp <;> omega)) _
  rw [hr]
  have HR9 := Lib.hid hr
  clear hr
  have HT := HT0.out.ext hx
  go_wp2_with fail
  refine (implFormatRatio_any x 1 _ hIx hIy HT).mono ?_
  rintro e w8 ⟨rfl, hx8⟩
  clear HT
  replace b0 := b0.ext hx8
  replace bH := bH.ext hx8
  replace hx := hx.trans hx8
  have cH8 := fun o => bH.cell o
  by_cases hc : ratioT ⟨x, 1⟩ = L
  rotate_left
  · have hcm : ((txt (ratioT ⟨x, 1⟩)).toList == s.toList) = false := by rw [txt_same, HL.out, decide_eq_false_iff_not]; exact hc
    have H := Lib.hid (HZ.out.trans (if_neg (fun e => hc e.2)))
    clear hc HZ
    have c0 := fun o => b0.cell o
    have f0 := fun o => b0.frozen o
    have hlt := b0.lt
    have hq := hx.size
    try simp only [World.size_alloc] at hq
    go_wp2
    have bF := (b0.set_ 0 (.int .i64 0)).set_ 1 (.int .i64 0)
    have cF := fun o => bF.cell o
    refine bodyPost_ret (v := .tuple #[.agg #[.int .i64 0, .int .i64 0], .bool false]) (by simp [results, Tryd.results82, go_sem, cF]) rfl ⟨by rw [H.out], ?_⟩
    exact (hx.setCell (by first | omega | (simp <;> omega)) _).setCell (by first | omega | (simp <;> omega)) _
  have hcm : ((txt (ratioT ⟨x, 1⟩)).toList == s.toList) = true := by rw [txt_same, HL.out, decide_eq_true_eq]; exact hc
  have HC9 := Lib.hid hc
  clear hc
  have H := Lib.hid (HZ.out.trans (if_pos ⟨HR9.out, HC9.out⟩))
  have c0 := fun o => b0.cell o
  have f0 := fun o => b0.frozen o
  have hlt := b0.lt
  have hq := hx.size
  try simp only [World.size_alloc] at hq
  go_wp2
  have bF := (b0.set_ 0 (.int .i64 x)).set_ 1 (.int .i64 1)
  have cF := fun o => bF.cell o
  refine bodyPost_ret (v := .tuple #[.agg #[.int .i64 x, .int .i64 1], .bool true]) (by simp [results, Tryd.results82, go_sem, cF]) rfl ⟨by rw [H.out], ?_⟩
  exact (hx.setCell (by first | omega | (simp <;> omega)) _).setCell (by first | omega | (simp <;> omega)) _

set_option maxHeartbeats 8000000 in
theorem specParseRatio_any (s : ByteArray) (hs : s.size ≤ 1048576) (w : World) :
    Calls Tryd.prog 79 #[.string s] w fun e w' => e = .returned (.tuple #[.agg #[.int .i64 (ratR s.data.toList).1.N, .int .i64 (ratR s.data.toList).1.D], .bool (ratR s.data.toList).2]) ∧ Ext w w' := by
  have hx : Ext w (w.alloc (.cells #[.int .i64 0, .int .i64 0] 63)) := (Ext.refl w).alloc _
  have b0 := Blk.new w 63 #[.int .i64 0, .int .i64 0]
  obtain ⟨L, hL⟩ : ∃ L, s.data.toList = L := ⟨_, rfl⟩
  have HL := Lib.hid hL
  have hLn : L.length ≤ 1048576 := by rw [← hL]; simpa using hs
  obtain ⟨P, hP⟩ : ∃ P, splitC 47 L = P := ⟨_, rfl⟩
  have HP := Lib.hid hP
  have HS : Hid (∀ k (h : k < P.length), P[k].length ≤ 1048576) := fun k h => Nat.le_trans (splitC_small 47 L _ (by rw [hP]; exact List.getElem_mem h)) hLn
  have hP0 : 0 < P.length := by rw [← hP]; exact splitC_pos _ _
  have hPn : P.length ≤ 1048577 := by have := splitC_len 47 L; rw [hP] at this; omega
  obtain ⟨t0, ht0⟩ : ∃ t, P[0] = t := ⟨_, rfl⟩
  have hst : (txt t0).size ≤ 1048576 := by rw [txt_size, ← ht0]; exact HS.out 0 hP0
  have Hbad : Hid (∀ h : pB t0 = false, ratR L = (⟨0, 0⟩, false)) := fun h => ratR_bad0 hP hP0 ht0 h
  have Hone : Hid (∀ h2 : P.length ≠ 2, ∀ h : pB t0 = true, ratR L = if ratioOk ⟨pV t0, 1⟩ = true ∧ ratioT ⟨pV t0, 1⟩ = L then (⟨pV t0, 1⟩, true) else (⟨0, 0⟩, false)) := fun h2 h => ratR_one hP hP0 h2 ht0 h
  have Htwo : Hid (∀ h2 : P.length = 2, ∀ t1, ∀ _ : P[1] = t1, ∀ h : pB t0 = true, ratR L = if pB t1 = true ∧ ratioOk ⟨pV t0, pV t1⟩ = true ∧ ratioT ⟨pV t0, pV t1⟩ = L then (⟨pV t0, pV t1⟩, true) else (⟨0, 0⟩, false)) := fun h2 t1 e h => ratR_two hP h2 ht0 e h
  have Hlong : Hid (∀ h : 2 < P.length, ratR L = (⟨0, 0⟩, false)) := fun h => ratR_long hP h
  have H0 := Lib.hid ht0
  rw [hL]
  clear hP hL ht0
  go_enter Tryd.func79, Tryd.ntmps79
  go_wp2_with fail
  refine (specSplitAny_any 47 s hs _).mono ?_
  rintro e w1 ⟨A, c, rfl, th, hx1⟩
  rw [HL.out, HP.out] at th
  rw [HL.out, HP.out]
  have hrow := th.row
  clear th
  replace b0 := b0.ext hx1
  replace hx := hx.trans hx1
  obtain ⟨b, off, rfl, hb, hc0⟩ := hrow.str (k := 0) hP0
  rw [H0.out] at hc0
  rw [Nat.add_zero] at hc0
  have HR := Lib.hid hrow
  clear hrow
  go_wp2_with fail
  refine (specParseInt_any (txt t0) hst _).mono ?_
  rintro e w2 ⟨rfl, hx2⟩
  rw [txt_list]
  have HR2 := Lib.hid (HR.out.ext hx2)
  replace b0 := b0.ext hx2
  replace hx := hx.trans hx2
  obtain ⟨n, hn⟩ : ∃ n, P.length = n := ⟨_, rfl⟩
  have hn0 := hP0
  rw [hn] at hPn hn0
  rw [hn]
  have HN := Lib.hid hn
  clear hn hc0
  obtain ⟨x, hxv⟩ : ∃ x, pV t0 = x := ⟨_, rfl⟩
  have hIx : I64 x := by rw [← hxv]; exact pV_bd _
  rw [hxv] at Hone Htwo ⊢
  clear hxv
  have c0 := fun o => b0.cell o
  have f0 := fun o => b0.frozen o
  have hlt := b0.lt
  by_cases h2 : n = 2
  · obtain ⟨t1, ht1⟩ : ∃ t, P[1]'(by rw [HN.out]; omega) = t := ⟨_, rfl⟩
    obtain ⟨b', off', hA1, hb1, hc1⟩ := HR2.out.str (k := 1) (by rw [HN.out]; omega)
    injection hA1 with hA1
    injection hA1 with q1 q2
    subst q1 q2
    rw [ht1] at hc1
    have hst1 : (txt t1).size ≤ 1048576 := by rw [txt_size, ← ht1]; exact HS.out 1 (by rw [HN.out]; omega)
    have HZ0 := Lib.hid (Htwo.out (by rw [HN.out]; exact h2) t1 ht1)
    clear ht1
    subst h2
    go_wp2_with fail
    refine (specParseInt_any (txt t1) hst1 _).mono ?_
    rintro e w3 ⟨rfl, hx3⟩
    rw [txt_list]
    replace b0 := b0.ext hx3
    replace hx := hx.trans hx3
    obtain ⟨y, hyv⟩ : ∃ y, pV t1 = y := ⟨_, rfl⟩
    have hIy : I64 y := by rw [← hyv]; exact pV_bd _
    rw [hyv] at HZ0 ⊢
    clear hyv hc1
    have c03 := fun o => b0.cell o
    have f03 := fun o => b0.frozen o
    by_cases hp : pB t0 = true
    rotate_left
    · have hp' : pB t0 = false := by simpa using hp
      have H := Lib.hid (Hbad.out hp')
      rw [hp']
      clear hp hp'
      have c0 := fun o => b0.cell o
      have f0 := fun o => b0.frozen o
      have hlt := b0.lt
      have hq := hx.size
      try simp only [World.size_alloc] at hq
      go_wp2
      have bF := (b0.set_ 0 (.int .i64 0)).set_ 1 (.int .i64 0)
      replace bF := bF.alloc (.cells #[.int .i64 x, .int .i64 y] 63)
      have cF := fun o => bF.cell o
      refine bodyPost_ret (v := .tuple #[.agg #[.int .i64 0, .int .i64 0], .bool false]) (by simp [results, Tryd.results79, go_sem, cF]) rfl ⟨by rw [H.out], ?_⟩
      exact ((hx.setCell (by first | omega | (simp <;> omega)) _).setCell (by first | omega | (simp <;> omega)) _).alloc _
    replace HZ0 := Lib.hid (HZ0.out hp)
    rw [hp]
    clear hp
    by_cases hp1 : pB t1 = true
    rotate_left
    · have hp1' : pB t1 = false := by simpa using hp1
      have H := Lib.hid (HZ0.out.trans (if_neg (fun e => hp1 e.1)))
      rw [hp1']
      clear hp1 hp1' HZ0
      have c0 := fun o => b0.cell o
      have f0 := fun o => b0.frozen o
      have hlt := b0.lt
      have hq := hx.size
      try simp only [World.size_alloc] at hq
      go_wp2
      have bF := (b0.set_ 0 (.int .i64 0)).set_ 1 (.int .i64 0)
      replace bF := bF.alloc (.cells #[.int .i64 x, .int .i64 y] 63)
      have cF := fun o => bF.cell o
      refine bodyPost_ret (v := .tuple #[.agg #[.int .i64 0, .int .i64 0], .bool false]) (by simp [results, Tryd.results79, go_sem, cF]) rfl ⟨by rw [H.out], ?_⟩
      exact ((hx.setCell (by first | omega | (simp <;> omega)) _).setCell (by first | omega | (simp <;> omega)) _).alloc _
    have bH := Blk.new w3 63 #[.int .i64 x, .int .i64 y]
    replace b0 := b0.alloc (.cells #[.int .i64 x, .int .i64 y] 63)
    replace hx := hx.alloc (.cells #[.int .i64 x, .int .i64 y] 63)
    have HZ : Hid (ratR L = if ratioOk ⟨x, y⟩ = true ∧ ratioT ⟨x, y⟩ = L then (⟨x, y⟩, true) else (⟨0, 0⟩, false)) := by
      have h9 := HZ0.out
      simp only [hp1, true_and] at h9
      exact h9
    rw [hp1]
    clear hp1 HZ0
    have cH2 := fun o => bH.cell o
    go_wp2_with fail
    refine (specFormatRatio_any x y _ hIx hIy).mono ?_
    rintro e w8 ⟨rfl, hx8⟩
    replace b0 := b0.ext hx8
    replace bH := bH.ext hx8
    replace hx := hx.trans hx8
    have cH8 := fun o => bH.cell o
    by_cases hc : ratioT ⟨x, y⟩ = L
    rotate_left
    · have hcm : ((txt (ratioT ⟨x, y⟩)).toList == s.toList) = false := by rw [txt_same, HL.out, decide_eq_false_iff_not]; exact hc
      have H := Lib.hid (HZ.out.trans (if_neg (fun e => hc e.2)))
      clear hc HZ
      have c0 := fun o => b0.cell o
      have f0 := fun o => b0.frozen o
      have hlt := b0.lt
      have hq := hx.size
      try simp only [World.size_alloc] at hq
      go_wp2
      have bF := (b0.set_ 0 (.int .i64 0)).set_ 1 (.int .i64 0)
      have cF := fun o => bF.cell o
      refine bodyPost_ret (v := .tuple #[.agg #[.int .i64 0, .int .i64 0], .bool false]) (by simp [results, Tryd.results79, go_sem, cF]) rfl ⟨by rw [H.out], ?_⟩
      exact (hx.setCell (by first | omega | (simp <;> omega)) _).setCell (by first | omega | (simp <;> omega)) _
    have hcm : ((txt (ratioT ⟨x, y⟩)).toList == s.toList) = true := by rw [txt_same, HL.out, decide_eq_true_eq]; exact hc
    have HC9 := Lib.hid hc
    clear hc
    go_wp2_with fail
    refine (specRatioOk_any x y _ hIx hIy).mono ?_
    rintro e w7 ⟨rfl, hx7⟩
    replace b0 := b0.ext hx7
    replace bH := bH.ext hx7
    replace hx := hx.trans hx7
    have cH7 := fun o => bH.cell o
    by_cases hr : ratioOk ⟨x, y⟩ = true
    rotate_left
    · have hr' : ratioOk ⟨x, y⟩ = false := by simpa using hr
      have H := Lib.hid (HZ.out.trans (if_neg (fun e => hr e.1)))
      rw [hr']
      clear hr hr' HZ
      have c0 := fun o => b0.cell o
      have f0 := fun o => b0.frozen o
      have hlt := b0.lt
      have hq := hx.size
      try simp only [World.size_alloc] at hq
      go_wp2
      have bF := (b0.set_ 0 (.int .i64 0)).set_ 1 (.int .i64 0)
      have cF := fun o => bF.cell o
      refine bodyPost_ret (v := .tuple #[.agg #[.int .i64 0, .int .i64 0], .bool false]) (by simp [results, Tryd.results79, go_sem, cF]) rfl ⟨by rw [H.out], ?_⟩
      exact (hx.setCell (by first | omega | (simp <;> omega)) _).setCell (by first | omega | (simp <;> omega)) _
    rw [hr]
    have HR9 := Lib.hid hr
    clear hr
    have H := Lib.hid (HZ.out.trans (if_pos ⟨HR9.out, HC9.out⟩))
    have c0 := fun o => b0.cell o
    have f0 := fun o => b0.frozen o
    have hlt := b0.lt
    have hq := hx.size
    try simp only [World.size_alloc] at hq
    go_wp2
    have bF := (b0.set_ 0 (.int .i64 x)).set_ 1 (.int .i64 y)
    have cF := fun o => bF.cell o
    refine bodyPost_ret (v := .tuple #[.agg #[.int .i64 x, .int .i64 y], .bool true]) (by simp [results, Tryd.results79, go_sem, cF]) rfl ⟨by rw [H.out], ?_⟩
    exact (hx.setCell (by first | omega | (simp <;> omega)) _).setCell (by first | omega | (simp <;> omega)) _
  have h2' : ((n : Int) == 2) = false := by rw [beq_eq_false_iff_ne]; omega
  have hIy : I64 (1 : Int) := ⟨by decide, by decide⟩
  by_cases hp : pB t0 = true
  rotate_left
  · have hp' : pB t0 = false := by simpa using hp
    have H := Lib.hid (Hbad.out hp')
    rw [hp']
    clear hp hp'
    have c0 := fun o => b0.cell o
    have f0 := fun o => b0.frozen o
    have hlt := b0.lt
    have hq := hx.size
    try simp only [World.size_alloc] at hq
    go_wp2
    have bF := (b0.set_ 0 (.int .i64 0)).set_ 1 (.int .i64 0)
    replace bF := bF.alloc (.cells #[.int .i64 x, .int .i64 1] 63)
    have cF := fun o => bF.cell o
    refine bodyPost_ret (v := .tuple #[.agg #[.int .i64 0, .int .i64 0], .bool false]) (by simp [results, Tryd.results79, go_sem, cF]) rfl ⟨by rw [H.out], ?_⟩
    exact ((hx.setCell (by first | omega | (simp <;> omega)) _).setCell (by first | omega | (simp <;> omega)) _).alloc _
  have HZ := Lib.hid (Hone.out (by rw [HN.out]; exact h2) hp)
  rw [hp]
  clear hp
  by_cases h3 : 2 < n
  · have h3' : (2 : Int) < (n : Int) := by omega
    have H := Lib.hid (Hlong.out (by rw [HN.out]; exact h3))
    clear HZ
    have c0 := fun o => b0.cell o
    have f0 := fun o => b0.frozen o
    have hlt := b0.lt
    have hq := hx.size
    try simp only [World.size_alloc] at hq
    go_wp2
    have bF := (b0.set_ 0 (.int .i64 0)).set_ 1 (.int .i64 0)
    replace bF := bF.alloc (.cells #[.int .i64 x, .int .i64 1] 63)
    have cF := fun o => bF.cell o
    refine bodyPost_ret (v := .tuple #[.agg #[.int .i64 0, .int .i64 0], .bool false]) (by simp [results, Tryd.results79, go_sem, cF]) rfl ⟨by rw [H.out], ?_⟩
    exact ((hx.setCell (by first | omega | (simp <;> omega)) _).setCell (by first | omega | (simp <;> omega)) _).alloc _
  have h3' : ¬ (2 : Int) < (n : Int) := by omega
  have bH := Blk.new w2 63 #[.int .i64 x, .int .i64 1]
  replace b0 := b0.alloc (.cells #[.int .i64 x, .int .i64 1] 63)
  replace hx := hx.alloc (.cells #[.int .i64 x, .int .i64 1] 63)
  have cH := fun o => bH.cell o
  go_wp2_with fail
  refine (specFormatRatio_any x 1 _ hIx hIy).mono ?_
  rintro e w8 ⟨rfl, hx8⟩
  replace b0 := b0.ext hx8
  replace bH := bH.ext hx8
  replace hx := hx.trans hx8
  have cH8 := fun o => bH.cell o
  by_cases hc : ratioT ⟨x, 1⟩ = L
  rotate_left
  · have hcm : ((txt (ratioT ⟨x, 1⟩)).toList == s.toList) = false := by rw [txt_same, HL.out, decide_eq_false_iff_not]; exact hc
    have H := Lib.hid (HZ.out.trans (if_neg (fun e => hc e.2)))
    clear hc HZ
    have c0 := fun o => b0.cell o
    have f0 := fun o => b0.frozen o
    have hlt := b0.lt
    have hq := hx.size
    try simp only [World.size_alloc] at hq
    go_wp2
    have bF := (b0.set_ 0 (.int .i64 0)).set_ 1 (.int .i64 0)
    have cF := fun o => bF.cell o
    refine bodyPost_ret (v := .tuple #[.agg #[.int .i64 0, .int .i64 0], .bool false]) (by simp [results, Tryd.results79, go_sem, cF]) rfl ⟨by rw [H.out], ?_⟩
    exact (hx.setCell (by first | omega | (simp <;> omega)) _).setCell (by first | omega | (simp <;> omega)) _
  have hcm : ((txt (ratioT ⟨x, 1⟩)).toList == s.toList) = true := by rw [txt_same, HL.out, decide_eq_true_eq]; exact hc
  have HC9 := Lib.hid hc
  clear hc
  go_wp2_with fail
  refine (specRatioOk_any x 1 _ hIx hIy).mono ?_
  rintro e w7 ⟨rfl, hx7⟩
  replace b0 := b0.ext hx7
  replace bH := bH.ext hx7
  replace hx := hx.trans hx7
  have cH7 := fun o => bH.cell o
  by_cases hr : ratioOk ⟨x, 1⟩ = true
  rotate_left
  · have hr' : ratioOk ⟨x, 1⟩ = false := by simpa using hr
    have H := Lib.hid (HZ.out.trans (if_neg (fun e => hr e.1)))
    rw [hr']
    clear hr hr' HZ
    have c0 := fun o => b0.cell o
    have f0 := fun o => b0.frozen o
    have hlt := b0.lt
    have hq := hx.size
    try simp only [World.size_alloc] at hq
    go_wp2
    have bF := (b0.set_ 0 (.int .i64 0)).set_ 1 (.int .i64 0)
    have cF := fun o => bF.cell o
    refine bodyPost_ret (v := .tuple #[.agg #[.int .i64 0, .int .i64 0], .bool false]) (by simp [results, Tryd.results79, go_sem, cF]) rfl ⟨by rw [H.out], ?_⟩
    exact (hx.setCell (by first | omega | (simp <;> omega)) _).setCell (by first | omega | (simp <;> omega)) _
  rw [hr]
  have HR9 := Lib.hid hr
  clear hr
  have H := Lib.hid (HZ.out.trans (if_pos ⟨HR9.out, HC9.out⟩))
  have c0 := fun o => b0.cell o
  have f0 := fun o => b0.frozen o
  have hlt := b0.lt
  have hq := hx.size
  try simp only [World.size_alloc] at hq
  go_wp2
  have bF := (b0.set_ 0 (.int .i64 x)).set_ 1 (.int .i64 1)
  have cF := fun o => bF.cell o
  refine bodyPost_ret (v := .tuple #[.agg #[.int .i64 x, .int .i64 1], .bool true]) (by simp [results, Tryd.results79, go_sem, cF]) rfl ⟨by rw [H.out], ?_⟩
  exact (hx.setCell (by first | omega | (simp <;> omega)) _).setCell (by first | omega | (simp <;> omega)) _
end Go.Proofs.YtlgkfjhbimffiaaDoor
