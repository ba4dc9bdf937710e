/- Contracts of the program's isEdge and of the marks that it keeps. -/
import Derived.Test.YtjghabbcjpfjeaaGreatDoorHo
import Derived.Test.YtjghabbcjpfjeaaGreatDoorPz
import Derived.Test.YtjghabbcjpfjeaaGreatDoorQC
import Derived.Test.YtjghabbcjpfjeaaGreatDoorHz
namespace Go.Proofs.YtjghabbcjpfjeaaGreatDoor
open Go.ChangeShapes Go.WideShapes Go.ChangeAt Go.RowKit
set_option linter.unusedVariables false
set_option maxRecDepth 100000
attribute [local go_sem ↓] Go.wp_at_zero Go.wp_at_succ

theorem Only.set3 {g : Nat} {a b : World} (h : Only (some g) a b) (u v x : Value) : Only (some g) a (((b.setCell ⟨g, 0, none⟩ u).setCell ⟨g, 1, none⟩ v).setCell ⟨g, 2, none⟩ x) := ((h.set 0 u).set 1 v).set 2 x
set_option maxHeartbeats 2000000 in
theorem narrow_any (g : Nat) (m : Mark) (n d : Int) (later : Bool) (w : World) (hb : Blk w g 186 #[.int .i64 m.n, .int .i64 m.d, .bool m.is]) (hn : I64 n) (hd : I64 d) (hmn : I64 m.n) (hmd : I64 m.d) (hd0 : 0 < d) (hm0 : m.is = true → 0 < m.d) :
    Calls Tryz.prog 154 #[.pointer (some ⟨g, 0, none⟩), .int .i64 n, .int .i64 d, .bool later] w fun e w' => e = .returned (.tuple #[]) ∧ Blk w' g 186 #[.int .i64 (narrowM m n d later).n, .int .i64 (narrowM m n d later).d, .bool (narrowM m n d later).is] ∧ Only (some g) w w' := by
  have hlt := hb.lt
  have cB := fun o => hb.cell o
  have fB := fun o => hb.frozen o
  cases hi : m.is
  · have H : Hid (narrowM m n d later = ⟨n, d, true⟩) := if_neg (by rw [hi]; simp)
    rw [hi] at cB
    have HI := Lib.hid hi
    clear hi hm0
    go_enter Tryz.func154, Tryz.ntmps154
    go_wp2
    go_end0
    refine ⟨rfl, ?_, (Only.refl _ _).set3 _ _ _⟩
    rw [H.out]
    simpa [HI.out] using ((hb.set_ 0 (.int .i64 n)).set_ 1 (.int .i64 d)).set_ 2 (.bool true)
  · have hC := Lib.hid (fun w => compareFractions_any n d m.n m.d w hn hd hmn hmd hd0 (hm0 hi))
    have HD := Lib.hid (show narrowM m n d later = if m.is = true ∧ ((later = true ∧ cmpI (n * m.d) (m.n * d) ≤ 0) ∨ (later = false ∧ 0 ≤ cmpI (n * m.d) (m.n * d))) then m else ⟨n, d, true⟩ from rfl)
    rw [hi] at cB HD
    have HI := Lib.hid hi
    clear hi hm0
    obtain ⟨c, hc⟩ : ∃ c, cmpI (n * m.d) (m.n * d) = c := ⟨_, rfl⟩
    rw [hc] at hC HD
    clear hc hn hd hmn hmd hd0
    cases later
    · by_cases h0 : 0 ≤ c
      · have H : Hid (narrowM m n d false = m) := by unfold Hid; rw [HD.out]; exact if_pos ⟨rfl, .inr ⟨rfl, h0⟩⟩
        clear HD
        go_enter Tryz.func154, Tryz.ntmps154
        go_wp2_with fail
        go_quiet ((go_at_call 69; exact Calls.quiet_of_same ((hC.out _).mono fun _ _ ⟨h1, h2⟩ => ⟨h1, h2.symm⟩)))
        go_wp2
        refine bodyPost_ret (v := .tuple #[]) (by simp [results, Tryz.results154, go_sem]) rfl ⟨rfl, ?_, (Only.refl _ _).drewN _⟩
        rw [H.out]
        exact hb.drewN _
      · have H : Hid (narrowM m n d false = ⟨n, d, true⟩) := by unfold Hid; rw [HD.out]; exact if_neg (by simp; omega)
        clear HD
        go_enter Tryz.func154, Tryz.ntmps154
        go_wp2_with fail
        go_quiet ((go_at_call 69; exact Calls.quiet_of_same ((hC.out _).mono fun _ _ ⟨h1, h2⟩ => ⟨h1, h2.symm⟩)))
        go_wp2
        go_end0
        refine ⟨rfl, ?_, ((Only.refl _ _).drewN _).set3 _ _ _⟩
        rw [H.out]
        simpa [HI.out] using (((hb.drewN _).set_ 0 (.int .i64 n)).set_ 1 (.int .i64 d)).set_ 2 (.bool true)
    · by_cases h0 : c ≤ 0
      · have H : Hid (narrowM m n d true = m) := by unfold Hid; rw [HD.out]; exact if_pos ⟨rfl, .inl ⟨rfl, h0⟩⟩
        clear HD
        go_enter Tryz.func154, Tryz.ntmps154
        go_wp2_with fail
        go_quiet ((go_at_call 69; exact Calls.quiet_of_same ((hC.out _).mono fun _ _ ⟨h1, h2⟩ => ⟨h1, h2.symm⟩)))
        go_wp2
        refine bodyPost_ret (v := .tuple #[]) (by simp [results, Tryz.results154, go_sem]) rfl ⟨rfl, ?_, (Only.refl _ _).drewN _⟩
        rw [H.out]
        exact hb.drewN _
      · have H : Hid (narrowM m n d true = ⟨n, d, true⟩) := by unfold Hid; rw [HD.out]; exact if_neg (by simp; omega)
        clear HD
        go_enter Tryz.func154, Tryz.ntmps154
        go_wp2_with fail
        go_quiet ((go_at_call 69; exact Calls.quiet_of_same ((hC.out _).mono fun _ _ ⟨h1, h2⟩ => ⟨h1, h2.symm⟩)))
        go_wp2
        go_end0
        refine ⟨rfl, ?_, ((Only.refl _ _).drewN _).set3 _ _ _⟩
        rw [H.out]
        simpa [HI.out] using (((hb.drewN _).set_ 0 (.int .i64 n)).set_ 1 (.int .i64 d)).set_ 2 (.bool true)

theorem take_next {α : Type} {l : List α} {k : Nat} (h : k < l.length) : l.take (k + 1) = l.take k ++ [l[k]] := List.take_succ_eq_append_getElem h
def MarkI (m : Mark) : Prop := I64 m.n ∧ I64 m.d
theorem MarkI.narrow {m : Mark} (h : MarkI m) {n d : Int} (hn : I64 n) (hd : I64 d) (later : Bool) : MarkI (narrowM m n d later) := by
  unfold narrowM
  split
  · exact h
  · exact ⟨hn, hd⟩
theorem ret_bb {a b a' b' : Bool} (h1 : a = a') (h2 : b = b') : Ending.returned (.tuple #[.bool a, .bool b]) = .returned (.tuple #[.bool a', .bool b']) := by rw [h1, h2]
theorem allN_step {p : Nat → Bool} {k : Nat} (h : allN p k = true) (hp : p k = true) : allN p (k + 1) = true := by unfold allN; rw [h, hp]; rfl

theorem Blk.only_ {w w' : World} {g k : Nat} {t : TypeId} {cs : Array Value} (h : Blk w k t cs) (ho : Only (some g) w w') (hne : k ≠ g) : Blk w' k t cs :=
  (ho.block k h.lt (fun e => hne (by injection e))).trans h
set_option maxHeartbeats 8000000 in
theorem isEdge_any (A : Option Addr) (n c k : Nat) (S : List Half) (w : World) (hn : S.length = n) (hr : Row w A (ints (flat Half.ints S))) (hle : n ≤ 1048576) (hk : k < n) (hok : ∀ x ∈ S, halfOk x = true) (hS : Good S) :
    Calls Tryz.prog 129 #[.slice A n c, .int .i64 k] w fun e w' => e = .returned (.tuple #[.bool (edgeE S k), .bool (edgeV S k)]) ∧ Ext w w' := by
  have HR := Lib.hid hr
  have HN := Lib.hid hn
  have hkS : k < S.length := by omega
  have HSm : Hid (∀ i (hi : i < S.length), SmallH S[i]) := fun i hi => small_ok (hok _ (List.getElem_mem hi))
  have HRi : Hid (∀ i (hi : i < S.length), roomAt S k i = (decide (i = k) || decide (cross (S[k]'hkS) S[i] ≠ 0) || decide (0 < room S[i] (S[k]'hkS)))) := fun i hi => roomAt_iff (by omega) hi
  have HE : Hid (∀ F T, Best true (S[k]'hkS) S F → Best false (S[k]'hkS) S T → (F.is && T.is && decide (cmpI (F.n * T.d) (T.n * F.d) < 0)) = edgeFb S (S[k]'hkS)) := fun F T hF hT => edge_of_best hS (List.getElem_mem _) hF hT
  have HIF : Hid (∀ F, Best true (S[k]'hkS) S F → F.is = true) := fun F hF => hF.is_lo hS (List.getElem_mem _)
  have HIT : Hid (∀ F, Best false (S[k]'hkS) S F → F.is = true) := fun F hF => hF.is_hi hS (List.getElem_mem _)
  have HGd : Hid (S.getD k ⟨0, 0, 0⟩ = S[k]'hkS) := getD_at (by omega)
  obtain ⟨b, off, rfl, hb, k0, k1, k2⟩ := hr.Half (k := k) (by omega)
  have sH := HSm.out k (by omega)
  obtain ⟨h, hh⟩ : ∃ h, S[k]'hkS = h := ⟨_, rfl⟩
  rw [hh] at k0 k1 k2 sH HE HIF HIT HGd
  simp only [hh] at HRi
  have Hh := Lib.hid hh
  clear hh hr hn hok hS
  have hkl : (k : Int) < (n : Int) := by omega
  have hx : Ext w (((w.alloc (.cells #[.int .i64 h.A, .int .i64 h.B, .int .i64 h.C] 120)).alloc (.cells #[.int .i64 0, .int .i64 0, .bool false] 186)).alloc (.cells #[.int .i64 0, .int .i64 0, .bool false] 186)) := (((Ext.refl w).alloc _).alloc _).alloc _
  have bH := ((Blk.new w 120 #[.int .i64 h.A, .int .i64 h.B, .int .i64 h.C]).alloc (.cells #[.int .i64 0, .int .i64 0, .bool false] 186)).alloc (.cells #[.int .i64 0, .int .i64 0, .bool false] 186)
  have bF := (Blk.new (w.alloc (.cells #[.int .i64 h.A, .int .i64 h.B, .int .i64 h.C] 120)) 186 #[.int .i64 0, .int .i64 0, .bool false]).alloc (.cells #[.int .i64 0, .int .i64 0, .bool false] 186)
  have bT := Blk.new ((w.alloc (.cells #[.int .i64 h.A, .int .i64 h.B, .int .i64 h.C] 120)).alloc (.cells #[.int .i64 0, .int .i64 0, .bool false] 186)) 186 #[.int .i64 0, .int .i64 0, .bool false]
  simp only [World.size_alloc] at bF bT
  have Hs := Lib.hid (And.intro hx (And.intro bH (And.intro bF bT)))
  clear hx bH bF bT
  go_enter Tryz.func129, Tryz.ntmps129
  go_wp2
  clear k0 k1 k2
  go_loopw [23] (fun i wr => ∃ (m : Nat) (F T : Mark), m ≤ n ∧ i = .int .i64 m ∧ Ext w wr ∧ Blk wr w.heap.size 120 #[.int .i64 h.A, .int .i64 h.B, .int .i64 h.C] ∧ Blk wr (w.heap.size + 1) 186 #[.int .i64 F.n, .int .i64 F.d, .bool F.is] ∧ Blk wr (w.heap.size + 1 + 1) 186 #[.int .i64 T.n, .int .i64 T.d, .bool T.is] ∧ Best true h (S.take m) F ∧ Best false h (S.take m) T ∧ MarkI F ∧ MarkI T ∧ allN (roomAt S k) m = true) (fun i _ => n - (intOf i).toNat)
  case atStart => exact ⟨0, ⟨0, 0, false⟩, ⟨0, 0, false⟩, Nat.zero_le _, rfl, Hs.out.1, Hs.out.2.1, Hs.out.2.2.1, Hs.out.2.2.2, Best.nil _ _, Best.nil _ _, ⟨⟨by decide, by decide⟩, by decide, by decide⟩, ⟨⟨by decide, by decide⟩, by decide, by decide⟩, rfl⟩
  case round =>
    obtain ⟨m, F, T, hm, rfl, hx, bH, bF, bT, hF, hT, hiF, hiT, hall⟩ := hrel
    have Hall := Lib.hid hall
    have HBF := Lib.hid hF
    have HBT := Lib.hid hT
    have HiF := Lib.hid hiF
    have HiT := Lib.hid hiT
    clear hall hF hT hiF hiT
    have ltH := bH.lt
    have ltF := bF.lt
    have ltT := bT.lt
    by_cases hlt : m < n
    rotate_left
    · obtain rfl : m = n := by omega
      have htk : S.take m = S := List.take_of_length_le (by rw [HN.out]; omega)
      rw [htk] at HBF HBT
      have hFi := HIF.out F HBF.out
      have hTi := HIT.out T HBT.out
      have hFd := HBF.out.pos hFi
      have hTd := HBT.out.pos hTi
      have hA := Hall.out
      obtain ⟨g1, g2⟩ := edge_good (S := S) (k := k) (by rw [HN.out]; exact hA)
      have HV := Lib.hid g1
      have HE2 : Hid (edgeE S k = decide (cmpI (F.n * T.d) (T.n * F.d) < 0)) := by
        unfold Hid
        rw [g2, HGd.out, ← HE.out F T HBF.out HBT.out, hFi, hTi]
        rfl
      have hC := Lib.hid (fun w => compareFractions_any F.n F.d T.n T.d w HiF.out.1 HiF.out.2 HiT.out.1 HiT.out.2 hFd hTd)
      rw [hFi] at bF
      rw [hTi] at bT
      clear g1 g2 hA hFi hTi htk
      have cF := fun o => bF.cell o
      have cT := fun o => bT.cell o
      go_wp2_with fail
      refine (hC.out _).mono ?_
      rintro e w' ⟨rfl, rfl⟩
      go_wp2
      go_ret2
      exact ⟨ret_bb HE2.out.symm HV.out.symm, hx⟩
    have hml : m < S.length := by rw [HN.out]; exact hlt
    obtain ⟨b', off', hA, hb', c0, c1, c2⟩ := (HR.out.ext hx).Half (k := m) hml
    injection hA with hA
    injection hA with e1 e2
    subst e1
    subst e2
    have sG := HSm.out m hml
    have HRm := Lib.hid (HRi.out m hml)
    have Htk := Lib.hid (take_next hml)
    obtain ⟨g, hg⟩ : ∃ g, S[m]'hml = g := ⟨_, rfl⟩
    rw [hg] at c0 c1 c2 sG HRm Htk
    have Hg := Lib.hid hg
    clear hg
    have hx1 := hx.alloc (.cells #[.int .i64 g.A, .int .i64 g.B, .int .i64 g.C] 120)
    have bG := Blk.new wr 120 #[.int .i64 g.A, .int .i64 g.B, .int .i64 g.C]
    replace bH := bH.alloc (.cells #[.int .i64 g.A, .int .i64 g.B, .int .i64 g.C] 120)
    replace bF := bF.alloc (.cells #[.int .i64 g.A, .int .i64 g.B, .int .i64 g.C] 120)
    replace bT := bT.alloc (.cells #[.int .i64 g.A, .int .i64 g.B, .int .i64 g.C] 120)
    by_cases hmk : m = k
    · obtain rfl := hmk
      have hRk : roomAt S m m = true := by rw [HRm.out]; simp
      have HRk := Lib.hid hRk
      have hgh : g = h := Hg.out.symm.trans Hh.out
      have HC0 : Hid (cross h g = 0) := by unfold Hid; rw [hgh, cross_self]
      clear hRk hgh
      go_wp2
      go_roundw
      case rel =>
        refine ⟨m + 1, F, T, by omega, by go_num, hx1, bH, bF, bT, ?_, ?_, HiF.out, HiT.out, allN_step Hall.out HRk.out⟩
        · rw [Htk.out]; exact HBF.out.skip (fun hs => onSide_ne hs HC0.out)
        · rw [Htk.out]; exact HBT.out.skip (fun hs => onSide_ne hs HC0.out)
      case measure => simp [intOf]; omega
    have hne : ((m : Int) == (k : Int)) = false := by rw [beq_eq_false_iff_ne]; omega
    have Hmk := Lib.hid hmk
    clear hmk
    have hCr := Lib.hid (fun w => cross_any h g w sH sG)
    obtain ⟨q1, q2⟩ := cross_bd sH sG
    have HCr := Lib.hid (fun w => crossing_any h g w sH sG)
    have HLr := Lib.hid (fun w => leavesRoom_any g h w sG sH)
    obtain ⟨⟨x1, x2⟩, ⟨y1, y2⟩, d1, d2⟩ := pt_bd sH sG
    obtain ⟨p1, p2⟩ := prod_bd sH.a ⟨y1, y2⟩ rfl
    obtain ⟨p3, p4⟩ := prod_bd sH.b ⟨x1, x2⟩ rfl
    have HFN := Lib.hid (frN_pt h g)
    have hFb := fr_bd sH sG
    have HIn : Hid (I64 (frN h g) ∧ I64 (frD h g)) := ⟨⟨by omega, by omega⟩, by omega, by omega⟩
    clear hFb
    have Hlo : Hid (∀ _ : cross h g < 0, onSide true h g ∧ ¬ onSide false h g ∧ 0 < frD h g) := fun hc => ⟨hc, by unfold onSide; simp; omega, frD_pos (by omega)⟩
    have Hhi : Hid (∀ _ : 0 < cross h g, onSide false h g ∧ ¬ onSide true h g ∧ 0 < frD h g) := fun hc => ⟨by unfold onSide; simpa using hc, by unfold onSide; simp; omega, frD_pos (by omega)⟩
    have Hze : Hid (∀ _ : cross h g = 0, ¬ onSide true h g ∧ ¬ onSide false h g) := fun hc => ⟨fun hs => onSide_ne hs hc, fun hs => onSide_ne hs hc⟩
    obtain ⟨d, hd⟩ : ∃ d, cross h g = d := ⟨_, rfl⟩
    simp only [hd] at hCr HCr HRm q1 q2 Hlo Hhi Hze
    clear hd
    obtain ⟨px, hpx⟩ : ∃ d, ptX h g = d := ⟨_, rfl⟩
    obtain ⟨py, hpy⟩ : ∃ d, ptY h g = d := ⟨_, rfl⟩
    obtain ⟨pd, hpd⟩ : ∃ d, frD h g = d := ⟨_, rfl⟩
    simp only [hpx, hpy] at HCr HFN p1 p2 p3 p4
    simp only [hpd] at HCr d1 d2 HIn Hlo Hhi
    have Hpd := Lib.hid hpd
    clear hpx hpy hpd x1 x2 y1 y2 sH sG
    have cbH_1 := fun o => bH.cell o
    have cbF_2 := fun o => bF.cell o
    have cbT_3 := fun o => bT.cell o
    have cbG_4 := fun o => bG.cell o
    go_wp2_with fail
    refine (hCr.out _).mono ?_
    rintro e w1 ⟨rfl, hy1⟩
    replace hx1 := hx1.trans hy1
    replace bH := bH.ext hy1
    replace bF := bF.ext hy1
    replace bT := bT.ext hy1
    replace bG := bG.ext hy1
    have cbH_5 := fun o => bH.cell o
    have cbF_6 := fun o => bF.cell o
    have cbT_7 := fun o => bT.cell o
    have cbG_8 := fun o => bG.cell o
    by_cases h0 : d = 0
    · have hd0 : (d == 0) = true := by simpa using h0
      obtain ⟨z1, z2⟩ := Hze.out h0
      have HZ := Lib.hid (And.intro z1 z2)
      have HR0 : Hid (roomAt S k m = decide (0 < room g h)) := by unfold Hid; rw [HRm.out, h0, decide_eq_false Hmk.out]; simp
      clear h0 z1 z2
      go_wp2_with fail
      refine (HLr.out _).mono ?_
      rintro e w2 ⟨rfl, hy2⟩
      replace hx1 := hx1.trans hy2
      replace bH := bH.ext hy2
      replace bF := bF.ext hy2
      replace bT := bT.ext hy2
      replace bG := bG.ext hy2
      have cbH_9 := fun o => bH.cell o
      have cbF_10 := fun o => bF.cell o
      have cbT_11 := fun o => bT.cell o
      have cbG_12 := fun o => bG.cell o
      by_cases hr : 0 < room g h
      · have hrb : decide (0 < room g h) = true := decide_eq_true hr
        rw [hrb] at HR0
        rw [hrb]
        clear hr hrb
        go_wp2
        go_roundw
        case rel =>
          refine ⟨m + 1, F, T, by omega, by go_num, hx1, bH, bF, bT, ?_, ?_, HiF.out, HiT.out, allN_step Hall.out HR0.out⟩
          · rw [Htk.out]; exact HBF.out.skip HZ.out.1
          · rw [Htk.out]; exact HBT.out.skip HZ.out.2
        case measure => simp [intOf]; omega
      · have hrb : decide (0 < room g h) = false := decide_eq_false hr
        rw [hrb] at HR0
        rw [hrb]
        obtain ⟨g1, g2⟩ := edge_bad hml HR0.out
        have HV := Lib.hid (And.intro g1 g2)
        clear hr hrb g1 g2
        go_wp2
        go_ret2
        exact ⟨ret_bb HV.out.2.symm HV.out.1.symm, hx1⟩
    have hd0 : (d == 0) = false := by simpa using h0
    have HR0 : Hid (roomAt S k m = true) := by unfold Hid; rw [HRm.out]; simp [h0]
    go_wp2_with fail
    refine (HCr.out _).mono ?_
    rintro e w2 ⟨rfl, hy2⟩
    replace hx1 := hx1.trans hy2
    replace bH := bH.ext hy2
    replace bF := bF.ext hy2
    replace bT := bT.ext hy2
    replace bG := bG.ext hy2
    have cbH_13 := fun o => bH.cell o
    have cbF_14 := fun o => bF.cell o
    have cbT_15 := fun o => bT.cell o
    have cbG_16 := fun o => bG.cell o
    have ltH2 := bH.lt
    have ltT2 := bT.lt
    by_cases hp : 0 < d
    · obtain ⟨z1, z2, z3⟩ := Hhi.out hp
      have HZ := Lib.hid (And.intro z1 z2)
      have HI2 := Lib.hid HIn.out.1
      rw [← HFN.out] at HI2
      have hm0 := Lib.hid (fun (hi : T.is = true) => HBT.out.pos hi)
      clear z1 z2
      go_wp2_with fail
      refine (narrow_any (w.heap.size + 1 + 1) T (h.A * py - h.B * px) pd false _ bT HI2.out HIn.out.2 HiT.out.1 HiT.out.2 z3 hm0.out).mono ?_
      rintro e w3 ⟨rfl, bT', hon⟩
      rw [HFN.out] at bT' HI2
      replace bT := bT'
      replace bH := bH.only_ hon (by omega)
      replace bF := bF.only_ hon (by omega)
      replace hx1 := hx1.only hon (fun g' e => by injection e with e; omega)
      clear bT' hon
      go_wp2
      go_roundw
      case rel =>
        refine ⟨m + 1, F, narrowM T (frN h g) pd false, by omega, by go_num, hx1, bH, bF, bT, ?_, ?_, HiF.out, HiT.out.narrow HI2.out HIn.out.2 _, allN_step Hall.out HR0.out⟩
        · rw [Htk.out]; exact HBF.out.skip HZ.out.2
        · rw [Htk.out, ← Hpd.out]; exact HBT.out.narrow HZ.out.1
      case measure => simp [intOf]; omega
    · obtain ⟨z1, z2, z3⟩ := Hlo.out (by omega)
      have HZ := Lib.hid (And.intro z1 z2)
      have HI2 := Lib.hid HIn.out.1
      rw [← HFN.out] at HI2
      have hm0 := Lib.hid (fun (hi : F.is = true) => HBF.out.pos hi)
      clear z1 z2
      go_wp2_with fail
      refine (narrow_any (w.heap.size + 1) F (h.A * py - h.B * px) pd true _ bF HI2.out HIn.out.2 HiF.out.1 HiF.out.2 z3 hm0.out).mono ?_
      rintro e w3 ⟨rfl, bF', hon⟩
      rw [HFN.out] at bF' HI2
      replace bF := bF'
      replace bH := bH.only_ hon (by omega)
      replace bT := bT.only_ hon (by omega)
      replace hx1 := hx1.only hon (fun g' e => by injection e with e; omega)
      clear bF' hon
      go_wp2
      go_roundw
      case rel =>
        refine ⟨m + 1, narrowM F (frN h g) pd true, T, by omega, by go_num, hx1, bH, bF, bT, ?_, ?_, HiF.out.narrow HI2.out HIn.out.2 _, HiT.out, allN_step Hall.out HR0.out⟩
        · rw [Htk.out, ← Hpd.out]; exact HBF.out.narrow HZ.out.1
        · rw [Htk.out]; exact HBT.out.skip HZ.out.2
      case measure => simp [intOf]; omega
end Go.Proofs.YtjghabbcjpfjeaaGreatDoor
