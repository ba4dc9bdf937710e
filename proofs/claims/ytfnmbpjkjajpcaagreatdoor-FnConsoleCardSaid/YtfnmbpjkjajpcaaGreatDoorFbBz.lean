/- Contracts of the program's isEdge and of the marks that it keeps. -/
import Derived.Test.YtfnmbpjkjajpcaaGreatDoorFbJz
import Derived.Test.YtfnmbpjkjajpcaaGreatDoorFbPz
import Derived.Test.YtfnmbpjkjajpcaaGreatDoorFbQC
import Derived.Test.YtfnmbpjkjajpcaaGreatDoorFbHz
import Derived.Laws.StructEq
import Derived.Test.YtfnmbpjkjajpcaaGreatDoorFbMix
import Derived.Shelf.Spec.SlicesInsert
import Derived.Lib.AppendZerosOnto
import Derived.Laws.NewBlocks
import Derived.Deep.RegionLaw
import Derived.Lib.AppendZeros
import Derived.Maps.AppendAt
import Derived.Laws.AppendOwnNone
namespace Go.Proofs.YtfnmbpjkjajpcaaGreatDoor
open Go.ChangeShapes Go.WideShapes Go.ChangeAt Go.RowKit
set_option linter.unusedVariables false
set_option maxRecDepth 100000
attribute [local go_sem ↓] Go.wp_at_zero Go.wp_at_succ
theorem Only.set3 {g : Nat} {a b : World} (h : Only (some g) a b) (u v x : Value) : Only (some g) a (((b.setCell ⟨g, 0, none⟩ u).setCell ⟨g, 1, none⟩ v).setCell ⟨g, 2, none⟩ x) := ((h.set 0 u).set 1 v).set 2 x
set_option maxHeartbeats 2000000 in
theorem narrow_any (g : Nat) (m : Mark) (n d : Int) (later : Bool) (w : World) (hb : Blk w g 257 #[.int .i64 m.n, .int .i64 m.d, .bool m.is]) (hn : I64 n) (hd : I64 d) (hmn : I64 m.n) (hmd : I64 m.d) (hd0 : 0 < d) (hm0 : m.is = true → 0 < m.d) :
    Calls Tryz.prog 272 #[.pointer (some ⟨g, 0, none⟩), .int .i64 n, .int .i64 d, .bool later] w fun e w' => e = .returned (.tuple #[]) ∧ Blk w' g 257 #[.int .i64 (narrowM m n d later).n, .int .i64 (narrowM m n d later).d, .bool (narrowM m n d later).is] ∧ Only (some g) w w' := by
  have hlt := hb.lt
  have cB := fun o => hb.cell o
  have fB := fun o => hb.frozen o
  cases hi : m.is
  · have H : Hid (narrowM m n d later = ⟨n, d, true⟩) := if_neg (by rw [hi]; simp)
    rw [hi] at cB
    have HI := Lib.hid hi
    clear hi hm0
    go_enter Tryz.func272, Tryz.ntmps272
    go_wp2
    go_end0
    refine ⟨rfl, ?_, (Only.refl _ _).set3 _ _ _⟩
    rw [H.out]
    simpa [HI.out] using ((hb.set_ 0 (.int .i64 n)).set_ 1 (.int .i64 d)).set_ 2 (.bool true)
  · have hC := Lib.hid (fun w => compareFractions_any n d m.n m.d w hn hd hmn hmd hd0 (hm0 hi))
    have HD := Lib.hid (show narrowM m n d later = if m.is = true ∧ ((later = true ∧ cmpI (n * m.d) (m.n * d) ≤ 0) ∨ (later = false ∧ 0 ≤ cmpI (n * m.d) (m.n * d))) then m else ⟨n, d, true⟩ from rfl)
    rw [hi] at cB HD
    have HI := Lib.hid hi
    clear hi hm0
    obtain ⟨c, hc⟩ : ∃ c, cmpI (n * m.d) (m.n * d) = c := ⟨_, rfl⟩
    rw [hc] at hC HD
    clear hc hn hd hmn hmd hd0
    cases later
    · by_cases h0 : 0 ≤ c
      · have H : Hid (narrowM m n d false = m) := by unfold Hid; rw [HD.out]; exact if_pos ⟨rfl, .inr ⟨rfl, h0⟩⟩
        clear HD
        go_enter Tryz.func272, Tryz.ntmps272
        go_wp2_with fail
        go_quiet ((go_at_call 273; exact Calls.quiet_of_same ((hC.out _).mono fun _ _ ⟨h1, h2⟩ => ⟨h1, h2.symm⟩)))
        go_wp2
        refine bodyPost_ret (v := .tuple #[]) (by simp [results, Tryz.results272, go_sem]) rfl ⟨rfl, ?_, (Only.refl _ _).drewN _⟩
        rw [H.out]
        exact hb.drewN _
      · have H : Hid (narrowM m n d false = ⟨n, d, true⟩) := by unfold Hid; rw [HD.out]; exact if_neg (by simp; omega)
        clear HD
        go_enter Tryz.func272, Tryz.ntmps272
        go_wp2_with fail
        go_quiet ((go_at_call 273; exact Calls.quiet_of_same ((hC.out _).mono fun _ _ ⟨h1, h2⟩ => ⟨h1, h2.symm⟩)))
        go_wp2
        go_end0
        refine ⟨rfl, ?_, ((Only.refl _ _).drewN _).set3 _ _ _⟩
        rw [H.out]
        simpa [HI.out] using (((hb.drewN _).set_ 0 (.int .i64 n)).set_ 1 (.int .i64 d)).set_ 2 (.bool true)
    · by_cases h0 : c ≤ 0
      · have H : Hid (narrowM m n d true = m) := by unfold Hid; rw [HD.out]; exact if_pos ⟨rfl, .inl ⟨rfl, h0⟩⟩
        clear HD
        go_enter Tryz.func272, Tryz.ntmps272
        go_wp2_with fail
        go_quiet ((go_at_call 273; exact Calls.quiet_of_same ((hC.out _).mono fun _ _ ⟨h1, h2⟩ => ⟨h1, h2.symm⟩)))
        go_wp2
        refine bodyPost_ret (v := .tuple #[]) (by simp [results, Tryz.results272, go_sem]) rfl ⟨rfl, ?_, (Only.refl _ _).drewN _⟩
        rw [H.out]
        exact hb.drewN _
      · have H : Hid (narrowM m n d true = ⟨n, d, true⟩) := by unfold Hid; rw [HD.out]; exact if_neg (by simp; omega)
        clear HD
        go_enter Tryz.func272, Tryz.ntmps272
        go_wp2_with fail
        go_quiet ((go_at_call 273; exact Calls.quiet_of_same ((hC.out _).mono fun _ _ ⟨h1, h2⟩ => ⟨h1, h2.symm⟩)))
        go_wp2
        go_end0
        refine ⟨rfl, ?_, ((Only.refl _ _).drewN _).set3 _ _ _⟩
        rw [H.out]
        simpa [HI.out] using (((hb.drewN _).set_ 0 (.int .i64 n)).set_ 1 (.int .i64 d)).set_ 2 (.bool true)
theorem take_next {α : Type} {l : List α} {k : Nat} (h : k < l.length) : l.take (k + 1) = l.take k ++ [l[k]] := List.take_succ_eq_append_getElem h
def MarkI (m : Mark) : Prop := I64 m.n ∧ I64 m.d
theorem MarkI.narrow {m : Mark} (h : MarkI m) {n d : Int} (hn : I64 n) (hd : I64 d) (later : Bool) : MarkI (narrowM m n d later) := by
  unfold narrowM
  split
  · exact h
  · exact ⟨hn, hd⟩
theorem ret_bb {a b a' b' : Bool} (h1 : a = a') (h2 : b = b') : Ending.returned (.tuple #[.bool a, .bool b]) = .returned (.tuple #[.bool a', .bool b']) := by rw [h1, h2]
theorem allN_step {p : Nat → Bool} {k : Nat} (h : allN p k = true) (hp : p k = true) : allN p (k + 1) = true := by unfold allN; rw [h, hp]; rfl
theorem Blk.only_ {w w' : World} {g k : Nat} {t : TypeId} {cs : Array Value} (h : Blk w k t cs) (ho : Only (some g) w w') (hne : k ≠ g) : Blk w' k t cs :=
  (ho.block k h.lt (fun e => hne (by injection e))).trans h
set_option maxHeartbeats 8000000 in
theorem isEdge_any (A : Option Addr) (n c k : Nat) (S : List Half) (w : World) (hn : S.length = n) (hr : Row w A (ints (flat Half.ints S))) (hle : n ≤ 1048576) (hk : k < n) (hok : ∀ x ∈ S, halfOk x = true) (hS : Good S) :
    Calls Tryz.prog 204 #[.slice A n c, .int .i64 k] w fun e w' => e = .returned (.tuple #[.bool (edgeE S k), .bool (edgeV S k)]) ∧ Ext w w' := by
  have HR := Lib.hid hr
  have HN := Lib.hid hn
  have hkS : k < S.length := by omega
  have HSm : Hid (∀ i (hi : i < S.length), SmallH S[i]) := fun i hi => small_ok (hok _ (List.getElem_mem hi))
  have HRi : Hid (∀ i (hi : i < S.length), roomAt S k i = (decide (i = k) || decide (cross (S[k]'hkS) S[i] ≠ 0) || decide (0 < room S[i] (S[k]'hkS)))) := fun i hi => roomAt_iff (by omega) hi
  have HE : Hid (∀ F T, Best true (S[k]'hkS) S F → Best false (S[k]'hkS) S T → (F.is && T.is && decide (cmpI (F.n * T.d) (T.n * F.d) < 0)) = edgeFb S (S[k]'hkS)) := fun F T hF hT => edge_of_best hS (List.getElem_mem _) hF hT
  have HIF : Hid (∀ F, Best true (S[k]'hkS) S F → F.is = true) := fun F hF => hF.is_lo hS (List.getElem_mem _)
  have HIT : Hid (∀ F, Best false (S[k]'hkS) S F → F.is = true) := fun F hF => hF.is_hi hS (List.getElem_mem _)
  have HGd : Hid (S.getD k ⟨0, 0, 0⟩ = S[k]'hkS) := getD_at (by omega)
  obtain ⟨b, off, rfl, hb, k0, k1, k2⟩ := hr.Half (k := k) (by omega)
  have sH := HSm.out k (by omega)
  obtain ⟨h, hh⟩ : ∃ h, S[k]'hkS = h := ⟨_, rfl⟩
  rw [hh] at k0 k1 k2 sH HE HIF HIT HGd
  simp only [hh] at HRi
  have Hh := Lib.hid hh
  clear hh hr hn hok hS
  have hkl : (k : Int) < (n : Int) := by omega
  have hx : Ext w (((w.alloc (.cells #[.int .i64 h.A, .int .i64 h.B, .int .i64 h.C] 116)).alloc (.cells #[.int .i64 0, .int .i64 0, .bool false] 257)).alloc (.cells #[.int .i64 0, .int .i64 0, .bool false] 257)) := (((Ext.refl w).alloc _).alloc _).alloc _
  have bH := ((Blk.new w 116 #[.int .i64 h.A, .int .i64 h.B, .int .i64 h.C]).alloc (.cells #[.int .i64 0, .int .i64 0, .bool false] 257)).alloc (.cells #[.int .i64 0, .int .i64 0, .bool false] 257)
  have bF := (Blk.new (w.alloc (.cells #[.int .i64 h.A, .int .i64 h.B, .int .i64 h.C] 116)) 257 #[.int .i64 0, .int .i64 0, .bool false]).alloc (.cells #[.int .i64 0, .int .i64 0, .bool false] 257)
  have bT := Blk.new ((w.alloc (.cells #[.int .i64 h.A, .int .i64 h.B, .int .i64 h.C] 116)).alloc (.cells #[.int .i64 0, .int .i64 0, .bool false] 257)) 257 #[.int .i64 0, .int .i64 0, .bool false]
  simp only [World.size_alloc] at bF bT
  have Hs := Lib.hid (And.intro hx (And.intro bH (And.intro bF bT)))
  clear hx bH bF bT
  go_enter Tryz.func204, Tryz.ntmps204
  go_wp2
  clear k0 k1 k2
  go_loopw [23] (fun i wr => ∃ (m : Nat) (F T : Mark), m ≤ n ∧ i = .int .i64 m ∧ Ext w wr ∧ Blk wr w.heap.size 116 #[.int .i64 h.A, .int .i64 h.B, .int .i64 h.C] ∧ Blk wr (w.heap.size + 1) 257 #[.int .i64 F.n, .int .i64 F.d, .bool F.is] ∧ Blk wr (w.heap.size + 1 + 1) 257 #[.int .i64 T.n, .int .i64 T.d, .bool T.is] ∧ Best true h (S.take m) F ∧ Best false h (S.take m) T ∧ MarkI F ∧ MarkI T ∧ allN (roomAt S k) m = true) (fun i _ => n - (intOf i).toNat)
  case atStart => exact ⟨0, ⟨0, 0, false⟩, ⟨0, 0, false⟩, Nat.zero_le _, rfl, Hs.out.1, Hs.out.2.1, Hs.out.2.2.1, Hs.out.2.2.2, Best.nil _ _, Best.nil _ _, ⟨⟨by decide, by decide⟩, by decide, by decide⟩, ⟨⟨by decide, by decide⟩, by decide, by decide⟩, rfl⟩
  case round =>
    obtain ⟨m, F, T, hm, rfl, hx, bH, bF, bT, hF, hT, hiF, hiT, hall⟩ := hrel
    have Hall := Lib.hid hall
    have HBF := Lib.hid hF
    have HBT := Lib.hid hT
    have HiF := Lib.hid hiF
    have HiT := Lib.hid hiT
    clear hall hF hT hiF hiT
    have ltH := bH.lt
    have ltF := bF.lt
    have ltT := bT.lt
    by_cases hlt : m < n
    rotate_left
    · obtain rfl : m = n := by omega
      have htk : S.take m = S := List.take_of_length_le (by rw [HN.out]; omega)
      rw [htk] at HBF HBT
      have hFi := HIF.out F HBF.out
      have hTi := HIT.out T HBT.out
      have hFd := HBF.out.pos hFi
      have hTd := HBT.out.pos hTi
      have hA := Hall.out
      obtain ⟨g1, g2⟩ := edge_good (S := S) (k := k) (by rw [HN.out]; exact hA)
      have HV := Lib.hid g1
      have HE2 : Hid (edgeE S k = decide (cmpI (F.n * T.d) (T.n * F.d) < 0)) := by
        unfold Hid
        rw [g2, HGd.out, ← HE.out F T HBF.out HBT.out, hFi, hTi]
        rfl
      have hC := Lib.hid (fun w => compareFractions_any F.n F.d T.n T.d w HiF.out.1 HiF.out.2 HiT.out.1 HiT.out.2 hFd hTd)
      rw [hFi] at bF
      rw [hTi] at bT
      clear g1 g2 hA hFi hTi htk
      have cF := fun o => bF.cell o
      have cT := fun o => bT.cell o
      go_wp2_with fail
      refine (hC.out _).mono ?_
      rintro e w' ⟨rfl, rfl⟩
      go_wp2
      go_ret2
      exact ⟨ret_bb HE2.out.symm HV.out.symm, hx⟩
    have hml : m < S.length := by rw [HN.out]; exact hlt
    obtain ⟨b', off', hA, hb', c0, c1, c2⟩ := (HR.out.ext hx).Half (k := m) hml
    injection hA with hA
    injection hA with e1 e2
    subst e1
    subst e2
    have sG := HSm.out m hml
    have HRm := Lib.hid (HRi.out m hml)
    have Htk := Lib.hid (take_next hml)
    obtain ⟨g, hg⟩ : ∃ g, S[m]'hml = g := ⟨_, rfl⟩
    rw [hg] at c0 c1 c2 sG HRm Htk
    have Hg := Lib.hid hg
    clear hg
    have hx1 := hx.alloc (.cells #[.int .i64 g.A, .int .i64 g.B, .int .i64 g.C] 116)
    have bG := Blk.new wr 116 #[.int .i64 g.A, .int .i64 g.B, .int .i64 g.C]
    replace bH := bH.alloc (.cells #[.int .i64 g.A, .int .i64 g.B, .int .i64 g.C] 116)
    replace bF := bF.alloc (.cells #[.int .i64 g.A, .int .i64 g.B, .int .i64 g.C] 116)
    replace bT := bT.alloc (.cells #[.int .i64 g.A, .int .i64 g.B, .int .i64 g.C] 116)
    by_cases hmk : m = k
    · obtain rfl := hmk
      have hRk : roomAt S m m = true := by rw [HRm.out]; simp
      have HRk := Lib.hid hRk
      have hgh : g = h := Hg.out.symm.trans Hh.out
      have HC0 : Hid (cross h g = 0) := by unfold Hid; rw [hgh, cross_self]
      clear hRk hgh
      go_wp2
      go_roundw
      case rel =>
        refine ⟨m + 1, F, T, by omega, by go_num, hx1, bH, bF, bT, ?_, ?_, HiF.out, HiT.out, allN_step Hall.out HRk.out⟩
        · rw [Htk.out]; exact HBF.out.skip (fun hs => onSide_ne hs HC0.out)
        · rw [Htk.out]; exact HBT.out.skip (fun hs => onSide_ne hs HC0.out)
      case measure => simp [intOf]; omega
    have hne : ((m : Int) == (k : Int)) = false := by rw [beq_eq_false_iff_ne]; omega
    have Hmk := Lib.hid hmk
    clear hmk
    have hCr := Lib.hid (fun w => cross_any h g w sH sG)
    obtain ⟨q1, q2⟩ := cross_bd sH sG
    have HCr := Lib.hid (fun w => crossing_any h g w sH sG)
    have HLr := Lib.hid (fun w => leavesRoom_any g h w sG sH)
    obtain ⟨⟨x1, x2⟩, ⟨y1, y2⟩, d1, d2⟩ := pt_bd sH sG
    obtain ⟨p1, p2⟩ := prod_bd sH.a ⟨y1, y2⟩ rfl
    obtain ⟨p3, p4⟩ := prod_bd sH.b ⟨x1, x2⟩ rfl
    have HFN := Lib.hid (frN_pt h g)
    have hFb := fr_bd sH sG
    have HIn : Hid (I64 (frN h g) ∧ I64 (frD h g)) := ⟨⟨by omega, by omega⟩, by omega, by omega⟩
    clear hFb
    have Hlo : Hid (∀ _ : cross h g < 0, onSide true h g ∧ ¬ onSide false h g ∧ 0 < frD h g) := fun hc => ⟨hc, by unfold onSide; simp; omega, frD_pos (by omega)⟩
    have Hhi : Hid (∀ _ : 0 < cross h g, onSide false h g ∧ ¬ onSide true h g ∧ 0 < frD h g) := fun hc => ⟨by unfold onSide; simpa using hc, by unfold onSide; simp; omega, frD_pos (by omega)⟩
    have Hze : Hid (∀ _ : cross h g = 0, ¬ onSide true h g ∧ ¬ onSide false h g) := fun hc => ⟨fun hs => onSide_ne hs hc, fun hs => onSide_ne hs hc⟩
    obtain ⟨d, hd⟩ : ∃ d, cross h g = d := ⟨_, rfl⟩
    simp only [hd] at hCr HCr HRm q1 q2 Hlo Hhi Hze
    clear hd
    obtain ⟨px, hpx⟩ : ∃ d, ptX h g = d := ⟨_, rfl⟩
    obtain ⟨py, hpy⟩ : ∃ d, ptY h g = d := ⟨_, rfl⟩
    obtain ⟨pd, hpd⟩ : ∃ d, frD h g = d := ⟨_, rfl⟩
    simp only [hpx, hpy] at HCr HFN p1 p2 p3 p4
    simp only [hpd] at HCr d1 d2 HIn Hlo Hhi
    have Hpd := Lib.hid hpd
    clear hpx hpy hpd x1 x2 y1 y2 sH sG
    have cbH_1 := fun o => bH.cell o
    have cbF_2 := fun o => bF.cell o
    have cbT_3 := fun o => bT.cell o
    have cbG_4 := fun o => bG.cell o
    go_wp2_with fail
    refine (hCr.out _).mono ?_
    rintro e w1 ⟨rfl, hy1⟩
    replace hx1 := hx1.trans hy1
    replace bH := bH.ext hy1
    replace bF := bF.ext hy1
    replace bT := bT.ext hy1
    replace bG := bG.ext hy1
    have cbH_5 := fun o => bH.cell o
    have cbF_6 := fun o => bF.cell o
    have cbT_7 := fun o => bT.cell o
    have cbG_8 := fun o => bG.cell o
    by_cases h0 : d = 0
    · have hd0 : (d == 0) = true := by simpa using h0
      obtain ⟨z1, z2⟩ := Hze.out h0
      have HZ := Lib.hid (And.intro z1 z2)
      have HR0 : Hid (roomAt S k m = decide (0 < room g h)) := by unfold Hid; rw [HRm.out, h0, decide_eq_false Hmk.out]; simp
      clear h0 z1 z2
      go_wp2_with fail
      refine (HLr.out _).mono ?_
      rintro e w2 ⟨rfl, hy2⟩
      replace hx1 := hx1.trans hy2
      replace bH := bH.ext hy2
      replace bF := bF.ext hy2
      replace bT := bT.ext hy2
      replace bG := bG.ext hy2
      have cbH_9 := fun o => bH.cell o
      have cbF_10 := fun o => bF.cell o
      have cbT_11 := fun o => bT.cell o
      have cbG_12 := fun o => bG.cell o
      by_cases hr : 0 < room g h
      · have hrb : decide (0 < room g h) = true := decide_eq_true hr
        rw [hrb] at HR0
        rw [hrb]
        clear hr hrb
        go_wp2
        go_roundw
        case rel =>
          refine ⟨m + 1, F, T, by omega, by go_num, hx1, bH, bF, bT, ?_, ?_, HiF.out, HiT.out, allN_step Hall.out HR0.out⟩
          · rw [Htk.out]; exact HBF.out.skip HZ.out.1
          · rw [Htk.out]; exact HBT.out.skip HZ.out.2
        case measure => simp [intOf]; omega
      · have hrb : decide (0 < room g h) = false := decide_eq_false hr
        rw [hrb] at HR0
        rw [hrb]
        obtain ⟨g1, g2⟩ := edge_bad hml HR0.out
        have HV := Lib.hid (And.intro g1 g2)
        clear hr hrb g1 g2
        go_wp2
        go_ret2
        exact ⟨ret_bb HV.out.2.symm HV.out.1.symm, hx1⟩
    have hd0 : (d == 0) = false := by simpa using h0
    have HR0 : Hid (roomAt S k m = true) := by unfold Hid; rw [HRm.out]; simp [h0]
    go_wp2_with fail
    refine (HCr.out _).mono ?_
    rintro e w2 ⟨rfl, hy2⟩
    replace hx1 := hx1.trans hy2
    replace bH := bH.ext hy2
    replace bF := bF.ext hy2
    replace bT := bT.ext hy2
    replace bG := bG.ext hy2
    have cbH_13 := fun o => bH.cell o
    have cbF_14 := fun o => bF.cell o
    have cbT_15 := fun o => bT.cell o
    have cbG_16 := fun o => bG.cell o
    have ltH2 := bH.lt
    have ltT2 := bT.lt
    by_cases hp : 0 < d
    · obtain ⟨z1, z2, z3⟩ := Hhi.out hp
      have HZ := Lib.hid (And.intro z1 z2)
      have HI2 := Lib.hid HIn.out.1
      rw [← HFN.out] at HI2
      have hm0 := Lib.hid (fun (hi : T.is = true) => HBT.out.pos hi)
      clear z1 z2
      go_wp2_with fail
      refine (narrow_any (w.heap.size + 1 + 1) T (h.A * py - h.B * px) pd false _ bT HI2.out HIn.out.2 HiT.out.1 HiT.out.2 z3 hm0.out).mono ?_
      rintro e w3 ⟨rfl, bT', hon⟩
      rw [HFN.out] at bT' HI2
      replace bT := bT'
      replace bH := bH.only_ hon (by omega)
      replace bF := bF.only_ hon (by omega)
      replace hx1 := hx1.only hon (fun g' e => by injection e with e; omega)
      clear bT' hon
      go_wp2
      go_roundw
      case rel =>
        refine ⟨m + 1, F, narrowM T (frN h g) pd false, by omega, by go_num, hx1, bH, bF, bT, ?_, ?_, HiF.out, HiT.out.narrow HI2.out HIn.out.2 _, allN_step Hall.out HR0.out⟩
        · rw [Htk.out]; exact HBF.out.skip HZ.out.2
        · rw [Htk.out, ← Hpd.out]; exact HBT.out.narrow HZ.out.1
      case measure => simp [intOf]; omega
    · obtain ⟨z1, z2, z3⟩ := Hlo.out (by omega)
      have HZ := Lib.hid (And.intro z1 z2)
      have HI2 := Lib.hid HIn.out.1
      rw [← HFN.out] at HI2
      have hm0 := Lib.hid (fun (hi : F.is = true) => HBF.out.pos hi)
      clear z1 z2
      go_wp2_with fail
      refine (narrow_any (w.heap.size + 1) F (h.A * py - h.B * px) pd true _ bF HI2.out HIn.out.2 HiF.out.1 HiF.out.2 z3 hm0.out).mono ?_
      rintro e w3 ⟨rfl, bF', hon⟩
      rw [HFN.out] at bF' HI2
      replace bF := bF'
      replace bH := bH.only_ hon (by omega)
      replace bT := bT.only_ hon (by omega)
      replace hx1 := hx1.only hon (fun g' e => by injection e with e; omega)
      clear bF' hon
      go_wp2
      go_roundw
      case rel =>
        refine ⟨m + 1, narrowM F (frN h g) pd true, T, by omega, by go_num, hx1, bH, bF, bT, ?_, ?_, HiF.out.narrow HI2.out HIn.out.2 _, HiT.out, allN_step Hall.out HR0.out⟩
        · rw [Htk.out, ← Hpd.out]; exact HBF.out.narrow HZ.out.1
        · rw [Htk.out]; exact HBT.out.skip HZ.out.2
      case measure => simp [intOf]; omega
end Go.Proofs.YtfnmbpjkjajpcaaGreatDoor
namespace Go.Proofs.YtfnmbpjkjajpcaaGreatDoor
open Go.ChangeShapes Go.WideShapes Go.ChangeAt Go.RowKit
set_option linter.unusedVariables false
set_option maxRecDepth 100000
theorem half_ext {g h : Half} (h1 : g.A = h.A) (h2 : g.B = h.B) (h3 : g.C = h.C) : g = h := by cases g; cases h; simp_all
theorem fields3 {α : Type} {l : List α} (h : l.length = 3) : ∃ a b c, l = [a, b, c] := by
  match l, h with
  | [a, b, c], _ => exact ⟨a, b, c, rfl⟩
theorem neq_half (g h : Half) (w : World) : (binOp .neq 116 (.agg #[.int .i64 g.A, .int .i64 g.B, .int .i64 g.C]) (.agg #[.int .i64 h.A, .int .i64 h.B, .int .i64 h.C])).run Tryz.prog w = .ok (.bool (decide (g ≠ h))) w := by
  have hf : (Tryz.prog.fieldsOf 116).toList.map (fun f => (decide (f.name ≠ "_"), f.type, f.offset)) = [(true, 3, 0), (true, 3, 1), (true, 3, 2)] := by kernel_rfl
  have hu : Tryz.prog.underlying 116 = some (.struct (Tryz.prog.fieldsOf 116)) := by kernel_rfl
  rw [run_neq_struct, run_equalIn_agg _ _ _ _ _ hu (by kernel_rfl)]
  generalize (Tryz.prog.fieldsOf 116).toList = fs at hf
  have hl : fs.length = 3 := by have := congrArg List.length hf; simpa using this
  obtain ⟨f0, f1, f2, rfl⟩ := fields3 hl
  · simp only [List.map_cons, List.map_nil, List.cons.injEq, Prod.mk.injEq, and_true, decide_eq_true_eq] at hf
    obtain ⟨⟨n0, t0, o0⟩, ⟨n1, t1, o1⟩, n2, t2, o2⟩ := hf
    have hI := Tryz.underlying3
    by_cases h0 : g.A = h.A
    · by_cases h1 : g.B = h.B
      · by_cases h2 : g.C = h.C
        · have e := half_ext h0 h1 h2
          simp [Op.eqFields, n0, t0, o0, n1, t1, o1, n2, t2, o2, go_sem, e]
        · have e : g ≠ h := fun e => h2 (by rw [e])
          simp [Op.eqFields, n0, t0, o0, n1, t1, o1, n2, t2, o2, go_sem, h0, h1, h2, e]
      · have e : g ≠ h := fun e => h1 (by rw [e])
        simp [Op.eqFields, n0, t0, o0, n1, t1, o1, n2, t2, o2, go_sem, h0, h1, e]
    · have e : g ≠ h := fun e => h0 (by rw [e])
      simp [Op.eqFields, n0, t0, o0, n1, t1, o1, n2, t2, o2, go_sem, h0, e]
set_option maxHeartbeats 1000000 in
theorem equalHalves_any (A B : Option Addr) (n m c d : Nat) (xs ys : List Half) (w : World) (hn : xs.length = n) (hm : ys.length = m) (hr : Row w A (ints (flat Half.ints xs))) (hs : Row w B (ints (flat Half.ints ys))) (hle : n ≤ maxLen) (hle' : m ≤ maxLen) :
    Calls Tryz.prog 294 #[.slice A n c, .slice B m d] w fun e w' => e = .returned (.bool (decide (xs = ys))) ∧ Ext w w' := by
  unfold maxLen at hle hle'
  by_cases hnm : n = m
  · subst hnm
    go_enter Tryz.func294, Tryz.ntmps294
    go_wp2
    go_loopw [13] (fun i wr => ∃ (k : Nat), k ≤ n ∧ i = .int .i64 k ∧ Ext w wr ∧ xs.take k = ys.take k) (fun i _ => n - (intOf i).toNat)
    case atStart => exact ⟨0, Nat.zero_le _, rfl, Ext.refl _, rfl⟩
    case round =>
      obtain ⟨k, hk, rfl, hx, hp⟩ := hrel
      have Hp := Lib.hid hp
      clear hp
      by_cases hlt : k < n
      · obtain ⟨b, off, rfl, hb, hc0, hc1, hc2⟩ := (hr.ext hx).Half (k := k) (by omega)
        obtain ⟨b', off', rfl, hb', hd0, hd1, hd2⟩ := (hs.ext hx).Half (k := k) (by omega)
        have hlt2 : (k : Int) < (n : Int) := by omega
        have he0 := neq_half (xs[k]'(by omega)) (ys[k]'(by omega))
        by_cases he : xs[k]'(by omega) = ys[k]'(by omega)
        · rw [show decide (xs[k]'(by omega) ≠ ys[k]'(by omega)) = false from by simpa using he] at he0
          have He := Lib.hid he
          clear he
          go_wp2_with fail
          go_quiet (fail)
          go_wp2
          go_roundw
          case rel => exact ⟨k + 1, by omega, by go_num, hx.drewN _, take_eq_succ (by omega) (by omega) Hp.out He.out⟩
          case measure => simp [intOf]; omega
        · rw [show decide (xs[k]'(by omega) ≠ ys[k]'(by omega)) = true from by simpa using he] at he0
          have He := Lib.hid he
          clear he
          go_wp2_with fail
          go_quiet (fail)
          go_wp2
          go_ret
          exact ⟨ret_bool (by rw [decide_eq_false (ne_of_get (by omega) (by omega) He.out)]), hx.drewN _⟩
      · go_wp2
        go_ret
        refine ⟨ret_bool ?_, hx⟩
        have h := Hp.out
        rw [List.take_of_length_le (by omega), List.take_of_length_le (by omega)] at h
        rw [decide_eq_true h]
  · have h' : ((n : Int) != (m : Int)) = true := by simp; omega
    go_enter Tryz.func294, Tryz.ntmps294
    go_wp2
    go_ret
    exact ⟨ret_bool (by rw [decide_eq_false]; rintro rfl; omega), Ext.refl _⟩
theorem implSameRegion_any (A B : Option Addr) (n m c d : Nat) (xs ys : List Half) (w : World) (hn : xs.length = n) (hm : ys.length = m) (hr : Row w A (ints (flat Half.ints xs))) (hs : Row w B (ints (flat Half.ints ys))) (hle : n ≤ maxLen) (hle' : m ≤ maxLen) :
    Calls Tryz.prog 242 #[.agg #[.slice A n c], .agg #[.slice B m d]] w fun e w' => e = .returned (.bool (decide (xs = ys))) ∧ Ext w w' := by
  have hx : Ext w ((w.alloc (.cells #[.slice A n c] 34)).alloc (.cells #[.slice B m d] 34)) := ((Ext.refl w).alloc _).alloc _
  have HQ := Lib.hid (equalHalves_any A B n m c d xs ys _ hn hm (hr.ext hx) (hs.ext hx) hle hle')
  go_enter Tryz.func242, Tryz.ntmps242
  go_wp2_with fail
  refine HQ.out.mono ?_
  rintro e w1 ⟨rfl, hx1⟩
  go_wp2
  go_ret
  exact ⟨rfl, hx.trans hx1⟩
end Go.Proofs.YtfnmbpjkjajpcaaGreatDoor
namespace Go.Proofs.YtfnmbpjkjajpcaaGreatDoor
open Go.ChangeShapes Go.WideShapes Go.ChangeAt Go.RowKit
open Go.Lib
set_option linter.unusedVariables false
set_option maxRecDepth 100000
theorem half_info : (Tryz.prog.info? 116).map (fun i => (i.zero, i.size, i.bytes)) = some (some (.agg #[.int .i64 0, .int .i64 0, .int .i64 0]), 3, 24) := by kernel_rfl
theorem run_copyK {P : Program} (w : World) (dT sT ty elem : TypeId) (k g o dLen dCap : Nat) (a : Addr) (sLen sCap : Nat) (cur : Array Value) (t : TypeId) (cs : List Value)
    (hu : P.underlying dT = some (.slice elem)) (hs : (P.info? elem).map (·.size) = some k)
    (hg : w.heap[g]? = some (.cells cur t (0, 0))) (hn : cs.length = Nat.min sLen dLen * k)
    (hsrc : ∀ j v, cs[j]? = some v → w.cell? (a.add j) = some v) (hfit : o + cs.length ≤ cur.size) (h1 : ∀ v ∈ cs, v.oneCell' = true) :
    (Builtin.copy_ #[dT, sT] ty #[.slice (some ⟨g, o, none⟩) dLen dCap, .slice (some a) sLen sCap]).run P w =
      .ok (goInt (Nat.min sLen dLen)) (w.setRow g (cur.toList.take o ++ cs ++ cur.toList.drop (o + cs.length)).toArray) := by
  have hl := run_loadCells_list (P := P) w a cs hsrc
  have hst := run_storeCells_at P g o t cs 0 cur w hg (by simpa using hfit) h1
  cases hq : P.info? elem with
  | none => simp [hq] at hs
  | some i =>
    have hi : i.size = k := by simpa [hq] using hs
    simp [Builtin.copy_, run_underlying hu, Builtin.lenOf, Builtin.firstCells, sizeOf, typeInfo, hq, hi, ← hn, hl, hst]
theorem Only.setRow {g : Nat} {a b : World} (h : Only (some g) a b) (cs : Array Value) : Only (some g) a (b.setRow g cs) :=
  h.trans ⟨rfl, rfl, rfl, by simp [World.setRow], fun k _ hk => setRow_other b g k cs (fun e => hk (by simp [e]))⟩
theorem oneCell_ints (xs : List Int) : ∀ v ∈ ints xs, v.oneCell' = true := by
  intro v hv
  unfold ints at hv
  obtain ⟨z, _, rfl⟩ := List.mem_map.1 hv
  rfl
theorem flat_app (a b : List Half) : flat Half.ints (a ++ b) = flat Half.ints a ++ flat Half.ints b := by unfold flat; rw [List.flatMap_append]
theorem flat_take (l : List Half) (i : Nat) (h : i ≤ l.length) : flat Half.ints (l.take i) = (flat Half.ints l).take (i * 3) := by
  have h1 := flat_app (l.take i) (l.drop i)
  rw [List.take_append_drop] at h1
  have h2 := flat_length Half.ints_len (l.take i)
  rw [List.length_take, Nat.min_eq_left h] at h2
  rw [h1, List.take_left' h2]
theorem flat_drop (l : List Half) (i : Nat) (h : i ≤ l.length) : flat Half.ints (l.drop i) = (flat Half.ints l).drop (i * 3) := by
  have h1 := flat_app (l.take i) (l.drop i)
  rw [List.take_append_drop] at h1
  have h2 := flat_length Half.ints_len (l.take i)
  rw [List.length_take, Nat.min_eq_left h] at h2
  rw [h1, List.drop_left' h2]
theorem own_whole {w : World} {base : Nat} {e : TypeId} {s n c : Nat} {A : Option Addr} {xs : List Value} (h : w.ownsRow base e s (.slice A n c) n xs) (hn : 0 < n) :
    ∃ g cur, A = some ⟨g, 0, none⟩ ∧ base ≤ g ∧ w.heap[g]? = some (.cells cur e (0, 0)) ∧ n ≤ c ∧ c ≤ maxLen ∧ cur.size = c * s ∧ cur.toList.take (n * s) = xs := by
  rcases h.2 with ⟨_, h0⟩ | ⟨g, cap, cur, hv, h1, h2, h3, h4, h5, h6⟩
  · omega
  · injection hv with hA _ hc
    subst hc
    exact ⟨g, cur, hA, h1, h2, h3, h4, h5, h6⟩
theorem ownB (A : Option Addr) (n c : Nat) : Value.ownBlock (.slice A n c) = A.map (·.block) := by cases A <;> rfl
set_option maxHeartbeats 4000000 in
theorem insert_end (base : Nat) (A : Option Addr) (n c vb : Nat) (hs : List Half) (h : Half) (w : World) (ho : w.ownsRow base 116 3 (.slice A n c) n (ints (flat Half.ints hs))) (hn : n ≤ 1048576) (hbase : base ≤ w.heap.size)
    (hv : ∀ j u, (ints h.ints)[j]? = some u → w.cell? ⟨vb, j, none⟩ = some u) :
    Calls Tryz.prog 267 #[.slice A n c, .int .i64 n, .slice (some ⟨vb, 0, none⟩) 1 1] w fun e w' => ∃ A' c', e = .returned (.slice A' (n + 1) c') ∧ w'.ownsRow base 116 3 (.slice A' (n + 1) c') (n + 1) (ints (flat Half.ints (hs ++ [h]))) ∧ Only (Value.ownBlock (.slice A n c)) w w' := by
  obtain ⟨i0, hi0, hz0, hz1, hz2⟩ := info_parts half_info
  have hcap := own_cap ho
  have hcm : c ≤ 9223372036854775807 := by
    rcases ho.2 with ⟨hv', _⟩ | ⟨g, cap, cur, hv', _, _, _, h4, _⟩
    · injection hv' with _ _ e; omega
    · injection hv' with _ _ e; unfold maxLen at h4; omega
  have hnews : ∀ j u, (ints h.ints)[j]? = some u → w.cell? ((⟨vb, 0, none⟩ : Addr).add j) = some u := fun j u hj => by
    rw [show ((⟨vb, 0, none⟩ : Addr).add j) = ⟨vb, 0 + j, none⟩ from by unfold Addr.add; split <;> simp_all, Nat.zero_add]
    exact hv j u hj
  have hfa : ints (flat Half.ints (hs ++ [h])) = ints (flat Half.ints hs) ++ ints h.ints := by rw [flat_app, ints_append]; simp [flat]
  have HF := Lib.hid hfa
  clear hfa
  go_enter Tryz.func267, Tryz.ntmps267
  go_wp2_with (at_builtin; go_must (refine wpList_append_own _ rfl _ _ 32 rfl base 116 i0 (.agg #[.int .i64 0, .int .i64 0, .int .i64 0]) 3 24 Tryz.underlying32 hi0 hz0 hz1 hz2 rfl (by decide) _ _ _ rfl ho ⟨vb, 0, none⟩ 1 1 (ints h.ints) rfl rfl hnews (oneCell_ints _) (by unfold maxLen; omega) (by omega) hbase ?_); intro v' w1 hown hgrow _)
  all_goals
    obtain ⟨A', c', rfl⟩ := own_form hown
    go_ret
    refine ⟨A', c', rfl, by rw [HF.out]; exact hown, ?_⟩
    change w.grownBy w1 _
    simpa [Act.eval, ownB] using hgrow
theorem ints_take (xs : List Int) (k : Nat) : ints (xs.take k) = (ints xs).take k := by simp [ints, List.map_take]
theorem ints_drop (xs : List Int) (k : Nat) : ints (xs.drop k) = (ints xs).drop k := by simp [ints, List.map_drop]
set_option maxHeartbeats 8000000 in
theorem insert_shift (base : Nat) (A : Option Addr) (n c i vb : Nat) (hs : List Half) (h : Half) (w : World) (ho : w.ownsRow base 116 3 (.slice A n c) n (ints (flat Half.ints hs))) (hn : n ≤ 1048576) (hi : i < n) (hroom : n + 1 ≤ c)
    (hb : Blk w vb 116 #[.int .i64 h.A, .int .i64 h.B, .int .i64 h.C]) (hvb : Value.ownBlock (.slice A n c) ≠ some vb) :
    Calls Tryz.prog 267 #[.slice A n c, .int .i64 i, .slice (some ⟨vb, 0, none⟩) 1 1] w fun e w' => ∃ A' c', e = .returned (.slice A' (n + 1) c') ∧ w'.ownsRow base 116 3 (.slice A' (n + 1) c') (n + 1) (ints (flat Half.ints (hs.take i ++ h :: hs.drop i))) ∧ Only (Value.ownBlock (.slice A n c)) w w' := by
  obtain ⟨i0, hi0, hz0, hz1, hz2⟩ := info_parts half_info
  have hlen : hs.length = n := by have := ho.1; rw [ints_length, flat_length Half.ints_len] at this; omega
  obtain ⟨g, cur, rfl, hgb, hg, hnc, hcm, hcs, htk⟩ := own_whole ho (by omega)
  have hne : g ≠ vb := fun e => hvb (by rw [e]; rfl)
  unfold maxLen at hcm
  have hsz : (Tryz.prog.info? 116).map (·.size) = some 3 := by rw [hi0]; simp [hz1]
  -- the cells
  have hcell : ∀ j u, (ints (flat Half.ints hs))[j]? = some u → w.cell? ⟨g, j, none⟩ = some u := fun j u hj => by
    have hjl : j < n * 3 := by
      have := (List.getElem?_eq_some_iff.1 hj).1
      rw [ints_length, flat_length Half.ints_len, hlen] at this
      exact this
    rw [ho.cellAt j hjl]; exact hj
  have hfl : (ints (flat Half.ints hs)).length = n * 3 := by rw [ints_length, flat_length Half.ints_len, hlen]
  obtain ⟨D, hD⟩ : ∃ D, (ints (flat Half.ints hs)).drop (i * 3) = D := ⟨_, rfl⟩
  obtain ⟨U, hU⟩ : ∃ U, (ints (flat Half.ints hs)).take (i * 3) = U := ⟨_, rfl⟩
  have hDl : D.length = (n - i) * 3 := by rw [← hD, List.length_drop, hfl]; omega
  have hUl : U.length = i * 3 := by rw [← hU, List.length_take, hfl]; omega
  have hcurU : cur.toList.take (i * 3) = U := by rw [← hU, ← htk, List.take_take]; congr 1; omega
  have hD1 : ∀ v ∈ D, v.oneCell' = true := fun v hv => oneCell_ints _ v (by rw [← hD] at hv; exact List.mem_of_mem_drop hv)
  have hov : ∀ W lb cb, W.heap[g]? = w.heap[g]? → W.heap[vb]? = w.heap[vb]? → (callFunc 312 #[.slice (some ⟨vb, 0, none⟩) 1 1, .slice (some ⟨g, (i + 1) * 3, none⟩) lb cb]).run Tryz.prog W = .ok (.value (.bool false)) W := fun W lb cb hW1 hW2 => by
    have hbW : Blk W vb 116 #[.int .i64 h.A, .int .i64 h.B, .int .i64 h.C] := by unfold Blk; rw [hW2]; exact hb
    rw [run_callFunc_extern Tryz.func312 (by kernel_rfl) (by kernel_rfl) (by kernel_rfl) (e := Extern.SlicesOverlaps.overlaps #[32, 32] #[4]) (by kernel_rfl),
      Lib.run_overlaps_apart W 32 4 116 Tryz.underlying32 3 (fun w => by simp [Go.sizeOf, typeInfo, hi0, hz1]) ⟨vb, 0, none⟩ ⟨g, (i + 1) * 3, none⟩ 1 1 lb cb (fun e => hne e.symm) 116 116 3 cur.size (by unfold Blk at hbW; simp [World.shape?, hbW]) (by rw [← hW1] at hg; simp [World.shape?, hg]) (by omega) (hbW.frozen 0) (hbW.frozen 3)]
    rfl
  have hz1 : (((1 : Nat) : Int) == 0) = false := rfl
  have hz2 : ((i : Int) == (n : Int)) = false := by rw [beq_eq_false_iff_ne]; omega
  have hz3 : ¬ (c : Int) < (n : Int) + 1 := by omega
  have hb4 : ¬ c = i := by omega
  have hb5 : ¬ c = i + 1 := by omega
  have hb6 : (i : Int) ≤ (n : Int) := by omega
  have hw1 : IntKind.i64.wrap ((i : Int) + 1) = (i : Int) + 1 := by rw [IntKind.wrap_i64]; omega
  have hb1 : (0 : Int) ≤ (i : Int) + 1 := by omega
  have htn : ((i : Int) + 1).toNat = i + 1 := by omega
  have hin : i ≤ n := by omega
  have hb3 : (i : Int) ≤ (n : Int) + 1 := by omega
  have hmin : Nat.min (n + 1 - i) (n - i) = n - i := by simp only [Nat.min_def]; split <;> omega
  have hmin2 : Nat.min 1 (n + 1 - i) = 1 := by simp only [Nat.min_def]; split <;> omega
  obtain ⟨X1, hX1⟩ : ∃ X1 : Array Value, X1 = (cur.toList.take ((i + 1) * 3) ++ D ++ cur.toList.drop ((i + 1) * 3 + D.length)).toArray := ⟨_, rfl⟩
  have hX1s : X1.size = c * 3 := by
    rw [hX1, List.size_toArray]
    simp only [List.length_append, List.length_take, List.length_drop, Array.length_toList, hDl, hcs]
    simp only [Nat.min_def]
    split <;> omega
  obtain ⟨X2, hX2⟩ : ∃ X2 : Array Value, X2 = (X1.toList.take (i * 3) ++ ints h.ints ++ X1.toList.drop (i * 3 + 3)).toArray := ⟨_, rfl⟩
  have hcp1 : ∀ W ty dc sc, W.heap[g]? = w.heap[g]? → (Builtin.copy_ #[32, 32] ty #[.slice (some ⟨g, (i + 1) * 3, none⟩) (n - i) dc, .slice (some ⟨g, i * 3, none⟩) (n + 1 - i) sc]).run Tryz.prog W = .ok (goInt ((n - i : Nat) : Int)) (W.setRow g X1) := fun W ty dc sc hW => by
    have := run_copyK (P := Tryz.prog) W 32 32 ty 116 3 g ((i + 1) * 3) (n - i) dc ⟨g, i * 3, none⟩ (n + 1 - i) sc cur 116 D Tryz.underlying32 hsz (hW.trans hg) (by rw [hmin, hDl]) (fun j v hj => by
      rw [show ((⟨g, i * 3, none⟩ : Addr).add j) = ⟨g, i * 3 + j, none⟩ from by unfold Addr.add; split <;> simp_all]
      have := hcell (i * 3 + j) v (by rw [← hD, List.getElem?_drop] at hj; exact hj)
      unfold World.cell? at this ⊢
      rw [hW]; exact this) (by rw [hDl, hcs]; omega) hD1
    rw [hmin, ← hX1] at this
    exact this
  have hcp2 : ∀ W ty dc, W.heap[g]? = some (.cells X1 116 (0, 0)) → W.heap[vb]? = w.heap[vb]? → (Builtin.copy_ #[32, 32] ty #[.slice (some ⟨g, i * 3, none⟩) (n + 1 - i) dc, .slice (some ⟨vb, 0, none⟩) 1 1]).run Tryz.prog W = .ok (goInt 1) (W.setRow g X2) := fun W ty dc hW hV => by
    have hbW : Blk W vb 116 #[.int .i64 h.A, .int .i64 h.B, .int .i64 h.C] := by unfold Blk; rw [hV]; exact hb
    have := run_copyK (P := Tryz.prog) W 32 32 ty 116 3 g (i * 3) (n + 1 - i) dc ⟨vb, 0, none⟩ 1 1 X1 116 (ints h.ints) Tryz.underlying32 hsz hW (by rw [hmin2]; rfl) (fun j v hj => by
      rw [show ((⟨vb, 0, none⟩ : Addr).add j) = ⟨vb, 0 + j, none⟩ from by unfold Addr.add; split <;> simp_all, Nat.zero_add, hbW.cell]
      simpa [ints, Half.ints] using hj) (by rw [hX1s]; simp [ints, Half.ints]; omega) (oneCell_ints _)
    rw [hmin2] at this
    exact this.trans (by rw [hX2]; rfl)
  have HX := Lib.hid (And.intro hX1 (And.intro hX2 (And.intro hX1s (And.intro hDl (And.intro hUl (And.intro hcurU hcs))))))
  have HD := Lib.hid (And.intro hD hU)
  have HO := Lib.hid (And.intro hg (And.intro hfl htk))
  have hg1 : (w.drew.setRow g X1).heap[g]? = some (.cells X1 116 (0, 0)) := setRow_heap w.drew g cur X1 _ _ hg
  have hv1 : (w.drew.setRow g X1).heap[vb]? = w.heap[vb]? := setRow_other w.drew g vb X1 (fun e => hne e.symm)
  have hc2 := hcp2 (w.drew.setRow g X1) 3 (c - i) hg1 hv1
  have HG1 := Lib.hid hg1
  clear hX1 hX2 hX1s hDl hUl hcurU hD hU hfl htk hcs hcell hg1 hv1 hcp2
  go_enter Tryz.func267, Tryz.ntmps267
  go_wp2_with fail
  go_region_law (refine step_copy_runI rfl _ _ 32 32 rfl _ _ (by simp [Act.eval, Act.put]) (by simp [Act.eval, Act.put]) (hcp1 w.drew 3 (c - (i + 1)) (c - i) rfl) ?_)
  go_wp2
  go_ret
  obtain ⟨hX1, hX2, hX1s, hDl, hUl, hcurU, hcs⟩ := HX.out
  obtain ⟨hD, hU⟩ := HD.out
  obtain ⟨hg, hfl, htk⟩ := HO.out
  have hX1l : X1.toList = cur.toList.take ((i + 1) * 3) ++ D ++ cur.toList.drop ((i + 1) * 3 + D.length) := by rw [hX1]
  have hX2l : X2.toList = X1.toList.take (i * 3) ++ ints h.ints ++ X1.toList.drop (i * 3 + 3) := by rw [hX2]
  have hih : (ints h.ints).length = 3 := rfl
  have hclen : cur.toList.length = c * 3 := by simpa using hcs
  have e1 : X1.toList.take (i * 3) = U := by
    rw [hX1l, List.append_assoc, List.take_append_of_le_length (by rw [List.length_take, hclen]; omega), List.take_take, ← hcurU]
    congr 1; omega
  have e2 : X1.toList.drop (i * 3 + 3) = D ++ cur.toList.drop ((i + 1) * 3 + D.length) := by
    rw [hX1l, List.append_assoc, List.drop_left' (by rw [List.length_take, hclen]; omega)]
  have e3 : X2.toList = (U ++ ints h.ints ++ D) ++ cur.toList.drop ((i + 1) * 3 + D.length) := by rw [hX2l, e1, e2]; simp only [List.append_assoc]
  have hl3 : (U ++ ints h.ints ++ D).length = (n + 1) * 3 := by simp only [List.length_append, hUl, hih, hDl]; omega
  have e4 : ints (flat Half.ints (hs.take i ++ h :: hs.drop i)) = U ++ ints h.ints ++ D := by
    rw [flat_app, ints_append, flat_take _ _ (by omega), ints_take, hU]
    rw [show flat Half.ints (h :: hs.drop i) = h.ints ++ flat Half.ints (hs.drop i) from by simp [flat], ints_append, flat_drop _ _ (by omega), ints_drop, hD, List.append_assoc]
  have hX2s : X2.size = c * 3 := by
    have := congrArg List.length e3
    rw [Array.length_toList, List.length_append, hl3, List.length_drop, hclen, hDl] at this
    omega
  refine ⟨some ⟨g, 0, none⟩, c, rfl, ⟨by rw [e4]; exact hl3, .inr ⟨g, c, X2, rfl, hgb, setRow_heap (w.drew.setRow g X1) g X1 X2 _ _ HG1.out, hroom, by unfold maxLen; omega, hX2s, ?_⟩⟩, ((Only.refl _ _).drewN 1).setRow _ |>.setRow _⟩
  rw [e3, e4, List.take_left' hl3]
theorem Ext.setRow {a b : World} {g : Nat} (h : Ext a b) (hg : a.heap.size ≤ g) (cs : Array Value) : Ext a (b.setRow g cs) :=
  h.only (Only.setRow (Only.refl (some g) b) cs) (fun k e => by injection e with e; omega)
theorem size_zeroCells (z : Array Value) (k : Nat) : (Builtin.zeroCells z k).size = k * z.size := by simp [Builtin.zeroCells]
set_option maxHeartbeats 8000000 in
theorem insert_grow (base : Nat) (A : Option Addr) (n c i vb : Nat) (hs : List Half) (h : Half) (w : World) (ho : w.ownsRow base 116 3 (.slice A n c) n (ints (flat Half.ints hs))) (hn : n ≤ 1048576) (hi : i < n) (hroom : c < n + 1) (hbase : base ≤ w.heap.size)
    (hb : Blk w vb 116 #[.int .i64 h.A, .int .i64 h.B, .int .i64 h.C]) :
    Calls Tryz.prog 267 #[.slice A n c, .int .i64 i, .slice (some ⟨vb, 0, none⟩) 1 1] w fun e w' => ∃ A' c', e = .returned (.slice A' (n + 1) c') ∧ w'.ownsRow base 116 3 (.slice A' (n + 1) c') (n + 1) (ints (flat Half.ints (hs.take i ++ h :: hs.drop i))) ∧ Only (Value.ownBlock (.slice A n c)) w w' := by
  obtain ⟨i0, hi0, hz0, hz1, hz2⟩ := info_parts half_info
  have hlen : hs.length = n := by have := ho.1; rw [ints_length, flat_length Half.ints_len] at this; omega
  obtain ⟨g, cur, rfl, hgb, hg, hnc, hcm, hcs, htk⟩ := own_whole ho (by omega)
  obtain rfl : c = n := by omega
  have hgw : g < w.heap.size := (Array.getElem?_eq_some_iff.1 hg).1
  have hvw : vb < w.heap.size := hb.lt
  unfold maxLen at hcm
  have hsz : (Tryz.prog.info? 116).map (·.size) = some 3 := by rw [hi0]; simp [hz1]
  have hcell : ∀ j u, (ints (flat Half.ints hs))[j]? = some u → w.cell? ⟨g, j, none⟩ = some u := fun j u hj => by
    have hjl : j < c * 3 := by
      have := (List.getElem?_eq_some_iff.1 hj).1
      rw [ints_length, flat_length Half.ints_len, hlen] at this
      exact this
    rw [ho.cellAt j hjl]; exact hj
  have hfl : (ints (flat Half.ints hs)).length = c * 3 := by rw [ints_length, flat_length Half.ints_len, hlen]
  obtain ⟨D, hD⟩ : ∃ D, (ints (flat Half.ints hs)).drop (i * 3) = D := ⟨_, rfl⟩
  obtain ⟨U, hU⟩ : ∃ U, (ints (flat Half.ints hs)).take (i * 3) = U := ⟨_, rfl⟩
  have hDl : D.length = (c - i) * 3 := by rw [← hD, List.length_drop, hfl]; omega
  have hUl : U.length = i * 3 := by rw [← hU, List.length_take, hfl]; omega
  have hD1 : ∀ v ∈ D, v.oneCell' = true := fun v hv => oneCell_ints _ v (by rw [← hD] at hv; exact List.mem_of_mem_drop hv)
  have hik : i + (c + 1 - i) = c + 1 := by omega
  have hold : (Builtin.firstCells i0.size i (.slice (some ⟨g, 0, none⟩) i c)).run Tryz.prog w.drew = .ok U.toArray w.drew := by
    rw [hz1]
    exact run_firstCells_some w.drew 3 i ⟨g, 0, none⟩ i c U hUl (fun j v hj => by
      rw [show ((⟨g, 0, none⟩ : Addr).add j) = ⟨g, 0 + j, none⟩ from by unfold Addr.add; split <;> simp_all, Nat.zero_add]
      refine hcell j v ?_
      rw [← hU, List.getElem?_take] at hj
      split at hj
      · exact hj
      · cases hj)
  obtain ⟨G, hG⟩ : ∃ G, G = grownCap w (c + 1) c 116 := ⟨_, rfl⟩
  have hGn : c + 1 ≤ G := by rw [hG]; exact grownCap_ge w _ _ _
  have hG63 : G ≤ 9223372036854775807 := by
    have := grownCap_le_maxLen w (c + 1) c 116 (by unfold maxLen; omega)
    rw [← hG] at this
    unfold maxLen at this
    omega
  obtain ⟨Z1, hZ1⟩ : ∃ Z1, Z1 = Builtin.zeroCells (Value.agg #[.int .i64 0, .int .i64 0, .int .i64 0]).cells (c + 1 - i) := ⟨_, rfl⟩
  obtain ⟨Z2, hZ2⟩ : ∃ Z1, Z1 = Builtin.zeroCells (Value.agg #[.int .i64 0, .int .i64 0, .int .i64 0]).cells (G - (c + 1)) := ⟨_, rfl⟩
  have hZ1s : Z1.size = (c + 1 - i) * 3 := by rw [hZ1, size_zeroCells]; rfl
  have hZ2s : Z2.size = (G - (c + 1)) * 3 := by rw [hZ2, size_zeroCells]; rfl
  obtain ⟨ROW, hROW⟩ : ∃ ROW : Array Value, ROW = U.toArray ++ Z1 ++ Z2 := ⟨_, rfl⟩
  have hRs : ROW.size = G * 3 := by
    rw [hROW, Array.size_append, Array.size_append, hZ1s, hZ2s, List.size_toArray, hUl]
    omega
  have hRt : ROW.toList.take (i * 3) = U := by
    rw [hROW]
    simp only [Array.toList_append, List.append_assoc]
    exact List.take_left' hUl
  have hrz : ∀ ty, (Builtin.append_ #[32, 3] ty #[.slice (some ⟨g, 0, none⟩) i c, .int .i64 ((c : Int) + 1 - (i : Int))]).run Tryz.prog w =
      .ok (.slice (some ⟨w.heap.size, 0, none⟩) (c + 1) G) (w.drew.alloc (.cells ROW 116)) := fun ty => by
    have h := Lib.run_append_grow_zeros (P := Tryz.prog) w 32 3 ty 116 i0 _ .i64 .i64 Tryz.underlying32 Tryz.underlying3 hi0 hz0 (some ⟨g, 0, none⟩) i c U hold (c + 1 - i) (by omega) (by omega) (by omega) (by omega) (by rw [hz2]; omega) (by rw [hz2, hik]; exact growslice_fits (by omega) (by omega))
    rw [hik, ← hG, ← hZ1, ← hZ2, ← hROW] at h
    rw [show ((c : Int) + 1 - (i : Int)) = ((c + 1 - i : Nat) : Int) by omega]
    exact h
  have hmin : Nat.min (c - i) (c - i) = c - i := Nat.min_self _
  have hmin2 : Nat.min 1 (c + 1 - i) = 1 := by simp only [Nat.min_def]; split <;> omega
  obtain ⟨X1, hX1⟩ : ∃ X1 : Array Value, X1 = (ROW.toList.take (i * 3) ++ ints h.ints ++ ROW.toList.drop (i * 3 + 3)).toArray := ⟨_, rfl⟩
  have hih : (ints h.ints).length = 3 := rfl
  have hX1s : X1.size = G * 3 := by
    rw [hX1, List.size_toArray]
    simp only [List.length_append, List.length_take, List.length_drop, Array.length_toList, hih, hRs]
    simp only [Nat.min_def]
    split <;> omega
  obtain ⟨X2, hX2⟩ : ∃ X2 : Array Value, X2 = (X1.toList.take ((i + 1) * 3) ++ D ++ X1.toList.drop ((i + 1) * 3 + D.length)).toArray := ⟨_, rfl⟩
  have hcpA : ∀ W ty dc, W.heap[w.heap.size]? = some (.cells ROW 116 (0, 0)) → W.heap[vb]? = w.heap[vb]? → (Builtin.copy_ #[32, 32] ty #[.slice (some ⟨w.heap.size, i * 3, none⟩) (c + 1 - i) dc, .slice (some ⟨vb, 0, none⟩) 1 1]).run Tryz.prog W = .ok (goInt 1) (W.setRow w.heap.size X1) := fun W ty dc hW hV => by
    have hbW : Blk W vb 116 #[.int .i64 h.A, .int .i64 h.B, .int .i64 h.C] := by unfold Blk; rw [hV]; exact hb
    have := run_copyK (P := Tryz.prog) W 32 32 ty 116 3 w.heap.size (i * 3) (c + 1 - i) dc ⟨vb, 0, none⟩ 1 1 ROW 116 (ints h.ints) Tryz.underlying32 hsz hW (by rw [hmin2]; rfl) (fun j v hj => by
      rw [show ((⟨vb, 0, none⟩ : Addr).add j) = ⟨vb, 0 + j, none⟩ from by unfold Addr.add; split <;> simp_all, Nat.zero_add, hbW.cell]
      simpa [ints, Half.ints] using hj) (by rw [hRs]; simp [ints, Half.ints]; omega) (oneCell_ints _)
    rw [hmin2] at this
    exact this.trans (by rw [hX1]; rfl)
  have hcpB : ∀ W ty dc sc, W.heap[w.heap.size]? = some (.cells X1 116 (0, 0)) → W.heap[g]? = w.heap[g]? → (Builtin.copy_ #[32, 32] ty #[.slice (some ⟨w.heap.size, (i + 1) * 3, none⟩) (c - i) dc, .slice (some ⟨g, i * 3, none⟩) (c - i) sc]).run Tryz.prog W = .ok (goInt ((c - i : Nat) : Int)) (W.setRow w.heap.size X2) := fun W ty dc sc hW hG2 => by
    have := run_copyK (P := Tryz.prog) W 32 32 ty 116 3 w.heap.size ((i + 1) * 3) (c - i) dc ⟨g, i * 3, none⟩ (c - i) sc X1 116 D Tryz.underlying32 hsz hW (by rw [hmin, hDl]) (fun j v hj => by
      rw [show ((⟨g, i * 3, none⟩ : Addr).add j) = ⟨g, i * 3 + j, none⟩ from by unfold Addr.add; split <;> simp_all]
      have := hcell (i * 3 + j) v (by rw [← hD, List.getElem?_drop] at hj; exact hj)
      unfold World.cell? at this ⊢
      rw [hG2]; exact this) (by rw [hDl, hX1s]; omega) hD1
    rw [hmin, ← hX2] at this
    exact this
  have hgA : (w.alloc (.cells ROW 116)).drew.heap[w.heap.size]? = some (.cells ROW 116 (0, 0)) := heap_alloc_new w _
  have hoA : ∀ k, k < w.heap.size → (w.alloc (.cells ROW 116)).drew.heap[k]? = w.heap[k]? := fun k hk => ((Ext.refl w).alloc (.cells ROW 116)).drew.block k hk
  have hcA := hcpA (w.alloc (.cells ROW 116)).drew 3 (G - i) hgA (hoA vb hvw)
  have hg1 : ((w.alloc (.cells ROW 116)).drew.setRow w.heap.size X1).heap[w.heap.size]? = some (.cells X1 116 (0, 0)) := setRow_heap _ _ ROW X1 _ _ hgA
  have ho1 : ((w.alloc (.cells ROW 116)).drew.setRow w.heap.size X1).heap[g]? = w.heap[g]? := (setRow_other _ _ g X1 (by omega)).trans (hoA g hgw)
  have hcB := fun (W : World) (e : W.heap = ((w.alloc (.cells ROW 116)).drew.setRow w.heap.size X1).heap) => hcpB W 3 (G - (i + 1)) (c - i) (by rw [e]; exact hg1) (by rw [e]; exact ho1)
  have HX := Lib.hid (And.intro hX1 (And.intro hX2 (And.intro hX1s (And.intro hDl (And.intro hUl (And.intro hRt hRs))))))
  have HD := Lib.hid (And.intro hD hU)
  have HG1 := Lib.hid hg1
  have HCB := Lib.hid hcB
  have hq1 : (((1 : Nat) : Int) == 0) = false := rfl
  have hz2' : ((i : Int) == (c : Int)) = false := by rw [beq_eq_false_iff_ne]; omega
  have hz3 : (c : Int) < (c : Int) + 1 := by omega
  have hb4 : ¬ c = i := by omega
  have hGi : ¬ (G = i) := by omega
  have hGim : ¬ (G = i + 1) := by omega
  have hb6 : (i : Int) ≤ (c : Int) := by omega
  have hw1 : IntKind.i64.wrap ((i : Int) + 1) = (i : Int) + 1 := by rw [IntKind.wrap_i64]; omega
  have hb1 : (0 : Int) ≤ (i : Int) + 1 := by omega
  have htn : ((i : Int) + 1).toNat = i + 1 := by omega
  have hin : i ≤ c := by omega
  have hb3 : (i : Int) ≤ (c : Int) + 1 := by omega
  clear hX1 hX2 hX1s hDl hUl hRt hRs hD hU hfl htk hcs hcell hg1 hcpA hcpB hcB ho1 hROW hZ1 hZ2 hZ1s hZ2s hG hold hgA hoA
  go_enter Tryz.func267, Tryz.ntmps267
  go_wp2_with (at_builtin; go_must (refine Lib.wpList_append_run _ rfl _ _ _ _ rfl _ _ rfl rfl _ _ (hrz _) ?_))
  go_region_law (refine step_copy_runI rfl _ _ 32 32 rfl _ _ (by simp [Act.eval, Act.put]) (by simp [Act.eval, Act.put]) (HCB.out (((w.alloc (.cells ROW 116)).drew.setRow w.heap.size X1).drew) rfl) ?_)
  go_wp2
  go_ret
  obtain ⟨hX1, hX2, hX1s, hDl, hUl, hRt, hRs⟩ := HX.out
  obtain ⟨hD, hU⟩ := HD.out
  have hX1l : X1.toList = ROW.toList.take (i * 3) ++ ints h.ints ++ ROW.toList.drop (i * 3 + 3) := by rw [hX1]
  have hX2l : X2.toList = X1.toList.take ((i + 1) * 3) ++ D ++ X1.toList.drop ((i + 1) * 3 + D.length) := by rw [hX2]
  have hX1n : X1.toList.length = G * 3 := by simpa using hX1s
  have hUh : (U ++ ints h.ints).length = (i + 1) * 3 := by simp only [List.length_append, hUl, hih]; omega
  have e1 : X1.toList.take ((i + 1) * 3) = U ++ ints h.ints := by
    rw [hX1l, hRt, List.take_left' hUh]
  have e3 : X2.toList = (U ++ ints h.ints ++ D) ++ X1.toList.drop ((i + 1) * 3 + D.length) := by rw [hX2l, e1]
  have hl3 : (U ++ ints h.ints ++ D).length = (c + 1) * 3 := by rw [List.length_append, hUh, hDl]; omega
  have e4 : ints (flat Half.ints (hs.take i ++ h :: hs.drop i)) = U ++ ints h.ints ++ D := by
    rw [flat_app, ints_append, flat_take _ _ (by omega), ints_take, hU]
    rw [show flat Half.ints (h :: hs.drop i) = h.ints ++ flat Half.ints (hs.drop i) from by simp [flat], ints_append, flat_drop _ _ (by omega), ints_drop, hD, List.append_assoc]
  have hX2s : X2.size = G * 3 := by
    have := congrArg List.length e3
    rw [Array.length_toList, List.length_append, hl3, List.length_drop, hX1n, hDl] at this
    omega
  refine ⟨some ⟨w.heap.size, 0, none⟩, G, rfl, ⟨by rw [e4]; exact hl3, .inr ⟨w.heap.size, G, X2, rfl, hbase, setRow_heap _ _ X1 X2 _ _ HG1.out, hGn, by unfold maxLen; omega, hX2s, ?_⟩⟩, Only.of_ext ((((((Ext.refl w).alloc _).drew).setRow (Nat.le_refl _) _).drew).setRow (Nat.le_refl _) _)⟩
  rw [e3, e4, List.take_left' hl3]
def Inserted (base : Nat) (v : Value) (n : Nat) (l : List Half) (w : World) (e : Ending) (w' : World) : Prop :=
  ∃ A' c', e = .returned (.slice A' (n + 1) c') ∧ w'.ownsRow base 116 3 (.slice A' (n + 1) c') (n + 1) (ints (flat Half.ints l)) ∧ Only (Value.ownBlock v) w w'
theorem insert_any (base : Nat) (A : Option Addr) (n c i vb : Nat) (hs : List Half) (h : Half) (w : World) (ho : w.ownsRow base 116 3 (.slice A n c) n (ints (flat Half.ints hs))) (hn : n ≤ 1048576) (hi : i ≤ n) (hbase : base ≤ w.heap.size)
    (hb : Blk w vb 116 #[.int .i64 h.A, .int .i64 h.B, .int .i64 h.C]) (hvb : Value.ownBlock (.slice A n c) ≠ some vb) :
    Calls Tryz.prog 267 #[.slice A n c, .int .i64 i, .slice (some ⟨vb, 0, none⟩) 1 1] w (Inserted base (.slice A n c) n (hs.take i ++ h :: hs.drop i) w) := by
  by_cases hin : i = n
  · subst hin
    have hlen : hs.length = i := by have := ho.1; rw [ints_length, flat_length Half.ints_len] at this; omega
    have := insert_end base A i c vb hs h w ho hn hbase (fun j u hj => by rw [hb.cell]; simpa [ints, Half.ints] using hj)
    rw [List.take_of_length_le (by omega), List.drop_eq_nil_of_le (by omega)]
    exact this
  · by_cases hr : n + 1 ≤ c
    · exact insert_shift base A n c i vb hs h w ho hn (by omega) hr hb hvb
    · exact insert_grow base A n c i vb hs h w ho hn (by omega) (by omega) hbase hb
end Go.Proofs.YtfnmbpjkjajpcaaGreatDoor
namespace Go.Proofs.YtfnmbpjkjajpcaaGreatDoor
open Go.ChangeShapes Go.WideShapes Go.ChangeAt Go.RowKit
set_option linter.unusedVariables false
set_option maxRecDepth 100000
attribute [local go_sem ↓] Go.wp_at_zero Go.wp_at_succ
def HalvesMade (l : List Half) (w : World) (e : Ending) (w' : World) : Prop :=
  ∃ A c n, e = .returned (.slice A n c) ∧ n = l.length ∧ Ext w w' ∧ w'.ownsRow w.heap.size 116 3 (.slice A n c) n (ints (flat Half.ints l))
theorem own_half {w : World} {base n c g : Nat} {l : List Half} (h : w.ownsRow base 116 3 (.slice (some ⟨g, 0, none⟩) n c) n (ints (flat Half.ints l))) {t : Nat} (ht : t < l.length) :
    w.cell? ⟨g, t * 3, none⟩ = some (.int .i64 l[t].A) ∧ w.cell? ⟨g, t * 3 + 1, none⟩ = some (.int .i64 l[t].B) ∧ w.cell? ⟨g, t * 3 + 2, none⟩ = some (.int .i64 l[t].C) := by
  obtain ⟨b, off, hA, _, h0, h1, h2⟩ := (Row.of_own h).Half ht
  injection hA with hA
  injection hA with e1 e2
  subst e1 e2
  simp only [Nat.zero_add] at h0 h1 h2
  exact ⟨h0, h1, h2⟩
theorem flat_set (l : List Half) (t : Nat) (x : Half) (ht : t < l.length) : ints (flat Half.ints (l.set t x)) = (((ints (flat Half.ints l)).set (t * 3) (.int .i64 x.A)).set (t * 3 + 1) (.int .i64 x.B)).set (t * 3 + 2) (.int .i64 x.C) := by
  apply List.ext_getElem?
  intro j
  have hl : (ints (flat Half.ints l)).length = l.length * 3 := by rw [ints_length, flat_length Half.ints_len]
  have hl2 : (ints (flat Half.ints (l.set t x))).length = l.length * 3 := by rw [ints_length, flat_length Half.ints_len, List.length_set]
  by_cases hj : j < l.length * 3
  · obtain ⟨q, r, hr, rfl⟩ : ∃ q r, r < 3 ∧ j = q * 3 + r := ⟨j / 3, j % 3, Nat.mod_lt _ (by omega), by omega⟩
    have hq : q < l.length := by omega
    have hq2 : q < (l.set t x).length := by rw [List.length_set]; exact hq
    unfold ints
    rw [List.getElem?_map, flat_get Half.ints_len _ q r hq2 hr]
    simp only [List.getElem?_set, List.length_map, List.length_set, flat_length Half.ints_len]
    rw [List.getElem?_map, flat_get Half.ints_len _ q r hq hr]
    rw [List.getElem_set]
    by_cases e : t = q
    · subst e
      rw [if_pos rfl]
      match r, hr with
      | 0, _ => simp [Half.ints]; omega
      | 1, _ => simp [Half.ints]; omega
      | 2, _ => simp [Half.ints]; omega
    · rw [if_neg e]
      rw [if_neg (by omega), if_neg (by omega), if_neg (by omega)]
  · rw [List.getElem?_eq_none (by omega), List.getElem?_eq_none (by simp only [List.length_set]; omega)]
set_option maxHeartbeats 8000000 in
theorem tightest_any (A : Option Addr) (n c : Nat) (l : List Half) (w : World) (hn : l.length = n) (hr : Row w A (ints (flat Half.ints l))) (hle : n ≤ 100000) (hok : ∀ x ∈ l, halfOk x = true) :
    Calls Tryz.prog 201 #[.slice A n c] w (HalvesMade (sortedH l) w) := by
  have HR := Lib.hid hr
  have HN := Lib.hid hn
  have HOk : Hid (∀ i (hi : i < l.length), halfOk l[i] = true) := fun i hi => hok _ (List.getElem_mem hi)
  have HSo := Lib.hid (sortedTo_ok hok)
  have HSl := Lib.hid (sortedTo_len l)
  clear hr hok
  go_enter Tryz.func201, Tryz.ntmps201
  go_wp2
  go_loopw [3, 9] (fun v i wr => ∃ (k : Nat), k ≤ n ∧ i = .int .i64 k ∧ Ext w wr ∧ wr.ownsRow w.heap.size 116 3 v (sortedTo l k).length (ints (flat Half.ints (sortedTo l k)))) (fun _ i _ => n - (intOf i).toNat)
  case atStart => exact ⟨0, Nat.zero_le _, rfl, Ext.refl _, World.ownsRow_nil _ _ _ _⟩
  case round =>
  obtain ⟨k, hk, rfl, hx, hown⟩ := hrel
  obtain ⟨A', c', rfl⟩ := own_form hown
  by_cases hlt : k < n
  rotate_left
  · obtain rfl : k = n := by omega
    go_wp2
    go_ret
    refine ⟨A', c', _, rfl, ?_, hx, ?_⟩
    · rw [← sortedTo_all, HN.out]
    · rw [← sortedTo_all, HN.out]; exact hown
  have hkl : k < l.length := by omega
  obtain ⟨b, off, rfl, hb, k0, k1, k2⟩ := (HR.out.ext hx).Half (k := k) hkl
  have hokh := HOk.out k hkl
  have Hst := Lib.hid (sortedTo_succ hkl)
  obtain ⟨h, hh⟩ : ∃ h, l[k]'hkl = h := ⟨_, rfl⟩
  rw [hh] at k0 k1 k2 hokh Hst
  clear hh
  have hSo := HSo.out k
  have hSl := HSl.out k
  obtain ⟨S, hS⟩ : ∃ S, sortedTo l k = S := ⟨_, rfl⟩
  rw [hS] at hown Hst hSo hSl
  rw [hS]
  clear hS
  have HSO := Lib.hid hSo
  clear hSo
  obtain ⟨m, hm⟩ : ∃ m, S.length = m := ⟨_, rfl⟩
  rw [hm] at hown hSl
  rw [hm]
  have HM := Lib.hid hm
  clear hm
  have sH := small_ok hokh
  have hmc : m ≤ c' := own_cap hown
  have hcm : c' ≤ 9223372036854775807 := by
    rcases hown.2 with ⟨hv', _⟩ | ⟨g, cap, cur, hv', _, _, _, h4, _⟩
    · injection hv' with _ _ e; omega
    · injection hv' with _ _ e; unfold maxLen at h4; omega
  have bH := Blk.new wr 116 #[.int .i64 h.A, .int .i64 h.B, .int .i64 h.C]
  have hwr := hx.size
  have HOwn0 := Lib.hid hown
  have hown1 := hown.alloc (.cells #[.int .i64 h.A, .int .i64 h.B, .int .i64 h.C] 116)
  have hx1 := hx.alloc (.cells #[.int .i64 h.A, .int .i64 h.B, .int .i64 h.C] 116)
  obtain ⟨w0, hw0⟩ : ∃ w0, wr.heap.size = w0 := ⟨_, rfl⟩
  rw [hw0] at bH hwr
  have Hw0 := Lib.hid hw0
  have HOwn := Lib.hid hown1
  clear hown1 hown hx
  go_wp2
  clear k0 k1 k2
  obtain ⟨wo, rfl⟩ : ∃ wo : World, wo = wr := ⟨_, rfl⟩
  have HB := Lib.hid (fun (g : Half) (w : World) (hg : SmallH g) => beforeAngle_any g h w hg sH)
  go_loopw [6] (fun a ws => ∃ (t : Nat), t ≤ m ∧ a = .int .i64 t ∧ Ext (wo.alloc (.cells #[.int .i64 h.A, .int .i64 h.B, .int .i64 h.C] 116)) ws ∧ ∀ i (hi : i < S.length), i < t → before S[i] h = true) (fun a _ => m - (intOf a).toNat)
  case atStart => exact ⟨0, Nat.zero_le _, rfl, Ext.refl _, fun i hi h0 => by omega⟩
  case round =>
  obtain ⟨t, ht, rfl, hy, hbef⟩ := hrel
  have Hbef := Lib.hid hbef
  clear hbef
  have hys := hy.size
  simp only [World.size_alloc] at hys
  replace bH := bH.ext hy
  have hown := own_ext HOwn.out hy
  have cH := fun o => bH.cell o
  have hlH := bH.lt
  by_cases htm : t < m
  · obtain ⟨g, cur, rfl, hgb, hgc, _⟩ := own_whole hown (by omega)
    have hgl : g < wr.heap.size := (Array.getElem?_eq_some_iff.1 hgc).1
    have hgw : g < w0 := by
      have h1 := own_lt HOwn0.out (g := g) rfl
      have h2 := Hw0.out
      omega
    clear hgc
    have htl : t < S.length := by rw [HM.out]; exact htm
    obtain ⟨c0, c1, c2⟩ := own_half hown htl
    have okx := HSO.out _ (List.getElem_mem htl)
    have Hbf : Hid (∀ _ : before (S[t]'htl) h = true, ∀ i (hi : i < S.length), i < t + 1 → before S[i] h = true) := fun hb i hi h1 => by
      by_cases e : i = t
      · subst e; exact hb
      · exact Hbef.out i hi (by omega)
    have Hpl : Hid (∀ _ : before (S[t]'htl) h = false, placeH h S = t) := fun hb => placeH_of (by omega) Hbef.out (fun _ => hb)
    have Hsm : Hid (∀ _ : placeH h S = t, sameDir (S[t]'htl) h = true → insertH h S = S.set t (tighter (S[t]'htl) h)) := fun hp hs => by subst hp; exact insertH_same h S htl hs
    have Hnw : Hid (∀ _ : placeH h S = t, sameDir (S[t]'htl) h = false → insertH h S = S.take t ++ h :: S.drop t) := fun hp hs => by subst hp; exact insertH_new h S (fun _ => hs)
    obtain ⟨x, hxt⟩ : ∃ x, S[t]'htl = x := ⟨_, rfl⟩
    rw [hxt] at c0 c1 c2 okx Hbf Hpl Hsm Hnw
    have Hxt := Lib.hid hxt
    clear hxt
    have sX := small_ok okx
    have htm2 : (t : Int) < (m : Int) := by omega
    have hcur := Ext.refl wr
    obtain ⟨q, hq⟩ : ∃ q, before x h = q := ⟨_, rfl⟩
    have hBx := fun w => HB.out x w sX
    rw [hq] at hBx Hbf Hpl
    have HBx := Lib.hid hBx
    clear hq hBx
    go_wp2_with fail
    go_region_held3 (fun w' => w'.cell? ⟨g, t * 3, none⟩ = some (.int .i64 x.A) ∧ w'.cell? ⟨g, t * 3 + 1, none⟩ = some (.int .i64 x.B) ∧ w'.cell? ⟨g, t * 3 + 2, none⟩ = some (.int .i64 x.C) ∧ w'.cell? ⟨w0, 0, none⟩ = some (.int .i64 h.A) ∧ w'.cell? ⟨w0, 1, none⟩ = some (.int .i64 h.B) ∧ w'.cell? ⟨w0, 2, none⟩ = some (.int .i64 h.C))
      (go_keep)
      ((go_at_call 264; (with_reducible refine (HBx.out _).mono ?_); rintro e w9 ⟨rfl, hx9⟩; replace hcur := Ext.trans (by first | exact hcur | exact hcur.drew) hx9; have c9 := fun o => hcur.use.1 g o (by omega); have d9 := fun o => hcur.use.1 w0 o (by omega)))
    cases q
    rotate_left
    · go_wp2
      go_roundw
      case rel => exact ⟨t + 1, by omega, by go_num, hy.trans hcur, Hbf.out rfl⟩
      case measure => simp [intOf]; omega
    have Hpt := Lib.hid (Hpl.out rfl)
    rename_i w1
    have hDx := fun w => sameDirection_any x h w sX sH
    obtain ⟨q, hq⟩ : ∃ q, sameDir x h = q := ⟨_, rfl⟩
    have hTx := fun w (hs : sameDir x h = true) => implTighter_any x h w okx hokh hs
    rw [hq] at hDx Hsm Hnw hTx
    have HDx := Lib.hid hDx
    have HTx := Lib.hid hTx
    clear hq hDx hTx
    have c9 := fun o => hcur.use.1 g o (by omega)
    have d9 := fun o => hcur.use.1 w0 o (by omega)
    go_wp2_with fail
    go_region_held3 (fun w' => w'.cell? ⟨g, t * 3, none⟩ = some (.int .i64 x.A) ∧ w'.cell? ⟨g, t * 3 + 1, none⟩ = some (.int .i64 x.B) ∧ w'.cell? ⟨g, t * 3 + 2, none⟩ = some (.int .i64 x.C) ∧ w'.cell? ⟨w0, 0, none⟩ = some (.int .i64 h.A) ∧ w'.cell? ⟨w0, 1, none⟩ = some (.int .i64 h.B) ∧ w'.cell? ⟨w0, 2, none⟩ = some (.int .i64 h.C))
      (go_keep)
      ((go_at_call 265; (with_reducible refine (HDx.out _).mono ?_); rintro e w9 ⟨rfl, hx9⟩; replace hcur := Ext.trans (by first | exact hcur | exact hcur.drew) hx9; have c9 := fun o => hcur.use.1 g o (by omega); have d9 := fun o => hcur.use.1 w0 o (by omega)))
    have hown2 := own_ext hown hcur
    have bH2 := bH.ext hcur
    have hs2 := hcur.size
    have hx2 := (hx1.trans hy).trans hcur
    clear c9 d9 c0 c1 c2 cH
    cases q
    · have Hins := Lib.hid (Hnw.out Hpt.out rfl)
      have dH := fun o => bH2.cell o
      go_wp2_with fail
      refine (insert_any w.heap.size (some ⟨g, 0, none⟩) m c' t w9.heap.size S h _ (hown2.alloc _) (by omega) (by omega) (by simp; omega) (Blk.new _ _ _) (fun e => by simp [Value.ownBlock] at e; omega)).mono ?_
      rintro e w5 ⟨A2, c2, rfl, hown5, hon⟩
      have hx5 : Ext w w5 := (hx2.alloc _).only hon (fun g' e => by simp [Value.ownBlock] at e; omega)
      have Hl : Hid ((S.take t ++ h :: S.drop t).length = m + 1) := by
        unfold Hid
        rw [List.length_append, List.length_cons, List.length_take, List.length_drop, HM.out]
        omega
      go_wp2
      go_roundw
      case rel => exact ⟨k + 1, by omega, by go_num, hx5, by rw [Hst.out, Hins.out, Hl.out]; exact hown5⟩
      case measure => simp [intOf]; omega
    · have Hins := Lib.hid (Hsm.out Hpt.out rfl)
      have dH := fun o => bH2.cell o
      obtain ⟨c0, c1, c2⟩ := own_half hown2 (t := t) htl
      rw [Hxt.out] at c0 c1 c2
      have f0 := fun j => hown2.frozenAt j
      have g9 : g < w9.heap.size := by omega
      go_wp2_with fail
      have HTy := Lib.hid (fun w => HTx.out w (by first | rfl | trivial))
      go_region_with ((go_at_call 266; go_must (refine (HTy.out _).mono ?_); rintro e w5 ⟨rfl, hx5⟩; have c5 := fun o => hx5.use.1 g o (by first | exact g9 | (simp; omega)); have f5 := fun o => hx5.use.2.1 g o (by first | exact g9 | (simp; omega))))
      all_goals
        rename_i w5 hx5 c5 f5
        have hx6 : Ext w w5 := Ext.trans (by first | exact hx2 | exact hx2.drew) hx5
        have hown6 : w5.ownsRow w.heap.size 116 3 (.slice (some ⟨g, 0, none⟩) m c') m (ints (flat Half.ints S)) := own_ext (w := w9.drew) hown2 hx5
        have HO6 := Lib.hid hown6
        clear hown6
        go_wp2
        go_roundw
        case rel => exact ⟨k + 1, by omega, by go_num, ((hx6.setCell (by first | omega | (simp <;> omega)) _).setCell (by first | omega | (simp <;> omega)) _).setCell (by first | omega | (simp <;> omega)) _, by
          rw [Hst.out, Hins.out, List.length_set, HM.out, flat_set _ _ _ htl]
          exact (World.ownsRow.stored (World.ownsRow.stored (World.ownsRow.stored HO6.out _ _).1 _ _).1 _ _).1⟩
        case measure => simp [intOf]; omega
  · obtain rfl : m = t := by omega
    have Hpt : Hid (placeH h S = m) := by
      refine placeH_of (by have := HM.out; omega) Hbef.out (fun hk => ?_)
      have := HM.out
      omega
    have Hins : Hid (insertH h S = S.take m ++ h :: S.drop m) := by
      have := insertH_new h S (fun hp => by have := Hpt.out; have := HM.out; omega)
      rw [Hpt.out] at this
      exact this
    have hge : ¬ (m : Int) < (m : Int) := by omega
    have hge2 : decide ((m : Int) < (m : Int)) = false := by simp
    have hge3 : decide (m < m) = false := by simp
    have hx2 := hx1.trans hy
    clear htm
    go_wp2_with fail
    go_quiet (fail)
    go_wp2_with fail
    go_quiet (fail)
    go_wp2_with fail
    refine (insert_any w.heap.size A' m c' m _ S h _ (by refine World.ownsRow.alloc (own_ext hown ?_) _; repeat (first | exact Ext.refl _ | refine Ext.drewN ?_ _ | refine Ext.drew ?_)) (by omega) (by omega) (by simp; omega) (Blk.new _ _ _) (fun e => by have h9 := (World.ownsRow.lt hown _ e).2; simp at h9)).mono ?_
    rintro e w5 ⟨A2, c2, rfl, hown5, hon⟩
    have hx5 : Ext w w5 := (by refine Ext.only (Ext.alloc ?_ _) hon (fun g' e => (World.ownsRow.lt hown _ e).1); repeat (first | exact hx2 | refine Ext.drewN ?_ _ | refine Ext.drew ?_))
    have Hl : Hid ((S.take m ++ h :: S.drop m).length = m + 1) := by
      unfold Hid
      rw [List.length_append, List.length_cons, List.length_take, List.length_drop, HM.out]
      omega
    go_wp2
    go_roundw
    case rel => exact ⟨k + 1, by omega, by go_num, hx5, by rw [Hst.out, Hins.out, Hl.out]; exact hown5⟩
    case measure => simp [intOf]; omega
end Go.Proofs.YtfnmbpjkjajpcaaGreatDoor
namespace Go.Proofs.YtfnmbpjkjajpcaaGreatDoor
open Go.ChangeShapes Go.WideShapes Go.ChangeAt Go.RowKit
set_option linter.unusedVariables false
set_option maxRecDepth 100000
theorem frameHalves_any (w : World) :
    Calls Tryz.prog 203 #[] w fun e w' => ∃ A, e = .returned (.slice A 4 4) ∧ Row w' A (ints (flat Half.ints frame)) ∧ Ext w w' := by
  go_enter Tryz.func203, Tryz.ntmps203
  go_wp2
  go_ret
  refine ⟨_, rfl, ?_, (Ext.refl w).alloc _⟩
  refine .inr ⟨w.heap.size, 0, rfl, fun j v hj => ?_⟩
  rw [(Blk.new w _ _).cell, Nat.zero_add]
  simpa [ints, flat, frame, Half.ints] using hj
theorem halfGrow_any (k : Nat) (w : World) (h0 : 0 < k) (h1 : k ≤ 1048576) :
    Calls Tryz.prog 268 #[.slice none 0 0, .int .i64 k] w fun e w' => ∃ c, e = .returned (.slice (some ⟨w.heap.size, 0, none⟩) 0 c) ∧ w'.ownsRow w.heap.size 116 3 (.slice (some ⟨w.heap.size, 0, none⟩) 0 c) 0 [] ∧ Ext w w' := by
  obtain ⟨i0, hi0, hz0, hz1, hz2⟩ := info_parts half_info
  obtain ⟨G, hG⟩ : ∃ G, G = grownCap w k 0 116 := ⟨_, rfl⟩
  have hGn : k ≤ G := by rw [hG]; exact grownCap_ge w _ _ _
  have hGm : G ≤ maxLen := by rw [hG]; exact grownCap_le_maxLen w k 0 116 (by unfold maxLen; omega)
  obtain ⟨Z, hZ⟩ : ∃ Z, Z = Builtin.zeroCells (Value.agg #[.int .i64 0, .int .i64 0, .int .i64 0]).cells k ++ Builtin.zeroCells (Value.agg #[.int .i64 0, .int .i64 0, .int .i64 0]).cells (G - k) := ⟨_, rfl⟩
  have hZs : Z.size = G * 3 := by
    rw [hZ, Array.size_append, size_zeroCells, size_zeroCells]
    change k * 3 + (G - k) * 3 = G * 3
    omega
  have hr : ∀ ty, (Builtin.append_ #[32, 3] ty #[.slice none 0 0, .int .i64 k]).run Tryz.prog w = .ok (.slice (some ⟨w.heap.size, 0, none⟩) k G) (w.drew.alloc (.cells Z 116)) := fun ty => by
    have h := Lib.run_append_nil_zeros (P := Tryz.prog) w 32 3 ty 116 i0 _ .i64 .i64 Tryz.underlying32 Tryz.underlying3 hi0 hz0 k h0 (by omega) (by omega) (by rw [hz2]; omega)
    rw [← hG, ← hZ] at h
    exact h
  have hGm2 : G ≤ 9223372036854775807 := by unfold maxLen at hGm; omega
  have HZ := Lib.hid (And.intro hZs hGm)
  clear hZ hG hZs hGm
  have hk1 : ¬ (k : Int) < 0 := by omega
  have hk2 : (0 : Int) < (k : Int) := by omega
  go_enter Tryz.func268, Tryz.ntmps268
  go_wp2_with (at_builtin; go_must (refine Lib.wpList_append_run _ rfl _ _ _ _ rfl _ _ rfl rfl _ _ (hr _) ?_))
  go_ret
  exact ⟨G, rfl, World.ownsRow_made (w := w.drew) (base := w.heap.size) Z G (Nat.le_refl _) HZ.out.2 HZ.out.1, ((Ext.refl w).alloc _).drew⟩
def catTo (l1 l2 : List Half) (k : Nat) : List Half := if k = 0 then [] else if k = 1 then l1 else l1 ++ l2
set_option maxHeartbeats 4000000 in
theorem concat_any (B : Nat) (A1 A2 : Option Addr) (n1 k1 n2 k2 : Nat) (l1 l2 : List Half) (w : World) (hb : Blk w B 32 #[.slice A1 n1 k1, .slice A2 n2 k2]) (h1 : l1.length = n1) (h2 : l2.length = n2) (r1 : Row w A1 (ints (flat Half.ints l1))) (r2 : Row w A2 (ints (flat Half.ints l2))) (p1 : 0 < n1) (p2 : 0 < n2) (m1 : n1 ≤ 100000) (m2 : n2 ≤ 100000) :
    Calls Tryz.prog 202 #[.slice (some ⟨B, 0, none⟩) 2 2] w (HalvesMade (l1 ++ l2) w) := by
  obtain ⟨i0, hi0, hz0, hz1, hz2⟩ := info_parts half_info
  have cB := fun o => hb.cell o
  have HB := Lib.hid hb
  have H1 := Lib.hid h1
  have H2 := Lib.hid h2
  have R1 := Lib.hid r1
  have R2 := Lib.hid r2
  clear hb h1 h2 r1 r2
  go_enter Tryz.func202, Tryz.ntmps202
  go_wp2
  go_loop [3, 11] (fun s i => ∃ k : Nat, k ≤ 2 ∧ i = .int .i64 k ∧ s = .int .i64 ((if k = 0 then 0 else if k = 1 then n1 else n1 + n2 : Nat) : Int)) (fun _ i => 2 - (intOf i).toNat)
  case atStart => exact ⟨0, by omega, rfl, rfl⟩
  case round =>
  obtain ⟨k, hk, rfl, rfl⟩ := hrel
  rcases (by omega : k = 0 ∨ k = 1 ∨ k = 2) with rfl | rfl | rfl
  · go_wp2
    go_round
    case rel => exact ⟨1, by omega, rfl, by simp⟩
    case measure => simp [intOf]
  · go_wp2
    go_round
    case rel => exact ⟨2, by omega, rfl, by simp⟩
    case measure => simp [intOf]
  · simp only [Nat.reduceEqDiff, if_false]
    go_wp2_with fail
    refine (halfGrow_any (n1 + n2) _ (by omega) (by omega)).mono ?_
    rintro e w1 ⟨c, rfl, hown, hx⟩
    clear cB
    go_wp2
    go_loopw [6, 27] (fun v i wr => ∃ (k : Nat), k ≤ 2 ∧ i = .int .i64 k ∧ Ext w wr ∧ wr.ownsRow w.heap.size 116 3 v (catTo l1 l2 k).length (ints (flat Half.ints (catTo l1 l2 k)))) (fun _ i _ => 2 - (intOf i).toNat)
    case atStart => exact ⟨0, by omega, rfl, hx, hown⟩
    case round =>
    obtain ⟨k, hk, rfl, hy, hwn⟩ := hrel
    have b1 := HB.out.ext hy
    have c1 := fun o => b1.cell o
    have hys := hy.size
    rcases (by omega : k = 0 ∨ k = 1 ∨ k = 2) with rfl | rfl | rfl
    · obtain ⟨b, off, rfl, _, hc⟩ := (R1.out.ext hy).at_ (ints_ne (k := 0) (by rw [flat_length Half.ints_len, H1.out]; omega))
      have hcc : ∀ j u, (ints (flat Half.ints l1))[j]? = some u → wr.cell? ((⟨b, off, none⟩ : Addr).add j) = some u := fun j u hj => by
        rw [show ((⟨b, off, none⟩ : Addr).add j) = ⟨b, off + j, none⟩ from by unfold Addr.add; split <;> simp_all]
        exact hc j u hj
      have hq : (catTo l1 l2 0).length = 0 := rfl
      have HE : Hid (catTo l1 l2 1 = catTo l1 l2 0 ++ l1) := rfl
      rw [hq] at hwn
      clear hq hc
      go_wp2_with (at_builtin; go_must (refine wpList_append_own _ rfl _ _ 32 rfl w.heap.size 116 i0 (.agg #[.int .i64 0, .int .i64 0, .int .i64 0]) 3 24 Tryz.underlying32 hi0 hz0 hz1 hz2 rfl (by decide) _ _ _ rfl hwn ⟨b, off, none⟩ n1 k1 (ints (flat Half.ints l1)) rfl (by rw [ints_length, flat_length Half.ints_len, H1.out]) hcc (oneCell_ints _) (by unfold maxLen; omega) (by omega) hys ?_); intro v' w4 hown' hgrow _)
      have hx4 : Ext w w4 := hy.grown hgrow (fun g hg => (hwn.lt g hg).1)
      go_roundw
      case rel =>
        refine ⟨1, by omega, by go_num, hx4, ?_⟩
        rw [HE.out, flat_app, ints_append, List.length_append, show (catTo l1 l2 0).length = 0 from rfl, H1.out]
        exact hown'
      case measure => simp [intOf]
    · obtain ⟨b, off, rfl, _, hc⟩ := (R2.out.ext hy).at_ (ints_ne (k := 0) (by rw [flat_length Half.ints_len, H2.out]; omega))
      have hcc : ∀ j u, (ints (flat Half.ints l2))[j]? = some u → wr.cell? ((⟨b, off, none⟩ : Addr).add j) = some u := fun j u hj => by
        rw [show ((⟨b, off, none⟩ : Addr).add j) = ⟨b, off + j, none⟩ from by unfold Addr.add; split <;> simp_all]
        exact hc j u hj
      have hq : (catTo l1 l2 1).length = n1 := H1.out
      have HE : Hid (catTo l1 l2 2 = catTo l1 l2 1 ++ l2) := rfl
      rw [hq] at hwn
      clear hq hc
      go_wp2_with (at_builtin; go_must (refine wpList_append_own _ rfl _ _ 32 rfl w.heap.size 116 i0 (.agg #[.int .i64 0, .int .i64 0, .int .i64 0]) 3 24 Tryz.underlying32 hi0 hz0 hz1 hz2 rfl (by decide) _ _ _ rfl hwn ⟨b, off, none⟩ n2 k2 (ints (flat Half.ints l2)) rfl (by rw [ints_length, flat_length Half.ints_len, H2.out]) hcc (oneCell_ints _) (by unfold maxLen; omega) (by omega) hys ?_); intro v' w4 hown' hgrow _)
      have hx4 : Ext w w4 := hy.grown hgrow (fun g hg => (hwn.lt g hg).1)
      go_roundw
      case rel =>
        refine ⟨2, by omega, by go_num, hx4, ?_⟩
        rw [HE.out, flat_app, ints_append, List.length_append, show (catTo l1 l2 1).length = n1 from H1.out, H2.out]
        exact hown'
      case measure => simp [intOf]
    · obtain ⟨A', c', rfl⟩ := own_form hwn
      go_wp2
      go_ret
      exact ⟨A', c', _, rfl, rfl, hy, hwn⟩
def RegMade (r : List Half × Bool) (w : World) (e : Ending) (w' : World) : Prop :=
  ∃ A c n, e = .returned (.tuple #[.agg #[.slice A n c], .bool r.2]) ∧ n = r.1.length ∧ Ext w w' ∧ w'.ownsRow w.heap.size 116 3 (.slice A n c) n (ints (flat Half.ints r.1))
theorem RegMade.nil {r : List Half × Bool} {w w' : World} {e : Ending} (b : Bool) (hr : r = ([], b)) (he : e = .returned (.tuple #[.agg #[.slice none 0 0], .bool b])) (hx : Ext w w') : RegMade r w e w' := by
  subst hr
  exact ⟨none, 0, 0, he, rfl, hx, World.ownsRow_nil _ _ _ _⟩
theorem own_far {w : World} {base : Nat} {e : TypeId} {s n : Nat} {v : Value} {xs : List Value} (h : w.ownsRow base e s v n xs) {p : Addr} (hp : p.block < base) (u : Value) : (w.setCell p u).ownsRow base e s v n xs := by
  refine World.ownsRow.kept h (row := some p.block) ⟨rfl, rfl, rfl, by simp [World.setCell], fun k _ hk => heap_setCell_other w p k u (fun e => hk (by rw [e]))⟩ ?_
  refine .inr (fun e => ?_)
  have := (h.lt _ e).1
  omega
def edgesTo (S : List Half) (k : Nat) : List Half := (S.take k).filter (edgeFb S)
theorem edgesTo_yes {S : List Half} {k : Nat} (h : k < S.length) (he : edgeFb S S[k] = true) : edgesTo S (k + 1) = edgesTo S k ++ [S[k]] := by
  unfold edgesTo; rw [take_next h, List.filter_append]; simp [he]
theorem edgesTo_no {S : List Half} {k : Nat} (h : k < S.length) (he : edgeFb S S[k] = false) : edgesTo S (k + 1) = edgesTo S k := by
  unfold edgesTo; rw [take_next h, List.filter_append]; simp [he]
theorem edgesTo_le (S : List Half) (k : Nat) : (edgesTo S k).length ≤ k := by
  unfold edgesTo
  exact Nat.le_trans (List.length_filter_le _ _) (by rw [List.length_take]; omega)
theorem made_open {hs : List Half} (hS : Good (sortedH (frame ++ hs))) (h : ∀ k, k < (sortedH (frame ++ hs)).length → edgeV (sortedH (frame ++ hs)) k = false) : madeOf hs = edgesTo (sortedH (frame ++ hs)) (sortedH (frame ++ hs)).length := by
  unfold madeOf makeI edgesTo
  rw [List.take_length, if_pos]
  rw [open_rooms hS]
  intro k i hk hi
  have := h k hk
  unfold edgeV at this
  exact allN_at (by simpa using this) hi
theorem made_void {hs : List Half} (hS : Good (sortedH (frame ++ hs))) {k : Nat} (hk : k < (sortedH (frame ++ hs)).length) (h : edgeV (sortedH (frame ++ hs)) k = true) : madeOf hs = [] := by
  unfold madeOf makeI
  rw [if_neg]
  intro ho
  have hr := (open_rooms hS).1 ho
  unfold edgeV at h
  have : allN (roomAt (sortedH (frame ++ hs)) k) (sortedH (frame ++ hs)).length = true := by
    have key : ∀ n, n ≤ (sortedH (frame ++ hs)).length → allN (roomAt (sortedH (frame ++ hs)) k) n = true := by
      intro n
      induction n with
      | zero => intro _; rfl
      | succ n ih => intro hn; exact allN_step (ih (by omega)) (hr k n hk (by omega))
    exact key _ (Nat.le_refl _)
  rw [this] at h
  cases h
theorem edgeE_at {S : List Half} {k : Nat} (hk : k < S.length) (h : edgeV S k = false) : edgeE S k = edgeFb S S[k] := by
  unfold edgeE; rw [h, getD_at hk]; rfl
set_option maxHeartbeats 8000000 in
theorem meetAll_any (A : Option Addr) (n c : Nat) (hs : List Half) (w : World) (hn : hs.length = n) (hr : Row w A (ints (flat Half.ints hs))) (hp : 0 < n) (hle : n ≤ 1000) (hok : hs.all halfOk = true) :
    Calls Tryz.prog 135 #[.slice A n c] w (RegMade (fitR (madeOf hs)) w) := by
  have hS := made_good hok
  have hokF : ∀ x ∈ frame ++ hs, halfOk x = true := fun x hx => by
    rcases List.mem_append.1 hx with hx | hx
    · exact frame_ok x hx
    · exact List.all_eq_true.1 hok x hx
  have hokS : ∀ x ∈ sortedH (frame ++ hs), halfOk x = true := by have := sortedTo_ok hokF (frame ++ hs).length; rw [sortedTo_all] at this; exact this
  have hSl : (sortedH (frame ++ hs)).length ≤ n + 4 := by
    have := sortedTo_len (frame ++ hs) (frame ++ hs).length
    rw [sortedTo_all] at this
    simp [frame] at this
    simp [frame]
    omega
  have HMo := Lib.hid (made_open hS)
  have HMv := Lib.hid (fun k hk h => made_void (hs := hs) hS (k := k) hk h)
  have HFl : Hid ((frame ++ hs).length = n + 4) := by unfold Hid; rw [List.length_append, hn]; simp [frame]; omega
  have HokF := Lib.hid hokF
  have hx0 : Ext w (w.alloc (.cells #[.slice none 0 0] 34)) := (Ext.refl w).alloc _
  have b0 := Blk.new w 34 #[.slice none 0 0]
  obtain ⟨S, hSe⟩ : ∃ S, sortedH (frame ++ hs) = S := ⟨_, rfl⟩
  rw [hSe] at hS hokS hSl HMo HMv
  have HSe := Lib.hid hSe
  have HS := Lib.hid (And.intro hS hokS)
  have HR := Lib.hid hr
  have HN := Lib.hid hn
  have hpL := Lib.hid (show hs.length = n from hn)
  clear hS hokS hr hokF hok hSe hn
  go_enter Tryz.func135, Tryz.ntmps135
  go_wp2_with fail
  refine (frameHalves_any _).mono ?_
  rintro e w1 ⟨F, rfl, hF, hx1⟩
  replace hx0 := hx0.trans hx1
  replace b0 := b0.ext hx1
  have hF2 := hF.ext ((Ext.refl w1).alloc (.cells #[.slice F 4 4, .slice A n c] 32))
  have hR2 := (HR.out.ext hx0).ext ((Ext.refl w1).alloc (.cells #[.slice F 4 4, .slice A n c] 32))
  go_wp2_with fail
  refine (concat_any w1.heap.size F A 4 4 n c frame hs _ (Blk.new w1 _ _) rfl HN.out hF2 hR2 (by omega) hp (by omega) (by omega)).mono ?_
  rintro e w2 ⟨A2, c2, n2, rfl, hn2, hx2, hown2⟩
  clear hF hF2 hR2
  replace hx0 := (hx0.alloc _).trans hx2
  replace b0 := (b0.alloc _).ext hx2
  rw [HFl.out] at hn2
  subst hn2
  go_wp2_with fail
  refine (tightest_any A2 (n + 4) c2 (frame ++ hs) _ HFl.out (Row.of_own hown2) (by omega) HokF.out).mono ?_
  rintro e w3 ⟨A3, c3, m, rfl, hm, hx3, hown3⟩
  rw [HSe.out] at hm hown3
  clear hown2
  replace hx0 := hx0.trans hx3
  replace b0 := b0.ext hx3
  have hrS := Row.of_own hown3
  have HM := Lib.hid hm
  have HRS := Lib.hid hrS
  clear hrS hown3 hx1 hx2 hx3
  rw [← hm] at hSl
  clear hm
  obtain ⟨i0, hi0, hz0, hz1, hz2⟩ := info_parts half_info
  have bP0 := Lib.hid (Blk.new w3 34 #[.slice none 0 0])
  go_wp2
  go_loopw [17] (fun i wr => ∃ (k : Nat) (A4 : Option Addr) (c4 : Nat), k ≤ m ∧ i = .int .i64 k ∧ Ext w3 wr ∧ Blk wr w3.heap.size 34 #[.slice A4 (edgesTo S k).length c4] ∧ wr.ownsRow (w3.heap.size + 1) 116 3 (.slice A4 (edgesTo S k).length c4) (edgesTo S k).length (ints (flat Half.ints (edgesTo S k))) ∧ ∀ j, j < k → edgeV S j = false) (fun i _ => m - (intOf i).toNat)
  case atStart => exact ⟨0, none, 0, Nat.zero_le _, rfl, (Ext.refl w3).alloc _, bP0.out, World.ownsRow_nil _ _ _ _, fun j h => by omega⟩
  case round =>
  obtain ⟨k, A4, c4, hk, rfl, hy, bP, hown, hvd⟩ := hrel
  have Hvd := Lib.hid hvd
  clear hvd
  have hz := hx0.trans hy
  have bR := b0.ext hy
  have hys := hy.size
  have hRl := b0.lt
  have hel := edgesTo_le S k
  obtain ⟨q, hq⟩ : ∃ q, (edgesTo S k).length = q := ⟨_, rfl⟩
  rw [hq] at bP hown hel
  have HQ := Lib.hid hq
  clear hq
  by_cases hlt : k < m
  rotate_left
  · obtain rfl : k = m := by omega
    have hmo := HMo.out (fun j hj => Hvd.out j (by rw [HM.out]; exact hj))
    rw [← HM.out] at hmo
    have cP := fun o => bP.cell o
    have cR := fun o => bR.cell o
    have fR := fun o => bR.frozen o
    by_cases h40 : q ≤ 40
    · have HFt : Hid (fitR (madeOf hs) = (edgesTo S k, true)) := by unfold Hid fitR; rw [hmo, HQ.out, if_pos h40]
      have h40i : ¬ (40 : Int) < (q : Int) := by omega
      have HO := Lib.hid hown
      clear hmo hown
      go_wp2
      refine bodyPost_ret (v := .tuple #[.agg #[.slice A4 q c4], .bool true]) (by simp [results, Tryz.results135, go_sem, cR]) rfl ?_
      rw [HFt.out]
      exact ⟨A4, c4, q, rfl, HQ.out.symm, hz.setCell (Nat.le_refl _) _, own_base (own_far HO.out (by simp; omega) _) (by have := hx0.size; omega)⟩
    · have HFt : Hid (fitR (madeOf hs) = ([], false)) := by unfold Hid fitR; rw [hmo, HQ.out, if_neg h40]
      have h40i : (40 : Int) < (q : Int) := by omega
      clear hmo hown
      go_wp2
      refine bodyPost_ret (v := .tuple #[.agg #[.slice none 0 0], .bool false]) (by simp [results, Tryz.results135, go_sem, cR]) rfl ?_
      exact RegMade.nil false HFt.out rfl (hz.setCell (Nat.le_refl _) _)
  have hkl : k < S.length := by rw [← HM.out]; exact hlt
  obtain ⟨b, off, rfl, hb, h0, h1, h2⟩ := (HRS.out.ext hy).Half (k := k) hkl
  have hRk := HRS.out.ext hy
  obtain ⟨h, hh⟩ : ∃ h, S[k]'hkl = h := ⟨_, rfl⟩
  have Hev := Lib.hid (fun hv => edgeE_at (S := S) (k := k) hkl hv)
  have Hye := Lib.hid (fun he => edgesTo_yes (S := S) (k := k) hkl he)
  have Hno := Lib.hid (fun he => edgesTo_no (S := S) (k := k) hkl he)
  rw [hh] at h0 h1 h2 Hev Hye Hno
  clear hh
  have bH := Blk.new wr 116 #[.int .i64 h.A, .int .i64 h.B, .int .i64 h.C]
  have hz1' := hz.alloc (.cells #[.int .i64 h.A, .int .i64 h.B, .int .i64 h.C] 116)
  have hy1 := hy.alloc (.cells #[.int .i64 h.A, .int .i64 h.B, .int .i64 h.C] 116)
  have hRk1 := hRk.ext ((Ext.refl wr).alloc (.cells #[.int .i64 h.A, .int .i64 h.B, .int .i64 h.C] 116))
  go_wp2_with fail
  refine (isEdge_any (some ⟨b, off, none⟩) m c3 k S _ HM.out.symm hRk1 (by omega) hlt HS.out.2 HS.out.1).mono ?_
  rintro e w5 ⟨rfl, hx5⟩
  clear hRk hRk1
  replace bH := bH.ext hx5
  replace bP := (bP.alloc _).ext hx5
  replace bR := (bR.alloc _).ext hx5
  replace hown := own_ext (hown.alloc _) hx5
  replace hz := (hz.alloc _).trans hx5
  replace hy := (hy.alloc _).trans hx5
  have cR := fun o => bR.cell o
  have fR := fun o => bR.frozen o
  have cP := fun o => bP.cell o
  have fP := fun o => bP.frozen o
  have cH := fun o => bH.cell o
  by_cases hv : edgeV S k = true
  · have HFt : Hid (fitR (madeOf hs) = ([], true)) := by
      unfold Hid fitR
      rw [HMv.out k hkl hv]
      rfl
    rw [hv]
    clear hv
    go_wp2
    refine bodyPost_ret (v := .tuple #[.agg #[.slice none 0 0], .bool true]) (by simp [results, Tryz.results135, go_sem, cR]) rfl ?_
    exact RegMade.nil true HFt.out rfl (hz.setCell (Nat.le_refl _) _)
  have hv' : edgeV S k = false := by simpa using hv
  have Hvd2 : Hid (∀ j, j < k + 1 → edgeV S j = false) := fun j hj => by
    by_cases e : j = k
    · subst e; exact hv'
    · exact Hvd.out j (by omega)
  have he := Hev.out hv'
  rw [hv', he]
  clear hv hv' he
  by_cases hee : edgeFb S h = true
  rotate_left
  · have hee' : edgeFb S h = false := by simpa using hee
    have HE2 := Lib.hid (Hno.out hee')
    rw [hee']
    clear hee hee'
    go_wp2
    go_roundw
    case rel => exact ⟨k + 1, A4, c4, by omega, by go_num, hy, by rw [HE2.out, HQ.out]; exact bP, by rw [HE2.out, HQ.out]; exact hown, Hvd2.out⟩
    case measure => simp [intOf]; omega
  have HE2 := Lib.hid (Hye.out hee)
  rw [hee]
  clear hee
  have hs5 := hx5.size
  simp only [World.size_alloc] at hs5
  have hnews := (Blk.new w5 116 #[.int .i64 h.A, .int .i64 h.B, .int .i64 h.C])
  have hcc : ∀ j u, (ints h.ints)[j]? = some u → (w5.alloc (.cells #[.int .i64 h.A, .int .i64 h.B, .int .i64 h.C] 116)).cell? ((⟨w5.heap.size, 0, none⟩ : Addr).add j) = some u := fun j u hj => by
    rw [show ((⟨w5.heap.size, 0, none⟩ : Addr).add j) = ⟨w5.heap.size, 0 + j, none⟩ from by unfold Addr.add; split <;> simp_all, Nat.zero_add, hnews.cell]
    simpa [ints, Half.ints] using hj
  clear hnews
  have bP6 := bP.alloc (.cells #[.int .i64 h.A, .int .i64 h.B, .int .i64 h.C] 116)
  go_wp2_with (at_builtin; go_must (refine wpList_append_own _ rfl _ _ 32 rfl (w3.heap.size + 1) 116 i0 (.agg #[.int .i64 0, .int .i64 0, .int .i64 0]) 3 24 Tryz.underlying32 hi0 hz0 hz1 hz2 rfl (by decide) _ _ _ rfl (hown.alloc _) ⟨w5.heap.size, 0, none⟩ 1 1 (ints h.ints) rfl rfl hcc (oneCell_ints _) (by unfold maxLen; omega) (by omega) (by simp; omega) ?_); intro v' w6 hown' hgrow _; obtain ⟨A6, c6, rfl⟩ := own_form hown'; have bP7 : Blk w6 w3.heap.size 34 #[.slice A4 q c4] := (hgrow.block w3.heap.size bP6.lt (fun e => by have := (hown.lt _ e.symm).1; omega)).trans bP6; have cP7 := fun o => bP7.cell o; have fP7 := fun o => bP7.frozen o)
  have hy6 : Ext w3 w6 := (hy.alloc _).grown hgrow (fun g hg => by have := (hown.lt g hg).1; omega)
  go_roundw
  case rel =>
    refine ⟨k + 1, A6, c6, by omega, by go_num, hy6.setCell (Nat.le_refl _) _, ?_, ?_, Hvd2.out⟩
    · rw [HE2.out, List.length_append, HQ.out]
      exact bP7.set_ 0 _
    · rw [HE2.out, List.length_append, HQ.out, flat_app, ints_append]
      exact own_far hown' (by simp) _
  case measure => simp [intOf]; omega
def HalvesI (hs : List Half) : Prop := ∀ x ∈ hs, ∀ z ∈ Half.ints x, I64 z
theorem HalvesI.at_ {hs : List Half} (h : HalvesI hs) {k : Nat} (hk : k < hs.length) : I64 hs[k].A ∧ I64 hs[k].B ∧ I64 hs[k].C := by
  have := h _ (List.getElem_mem hk)
  exact ⟨this _ (by simp [Half.ints]), this _ (by simp [Half.ints]), this _ (by simp [Half.ints])⟩
set_option maxHeartbeats 1000000 in
theorem areHalves_any (A : Option Addr) (n c : Nat) (hs : List Half) (w : World) (hn : hs.length = n) (hr : Row w A (ints (flat Half.ints hs))) (hI : HalvesI hs) (hle : n ≤ maxLen) :
    Calls Tryz.prog 134 #[.slice A n c] w fun e w' => e = .returned (.bool (hs.all halfOk)) ∧ Ext w w' := by
  unfold maxLen at hle
  have HI := Lib.hid (fun k hk => hI.at_ (k := k) hk)
  have HR := Lib.hid hr
  clear hI hr
  go_enter Tryz.func134, Tryz.ntmps134
  go_wp2
  go_loopw [7] (fun i wr => ∃ k : Nat, k ≤ n ∧ i = .int .i64 k ∧ Ext w wr ∧ (hs.take k).all halfOk = true) (fun i _ => n - (intOf i).toNat)
  case atStart => exact ⟨0, Nat.zero_le _, rfl, Ext.refl _, rfl⟩
  case round =>
  obtain ⟨k, hk, rfl, hx, hall⟩ := hrel
  have Hall := Lib.hid hall
  clear hall
  by_cases hlt : k < n
  rotate_left
  · go_wp2
    go_ret
    refine ⟨ret_bool ?_, hx⟩
    have := Hall.out
    rw [List.take_of_length_le (by omega)] at this
    exact this.symm
  have hkl : k < hs.length := by omega
  obtain ⟨b, off, rfl, hb, h0, h1, h2⟩ := (HR.out.ext hx).Half (k := k) hkl
  obtain ⟨i1, i2, i3⟩ := HI.out k hkl
  have Hy : Hid (∀ _ : halfOk (hs[k]'hkl) = true, (hs.take (k + 1)).all halfOk = true) := fun hp => by rw [all_take_succ _ _ _ hkl, hp, Hall.out]; rfl
  have Hn : Hid (∀ _ : halfOk (hs[k]'hkl) = false, hs.all halfOk = false) := fun hp => all_false_at _ _ _ hkl hp
  obtain ⟨h, hh⟩ : ∃ h, hs[k]'hkl = h := ⟨_, rfl⟩
  rw [hh] at h0 h1 h2 i1 i2 i3 Hy Hn
  clear hh
  have hc := fun w => implHalfOk_any h.A h.B h.C w i1 i2 i3
  change ∀ w, Calls Tryz.prog _ _ w fun e w' => e = .returned (.bool (halfOk h)) ∧ Ext w w' at hc
  obtain ⟨q, hq⟩ : ∃ q, halfOk h = q := ⟨_, rfl⟩
  rw [hq] at hc Hy Hn
  have HC := Lib.hid hc
  clear hc hq
  go_wp2_with fail
  refine (HC.out _).mono ?_
  rintro e w1 ⟨rfl, hx1⟩
  have hx2 := (hx.alloc _).trans hx1
  cases q
  · go_wp2
    go_ret
    exact ⟨ret_bool (Hn.out (by first | rfl | trivial)).symm, hx2⟩
  · go_wp2
    go_roundw
    case rel => exact ⟨k + 1, by omega, by go_num, hx2, Hy.out (by first | rfl | trivial)⟩
    case measure => simp [intOf]; omega
set_option maxHeartbeats 1000000 in
theorem implRegionFrom_any (A : Option Addr) (n c : Nat) (hs : List Half) (w : World) (hn : hs.length = n) (hr : Row w A (ints (flat Half.ints hs))) (hI : HalvesI hs) (hle : n ≤ maxLen) (hp : 0 < n) :
    Calls Tryz.prog 69 #[.slice A n c] w (RegMade (fromR hs) w) := by
  have hle' := hle
  unfold maxLen at hle
  have hx0 : Ext w (w.alloc (.cells #[.slice none 0 0] 34)) := (Ext.refl w).alloc _
  have b0 := Blk.new w 34 #[.slice none 0 0]
  by_cases h40 : n ≤ 40
  rotate_left
  · have HF : Hid (fromR hs = ([], false)) := if_neg (by rw [hn]; omega)
    have h40i : (40 : Int) < (n : Int) := by omega
    have c0 := fun o => b0.cell o
    go_enter Tryz.func69, Tryz.ntmps69
    go_wp2
    refine bodyPost_ret (v := .tuple #[.agg #[.slice none 0 0], .bool false]) (by simp [results, Tryz.results69, go_sem, c0]) rfl ?_
    exact RegMade.nil false HF.out rfl (by first | exact hx0 | exact hx0.setCell (Nat.le_refl _) _)
  have h40i : ¬ (40 : Int) < (n : Int) := by omega
  have HA := Lib.hid (areHalves_any A n c hs _ hn (hr.ext hx0) hI hle')
  by_cases hok : hs.all halfOk = true
  rotate_left
  · have hok' : hs.all halfOk = false := by simpa using hok
    have HF : Hid (fromR hs = ([], false)) := if_neg (fun h => hok h.2)
    rw [hok'] at HA
    clear hok hok'
    go_enter Tryz.func69, Tryz.ntmps69
    go_wp2_with fail
    refine HA.out.mono ?_
    rintro e w1 ⟨rfl, hx1⟩
    replace b0 := b0.ext hx1
    have c0 := fun o => b0.cell o
    have f0 := fun o => b0.frozen o
    go_wp2
    refine bodyPost_ret (v := .tuple #[.agg #[.slice none 0 0], .bool false]) (by simp [results, Tryz.results69, go_sem, c0]) rfl ?_
    exact RegMade.nil false HF.out rfl ((hx0.trans hx1).setCell (Nat.le_refl _) _)
  rw [hok] at HA
  have HF : Hid (fromR hs = fitR (madeOf hs)) := if_pos ⟨by omega, hok⟩
  have HM := Lib.hid (fun w hr => meetAll_any A n c hs w hn hr hp (by omega) hok)
  have HR := Lib.hid hr
  clear hok hr
  go_enter Tryz.func69, Tryz.ntmps69
  go_wp2_with fail
  refine HA.out.mono ?_
  rintro e w1 ⟨rfl, hx1⟩
  replace hx0 := hx0.trans hx1
  go_wp2_with fail
  refine (HM.out _ (HR.out.ext hx0)).mono ?_
  rintro e w2 ⟨A2, c2, n2, rfl, hn2, hx2, hown⟩
  have hs1 := hx0.size
  rw [← HF.out] at hn2 hown
  rw [← HF.out]
  obtain ⟨q, hq⟩ : ∃ q, (fromR hs).2 = q := ⟨_, rfl⟩
  have HQ := Lib.hid hq
  have HN2 := Lib.hid hn2
  rw [hq]
  clear hq hn2
  replace b0 := (b0.ext hx1).ext hx2
  have c0 := fun o => b0.cell o
  have f0 := fun o => b0.frozen o
  have hl0 := b0.lt
  have hx3 := hx0.trans hx2
  have hlt0 : w.heap.size < w1.heap.size := by have := hx1.size; simp at this; omega
  have HO := Lib.hid hown
  clear hown
  go_wp2
  refine bodyPost_ret (v := .tuple #[.agg #[.slice A2 n2 c2], .bool q]) (by simp [results, Tryz.results69, go_sem, c0]) rfl ?_
  exact ⟨A2, c2, n2, by rw [HQ.out], HN2.out, hx3.setCell (Nat.le_refl _) _, own_base (own_far HO.out hlt0 _) hs1⟩
theorem fromR_len (hs : List Half) : (fromR hs).1.length ≤ 40 := by
  unfold fromR fitR
  split
  · split
    · assumption
    · simp
  · simp
set_option maxHeartbeats 1000000 in
theorem implRegionOk_any (A : Option Addr) (n c : Nat) (hs : List Half) (w : World) (hn : hs.length = n) (hr : Row w A (ints (flat Half.ints hs))) (hI : HalvesI hs) (hle : n ≤ maxLen) :
    Calls Tryz.prog 178 #[.agg #[.slice A n c]] w fun e w' => e = .returned (.bool (regOk hs)) ∧ Ext w w' := by
  have hx0 : Ext w (w.alloc (.cells #[.slice A n c] 34)) := (Ext.refl w).alloc _
  have b0 := Blk.new w 34 #[.slice A n c]
  by_cases h0 : n = 0
  · have hnil : hs = [] := List.eq_nil_of_length_eq_zero (by omega)
    have H : Hid (regOk hs = true) := by unfold Hid regOk; rw [hnil]; rfl
    subst h0
    clear hnil
    go_enter Tryz.func178, Tryz.ntmps178
    go_wp2
    go_ret
    exact ⟨ret_bool H.out.symm, hx0⟩
  have h0b : ((n : Int) == 0) = false := by rw [beq_eq_false_iff_ne]; omega
  have hne : hs ≠ [] := fun e => h0 (by rw [← hn, e]; rfl)
  have H : Hid (regOk hs = ((fromR hs).2 && decide ((fromR hs).1 = hs))) := by
    unfold Hid regOk
    cases hs with
    | nil => exact absurd rfl hne
    | cons x l => simp
  have HF := Lib.hid (implRegionFrom_any A n c hs _ hn (hr.ext hx0) hI hle (by omega))
  have HR := Lib.hid hr
  have HL := Lib.hid (fromR_len hs)
  have HN := Lib.hid hn
  clear h0 hne hr hI
  go_enter Tryz.func178, Tryz.ntmps178
  go_wp2_with fail
  refine HF.out.mono ?_
  rintro e w1 ⟨A2, c2, n2, rfl, hn2, hx1, hown⟩
  have hrow := Row.of_own hown
  clear hown
  replace b0 := b0.ext hx1
  have hx2 := hx0.trans hx1
  have HN2 := Lib.hid hn2
  clear hn2
  obtain ⟨q, hq⟩ : ∃ q, (fromR hs).2 = q := ⟨_, rfl⟩
  rw [hq] at H
  rw [hq]
  clear hq
  have hx3 := hx2.alloc (.cells #[.slice A2 n2 c2] 34)
  have b1 := Blk.new w1 34 #[.slice A2 n2 c2]
  have b2 := b0.alloc (.cells #[.slice A2 n2 c2] 34)
  cases q
  · go_wp2
    go_ret
    exact ⟨ret_bool H.out.symm, hx3⟩
  · have cA := fun o => b1.cell o
    have cB := fun o => b2.cell o
    have hS := implSameRegion_any A A2 n n2 c c2 hs (fromR hs).1 _ HN.out HN2.out.symm (HR.out.ext hx3) (hrow.ext ((Ext.refl w1).alloc _)) hle (by have := HN2.out; have := HL.out; unfold maxLen; omega)
    go_wp2_with fail
    refine hS.mono ?_
    rintro e w5 ⟨rfl, hx5⟩
    go_wp2
    go_ret
    refine ⟨ret_bool ?_, hx3.trans hx5⟩
    rw [H.out, Bool.true_and]
    exact decide_eq_decide.2 ⟨fun e => e.symm, fun e => e.symm⟩
end Go.Proofs.YtfnmbpjkjajpcaaGreatDoor
namespace Go.Proofs.YtfnmbpjkjajpcaaGreatDoor
open Go.ChangeShapes Go.WideShapes Go.ChangeAt Go.RowKit
set_option linter.unusedVariables false
set_option maxRecDepth 100000
attribute [local go_sem ↓] Go.wp_at_zero Go.wp_at_succ
end Go.Proofs.YtfnmbpjkjajpcaaGreatDoor
namespace Go.Proofs.YtfnmbpjkjajpcaaGreatDoor
open Go.ChangeShapes Go.WideShapes Go.ChangeAt Go.RowKit
set_option linter.unusedVariables false
set_option maxRecDepth 100000
def RegOne (r : List Half) (w : World) (e : Ending) (w' : World) : Prop :=
  ∃ A c n, e = .returned (.agg #[.slice A n c]) ∧ n = r.length ∧ Ext w w' ∧ w'.ownsRow w.heap.size 116 3 (.slice A n c) n (ints (flat Half.ints r))
theorem row_add {w : World} {b off : Nat} {cs : List Value} (hc : ∀ j v, cs[j]? = some v → w.cell? ⟨b, off + j, none⟩ = some v) : ∀ j u, cs[j]? = some u → w.cell? ((⟨b, off, none⟩ : Addr).add j) = some u := fun j u hj => by
  rw [show ((⟨b, off, none⟩ : Addr).add j) = ⟨b, off + j, none⟩ from by unfold Addr.add; split <;> simp_all]
  exact hc j u hj
theorem Row.src {w : World} {ad : Addr} {cs : List Value} (h : Row w (some ad) cs) : ∀ j u, cs[j]? = some u → w.cell? (ad.add j) = some u := fun j u hj => by
  rcases h with h | ⟨b, off, hA, hc⟩
  · rw [h] at hj; cases hj
  · injection hA with hA
    subst hA
    exact row_add hc j u hj
theorem wpList_append_src {P : Program} {w : World} {ops : Array Oper} {rest : List Oper} {o : Oper} {a : Act} {Q : Exit → Act → World → Prop} (hgd : o.guard = none) (s x : Operand) (t : TypeId)
    (ho : o.op = .call { callee := .builtin .append, args := #[s, x], argTypes := #[t, t] })
    (base : Nat) (e : TypeId) (i : TypeInfo) (z : Value) (size bytes : Nat) (ht : P.underlying t = some (.slice e)) (hi : P.info? e = some i) (hz : i.zero = some z)
    (hsize : i.size = size) (hby : i.bytes = bytes) (hzs : z.cells.size = size) (hsz : 0 < size)
    (v : Value) (n : Nat) (xs : List Value) (hs : a.eval s = v) (hown : w.ownsRow base e size v n xs)
    (A : Option Addr) (m c : Nat) (news : List Value) (hx : a.eval x = .slice A m c) (hA : A = none → m = 0 ∧ c = 0) (hl : news.length = m * size) (hnews : Row w A news) (h1 : ∀ u ∈ news, u.oneCell' = true)
    (h63 : n + m ≤ maxLen) (hbytes : (n + m) * bytes ≤ 140737488355328) (hbase : base ≤ w.heap.size)
    (h : ∀ v' w', w'.ownsRow base e size v' (n + m) (xs ++ news) → w.grownBy w' v.ownBlock → wpList P ops Q rest (a.put o.dst v') w') : wpList P ops Q (o :: rest) a w := by
  cases A with
  | none =>
    obtain ⟨rfl, rfl⟩ := hA rfl
    have hnil : news = [] := List.eq_nil_of_length_eq_zero (by rw [hl]; simp)
    subst hnil
    refine wpList_append_own_none hgd s x t ho base e i size ht hi v n xs hs hown hx (h v w (by simpa using hown) ⟨rfl, rfl, rfl, Nat.le_refl _, fun _ _ _ => rfl⟩)
  | some ad =>
    exact wpList_append_own w hgd s x t ho base e i z size bytes ht hi hz hsize hby hzs hsz v n xs hs hown ad m c news hx hl hnews.src h1 h63 hbytes hbase (fun v' w' h2 h3 _ => h v' w' h2 h3)
end Go.Proofs.YtfnmbpjkjajpcaaGreatDoor
