/- Contract of the library's merge in place (slices.symMergeCmpFunc) at a row of numbers of places. -/
import Derived.Test.YtdkgcaifagigfaaSw
import Derived.Deep.QuietTactic
import Derived.BigQuiet
import Derived.Deep.CutRange
namespace Go.Proofs.Ytdkgcaifagigfaa
open Go.ChangeShapes Go.WideShapes Go.ChangeAt Go.RowKit
open Go.Sort
set_option linter.unusedVariables false
set_option maxRecDepth 100000

/-- what is asked of the comparison -/
def CmpAt (m : Nat) (key : Nat → Int) (f : Nat) (cb : Array Value) (w : World) (g : Nat) (d : Array (Fin (m + 1))) : Prop :=
  ∀ (dj : Array (Fin (m + 1))) (q : Nat) (x y : Fin (m + 1)), dj.size = d.size → Calls Try.prog f (#[encF m x, encF m y] ++ cb) (RowOf m w g dj q) fun e w' => e = .returned (.int .i64 (key x.val - key y.val)) ∧ ∃ n, w' = (RowOf m w g dj q).drewN n
def SymPost (m : Nat) (key : Nat → Int) (w : World) (g a b : Nat) (dk : Array (Fin (m + 1))) (e : Ending) (w' : World) : Prop := e = .returned (.tuple #[]) ∧ ∃ d' q', w' = RowOf m w g d' q' ∧ PermIn a b dk d' ∧ SortedIn (ltL m key) a b d'
theorem half_in {i j : Nat} (h : i < j) : i ≤ (i + j) / 2 ∧ (i + j) / 2 < j := by omega
set_option maxHeartbeats 8000000 in
theorem symOne (m : Nat) (key : Nat → Int) (f : Nat) (cb : Array Value) (g cap sz a p b : Nat) (d dk : Array (Fin (m + 1))) (q : Nat) (w : World) (eg : ∀ args w, (callFunc f args).run Try.prog w = .ok (.enter f args) w) (hcmp : CmpAt m key f cb w g d) (hH : Holds (encF m) w g 0 d) (hs : d.size = sz) (hk : dk.size = d.size) (hpre : MPre (ltL m key) (ltK m key) a p b dk) (hp : p = a + 1) (h2 : p < b) (hb : b ≤ sz) (hsz : sz ≤ 1000) :
    Calls Try.prog 27 #[.slice (some ⟨g, 0, none⟩) sz cap, .int .i64 a, .int .i64 p, .int .i64 b, .func (.func f) #[] cb] (RowOf m w g dk q) (SymPost m key w g a b dk) := by
  have HH := Lib.hid hH
  have HS := Lib.hid hs
  have HK := Lib.hid hk
  have HC := Lib.hid hcmp
  have HM := Lib.hid hpre
  have za : (p : Int) - (a : Int) = 1 := by omega
  have h1 : a < p := by omega
  have HP := Lib.hid hp
  clear hH hs hk hcmp hpre hp
  go_enter Try.func27, Try.ntmps27
  go_wp2
  go_loopg [10, 11] (b - p) (fun g1 vi vj wr => ∃ (i j q' : Nat), vi = .int .i64 i ∧ vj = .int .i64 j ∧ p ≤ i ∧ i ≤ j ∧ j ≤ b ∧ j - i ≤ g1 ∧ wr = RowOf m w g dk q' ∧ Hid (∀ k, p ≤ k → k < i → ltL m key dk[k]! dk[a]! = true) ∧ Hid (∀ k, j ≤ k → k < b → ltL m key dk[k]! dk[a]! = false))
  case atStart => exact ⟨p, b, q, rfl, rfl, Nat.le_refl _, by omega, Nat.le_refl _, Nat.le_refl _, rfl, fun k h1 h2 => by omega, fun k h1 h2 => by omega⟩
  case round =>
    obtain ⟨i, j, q', rfl, rfl, i0, ij, j0, hg1, rfl, HLo, HHi⟩ := hrel
    by_cases hlt : i < j
    · have hltz : (i : Int) < (j : Int) := by omega
      obtain ⟨hh1, hh2⟩ := half_in hlt
      obtain ⟨h, hh_⟩ : ∃ h, (i + j) / 2 = h := ⟨_, rfl⟩
      rw [hh_] at hh1 hh2
      have hz : ((i : Int) + (j : Int)) / 2 = (h : Int) := by omega
      clear hh_
      obtain ⟨cH, fH⟩ := rowOf_cell HH.out HK.out q' (j := h) (by rw [HS.out]; omega)
      obtain ⟨cA, fA⟩ := rowOf_cell HH.out HK.out q' (j := a) (by rw [HS.out]; omega)
      have HTs := Lib.hid (HM.out.test a h (Nat.le_refl _) h1 (by omega) (by omega))
      obtain ⟨C, hC⟩ : ∃ C, key (dk[h]!).val - key (dk[a]!).val = C := ⟨_, rfl⟩
      have HT : Hid (ltL m key dk[h]! dk[a]! = decide (C < 0)) := by rw [Hid, ← HTs.out, ← hC]; rfl
      have hc : ∀ n, Calls Try.prog f (#[.int .i64 ((dk[h]!).val : Int), .int .i64 ((dk[a]!).val : Int)] ++ cb) ((RowOf m w g dk q').drewN n) fun e w' => e = .returned (.int .i64 C) ∧ ∃ n', w' = ((RowOf m w g dk q').drewN n).drewN n' := fun n => by
        rw [rowOf_drewN, ← hC]
        exact HC.out dk (q' + n) dk[h]! dk[a]! HK.out
      have HW : Hid (∀ n, (RowOf m w g dk q').drewN n = RowOf m w g dk (q' + n)) := fun n => rowOf_drewN m w g dk q' n
      clear hC HTs
      generalize RowOf m w g dk q' = wq at *
      by_cases hlv : C < 0
      · have HL2 := Lib.hid (seek_one_up (swo_ltL m key) HM.out.right (by omega) (by omega) (HT.out.trans (decide_eq_true hlv)))
        go_wp2_with fail
        go_quiet ((go_at_fn f; refine Calls.quiet_of (hc _)))
        go_wp2
        go_roundg (j - (h + 1))
        case measure => omega
        case rel => exact ⟨h + 1, j, q' + nq, by go_num, rfl, by omega, by omega, j0, Nat.le_refl _, HW.out nq, HL2, HHi⟩
      · have HL2 := Lib.hid (seek_one_down (swo_ltL m key) HM.out.right (by omega) (HT.out.trans (decide_eq_false hlv)))
        go_wp2_with fail
        go_quiet ((go_at_fn f; refine Calls.quiet_of (hc _)))
        go_wp2
        go_roundg (h - i)
        case measure => omega
        case rel => exact ⟨i, h, q' + nq, rfl, rfl, by omega, by omega, by omega, Nat.le_refl _, HW.out nq, HLo, HL2⟩
    · obtain rfl : i = j := by omega
      obtain ⟨e, rfl⟩ : ∃ e, i = e + 1 := ⟨i - 1, by omega⟩
      go_wp2
      go_loopg [13] (e - a) (fun g1 vk wr => ∃ (k q' : Nat) (dj : Array (Fin (m + 1))), vk = .int .i64 k ∧ a ≤ k ∧ k ≤ e ∧ e - k ≤ g1 ∧ wr = RowOf m w g dj q' ∧ Hid (Rotated dk a p (k + 1) dj) ∧ Hid (PermIn a b dk dj))
      case atStart => exact ⟨a, q', dk, rfl, Nat.le_refl _, by omega, Nat.le_refl _, rfl, by rw [HP.out]; exact Rotated.right dk a (a + 1), permIn_refl dk a b⟩
      case round =>
        obtain ⟨k, q2, dj, rfl, k0, k1, hg2, rfl, HR, HPm⟩ := hrel
        by_cases hke : k < e
        · have hkz : (k : Int) < (e : Int) := by omega
          have HZ : Hid (dj.size = d.size) := HPm.out.1.trans HK.out
          obtain ⟨cK, fK⟩ := rowOf_cell HH.out HZ.out q2 (j := k) (by rw [HS.out]; omega)
          obtain ⟨cL, fL⟩ := rowOf_cell HH.out HZ.out q2 (j := k + 1) (by rw [HS.out]; omega)
          have HW := Lib.hid (rowOf_swp (m := m) (w := w) (g := g) (dk := dj) q2 (i := k) (j := k + 1) (by rw [HZ.out, HS.out]; omega) (by rw [HZ.out, HS.out]; omega))
          have HRt : Hid (Rotated dk a p (k + 1 + 1) (swp dj k (k + 1))) := by
            have h := HR.out
            rw [HP.out] at h ⊢
            exact rot_stepR h k0 (by rw [HK.out, HS.out]; omega)
          have HPt : Hid (PermIn a b dk (swp dj k (k + 1))) := permIn_trans _ _ _ _ _ HPm.out (swp_permIn dj a b k (k + 1) k0 (by omega) (by omega) (by omega) (by rw [HZ.out, HS.out]; exact hb))
          generalize swp dj k (k + 1) = d2 at *
          generalize ((dj[k]!).val : Int) = x at *
          generalize ((dj[k + 1]!).val : Int) = y at *
          obtain ⟨wq, hwq⟩ : ∃ W, RowOf m w g dj q2 = W := ⟨_, rfl⟩
          rw [hwq] at cK cL fK fL HW ⊢
          clear hwq
          obtain ⟨kl, hkl⟩ : ∃ u, k + 1 = u := ⟨_, rfl⟩
          rw [hkl] at cL fL HW
          have zk : (k : Int) + 1 = (kl : Int) := by omega
          have b1 : kl < sz := by omega
          have b2 : k < sz := by omega
          have b3 : k ≠ kl := by omega
          have HKl := Lib.hid hkl
          clear hkl
          go_wp2_with fail
          go_region
          all_goals go_wp2
          go_roundg (e - (k + 1))
          case measure => omega
          case rel => exact ⟨k + 1, q2 + 1, d2, by rw [HKl.out], by omega, by omega, Nat.le_refl _, HW.out, HRt, HPt⟩
        · obtain rfl : k = e := by omega
          have HF : Hid (SortedIn (ltL m key) a b dj) := merge_one (swo_ltL m key) HP.out HM.out (by rw [HK.out, HS.out]; exact hb) i0 (by omega) HLo.out HHi.out HR.out
          go_wp2
          go_end0
          exact ⟨rfl, dj, q2, rfl, HPm.out, HF.out⟩
set_option maxHeartbeats 8000000 in
theorem symLast (m : Nat) (key : Nat → Int) (f : Nat) (cb : Array Value) (g cap sz a p b : Nat) (d dk : Array (Fin (m + 1))) (q : Nat) (w : World) (eg : ∀ args w, (callFunc f args).run Try.prog w = .ok (.enter f args) w) (hcmp : CmpAt m key f cb w g d) (hH : Holds (encF m) w g 0 d) (hs : d.size = sz) (hk : dk.size = d.size) (hpre : MPre (ltL m key) (ltK m key) a p b dk) (hp : a + 1 < p) (h2 : b = p + 1) (hb : b ≤ sz) (hsz : sz ≤ 1000) :
    Calls Try.prog 27 #[.slice (some ⟨g, 0, none⟩) sz cap, .int .i64 a, .int .i64 p, .int .i64 b, .func (.func f) #[] cb] (RowOf m w g dk q) (SymPost m key w g a b dk) := by
  have HH := Lib.hid hH
  have HS := Lib.hid hs
  have HK := Lib.hid hk
  have HC := Lib.hid hcmp
  have HM := Lib.hid hpre
  have za : (p : Int) - (a : Int) = ((p - a : Nat) : Int) := by omega
  have za2 : ¬ ((p - a : Nat) : Int) = 1 := by omega
  have za3 : (((p - a : Nat) : Int) == 1) = false := beq_false_of_ne za2
  have zb : (b : Int) - (p : Int) = 1 := by omega
  have h1 : p < b := by omega
  have h3 : a < p := by omega
  have HP := Lib.hid h2
  clear hH hs hk hcmp hpre h2
  generalize p - a = u at *
  go_enter Try.func27, Try.ntmps27
  go_wp2
  go_loopg [14, 15] (p - a) (fun g1 vi vj wr => ∃ (i j q' : Nat), vi = .int .i64 i ∧ vj = .int .i64 j ∧ a ≤ i ∧ i ≤ j ∧ j ≤ p ∧ j - i ≤ g1 ∧ wr = RowOf m w g dk q' ∧ Hid (∀ k, a ≤ k → k < i → ltL m key dk[p]! dk[k]! = false) ∧ Hid (∀ k, j ≤ k → k < p → ltL m key dk[p]! dk[k]! = true))
  case atStart => exact ⟨a, p, q, rfl, rfl, Nat.le_refl _, by omega, Nat.le_refl _, Nat.le_refl _, rfl, fun k h1 h2 => by omega, fun k h1 h2 => by omega⟩
  case round =>
    clear za za2 za3
    obtain ⟨i, j, q', rfl, rfl, i0, ij, j0, hg1, rfl, HLo, HHi⟩ := hrel
    by_cases hlt : i < j
    · have hltz : (i : Int) < (j : Int) := by omega
      obtain ⟨hh1, hh2⟩ := half_in hlt
      obtain ⟨h, hh_⟩ : ∃ h, (i + j) / 2 = h := ⟨_, rfl⟩
      rw [hh_] at hh1 hh2
      have hz : ((i : Int) + (j : Int)) / 2 = (h : Int) := by omega
      clear hh_
      obtain ⟨cH, fH⟩ := rowOf_cell HH.out HK.out q' (j := h) (by rw [HS.out]; omega)
      obtain ⟨cA, fA⟩ := rowOf_cell HH.out HK.out q' (j := p) (by rw [HS.out]; omega)
      have HTs := Lib.hid (HM.out.test h p (by omega) (by omega) (Nat.le_refl _) h1)
      obtain ⟨C, hC⟩ : ∃ C, key (dk[p]!).val - key (dk[h]!).val = C := ⟨_, rfl⟩
      have HT : Hid (ltL m key dk[p]! dk[h]! = decide (C < 0)) := by rw [Hid, ← HTs.out, ← hC]; rfl
      have hc : ∀ n, Calls Try.prog f (#[.int .i64 ((dk[p]!).val : Int), .int .i64 ((dk[h]!).val : Int)] ++ cb) ((RowOf m w g dk q').drewN n) fun e w' => e = .returned (.int .i64 C) ∧ ∃ n', w' = ((RowOf m w g dk q').drewN n).drewN n' := fun n => by
        rw [rowOf_drewN, ← hC]
        exact HC.out dk (q' + n) dk[p]! dk[h]! HK.out
      have HW : Hid (∀ n, (RowOf m w g dk q').drewN n = RowOf m w g dk (q' + n)) := fun n => rowOf_drewN m w g dk q' n
      clear hC HTs
      generalize RowOf m w g dk q' = wq at *
      by_cases hlv : C < 0
      · have HL2 := Lib.hid (seek_last_down (swo_ltL m key) HM.out.left (by omega) (HT.out.trans (decide_eq_true hlv)))
        have hd : decide (C < 0) = true := decide_eq_true hlv
        clear hlv
        go_wp2_with fail
        go_quiet ((go_at_fn f; refine Calls.quiet_of (hc _)))
        go_wp2
        go_roundg (h - i)
        case measure => omega
        case rel => exact ⟨i, h, q' + nq, rfl, rfl, by omega, by omega, by omega, Nat.le_refl _, HW.out nq, HLo, HL2⟩
      · have HL2 := Lib.hid (seek_last_up (swo_ltL m key) HM.out.left (by omega) (HT.out.trans (decide_eq_false hlv)))
        have hd : decide (C < 0) = false := decide_eq_false hlv
        clear hlv
        go_wp2_with fail
        go_quiet ((go_at_fn f; refine Calls.quiet_of (hc _)))
        go_wp2
        go_roundg (j - (h + 1))
        case measure => omega
        case rel => exact ⟨h + 1, j, q' + nq, by go_num, rfl, by omega, by omega, j0, Nat.le_refl _, HW.out nq, HL2, HHi⟩
    · obtain rfl : i = j := by omega
      go_wp2
      go_loopg [17] (p - i) (fun g1 vk wr => ∃ (k q' : Nat) (dj : Array (Fin (m + 1))), vk = .int .i64 k ∧ i ≤ k ∧ k ≤ p ∧ k - i ≤ g1 ∧ wr = RowOf m w g dj q' ∧ Hid (Rotated dk k p (p + 1) dj) ∧ Hid (PermIn a b dk dj))
      case atStart => exact ⟨p, q', dk, rfl, by omega, Nat.le_refl _, Nat.le_refl _, rfl, Rotated.left dk p (p + 1), permIn_refl dk a b⟩
      case round =>
        obtain ⟨k, q2, dj, rfl, k0, k1, hg2, rfl, HR, HPm⟩ := hrel
        by_cases hke : i < k
        · have hkz : (i : Int) < (k : Int) := by omega
          obtain ⟨kl, rfl⟩ : ∃ kl, k = kl + 1 := ⟨k - 1, by omega⟩
          have HZ : Hid (dj.size = d.size) := HPm.out.1.trans HK.out
          obtain ⟨cK, fK⟩ := rowOf_cell HH.out HZ.out q2 (j := kl + 1) (by rw [HS.out]; omega)
          obtain ⟨cL, fL⟩ := rowOf_cell HH.out HZ.out q2 (j := kl) (by rw [HS.out]; omega)
          have HW := Lib.hid (rowOf_swp (m := m) (w := w) (g := g) (dk := dj) q2 (i := kl + 1) (j := kl) (by rw [HZ.out, HS.out]; omega) (by rw [HZ.out, HS.out]; omega))
          have HRt : Hid (Rotated dk kl p (p + 1) (swp dj (kl + 1) kl)) := rot_stepL HR.out (by omega) (by rw [HK.out, HS.out]; omega)
          have HPt : Hid (PermIn a b dk (swp dj (kl + 1) kl)) := permIn_trans _ _ _ _ _ HPm.out (swp_permIn dj a b (kl + 1) kl (by omega) (by omega) (by omega) (by omega) (by rw [HZ.out, HS.out]; exact hb))
          generalize swp dj (kl + 1) kl = d2 at *
          generalize ((dj[kl]!).val : Int) = x at *
          generalize ((dj[kl + 1]!).val : Int) = y at *
          obtain ⟨wq, hwq⟩ : ∃ W, RowOf m w g dj q2 = W := ⟨_, rfl⟩
          rw [hwq] at cK cL fK fL HW ⊢
          clear hwq
          obtain ⟨ku, hku⟩ : ∃ u, kl + 1 = u := ⟨_, rfl⟩
          rw [hku] at cK fK HW
          have zk : (kl : Int) + 1 = (ku : Int) := by omega
          have zk2 : (ku : Int) - 1 = (kl : Int) := by omega
          have zk3 : IntKind.i64.wrap (kl : Int) = (kl : Int) := IntWalk.i64_in _ (by omega)
          have b1 : ku < sz := by omega
          have b2 : kl < sz := by omega
          have b3 : kl ≠ ku := by omega
          have HKl := Lib.hid hku
          have hk3 : i < ku := by omega
          have hk4 : (i : Int) < (ku : Int) := by omega
          rw [hku]
          clear hku
          go_wp2_with fail
          go_region
          all_goals go_wp2
          go_roundg (kl - i)
          case measure => omega
          case rel => exact ⟨kl, q2 + 1, d2, by first | rfl | go_num | (congr 1; omega), by omega, by omega, Nat.le_refl _, HW.out, HRt, HPt⟩
        · obtain rfl : k = i := by omega
          have HF : Hid (SortedIn (ltL m key) a b dj) := merge_last (swo_ltL m key) HP.out HM.out (by rw [HK.out, HS.out]; exact hb) i0 (by omega) HLo.out HHi.out (by rw [HP.out]; exact HR.out)
          go_wp2
          go_end0
          exact ⟨rfl, dj, q2, rfl, HPm.out, HF.out⟩
set_option maxHeartbeats 16000000 in
theorem symGen (m : Nat) (key : Nat → Int) (f : Nat) (cb : Array Value) (g cap sz a p b : Nat) (d dk : Array (Fin (m + 1))) (q : Nat) (w : World) (eg : ∀ args w, (callFunc f args).run Try.prog w = .ok (.enter f args) w) (hcmp : CmpAt m key f cb w g d) (hH : Holds (encF m) w g 0 d) (hs : d.size = sz) (hk : dk.size = d.size) (hpre : MPre (ltL m key) (ltK m key) a p b dk) (hp : a + 1 < p) (h2 : p + 1 < b) (hb : b ≤ sz) (hsz : sz ≤ 1000)
    (ih : ∀ a' p' b' (d' : Array (Fin (m + 1))) q', b' - a' < b - a → d'.size = d.size → MPre (ltL m key) (ltK m key) a' p' b' d' → a' < p' → p' < b' → b' ≤ sz → Calls Try.prog 27 #[.slice (some ⟨g, 0, none⟩) sz cap, .int .i64 a', .int .i64 p', .int .i64 b', .func (.func f) #[] cb] (RowOf m w g d' q') (SymPost m key w g a' b' d')) :
    Calls Try.prog 27 #[.slice (some ⟨g, 0, none⟩) sz cap, .int .i64 a, .int .i64 p, .int .i64 b, .func (.func f) #[] cb] (RowOf m w g dk q) (SymPost m key w g a b dk) := by
  have HRo := Lib.hid (fun a p b dk q hk h1 h2 hb => rotate_any m g cap sz (.func (.func f) #[] cb) a p b d dk q w hH hs hk h1 h2 hb hsz)
  have HH := Lib.hid hH
  have HS := Lib.hid hs
  have HK := Lib.hid hk
  have HC := Lib.hid hcmp
  have HM := Lib.hid hpre
  have HI := Lib.hid ih
  have hS := swo_ltL m key
  obtain ⟨mid, hmid⟩ : ∃ mid, (a + b) / 2 = mid := ⟨_, rfl⟩
  have HMid := Lib.hid hmid.symm
  have zm : ((a : Int) + (b : Int)) / 2 = (mid : Int) := by omega
  have r1 : a < mid ∧ mid < b := by omega
  obtain ⟨lo, hlo⟩ : ∃ lo, (if mid < p then mid + p - b else a) = lo := ⟨_, rfl⟩
  obtain ⟨hi, hhi⟩ : ∃ hi, (if mid < p then mid else p) = hi := ⟨_, rfl⟩
  have HLo := Lib.hid hlo.symm
  have HHi := Lib.hid hhi.symm
  have rng : a ≤ lo ∧ lo ≤ hi ∧ hi ≤ p ∧ hi ≤ mid ∧ (∀ k, lo ≤ k → k < hi → a ≤ k ∧ k < p ∧ p ≤ mid + p - 1 - k ∧ mid + p - 1 - k < b) := by
    rw [← hlo, ← hhi]
    split
    · exact ⟨by omega, by omega, by omega, by omega, fun k h1 h2 => by omega⟩
    · exact ⟨by omega, by omega, by omega, by omega, fun k h1 h2 => by omega⟩
  obtain ⟨g1, g2, g3, g4, g5⟩ := rng
  have HG := Lib.hid g5
  have za : (p : Int) - (a : Int) = ((p - a : Nat) : Int) := by omega
  have za2 : ¬ ((p - a : Nat) : Int) = 1 := by omega
  have za3 : (((p - a : Nat) : Int) == 1) = false := beq_false_of_ne za2
  have zb : (b : Int) - (p : Int) = ((b - p : Nat) : Int) := by omega
  have zb2 : ¬ ((b - p : Nat) : Int) = 1 := by omega
  have zb3 : (((b - p : Nat) : Int) == 1) = false := beq_false_of_ne zb2
  obtain ⟨pp, hpp⟩ : ∃ pp, mid + p - 1 = pp := ⟨_, rfl⟩
  have HPP := Lib.hid hpp
  have zp : (mid : Int) + (p : Int) - 1 = (pp : Int) := by omega
  have HZ3 : Hid (mid < p → (mid : Int) + (p : Int) - (b : Int) = (lo : Int)) := fun h => by rw [if_pos h] at hlo; omega
  have HL1 : Hid (mid < p → hi = mid) := fun h => by rw [if_pos h] at hhi; exact hhi.symm
  have HL2 : Hid (¬ mid < p → lo = a ∧ hi = p) := fun h => by rw [if_neg h] at hlo hhi; exact ⟨hlo.symm, hhi.symm⟩
  have hab : a < p := by omega
  have hpb : p < b := by omega
  obtain ⟨r3, r4⟩ := r1
  clear hH hs hk hcmp hpre ih hmid hlo hhi hpp g5
  generalize p - a = u1 at *
  generalize b - p = u2 at *
  go_enter Try.func27, Try.ntmps27
  go_upto_if 140 with (fail)
  go_cut [20, 21] from 140 to 146 (fun vs vr wx => vs = .int .i64 lo ∧ vr = .int .i64 hi ∧ wx = RowOf m w g dk q)
  case first =>
    by_cases hc : mid < p
    · have hcz : (mid : Int) < (p : Int) := by omega
      have z3 := HZ3.out hc
      go_wp2_with fail
      go_meet
      case rel => exact ⟨rfl, by rw [HL1.out hc], rfl⟩
    · have hcz : ¬ (mid : Int) < (p : Int) := by omega
      go_wp2_with fail
      go_meet
      case rel => exact ⟨by rw [(HL2.out hc).1], by rw [(HL2.out hc).2], rfl⟩
  case rest =>
  obtain ⟨rfl, rfl, rfl⟩ := hcut
  clear za za2 za3 zb zb2 zb3 zm
  go_wp2
  go_loopg [20, 21] (hi - lo) (fun gg vs vr wr => ∃ (s r q' : Nat), vs = .int .i64 s ∧ vr = .int .i64 r ∧ lo ≤ s ∧ s ≤ r ∧ r ≤ hi ∧ r - s ≤ gg ∧ wr = RowOf m w g dk q' ∧ Hid (Seek (ltL m key) p mid lo hi s r dk))
  case atStart => exact ⟨lo, hi, q, rfl, rfl, Nat.le_refl _, g2, Nat.le_refl _, Nat.le_refl _, rfl, ⟨Nat.le_refl _, g2, Nat.le_refl _, fun k h1 h2 => by omega, fun k h1 h2 => by omega⟩⟩
  case round =>
    obtain ⟨s, r, q', rfl, rfl, s0, sr, r0, hgg, rfl, HSk⟩ := hrel
    by_cases hlt : s < r
    · have hltz : (s : Int) < (r : Int) := by omega
      obtain ⟨hh1, hh2⟩ := half_in hlt
      obtain ⟨c, hc_⟩ : ∃ c, (s + r) / 2 = c := ⟨_, rfl⟩
      rw [hc_] at hh1 hh2
      have hz : ((s : Int) + (r : Int)) / 2 = (c : Int) := by omega
      clear hc_
      obtain ⟨v1, v2, v3, v4⟩ := HG.out c (by omega) (by omega)
      rw [HPP.out] at v3 v4
      obtain ⟨o, ho⟩ : ∃ o, pp - c = o := ⟨_, rfl⟩
      rw [ho] at v3 v4
      have hcp : c ≤ pp := by omega
      have zo : (pp : Int) - (c : Int) = (o : Int) := by omega
      obtain ⟨cH, fH⟩ := rowOf_cell HH.out HK.out q' (j := o) (by rw [HS.out]; omega)
      obtain ⟨cA, fA⟩ := rowOf_cell HH.out HK.out q' (j := c) (by rw [HS.out]; omega)
      have HTs := Lib.hid (HM.out.test c o v1 v2 v3 v4)
      have HO : Hid (mid + p - 1 - c = o) := by rw [HPP.out]; exact ho
      obtain ⟨C, hC⟩ : ∃ C, key (dk[o]!).val - key (dk[c]!).val = C := ⟨_, rfl⟩
      have HT : Hid (ltL m key dk[mid + p - 1 - c]! dk[c]! = decide (C < 0)) := by rw [Hid, HO.out, ← HTs.out, ← hC]; rfl
      have hc : ∀ n, Calls Try.prog f (#[.int .i64 ((dk[o]!).val : Int), .int .i64 ((dk[c]!).val : Int)] ++ cb) ((RowOf m w g dk q').drewN n) fun e w' => e = .returned (.int .i64 C) ∧ ∃ n', w' = ((RowOf m w g dk q').drewN n).drewN n' := fun n => by
        rw [rowOf_drewN, ← hC]
        exact HC.out dk (q' + n) dk[o]! dk[c]! HK.out
      have HW : Hid (∀ n, (RowOf m w g dk q').drewN n = RowOf m w g dk (q' + n)) := fun n => rowOf_drewN m w g dk q' n
      clear hC HTs ho
      generalize RowOf m w g dk q' = wq at *
      by_cases hlv : C < 0
      · have HL2 := Lib.hid (Seek.down hS HM.out (by rw [HK.out, HS.out]; exact hb) HG.out HSk.out hh1 hh2 (HT.out.trans (decide_eq_true hlv)))
        have hd : decide (C < 0) = true := decide_eq_true hlv
        clear hlv
        go_wp2_with fail
        go_quiet ((go_at_fn f; refine Calls.quiet_of (hc _)))
        go_wp2
        go_roundg (c - s)
        case measure => omega
        case rel => exact ⟨s, c, q' + nq, rfl, rfl, by omega, by omega, by omega, Nat.le_refl _, HW.out nq, HL2⟩
      · have HL2 := Lib.hid (Seek.up hS HM.out (by rw [HK.out, HS.out]; exact hb) HG.out HSk.out hh1 hh2 (HT.out.trans (decide_eq_false hlv)))
        have hd : decide (C < 0) = false := decide_eq_false hlv
        clear hlv
        go_wp2_with fail
        go_quiet ((go_at_fn f; refine Calls.quiet_of (hc _)))
        go_wp2
        go_roundg (r - (c + 1))
        case measure => omega
        case rel => exact ⟨c + 1, r, q' + nq, by go_num, rfl, by omega, by omega, r0, Nat.le_refl _, HW.out nq, HL2⟩
    · obtain rfl : s = r := by omega
      have hcut0 := cut_of hS HM.out (by rw [HK.out, HS.out]; exact hb) hab hpb HMid.out HLo.out HHi.out HSk.out
      have HCt := Lib.hid hcut0
      have t1 := hcut0.lo; have t2 := hcut0.hi; have t3 := hcut0.mid1; have t4 := hcut0.end1; have t5 := hcut0.end2; have t6 := hcut0.end3
      clear hcut0
      obtain ⟨e, he_⟩ : ∃ e, mid + p - s = e := ⟨_, rfl⟩
      rw [he_] at t4 t5 t6
      have HE := Lib.hid he_
      have ze : (mid : Int) + (p : Int) - (s : Int) = (e : Int) := by omega
      clear he_ HSk
      obtain ⟨bv, hbv⟩ : ∃ bv : Bool, decide (s < p ∧ p < e) = bv := ⟨_, rfl⟩
      have HB1 := Lib.hid hbv
      clear hbv
      go_upto_region 39 with fail
      go_cut [185] from 178 to 185 (fun v wx => v = .bool bv ∧ wx = RowOf m w g dk q')
      case first =>
        by_cases c1 : s < p
        · by_cases c2 : p < e
          · go_wp2_with fail
            go_meet
            case rel => exact ⟨by rw [← HB1.out]; simp [c1, c2], rfl⟩
          · go_wp2_with fail
            go_meet
            case rel => exact ⟨by rw [← HB1.out]; simp [c2], rfl⟩
        · go_wp2_with fail
          go_meet
          case rel => exact ⟨by rw [← HB1.out]; simp [c1], rfl⟩
      case rest =>
      obtain ⟨rfl, rfl⟩ := hcut
      go_upto_if 185 with (fail)
      go_cut [24] from 186 to 191 (fun v wx => v = .int .i64 e ∧ ∃ (d1 : Array (Fin (m + 1))) (q1 : Nat), wx = RowOf m w g d1 q1 ∧ Hid (Rotated dk s p e d1) ∧ Hid (PermIn a b dk d1))
      case first =>
        cases bv
        · have HF : Hid (Rotated dk s p e dk) := by
            have q0 := HB1.out
            rw [decide_eq_false_iff_not] at q0
            rcases Nat.lt_or_ge s p with c1 | c1
            · obtain rfl : p = e := by omega
              exact Rotated.right dk s p
            · obtain rfl : s = p := by omega
              exact Rotated.left dk s e
          go_wp2_with fail
          go_meet
          case rel => exact ⟨rfl, dk, q', rfl, HF, permIn_refl dk a b⟩
        · have q0 := HB1.out
          rw [decide_eq_true_iff] at q0
          have HRc := Lib.hid (HRo.out s p e dk q' HK.out q0.1 q0.2 (by omega))
          clear q0
          go_wp2_with fail
          refine (HRc.out).mono ?_
          rintro e1 w1 ⟨rfl, d1, q1, rfl, hRo, hPm⟩
          have HF := Lib.hid hRo
          have HG2 : Hid (PermIn a b dk d1) := permIn_mono dk d1 s e a b t1 t5 (by rw [HK.out, HS.out]; exact hb) hPm
          clear hRo hPm
          go_wp2_with fail
          go_meet
          case rel => exact ⟨rfl, d1, q1, rfl, HF, HG2⟩
      case rest =>
      obtain ⟨rfl, d1, q1, rfl, HRt, HP1⟩ := hcut
      have HHv : Hid (Halves (ltL m key) (ltK m key) a p b mid s dk d1) := halves_of hS HM.out (by rw [HK.out, HS.out]; exact hb) HCt.out (by rw [HE.out]; exact HRt.out)
      have HZ1 : Hid (d1.size = d.size) := HP1.out.1.trans HK.out
      obtain ⟨bv2, hbv2⟩ : ∃ bv2 : Bool, decide (a < s ∧ s < mid) = bv2 := ⟨_, rfl⟩
      have HB2 := Lib.hid hbv2
      clear hbv2
      go_upto_region 41 with fail
      go_cut [199] from 192 to 199 (fun v wx => v = .bool bv2 ∧ wx = RowOf m w g d1 q1)
      case first =>
        by_cases c1 : a < s
        · by_cases c2 : s < mid
          · go_wp2_with fail
            go_meet
            case rel => exact ⟨by rw [← HB2.out]; simp [c1, c2], rfl⟩
          · go_wp2_with fail
            go_meet
            case rel => exact ⟨by rw [← HB2.out]; simp [c2], rfl⟩
        · go_wp2_with fail
          go_meet
          case rel => exact ⟨by rw [← HB2.out]; simp [c1], rfl⟩
      case rest =>
      obtain ⟨rfl, rfl⟩ := hcut
      go_upto_if 199 with (fail)
      go_cut [24] from 200 to 205 (fun v wx => v = .int .i64 e ∧ ∃ (d2 : Array (Fin (m + 1))) (q2 : Nat), wx = RowOf m w g d2 q2 ∧ Hid (PermIn a mid d1 d2) ∧ Hid (SortedIn (ltL m key) a mid d2))
      case first =>
        cases bv2
        · have HF : Hid (SortedIn (ltL m key) a mid d1) := by
            have q0 := HB2.out
            rw [decide_eq_false_iff_not] at q0
            rcases Nat.lt_or_ge a s with c1 | c1
            · obtain rfl : s = mid := by omega
              exact HHv.out.one.left
            · obtain rfl : a = s := by omega
              exact HHv.out.one.right
          go_wp2_with fail
          go_meet
          case rel => exact ⟨rfl, d1, q1, rfl, permIn_refl d1 a mid, HF⟩
        · have q0 := HB2.out
          rw [decide_eq_true_iff] at q0
          have HRc := Lib.hid (HI.out a s mid d1 q1 (by omega) HZ1.out HHv.out.one q0.1 q0.2 (by omega))
          clear q0
          go_wp2_with fail
          refine (HRc.out).mono ?_
          rintro e1 w1 ⟨rfl, d2, q2, rfl, hPm, hSo⟩
          have HF := Lib.hid hPm
          have HG2 := Lib.hid hSo
          clear hPm hSo
          go_wp2_with fail
          go_meet
          case rel => exact ⟨rfl, d2, q2, rfl, HF, HG2⟩
      case rest =>
      obtain ⟨rfl, d2, q2, rfl, HP2, HS2⟩ := hcut
      have HZ2 : Hid (d2.size = d.size) := HP2.out.1.trans HZ1.out
      have HKp : Hid (∀ k, mid ≤ k → k < b → d2[k]! = d1[k]!) := fun k h1 h2 => HP2.out.2.1 k (.inr h1)
      obtain ⟨bv3, hbv3⟩ : ∃ bv3 : Bool, decide (mid < e ∧ e < b) = bv3 := ⟨_, rfl⟩
      have HB3 := Lib.hid hbv3
      clear hbv3
      go_upto_region 43 with fail
      go_cut [213] from 206 to 213 (fun v wx => v = .bool bv3 ∧ wx = RowOf m w g d2 q2)
      case first =>
        by_cases c1 : mid < e
        · by_cases c2 : e < b
          · go_wp2_with fail
            go_meet
            case rel => exact ⟨by rw [← HB3.out]; simp [c1, c2], rfl⟩
          · go_wp2_with fail
            go_meet
            case rel => exact ⟨by rw [← HB3.out]; simp [c2], rfl⟩
        · go_wp2_with fail
          go_meet
          case rel => exact ⟨by rw [← HB3.out]; simp [c1], rfl⟩
      case rest =>
      obtain ⟨rfl, rfl⟩ := hcut
      have HTw : Hid (MPre (ltL m key) (ltK m key) mid e b d2) := by
        have h := HHv.out.two
        rw [HE.out] at h
        exact h.keep HKp.out t6 t5
      have HDone : Hid (∀ d3 : Array (Fin (m + 1)), PermIn mid b d2 d3 → SortedIn (ltL m key) mid b d3 → PermIn a b dk d3 ∧ SortedIn (ltL m key) a b d3) := fun d3 h1 h2 =>
        ⟨permIn_trans _ _ _ _ _ (permIn_trans _ _ _ _ _ HP1.out (permIn_mono d1 d2 a mid a b (Nat.le_refl _) (by omega) (by rw [HZ1.out, HS.out]; exact hb) HP2.out)) (permIn_mono d2 d3 mid b a b (by omega) (Nat.le_refl _) (by rw [HZ2.out, HS.out]; exact hb) h1),
         halves_done (by omega) (by omega) (by rw [HZ1.out, HS.out]; exact hb) HHv.out.cross HP2.out HS2.out h1 h2⟩
      cases bv3
      · have HF : Hid (SortedIn (ltL m key) mid b d2) := by
          have q0 := HB3.out
          rw [decide_eq_false_iff_not] at q0
          rcases Nat.lt_or_ge mid e with c1 | c1
          · obtain rfl : e = b := by omega
            exact HTw.out.left
          · obtain rfl : mid = e := by omega
            exact HTw.out.right
        go_wp2
        go_end0
        exact ⟨rfl, d2, q2, rfl, HDone.out d2 (permIn_refl d2 mid b) HF.out⟩
      · have q0 := HB3.out
        rw [decide_eq_true_iff] at q0
        have HRc := Lib.hid (HI.out mid e b d2 q2 (by omega) HZ2.out HTw.out q0.1 q0.2 hb)
        clear q0
        go_wp2_with fail
        refine (HRc.out).mono ?_
        rintro e1 w1 ⟨rfl, d3, q3, rfl, hPm, hSo⟩
        have HF := Lib.hid (HDone.out d3 hPm hSo)
        clear hPm hSo
        go_wp2
        go_end0
        exact ⟨rfl, d3, q3, rfl, HF.out⟩
theorem symMerge_any (m : Nat) (key : Nat → Int) (f : Nat) (cb : Array Value) (g cap sz : Nat) (d : Array (Fin (m + 1))) (w : World) (eg : ∀ args w, (callFunc f args).run Try.prog w = .ok (.enter f args) w) (hcmp : CmpAt m key f cb w g d) (hH : Holds (encF m) w g 0 d) (hs : d.size = sz) (hsz : sz ≤ 1000) : ∀ (L a p b : Nat) (dk : Array (Fin (m + 1))) (q : Nat), b - a ≤ L → dk.size = d.size → MPre (ltL m key) (ltK m key) a p b dk → a < p → p < b → b ≤ sz →
    Calls Try.prog 27 #[.slice (some ⟨g, 0, none⟩) sz cap, .int .i64 a, .int .i64 p, .int .i64 b, .func (.func f) #[] cb] (RowOf m w g dk q) (SymPost m key w g a b dk)
  | 0, a, p, b, dk, q, hL, hk, hpre, h1, h2, hb => by omega
  | L + 1, a, p, b, dk, q, hL, hk, hpre, h1, h2, hb => by
    by_cases c1 : p = a + 1
    · exact symOne m key f cb g cap sz a p b d dk q w eg hcmp hH hs hk hpre c1 h2 hb hsz
    · by_cases c2 : b = p + 1
      · exact symLast m key f cb g cap sz a p b d dk q w eg hcmp hH hs hk hpre (by omega) c2 hb hsz
      · exact symGen m key f cb g cap sz a p b d dk q w eg hcmp hH hs hk hpre (by omega) (by omega) hb hsz fun a' p' b' d' q' hl hk' hp' h1' h2' hb' => symMerge_any m key f cb g cap sz d w eg hcmp hH hs hsz L a' p' b' d' q' (by omega) hk' hp' h1' h2' hb'
end Go.Proofs.Ytdkgcaifagigfaa
