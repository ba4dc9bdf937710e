/- Contracts of the library's exchange of ranges and rotation (slices, by a comparison), at a row of numbers of places. -/
import Derived.Test.YtdkgcaifagigfaaSym
import Derived.Test.YtdkgcaifagigfaaOrd
import Derived.Test.YtdkgcaifagigfaaHz
import Derived.Shelf.SlSortCmp.Insertion
import Derived.RegionTactic
import Derived.BigRegion
import Derived.Deep.LoopGhost
import Derived.IntWalk
import Derived.Lib.Hide
namespace Go.Proofs.Ytdkgcaifagigfaa
open Go.ChangeShapes Go.WideShapes Go.ChangeAt Go.RowKit
open Go.Sort
set_option linter.unusedVariables false
set_option maxRecDepth 100000

def encF (m : Nat) (x : Fin (m + 1)) : Value := .int .i64 (x.val : Int)
/-- the world with the row dk, some draws on -/
def RowOf (m : Nat) (w : World) (g : Nat) (dk : Array (Fin (m + 1))) (q : Nat) : World := (putRow (encF m) w g 0 dk).drewN q
theorem rowOf_drewN (m : Nat) (w : World) (g : Nat) (dk : Array (Fin (m + 1))) (q n : Nat) : (RowOf m w g dk q).drewN n = RowOf m w g dk (q + n) := by unfold RowOf; rw [World.drewN_drewN]
theorem rowOf_cell {m : Nat} {w : World} {g : Nat} {d dk : Array (Fin (m + 1))} (h : Holds (encF m) w g 0 d) (hs : dk.size = d.size) (q : Nat) {j : Nat} (hj : j < d.size) : (RowOf m w g dk q).cell? ⟨g, j, none⟩ = some (.int .i64 ((dk[j]!).val : Int)) ∧ (RowOf m w g dk q).frozen? ⟨g, j, none⟩ = false := by
  have := holds_putRow (encF m) w g 0 d dk h hs j (by omega)
  rw [Nat.zero_add] at this
  exact this
theorem rowOf_swp {m : Nat} {w : World} {g : Nat} {dk : Array (Fin (m + 1))} (q : Nat) {i j : Nat} (hi : i < dk.size) (hj : j < dk.size) : (((RowOf m w g dk q).setCell ⟨g, i, none⟩ (.int .i64 ((dk[j]!).val : Int))).setCell ⟨g, j, none⟩ (.int .i64 ((dk[i]!).val : Int))).drew = RowOf m w g (swp dk i j) (q + 1) := by
  have := swap_worldC (encF m) w g 0 dk q i j hi hj
  rw [Nat.zero_add, Nat.zero_add] at this
  exact this
def SwapPost (m : Nat) (w : World) (g a b n : Nat) (dk : Array (Fin (m + 1))) (e : Ending) (w' : World) : Prop := e = .returned (.tuple #[]) ∧ ∃ d' q', w' = RowOf m w g d' q' ∧ Swapped dk a b n d' ∧ PermIn a (b + n) dk d'
set_option maxHeartbeats 4000000 in
theorem swapRange_any (m : Nat) (g cap sz : Nat) (f : Value) (a b n : Nat) (d dk : Array (Fin (m + 1))) (q : Nat) (w : World) (hH : Holds (encF m) w g 0 d) (hs : d.size = sz) (hk : dk.size = d.size) (hab : a + n ≤ b) (hb : b + n ≤ sz) (hsz : sz ≤ 1000) :
    Calls Try.prog 46 #[.slice (some ⟨g, 0, none⟩) sz cap, .int .i64 a, .int .i64 b, .int .i64 n, f] (RowOf m w g dk q) (SwapPost m w g a b n dk) := by
  have HH := Lib.hid hH
  have HS := Lib.hid hs
  have HK := Lib.hid hk
  have hkz : dk.size ≤ sz ∧ sz ≤ dk.size := by omega
  clear hH hs hk
  go_enter Try.func46, Try.ntmps46
  go_wp2
  go_loopg [10] n (fun g1 vi wr => ∃ (i q' : Nat) (dj : Array (Fin (m + 1))), vi = .int .i64 i ∧ i ≤ n ∧ n - i ≤ g1 ∧ wr = RowOf m w g dj q' ∧ Hid (Swapped dk a b i dj) ∧ Hid (PermIn a (b + n) dk dj))
  case atStart => exact ⟨0, q, dk, rfl, Nat.zero_le _, by omega, rfl, Swapped.zero dk a b, permIn_refl dk a (b + n)⟩
  case round =>
    obtain ⟨i, q', dj, rfl, hi, hg1, rfl, HSw, HP⟩ := hrel
    by_cases hlt : i < n
    · have hltz : (i : Int) < (n : Int) := by omega
      have HZ : Hid (dj.size = d.size) := HSw.out.size.trans HK.out
      obtain ⟨cA, fA⟩ := rowOf_cell HH.out HZ.out q' (j := a + i) (by rw [HS.out]; omega)
      obtain ⟨cB, fB⟩ := rowOf_cell HH.out HZ.out q' (j := b + i) (by rw [HS.out]; omega)
      have HW := Lib.hid (rowOf_swp (m := m) (w := w) (g := g) (dk := dj) q' (i := a + i) (j := b + i) (by rw [HZ.out, HS.out]; omega) (by rw [HZ.out, HS.out]; omega))
      have HSt : Hid (Swapped dk a b (i + 1) (swp dj (a + i) (b + i))) := HSw.out.step hab (by rw [HK.out, HS.out]; exact hb) hlt
      have HPt : Hid (PermIn a (b + n) dk (swp dj (a + i) (b + i))) := permIn_trans _ _ _ _ _ HP.out (swp_permIn dj a (b + n) (a + i) (b + i) (by omega) (by omega) (by omega) (by omega) (by rw [HZ.out, HS.out]; exact hb))
      generalize swp dj (a + i) (b + i) = d2 at *
      generalize ((dj[a + i]!).val : Int) = x at *
      generalize ((dj[b + i]!).val : Int) = y at *
      obtain ⟨wq, hwq⟩ : ∃ W, RowOf m w g dj q' = W := ⟨_, rfl⟩
      rw [hwq] at cA cB fA fB HW ⊢
      clear hwq
      obtain ⟨pa, hpa⟩ : ∃ p, a + i = p := ⟨_, rfl⟩
      obtain ⟨pb, hpb⟩ : ∃ p, b + i = p := ⟨_, rfl⟩
      rw [hpa] at cA fA HW
      rw [hpb] at cB fB HW
      have za : (a : Int) + (i : Int) = (pa : Int) := by omega
      have zb : (b : Int) + (i : Int) = (pb : Int) := by omega
      have b1 : pa < sz := by omega
      have b2 : pb < sz := by omega
      have b3 : pa ≠ pb := by omega
      clear hpa hpb
      go_wp2_with fail
      go_region
      all_goals go_wp2
      go_roundg (n - (i + 1))
      case measure => omega
      case rel => exact ⟨i + 1, q' + 1, d2, by go_num, by omega, Nat.le_refl _, HW.out, HSt, HPt⟩
    · have hltz : ¬ (i : Int) < (n : Int) := by omega
      obtain rfl : i = n := by omega
      go_wp2
      go_end0
      exact ⟨rfl, dj, q', rfl, HSw.out, HP.out⟩
def RotPost (m : Nat) (w : World) (g a p b : Nat) (dk : Array (Fin (m + 1))) (e : Ending) (w' : World) : Prop := e = .returned (.tuple #[]) ∧ ∃ d' q', w' = RowOf m w g d' q' ∧ Rotated dk a p b d' ∧ PermIn a b dk d'
set_option maxHeartbeats 4000000 in
theorem rotate_any (m : Nat) (g cap sz : Nat) (f : Value) (a p b : Nat) (d dk : Array (Fin (m + 1))) (q : Nat) (w : World) (hH : Holds (encF m) w g 0 d) (hs : d.size = sz) (hk : dk.size = d.size) (h1 : a < p) (h2 : p < b) (hb : b ≤ sz) (hsz : sz ≤ 1000) :
    Calls Try.prog 39 #[.slice (some ⟨g, 0, none⟩) sz cap, .int .i64 a, .int .i64 p, .int .i64 b, f] (RowOf m w g dk q) (RotPost m w g a p b dk) := by
  have HC := Lib.hid (fun a b n dk q hk hab hb => swapRange_any m g cap sz f a b n d dk q w hH hs hk hab hb hsz)
  have HS := Lib.hid hs
  have HK := Lib.hid hk
  have za : (p : Int) - (a : Int) = ((p - a : Nat) : Int) := by omega
  have zb : (b : Int) - (p : Int) = ((b - p : Nat) : Int) := by omega
  clear hH hs hk
  go_enter Try.func39, Try.ntmps39
  go_wp2
  go_loopg [10, 11] (b - a) (fun g1 vi vj wr => ∃ (i j q' : Nat) (dj : Array (Fin (m + 1))), vi = .int .i64 i ∧ vj = .int .i64 j ∧ 0 < i ∧ i ≤ p - a ∧ 0 < j ∧ j ≤ b - p ∧ i + j ≤ g1 ∧ wr = RowOf m w g dj q' ∧ Hid (PermIn a b dk dj) ∧ Hid (∀ d', Rotated dj (p - i) p (p + j) d' → Rotated dk a p b d'))
  case atStart => exact ⟨p - a, b - p, q, dk, rfl, rfl, by omega, Nat.le_refl _, by omega, Nat.le_refl _, by omega, rfl, permIn_refl dk a b, fun d' h => by rw [show p - (p - a) = a by omega, show p + (b - p) = b by omega] at h; exact h⟩
  case round =>
    clear za zb
    obtain ⟨i, j, q', dj, rfl, rfl, i0, i1, j0, j1, hg1, rfl, HP, HR⟩ := hrel
    have HZ : Hid (dj.size = d.size) := HP.out.1.trans HK.out
    obtain ⟨s, hs_⟩ : ∃ s, p - i = s := ⟨_, rfl⟩
    have zs : (p : Int) - (i : Int) = (s : Int) := by omega
    have hsi : s + i = p := by omega
    have HSE := Lib.hid hs_
    by_cases he : i = j
    · have hn1 : ((i : Int) != (j : Int)) = false := by simp only [bne_eq_false_iff_eq]; omega
      have hn2 : ¬ ((i : Int) ≠ (j : Int)) := by omega
      have HE := Lib.hid he
      have HCs := Lib.hid (HC.out s p i dj q' HZ.out (by omega) (by omega))
      clear he hs_ hsi
      go_wp2_with fail
      refine (HCs.out).mono ?_
      rintro e w1 ⟨rfl, d1, q1, rfl, hSw, hPm⟩
      have hF : Rotated dk a p b d1 := HR.out d1 (by
        rw [← HSE.out] at hSw
        rw [← HE.out]
        exact rot_same hSw (by omega) (by rw [HZ.out, HS.out]; omega))
      have hG : PermIn a b dk d1 := permIn_trans _ _ _ _ _ HP.out (permIn_mono dj d1 s (p + i) a b (by have := HSE.out; omega) (by omega) (by rw [HZ.out, HS.out]; exact hb) hPm)
      have HF := Lib.hid hF
      have HG := Lib.hid hG
      clear hF hG hSw hPm
      go_wp2
      go_end0
      exact ⟨rfl, d1, q1, rfl, HF.out, HG.out⟩
    · have hn1 : ((i : Int) != (j : Int)) = true := by simp only [bne_iff_ne, ne_eq]; omega
      have hn2 : (i : Int) ≠ (j : Int) := by omega
      by_cases hgt : j < i
      · have hgz : (j : Int) < (i : Int) := by omega
        have HCs := Lib.hid (HC.out s p j dj q' HZ.out (by omega) (by omega))
        have zi : (i : Int) - (j : Int) = ((i - j : Nat) : Int) := by omega
        clear hs_ he
        go_wp2_with fail
        refine (HCs.out).mono ?_
        rintro e w1 ⟨rfl, d1, q1, rfl, hSw, hPm⟩
        have HR2 : Hid (∀ d', Rotated d1 (p - (i - j)) p (p + j) d' → Rotated dk a p b d') := fun d' h => HR.out d' (by
          rw [← HSE.out] at hSw
          exact rot_more hSw hgt (by omega) (by rw [HZ.out, HS.out]; omega) h)
        have HP2 : Hid (PermIn a b dk d1) := permIn_trans _ _ _ _ _ HP.out (permIn_mono dj d1 s (p + j) a b (by omega) (by omega) (by rw [HZ.out, HS.out]; exact hb) hPm)
        clear hSw hPm
        go_wp2
        go_roundg i
        case measure => omega
        case rel => exact ⟨i - j, j, q1, d1, by go_num, rfl, by omega, by omega, by omega, by omega, by omega, rfl, HP2, HR2⟩
      · have hgz : ¬ (j : Int) < (i : Int) := by omega
        obtain ⟨u, hu_⟩ : ∃ u, p + j - i = u := ⟨_, rfl⟩
        have zu : (p : Int) + (j : Int) - (i : Int) = (u : Int) := by omega
        have HU := Lib.hid hu_
        have HCs := Lib.hid (HC.out s u i dj q' HZ.out (by omega) (by omega))
        have zi : (j : Int) - (i : Int) = ((j - i : Nat) : Int) := by omega
        have zt : (0 : Int) ≤ (p : Int) + (j : Int) := by omega
        clear hs_ he hu_
        go_wp2_with fail
        refine (HCs.out).mono ?_
        rintro e w1 ⟨rfl, d1, q1, rfl, hSw, hPm⟩
        have HR2 : Hid (∀ d', Rotated d1 (p - i) p (p + (j - i)) d' → Rotated dk a p b d') := fun d' h => HR.out d' (by
          rw [← HSE.out, ← HU.out] at hSw
          exact rot_less hSw (by omega) (by omega) (by rw [HZ.out, HS.out]; omega) h)
        have HP2 : Hid (PermIn a b dk d1) := permIn_trans _ _ _ _ _ HP.out (permIn_mono dj d1 s (u + i) a b (by omega) (by have := HU.out; omega) (by rw [HZ.out, HS.out]; exact hb) hPm)
        clear hSw hPm
        go_wp2
        go_roundg j
        case measure => omega
        case rel => exact ⟨i, j - i, q1, d1, rfl, by go_num, by omega, by omega, by omega, by omega, by omega, rfl, HP2, HR2⟩
end Go.Proofs.Ytdkgcaifagigfaa
