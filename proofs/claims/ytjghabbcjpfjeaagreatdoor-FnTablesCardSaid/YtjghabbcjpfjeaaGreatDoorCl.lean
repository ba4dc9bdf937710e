/- Contracts of the lines of corners: corners, CornersOf, CornerLine of the program; l05Corners, CornerLine of the reference. (written by tools/mkCl.py) -/
import Derived.Test.YtjghabbcjpfjeaaGreatDoorCo
import Derived.Test.YtjghabbcjpfjeaaGreatDoorHz
import Derived.Test.YtjghabbcjpfjeaaGreatDoorTz
import Derived.Test.YtjghabbcjpfjeaaGreatDoorMix
import Derived.StillTailTactics
import Derived.Test.YtjghabbcjpfjeaaGreatDoorCn
namespace Go.Proofs.YtjghabbcjpfjeaaGreatDoor
open Go.ChangeShapes Go.WideShapes Go.ChangeAt Go.RowKit
set_option linter.unusedVariables false
set_option maxRecDepth 100000

def spotTs (l : List Spot) : List (List UInt8) := l.map spotT
def cornerT (hs : List Half) : List UInt8 := if hs = [] then [118, 111, 105, 100] else if regOk hs = true then Lib.join (spotTs (cornersL hs)) [32] else []
theorem cornerT_void {hs : List Half} (h : hs = []) : cornerT hs = [118, 111, 105, 100] := if_pos h
theorem cornerT_bad {hs : List Half} (h : hs ≠ []) (hk : regOk hs = false) : cornerT hs = [] := by unfold cornerT; rw [if_neg h, if_neg (by rw [hk]; simp)]
theorem cornerT_ok {hs : List Half} (h : hs ≠ []) (hk : regOk hs = true) : cornerT hs = Lib.join (spotTs (cornersL hs)) [32] := by unfold cornerT; rw [if_neg h, if_pos hk]
theorem spotTs_len (l : List Spot) : (spotTs l).length = l.length := by simp [spotTs]
theorem spotTs_succ {l : List Spot} {k : Nat} (h : k < l.length) : (spotTs l).take (k + 1) = (spotTs l).take k ++ [spotT l[k]] := by
  rw [List.take_succ_eq_append_getElem (by rw [spotTs_len]; exact h)]; simp [spotTs]
theorem spotTs_bd {l : List Spot} (h : l.length ≤ 40) (k : Nat) : (Lib.join ((spotTs l).take k) [32]).length ≤ 140737488355328 := by
  have h1 := join_len_le ((spotTs l).take k) [32] 259 (fun t ht => by
    obtain ⟨s, _, rfl⟩ := List.mem_map.1 (List.mem_of_mem_take ht); exact spotT_len s)
  have h2 : ((spotTs l).take k).length * (259 + 1) ≤ 40 * (259 + 1) := Nat.mul_le_mul_right _ (by rw [List.length_take, spotTs_len]; omega)
  exact Nat.le_trans h1 (by simp only [List.length_cons, List.length_nil]; omega)
theorem corner_all {hs : List Half} (h : hs.all halfOk = true) (k : Nat) (hk : k < (cornersL hs).length) : I64 (cornersL hs)[k].X ∧ I64 (cornersL hs)[k].Y ∧ I64 (cornersL hs)[k].D := by
  have hk' : k < hs.length := by rw [cornersL_len] at hk; exact hk
  have e : (cornersL hs)[k] = cornerAt hs k := by simp [cornersL, cornersTo]
  rw [e]; exact corner_I64 h hk'

theorem implCornersOf_any (A : Option Addr) (n c : Nat) (hs : List Half) (w : World) (hn : hs.length = n) (hr : Row w A (ints (flat Half.ints hs))) (hI : HalvesI hs) (hle : n ≤ maxLen) :
    Calls Tryz.prog 20 #[.agg #[.slice A n c]] w (SpotsMade (if regOk hs = true then cornersL hs else []) w) := by
  have hx : Ext w (w.alloc (.cells #[.slice A n c] 26)) := (Ext.refl w).alloc _
  have bR := Blk.new w 26 #[.slice A n c]
  have HR := Lib.hid hr
  have HO := Lib.hid (fun w hr => implRegionOk_any A n c hs w hn hr hI hle)
  have HC := Lib.hid (fun w hr (h : regOk hs = true) => corners_any A n c hs w hn hr (regOk_all h) (by have := regOk_len h; omega))
  clear hr hI hn
  by_cases hok : regOk hs = true
  · have HOk := Lib.hid hok
    have HC2 := Lib.hid (fun w hr => HC.out w hr hok)
    rw [if_pos hok]
    clear hok HC
    go_enter Tryz.func20, Tryz.ntmps20
    go_wp2_with fail
    refine (HO.out _ (HR.out.ext hx)).mono ?_
    rintro e w1 ⟨rfl, hx1⟩
    replace hx := hx.trans hx1
    replace bR := bR.ext hx1
    have cbR_1 := fun o => bR.cell o
    rw [HOk.out]
    go_wp2_with fail
    refine (HC2.out _ (HR.out.ext hx)).mono ?_
    rintro e w2 ⟨A2, c2, m, rfl, hm, hx2, hown2⟩
    have HM := Lib.hid hm
    have hxs := hx.size
    have HW := Lib.hid hown2
    clear hm hown2
    go_wp2
    go_ret
    exact ⟨A2, c2, m, rfl, HM.out, hx.trans hx2, own_base HW.out hxs⟩
  · have HOk : Hid (regOk hs = false) := by simpa [Hid] using hok
    rw [if_neg hok]
    clear hok
    go_enter Tryz.func20, Tryz.ntmps20
    go_wp2_with fail
    refine (HO.out _ (HR.out.ext hx)).mono ?_
    rintro e w1 ⟨rfl, hx1⟩
    replace hx := hx.trans hx1
    replace bR := bR.ext hx1
    have cbR_2 := fun o => bR.cell o
    rw [HOk.out]
    go_wp2
    go_ret
    exact ⟨none, 0, 0, rfl, rfl, hx, World.ownsRow_nil _ _ _ _⟩
end Go.Proofs.YtjghabbcjpfjeaaGreatDoor
