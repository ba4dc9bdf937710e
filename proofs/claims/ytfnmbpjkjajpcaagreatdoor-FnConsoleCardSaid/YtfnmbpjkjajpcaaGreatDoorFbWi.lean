/- Contracts of within of the program and of l06Within, IsWithin of the reference. -/
import Derived.Test.YtfnmbpjkjajpcaaGreatDoorFbSz
import Derived.Test.YtfnmbpjkjajpcaaGreatDoorFbHs
import Derived.Test.YtfnmbpjkjajpcaaGreatDoorFbCn
import Derived.Test.YtfnmbpjkjajpcaaGreatDoorFbBz
namespace Go.Proofs.YtfnmbpjkjajpcaaGreatDoor
open Go.ChangeShapes Go.WideShapes Go.ChangeAt Go.RowKit
set_option linter.unusedVariables false
set_option maxRecDepth 100000
def withinR (p q : List Half) : Bool := (cornersL p).all fun s => holdsR q s
theorem within_yes {p q : List Half} (h : ∀ j (hj : j < (cornersL p).length), holdsR q (cornersL p)[j] = true) : withinR p q = true := by
  unfold withinR
  rw [List.all_eq_true]
  intro s hs
  obtain ⟨j, hj, rfl⟩ := List.getElem_of_mem hs
  exact h j hj
theorem within_no {p q : List Half} {j : Nat} (hj : j < (cornersL p).length) (h : holdsR q (cornersL p)[j] = false) : withinR p q = false := by
  unfold withinR
  rw [List.all_eq_false]
  exact ⟨_, List.getElem_mem hj, by rw [h]; simp⟩
theorem spotOf_fine {x y d : Int} (h : (spotOf x y d).2 = true) : spotOk (spotOf x y d).1 = true := by
  by_cases q : 0 < d ∧ isLeastI x = false ∧ isLeastI y = false ∧ spotOk (lowSpot x y d) = true
  · rw [spotOf_yes q]; exact q.2.2.2
  · rw [spotOf_no q] at h; cases h
theorem corner_fine {hs : List Half} (h : Shape hs) {i : Nat} (hi : i < hs.length) : spotOk (cornerAt hs i) = true := by
  have hu := Nat.mod_lt (i + 1) h.pos
  have co := h.corner hi hu
  unfold cornerAt
  rw [halfAt_at hi, halfAt_at hu]
  unfold crossS
  refine spotOf_fine ?_
  rw [low_ok (ptB_of (small_ok (all_ok h.all _ (List.getElem_mem hi))) (small_ok (all_ok h.all _ (List.getElem_mem hu)))) (co.box h.good)]
theorem corners_fine {hs : List Half} (h : regOk hs = true) (k : Nat) (hk : k < (cornersL hs).length) : spotOk (cornersL hs)[k] = true := by
  have hk2 : k < hs.length := by rwa [cornersL_len] at hk
  have hne : hs ≠ [] := by intro e; rw [e] at hk2; simp at hk2
  have e : (cornersL hs)[k] = cornerAt hs k := by simp [cornersL, cornersTo]
  rw [e]
  exact corner_fine (shape_of h hne) hk2
set_option maxHeartbeats 8000000 in
theorem implWithin_ok (A : Option Addr) (n c : Nat) (ps : List Half) (A' : Option Addr) (n' c' : Nat) (qs : List Half) (w : World) (hn : ps.length = n) (hr : Row w A (ints (flat Half.ints ps))) (hp : regOk ps = true)
    (hn' : qs.length = n') (hr' : Row w A' (ints (flat Half.ints qs))) (hq : regOk qs = true) :
    Calls Tryz.prog 303 #[.agg #[.slice A n c], .agg #[.slice A' n' c']] w fun e w' => e = .returned (.bool (withinR ps qs)) ∧ Ext w w' := by
  have hle : n ≤ 40 := by have := regOk_len hp; omega
  have hle' : n' ≤ 40 := by have := regOk_len hq; omega
  have HC := Lib.hid (fun w hr => corners_any A n c ps w hn hr (regOk_all hp) (by omega))
  have HH := Lib.hid (fun s w hr hk => implHolds_ok A' n' c' qs s w hn' hr (regOk_all hq) (by unfold maxLen; omega) hk)
  have HF := Lib.hid (corners_fine hp)
  have HL := Lib.hid ((cornersL_len ps).trans hn)
  have HYes := Lib.hid (fun h => within_yes (p := ps) (q := qs) h)
  have HNo := Lib.hid (fun j hj h => within_no (p := ps) (q := qs) (j := j) hj h)
  have HR := Lib.hid hr
  have HR' := Lib.hid hr'
  have hx : Ext w ((w.alloc (.cells #[.slice A n c] 34)).alloc (.cells #[.slice A' n' c'] 34)) := ((Ext.refl w).alloc _).alloc _
  have bP := (Blk.new w 34 #[.slice A n c]).alloc (.cells #[.slice A' n' c'] 34)
  have bQ := Blk.new (w.alloc (.cells #[.slice A n c] 34)) 34 #[.slice A' n' c']
  simp only [World.size_alloc] at bQ
  clear hr hr' hn' hp hq hn
  have cbP_1 := fun o => bP.cell o
  have cbQ_2 := fun o => bQ.cell o
  go_enter Tryz.func303, Tryz.ntmps303
  go_wp2_with fail
  refine (HC.out _ (HR.out.ext hx)).mono ?_
  rintro e wc ⟨A1, c1, n1, rfl, hn1, hxc, hown1⟩
  have hs0 := hx.size
  try simp only [World.size_alloc] at hs0
  have HX1 := Lib.hid (hx.trans hxc)
  have bPc := bP.ext hxc
  have bQc := bQ.ext hxc
  have HR2 := Lib.hid (fun V (h : Ext wc V) => (HR'.out.ext hx).ext (hxc.trans h))
  have hn2 : n1 = n := hn1.trans HL.out
  clear hn1
  subst n1
  have H1 := Lib.hid (Row.of_own hown1)
  clear bP bQ hx hxc hown1
  generalize cornersL ps = CL at *
  go_wp2
  go_loopw [10] (fun i wr => ∃ k : Nat, k ≤ n ∧ i = .int .i64 k ∧ Ext wc wr ∧ Blk wr w.heap.size 34 #[.slice A n c] ∧ Blk wr (w.heap.size + 1) 34 #[.slice A' n' c'] ∧ Hid (∀ j (hj : j < CL.length), j < k → holdsR qs CL[j] = true)) (fun i _ => n - (intOf i).toNat)
  case atStart => exact ⟨0, Nat.zero_le _, rfl, Ext.refl _, bPc, bQc, fun j _ h => by omega⟩
  case round =>
  clear bPc bQc
  obtain ⟨k, hk, rfl, hx, bP, bQ, HPre⟩ := hrel
  by_cases hlt : k < n
  · have hkl : k < CL.length := by rw [HL.out]; exact hlt
    have hlt2 : (k : Int) < (n : Int) := by omega
    obtain ⟨b1, o1, hA1, hb1, s0, s1, s2⟩ := (H1.out.ext hx).Spot (k := k) hkl
    subst hA1
    have p1 := HF.out k hkl
    have HNk := Lib.hid (HNo.out k hkl)
    have HNx : Hid (holdsR qs CL[k] = true → ∀ j (hj : j < CL.length), j < k + 1 → holdsR qs CL[j] = true) := fun h j hj hlt => by
      rcases Nat.lt_or_ge j k with q | q
      · exact HPre.out j hj q
      · obtain rfl : j = k := by omega
        exact h
    obtain ⟨s, hs_⟩ : ∃ s, CL[k]'hkl = s := ⟨_, rfl⟩
    rw [hs_] at s0 s1 s2 p1 HNk HNx
    clear hs_
    have bS := Blk.new wr 38 #[.int .i64 s.X, .int .i64 s.Y, .int .i64 s.D]
    have hA := (Ext.refl wr).alloc (.cells #[.int .i64 s.X, .int .i64 s.Y, .int .i64 s.D] 38)
    replace hx := hx.trans hA
    replace bP := bP.ext hA
    replace bQ := bQ.ext hA
    have cS := fun o => bS.cell o
    have cQ := fun o => bQ.cell o
    have HHo := Lib.hid (fun w hr => HH.out s w hr p1)
    by_cases hh : holdsR qs s = true
    · rw [hh] at HHo
      go_wp2_with fail
      refine (HHo.out _ (HR2.out _ hx)).mono ?_
      rintro e w4 ⟨rfl, hx4⟩
      have hx5 := hx.trans hx4
      have bP4 := bP.ext hx4
      have bQ4 := bQ.ext hx4
      have HN4 := Lib.hid (HNx.out hh)
      clear cS cQ hh
      go_wp2
      go_roundw
      case rel => exact ⟨k + 1, by omega, by go_num, hx5, bP4, bQ4, HN4⟩
      case measure => simp [intOf]; omega
    · have hf : holdsR qs s = false := by simpa using hh
      rw [hf] at HHo
      have HE := Lib.hid (HNk.out hf)
      go_wp2_with fail
      refine (HHo.out _ (HR2.out _ hx)).mono ?_
      rintro e w4 ⟨rfl, hx4⟩
      have hx5 := HX1.out.trans (hx.trans hx4)
      clear cS cQ hh hf
      go_wp2
      go_ret
      exact ⟨ret_bool HE.out.symm, hx5⟩
  · obtain rfl : k = n := by omega
    have HE := Lib.hid (HYes.out fun j hj => HPre.out j hj (by rw [← HL.out]; exact hj))
    have hx5 := HX1.out.trans hx
    go_wp2
    go_ret
    exact ⟨ret_bool HE.out.symm, hx5⟩
end Go.Proofs.YtfnmbpjkjajpcaaGreatDoor
