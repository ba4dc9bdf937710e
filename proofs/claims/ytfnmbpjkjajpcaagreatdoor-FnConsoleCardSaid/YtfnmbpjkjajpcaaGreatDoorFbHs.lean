/- Contracts of HasSpot of both, with the sides of a spot. (written by tools/mkHs.py) -/
import Derived.Test.YtfnmbpjkjajpcaaGreatDoorFbRz
import Derived.Test.YtfnmbpjkjajpcaaGreatDoorFbIv
namespace Go.Proofs.YtfnmbpjkjajpcaaGreatDoor
open Go.ChangeShapes Go.WideShapes Go.ChangeAt Go.RowKit
set_option linter.unusedVariables false
set_option maxRecDepth 100000
def sideI (h : Half) (s : Spot) : Int := h.A * s.X + h.B * s.Y - h.C * s.D
def sgnI (n : Int) : Int := if n < 0 then -1 else if 0 < n then 1 else 0
theorem sgnI_pos {n : Int} : 0 < sgnI n ↔ 0 < n := by unfold sgnI; split <;> (try split) <;> omega
theorem sgnI_lo {n : Int} (h : n < 0) : sgnI n = -1 := if_pos h
theorem sgnI_hi {n : Int} (h : 0 < n) : sgnI n = 1 := by unfold sgnI; rw [if_neg (by omega), if_pos h]
theorem sgnI_0 {n : Int} (h1 : ¬ n < 0) (h2 : ¬ 0 < n) : sgnI n = 0 := by unfold sgnI; rw [if_neg h1, if_neg h2]
def holdsR (hs : List Half) (s : Spot) : Bool := hs.all (fun h => decide (sideI h s ≤ 0)) && !decide (hs.length = 0)
structure SideB (h : Half) (s : Spot) : Prop where
  a : -250000000000000000 ≤ h.A * s.X ∧ h.A * s.X ≤ 250000000000000000
  b : -250000000000000000 ≤ h.B * s.Y ∧ h.B * s.Y ≤ 250000000000000000
  c : -500000000000000000 ≤ h.C * s.D ∧ h.C * s.D ≤ 500000000000000000
theorem side_bd {h : Half} {s : Spot} (hh : halfOk h = true) (hs : spotOk s = true) : SideB h s := by
  obtain ⟨b1, b2, b3, b4, b5, b6, _⟩ := halfOk_bd hh
  unfold spotOk inR at hs
  simp only [Bool.and_eq_true, decide_eq_true_eq] at hs
  have m1 := mul_bd (a := h.A) (b := s.X) (A := 50000) (B := 5000000000000) ⟨b1, b2⟩ ⟨by omega, by omega⟩
  have m2 := mul_bd (a := h.B) (b := s.Y) (A := 50000) (B := 5000000000000) ⟨b3, b4⟩ ⟨by omega, by omega⟩
  have m3 := mul_bd (a := h.C) (b := s.D) (A := 100000000) (B := 5000000000) ⟨b5, b6⟩ ⟨by omega, by omega⟩
  exact ⟨by omega, by omega, by omega⟩
theorem spot_I {s : Spot} (h : spotOk s = true) : I64 s.X ∧ I64 s.Y ∧ I64 s.D := by
  unfold spotOk inR at h
  simp only [Bool.and_eq_true, decide_eq_true_eq] at h
  unfold I64
  omega
set_option maxHeartbeats 4000000 in
theorem signOf_any (n : Int) (w : World) : Calls Tryz.prog 344 #[.int .i64 n] w fun e w' => e = .returned (.int .i64 (sgnI n)) ∧ w = w' := by
  by_cases h1 : n < 0
  · have H := Lib.hid (sgnI_lo h1)
    go_enter Tryz.func344, Tryz.ntmps344
    go_wp2
    go_ret
    exact ⟨ret_int H.out.symm, rfl⟩
  by_cases h2 : 0 < n
  · have H := Lib.hid (sgnI_hi h2)
    go_enter Tryz.func344, Tryz.ntmps344
    go_wp2
    go_ret
    exact ⟨ret_int H.out.symm, rfl⟩
  have H := Lib.hid (sgnI_0 h1 h2)
  go_enter Tryz.func344, Tryz.ntmps344
  go_wp2
  go_ret
  exact ⟨ret_int H.out.symm, rfl⟩
set_option maxHeartbeats 4000000 in
theorem implSideOf_ok (h : Half) (s : Spot) (w : World) (hh : halfOk h = true) (hs : spotOk s = true) :
    Calls Tryz.prog 340 #[.agg #[.int .i64 h.A, .int .i64 h.B, .int .i64 h.C], .agg #[.int .i64 s.X, .int .i64 s.Y, .int .i64 s.D]] w fun e w' => e = .returned (.int .i64 (sgnI (sideI h s))) ∧ Ext w w' := by
  have B := side_bd hh hs
  obtain ⟨a1, b1, c1⟩ := B
  have q1 : IntKind.i64.wrap (h.A * s.X) = h.A * s.X := IntWalk.i64_in _ (by omega)
  have q2 : IntKind.i64.wrap (h.B * s.Y) = h.B * s.Y := IntWalk.i64_in _ (by omega)
  have q3 : IntKind.i64.wrap (h.C * s.D) = h.C * s.D := IntWalk.i64_in _ (by omega)
  have q4 : IntKind.i64.wrap (h.A * s.X + h.B * s.Y) = h.A * s.X + h.B * s.Y := IntWalk.i64_in _ (by omega)
  have q5 : IntKind.i64.wrap (h.A * s.X + h.B * s.Y - h.C * s.D) = sideI h s := (IntWalk.i64_in _ (by omega)).trans rfl
  have hx : Ext w ((w.alloc (.cells #[.int .i64 h.A, .int .i64 h.B, .int .i64 h.C] 116)).alloc (.cells #[.int .i64 s.X, .int .i64 s.Y, .int .i64 s.D] 38)) := ((Ext.refl w).alloc _).alloc _
  have bH := (Blk.new w 116 #[.int .i64 h.A, .int .i64 h.B, .int .i64 h.C]).alloc (.cells #[.int .i64 s.X, .int .i64 s.Y, .int .i64 s.D] 38)
  have bS := Blk.new (w.alloc (.cells #[.int .i64 h.A, .int .i64 h.B, .int .i64 h.C] 116)) 38 #[.int .i64 s.X, .int .i64 s.Y, .int .i64 s.D]
  simp only [World.size_alloc] at bS
  obtain ⟨s1, s2, s3⟩ := spot_I hs
  obtain ⟨g1, g2, g3, g4, g5, g6, _⟩ := halfOk_bd hh
  have HK := Lib.hid (fun w => implHalfOk_any h.A h.B h.C w (by unfold I64; omega) (by unfold I64; omega) (by unfold I64; omega))
  have HS := Lib.hid (fun w => implSpotOk_any s.X s.Y s.D w s1 s2 s3)
  have e1 : halfOk ⟨h.A, h.B, h.C⟩ = true := hh
  have e2 : spotOk ⟨s.X, s.Y, s.D⟩ = true := hs
  rw [e1] at HK
  rw [e2] at HS
  clear hh hs e1 e2 a1 b1 c1 s1 s2 s3 g1 g2 g3 g4 g5 g6
  generalize sideI h s = z at *
  have cbH_1 := fun o => bH.cell o
  have cbS_2 := fun o => bS.cell o
  go_enter Tryz.func340, Tryz.ntmps340
  go_wp2_with fail
  refine (HK.out _).mono ?_
  rintro e w1 ⟨rfl, hx1⟩
  replace hx := hx.trans hx1
  replace bH := bH.ext hx1
  replace bS := bS.ext hx1
  have cbH_3 := fun o => bH.cell o
  have cbS_4 := fun o => bS.cell o
  go_wp2_with fail
  refine (HS.out _).mono ?_
  rintro e w2 ⟨rfl, hx2⟩
  replace hx := hx.trans hx2
  replace bH := bH.ext hx2
  replace bS := bS.ext hx2
  have cbH_5 := fun o => bH.cell o
  have cbS_6 := fun o => bS.cell o
  go_wp2_with fail
  refine (signOf_any _ _).mono ?_
  rintro e w3 ⟨rfl, rfl⟩
  go_wp2
  go_ret
  exact ⟨rfl, hx⟩
set_option maxHeartbeats 8000000 in
theorem implHolds_ok (A : Option Addr) (n c : Nat) (hs : List Half) (s : Spot) (w : World) (hn : hs.length = n) (hr : Row w A (ints (flat Half.ints hs))) (hE : hs.all halfOk = true) (hle : n ≤ maxLen) (hs_ : spotOk s = true) :
    Calls Tryz.prog 332 #[.agg #[.slice A n c], .agg #[.int .i64 s.X, .int .i64 s.Y, .int .i64 s.D]] w fun e w' => e = .returned (.bool (holdsR hs s)) ∧ Ext w w' := by
  unfold maxLen at hle
  have HI : Hid (∀ k (hk : k < hs.length), halfOk hs[k] = true) := fun k hk => List.all_eq_true.1 hE _ (List.getElem_mem hk)
  have HR := Lib.hid hr
  have HSd := Lib.hid (fun h w hh => implSideOf_ok h s w hh hs_)
  have HN := Lib.hid hn
  have hx0 : Ext w ((w.alloc (.cells #[.slice A n c] 34)).alloc (.cells #[.int .i64 s.X, .int .i64 s.Y, .int .i64 s.D] 38)) := ((Ext.refl w).alloc _).alloc _
  have bP := (Blk.new w 34 #[.slice A n c]).alloc (.cells #[.int .i64 s.X, .int .i64 s.Y, .int .i64 s.D] 38)
  have bS := Blk.new (w.alloc (.cells #[.slice A n c] 34)) 38 #[.int .i64 s.X, .int .i64 s.Y, .int .i64 s.D]
  simp only [World.size_alloc] at bS
  have cP := fun o => bP.cell o
  clear hE hr hs_
  go_enter Tryz.func332, Tryz.ntmps332
  go_wp2
  go_loopw [10] (fun i wr => ∃ k : Nat, k ≤ n ∧ i = .int .i64 k ∧ Ext w wr ∧ Blk wr w.heap.size 34 #[.slice A n c] ∧ Blk wr (w.heap.size + 1) 38 #[.int .i64 s.X, .int .i64 s.Y, .int .i64 s.D] ∧ (hs.take k).all (fun h => decide (sideI h s ≤ 0)) = true) (fun i _ => n - (intOf i).toNat)
  case atStart => exact ⟨0, Nat.zero_le _, rfl, hx0, bP, bS, rfl⟩
  case round =>
  clear cP bP bS hx0
  obtain ⟨k, hk, rfl, hx, bP, bS, hall⟩ := hrel
  have Hall := Lib.hid hall
  clear hall
  by_cases hlt : k < n
  rotate_left
  · obtain rfl : k = n := by omega
    have H : Hid (holdsR hs s = !decide (k = 0)) := by
      have h := Hall.out
      rw [List.take_of_length_le (by have := HN.out; omega)] at h
      unfold Hid holdsR
      rw [h, HN.out]
      rfl
    have cP := fun o => bP.cell o
    go_wp2_with fail
    refine (implIsVoid_any A k c _ (by unfold maxLen; omega)).mono ?_
    rintro e w1 ⟨rfl, hx1⟩
    go_wp2
    go_ret
    exact ⟨ret_bool H.out.symm, hx.trans hx1⟩
  have hkl : k < hs.length := by have := HN.out; omega
  obtain ⟨b, off, rfl, hb, h0, h1, h2⟩ := (HR.out.ext hx).Half (k := k) hkl
  have hh := HI.out k hkl
  have Hy : Hid (sideI (hs[k]'hkl) s ≤ 0 → (hs.take (k + 1)).all (fun h => decide (sideI h s ≤ 0)) = true) := fun hp => by rw [all_take_succ _ _ _ hkl, decide_eq_true hp, Hall.out]; rfl
  have Hn : Hid (¬ sideI (hs[k]'hkl) s ≤ 0 → holdsR hs s = false) := fun hp => by unfold holdsR; rw [all_false_at _ _ _ hkl (decide_eq_false hp)]; rfl
  obtain ⟨h, hh_⟩ : ∃ h, hs[k]'hkl = h := ⟨_, rfl⟩
  rw [hh_] at h0 h1 h2 hh Hy Hn
  have HC := Lib.hid (fun w => HSd.out h w hh)
  clear hh_ hh hkl
  generalize sideI h s = z at *
  have hz := sgnI_pos (n := z)
  generalize sgnI z = g at *
  have bH := Blk.new wr 116 #[.int .i64 h.A, .int .i64 h.B, .int .i64 h.C]
  have hA := (Ext.refl wr).alloc (.cells #[.int .i64 h.A, .int .i64 h.B, .int .i64 h.C] 116)
  replace hx := hx.trans hA
  replace bP := bP.ext hA
  replace bS := bS.ext hA
  have cH := fun o => bH.cell o
  have cS := fun o => bS.cell o
  go_wp2_with fail
  refine (HC.out _).mono ?_
  rintro e w1 ⟨rfl, hx1⟩
  replace hx := hx.trans hx1
  replace bP := bP.ext hx1
  replace bS := bS.ext hx1
  clear cH cS h0 h1 h2
  by_cases hg : 0 < g
  · have H := Lib.hid (Hn.out (by omega))
    go_wp2
    go_ret
    exact ⟨ret_bool H.out.symm, hx⟩
  have H := Lib.hid (Hy.out (by omega))
  go_wp2
  go_roundw
  case rel => exact ⟨k + 1, by omega, by go_num, hx, bP, bS, H.out⟩
  case measure => simp [intOf]; omega
end Go.Proofs.YtfnmbpjkjajpcaaGreatDoor
