/- Contracts of WatchLine of the program and of the reference. -/
import Derived.Test.YtfnmbpjkjajpcaaGreatDoorFbTz
import Derived.Test.YtfnmbpjkjajpcaaGreatDoorFbMz
namespace Go.Proofs.YtfnmbpjkjajpcaaGreatDoor
open Go.ChangeShapes Go.WideShapes Go.ChangeAt Go.RowKit
set_option linter.unusedVariables false
set_option maxRecDepth 100000
def cntTo (l : List Int) (v : Int) (k : Nat) : Nat := ((l.take k).filter fun x => decide (x = v)).length
def cntV (l : List Int) (v : Int) : Int := (cntTo l v l.length : Int)
theorem cntTo_zero (l : List Int) (v : Int) : cntTo l v 0 = 0 := by simp [cntTo]
theorem cntTo_yes {l : List Int} {v : Int} {k : Nat} (h : k < l.length) (he : l[k] = v) : cntTo l v (k + 1) = cntTo l v k + 1 := by
  unfold cntTo
  rw [List.take_succ_eq_append_getElem h, List.filter_append, List.length_append, List.filter_cons, if_pos (by simpa using he)]
  rfl
theorem cntTo_no {l : List Int} {v : Int} {k : Nat} (h : k < l.length) (he : l[k] ≠ v) : cntTo l v (k + 1) = cntTo l v k := by
  unfold cntTo
  rw [List.take_succ_eq_append_getElem h, List.filter_append, List.length_append, List.filter_cons, if_neg (by simpa using he)]
  rfl
theorem cntTo_le (l : List Int) (v : Int) (k : Nat) : cntTo l v k ≤ k := by
  unfold cntTo
  have h1 := List.length_filter_le (fun x => decide (x = v)) (l.take k)
  have h2 := List.length_take_le k l
  omega
def watchB (l : List Int) : ByteArray := txt [103, 111, 111, 100, 32] ++ txt (numT (cntV l 1)) ++ txt [32, 111, 118, 101, 114, 32] ++ txt (numT (cntV l 2)) ++ txt [32, 108, 111, 115, 116, 32] ++ txt (numT (cntV l 3))
set_option maxHeartbeats 1000000 in
theorem implCount_any (r : Watch) (vs : List Value) (v : Int) (w : World) (h : AggRow w (watchF r) vs) (hl : r.Log.length ≤ 1048576) :
    Calls Tryz.prog 193 #[.agg vs.toArray, .int .i64 v] w fun e w' => e = .returned (.int .i64 (cntV r.Log v)) ∧ Ext w w' := by
  obtain ⟨A0, c0, _, rfl, r0, n0, m0, _, rfl, _, rfl, _, rfl, _, rfl, _, rfl, A6, c6, _, rfl, r6, n6, m6, A7, c7, _, rfl, r7, n7, m7, A8, c8, _, rfl, r8, n8, m8, A9, c9, _, rfl, r9, n9, m9, rfl⟩ := h
  have hy : Ext w (w.alloc (.cells #[.slice A0 r.Room.Map.length c0, .int .i64 r.Room.Div, .int .i64 r.Room.Bx, .int .i64 r.Room.By, .int .i64 r.Room.Low, .int .i64 r.Room.High, .slice A6 r.Room.Noise.length c6, .slice A7 r.Room.Limits.length c7, .slice A8 r.Region.length c8, .slice A9 r.Log.length c9] 40)) := (Ext.refl w).alloc _
  have bP := Blk.new w 40 #[.slice A0 r.Room.Map.length c0, .int .i64 r.Room.Div, .int .i64 r.Room.Bx, .int .i64 r.Room.By, .int .i64 r.Room.Low, .int .i64 r.Room.High, .slice A6 r.Room.Noise.length c6, .slice A7 r.Room.Limits.length c7, .slice A8 r.Region.length c8, .slice A9 r.Log.length c9]
  have cP := fun o => bP.cell o
  have hr := r9.ext hy
  obtain ⟨n, hn⟩ : ∃ n, r.Log.length = n := ⟨_, rfl⟩
  have HN := Lib.hid hn
  rw [hn] at hl bP cP hy hr ⊢
  clear hn
  go_enter Tryz.func193, Tryz.ntmps193
  go_wp2
  go_loop [5, 11] (fun c i => ∃ k : Nat, k ≤ n ∧ i = .int .i64 k ∧ c = .int .i64 (cntTo r.Log v k : Int)) (fun _ i => n - (intOf i).toNat)
  case atStart => exact ⟨0, Nat.zero_le _, rfl, by rw [cntTo_zero]; rfl⟩
  case round =>
    obtain ⟨k, hk, rfl, rfl⟩ := hrel
    have hb := cntTo_le r.Log v k
    by_cases hlt : k < n
    · have hlt2 : (k : Int) < (n : Int) := by omega
      obtain ⟨b, off, rfl, hb, hc⟩ := hr.int (k := k) (by rw [HN.out]; exact hlt)
      by_cases he : (r.Log[k]'(by rw [HN.out]; exact hlt)) = v
      · have HK := Lib.hid (cntTo_yes (by rw [HN.out]; exact hlt) he)
        have heb : ((r.Log[k]'(by rw [HN.out]; exact hlt)) == v) = true := by simpa using he
        clear he
        go_wp2
        go_round
        case rel => exact ⟨k + 1, by omega, by go_num, by rw [HK.out]; go_num⟩
        case measure => simp [intOf]; omega
      · have HK := Lib.hid (cntTo_no (by rw [HN.out]; exact hlt) he)
        have heb : ((r.Log[k]'(by rw [HN.out]; exact hlt)) == v) = false := by simpa using he
        clear he
        go_wp2
        go_round
        case rel => exact ⟨k + 1, by omega, by go_num, by rw [HK.out]⟩
        case measure => simp [intOf]; omega
    · obtain rfl : k = n := by omega
      go_wp2
      go_ret
      exact ⟨ret_int (by unfold cntV; rw [HN.out]), hy⟩
set_option maxHeartbeats 2000000 in
theorem implWatchLine_any (r : Watch) (vs : List Value) (w : World) (h : AggRow w (watchF r) vs) (hl : r.Log.length ≤ 1048576) (ht : Tab w) :
    Calls Tryz.prog 126 #[.agg vs.toArray] w fun e w' => e = .returned (.string (watchB r.Log)) ∧ Ext w w' := by
  obtain ⟨A0, c0, _, rfl, r0, n0, m0, _, rfl, _, rfl, _, rfl, _, rfl, _, rfl, A6, c6, _, rfl, r6, n6, m6, A7, c7, _, rfl, r7, n7, m7, A8, c8, _, rfl, r8, n8, m8, A9, c9, _, rfl, r9, n9, m9, rfl⟩ := h
  have hy : Ext w (w.alloc (.cells #[.slice A0 r.Room.Map.length c0, .int .i64 r.Room.Div, .int .i64 r.Room.Bx, .int .i64 r.Room.By, .int .i64 r.Room.Low, .int .i64 r.Room.High, .slice A6 r.Room.Noise.length c6, .slice A7 r.Room.Limits.length c7, .slice A8 r.Region.length c8, .slice A9 r.Log.length c9] 40)) := (Ext.refl w).alloc _
  have bR := Blk.new w 40 #[.slice A0 r.Room.Map.length c0, .int .i64 r.Room.Div, .int .i64 r.Room.Bx, .int .i64 r.Room.By, .int .i64 r.Room.Low, .int .i64 r.Room.High, .slice A6 r.Room.Noise.length c6, .slice A7 r.Room.Limits.length c7, .slice A8 r.Region.length c8, .slice A9 r.Log.length c9]
  have hrow : AggRow (w.alloc (.cells #[.slice A0 r.Room.Map.length c0, .int .i64 r.Room.Div, .int .i64 r.Room.Bx, .int .i64 r.Room.By, .int .i64 r.Room.Low, .int .i64 r.Room.High, .slice A6 r.Room.Noise.length c6, .slice A7 r.Room.Limits.length c7, .slice A8 r.Region.length c8, .slice A9 r.Log.length c9] 40)) (watchF r) [.slice A0 r.Room.Map.length c0, .int .i64 r.Room.Div, .int .i64 r.Room.Bx, .int .i64 r.Room.By, .int .i64 r.Room.Low, .int .i64 r.Room.High, .slice A6 r.Room.Noise.length c6, .slice A7 r.Room.Limits.length c7, .slice A8 r.Region.length c8, .slice A9 r.Log.length c9] := ⟨_, _, _, rfl, r0.ext hy, n0, m0, _, rfl, _, rfl, _, rfl, _, rfl, _, rfl, _, _, _, rfl, r6.ext hy, n6, m6, _, _, _, rfl, r7.ext hy, n7, m7, _, _, _, rfl, r8.ext hy, n8, m8, _, _, _, rfl, r9.ext hy, n9, m9, rfl⟩
  have hb := fun v => cntTo_le r.Log v r.Log.length
  have I1 : I64 (cntV r.Log 1) := by have := hb 1; unfold cntV I64; omega
  have I2 : I64 (cntV r.Log 2) := by have := hb 2; unfold cntV I64; omega
  have I3 : I64 (cntV r.Log 3) := by have := hb 3; unfold cntV I64; omega
  clear hb
  have s1 := sz1 I1
  have s2 := sz1 I2
  have s3 := sz1 I3
  have H : Hid (txt [103, 111, 111, 100, 32] ++ txt (numT (cntV r.Log 1)) ++ txt [32, 111, 118, 101, 114, 32] ++ txt (numT (cntV r.Log 2)) ++ txt [32, 108, 111, 115, 116, 32] ++ txt (numT (cntV r.Log 3)) = watchB r.Log) := rfl
  obtain ⟨ta, hta⟩ : ∃ t, txt (numT (cntV r.Log 1)) = t := ⟨_, rfl⟩
  obtain ⟨tb, htb⟩ : ∃ t, txt (numT (cntV r.Log 2)) = t := ⟨_, rfl⟩
  obtain ⟨tc, htc⟩ : ∃ t, txt (numT (cntV r.Log 3)) = t := ⟨_, rfl⟩
  have Ha := Lib.hid hta
  have Hb := Lib.hid htb
  have Hc := Lib.hid htc
  rw [hta] at s1 H
  rw [htb] at s2 H
  rw [htc] at s3 H
  clear hta htb htc
  have q1 : (txt [103, 111, 111, 100, 32]).size = 5 := rfl
  have q2 : (txt [32, 111, 118, 101, 114, 32]).size = 6 := rfl
  have q3 : (txt [32, 108, 111, 115, 116, 32]).size = 6 := rfl
  have p1 : (⟨#[103, 111, 111, 100, 32]⟩ : ByteArray).size = 5 := rfl
  have p2 : (⟨#[32, 111, 118, 101, 114, 32]⟩ : ByteArray).size = 6 := rfl
  have p3 : (⟨#[32, 108, 111, 115, 116, 32]⟩ : ByteArray).size = 6 := rfl
  obtain ⟨t1, ht1⟩ : ∃ t, txt [103, 111, 111, 100, 32] ++ ta = t := ⟨_, rfl⟩
  have z1 : t1.size ≤ 69 := by rw [← ht1, ByteArray.size_append]; omega
  have a1 := add_txt (a := ⟨#[103, 111, 111, 100, 32]⟩) (b := ta) (c := t1) ht1 (by omega)
  rw [ht1] at H
  obtain ⟨t2, ht2⟩ : ∃ t, t1 ++ txt [32, 111, 118, 101, 114, 32] = t := ⟨_, rfl⟩
  have z2 : t2.size ≤ 75 := by rw [← ht2, ByteArray.size_append]; omega
  have a2 := add_txt (a := t1) (b := ⟨#[32, 111, 118, 101, 114, 32]⟩) (c := t2) ht2 (by omega)
  rw [ht2] at H
  obtain ⟨t3, ht3⟩ : ∃ t, t2 ++ tb = t := ⟨_, rfl⟩
  have z3 : t3.size ≤ 139 := by rw [← ht3, ByteArray.size_append]; omega
  have a3 := add_txt (a := t2) (b := tb) (c := t3) ht3 (by omega)
  rw [ht3] at H
  obtain ⟨t4, ht4⟩ : ∃ t, t3 ++ txt [32, 108, 111, 115, 116, 32] = t := ⟨_, rfl⟩
  have z4 : t4.size ≤ 145 := by rw [← ht4, ByteArray.size_append]; omega
  have a4 := add_txt (a := t3) (b := ⟨#[32, 108, 111, 115, 116, 32]⟩) (c := t4) ht4 (by omega)
  rw [ht4] at H
  have a5 := add_txt (a := t4) (b := tc) (c := watchB r.Log) H.out (by omega)
  clear ht1 ht2 ht3 ht4 H q1 q2 q3 p1 p2 p3
  have HT := ht.ext hy
  have hcR := fun o => bR.cell o
  go_enter Tryz.func126, Tryz.ntmps126
  go_wp2_with fail
  have hcur := Ext.refl (w.alloc (.cells #[.slice A0 r.Room.Map.length c0, .int .i64 r.Room.Div, .int .i64 r.Room.Bx, .int .i64 r.Room.By, .int .i64 r.Room.Low, .int .i64 r.Room.High, .slice A6 r.Room.Noise.length c6, .slice A7 r.Room.Limits.length c7, .slice A8 r.Region.length c8, .slice A9 r.Log.length c9] 40))
  go_region_held3 (fun w' => w'.cell? ⟨w.heap.size, 0, none⟩ = some (.slice A0 r.Room.Map.length c0) ∧ w'.cell? ⟨w.heap.size, 1, none⟩ = some (.int .i64 r.Room.Div) ∧ w'.cell? ⟨w.heap.size, 2, none⟩ = some (.int .i64 r.Room.Bx) ∧ w'.cell? ⟨w.heap.size, 3, none⟩ = some (.int .i64 r.Room.By) ∧ w'.cell? ⟨w.heap.size, 4, none⟩ = some (.int .i64 r.Room.Low) ∧ w'.cell? ⟨w.heap.size, 5, none⟩ = some (.int .i64 r.Room.High) ∧ w'.cell? ⟨w.heap.size, 6, none⟩ = some (.slice A6 r.Room.Noise.length c6) ∧ w'.cell? ⟨w.heap.size, 7, none⟩ = some (.slice A7 r.Room.Limits.length c7) ∧ w'.cell? ⟨w.heap.size, 8, none⟩ = some (.slice A8 r.Region.length c8) ∧ w'.cell? ⟨w.heap.size, 9, none⟩ = some (.slice A9 r.Log.length c9))
    (go_keep)
    (first
      | (go_at_call 193; (with_reducible refine (implCount_any r [.slice A0 r.Room.Map.length c0, .int .i64 r.Room.Div, .int .i64 r.Room.Bx, .int .i64 r.Room.By, .int .i64 r.Room.Low, .int .i64 r.Room.High, .slice A6 r.Room.Noise.length c6, .slice A7 r.Room.Limits.length c7, .slice A8 r.Region.length c8, .slice A9 r.Log.length c9] _ _ (by first | exact hrow.ext hcur | exact hrow.ext hcur.drew) hl).mono ?_); rintro e w9 ⟨rfl, hx9⟩; replace hcur := Ext.trans (by first | exact hcur | exact hcur.drew | exact hcur.alloc _ | exact (hcur.alloc _).drew) hx9; have c9bR := fun o => (bR.ext hcur).cell o; have t9 := Tab.ext HT hcur))
  have HT2 := HT.ext hcur
  have hz := hy.trans hcur
  go_wp2_with fail
  refine (implFormatInt_any _ _ I1 (by first | exact HT2 | exact HT2.drew)).mono ?_
  rintro e w1 ⟨rfl, hx1⟩
  rw [Ha.out]
  replace hz := hz.trans hx1
  go_wp2_with fail
  refine (implFormatInt_any _ _ I2 (HT.ext (hcur.trans hx1))).mono ?_
  rintro e w2 ⟨rfl, hx2⟩
  rw [Hb.out]
  replace hz := hz.trans hx2
  go_wp2_with fail
  refine (implFormatInt_any _ _ I3 (HT.ext ((hcur.trans hx1).trans hx2))).mono ?_
  rintro e w3 ⟨rfl, hx3⟩
  rw [Hc.out]
  replace hz := hz.trans hx3
  go_wp2
  go_ret
  exact ⟨rfl, hz⟩
end Go.Proofs.YtfnmbpjkjajpcaaGreatDoor
