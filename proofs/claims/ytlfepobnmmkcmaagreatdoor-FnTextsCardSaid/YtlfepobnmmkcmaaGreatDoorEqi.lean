/- Contracts of equality of the program: slices.Equal at whole numbers, SameRooms at equal rooms. -/
import Derived.Test.YtlfepobnmmkcmaaGreatDoorEqh
import Derived.Test.YtlfepobnmmkcmaaGreatDoorRo
import Derived.Test.YtlfepobnmmkcmaaGreatDoorHz
namespace Go.Proofs.YtlfepobnmmkcmaaGreatDoor
open Go.ChangeShapes Go.WideShapes Go.ChangeAt Go.RowKit
set_option linter.unusedVariables false
set_option maxRecDepth 100000

set_option maxHeartbeats 1000000 in
theorem equalInts_any (A B : Option Addr) (n m c d : Nat) (xs ys : List Int) (w : World) (hn : xs.length = n) (hm : ys.length = m) (hr : Row w A (ints xs)) (hs : Row w B (ints ys)) (hle : n ≤ maxLen) (hle' : m ≤ maxLen) :
    Calls Tryz.prog 99 #[.slice A n c, .slice B m d] w fun e w' => e = .returned (.bool (decide (xs = ys))) ∧ Ext w w' := by
  unfold maxLen at hle hle'
  by_cases hnm : n = m
  · subst hnm
    go_enter Tryz.func99, Tryz.ntmps99
    go_wp2
    go_loopw [13] (fun i wr => ∃ (k : Nat), k ≤ n ∧ i = .int .i64 k ∧ Ext w wr ∧ xs.take k = ys.take k) (fun i _ => n - (intOf i).toNat)
    case atStart => exact ⟨0, Nat.zero_le _, rfl, Ext.refl _, rfl⟩
    case round =>
      obtain ⟨k, hk, rfl, hx, hp⟩ := hrel
      have Hp := Lib.hid hp
      clear hp
      by_cases hlt : k < n
      · obtain ⟨b, off, rfl, hb, hc0⟩ := (hr.ext hx).int (k := k) (by omega)
        obtain ⟨b', off', rfl, hb', hd0⟩ := (hs.ext hx).int (k := k) (by omega)
        have hlt2 : (k : Int) < (n : Int) := by omega
        by_cases he : xs[k]'(by omega) = ys[k]'(by omega)
        · have He := Lib.hid he
          obtain ⟨z, hz⟩ : ∃ z, ys[k]'(by omega) = z := ⟨_, rfl⟩
          rw [he] at hc0
          rw [hz] at hc0 hd0
          clear he hz
          go_wp2_with fail
          go_quiet (fail)
          go_wp2
          go_roundw
          case rel => exact ⟨k + 1, by omega, by go_num, hx.drewN _, take_eq_succ (by omega) (by omega) Hp.out He.out⟩
          case measure => simp [intOf]; omega
        · have He := Lib.hid he
          obtain ⟨z, hz⟩ : ∃ z, xs[k]'(by omega) = z := ⟨_, rfl⟩
          obtain ⟨y, hy⟩ : ∃ z, ys[k]'(by omega) = z := ⟨_, rfl⟩
          rw [hz, hy] at he
          rw [hz] at hc0
          rw [hy] at hd0
          have heb : (z != y) = true := by simpa using he
          clear hz hy he
          go_wp2_with fail
          go_quiet (fail)
          go_wp2
          go_ret
          exact ⟨ret_bool (by rw [decide_eq_false (ne_of_get (by omega) (by omega) He.out)]), hx.drewN _⟩
      · go_wp2
        go_ret
        refine ⟨ret_bool ?_, hx⟩
        have h := Hp.out
        rw [List.take_of_length_le (by omega), List.take_of_length_le (by omega)] at h
        rw [decide_eq_true h]
  · have h' : ((n : Int) != (m : Int)) = true := by simp; omega
    go_enter Tryz.func99, Tryz.ntmps99
    go_wp2
    go_ret
    exact ⟨ret_bool (by rw [decide_eq_false]; rintro rfl; omega), Ext.refl _⟩
set_option maxHeartbeats 4000000 in
theorem implSameRooms_eq (r : Room) (A0 A6 A7 B0 B6 B7 : Option Addr) (c0 c6 c7 d0 d6 d7 : Nat) (w : World)
    (p0 : Row w A0 (ints r.Map)) (p6 : Row w A6 (ints (flat Half.ints r.Noise))) (p7 : Row w A7 (ints (flat Half.ints r.Limits)))
    (q0 : Row w B0 (ints r.Map)) (q6 : Row w B6 (ints (flat Half.ints r.Noise))) (q7 : Row w B7 (ints (flat Half.ints r.Limits)))
    (h0 : r.Map.length ≤ maxLen) (h6 : r.Noise.length ≤ maxLen) (h7 : r.Limits.length ≤ maxLen) :
    Calls Tryz.prog 45 #[.agg #[.slice A0 r.Map.length c0, .int .i64 r.Div, .int .i64 r.Bx, .int .i64 r.By, .int .i64 r.Low, .int .i64 r.High, .slice A6 r.Noise.length c6, .slice A7 r.Limits.length c7], .agg #[.slice B0 r.Map.length d0, .int .i64 r.Div, .int .i64 r.Bx, .int .i64 r.By, .int .i64 r.Low, .int .i64 r.High, .slice B6 r.Noise.length d6, .slice B7 r.Limits.length d7]] w fun e w' => e = .returned (.bool true) ∧ Ext w w' := by
  have hx : Ext w ((w.alloc (.cells #[.slice A0 r.Map.length c0, .int .i64 r.Div, .int .i64 r.Bx, .int .i64 r.By, .int .i64 r.Low, .int .i64 r.High, .slice A6 r.Noise.length c6, .slice A7 r.Limits.length c7] 28)).alloc (.cells #[.slice B0 r.Map.length d0, .int .i64 r.Div, .int .i64 r.Bx, .int .i64 r.By, .int .i64 r.Low, .int .i64 r.High, .slice B6 r.Noise.length d6, .slice B7 r.Limits.length d7] 28)) := ((Ext.refl w).alloc _).alloc _
  have bA := (Blk.new w 28 #[.slice A0 r.Map.length c0, .int .i64 r.Div, .int .i64 r.Bx, .int .i64 r.By, .int .i64 r.Low, .int .i64 r.High, .slice A6 r.Noise.length c6, .slice A7 r.Limits.length c7]).alloc (.cells #[.slice B0 r.Map.length d0, .int .i64 r.Div, .int .i64 r.Bx, .int .i64 r.By, .int .i64 r.Low, .int .i64 r.High, .slice B6 r.Noise.length d6, .slice B7 r.Limits.length d7] 28)
  have bB := Blk.new (w.alloc (.cells #[.slice A0 r.Map.length c0, .int .i64 r.Div, .int .i64 r.Bx, .int .i64 r.By, .int .i64 r.Low, .int .i64 r.High, .slice A6 r.Noise.length c6, .slice A7 r.Limits.length c7] 28)) 28 #[.slice B0 r.Map.length d0, .int .i64 r.Div, .int .i64 r.Bx, .int .i64 r.By, .int .i64 r.Low, .int .i64 r.High, .slice B6 r.Noise.length d6, .slice B7 r.Limits.length d7]
  simp only [World.size_alloc] at bB
  have H0 := Lib.hid (fun w p q => equalInts_any A0 B0 r.Map.length r.Map.length c0 d0 r.Map r.Map w rfl rfl p q h0 h0)
  have H6 := Lib.hid (fun w p q => implSameRegion_any A6 B6 r.Noise.length r.Noise.length c6 d6 r.Noise r.Noise w rfl rfl p q h6 h6)
  have H7 := Lib.hid (fun w p q => implSameRegion_any A7 B7 r.Limits.length r.Limits.length c7 d7 r.Limits r.Limits w rfl rfl p q h7 h7)
  simp only [decide_true] at H0 H6 H7
  have P0 := Lib.hid p0
  have P6 := Lib.hid p6
  have P7 := Lib.hid p7
  have Q0 := Lib.hid q0
  have Q6 := Lib.hid q6
  have Q7 := Lib.hid q7
  clear p0 p6 p7 q0 q6 q7
  have cbA_1 := fun o => bA.cell o
  have cbB_2 := fun o => bB.cell o
  go_enter Tryz.func45, Tryz.ntmps45
  go_wp2_with fail
  refine (H0.out _ (P0.out.ext hx) (Q0.out.ext hx)).mono ?_
  rintro e w1 ⟨rfl, hx1⟩
  replace hx := hx.trans hx1
  replace bA := bA.ext hx1
  replace bB := bB.ext hx1
  have cbA_3 := fun o => bA.cell o
  have cbB_4 := fun o => bB.cell o
  go_wp2_with fail
  refine (H6.out _ (P6.out.ext hx) (Q6.out.ext hx)).mono ?_
  rintro e w2 ⟨rfl, hx2⟩
  replace hx := hx.trans hx2
  replace bA := bA.ext hx2
  replace bB := bB.ext hx2
  have cbA_5 := fun o => bA.cell o
  have cbB_6 := fun o => bB.cell o
  go_wp2_with fail
  refine (H7.out _ (P7.out.ext hx) (Q7.out.ext hx)).mono ?_
  rintro e w3 ⟨rfl, hx3⟩
  replace hx := hx.trans hx3
  replace bA := bA.ext hx3
  replace bB := bB.ext hx3
  have cbA_7 := fun o => bA.cell o
  have cbB_8 := fun o => bB.cell o
  go_wp2
  go_ret
  exact ⟨rfl, hx⟩
end Go.Proofs.YtlfepobnmmkcmaaGreatDoor
