/- Contracts of UnusedOf and ShortOf of the program and of the reference. -/
import Derived.Test.YtbbkahnfnjlajaaDoorI
import Derived.Test.YtbbkahnfnjlajaaDoorPz
import Derived.OwnWalk
import Derived.Deep.DeepMust
namespace Go.Proofs.YtbbkahnfnjlajaaDoor
open Go.ChangeShapes Go.WideShapes Go.ChangeAt Go.RowKit
set_option linter.unusedVariables false

theorem int_info : (Tryd.prog.info? 3).map (fun i => (i.zero, i.size, i.bytes)) = some (some (.int .i64 0), 1, 8) := by kernel_rfl

/-- a list of ints was made: a slice of the call's own -/
def IntsMade (l : List Int) (w : World) (e : Ending) (w' : World) : Prop :=
  ∃ A c, e = .returned (.slice A l.length c) ∧ w'.ownsRow w.heap.size 3 1 (.slice A l.length c) l.length (ints l) ∧ Ext w w'
theorem IntsMade.mk {l : List Int} {w w' : World} {e : Ending} {A : Option Addr} {c : Nat} (he : e = .returned (.slice A l.length c)) (hx : Ext w w') (ho : w'.ownsRow w.heap.size 3 1 (.slice A l.length c) l.length (ints l)) : IntsMade l w e w' :=
  ⟨A, c, he, ho, hx⟩

set_option maxHeartbeats 400000 in
theorem implUnused_any (A B : Option Addr) (n c m d : Nat) (xs : List Ask) (total : Int) (ys : List Int) (w : World) (hn : xs.length = n) (hm : ys.length = m) (hr : Row w A (ints (flat Ask.ints xs))) (hs : Row w B (ints ys)) (hle : n ≤ maxLen) (hle' : m ≤ maxLen) :
    Calls Tryd.prog 29 #[.slice A n c, .int .i64 total, .slice B m d] w fun e w' => e = .returned (.int .i64 (unusedOf xs total ys)) ∧ Ext w w' := by
  by_cases hbig : 1000000 < total
  · have H : Hid (unusedOf xs total ys = -1) := by unfold Hid unusedOf; rw [if_pos (.inl hbig)]
    go_enter Tryd.func29, Tryd.ntmps29
    go_wp2
    go_ret
    exact ⟨ret_int H.out.symm, Ext.refl _⟩
  · go_enter Tryd.func29, Tryd.ntmps29
    go_wp2_with fail
    refine (implIsAllot_any _ _ _ _ _ _ xs _ ys _ hn hm hr hs hle hle').mono ?_
    rintro e w1 ⟨rfl, hx1⟩
    by_cases hal : isAllot xs total ys = true
    · have H : Hid (unusedOf xs total ys = total - sumN (num ys) m) := by unfold Hid unusedOf; rw [if_neg (by rw [hal]; simp; omega), hm]
      have hbd := isAllot_bd hal (k := m) (by omega)
      obtain ⟨hb1, hb2, hb3⟩ := hbd
      have Hal := Lib.hid hal
      rw [hal]
      clear hal
      go_wp2_with fail
      refine (sumOf_any _ _ _ ys _ hm (hs.ext hx1) hle' 6000 (by omega) (fun j hj => (isAllot_bd Hal.out (by omega)).2)).mono ?_
      rintro e w' ⟨rfl, rfl⟩
      go_wp2
      go_ret
      exact ⟨ret_int H.out.symm, hx1⟩
    · have H : Hid (unusedOf xs total ys = -1) := by unfold Hid unusedOf; rw [if_pos (.inr (by simpa using hal))]
      rw [show isAllot xs total ys = false from by simpa using hal]
      clear hal
      go_wp2
      go_ret
      exact ⟨ret_int H.out.symm, hx1⟩


set_option maxHeartbeats 1000000 in
theorem implShortOf_any (A B : Option Addr) (n c m d : Nat) (xs : List Ask) (ys : List Int) (w : World) (hn : xs.length = n) (hm : ys.length = m) (hr : Row w A (ints (flat Ask.ints xs))) (hs : Row w B (ints ys)) (hle : n ≤ maxLen) (hle' : m ≤ maxLen) :
    Calls Tryd.prog 28 #[.slice A n c, .slice B m d] w fun e w' => IntsMade (shortOf xs ys) w e w' := by
  have Hle := Lib.hid hle
  unfold maxLen at hle hle'
  obtain ⟨i0, hi0, hz0, hz1, hz2⟩ := info_parts int_info
  go_enter Tryd.func28, Tryd.ntmps28
  go_wp2_with fail
  refine (implAsksOk_any _ _ _ xs _ hn hr Hle.out).mono ?_
  rintro e w1 ⟨rfl, hx1⟩
  by_cases hok : asksOk xs = true
  · rw [hok]
    have h6 := asksOk_len hok
    have Hok := Lib.hid hok
    clear hok
    by_cases hnm : n = m
    · have hnm' : ((m : Int) != (n : Int)) = false := by simp; omega
      have Hnm := Lib.hid hnm
      go_wp2
      go_loopw [5, 20] (fun v i wr => ∃ k : Nat, k ≤ m ∧ i = .int .i64 k ∧ Ext w wr ∧ wr.ownsRow w.heap.size 3 1 v (keepN (shortAt xs ys) k).length (ints (keepN (shortAt xs ys) k))) (fun _ i _ => m - (intOf i).toNat)
      case atStart => exact ⟨0, Nat.zero_le _, rfl, hx1, World.ownsRow_nil _ _ _ _⟩
      case round =>
      obtain ⟨k, hk, rfl, hx, hown⟩ := hrel
      have hsz := hx.size
      have hkl := keepN_length (shortAt xs ys) k
      by_cases hlt : k < m
      · obtain ⟨b, off, rfl, hb, hc0, hc1, hc2, hc3⟩ := (hr.ext hx).Ask (k := k) (by omega)
        obtain ⟨b', off', rfl, hb', hcell⟩ := (hs.ext hx).int (k := k) (by omega)
        have hlt2 : (k : Int) < (n : Int) := by omega
        have hlt3 : (k : Int) < (m : Int) := by omega
        have hfe : shortAt xs ys k = decide ((ys[k]'(by omega)) < (xs[k]'(by omega)).Wish) := by
          unfold shortAt; rw [num_at (by omega), askWish_at (by omega)]
        by_cases hf : (ys[k]'(by omega)) < (xs[k]'(by omega)).Wish
        · have Hk : Hid (keepN (shortAt xs ys) (k + 1) = keepN (shortAt xs ys) k ++ [(k : Int)]) := by
            unfold Hid; rw [keepN, if_pos (by rw [hfe]; simpa using hf)]
          clear hfe
          go_wp2_with (at_builtin; go_must (refine wpList_append_own _ rfl _ _ 26 rfl w.heap.size 3 i0 (.int .i64 0) 1 8 Tryd.underlying26 hi0 hz0 hz1 hz2 rfl (by decide) _ _ _ rfl (hown.alloc _) ⟨wr.heap.size, 0, none⟩ 1 1 [.int .i64 k] rfl rfl (cell_one_new _ _ _) (by simp [Value.oneCell']) (by unfold maxLen; omega) (by omega) (by simp; omega) ?_); intro v' w2 hown' hgrow _)
          have hx2 : Ext w w2 := (hx.alloc _).grown hgrow (fun g hg => (hown.lt g hg).1)
          go_roundw
          case rel => exact ⟨k + 1, by omega, by go_num, hx2, by rw [Hk.out, List.length_append, ints_append]; exact hown'⟩
          case measure => simp [intOf]; omega
        · have Hk : Hid (keepN (shortAt xs ys) (k + 1) = keepN (shortAt xs ys) k) := by
            unfold Hid; rw [keepN, if_neg (by rw [hfe]; simpa using hf)]
          clear hfe
          go_wp2
          go_roundw
          case rel => exact ⟨k + 1, by omega, by go_num, hx, by rw [Hk.out]; exact hown⟩
          case measure => simp [intOf]; omega
      · go_wp2
        go_ret
        obtain ⟨A', c', rfl⟩ := own_form hown
        have e : shortOf xs ys = keepN (shortAt xs ys) k := by
          rw [shortOf_pos Hok.out (by omega), show k = ys.length from by omega]
        refine IntsMade.mk (A := A') (c := c') (by rw [e]; rfl) hx (by rw [e]; exact hown)
    · have H : Hid (shortOf xs ys = []) := by
        unfold Hid shortOf
        rw [if_neg (fun h => hnm (by omega))]
      have hnm' : ((m : Int) != (n : Int)) = true := by simp; omega
      go_wp2
      go_ret
      exact IntsMade.mk (A := none) (c := 0) (by rw [H.out]; rfl) hx1 (by rw [H.out]; exact World.ownsRow_nil _ _ _ _)
  · rw [show asksOk xs = false from by simpa using hok]
    have H : Hid (shortOf xs ys = []) := by
      unfold Hid shortOf
      rw [if_neg (fun h => hok h.1)]
    clear hok
    go_wp2
    go_ret
    exact IntsMade.mk (A := none) (c := 0) (by rw [H.out]; rfl) hx1 (by rw [H.out]; exact World.ownsRow_nil _ _ _ _)

end Go.Proofs.YtbbkahnfnjlajaaDoor
