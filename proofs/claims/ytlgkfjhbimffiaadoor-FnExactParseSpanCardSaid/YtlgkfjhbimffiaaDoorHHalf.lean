/- Contracts of the helpers on Half and slices of it: copies and comparisons. -/
import Derived.Test.YtlgkfjhbimffiaaDoorS
import Derived.StillTailTactics
namespace Go.Proofs.YtlgkfjhbimffiaaDoor
open Go.ChangeShapes Go.WideShapes Go.ChangeAt Go.RowKit

theorem Half.ints_len (a : Half) : a.ints.length = 3 := rfl
theorem Half.unints (zs : List Int) (h : zs.length = 3) : ∃ a : Half, a.ints = zs := by
  match zs, h with
  | [a0, a1, a2], _ => exact ⟨⟨a0, a1, a2⟩, rfl⟩
theorem Row.Half {w : World} {A : Option Addr} {xs : List Half} (h : Row w A (ints (flat Half.ints xs))) {k : Nat} (hk : k < xs.length) :
    ∃ b off, A = some ⟨b, off, none⟩ ∧ b < w.heap.size ∧ w.cell? ⟨b, off + k * 3, none⟩ = some (.int .i64 xs[k].A) ∧ w.cell? ⟨b, off + k * 3 + 1, none⟩ = some (.int .i64 xs[k].B) ∧ w.cell? ⟨b, off + k * 3 + 2, none⟩ = some (.int .i64 xs[k].C) := by
  have hl := flat_length Half.ints_len xs
  have hm : k * 3 + 3 ≤ xs.length * 3 := by omega
  obtain ⟨b, off, hA, hb, hc⟩ := h.at_ (ints_ne (k := k * 3) (by omega))
  have key : ∀ i z, i < 3 → xs[k].ints[i]? = some z → w.cell? ⟨b, off + k * 3 + i, none⟩ = some (.int .i64 z) := by
    intro i z hi hz
    have := hc (k * 3 + i) (.int .i64 z) (by unfold ints; rw [List.getElem?_map, flat_get Half.ints_len xs k i hk hi, hz]; rfl)
    rwa [← Nat.add_assoc] at this
  exact ⟨b, off, hA, hb, key 0 _ (by omega) rfl, key 1 _ (by omega) rfl, key 2 _ (by omega) rfl⟩
theorem full_Half {xs : List Half} {k i : Nat} {z : Int} (hk : k < xs.length) (hi : i < 3) (hz : xs[k].ints[i]? = some z) : (ints (flat Half.ints xs))[k * 3 + i]? = some (.int .i64 z) := by
  unfold ints; rw [List.getElem?_map, flat_get Half.ints_len xs k i hk hi, hz]; rfl

theorem toHalf_any (a0 a1 a2 : Int) (w : World) :
    Calls Tryd.prog 121 #[.agg #[.int .i64 a0, .int .i64 a1, .int .i64 a2]] w fun e w' => e = .returned (.agg #[.int .i64 a0, .int .i64 a1, .int .i64 a2]) ∧ Ext w w' := by
  go_enter Tryd.func121, Tryd.ntmps121
  go_wp2
  refine bodyPost_ret (v := .agg #[.int .i64 a0, .int .i64 a1, .int .i64 a2]) (by simp [results, Tryd.results121, go_sem]) rfl ⟨rfl, ?_⟩
  repeat (first | exact Ext.refl _ | refine Ext.alloc ?_ _ | refine Ext.setCell ?_ (by simp) _)

theorem eqHalf_any (a0 a1 a2 b0 b1 b2 : Int) (w : World) :
    Calls Tryd.prog 31 #[.agg #[.int .i64 a0, .int .i64 a1, .int .i64 a2], .agg #[.int .i64 b0, .int .i64 b1, .int .i64 b2]] w fun e w' => e = .returned (.bool (decide ((⟨a0, a1, a2⟩ : Half) = ⟨b0, b1, b2⟩))) ∧ Ext w w' := by
  by_cases h0 : a0 = b0
  · subst h0
    by_cases h1 : a1 = b1
    · subst h1
      by_cases h2 : a2 = b2
      · subst h2
        go_enter Tryd.func31, Tryd.ntmps31
        go_wp2
        go_ret
        exact ⟨ret_bool (by simp), ((Ext.refl _).alloc _).alloc _⟩
      · have hd : (a2 != b2) = true := by simpa using h2
        have H := Lib.hid h2
        clear h2
        go_enter Tryd.func31, Tryd.ntmps31
        go_wp2
        go_ret
        exact ⟨ret_bool (by simp [H.out]), ((Ext.refl _).alloc _).alloc _⟩
    · have hd : (a1 != b1) = true := by simpa using h1
      have H := Lib.hid h1
      clear h1
      go_enter Tryd.func31, Tryd.ntmps31
      go_wp2
      go_ret
      exact ⟨ret_bool (by simp [H.out]), ((Ext.refl _).alloc _).alloc _⟩
  · have hd : (a0 != b0) = true := by simpa using h0
    have H := Lib.hid h0
    clear h0
    go_enter Tryd.func31, Tryd.ntmps31
    go_wp2
    go_ret
    exact ⟨ret_bool (by simp [H.out]), ((Ext.refl _).alloc _).alloc _⟩

theorem szHalfS_any (A : Option Addr) (n c : Nat) (left : Int) (w : World) (h0 : 0 ≤ left) (hl : left ≤ 1048576) (hn : n ≤ maxLen) :
    Calls Tryd.prog 85 #[.slice A n c, .int .i64 left] w fun e w' => e = .returned (.int .i64 (szI n left)) ∧ w = w' := by
  unfold maxLen at hn
  by_cases hc : (n : Int) ≤ left
  · have H : Hid (szI n left = left - n) := szI_pos hc
    have hc2 : ¬ left - (n : Int) < 0 := by omega
    go_enter Tryd.func85, Tryd.ntmps85
    go_wp2
    go_ret
    exact ⟨by rw [H.out]; rfl, rfl⟩
  · have H : Hid (szI n left = -1) := szI_neg hc
    have hc2 : left - (n : Int) < 0 := by omega
    go_enter Tryd.func85, Tryd.ntmps85
    go_wp2
    go_ret
    exact ⟨by rw [H.out]; rfl, rfl⟩

set_option maxHeartbeats 1000000 in
theorem toHalfS_any (A : Option Addr) (n c : Nat) (xs : List Half) (w : World) (hn : xs.length = n) (hr : Row w A (ints (flat Half.ints xs))) (hle : n ≤ 1048576) :
    Calls Tryd.prog 88 #[.slice A n c] w fun e w' => ∃ g, e = .returned (.slice (some ⟨g, 0, none⟩) n n) ∧ w'.ownsRow w.heap.size 57 3 (.slice (some ⟨g, 0, none⟩) n n) n (ints (flat Half.ints xs)) ∧ Ext w w' := by
  have hmk := run_make_n 74 57 3 24 (.agg #[.int .i64 0, .int .i64 0, .int .i64 0]) Tryd.underlying74 (by kernel_rfl) n hle (by omega)
  have hmd := own_made w 57 (.agg #[.int .i64 0, .int .i64 0, .int .i64 0]) 3 n hle
  have Hml := Lib.hid (length_made (.agg #[.int .i64 0, .int .i64 0, .int .i64 0]) 3 n)
  have Hfl := Lib.hid (flat_length Half.ints_len xs)
  go_enter Tryd.func88, Tryd.ntmps88
  go_wp2
  go_loopw [4] (fun i wr => ∃ (k : Nat) (cur : List Value), k ≤ n ∧ i = .int .i64 k ∧ Ext w wr ∧ wr.ownsRow w.heap.size 57 3 (.slice (some ⟨w.heap.size, 0, none⟩) n n) n cur ∧ Pref cur (ints (flat Half.ints xs)) (k * 3)) (fun i _ => n - (intOf i).toNat)
  case atStart => exact ⟨0, _, Nat.zero_le _, rfl, (Ext.refl _).alloc _, hmd, Pref.start (by rw [Hml.out, ints_length, Hfl.out, hn])⟩
  case round =>
    obtain ⟨k, cur, hk, rfl, hx, hown, hp⟩ := hrel
    have Hp := Lib.hid hp
    clear hp hmd hmk
    by_cases hlt : k < n
    · obtain ⟨b, off, rfl, hb, hc0, hc1, hc2⟩ := (hr.ext hx).Half (k := k) (by omega)
      go_wp2_with fail
      refine (toHalf_any _ _ _ _).mono ?_
      rintro e w2 ⟨rfl, hx2⟩
      have hown2 := own_ext hown hx2
      obtain ⟨v0, hv0⟩ := own_cell hown2 (j := k * 3) (by omega)
      have hf0 := hown2.frozenAt (k * 3)
      obtain ⟨v1, hv1⟩ := own_cell hown2 (j := k * 3 + 1) (by omega)
      have hf1 := hown2.frozenAt (k * 3 + 1)
      obtain ⟨v2, hv2⟩ := own_cell hown2 (j := k * 3 + 2) (by omega)
      have hf2 := hown2.frozenAt (k * 3 + 2)
      have hs0 := (World.ownsRow.stored hown2 (k * 3) (.int .i64 (xs[k]'(by omega)).A)).1
      have hs1 := (World.ownsRow.stored hs0 (k * 3 + 1) (.int .i64 (xs[k]'(by omega)).B)).1
      have hs2 := (World.ownsRow.stored hs1 (k * 3 + 2) (.int .i64 (xs[k]'(by omega)).C)).1
      have Hst := Lib.hid hs2
      clear hs2 hs1 hs0
      have hx3 := hx.trans hx2
      go_wp2
      go_roundw
      case rel => exact ⟨k + 1, _, by omega, by go_num, by exact hx3.setCell (Nat.le_refl _) _ |>.setCell (Nat.le_refl _) _ |>.setCell (Nat.le_refl _) _, Hst.out, by rw [Nat.add_mul]; exact (((Hp.out).set (full_Half (i := 0) (by omega) (by omega) rfl)).set (full_Half (i := 1) (by omega) (by omega) rfl)).set (full_Half (i := 2) (by omega) (by omega) rfl)⟩
      case measure => simp [intOf]; omega
    · go_wp2
      go_ret
      refine ⟨_, rfl, ?_, hx⟩
      have e := Hp.out.done (by rw [ints_length, Hfl.out, hn]; exact Nat.mul_le_mul_right _ (by omega))
      rw [e] at hown
      exact hown

set_option maxRecDepth 100000 in
set_option maxHeartbeats 1000000 in
theorem eqHalfS_any (A B : Option Addr) (n m c d : Nat) (xs ys : List Half) (w : World) (hn : xs.length = n) (hm : ys.length = m) (hr : Row w A (ints (flat Half.ints xs))) (hs : Row w B (ints (flat Half.ints ys))) (hle : n ≤ maxLen) (hle' : m ≤ maxLen) :
    Calls Tryd.prog 91 #[.slice A n c, .slice B m d] w fun e w' => e = .returned (.bool (decide (xs = ys))) ∧ Ext w w' := by
  unfold maxLen at hle hle'
  by_cases hnm : n = m
  · subst hnm
    go_enter Tryd.func91, Tryd.ntmps91
    go_wp2
    go_loopw [5] (fun i wr => ∃ (k : Nat), k ≤ n ∧ i = .int .i64 k ∧ Ext w wr ∧ xs.take k = ys.take k) (fun i _ => n - (intOf i).toNat)
    case atStart => exact ⟨0, Nat.zero_le _, rfl, Ext.refl _, rfl⟩
    case round =>
      obtain ⟨k, hk, rfl, hx, hp⟩ := hrel
      have Hp := Lib.hid hp
      clear hp
      by_cases hlt : k < n
      · obtain ⟨b, off, rfl, hb, hc0, hc1, hc2⟩ := (hr.ext hx).Half (k := k) (by omega)
        obtain ⟨b', off', rfl, hb', hd0, hd1, hd2⟩ := (hs.ext hx).Half (k := k) (by omega)
        have hlt2 : (k : Int) < (n : Int) := by omega
        go_wp2_with fail
        go_still_tail 8, (by kernel_rfl)
        change wpList _ _ _ _ _ wr.drew
        have hxd := hx.drew
        generalize wr.drew = w2 at hxd ⊢
        go_wp2_with fail
        refine (eqHalf_any _ _ _ _ _ _ _).mono ?_
        rintro e w3 ⟨rfl, hx3⟩
        by_cases he : xs[k]'(by omega) = ys[k]'(by omega)
        · have he' : (decide ((⟨(xs[k]'(by omega)).A, (xs[k]'(by omega)).B, (xs[k]'(by omega)).C⟩ : Half) = ⟨(ys[k]'(by omega)).A, (ys[k]'(by omega)).B, (ys[k]'(by omega)).C⟩)) = true := decide_eq_true he
          rw [he']
          have He := Lib.hid he
          clear he he'
          go_wp2
          go_roundw
          case rel => exact ⟨k + 1, by omega, by go_num, hxd.trans hx3, take_eq_succ (by omega) (by omega) Hp.out He.out⟩
          case measure => simp [intOf]; omega
        · have he' : (decide ((⟨(xs[k]'(by omega)).A, (xs[k]'(by omega)).B, (xs[k]'(by omega)).C⟩ : Half) = ⟨(ys[k]'(by omega)).A, (ys[k]'(by omega)).B, (ys[k]'(by omega)).C⟩)) = false := decide_eq_false he
          rw [he']
          have He := Lib.hid he
          clear he he'
          go_wp2
          go_ret
          exact ⟨ret_bool (by rw [decide_eq_false (ne_of_get (by omega) (by omega) He.out)]), hxd.trans hx3⟩
      · go_wp2
        go_ret
        refine ⟨ret_bool ?_, hx⟩
        have h := Hp.out
        rw [List.take_of_length_le (by omega), List.take_of_length_le (by omega)] at h
        rw [decide_eq_true h]
  · have h' : ((n : Int) != (m : Int)) = true := by simp; omega
    go_enter Tryd.func91, Tryd.ntmps91
    go_wp2
    go_ret
    exact ⟨ret_bool (by rw [decide_eq_false]; rintro rfl; omega), Ext.refl _⟩

end Go.Proofs.YtlgkfjhbimffiaaDoor
