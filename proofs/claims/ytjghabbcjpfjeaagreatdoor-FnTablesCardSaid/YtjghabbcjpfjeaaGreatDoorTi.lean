/- Contract of the program's tightest: the sorted list of the tightest half planes. -/
import Derived.Test.YtjghabbcjpfjeaaGreatDoorHo
import Derived.Test.YtjghabbcjpfjeaaGreatDoorIns
import Derived.Test.YtjghabbcjpfjeaaGreatDoorPz
namespace Go.Proofs.YtjghabbcjpfjeaaGreatDoor
open Go.ChangeShapes Go.WideShapes Go.ChangeAt Go.RowKit
set_option linter.unusedVariables false
set_option maxRecDepth 100000
attribute [local go_sem ↓] Go.wp_at_zero Go.wp_at_succ

/-- a slice of half planes of the call's own was made -/
def HalvesMade (l : List Half) (w : World) (e : Ending) (w' : World) : Prop :=
  ∃ A c n, e = .returned (.slice A n c) ∧ n = l.length ∧ Ext w w' ∧ w'.ownsRow w.heap.size 120 3 (.slice A n c) n (ints (flat Half.ints l))

theorem own_row_len {w : World} {base n : Nat} {v : Value} {l : List Half} (h : w.ownsRow base 120 3 v n (ints (flat Half.ints l))) : l.length = n := by
  have := h.1; rw [ints_length, flat_length Half.ints_len] at this; omega
theorem own_half {w : World} {base n c g : Nat} {l : List Half} (h : w.ownsRow base 120 3 (.slice (some ⟨g, 0, none⟩) n c) n (ints (flat Half.ints l))) {t : Nat} (ht : t < l.length) :
    w.cell? ⟨g, t * 3, none⟩ = some (.int .i64 l[t].A) ∧ w.cell? ⟨g, t * 3 + 1, none⟩ = some (.int .i64 l[t].B) ∧ w.cell? ⟨g, t * 3 + 2, none⟩ = some (.int .i64 l[t].C) := by
  obtain ⟨b, off, hA, _, h0, h1, h2⟩ := (Row.of_own h).Half ht
  injection hA with hA
  injection hA with e1 e2
  subst e1 e2
  simp only [Nat.zero_add] at h0 h1 h2
  exact ⟨h0, h1, h2⟩
/-- the cells of a list with one half plane replaced -/
theorem flat_set (l : List Half) (t : Nat) (x : Half) (ht : t < l.length) : ints (flat Half.ints (l.set t x)) = (((ints (flat Half.ints l)).set (t * 3) (.int .i64 x.A)).set (t * 3 + 1) (.int .i64 x.B)).set (t * 3 + 2) (.int .i64 x.C) := by
  apply List.ext_getElem?
  intro j
  have hl : (ints (flat Half.ints l)).length = l.length * 3 := by rw [ints_length, flat_length Half.ints_len]
  have hl2 : (ints (flat Half.ints (l.set t x))).length = l.length * 3 := by rw [ints_length, flat_length Half.ints_len, List.length_set]
  by_cases hj : j < l.length * 3
  · obtain ⟨q, r, hr, rfl⟩ : ∃ q r, r < 3 ∧ j = q * 3 + r := ⟨j / 3, j % 3, Nat.mod_lt _ (by omega), by omega⟩
    have hq : q < l.length := by omega
    have hq2 : q < (l.set t x).length := by rw [List.length_set]; exact hq
    unfold ints
    rw [List.getElem?_map, flat_get Half.ints_len _ q r hq2 hr]
    simp only [List.getElem?_set, List.length_map, List.length_set, flat_length Half.ints_len]
    rw [List.getElem?_map, flat_get Half.ints_len _ q r hq hr]
    rw [List.getElem_set]
    by_cases e : t = q
    · subst e
      rw [if_pos rfl]
      match r, hr with
      | 0, _ => simp [Half.ints]; omega
      | 1, _ => simp [Half.ints]; omega
      | 2, _ => simp [Half.ints]; omega
    · rw [if_neg e]
      rw [if_neg (by omega), if_neg (by omega), if_neg (by omega)]
  · rw [List.getElem?_eq_none (by omega), List.getElem?_eq_none (by simp only [List.length_set]; omega)]

set_option maxHeartbeats 8000000 in
theorem tightest_any (A : Option Addr) (n c : Nat) (l : List Half) (w : World) (hn : l.length = n) (hr : Row w A (ints (flat Half.ints l))) (hle : n ≤ 100000) (hok : ∀ x ∈ l, halfOk x = true) :
    Calls Tryz.prog 126 #[.slice A n c] w (HalvesMade (sortedH l) w) := by
  have HR := Lib.hid hr
  have HN := Lib.hid hn
  have HOk : Hid (∀ i (hi : i < l.length), halfOk l[i] = true) := fun i hi => hok _ (List.getElem_mem hi)
  have HSo := Lib.hid (sortedTo_ok hok)
  have HSl := Lib.hid (sortedTo_len l)
  clear hr hok
  go_enter Tryz.func126, Tryz.ntmps126
  go_wp2
  go_loopw [3, 9] (fun v i wr => ∃ (k : Nat), k ≤ n ∧ i = .int .i64 k ∧ Ext w wr ∧ wr.ownsRow w.heap.size 120 3 v (sortedTo l k).length (ints (flat Half.ints (sortedTo l k)))) (fun _ i _ => n - (intOf i).toNat)
  case atStart => exact ⟨0, Nat.zero_le _, rfl, Ext.refl _, World.ownsRow_nil _ _ _ _⟩
  case round =>
  obtain ⟨k, hk, rfl, hx, hown⟩ := hrel
  obtain ⟨A', c', rfl⟩ := own_form hown
  by_cases hlt : k < n
  rotate_left
  · obtain rfl : k = n := by omega
    go_wp2
    go_ret
    refine ⟨A', c', _, rfl, ?_, hx, ?_⟩
    · rw [← sortedTo_all, HN.out]
    · rw [← sortedTo_all, HN.out]; exact hown
  have hkl : k < l.length := by omega
  obtain ⟨b, off, rfl, hb, k0, k1, k2⟩ := (HR.out.ext hx).Half (k := k) hkl
  have hokh := HOk.out k hkl
  have Hst := Lib.hid (sortedTo_succ hkl)
  obtain ⟨h, hh⟩ : ∃ h, l[k]'hkl = h := ⟨_, rfl⟩
  rw [hh] at k0 k1 k2 hokh Hst
  clear hh
  have hSo := HSo.out k
  have hSl := HSl.out k
  obtain ⟨S, hS⟩ : ∃ S, sortedTo l k = S := ⟨_, rfl⟩
  rw [hS] at hown Hst hSo hSl
  rw [hS]
  clear hS
  have HSO := Lib.hid hSo
  clear hSo
  obtain ⟨m, hm⟩ : ∃ m, S.length = m := ⟨_, rfl⟩
  rw [hm] at hown hSl
  rw [hm]
  have HM := Lib.hid hm
  clear hm
  have sH := small_ok hokh
  have hmc : m ≤ c' := own_cap hown
  have hcm : c' ≤ 9223372036854775807 := by
    rcases hown.2 with ⟨hv', _⟩ | ⟨g, cap, cur, hv', _, _, _, h4, _⟩
    · injection hv' with _ _ e; omega
    · injection hv' with _ _ e; unfold maxLen at h4; omega
  have bH := Blk.new wr 120 #[.int .i64 h.A, .int .i64 h.B, .int .i64 h.C]
  have hwr := hx.size
  have HOwn0 := Lib.hid hown
  have hown1 := hown.alloc (.cells #[.int .i64 h.A, .int .i64 h.B, .int .i64 h.C] 120)
  have hx1 := hx.alloc (.cells #[.int .i64 h.A, .int .i64 h.B, .int .i64 h.C] 120)
  obtain ⟨w0, hw0⟩ : ∃ w0, wr.heap.size = w0 := ⟨_, rfl⟩
  rw [hw0] at bH hwr
  have Hw0 := Lib.hid hw0
  have HOwn := Lib.hid hown1
  clear hown1 hown hx
  go_wp2
  clear k0 k1 k2
  obtain ⟨wo, rfl⟩ : ∃ wo : World, wo = wr := ⟨_, rfl⟩
  have HB := Lib.hid (fun (g : Half) (w : World) (hg : SmallH g) => beforeAngle_any g h w hg sH)
  go_loopw [6] (fun a ws => ∃ (t : Nat), t ≤ m ∧ a = .int .i64 t ∧ Ext (wo.alloc (.cells #[.int .i64 h.A, .int .i64 h.B, .int .i64 h.C] 120)) ws ∧ ∀ i (hi : i < S.length), i < t → before S[i] h = true) (fun a _ => m - (intOf a).toNat)
  case atStart => exact ⟨0, Nat.zero_le _, rfl, Ext.refl _, fun i hi h0 => by omega⟩
  case round =>
  obtain ⟨t, ht, rfl, hy, hbef⟩ := hrel
  have Hbef := Lib.hid hbef
  clear hbef
  have hys := hy.size
  simp only [World.size_alloc] at hys
  replace bH := bH.ext hy
  have hown := own_ext HOwn.out hy
  have cH := fun o => bH.cell o
  have hlH := bH.lt
  by_cases htm : t < m
  · obtain ⟨g, cur, rfl, hgb, hgc, _⟩ := own_whole hown (by omega)
    have hgl : g < wr.heap.size := (Array.getElem?_eq_some_iff.1 hgc).1
    have hgw : g < w0 := by
      have h1 := own_lt HOwn0.out (g := g) rfl
      have h2 := Hw0.out
      omega
    clear hgc
    have htl : t < S.length := by rw [HM.out]; exact htm
    obtain ⟨c0, c1, c2⟩ := own_half hown htl
    have okx := HSO.out _ (List.getElem_mem htl)
    have Hbf : Hid (∀ _ : before (S[t]'htl) h = true, ∀ i (hi : i < S.length), i < t + 1 → before S[i] h = true) := fun hb i hi h1 => by
      by_cases e : i = t
      · subst e; exact hb
      · exact Hbef.out i hi (by omega)
    have Hpl : Hid (∀ _ : before (S[t]'htl) h = false, placeH h S = t) := fun hb => placeH_of (by omega) Hbef.out (fun _ => hb)
    have Hsm : Hid (∀ _ : placeH h S = t, sameDir (S[t]'htl) h = true → insertH h S = S.set t (tighter (S[t]'htl) h)) := fun hp hs => by subst hp; exact insertH_same h S htl hs
    have Hnw : Hid (∀ _ : placeH h S = t, sameDir (S[t]'htl) h = false → insertH h S = S.take t ++ h :: S.drop t) := fun hp hs => by subst hp; exact insertH_new h S (fun _ => hs)
    obtain ⟨x, hxt⟩ : ∃ x, S[t]'htl = x := ⟨_, rfl⟩
    rw [hxt] at c0 c1 c2 okx Hbf Hpl Hsm Hnw
    have Hxt := Lib.hid hxt
    clear hxt
    have sX := small_ok okx
    have htm2 : (t : Int) < (m : Int) := by omega
    have hcur := Ext.refl wr
    obtain ⟨q, hq⟩ : ∃ q, before x h = q := ⟨_, rfl⟩
    have hBx := fun w => HB.out x w sX
    rw [hq] at hBx Hbf Hpl
    have HBx := Lib.hid hBx
    clear hq hBx
    go_wp2_with fail
    go_region_held3 (fun w' => w'.cell? ⟨g, t * 3, none⟩ = some (.int .i64 x.A) ∧ w'.cell? ⟨g, t * 3 + 1, none⟩ = some (.int .i64 x.B) ∧ w'.cell? ⟨g, t * 3 + 2, none⟩ = some (.int .i64 x.C) ∧ w'.cell? ⟨w0, 0, none⟩ = some (.int .i64 h.A) ∧ w'.cell? ⟨w0, 1, none⟩ = some (.int .i64 h.B) ∧ w'.cell? ⟨w0, 2, none⟩ = some (.int .i64 h.C))
      (go_keep)
      ((go_at_call 148; (with_reducible refine (HBx.out _).mono ?_); rintro e w9 ⟨rfl, hx9⟩; replace hcur := Ext.trans (by first | exact hcur | exact hcur.drew) hx9; have c9 := fun o => hcur.use.1 g o (by omega); have d9 := fun o => hcur.use.1 w0 o (by omega)))
    cases q
    rotate_left
    · go_wp2
      go_roundw
      case rel => exact ⟨t + 1, by omega, by go_num, hy.trans hcur, Hbf.out rfl⟩
      case measure => simp [intOf]; omega
    have Hpt := Lib.hid (Hpl.out rfl)
    rename_i w1
    have hDx := fun w => sameDirection_any x h w sX sH
    obtain ⟨q, hq⟩ : ∃ q, sameDir x h = q := ⟨_, rfl⟩
    have hTx := fun w (hs : sameDir x h = true) => implTighter_any x h w okx hokh hs
    rw [hq] at hDx Hsm Hnw hTx
    have HDx := Lib.hid hDx
    have HTx := Lib.hid hTx
    clear hq hDx hTx
    have c9 := fun o => hcur.use.1 g o (by omega)
    have d9 := fun o => hcur.use.1 w0 o (by omega)
    go_wp2_with fail
    go_region_held3 (fun w' => w'.cell? ⟨g, t * 3, none⟩ = some (.int .i64 x.A) ∧ w'.cell? ⟨g, t * 3 + 1, none⟩ = some (.int .i64 x.B) ∧ w'.cell? ⟨g, t * 3 + 2, none⟩ = some (.int .i64 x.C) ∧ w'.cell? ⟨w0, 0, none⟩ = some (.int .i64 h.A) ∧ w'.cell? ⟨w0, 1, none⟩ = some (.int .i64 h.B) ∧ w'.cell? ⟨w0, 2, none⟩ = some (.int .i64 h.C))
      (go_keep)
      ((go_at_call 149; (with_reducible refine (HDx.out _).mono ?_); rintro e w9 ⟨rfl, hx9⟩; replace hcur := Ext.trans (by first | exact hcur | exact hcur.drew) hx9; have c9 := fun o => hcur.use.1 g o (by omega); have d9 := fun o => hcur.use.1 w0 o (by omega)))
    have hown2 := own_ext hown hcur
    have bH2 := bH.ext hcur
    have hs2 := hcur.size
    have hx2 := (hx1.trans hy).trans hcur
    clear c9 d9 c0 c1 c2 cH
    cases q
    · have Hins := Lib.hid (Hnw.out Hpt.out rfl)
      have dH := fun o => bH2.cell o
      go_wp2_with fail
      refine (insert_any w.heap.size (some ⟨g, 0, none⟩) m c' t w9.heap.size S h _ (hown2.alloc _) (by omega) (by omega) (by simp; omega) (Blk.new _ _ _) (fun e => by simp [Value.ownBlock] at e; omega)).mono ?_
      rintro e w5 ⟨A2, c2, rfl, hown5, hon⟩
      have hx5 : Ext w w5 := (hx2.alloc _).only hon (fun g' e => by simp [Value.ownBlock] at e; omega)
      have Hl : Hid ((S.take t ++ h :: S.drop t).length = m + 1) := by
        unfold Hid
        rw [List.length_append, List.length_cons, List.length_take, List.length_drop, HM.out]
        omega
      go_wp2
      go_roundw
      case rel => exact ⟨k + 1, by omega, by go_num, hx5, by rw [Hst.out, Hins.out, Hl.out]; exact hown5⟩
      case measure => simp [intOf]; omega
    · have Hins := Lib.hid (Hsm.out Hpt.out rfl)
      have dH := fun o => bH2.cell o
      obtain ⟨c0, c1, c2⟩ := own_half hown2 (t := t) htl
      rw [Hxt.out] at c0 c1 c2
      have f0 := fun j => hown2.frozenAt j
      have g9 : g < w9.heap.size := by omega
      go_wp2_with fail
      have HTy := Lib.hid (fun w => HTx.out w (by first | rfl | trivial))
      go_region_with ((go_at_call 150; go_must (refine (HTy.out _).mono ?_); rintro e w5 ⟨rfl, hx5⟩; have c5 := fun o => hx5.use.1 g o (by first | exact g9 | (simp; omega)); have f5 := fun o => hx5.use.2.1 g o (by first | exact g9 | (simp; omega))))
      all_goals
        rename_i w5 hx5 c5 f5
        have hx6 : Ext w w5 := Ext.trans (by first | exact hx2 | exact hx2.drew) hx5
        have hown6 : w5.ownsRow w.heap.size 120 3 (.slice (some ⟨g, 0, none⟩) m c') m (ints (flat Half.ints S)) := own_ext (w := w9.drew) hown2 hx5
        have HO6 := Lib.hid hown6
        clear hown6
        go_wp2
        go_roundw
        case rel => exact ⟨k + 1, by omega, by go_num, ((hx6.setCell (by first | omega | (simp <;> omega)) _).setCell (by first | omega | (simp <;> omega)) _).setCell (by first | omega | (simp <;> omega)) _, by
          rw [Hst.out, Hins.out, List.length_set, HM.out, flat_set _ _ _ htl]
          exact (World.ownsRow.stored (World.ownsRow.stored (World.ownsRow.stored HO6.out _ _).1 _ _).1 _ _).1⟩
        case measure => simp [intOf]; omega
  · obtain rfl : m = t := by omega
    have Hpt : Hid (placeH h S = m) := by
      refine placeH_of (by have := HM.out; omega) Hbef.out (fun hk => ?_)
      have := HM.out
      omega
    have Hins : Hid (insertH h S = S.take m ++ h :: S.drop m) := by
      have := insertH_new h S (fun hp => by have := Hpt.out; have := HM.out; omega)
      rw [Hpt.out] at this
      exact this
    have hge : ¬ (m : Int) < (m : Int) := by omega
    have hge2 : decide ((m : Int) < (m : Int)) = false := by simp
    have hge3 : decide (m < m) = false := by simp
    have hx2 := hx1.trans hy
    clear htm
    go_wp2_with fail
    go_quiet (fail)
    go_wp2_with fail
    go_quiet (fail)
    go_wp2_with fail
    refine (insert_any w.heap.size A' m c' m _ S h _ (by refine World.ownsRow.alloc (own_ext hown ?_) _; repeat (first | exact Ext.refl _ | refine Ext.drewN ?_ _ | refine Ext.drew ?_)) (by omega) (by omega) (by simp; omega) (Blk.new _ _ _) (fun e => by have h9 := (World.ownsRow.lt hown _ e).2; simp at h9)).mono ?_
    rintro e w5 ⟨A2, c2, rfl, hown5, hon⟩
    have hx5 : Ext w w5 := (by refine Ext.only (Ext.alloc ?_ _) hon (fun g' e => (World.ownsRow.lt hown _ e).1); repeat (first | exact hx2 | refine Ext.drewN ?_ _ | refine Ext.drew ?_))
    have Hl : Hid ((S.take m ++ h :: S.drop m).length = m + 1) := by
      unfold Hid
      rw [List.length_append, List.length_cons, List.length_take, List.length_drop, HM.out]
      omega
    go_wp2
    go_roundw
    case rel => exact ⟨k + 1, by omega, by go_num, hx5, by rw [Hst.out, Hins.out, Hl.out]; exact hown5⟩
    case measure => simp [intOf]; omega
end Go.Proofs.YtjghabbcjpfjeaaGreatDoor
