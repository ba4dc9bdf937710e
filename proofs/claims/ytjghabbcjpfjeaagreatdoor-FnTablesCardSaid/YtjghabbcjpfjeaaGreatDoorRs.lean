/- Contracts of regions of the reference: l05Sorted. (written by tools/mkRs.py out of XTi) -/
import Derived.Test.YtjghabbcjpfjeaaGreatDoorTi
import Derived.Test.YtjghabbcjpfjeaaGreatDoorPt
import Derived.Maps.AppendAt
namespace Go.Proofs.YtjghabbcjpfjeaaGreatDoor
open Go.ChangeShapes Go.WideShapes Go.ChangeAt Go.RowKit
set_option linter.unusedVariables false
set_option maxRecDepth 100000
attribute [local go_sem ↓] Go.wp_at_zero Go.wp_at_succ

theorem shift_get (S : List Half) (X : Half) (j : Nat) (h0 : 0 < j) (h : j ≤ S.length) : (S.take j ++ X :: S.drop j)[j - 1]'(by rw [List.length_append, List.length_cons, List.length_take, List.length_drop]; omega) = S[j - 1]'(by omega) := by
  rw [List.getElem_append_left (by rw [List.length_take]; omega), List.getElem_take]
theorem shift_end (S : List Half) (X h : Half) (j : Nat) (hj : j ≤ S.length) : (S.take j ++ X :: S.drop j).set j h = S.take j ++ h :: S.drop j := by
  rw [List.set_append_right _ _ (by rw [List.length_take]; omega)]
  rw [List.length_take, Nat.min_eq_left hj, Nat.sub_self]
  rfl
theorem shift_step (S : List Half) (X : Half) (j : Nat) (h0 : 0 < j) (h : j ≤ S.length) : (S.take j ++ X :: S.drop j).set j (S[j - 1]'(by omega)) = S.take (j - 1) ++ (S[j - 1]'(by omega)) :: S.drop (j - 1) := by
  rw [shift_end _ _ _ _ h]
  have e1 : S.take j = S.take (j - 1) ++ [S[j - 1]'(by omega)] := by
    have := List.take_succ_eq_append_getElem (i := j - 1) (show j - 1 < S.length by omega)
    rwa [show j - 1 + 1 = j by omega] at this
  have e2 : S.drop (j - 1) = S[j - 1]'(by omega) :: S.drop j := by
    have := List.drop_eq_getElem_cons (i := j - 1) (show j - 1 < S.length by omega)
    rwa [show j - 1 + 1 = j by omega] at this
  rw [e1, e2, List.append_assoc]
  rfl

set_option maxHeartbeats 8000000 in
theorem l05Sorted_any (A : Option Addr) (n c : Nat) (l : List Half) (w : World) (hn : l.length = n) (hr : Row w A (ints (flat Half.ints l))) (hle : n ≤ 100000) (hok : ∀ x ∈ l, halfOk x = true) :
    Calls Tryz.prog 120 #[.slice A n c] w (HalvesMade (sortedH l) w) := by
  have HR := Lib.hid hr
  have HN := Lib.hid hn
  have HOk : Hid (∀ i (hi : i < l.length), halfOk l[i] = true) := fun i hi => hok _ (List.getElem_mem hi)
  have HSo := Lib.hid (sortedTo_ok hok)
  have HSl := Lib.hid (sortedTo_len l)
  clear hr hok
  go_enter Tryz.func120, Tryz.ntmps120
  go_wp2
  go_loopw [3, 11] (fun v i wr => ∃ (k : Nat), k ≤ n ∧ i = .int .i64 k ∧ Ext w wr ∧ wr.ownsRow w.heap.size 120 3 v (sortedTo l k).length (ints (flat Half.ints (sortedTo l k)))) (fun _ i _ => n - (intOf i).toNat)
  case atStart => exact ⟨0, Nat.zero_le _, rfl, (Ext.refl w).alloc _, World.ownsRow_lit w #[] 0 (Nat.le_refl _) (by unfold maxLen; omega) rfl⟩
  case round =>
  obtain ⟨k, hk, rfl, hx, hown⟩ := hrel
  obtain ⟨A', c', rfl⟩ := own_form hown
  by_cases hlt : k < n
  rotate_left
  · obtain rfl : k = n := by omega
    go_wp2
    go_ret
    refine ⟨A', c', _, rfl, ?_, hx, ?_⟩
    · rw [← sortedTo_all, HN.out]
    · rw [← sortedTo_all, HN.out]; exact hown
  have hkl : k < l.length := by omega
  obtain ⟨b, off, rfl, hb, k0, k1, k2⟩ := (HR.out.ext hx).Half (k := k) hkl
  have hokh := HOk.out k hkl
  have Hst := Lib.hid (sortedTo_succ hkl)
  obtain ⟨h, hh⟩ : ∃ h, l[k]'hkl = h := ⟨_, rfl⟩
  rw [hh] at k0 k1 k2 hokh Hst
  clear hh
  have hSo := HSo.out k
  have hSl := HSl.out k
  obtain ⟨S, hS⟩ : ∃ S, sortedTo l k = S := ⟨_, rfl⟩
  rw [hS] at hown Hst hSo hSl
  rw [hS]
  clear hS
  have HSO := Lib.hid hSo
  clear hSo
  obtain ⟨m, hm⟩ : ∃ m, S.length = m := ⟨_, rfl⟩
  rw [hm] at hown hSl
  rw [hm]
  have HM := Lib.hid hm
  clear hm
  have sH := small_ok hokh
  have hmc : m ≤ c' := own_cap hown
  have hcm : c' ≤ 9223372036854775807 := by
    rcases hown.2 with ⟨hv', _⟩ | ⟨g, cap, cur, hv', _, _, _, h4, _⟩
    · injection hv' with _ _ e; omega
    · injection hv' with _ _ e; unfold maxLen at h4; omega
  have bH := Blk.new wr 120 #[.int .i64 h.A, .int .i64 h.B, .int .i64 h.C]
  have hwr := hx.size
  have HOwn0 := Lib.hid hown
  have hown1 := hown.alloc (.cells #[.int .i64 h.A, .int .i64 h.B, .int .i64 h.C] 120)
  have hx1 := hx.alloc (.cells #[.int .i64 h.A, .int .i64 h.B, .int .i64 h.C] 120)
  obtain ⟨w0, hw0⟩ : ∃ w0, wr.heap.size = w0 := ⟨_, rfl⟩
  rw [hw0] at bH hwr
  have Hw0 := Lib.hid hw0
  have HOwn := Lib.hid hown1
  clear hown1 hown hx
  go_wp2
  clear k0 k1 k2
  obtain ⟨wo, rfl⟩ : ∃ wo : World, wo = wr := ⟨_, rfl⟩
  have HB := Lib.hid (fun (g : Half) (w : World) (hg : halfOk g = true) => specBefore_any g h w hg hokh)
  go_loopw [6] (fun a ws => ∃ (t : Nat), t ≤ m ∧ a = .int .i64 t ∧ Ext (wo.alloc (.cells #[.int .i64 h.A, .int .i64 h.B, .int .i64 h.C] 120)) ws ∧ ∀ i (hi : i < S.length), i < t → before S[i] h = true) (fun a _ => m - (intOf a).toNat)
  case atStart => exact ⟨0, Nat.zero_le _, rfl, Ext.refl _, fun i hi h0 => by omega⟩
  case round =>
  obtain ⟨t, ht, rfl, hy, hbef⟩ := hrel
  have Hbef := Lib.hid hbef
  clear hbef
  have hys := hy.size
  simp only [World.size_alloc] at hys
  replace bH := bH.ext hy
  have hown := own_ext HOwn.out hy
  have cH := fun o => bH.cell o
  have hlH := bH.lt
  by_cases htm : t < m
  · obtain ⟨g, cur, rfl, hgb, hgc, _⟩ := own_whole hown (by omega)
    have hgl : g < wr.heap.size := (Array.getElem?_eq_some_iff.1 hgc).1
    have hgw : g < w0 := by
      have h1 := own_lt HOwn0.out (g := g) rfl
      have h2 := Hw0.out
      omega
    clear hgc
    have htl : t < S.length := by rw [HM.out]; exact htm
    obtain ⟨c0, c1, c2⟩ := own_half hown htl
    have okx := HSO.out _ (List.getElem_mem htl)
    have Hbf : Hid (∀ _ : before (S[t]'htl) h = true, ∀ i (hi : i < S.length), i < t + 1 → before S[i] h = true) := fun hb i hi h1 => by
      by_cases e : i = t
      · subst e; exact hb
      · exact Hbef.out i hi (by omega)
    have Hpl : Hid (∀ _ : before (S[t]'htl) h = false, placeH h S = t) := fun hb => placeH_of (by omega) Hbef.out (fun _ => hb)
    have Hsm : Hid (∀ _ : placeH h S = t, sameDir (S[t]'htl) h = true → insertH h S = S.set t (tighter (S[t]'htl) h)) := fun hp hs => by subst hp; exact insertH_same h S htl hs
    have Hnw : Hid (∀ _ : placeH h S = t, sameDir (S[t]'htl) h = false → insertH h S = S.take t ++ h :: S.drop t) := fun hp hs => by subst hp; exact insertH_new h S (fun _ => hs)
    obtain ⟨x, hxt⟩ : ∃ x, S[t]'htl = x := ⟨_, rfl⟩
    rw [hxt] at c0 c1 c2 okx Hbf Hpl Hsm Hnw
    have Hxt := Lib.hid hxt
    clear hxt
    have sX := small_ok okx
    have htm2 : (t : Int) < (m : Int) := by omega
    have hcur := Ext.refl wr
    obtain ⟨q, hq⟩ : ∃ q, before x h = q := ⟨_, rfl⟩
    have hBx := fun w => HB.out x w okx
    rw [hq] at hBx Hbf Hpl
    have HBx := Lib.hid hBx
    clear hq hBx
    go_wp2_with fail
    go_region_held3 (fun w' => w'.cell? ⟨g, t * 3, none⟩ = some (.int .i64 x.A) ∧ w'.cell? ⟨g, t * 3 + 1, none⟩ = some (.int .i64 x.B) ∧ w'.cell? ⟨g, t * 3 + 2, none⟩ = some (.int .i64 x.C) ∧ w'.cell? ⟨w0, 0, none⟩ = some (.int .i64 h.A) ∧ w'.cell? ⟨w0, 1, none⟩ = some (.int .i64 h.B) ∧ w'.cell? ⟨w0, 2, none⟩ = some (.int .i64 h.C))
      (go_keep)
      ((go_at_call 141; (with_reducible refine (HBx.out _).mono ?_); rintro e w9 ⟨rfl, hx9⟩; replace hcur := Ext.trans (by first | exact hcur | exact hcur.drew) hx9; have c9 := fun o => hcur.use.1 g o (by omega); have d9 := fun o => hcur.use.1 w0 o (by omega)))
    cases q
    rotate_left
    · go_wp2
      go_roundw
      case rel => exact ⟨t + 1, by omega, by go_num, hy.trans hcur, Hbf.out rfl⟩
      case measure => simp [intOf]; omega
    have Hpt := Lib.hid (Hpl.out rfl)
    rename_i w1
    have hDx := fun w => specSameDir_any x h w okx hokh
    obtain ⟨q, hq⟩ : ∃ q, sameDir x h = q := ⟨_, rfl⟩
    have hTx := fun w (hs : sameDir x h = true) => specTighter_any x h w okx hokh hs
    rw [hq] at hDx Hsm Hnw hTx
    have HDx := Lib.hid hDx
    have HTx := Lib.hid hTx
    clear hq hDx hTx
    have c9 := fun o => hcur.use.1 g o (by omega)
    have d9 := fun o => hcur.use.1 w0 o (by omega)
    go_wp2_with fail
    go_region_held3 (fun w' => w'.cell? ⟨g, t * 3, none⟩ = some (.int .i64 x.A) ∧ w'.cell? ⟨g, t * 3 + 1, none⟩ = some (.int .i64 x.B) ∧ w'.cell? ⟨g, t * 3 + 2, none⟩ = some (.int .i64 x.C) ∧ w'.cell? ⟨w0, 0, none⟩ = some (.int .i64 h.A) ∧ w'.cell? ⟨w0, 1, none⟩ = some (.int .i64 h.B) ∧ w'.cell? ⟨w0, 2, none⟩ = some (.int .i64 h.C))
      (go_keep)
      ((go_at_call 142; (with_reducible refine (HDx.out _).mono ?_); rintro e w9 ⟨rfl, hx9⟩; replace hcur := Ext.trans (by first | exact hcur | exact hcur.drew) hx9; have c9 := fun o => hcur.use.1 g o (by omega); have d9 := fun o => hcur.use.1 w0 o (by omega)))
    have hown2 := own_ext hown hcur
    have bH2 := bH.ext hcur
    have hs2 := hcur.size
    have hx2 := (hx1.trans hy).trans hcur
    clear c9 d9 c0 c1 c2 cH
    cases q
    · have Hins := Lib.hid (Hnw.out Hpt.out rfl)
      have dH := fun o => bH2.cell o
      clear dH
      obtain ⟨wp, rfl⟩ : ∃ wp : World, wp = wr := ⟨_, rfl⟩
      obtain ⟨i0, hi0, hz0, hz1, hz2⟩ := info_parts half_info
      have hcc : ∀ j u, (ints [0, 0, 0])[j]? = some u → ((w9).alloc (.cells #[.int .i64 0, .int .i64 0, .int .i64 0] 120)).cell? ((⟨(w9).heap.size, 0, none⟩ : Addr).add j) = some u := fun j u hj => by
        rw [show ((⟨(w9).heap.size, 0, none⟩ : Addr).add j) = ⟨(w9).heap.size, 0 + j, none⟩ from by unfold Addr.add; split <;> simp_all, Nat.zero_add, (Blk.new (w9) _ _).cell]
        simpa [ints] using hj
      have hOo : (w9).ownsRow w.heap.size 120 3 (.slice (some ⟨g, 0, none⟩) m c') m (ints (flat Half.ints S)) := hown2
      have bW : Blk (w9) w0 120 #[.int .i64 h.A, .int .i64 h.B, .int .i64 h.C] := bH2
      have hxW : Ext w (w9) := hx2
      have hWs := hxW.size
      have hgrow0 : ∀ w6, (w9).grownBy w6 (Value.ownBlock (.slice (some ⟨g, 0, none⟩) m c')) → Blk w6 w0 120 #[.int .i64 h.A, .int .i64 h.B, .int .i64 h.C] := fun w6 hg => (hg.block w0 bW.lt (fun e => by have h1 := (World.ownsRow.lt HOwn0.out _ e.symm).2; have h2 := Hw0.out; omega)).trans bW
      have Hgr := Lib.hid hgrow0
      clear hgrow0
      have hflz : Hid (ints (flat Half.ints (S ++ [⟨0, 0, 0⟩])) = ints (flat Half.ints S) ++ ints [0, 0, 0]) := by unfold Hid; rw [flat_app, ints_append]; rfl
      go_wp2_with (at_builtin; go_must (refine wpList_append_own_at _ rfl _ _ 24 rfl w.heap.size 120 i0 (.agg #[.int .i64 0, .int .i64 0, .int .i64 0]) 3 24 Tryz.underlying24 hi0 hz0 hz1 hz2 rfl (by decide) _ _ _ rfl (hOo.alloc _) ⟨(w9).heap.size, 0, none⟩ 1 1 (ints [0, 0, 0]) rfl rfl hcc (oneCell_ints _) (by unfold maxLen; omega) (by omega) (by simp; omega) ?_); intro v6 w6 hown6 hgrow6 _ hat6; obtain ⟨A6, c6, rfl⟩ := own_form hown6)
      have Hat6 : Hid (∀ g', A6 = some ⟨g', 0, none⟩ → g' ≠ w0) := fun g' e e2 => by
        rw [e2] at e
        subst e
        rcases hat6 with h | h
        · have h1 : w0 < _ := (World.ownsRow.lt HOwn0.out w0 h.symm).2
          have h2 := Hw0.out
          omega
        · have h1 := bW.lt
          have h3 : w0 = _ := Option.some.inj h
          simp at h3
          omega
      clear hat6
      have hx6 : Ext w w6 := (hxW.alloc _).grown hgrow6 (fun g' e => (World.ownsRow.lt hOo _ e).1)
      have b6 : Blk w6 w0 120 #[.int .i64 h.A, .int .i64 h.B, .int .i64 h.C] := (hgrow6.block w0 (bW.alloc (.cells #[.int .i64 0, .int .i64 0, .int .i64 0] 120)).lt (fun e => by have h1 := (World.ownsRow.lt HOwn0.out _ e.symm).2; have h2 := Hw0.out; omega)).trans (bW.alloc _)
      rw [← hflz.out] at hown6
      clear hcc hOo hgrow6 bW hxW
      have HS6 : Hid (S ++ [⟨0, 0, 0⟩] = S.take m ++ (⟨0, 0, 0⟩ : Half) :: S.drop m) := by
        unfold Hid
        rw [List.take_of_length_le (by rw [HM.out]; omega), List.drop_eq_nil_of_le (by rw [HM.out]; omega)]
      rw [HS6.out] at hown6
      have h6m : m + 1 ≤ c6 := own_cap hown6
      go_wp2
      go_loopw [7] (fun kk ws => ∃ (j : Nat) (X : Half), t ≤ j ∧ j ≤ m ∧ kk = .int .i64 j ∧ Ext w ws ∧ Blk ws w0 120 #[.int .i64 h.A, .int .i64 h.B, .int .i64 h.C] ∧ ws.ownsRow w.heap.size 120 3 (.slice A6 (m + 1) c6) (m + 1) (ints (flat Half.ints (S.take j ++ X :: S.drop j)))) (fun kk _ => (intOf kk).toNat)
      case atStart => exact ⟨m, ⟨0, 0, 0⟩, by omega, Nat.le_refl _, by go_num, hx6, b6, hown6⟩
      case round =>
        obtain ⟨j, X, htj, hjm, rfl, hx7, b7, hown7⟩ := hrel
        obtain ⟨g6, cur6, rfl, hg6, hgc6, _⟩ := own_whole hown7 (by omega)
        have hLl : (S.take j ++ X :: S.drop j).length = m + 1 := own_row_len hown7
        have hg67 := Hat6.out g6 rfl
        have f7 := fun i => hown7.frozenAt i
        have c7 := fun o => b7.cell o
        by_cases hj : t < j
        · have hjl : j - 1 < S.length := by rw [HM.out]; omega
          obtain ⟨r0, r1, r2⟩ := own_half hown7 (t := j - 1) (by omega)
          obtain ⟨s0, s1, s2⟩ := own_half hown7 (t := j) (by omega)
          have hget := shift_get S X j (by omega) (by rw [HM.out]; exact hjm)
          rw [hget] at r0 r1 r2
          have Hset := Lib.hid (shift_step S X j (by omega) (by rw [HM.out]; exact hjm))
          have Hfs := Lib.hid (flat_set (S.take j ++ X :: S.drop j) j (S[j - 1]'hjl) (by omega))
          obtain ⟨z, hz⟩ : ∃ z, S[j - 1]'hjl = z := ⟨_, rfl⟩
          rw [hz] at r0 r1 r2 Hset Hfs
          clear hget hz
          have l1 : ((j : Int) - 1).toNat = j - 1 := by omega
          have l2 : (0 : Int) ≤ (j : Int) - 1 := by omega
          have l3 : (j : Int) - 1 < (m : Int) + 1 := by omega
          have l4 : (t : Int) < (j : Int) := by omega
          have l5 : (j : Int) < (m : Int) + 1 := by omega
          have l6 : IntKind.i64.wrap ((j : Int) - 1) = ((j - 1 : Nat) : Int) := by rw [IntKind.wrap_i64]; omega
          have l7 : ((j - 1 : Nat) : Int) < (m : Int) + 1 := by omega
          have HO7 := Lib.hid hown7
          clear hown7
          go_wp2
          go_roundw
          case rel =>
            refine ⟨j - 1, z, by omega, by omega, by go_num, ((hx7.setCell (by first | omega | (simp <;> omega)) _).setCell (by first | omega | (simp <;> omega)) _).setCell (by first | omega | (simp <;> omega)) _, ((b7.far (by simp; omega) _).far (by simp; omega) _).far (by simp; omega) _, ?_⟩
            rw [← Hset.out, Hfs.out]
            exact (World.ownsRow.stored (World.ownsRow.stored (World.ownsRow.stored HO7.out _ _).1 _ _).1 _ _).1
          case measure => simp [intOf]; omega
        · obtain rfl : t = j := by omega
          obtain ⟨s0, s1, s2⟩ := own_half hown7 (t := t) (by omega)
          have Hset := Lib.hid (shift_end S X h t (by rw [HM.out]; exact hjm))
          have Hfs := Lib.hid (flat_set (S.take t ++ X :: S.drop t) t h (by omega))
          have Hl : Hid ((S.take t ++ h :: S.drop t).length = m + 1) := by
            unfold Hid
            rw [List.length_append, List.length_cons, List.length_take, List.length_drop, HM.out]
            omega
          have HO7 := Lib.hid hown7
          clear hown7
          go_wp2
          go_roundw
          case rel =>
            refine ⟨k + 1, by omega, by go_num, ((hx7.setCell (by first | omega | (simp <;> omega)) _).setCell (by first | omega | (simp <;> omega)) _).setCell (by first | omega | (simp <;> omega)) _, ?_⟩
            rw [Hst.out, Hins.out, Hl.out, ← Hset.out, Hfs.out]
            exact (World.ownsRow.stored (World.ownsRow.stored (World.ownsRow.stored HO7.out _ _).1 _ _).1 _ _).1
          case measure => simp [intOf]; omega
    · have Hins := Lib.hid (Hsm.out Hpt.out rfl)
      have dH := fun o => bH2.cell o
      obtain ⟨c0, c1, c2⟩ := own_half hown2 (t := t) htl
      rw [Hxt.out] at c0 c1 c2
      have f0 := fun j => hown2.frozenAt j
      have g9 : g < w9.heap.size := by omega
      go_wp2_with fail
      have HTy := Lib.hid (fun w => HTx.out w (by first | rfl | trivial))
      go_region_with ((go_at_call 143; go_must (refine (HTy.out _).mono ?_); rintro e w5 ⟨rfl, hx5⟩; have c5 := fun o => hx5.use.1 g o (by first | exact g9 | (simp; omega)); have f5 := fun o => hx5.use.2.1 g o (by first | exact g9 | (simp; omega))))
      all_goals
        rename_i w5 hx5 c5 f5
        have hx6 : Ext w w5 := Ext.trans (by first | exact hx2 | exact hx2.drew) hx5
        have hown6 : w5.ownsRow w.heap.size 120 3 (.slice (some ⟨g, 0, none⟩) m c') m (ints (flat Half.ints S)) := own_ext (w := w9.drew) hown2 hx5
        have HO6 := Lib.hid hown6
        clear hown6
        go_wp2
        go_roundw
        case rel => exact ⟨k + 1, by omega, by go_num, ((hx6.setCell (by first | omega | (simp <;> omega)) _).setCell (by first | omega | (simp <;> omega)) _).setCell (by first | omega | (simp <;> omega)) _, by
          rw [Hst.out, Hins.out, List.length_set, HM.out, flat_set _ _ _ htl]
          exact (World.ownsRow.stored (World.ownsRow.stored (World.ownsRow.stored HO6.out _ _).1 _ _).1 _ _).1⟩
        case measure => simp [intOf]; omega
  · obtain rfl : m = t := by omega
    have Hpt : Hid (placeH h S = m) := by
      refine placeH_of (by have := HM.out; omega) Hbef.out (fun hk => ?_)
      have := HM.out
      omega
    have Hins : Hid (insertH h S = S.take m ++ h :: S.drop m) := by
      have := insertH_new h S (fun hp => by have := Hpt.out; have := HM.out; omega)
      rw [Hpt.out] at this
      exact this
    have hge : ¬ (m : Int) < (m : Int) := by omega
    have hge2 : decide ((m : Int) < (m : Int)) = false := by simp
    have hge3 : decide (m < m) = false := by simp
    have hx2 := hx1.trans hy
    clear htm
    go_wp2_with fail
    go_quiet (fail)
    generalize nq = n1
    go_wp2_with fail
    go_quiet (fail)
    generalize nq = n2
    have hWQ : Ext wr ((wr.drewN n1).drewN n2) := ((Ext.refl wr).drewN _).drewN _
    generalize (wr.drewN n1).drewN n2 = WQ at *
    obtain ⟨i0, hi0, hz0, hz1, hz2⟩ := info_parts half_info
    have hcc : ∀ j u, (ints [0, 0, 0])[j]? = some u → ((WQ).alloc (.cells #[.int .i64 0, .int .i64 0, .int .i64 0] 120)).cell? ((⟨(WQ).heap.size, 0, none⟩ : Addr).add j) = some u := fun j u hj => by
      rw [show ((⟨(WQ).heap.size, 0, none⟩ : Addr).add j) = ⟨(WQ).heap.size, 0 + j, none⟩ from by unfold Addr.add; split <;> simp_all, Nat.zero_add, (Blk.new (WQ) _ _).cell]
      simpa [ints] using hj
    have hOo : (WQ).ownsRow w.heap.size 120 3 (.slice A' m c') m (ints (flat Half.ints S)) := own_ext hown hWQ
    have bW : Blk (WQ) w0 120 #[.int .i64 h.A, .int .i64 h.B, .int .i64 h.C] := bH.ext hWQ
    have hxW : Ext w (WQ) := hx2.trans hWQ
    have hWs := hxW.size
    have hgrow0 : ∀ w6, (WQ).grownBy w6 (Value.ownBlock (.slice A' m c')) → Blk w6 w0 120 #[.int .i64 h.A, .int .i64 h.B, .int .i64 h.C] := fun w6 hg => (hg.block w0 bW.lt (fun e => by have h1 := (World.ownsRow.lt HOwn0.out _ e.symm).2; have h2 := Hw0.out; omega)).trans bW
    have Hgr := Lib.hid hgrow0
    clear hgrow0
    have hflz : Hid (ints (flat Half.ints (S ++ [⟨0, 0, 0⟩])) = ints (flat Half.ints S) ++ ints [0, 0, 0]) := by unfold Hid; rw [flat_app, ints_append]; rfl
    go_wp2_with (at_builtin; go_must (refine wpList_append_own_at _ rfl _ _ 24 rfl w.heap.size 120 i0 (.agg #[.int .i64 0, .int .i64 0, .int .i64 0]) 3 24 Tryz.underlying24 hi0 hz0 hz1 hz2 rfl (by decide) _ _ _ rfl (hOo.alloc _) ⟨(WQ).heap.size, 0, none⟩ 1 1 (ints [0, 0, 0]) rfl rfl hcc (oneCell_ints _) (by unfold maxLen; omega) (by omega) (by simp; omega) ?_); intro v6 w6 hown6 hgrow6 _ hat6; obtain ⟨A6, c6, rfl⟩ := own_form hown6)
    have Hat6 : Hid (∀ g', A6 = some ⟨g', 0, none⟩ → g' ≠ w0) := fun g' e e2 => by
      rw [e2] at e
      subst e
      rcases hat6 with h | h
      · have h1 : w0 < _ := (World.ownsRow.lt HOwn0.out w0 h.symm).2
        have h2 := Hw0.out
        omega
      · have h1 := bW.lt
        have h3 : w0 = _ := Option.some.inj h
        simp at h3
        omega
    clear hat6
    have hx6 : Ext w w6 := (hxW.alloc _).grown hgrow6 (fun g' e => (World.ownsRow.lt hOo _ e).1)
    have b6 : Blk w6 w0 120 #[.int .i64 h.A, .int .i64 h.B, .int .i64 h.C] := (hgrow6.block w0 (bW.alloc (.cells #[.int .i64 0, .int .i64 0, .int .i64 0] 120)).lt (fun e => by have h1 := (World.ownsRow.lt HOwn0.out _ e.symm).2; have h2 := Hw0.out; omega)).trans (bW.alloc _)
    rw [← hflz.out] at hown6
    clear hcc hOo hgrow6 bW hxW
    have HS6 : Hid (S ++ [⟨0, 0, 0⟩] = S.take m ++ (⟨0, 0, 0⟩ : Half) :: S.drop m) := by
      unfold Hid
      rw [List.take_of_length_le (by rw [HM.out]; omega), List.drop_eq_nil_of_le (by rw [HM.out]; omega)]
    rw [HS6.out] at hown6
    have h6m : m + 1 ≤ c6 := own_cap hown6
    go_wp2
    go_loopw [7] (fun kk ws => ∃ (j : Nat) (X : Half), m ≤ j ∧ j ≤ m ∧ kk = .int .i64 j ∧ Ext w ws ∧ Blk ws w0 120 #[.int .i64 h.A, .int .i64 h.B, .int .i64 h.C] ∧ ws.ownsRow w.heap.size 120 3 (.slice A6 (m + 1) c6) (m + 1) (ints (flat Half.ints (S.take j ++ X :: S.drop j)))) (fun kk _ => (intOf kk).toNat)
    case atStart => exact ⟨m, ⟨0, 0, 0⟩, by omega, Nat.le_refl _, by go_num, hx6, b6, hown6⟩
    case round =>
      obtain ⟨j, X, htj, hjm, rfl, hx7, b7, hown7⟩ := hrel
      obtain ⟨g6, cur6, rfl, hg6, hgc6, _⟩ := own_whole hown7 (by omega)
      have hLl : (S.take j ++ X :: S.drop j).length = m + 1 := own_row_len hown7
      have hg67 := Hat6.out g6 rfl
      have f7 := fun i => hown7.frozenAt i
      have c7 := fun o => b7.cell o
      by_cases hj : m < j
      · exact absurd hj (by omega)
      · obtain rfl : m = j := by omega
        obtain ⟨s0, s1, s2⟩ := own_half hown7 (t := m) (by omega)
        have Hset := Lib.hid (shift_end S X h m (by rw [HM.out]; exact hjm))
        have Hfs := Lib.hid (flat_set (S.take m ++ X :: S.drop m) m h (by omega))
        have Hl : Hid ((S.take m ++ h :: S.drop m).length = m + 1) := by
          unfold Hid
          rw [List.length_append, List.length_cons, List.length_take, List.length_drop, HM.out]
          omega
        have HO7 := Lib.hid hown7
        clear hown7
        go_wp2
        go_roundw
        case rel =>
          refine ⟨k + 1, by omega, by go_num, ((hx7.setCell (by first | omega | (simp <;> omega)) _).setCell (by first | omega | (simp <;> omega)) _).setCell (by first | omega | (simp <;> omega)) _, ?_⟩
          rw [Hst.out, Hins.out, Hl.out, ← Hset.out, Hfs.out]
          exact (World.ownsRow.stored (World.ownsRow.stored (World.ownsRow.stored HO7.out _ _).1 _ _).1 _ _).1
        case measure => simp [intOf]; omega
end Go.Proofs.YtjghabbcjpfjeaaGreatDoor
