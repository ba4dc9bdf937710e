/- Contracts of regions of the program: FrameHalves, Concat, meetAll, RegionFrom, RegionOk. -/
import Derived.Test.YtjghabbcjpfjeaaGreatDoorTi
import Derived.Test.YtjghabbcjpfjeaaGreatDoorEd
import Derived.Test.YtjghabbcjpfjeaaGreatDoorEqh
import Derived.Lib.AppendZeros
namespace Go.Proofs.YtjghabbcjpfjeaaGreatDoor
open Go.ChangeShapes Go.WideShapes Go.ChangeAt Go.RowKit
set_option linter.unusedVariables false
set_option maxRecDepth 100000

theorem frameHalves_any (w : World) :
    Calls Tryz.prog 128 #[] w fun e w' => ∃ A, e = .returned (.slice A 4 4) ∧ Row w' A (ints (flat Half.ints frame)) ∧ Ext w w' := by
  go_enter Tryz.func128, Tryz.ntmps128
  go_wp2
  go_ret
  refine ⟨_, rfl, ?_, (Ext.refl w).alloc _⟩
  refine .inr ⟨w.heap.size, 0, rfl, fun j v hj => ?_⟩
  rw [(Blk.new w _ _).cell, Nat.zero_add]
  simpa [ints, flat, frame, Half.ints] using hj

theorem halfGrow_any (k : Nat) (w : World) (h0 : 0 < k) (h1 : k ≤ 1048576) :
    Calls Tryz.prog 152 #[.slice none 0 0, .int .i64 k] w fun e w' => ∃ c, e = .returned (.slice (some ⟨w.heap.size, 0, none⟩) 0 c) ∧ w'.ownsRow w.heap.size 120 3 (.slice (some ⟨w.heap.size, 0, none⟩) 0 c) 0 [] ∧ Ext w w' := by
  obtain ⟨i0, hi0, hz0, hz1, hz2⟩ := info_parts half_info
  obtain ⟨G, hG⟩ : ∃ G, G = grownCap w k 0 120 := ⟨_, rfl⟩
  have hGn : k ≤ G := by rw [hG]; exact grownCap_ge w _ _ _
  have hGm : G ≤ maxLen := by rw [hG]; exact grownCap_le_maxLen w k 0 120 (by unfold maxLen; omega)
  obtain ⟨Z, hZ⟩ : ∃ Z, Z = Builtin.zeroCells (Value.agg #[.int .i64 0, .int .i64 0, .int .i64 0]).cells k ++ Builtin.zeroCells (Value.agg #[.int .i64 0, .int .i64 0, .int .i64 0]).cells (G - k) := ⟨_, rfl⟩
  have hZs : Z.size = G * 3 := by
    rw [hZ, Array.size_append, size_zeroCells, size_zeroCells]
    change k * 3 + (G - k) * 3 = G * 3
    omega
  have hr : ∀ ty, (Builtin.append_ #[24, 3] ty #[.slice none 0 0, .int .i64 k]).run Tryz.prog w = .ok (.slice (some ⟨w.heap.size, 0, none⟩) k G) (w.drew.alloc (.cells Z 120)) := fun ty => by
    have h := Lib.run_append_nil_zeros (P := Tryz.prog) w 24 3 ty 120 i0 _ .i64 .i64 Tryz.underlying24 Tryz.underlying3 hi0 hz0 k h0 (by omega) (by omega) (by rw [hz2]; omega)
    rw [← hG, ← hZ] at h
    exact h
  have hGm2 : G ≤ 9223372036854775807 := by unfold maxLen at hGm; omega
  have HZ := Lib.hid (And.intro hZs hGm)
  clear hZ hG hZs hGm
  have hk1 : ¬ (k : Int) < 0 := by omega
  have hk2 : (0 : Int) < (k : Int) := by omega
  go_enter Tryz.func152, Tryz.ntmps152
  go_wp2_with (at_builtin; go_must (refine Lib.wpList_append_run _ rfl _ _ _ _ rfl _ _ rfl rfl _ _ (hr _) ?_))
  go_ret
  exact ⟨G, rfl, World.ownsRow_made (w := w.drew) (base := w.heap.size) Z G (Nat.le_refl _) HZ.out.2 HZ.out.1, ((Ext.refl w).alloc _).drew⟩

/-- the lists that Concat has gone through -/
def catTo (l1 l2 : List Half) (k : Nat) : List Half := if k = 0 then [] else if k = 1 then l1 else l1 ++ l2
set_option maxHeartbeats 4000000 in
theorem concat_any (B : Nat) (A1 A2 : Option Addr) (n1 k1 n2 k2 : Nat) (l1 l2 : List Half) (w : World) (hb : Blk w B 24 #[.slice A1 n1 k1, .slice A2 n2 k2]) (h1 : l1.length = n1) (h2 : l2.length = n2) (r1 : Row w A1 (ints (flat Half.ints l1))) (r2 : Row w A2 (ints (flat Half.ints l2))) (p1 : 0 < n1) (p2 : 0 < n2) (m1 : n1 ≤ 100000) (m2 : n2 ≤ 100000) :
    Calls Tryz.prog 127 #[.slice (some ⟨B, 0, none⟩) 2 2] w (HalvesMade (l1 ++ l2) w) := by
  obtain ⟨i0, hi0, hz0, hz1, hz2⟩ := info_parts half_info
  have cB := fun o => hb.cell o
  have HB := Lib.hid hb
  have H1 := Lib.hid h1
  have H2 := Lib.hid h2
  have R1 := Lib.hid r1
  have R2 := Lib.hid r2
  clear hb h1 h2 r1 r2
  go_enter Tryz.func127, Tryz.ntmps127
  go_wp2
  go_loop [3, 11] (fun s i => ∃ k : Nat, k ≤ 2 ∧ i = .int .i64 k ∧ s = .int .i64 ((if k = 0 then 0 else if k = 1 then n1 else n1 + n2 : Nat) : Int)) (fun _ i => 2 - (intOf i).toNat)
  case atStart => exact ⟨0, by omega, rfl, rfl⟩
  case round =>
  obtain ⟨k, hk, rfl, rfl⟩ := hrel
  rcases (by omega : k = 0 ∨ k = 1 ∨ k = 2) with rfl | rfl | rfl
  · go_wp2
    go_round
    case rel => exact ⟨1, by omega, rfl, by simp⟩
    case measure => simp [intOf]
  · go_wp2
    go_round
    case rel => exact ⟨2, by omega, rfl, by simp⟩
    case measure => simp [intOf]
  · simp only [Nat.reduceEqDiff, if_false]
    go_wp2_with fail
    refine (halfGrow_any (n1 + n2) _ (by omega) (by omega)).mono ?_
    rintro e w1 ⟨c, rfl, hown, hx⟩
    clear cB
    go_wp2
    go_loopw [6, 27] (fun v i wr => ∃ (k : Nat), k ≤ 2 ∧ i = .int .i64 k ∧ Ext w wr ∧ wr.ownsRow w.heap.size 120 3 v (catTo l1 l2 k).length (ints (flat Half.ints (catTo l1 l2 k)))) (fun _ i _ => 2 - (intOf i).toNat)
    case atStart => exact ⟨0, by omega, rfl, hx, hown⟩
    case round =>
    obtain ⟨k, hk, rfl, hy, hwn⟩ := hrel
    have b1 := HB.out.ext hy
    have c1 := fun o => b1.cell o
    have hys := hy.size
    rcases (by omega : k = 0 ∨ k = 1 ∨ k = 2) with rfl | rfl | rfl
    · obtain ⟨b, off, rfl, _, hc⟩ := (R1.out.ext hy).at_ (ints_ne (k := 0) (by rw [flat_length Half.ints_len, H1.out]; omega))
      have hcc : ∀ j u, (ints (flat Half.ints l1))[j]? = some u → wr.cell? ((⟨b, off, none⟩ : Addr).add j) = some u := fun j u hj => by
        rw [show ((⟨b, off, none⟩ : Addr).add j) = ⟨b, off + j, none⟩ from by unfold Addr.add; split <;> simp_all]
        exact hc j u hj
      have hq : (catTo l1 l2 0).length = 0 := rfl
      have HE : Hid (catTo l1 l2 1 = catTo l1 l2 0 ++ l1) := rfl
      rw [hq] at hwn
      clear hq hc
      go_wp2_with (at_builtin; go_must (refine wpList_append_own _ rfl _ _ 24 rfl w.heap.size 120 i0 (.agg #[.int .i64 0, .int .i64 0, .int .i64 0]) 3 24 Tryz.underlying24 hi0 hz0 hz1 hz2 rfl (by decide) _ _ _ rfl hwn ⟨b, off, none⟩ n1 k1 (ints (flat Half.ints l1)) rfl (by rw [ints_length, flat_length Half.ints_len, H1.out]) hcc (oneCell_ints _) (by unfold maxLen; omega) (by omega) hys ?_); intro v' w4 hown' hgrow _)
      have hx4 : Ext w w4 := hy.grown hgrow (fun g hg => (hwn.lt g hg).1)
      go_roundw
      case rel =>
        refine ⟨1, by omega, by go_num, hx4, ?_⟩
        rw [HE.out, flat_app, ints_append, List.length_append, show (catTo l1 l2 0).length = 0 from rfl, H1.out]
        exact hown'
      case measure => simp [intOf]
    · obtain ⟨b, off, rfl, _, hc⟩ := (R2.out.ext hy).at_ (ints_ne (k := 0) (by rw [flat_length Half.ints_len, H2.out]; omega))
      have hcc : ∀ j u, (ints (flat Half.ints l2))[j]? = some u → wr.cell? ((⟨b, off, none⟩ : Addr).add j) = some u := fun j u hj => by
        rw [show ((⟨b, off, none⟩ : Addr).add j) = ⟨b, off + j, none⟩ from by unfold Addr.add; split <;> simp_all]
        exact hc j u hj
      have hq : (catTo l1 l2 1).length = n1 := H1.out
      have HE : Hid (catTo l1 l2 2 = catTo l1 l2 1 ++ l2) := rfl
      rw [hq] at hwn
      clear hq hc
      go_wp2_with (at_builtin; go_must (refine wpList_append_own _ rfl _ _ 24 rfl w.heap.size 120 i0 (.agg #[.int .i64 0, .int .i64 0, .int .i64 0]) 3 24 Tryz.underlying24 hi0 hz0 hz1 hz2 rfl (by decide) _ _ _ rfl hwn ⟨b, off, none⟩ n2 k2 (ints (flat Half.ints l2)) rfl (by rw [ints_length, flat_length Half.ints_len, H2.out]) hcc (oneCell_ints _) (by unfold maxLen; omega) (by omega) hys ?_); intro v' w4 hown' hgrow _)
      have hx4 : Ext w w4 := hy.grown hgrow (fun g hg => (hwn.lt g hg).1)
      go_roundw
      case rel =>
        refine ⟨2, by omega, by go_num, hx4, ?_⟩
        rw [HE.out, flat_app, ints_append, List.length_append, show (catTo l1 l2 1).length = n1 from H1.out, H2.out]
        exact hown'
      case measure => simp [intOf]
    · obtain ⟨A', c', rfl⟩ := own_form hwn
      go_wp2
      go_ret
      exact ⟨A', c', _, rfl, rfl, hy, hwn⟩

/-- a region was made, and a bool -/
def RegMade (r : List Half × Bool) (w : World) (e : Ending) (w' : World) : Prop :=
  ∃ A c n, e = .returned (.tuple #[.agg #[.slice A n c], .bool r.2]) ∧ n = r.1.length ∧ Ext w w' ∧ w'.ownsRow w.heap.size 120 3 (.slice A n c) n (ints (flat Half.ints r.1))
theorem RegMade.nil {r : List Half × Bool} {w w' : World} {e : Ending} (b : Bool) (hr : r = ([], b)) (he : e = .returned (.tuple #[.agg #[.slice none 0 0], .bool b])) (hx : Ext w w') : RegMade r w e w' := by
  subst hr
  exact ⟨none, 0, 0, he, rfl, hx, World.ownsRow_nil _ _ _ _⟩
theorem own_far {w : World} {base : Nat} {e : TypeId} {s n : Nat} {v : Value} {xs : List Value} (h : w.ownsRow base e s v n xs) {p : Addr} (hp : p.block < base) (u : Value) : (w.setCell p u).ownsRow base e s v n xs := by
  refine World.ownsRow.kept h (row := some p.block) ⟨rfl, rfl, rfl, by simp [World.setCell], fun k _ hk => heap_setCell_other w p k u (fun e => hk (by rw [e]))⟩ ?_
  refine .inr (fun e => ?_)
  have := (h.lt _ e).1
  omega
def edgesTo (S : List Half) (k : Nat) : List Half := (S.take k).filter (edgeFb S)
theorem edgesTo_yes {S : List Half} {k : Nat} (h : k < S.length) (he : edgeFb S S[k] = true) : edgesTo S (k + 1) = edgesTo S k ++ [S[k]] := by
  unfold edgesTo; rw [take_next h, List.filter_append]; simp [he]
theorem edgesTo_no {S : List Half} {k : Nat} (h : k < S.length) (he : edgeFb S S[k] = false) : edgesTo S (k + 1) = edgesTo S k := by
  unfold edgesTo; rw [take_next h, List.filter_append]; simp [he]
theorem edgesTo_le (S : List Half) (k : Nat) : (edgesTo S k).length ≤ k := by
  unfold edgesTo
  exact Nat.le_trans (List.length_filter_le _ _) (by rw [List.length_take]; omega)
theorem made_open {hs : List Half} (hS : Good (sortedH (frame ++ hs))) (h : ∀ k, k < (sortedH (frame ++ hs)).length → edgeV (sortedH (frame ++ hs)) k = false) : madeOf hs = edgesTo (sortedH (frame ++ hs)) (sortedH (frame ++ hs)).length := by
  unfold madeOf makeI edgesTo
  rw [List.take_length, if_pos]
  rw [open_rooms hS]
  intro k i hk hi
  have := h k hk
  unfold edgeV at this
  exact allN_at (by simpa using this) hi
theorem made_void {hs : List Half} (hS : Good (sortedH (frame ++ hs))) {k : Nat} (hk : k < (sortedH (frame ++ hs)).length) (h : edgeV (sortedH (frame ++ hs)) k = true) : madeOf hs = [] := by
  unfold madeOf makeI
  rw [if_neg]
  intro ho
  have hr := (open_rooms hS).1 ho
  unfold edgeV at h
  have : allN (roomAt (sortedH (frame ++ hs)) k) (sortedH (frame ++ hs)).length = true := by
    have key : ∀ n, n ≤ (sortedH (frame ++ hs)).length → allN (roomAt (sortedH (frame ++ hs)) k) n = true := by
      intro n
      induction n with
      | zero => intro _; rfl
      | succ n ih => intro hn; exact allN_step (ih (by omega)) (hr k n hk (by omega))
    exact key _ (Nat.le_refl _)
  rw [this] at h
  cases h
theorem edgeE_at {S : List Half} {k : Nat} (hk : k < S.length) (h : edgeV S k = false) : edgeE S k = edgeFb S S[k] := by
  unfold edgeE; rw [h, getD_at hk]; rfl

set_option maxHeartbeats 8000000 in
theorem meetAll_any (A : Option Addr) (n c : Nat) (hs : List Half) (w : World) (hn : hs.length = n) (hr : Row w A (ints (flat Half.ints hs))) (hp : 0 < n) (hle : n ≤ 1000) (hok : hs.all halfOk = true) :
    Calls Tryz.prog 104 #[.slice A n c] w (RegMade (fitR (madeOf hs)) w) := by
  have hS := made_good hok
  have hokF : ∀ x ∈ frame ++ hs, halfOk x = true := fun x hx => by
    rcases List.mem_append.1 hx with hx | hx
    · exact frame_ok x hx
    · exact List.all_eq_true.1 hok x hx
  have hokS : ∀ x ∈ sortedH (frame ++ hs), halfOk x = true := by have := sortedTo_ok hokF (frame ++ hs).length; rw [sortedTo_all] at this; exact this
  have hSl : (sortedH (frame ++ hs)).length ≤ n + 4 := by
    have := sortedTo_len (frame ++ hs) (frame ++ hs).length
    rw [sortedTo_all] at this
    simp [frame] at this
    simp [frame]
    omega
  have HMo := Lib.hid (made_open hS)
  have HMv := Lib.hid (fun k hk h => made_void (hs := hs) hS (k := k) hk h)
  have HFl : Hid ((frame ++ hs).length = n + 4) := by unfold Hid; rw [List.length_append, hn]; simp [frame]; omega
  have HokF := Lib.hid hokF
  have hx0 : Ext w (w.alloc (.cells #[.slice none 0 0] 26)) := (Ext.refl w).alloc _
  have b0 := Blk.new w 26 #[.slice none 0 0]
  obtain ⟨S, hSe⟩ : ∃ S, sortedH (frame ++ hs) = S := ⟨_, rfl⟩
  rw [hSe] at hS hokS hSl HMo HMv
  have HSe := Lib.hid hSe
  have HS := Lib.hid (And.intro hS hokS)
  have HR := Lib.hid hr
  have HN := Lib.hid hn
  have hpL := Lib.hid (show hs.length = n from hn)
  clear hS hokS hr hokF hok hSe hn
  go_enter Tryz.func104, Tryz.ntmps104
  go_wp2_with fail
  refine (frameHalves_any _).mono ?_
  rintro e w1 ⟨F, rfl, hF, hx1⟩
  replace hx0 := hx0.trans hx1
  replace b0 := b0.ext hx1
  have hF2 := hF.ext ((Ext.refl w1).alloc (.cells #[.slice F 4 4, .slice A n c] 24))
  have hR2 := (HR.out.ext hx0).ext ((Ext.refl w1).alloc (.cells #[.slice F 4 4, .slice A n c] 24))
  go_wp2_with fail
  refine (concat_any w1.heap.size F A 4 4 n c frame hs _ (Blk.new w1 _ _) rfl HN.out hF2 hR2 (by omega) hp (by omega) (by omega)).mono ?_
  rintro e w2 ⟨A2, c2, n2, rfl, hn2, hx2, hown2⟩
  clear hF hF2 hR2
  replace hx0 := (hx0.alloc _).trans hx2
  replace b0 := (b0.alloc _).ext hx2
  rw [HFl.out] at hn2
  subst hn2
  go_wp2_with fail
  refine (tightest_any A2 (n + 4) c2 (frame ++ hs) _ HFl.out (Row.of_own hown2) (by omega) HokF.out).mono ?_
  rintro e w3 ⟨A3, c3, m, rfl, hm, hx3, hown3⟩
  rw [HSe.out] at hm hown3
  clear hown2
  replace hx0 := hx0.trans hx3
  replace b0 := b0.ext hx3
  have hrS := Row.of_own hown3
  have HM := Lib.hid hm
  have HRS := Lib.hid hrS
  clear hrS hown3 hx1 hx2 hx3
  rw [← hm] at hSl
  clear hm
  obtain ⟨i0, hi0, hz0, hz1, hz2⟩ := info_parts half_info
  have bP0 := Lib.hid (Blk.new w3 26 #[.slice none 0 0])
  go_wp2
  go_loopw [17] (fun i wr => ∃ (k : Nat) (A4 : Option Addr) (c4 : Nat), k ≤ m ∧ i = .int .i64 k ∧ Ext w3 wr ∧ Blk wr w3.heap.size 26 #[.slice A4 (edgesTo S k).length c4] ∧ wr.ownsRow (w3.heap.size + 1) 120 3 (.slice A4 (edgesTo S k).length c4) (edgesTo S k).length (ints (flat Half.ints (edgesTo S k))) ∧ ∀ j, j < k → edgeV S j = false) (fun i _ => m - (intOf i).toNat)
  case atStart => exact ⟨0, none, 0, Nat.zero_le _, rfl, (Ext.refl w3).alloc _, bP0.out, World.ownsRow_nil _ _ _ _, fun j h => by omega⟩
  case round =>
  obtain ⟨k, A4, c4, hk, rfl, hy, bP, hown, hvd⟩ := hrel
  have Hvd := Lib.hid hvd
  clear hvd
  have hz := hx0.trans hy
  have bR := b0.ext hy
  have hys := hy.size
  have hRl := b0.lt
  have hel := edgesTo_le S k
  obtain ⟨q, hq⟩ : ∃ q, (edgesTo S k).length = q := ⟨_, rfl⟩
  rw [hq] at bP hown hel
  have HQ := Lib.hid hq
  clear hq
  by_cases hlt : k < m
  rotate_left
  · obtain rfl : k = m := by omega
    have hmo := HMo.out (fun j hj => Hvd.out j (by rw [HM.out]; exact hj))
    rw [← HM.out] at hmo
    have cP := fun o => bP.cell o
    have cR := fun o => bR.cell o
    have fR := fun o => bR.frozen o
    by_cases h40 : q ≤ 40
    · have HFt : Hid (fitR (madeOf hs) = (edgesTo S k, true)) := by unfold Hid fitR; rw [hmo, HQ.out, if_pos h40]
      have h40i : ¬ (40 : Int) < (q : Int) := by omega
      have HO := Lib.hid hown
      clear hmo hown
      go_wp2
      refine bodyPost_ret (v := .tuple #[.agg #[.slice A4 q c4], .bool true]) (by simp [results, Tryz.results104, go_sem, cR]) rfl ?_
      rw [HFt.out]
      exact ⟨A4, c4, q, rfl, HQ.out.symm, hz.setCell (Nat.le_refl _) _, own_base (own_far HO.out (by simp; omega) _) (by have := hx0.size; omega)⟩
    · have HFt : Hid (fitR (madeOf hs) = ([], false)) := by unfold Hid fitR; rw [hmo, HQ.out, if_neg h40]
      have h40i : (40 : Int) < (q : Int) := by omega
      clear hmo hown
      go_wp2
      refine bodyPost_ret (v := .tuple #[.agg #[.slice none 0 0], .bool false]) (by simp [results, Tryz.results104, go_sem, cR]) rfl ?_
      exact RegMade.nil false HFt.out rfl (hz.setCell (Nat.le_refl _) _)
  have hkl : k < S.length := by rw [← HM.out]; exact hlt
  obtain ⟨b, off, rfl, hb, h0, h1, h2⟩ := (HRS.out.ext hy).Half (k := k) hkl
  have hRk := HRS.out.ext hy
  obtain ⟨h, hh⟩ : ∃ h, S[k]'hkl = h := ⟨_, rfl⟩
  have Hev := Lib.hid (fun hv => edgeE_at (S := S) (k := k) hkl hv)
  have Hye := Lib.hid (fun he => edgesTo_yes (S := S) (k := k) hkl he)
  have Hno := Lib.hid (fun he => edgesTo_no (S := S) (k := k) hkl he)
  rw [hh] at h0 h1 h2 Hev Hye Hno
  clear hh
  have bH := Blk.new wr 120 #[.int .i64 h.A, .int .i64 h.B, .int .i64 h.C]
  have hz1' := hz.alloc (.cells #[.int .i64 h.A, .int .i64 h.B, .int .i64 h.C] 120)
  have hy1 := hy.alloc (.cells #[.int .i64 h.A, .int .i64 h.B, .int .i64 h.C] 120)
  have hRk1 := hRk.ext ((Ext.refl wr).alloc (.cells #[.int .i64 h.A, .int .i64 h.B, .int .i64 h.C] 120))
  go_wp2_with fail
  refine (isEdge_any (some ⟨b, off, none⟩) m c3 k S _ HM.out.symm hRk1 (by omega) hlt HS.out.2 HS.out.1).mono ?_
  rintro e w5 ⟨rfl, hx5⟩
  clear hRk hRk1
  replace bH := bH.ext hx5
  replace bP := (bP.alloc _).ext hx5
  replace bR := (bR.alloc _).ext hx5
  replace hown := own_ext (hown.alloc _) hx5
  replace hz := (hz.alloc _).trans hx5
  replace hy := (hy.alloc _).trans hx5
  have cR := fun o => bR.cell o
  have fR := fun o => bR.frozen o
  have cP := fun o => bP.cell o
  have fP := fun o => bP.frozen o
  have cH := fun o => bH.cell o
  by_cases hv : edgeV S k = true
  · have HFt : Hid (fitR (madeOf hs) = ([], true)) := by
      unfold Hid fitR
      rw [HMv.out k hkl hv]
      rfl
    rw [hv]
    clear hv
    go_wp2
    refine bodyPost_ret (v := .tuple #[.agg #[.slice none 0 0], .bool true]) (by simp [results, Tryz.results104, go_sem, cR]) rfl ?_
    exact RegMade.nil true HFt.out rfl (hz.setCell (Nat.le_refl _) _)
  have hv' : edgeV S k = false := by simpa using hv
  have Hvd2 : Hid (∀ j, j < k + 1 → edgeV S j = false) := fun j hj => by
    by_cases e : j = k
    · subst e; exact hv'
    · exact Hvd.out j (by omega)
  have he := Hev.out hv'
  rw [hv', he]
  clear hv hv' he
  by_cases hee : edgeFb S h = true
  rotate_left
  · have hee' : edgeFb S h = false := by simpa using hee
    have HE2 := Lib.hid (Hno.out hee')
    rw [hee']
    clear hee hee'
    go_wp2
    go_roundw
    case rel => exact ⟨k + 1, A4, c4, by omega, by go_num, hy, by rw [HE2.out, HQ.out]; exact bP, by rw [HE2.out, HQ.out]; exact hown, Hvd2.out⟩
    case measure => simp [intOf]; omega
  have HE2 := Lib.hid (Hye.out hee)
  rw [hee]
  clear hee
  have hs5 := hx5.size
  simp only [World.size_alloc] at hs5
  have hnews := (Blk.new w5 120 #[.int .i64 h.A, .int .i64 h.B, .int .i64 h.C])
  have hcc : ∀ j u, (ints h.ints)[j]? = some u → (w5.alloc (.cells #[.int .i64 h.A, .int .i64 h.B, .int .i64 h.C] 120)).cell? ((⟨w5.heap.size, 0, none⟩ : Addr).add j) = some u := fun j u hj => by
    rw [show ((⟨w5.heap.size, 0, none⟩ : Addr).add j) = ⟨w5.heap.size, 0 + j, none⟩ from by unfold Addr.add; split <;> simp_all, Nat.zero_add, hnews.cell]
    simpa [ints, Half.ints] using hj
  clear hnews
  have bP6 := bP.alloc (.cells #[.int .i64 h.A, .int .i64 h.B, .int .i64 h.C] 120)
  go_wp2_with (at_builtin; go_must (refine wpList_append_own _ rfl _ _ 24 rfl (w3.heap.size + 1) 120 i0 (.agg #[.int .i64 0, .int .i64 0, .int .i64 0]) 3 24 Tryz.underlying24 hi0 hz0 hz1 hz2 rfl (by decide) _ _ _ rfl (hown.alloc _) ⟨w5.heap.size, 0, none⟩ 1 1 (ints h.ints) rfl rfl hcc (oneCell_ints _) (by unfold maxLen; omega) (by omega) (by simp; omega) ?_); intro v' w6 hown' hgrow _; obtain ⟨A6, c6, rfl⟩ := own_form hown'; have bP7 : Blk w6 w3.heap.size 26 #[.slice A4 q c4] := (hgrow.block w3.heap.size bP6.lt (fun e => by have := (hown.lt _ e.symm).1; omega)).trans bP6; have cP7 := fun o => bP7.cell o; have fP7 := fun o => bP7.frozen o)
  have hy6 : Ext w3 w6 := (hy.alloc _).grown hgrow (fun g hg => by have := (hown.lt g hg).1; omega)
  go_roundw
  case rel =>
    refine ⟨k + 1, A6, c6, by omega, by go_num, hy6.setCell (Nat.le_refl _) _, ?_, ?_, Hvd2.out⟩
    · rw [HE2.out, List.length_append, HQ.out]
      exact bP7.set_ 0 _
    · rw [HE2.out, List.length_append, HQ.out, flat_app, ints_append]
      exact own_far hown' (by simp) _
  case measure => simp [intOf]; omega

def HalvesI (hs : List Half) : Prop := ∀ x ∈ hs, ∀ z ∈ Half.ints x, I64 z
theorem HalvesI.at_ {hs : List Half} (h : HalvesI hs) {k : Nat} (hk : k < hs.length) : I64 hs[k].A ∧ I64 hs[k].B ∧ I64 hs[k].C := by
  have := h _ (List.getElem_mem hk)
  exact ⟨this _ (by simp [Half.ints]), this _ (by simp [Half.ints]), this _ (by simp [Half.ints])⟩
set_option maxHeartbeats 1000000 in
theorem areHalves_any (A : Option Addr) (n c : Nat) (hs : List Half) (w : World) (hn : hs.length = n) (hr : Row w A (ints (flat Half.ints hs))) (hI : HalvesI hs) (hle : n ≤ maxLen) :
    Calls Tryz.prog 103 #[.slice A n c] w fun e w' => e = .returned (.bool (hs.all halfOk)) ∧ Ext w w' := by
  unfold maxLen at hle
  have HI := Lib.hid (fun k hk => hI.at_ (k := k) hk)
  have HR := Lib.hid hr
  clear hI hr
  go_enter Tryz.func103, Tryz.ntmps103
  go_wp2
  go_loopw [7] (fun i wr => ∃ k : Nat, k ≤ n ∧ i = .int .i64 k ∧ Ext w wr ∧ (hs.take k).all halfOk = true) (fun i _ => n - (intOf i).toNat)
  case atStart => exact ⟨0, Nat.zero_le _, rfl, Ext.refl _, rfl⟩
  case round =>
  obtain ⟨k, hk, rfl, hx, hall⟩ := hrel
  have Hall := Lib.hid hall
  clear hall
  by_cases hlt : k < n
  rotate_left
  · go_wp2
    go_ret
    refine ⟨ret_bool ?_, hx⟩
    have := Hall.out
    rw [List.take_of_length_le (by omega)] at this
    exact this.symm
  have hkl : k < hs.length := by omega
  obtain ⟨b, off, rfl, hb, h0, h1, h2⟩ := (HR.out.ext hx).Half (k := k) hkl
  obtain ⟨i1, i2, i3⟩ := HI.out k hkl
  have Hy : Hid (∀ _ : halfOk (hs[k]'hkl) = true, (hs.take (k + 1)).all halfOk = true) := fun hp => by rw [all_take_succ _ _ _ hkl, hp, Hall.out]; rfl
  have Hn : Hid (∀ _ : halfOk (hs[k]'hkl) = false, hs.all halfOk = false) := fun hp => all_false_at _ _ _ hkl hp
  obtain ⟨h, hh⟩ : ∃ h, hs[k]'hkl = h := ⟨_, rfl⟩
  rw [hh] at h0 h1 h2 i1 i2 i3 Hy Hn
  clear hh
  have hc := fun w => implHalfOk_any h.A h.B h.C w i1 i2 i3
  change ∀ w, Calls Tryz.prog _ _ w fun e w' => e = .returned (.bool (halfOk h)) ∧ Ext w w' at hc
  obtain ⟨q, hq⟩ : ∃ q, halfOk h = q := ⟨_, rfl⟩
  rw [hq] at hc Hy Hn
  have HC := Lib.hid hc
  clear hc hq
  go_wp2_with fail
  refine (HC.out _).mono ?_
  rintro e w1 ⟨rfl, hx1⟩
  have hx2 := (hx.alloc _).trans hx1
  cases q
  · go_wp2
    go_ret
    exact ⟨ret_bool (Hn.out (by first | rfl | trivial)).symm, hx2⟩
  · go_wp2
    go_roundw
    case rel => exact ⟨k + 1, by omega, by go_num, hx2, Hy.out (by first | rfl | trivial)⟩
    case measure => simp [intOf]; omega

set_option maxHeartbeats 1000000 in
theorem implRegionFrom_any (A : Option Addr) (n c : Nat) (hs : List Half) (w : World) (hn : hs.length = n) (hr : Row w A (ints (flat Half.ints hs))) (hI : HalvesI hs) (hle : n ≤ maxLen) (hp : 0 < n) :
    Calls Tryz.prog 78 #[.slice A n c] w (RegMade (fromR hs) w) := by
  have hle' := hle
  unfold maxLen at hle
  have hx0 : Ext w (w.alloc (.cells #[.slice none 0 0] 26)) := (Ext.refl w).alloc _
  have b0 := Blk.new w 26 #[.slice none 0 0]
  by_cases h40 : n ≤ 40
  rotate_left
  · have HF : Hid (fromR hs = ([], false)) := if_neg (by rw [hn]; omega)
    have h40i : (40 : Int) < (n : Int) := by omega
    have c0 := fun o => b0.cell o
    go_enter Tryz.func78, Tryz.ntmps78
    go_wp2
    refine bodyPost_ret (v := .tuple #[.agg #[.slice none 0 0], .bool false]) (by simp [results, Tryz.results78, go_sem, c0]) rfl ?_
    exact RegMade.nil false HF.out rfl (by first | exact hx0 | exact hx0.setCell (Nat.le_refl _) _)
  have h40i : ¬ (40 : Int) < (n : Int) := by omega
  have HA := Lib.hid (areHalves_any A n c hs _ hn (hr.ext hx0) hI hle')
  by_cases hok : hs.all halfOk = true
  rotate_left
  · have hok' : hs.all halfOk = false := by simpa using hok
    have HF : Hid (fromR hs = ([], false)) := if_neg (fun h => hok h.2)
    rw [hok'] at HA
    clear hok hok'
    go_enter Tryz.func78, Tryz.ntmps78
    go_wp2_with fail
    refine HA.out.mono ?_
    rintro e w1 ⟨rfl, hx1⟩
    replace b0 := b0.ext hx1
    have c0 := fun o => b0.cell o
    have f0 := fun o => b0.frozen o
    go_wp2
    refine bodyPost_ret (v := .tuple #[.agg #[.slice none 0 0], .bool false]) (by simp [results, Tryz.results78, go_sem, c0]) rfl ?_
    exact RegMade.nil false HF.out rfl ((hx0.trans hx1).setCell (Nat.le_refl _) _)
  rw [hok] at HA
  have HF : Hid (fromR hs = fitR (madeOf hs)) := if_pos ⟨by omega, hok⟩
  have HM := Lib.hid (fun w hr => meetAll_any A n c hs w hn hr hp (by omega) hok)
  have HR := Lib.hid hr
  clear hok hr
  go_enter Tryz.func78, Tryz.ntmps78
  go_wp2_with fail
  refine HA.out.mono ?_
  rintro e w1 ⟨rfl, hx1⟩
  replace hx0 := hx0.trans hx1
  go_wp2_with fail
  refine (HM.out _ (HR.out.ext hx0)).mono ?_
  rintro e w2 ⟨A2, c2, n2, rfl, hn2, hx2, hown⟩
  have hs1 := hx0.size
  rw [← HF.out] at hn2 hown
  rw [← HF.out]
  obtain ⟨q, hq⟩ : ∃ q, (fromR hs).2 = q := ⟨_, rfl⟩
  have HQ := Lib.hid hq
  have HN2 := Lib.hid hn2
  rw [hq]
  clear hq hn2
  replace b0 := (b0.ext hx1).ext hx2
  have c0 := fun o => b0.cell o
  have f0 := fun o => b0.frozen o
  have hl0 := b0.lt
  have hx3 := hx0.trans hx2
  have hlt0 : w.heap.size < w1.heap.size := by have := hx1.size; simp at this; omega
  have HO := Lib.hid hown
  clear hown
  go_wp2
  refine bodyPost_ret (v := .tuple #[.agg #[.slice A2 n2 c2], .bool q]) (by simp [results, Tryz.results78, go_sem, c0]) rfl ?_
  exact ⟨A2, c2, n2, by rw [HQ.out], HN2.out, hx3.setCell (Nat.le_refl _) _, own_base (own_far HO.out hlt0 _) hs1⟩

theorem fromR_len (hs : List Half) : (fromR hs).1.length ≤ 40 := by
  unfold fromR fitR
  split
  · split
    · assumption
    · simp
  · simp
set_option maxHeartbeats 1000000 in
theorem implRegionOk_any (A : Option Addr) (n c : Nat) (hs : List Half) (w : World) (hn : hs.length = n) (hr : Row w A (ints (flat Half.ints hs))) (hI : HalvesI hs) (hle : n ≤ maxLen) :
    Calls Tryz.prog 38 #[.agg #[.slice A n c]] w fun e w' => e = .returned (.bool (regOk hs)) ∧ Ext w w' := by
  have hx0 : Ext w (w.alloc (.cells #[.slice A n c] 26)) := (Ext.refl w).alloc _
  have b0 := Blk.new w 26 #[.slice A n c]
  by_cases h0 : n = 0
  · have hnil : hs = [] := List.eq_nil_of_length_eq_zero (by omega)
    have H : Hid (regOk hs = true) := by unfold Hid regOk; rw [hnil]; rfl
    subst h0
    clear hnil
    go_enter Tryz.func38, Tryz.ntmps38
    go_wp2
    go_ret
    exact ⟨ret_bool H.out.symm, hx0⟩
  have h0b : ((n : Int) == 0) = false := by rw [beq_eq_false_iff_ne]; omega
  have hne : hs ≠ [] := fun e => h0 (by rw [← hn, e]; rfl)
  have H : Hid (regOk hs = ((fromR hs).2 && decide ((fromR hs).1 = hs))) := by
    unfold Hid regOk
    cases hs with
    | nil => exact absurd rfl hne
    | cons x l => simp
  have HF := Lib.hid (implRegionFrom_any A n c hs _ hn (hr.ext hx0) hI hle (by omega))
  have HR := Lib.hid hr
  have HL := Lib.hid (fromR_len hs)
  have HN := Lib.hid hn
  clear h0 hne hr hI
  go_enter Tryz.func38, Tryz.ntmps38
  go_wp2_with fail
  refine HF.out.mono ?_
  rintro e w1 ⟨A2, c2, n2, rfl, hn2, hx1, hown⟩
  have hrow := Row.of_own hown
  clear hown
  replace b0 := b0.ext hx1
  have hx2 := hx0.trans hx1
  have HN2 := Lib.hid hn2
  clear hn2
  obtain ⟨q, hq⟩ : ∃ q, (fromR hs).2 = q := ⟨_, rfl⟩
  rw [hq] at H
  rw [hq]
  clear hq
  have hx3 := hx2.alloc (.cells #[.slice A2 n2 c2] 26)
  have b1 := Blk.new w1 26 #[.slice A2 n2 c2]
  have b2 := b0.alloc (.cells #[.slice A2 n2 c2] 26)
  cases q
  · go_wp2
    go_ret
    exact ⟨ret_bool H.out.symm, hx3⟩
  · have cA := fun o => b1.cell o
    have cB := fun o => b2.cell o
    have hS := implSameRegion_any A A2 n n2 c c2 hs (fromR hs).1 _ HN.out HN2.out.symm (HR.out.ext hx3) (hrow.ext ((Ext.refl w1).alloc _)) hle (by have := HN2.out; have := HL.out; unfold maxLen; omega)
    go_wp2_with fail
    refine hS.mono ?_
    rintro e w5 ⟨rfl, hx5⟩
    go_wp2
    go_ret
    refine ⟨ret_bool ?_, hx3.trans hx5⟩
    rw [H.out, Bool.true_and]
    exact decide_eq_decide.2 ⟨fun e => e.symm, fun e => e.symm⟩
end Go.Proofs.YtjghabbcjpfjeaaGreatDoor
