/- Contracts of regions of the reference: l05Make, l05Fit, RegionFrom, RegionOk. -/
import Derived.Test.YtjghabbcjpfjeaaGreatDoorRs
import Derived.Test.YtjghabbcjpfjeaaGreatDoorRg
import Derived.Laws.AppendOwnNone
namespace Go.Proofs.YtjghabbcjpfjeaaGreatDoor
open Go.ChangeShapes Go.WideShapes Go.ChangeAt Go.RowKit
set_option linter.unusedVariables false
set_option maxRecDepth 100000

theorem specFrame_any (w : World) :
    Calls Tryz.prog 121 #[] w fun e w' => ∃ A, e = .returned (.slice A 4 4) ∧ Row w' A (ints (flat Half.ints frame)) ∧ Ext w w' := by
  go_enter Tryz.func121, Tryz.ntmps121
  go_wp2
  go_ret
  refine ⟨_, rfl, ?_, (Ext.refl w).alloc _⟩
  refine .inr ⟨w.heap.size, 0, rfl, fun j v hj => ?_⟩
  rw [(Blk.new w _ _).cell, Nat.zero_add]
  simpa [ints, flat, frame, Half.ints] using hj
def sEdgesTo (S : List Half) (k : Nat) : List Half := (S.take k).filter (edgeSb S)
theorem sEdges_yes {S : List Half} {k : Nat} (h : k < S.length) (he : edgeSb S S[k] = true) : sEdgesTo S (k + 1) = sEdgesTo S k ++ [S[k]] := by
  unfold sEdgesTo; rw [take_next h, List.filter_append]; simp [he]
theorem sEdges_no {S : List Half} {k : Nat} (h : k < S.length) (he : edgeSb S S[k] = false) : sEdgesTo S (k + 1) = sEdgesTo S k := by
  unfold sEdgesTo; rw [take_next h, List.filter_append]; simp [he]
theorem sEdges_le (S : List Half) (k : Nat) : (sEdgesTo S k).length ≤ k := by
  unfold sEdgesTo
  exact Nat.le_trans (List.length_filter_le _ _) (by rw [List.length_take]; omega)
/-- a region was made -/
def RegOne (r : List Half) (w : World) (e : Ending) (w' : World) : Prop :=
  ∃ A c n, e = .returned (.agg #[.slice A n c]) ∧ n = r.length ∧ Ext w w' ∧ w'.ownsRow w.heap.size 120 3 (.slice A n c) n (ints (flat Half.ints r))
theorem row_add {w : World} {b off : Nat} {cs : List Value} (hc : ∀ j v, cs[j]? = some v → w.cell? ⟨b, off + j, none⟩ = some v) : ∀ j u, cs[j]? = some u → w.cell? ((⟨b, off, none⟩ : Addr).add j) = some u := fun j u hj => by
  rw [show ((⟨b, off, none⟩ : Addr).add j) = ⟨b, off + j, none⟩ from by unfold Addr.add; split <;> simp_all]
  exact hc j u hj

theorem Row.src {w : World} {ad : Addr} {cs : List Value} (h : Row w (some ad) cs) : ∀ j u, cs[j]? = some u → w.cell? (ad.add j) = some u := fun j u hj => by
  rcases h with h | ⟨b, off, hA, hc⟩
  · rw [h] at hj; cases hj
  · injection hA with hA
    subst hA
    exact row_add hc j u hj
/-- append to a row of one's own, the source nil or not -/
theorem wpList_append_src {P : Program} {w : World} {ops : Array Oper} {rest : List Oper} {o : Oper} {a : Act} {Q : Exit → Act → World → Prop} (hgd : o.guard = none) (s x : Operand) (t : TypeId)
    (ho : o.op = .call { callee := .builtin .append, args := #[s, x], argTypes := #[t, t] })
    (base : Nat) (e : TypeId) (i : TypeInfo) (z : Value) (size bytes : Nat) (ht : P.underlying t = some (.slice e)) (hi : P.info? e = some i) (hz : i.zero = some z)
    (hsize : i.size = size) (hby : i.bytes = bytes) (hzs : z.cells.size = size) (hsz : 0 < size)
    (v : Value) (n : Nat) (xs : List Value) (hs : a.eval s = v) (hown : w.ownsRow base e size v n xs)
    (A : Option Addr) (m c : Nat) (news : List Value) (hx : a.eval x = .slice A m c) (hA : A = none → m = 0 ∧ c = 0) (hl : news.length = m * size) (hnews : Row w A news) (h1 : ∀ u ∈ news, u.oneCell' = true)
    (h63 : n + m ≤ maxLen) (hbytes : (n + m) * bytes ≤ 140737488355328) (hbase : base ≤ w.heap.size)
    (h : ∀ v' w', w'.ownsRow base e size v' (n + m) (xs ++ news) → w.grownBy w' v.ownBlock → wpList P ops Q rest (a.put o.dst v') w') : wpList P ops Q (o :: rest) a w := by
  cases A with
  | none =>
    obtain ⟨rfl, rfl⟩ := hA rfl
    have hnil : news = [] := List.eq_nil_of_length_eq_zero (by rw [hl]; simp)
    subst hnil
    refine wpList_append_own_none hgd s x t ho base e i size ht hi v n xs hs hown hx (h v w (by simpa using hown) ⟨rfl, rfl, rfl, Nat.le_refl _, fun _ _ _ => rfl⟩)
  | some ad =>
    exact wpList_append_own w hgd s x t ho base e i z size bytes ht hi hz hsize hby hzs hsz v n xs hs hown ad m c news hx hl hnews.src h1 h63 hbytes hbase (fun v' w' h2 h3 _ => h v' w' h2 h3)

set_option maxHeartbeats 8000000 in
theorem l05Make_any (A : Option Addr) (n c : Nat) (hs : List Half) (w : World) (hn : hs.length = n) (hr : Row w A (ints (flat Half.ints hs))) (hA : A = none → n = 0 ∧ c = 0) (hle : n ≤ 1000) (hok : hs.all halfOk = true) :
    Calls Tryz.prog 98 #[.slice A n c] w (RegOne (madeOf hs) w) := by
  obtain ⟨i0, hi0, hz0, hz1, hz2⟩ := info_parts half_info
  have hokF : ∀ x ∈ frame ++ hs, halfOk x = true := fun x hx => by
    rcases List.mem_append.1 hx with hx | hx
    · exact frame_ok x hx
    · exact List.all_eq_true.1 hok x hx
  have hokF2 : ∀ x ∈ hs ++ frame, halfOk x = true := fun x hx => hokF x (by simpa [or_comm] using hx)
  have hS := made_good hok
  have hSS : sortedH (frame ++ hs) = sortedH (hs ++ frame) := sortedH_same hokF (fun x => by simp only [List.mem_append]; exact Or.comm)
  have hM := made_spec hok
  rw [hSS] at hS
  have hokS : ∀ x ∈ sortedH (hs ++ frame), halfOk x = true := by have := sortedTo_ok hokF2 (hs ++ frame).length; rw [sortedTo_all] at this; exact this
  have hSl : (sortedH (hs ++ frame)).length ≤ n + 4 := by
    have := sortedTo_len (hs ++ frame) (hs ++ frame).length
    rw [sortedTo_all, List.length_append, hn] at this
    exact this
  have HFl : Hid ((hs ++ frame).length = n + 4) := by unfold Hid; rw [List.length_append, hn]; rfl
  have HokF := Lib.hid hokF2
  have hx0 : Ext w (w.alloc (.cells #[.slice none 0 0] 26)) := (Ext.refl w).alloc _
  have b0 := Blk.new w 26 #[.slice none 0 0]
  obtain ⟨S, hSe⟩ : ∃ S, sortedH (hs ++ frame) = S := ⟨_, rfl⟩
  rw [hSe] at hS hokS hSl hM
  have HMe : Hid (madeOf hs = if (sEdgesTo S S.length).length < 3 then [] else sEdgesTo S S.length) := by
    unfold Hid sEdgesTo
    rw [hM, List.take_length]
    rfl
  have HSe := Lib.hid hSe
  have HS := Lib.hid (And.intro hS hokS)
  have HN := Lib.hid hn
  clear hS hokS hokF hokF2 hok hSe hM hSS
  have hxa : Ext w ((w.alloc (.cells #[.slice none 0 0] 26)).alloc (.cells #[] 120)) := hx0.alloc _
  have ba : Blk ((w.alloc (.cells #[.slice none 0 0] 26)).alloc (.cells #[] 120)) w.heap.size 26 #[.slice none 0 0] := b0.alloc _
  have hlit : ((w.alloc (.cells #[.slice none 0 0] 26)).alloc (.cells #[] 120)).ownsRow (w.heap.size + 1) 120 3 (.slice (some ⟨w.heap.size + 1, 0, none⟩) 0 0) 0 [] := by
    simpa using World.ownsRow_lit (base := w.heap.size + 1) (e := 120) (size := 3) (w.alloc (.cells #[.slice none 0 0] 26)) #[] 0 (by simp) (by unfold maxLen; omega) rfl
  have hca := hr.ext hxa
  have hfl : (ints (flat Half.ints hs)).length = n * 3 := by rw [ints_length, flat_length Half.ints_len, hn]
  have HAn := Lib.hid hA
  clear hr hA
  go_enter Tryz.func98, Tryz.ntmps98
  go_wp2_with (at_builtin; go_must (refine wpList_append_src rfl _ _ 24 rfl (w.heap.size + 1) 120 i0 (.agg #[.int .i64 0, .int .i64 0, .int .i64 0]) 3 24 Tryz.underlying24 hi0 hz0 hz1 hz2 rfl (by decide) _ _ _ rfl hlit A n c (ints (flat Half.ints hs)) rfl HAn.out hfl hca (oneCell_ints _) (by unfold maxLen; omega) (by omega) (by simp) ?_); intro v1 w1 hown1 hgrow1; obtain ⟨A1, c1, rfl⟩ := own_form hown1)
  have hx1 : Ext w w1 := hxa.grown hgrow1 (fun g e => by have := (World.ownsRow.lt hlit _ e).1; omega)
  have b1 : Blk w1 w.heap.size 26 #[.slice none 0 0] := (hgrow1.block w.heap.size ba.lt (fun e => by have := (World.ownsRow.lt hlit _ e.symm).1; omega)).trans ba
  simp only [Nat.zero_add, List.nil_append] at hown1
  refine (specFrame_any _).mono ?_
  rintro e w2 ⟨F, rfl, hF, hx2⟩
  obtain ⟨bf, of_, rfl, hbf, hcf⟩ := hF.at_ (ints_ne (k := 0) (by decide))
  have hown2 := own_ext hown1 hx2
  have hx02 := hx1.trans hx2
  have b2 := b1.ext hx2
  have h2s := hx02.size
  have h2l := b2.lt
  have hcfa := row_add (w := w2) (b := bf) (off := of_) (cs := ints (flat Half.ints frame)) hcf
  clear hgrow1 hlit hca hcf
  go_wp2_with (at_builtin; go_must (refine wpList_append_own _ rfl _ _ 24 rfl (w.heap.size + 1) 120 i0 (.agg #[.int .i64 0, .int .i64 0, .int .i64 0]) 3 24 Tryz.underlying24 hi0 hz0 hz1 hz2 rfl (by decide) _ _ _ rfl hown2 ⟨bf, of_, none⟩ 4 4 (ints (flat Half.ints frame)) rfl rfl hcfa (oneCell_ints _) (by unfold maxLen; omega) (by omega) (by omega) ?_); intro v3 w3 hown3 hgrow3 _; obtain ⟨A3, c3, rfl⟩ := own_form hown3)
  have hx3 : Ext w w3 := hx02.grown hgrow3 (fun g e => by have := (World.ownsRow.lt hown2 _ e).1; omega)
  have b3 : Blk w3 w.heap.size 26 #[.slice none 0 0] := (hgrow3.block w.heap.size b2.lt (fun e => by have := (World.ownsRow.lt hown2 _ e.symm).1; omega)).trans b2
  rw [← ints_append, ← flat_app] at hown3
  refine (l05Sorted_any A3 (n + 4) c3 (hs ++ frame) _ HFl.out (Row.of_own hown3) (by omega) HokF.out).mono ?_
  rintro e w4 ⟨A4, c4, m, rfl, hm, hx4, hown4⟩
  rw [HSe.out] at hm hown4
  replace hx3 := hx3.trans hx4
  replace b3 := b3.ext hx4
  have HM := Lib.hid hm
  have HRS := Lib.hid (Row.of_own hown4)
  rw [← hm] at hSl
  clear hm hown4 hown3 hown2 hown1 hgrow3 hF hcfa
  go_wp2
  have h4s := hx3.size
  have hlit0 := Lib.hid (World.ownsRow_lit (base := w4.heap.size) (e := 120) (size := 3) w4 #[] 0 (Nat.le_refl _) (by unfold maxLen; omega) rfl)
  go_loopw [4, 16] (fun v i wr => ∃ (k : Nat), k ≤ m ∧ i = .int .i64 k ∧ Ext w4 wr ∧ wr.ownsRow w4.heap.size 120 3 v (sEdgesTo S k).length (ints (flat Half.ints (sEdgesTo S k)))) (fun _ i _ => m - (intOf i).toNat)
  case atStart => exact ⟨0, Nat.zero_le _, rfl, (Ext.refl w4).alloc _, hlit0.out⟩
  case round =>
  obtain ⟨k, hk, rfl, hy, hown⟩ := hrel
  obtain ⟨A5, c5, rfl⟩ := own_form hown
  have hz := hx3.trans hy
  have bR := b3.ext hy
  have hys := hy.size
  have hRl := b3.lt
  have hel := sEdges_le S k
  obtain ⟨q, hq⟩ : ∃ q, (sEdgesTo S k).length = q := ⟨_, rfl⟩
  rw [hq] at hown hel
  rw [hq]
  have HQ := Lib.hid hq
  clear hq
  by_cases hlt : k < m
  rotate_left
  · obtain rfl : m = k := by omega
    have HMd : Hid (madeOf hs = if q < 3 then [] else sEdgesTo S m) := by
      unfold Hid
      rw [HMe.out, ← HM.out, HQ.out]
    have cR := fun o => bR.cell o
    have fR := fun o => bR.frozen o
    by_cases h3 : q < 3
    · have HF : Hid (madeOf hs = []) := by unfold Hid; rw [HMd.out, if_pos h3]
      have h3i : (q : Int) < 3 := by omega
      clear hown
      go_wp2
      refine bodyPost_ret (v := .agg #[.slice none 0 0]) (by simp [results, Tryz.results98, go_sem, cR]) rfl ?_
      exact ⟨none, 0, 0, rfl, by rw [HF.out]; rfl, hz.setCell (Nat.le_refl _) _, by rw [HF.out]; exact World.ownsRow_nil _ _ _ _⟩
    · have HF : Hid (madeOf hs = sEdgesTo S m) := by unfold Hid; rw [HMd.out, if_neg h3]
      have h3i : ¬ (q : Int) < 3 := by omega
      have HO := Lib.hid hown
      clear hown
      go_wp2
      refine bodyPost_ret (v := .agg #[.slice A5 q c5]) (by simp [results, Tryz.results98, go_sem, cR]) rfl ?_
      exact ⟨A5, c5, q, rfl, by rw [HF.out]; exact HQ.out.symm, hz.setCell (Nat.le_refl _) _, by rw [HF.out]; exact own_base (own_far HO.out (by simp; omega) _) (by omega)⟩
  have hkl : k < S.length := by rw [← HM.out]; exact hlt
  obtain ⟨b', off', rfl, hb', h0, h1, h2⟩ := (HRS.out.ext hy).Half (k := k) hkl
  have hRk := HRS.out.ext hy
  obtain ⟨h, hh⟩ : ∃ h, S[k]'hkl = h := ⟨_, rfl⟩
  have Hgd := Lib.hid (getD_at (S := S) (k := k) hkl)
  have Hye := Lib.hid (fun he => sEdges_yes (S := S) (k := k) hkl he)
  have Hno := Lib.hid (fun he => sEdges_no (S := S) (k := k) hkl he)
  rw [hh] at h0 h1 h2 Hye Hno Hgd
  clear hh
  have bH := Blk.new wr 120 #[.int .i64 h.A, .int .i64 h.B, .int .i64 h.C]
  have hRk1 := hRk.ext ((Ext.refl wr).alloc (.cells #[.int .i64 h.A, .int .i64 h.B, .int .i64 h.C] 120))
  go_wp2_with fail
  refine (l05IsEdge_any (some ⟨b', off', none⟩) m c4 k S _ HM.out.symm hRk1 (by omega) hlt HS.out.2 HS.out.1).mono ?_
  rintro e w5 ⟨rfl, hx5⟩
  rw [Hgd.out]
  clear hRk hRk1
  replace bH := bH.ext hx5
  replace hown := own_ext (hown.alloc _) hx5
  replace hy := (hy.alloc _).trans hx5
  have cH := fun o => bH.cell o
  by_cases hee : edgeSb S h = true
  rotate_left
  · have hee' : edgeSb S h = false := by simpa using hee
    have HE2 := Lib.hid (Hno.out hee')
    rw [hee']
    clear hee hee'
    go_wp2
    go_roundw
    case rel => exact ⟨k + 1, by omega, by go_num, hy, by rw [HE2.out, HQ.out]; exact hown⟩
    case measure => simp [intOf]; omega
  have HE2 := Lib.hid (Hye.out hee)
  rw [hee]
  clear hee
  have hs5 := hx5.size
  simp only [World.size_alloc] at hs5
  have hnews := (Blk.new w5 120 #[.int .i64 h.A, .int .i64 h.B, .int .i64 h.C])
  have hcc : ∀ j u, (ints h.ints)[j]? = some u → (w5.alloc (.cells #[.int .i64 h.A, .int .i64 h.B, .int .i64 h.C] 120)).cell? ((⟨w5.heap.size, 0, none⟩ : Addr).add j) = some u := fun j u hj => by
    rw [show ((⟨w5.heap.size, 0, none⟩ : Addr).add j) = ⟨w5.heap.size, 0 + j, none⟩ from by unfold Addr.add; split <;> simp_all, Nat.zero_add, hnews.cell]
    simpa [ints, Half.ints] using hj
  clear hnews
  go_wp2_with (at_builtin; go_must (refine wpList_append_own _ rfl _ _ 24 rfl w4.heap.size 120 i0 (.agg #[.int .i64 0, .int .i64 0, .int .i64 0]) 3 24 Tryz.underlying24 hi0 hz0 hz1 hz2 rfl (by decide) _ _ _ rfl (hown.alloc _) ⟨w5.heap.size, 0, none⟩ 1 1 (ints h.ints) rfl rfl hcc (oneCell_ints _) (by unfold maxLen; omega) (by omega) (by simp; omega) ?_); intro v' w6 hown' hgrow _)
  have hy6 : Ext w4 w6 := (hy.alloc _).grown hgrow (fun g hg => (hown.lt g hg).1)
  go_roundw
  case rel =>
    refine ⟨k + 1, by omega, by go_num, hy6, ?_⟩
    rw [HE2.out, List.length_append, HQ.out, flat_app, ints_append]
    exact hown'
  case measure => simp [intOf]; omega

set_option maxHeartbeats 1000000 in
theorem l05Fit_any (A : Option Addr) (n c : Nat) (hs : List Half) (w : World) (hn : hs.length = n) (hr : Row w A (ints (flat Half.ints hs))) (hA : A = none → n = 0 ∧ c = 0) (hle : n ≤ 1000) (hok : hs.all halfOk = true) :
    Calls Tryz.prog 147 #[.slice A n c] w (RegMade (fitR (madeOf hs)) w) := by
  have hx0 : Ext w (w.alloc (.cells #[.slice none 0 0] 26)) := (Ext.refl w).alloc _
  have b0 := Blk.new w 26 #[.slice none 0 0]
  have HM := Lib.hid (l05Make_any A n c hs _ hn (hr.ext hx0) hA hle hok)
  clear hr hok hA
  go_enter Tryz.func147, Tryz.ntmps147
  go_wp2_with fail
  refine HM.out.mono ?_
  rintro e w1 ⟨A2, c2, q, rfl, hq, hx1, hown⟩
  have HQ := Lib.hid hq
  replace b0 := (b0.ext hx1).alloc (.cells #[.slice A2 q c2] 26)
  have bP := Blk.new w1 26 #[.slice A2 q c2]
  have hx2 := (hx0.trans hx1).alloc (.cells #[.slice A2 q c2] 26)
  have hs1 := hx0.size
  have hl1 := hx1.size
  simp only [World.size_alloc] at hl1
  have c0 := fun o => b0.cell o
  have f0 := fun o => b0.frozen o
  have cP := fun o => bP.cell o
  have HO := Lib.hid hown
  clear hq hown
  by_cases h40 : q ≤ 40
  · have HF : Hid (fitR (madeOf hs) = (madeOf hs, true)) := if_pos (by rw [← HQ.out]; exact h40)
    have h40i : ¬ (40 : Int) < (q : Int) := by omega
    go_wp2
    refine bodyPost_ret (v := .tuple #[.agg #[.slice A2 q c2], .bool true]) (by simp [results, Tryz.results147, go_sem, c0]) rfl ?_
    rw [HF.out]
    exact ⟨A2, c2, q, rfl, HQ.out, hx2.setCell (Nat.le_refl _) _, own_base (own_far (HO.out.alloc _) (by simp) _) (by simp)⟩
  · have HF : Hid (fitR (madeOf hs) = ([], false)) := if_neg (by rw [← HQ.out]; exact h40)
    have h40i : (40 : Int) < (q : Int) := by omega
    go_wp2
    refine bodyPost_ret (v := .tuple #[.agg #[.slice none 0 0], .bool false]) (by simp [results, Tryz.results147, go_sem, c0]) rfl ?_
    exact RegMade.nil false HF.out rfl (hx2.setCell (Nat.le_refl _) _)

set_option maxHeartbeats 2000000 in
theorem specRegionFrom_any (A : Option Addr) (n c : Nat) (hs : List Half) (w : World) (hn : hs.length = n) (hr : Row w A (ints (flat Half.ints hs))) (hA : A = none → n = 0 ∧ c = 0) (hI : HalvesI hs) (hle : n ≤ maxLen) :
    Calls Tryz.prog 124 #[.slice A n c] w (RegMade (fromR hs) w) := by
  unfold maxLen at hle
  have hx0 : Ext w (w.alloc (.cells #[.slice none 0 0] 26)) := (Ext.refl w).alloc _
  have b0 := Blk.new w 26 #[.slice none 0 0]
  by_cases h40 : n ≤ 40
  rotate_left
  · have HF : Hid (fromR hs = ([], false)) := if_neg (by rw [hn]; omega)
    have h40i : (40 : Int) < (n : Int) := by omega
    have c0 := fun o => b0.cell o
    go_enter Tryz.func124, Tryz.ntmps124
    go_wp2
    refine bodyPost_ret (v := .tuple #[.agg #[.slice none 0 0], .bool false]) (by simp [results, Tryz.results124, go_sem, c0]) rfl ?_
    exact RegMade.nil false HF.out rfl (by first | exact hx0 | exact hx0.setCell (Nat.le_refl _) _)
  have h40i : ¬ (40 : Int) < (n : Int) := by omega
  have HI := Lib.hid (fun k hk => hI.at_ (k := k) hk)
  have HR := Lib.hid hr
  have HN := Lib.hid hn
  have HFt := Lib.hid (fun (hok : hs.all halfOk = true) w hr => l05Fit_any A n c hs w hn hr hA (by omega) hok)
  have HFy : Hid (∀ _ : hs.all halfOk = true, fromR hs = fitR (madeOf hs)) := fun hok => if_pos ⟨by omega, hok⟩
  have HFn : Hid (∀ _ : hs.all halfOk = false, fromR hs = ([], false)) := fun hok => if_neg (fun h => by rw [hok] at h; cases h.2)
  have Hs := Lib.hid (And.intro hx0 b0)
  clear hI hr hn hA hx0 b0
  go_enter Tryz.func124, Tryz.ntmps124
  go_wp2
  go_loopw [12] (fun i wr => ∃ k : Nat, k ≤ n ∧ i = .int .i64 k ∧ Ext w wr ∧ Blk wr w.heap.size 26 #[.slice none 0 0] ∧ (hs.take k).all halfOk = true) (fun i _ => n - (intOf i).toNat)
  case atStart => exact ⟨0, Nat.zero_le _, rfl, Hs.out.1, Hs.out.2, rfl⟩
  case round =>
  obtain ⟨k, hk, rfl, hx, b0, hall⟩ := hrel
  have Hall := Lib.hid hall
  clear hall
  have hb0l := b0.lt
  have hxs := hx.size
  by_cases hlt : k < n
  rotate_left
  · have hok : hs.all halfOk = true := by
      have := Hall.out
      rw [List.take_of_length_le (by rw [HN.out]; omega)] at this
      exact this
    have HF := Lib.hid (HFy.out hok)
    have HC := Lib.hid (HFt.out hok)
    clear hok
    go_wp2_with fail
    refine (HC.out _ (HR.out.ext hx)).mono ?_
    rintro e w2 ⟨A2, c2, n2, rfl, hn2, hx2, hown⟩
    rw [← HF.out] at hn2 hown
    rw [← HF.out]
    obtain ⟨q, hq⟩ : ∃ q, (fromR hs).2 = q := ⟨_, rfl⟩
    have HQ := Lib.hid hq
    have HN2 := Lib.hid hn2
    rw [hq]
    clear hq hn2
    replace b0 := b0.ext hx2
    have c0 := fun o => b0.cell o
    have f0 := fun o => b0.frozen o
    have hx3 := hx.trans hx2
    have HO := Lib.hid hown
    clear hown
    go_wp2
    refine bodyPost_ret (v := .tuple #[.agg #[.slice A2 n2 c2], .bool q]) (by simp [results, Tryz.results124, go_sem, c0]) rfl ?_
    exact ⟨A2, c2, n2, by rw [HQ.out], HN2.out, hx3.setCell (Nat.le_refl _) _, own_base (own_far HO.out (by simp; omega) _) hxs⟩
  have hkl : k < hs.length := by rw [HN.out]; omega
  obtain ⟨b, off, rfl, hb, h0, h1, h2⟩ := (HR.out.ext hx).Half (k := k) hkl
  obtain ⟨i1, i2, i3⟩ := HI.out k hkl
  have Hy : Hid (∀ _ : halfOk (hs[k]'hkl) = true, (hs.take (k + 1)).all halfOk = true) := fun hp => by rw [all_take_succ _ _ _ hkl, hp, Hall.out]; rfl
  have Hn : Hid (∀ _ : halfOk (hs[k]'hkl) = false, hs.all halfOk = false) := fun hp => all_false_at _ _ _ hkl hp
  obtain ⟨h, hh⟩ : ∃ h, hs[k]'hkl = h := ⟨_, rfl⟩
  rw [hh] at h0 h1 h2 i1 i2 i3 Hy Hn
  clear hh
  have hc := fun w => specHalfOk_any h.A h.B h.C w i1 i2 i3
  change ∀ w, Calls Tryz.prog _ _ w fun e w' => e = .returned (.bool (halfOk h)) ∧ Ext w w' at hc
  obtain ⟨q, hq⟩ : ∃ q, halfOk h = q := ⟨_, rfl⟩
  rw [hq] at hc Hy Hn
  have HC := Lib.hid hc
  clear hc hq
  go_wp2_with fail
  refine (HC.out _).mono ?_
  rintro e w1 ⟨rfl, hx1⟩
  have hx2 := (hx.alloc _).trans hx1
  replace b0 := (b0.alloc _).ext hx1
  cases q
  · have HF := Lib.hid (HFn.out (Hn.out (by first | rfl | trivial)))
    have c0 := fun o => b0.cell o
    have f0 := fun o => b0.frozen o
    go_wp2
    refine bodyPost_ret (v := .tuple #[.agg #[.slice none 0 0], .bool false]) (by simp [results, Tryz.results124, go_sem, c0]) rfl ?_
    exact RegMade.nil false HF.out rfl (hx2.setCell (Nat.le_refl _) _)
  · go_wp2
    go_roundw
    case rel => exact ⟨k + 1, by omega, by go_num, hx2, b0, Hy.out (by first | rfl | trivial)⟩
    case measure => simp [intOf]; omega

set_option maxHeartbeats 2000000 in
theorem specSameRegion_any (A B : Option Addr) (n m c d : Nat) (xs ys : List Half) (w : World) (hn : xs.length = n) (hm : ys.length = m) (hr : Row w A (ints (flat Half.ints xs))) (hs : Row w B (ints (flat Half.ints ys))) (hle : n ≤ maxLen) (hle' : m ≤ maxLen) :
    Calls Tryz.prog 125 #[.agg #[.slice A n c], .agg #[.slice B m d]] w fun e w' => e = .returned (.bool (decide (xs = ys))) ∧ Ext w w' := by
  unfold maxLen at hle hle'
  have hx0 : Ext w ((w.alloc (.cells #[.slice A n c] 26)).alloc (.cells #[.slice B m d] 26)) := ((Ext.refl w).alloc _).alloc _
  by_cases hnm : n = m
  rotate_left
  · have h' : ((n : Int) != (m : Int)) = true := by simp; omega
    have H : Hid (decide (xs = ys) = false) := decide_eq_false (by rintro rfl; omega)
    go_enter Tryz.func125, Tryz.ntmps125
    go_wp2
    go_ret
    exact ⟨ret_bool H.out.symm, hx0⟩
  subst hnm
  have b0 := (Blk.new w 26 #[.slice A n c]).alloc (.cells #[.slice B n d] 26)
  have b1 := Blk.new (w.alloc (.cells #[.slice A n c] 26)) 26 #[.slice B n d]
  simp only [World.size_alloc] at b1
  have Hs := Lib.hid (And.intro hx0 (And.intro b0 b1))
  have HR := Lib.hid hr
  have HS := Lib.hid hs
  have HN := Lib.hid hn
  have HM := Lib.hid hm
  clear hr hs hx0 b0 b1 hn hm
  go_enter Tryz.func125, Tryz.ntmps125
  go_wp2
  go_loopw [17] (fun i wr => ∃ (k : Nat), k ≤ n ∧ i = .int .i64 k ∧ Ext w wr ∧ Blk wr (w.heap.size + 1) 26 #[.slice B n d] ∧ xs.take k = ys.take k) (fun i _ => n - (intOf i).toNat)
  case atStart => exact ⟨0, Nat.zero_le _, rfl, Hs.out.1, Hs.out.2.2, rfl⟩
  case round =>
  obtain ⟨k, hk, rfl, hx, b1, hp⟩ := hrel
  have Hp := Lib.hid hp
  clear hp
  by_cases hlt : k < n
  rotate_left
  · go_wp2
    go_ret
    refine ⟨ret_bool ?_, hx⟩
    have h := Hp.out
    rw [List.take_of_length_le (by rw [HN.out]; omega), List.take_of_length_le (by rw [HM.out]; omega)] at h
    rw [decide_eq_true h]
  have hkx : k < xs.length := by rw [HN.out]; exact hlt
  have hky : k < ys.length := by rw [HM.out]; exact hlt
  obtain ⟨b, off, rfl, hb, hc0, hc1, hc2⟩ := (HR.out.ext hx).Half (k := k) hkx
  obtain ⟨b', off', rfl, hb', hd0, hd1, hd2⟩ := (HS.out.ext hx).Half (k := k) hky
  have he0 := neq_half (xs[k]'hkx) (ys[k]'hky)
  have Hyes : Hid (∀ _ : xs[k]'hkx = ys[k]'hky, xs.take (k + 1) = ys.take (k + 1)) := fun e => take_eq_succ hkx hky Hp.out e
  have Hno : Hid (∀ _ : ¬ xs[k]'hkx = ys[k]'hky, decide (xs = ys) = false) := fun e => decide_eq_false (ne_of_get hkx hky e)
  obtain ⟨g, hg⟩ : ∃ g, xs[k]'hkx = g := ⟨_, rfl⟩
  obtain ⟨h, hh⟩ : ∃ g, ys[k]'hky = g := ⟨_, rfl⟩
  rw [hg] at hc0 hc1 hc2 he0 Hyes Hno
  rw [hh] at hd0 hd1 hd2 he0 Hyes Hno
  clear hg hh
  have bG := Blk.new wr 120 #[.int .i64 g.A, .int .i64 g.B, .int .i64 g.C]
  have cG := fun o => bG.cell o
  have hx1 := hx.alloc (.cells #[.int .i64 g.A, .int .i64 g.B, .int .i64 g.C] 120)
  replace b1 := b1.alloc (.cells #[.int .i64 g.A, .int .i64 g.B, .int .i64 g.C] 120)
  have c1 := fun o => b1.cell o
  have hlt2 : (k : Int) < (n : Int) := by omega
  by_cases he : g = h
  · rw [show decide (g ≠ h) = false from by simpa using he] at he0
    have He := Lib.hid (Hyes.out he)
    clear he
    go_wp2_with fail
    go_quiet (fail)
    go_wp2
    go_roundw
    case rel => exact ⟨k + 1, by omega, by go_num, hx1.drewN _, b1.drewN _, He.out⟩
    case measure => simp [intOf]; omega
  · rw [show decide (g ≠ h) = true from by simpa using he] at he0
    have He := Lib.hid (Hno.out he)
    clear he
    go_wp2_with fail
    go_quiet (fail)
    go_wp2
    go_ret
    exact ⟨ret_bool He.out.symm, hx1.drewN _⟩

set_option maxHeartbeats 1000000 in
theorem specRegionOk_any (A : Option Addr) (n c : Nat) (hs : List Half) (w : World) (hn : hs.length = n) (hr : Row w A (ints (flat Half.ints hs))) (hA : A = none → n = 0 ∧ c = 0) (hI : HalvesI hs) (hle : n ≤ maxLen) :
    Calls Tryz.prog 101 #[.agg #[.slice A n c]] w fun e w' => e = .returned (.bool (regOk hs)) ∧ Ext w w' := by
  have hx0 : Ext w (w.alloc (.cells #[.slice A n c] 26)) := (Ext.refl w).alloc _
  have b0 := Blk.new w 26 #[.slice A n c]
  have HF := Lib.hid (specRegionFrom_any A n c hs _ hn (hr.ext hx0) hA hI hle)
  have HR := Lib.hid hr
  have HL := Lib.hid (fromR_len hs)
  have HN := Lib.hid hn
  have hle2 := Lib.hid hle
  unfold maxLen at hle
  clear hr hI hA
  have HE : Hid (∀ _ : n = 0, regOk hs = true) := fun h0 => by
    have hnil : hs = [] := List.eq_nil_of_length_eq_zero (by omega)
    unfold regOk; rw [hnil]; rfl
  have H : Hid (∀ _ : n ≠ 0, regOk hs = ((fromR hs).2 && decide ((fromR hs).1 = hs))) := fun h0 => by
    unfold regOk
    cases hs with
    | nil => exact absurd hn.symm h0
    | cons x l => simp
  clear hn
  go_enter Tryz.func101, Tryz.ntmps101
  go_wp2_with fail
  refine HF.out.mono ?_
  rintro e w1 ⟨A2, c2, n2, rfl, hn2, hx1, hown⟩
  have hrow := Row.of_own hown
  clear hown
  replace b0 := b0.ext hx1
  have hx2 := hx0.trans hx1
  have HN2 := Lib.hid hn2
  clear hn2
  obtain ⟨q, hq⟩ : ∃ q, (fromR hs).2 = q := ⟨_, rfl⟩
  rw [hq] at H
  rw [hq]
  clear hq
  have hx3 := hx2.alloc (.cells #[.slice A2 n2 c2] 26)
  have b1 := Blk.new w1 26 #[.slice A2 n2 c2]
  have b2 := b0.alloc (.cells #[.slice A2 n2 c2] 26)
  have cA := fun o => b1.cell o
  have cB := fun o => b2.cell o
  by_cases h0 : n = 0
  · have HQ := Lib.hid (HE.out h0)
    subst h0
    go_wp2
    go_ret
    exact ⟨ret_bool HQ.out.symm, hx3⟩
  have h0b : ((n : Int) == 0) = false := by rw [beq_eq_false_iff_ne]; omega
  have HQ := Lib.hid (H.out h0)
  clear h0
  cases q
  · go_wp2
    go_ret
    exact ⟨ret_bool HQ.out.symm, hx3⟩
  · have hS := specSameRegion_any A A2 n n2 c c2 hs (fromR hs).1 _ HN.out HN2.out.symm (HR.out.ext hx3) (hrow.ext ((Ext.refl w1).alloc _)) hle2.out (by have := HN2.out; have := HL.out; unfold maxLen; omega)
    go_wp2_with fail
    refine hS.mono ?_
    rintro e w5 ⟨rfl, hx5⟩
    go_wp2
    go_ret
    refine ⟨ret_bool ?_, hx3.trans hx5⟩
    rw [HQ.out, Bool.true_and]
    exact decide_eq_decide.2 ⟨fun e => e.symm, fun e => e.symm⟩
end Go.Proofs.YtjghabbcjpfjeaaGreatDoor
