/- ParseSpan, both: read off their walks; eqSpan of one span. (written by tools/mkPs.py) -/
import Derived.Test.YtlgkfjhbimffiaaDoorPr
import Derived.Test.YtlgkfjhbimffiaaDoorSp
import Derived.Deep.RegionHeld3
namespace Go.Proofs.YtlgkfjhbimffiaaDoor
open Go.ChangeShapes Go.WideShapes Go.ChangeAt Go.RowKit
set_option linter.unusedVariables false
set_option maxRecDepth 100000

theorem max_ext {w w' : World} {g : Nat} {v : Value} (hm : w.cell? ⟨g, 0, none⟩ = some v) (hx : Ext w w') : w'.cell? ⟨g, 0, none⟩ = some v := by
  rw [hx.use.1 _ _ ?_]
  · exact hm
  · by_cases h : g < w.heap.size
    · exact h
    · exfalso
      have hge := Array.getElem?_eq_none (xs := w.heap) (i := g) (by omega)
      simp [World.cell?, hge] at hm
/-- what ParseSpan gives of a text -/
def spanR (L : List UInt8) : Span × Bool :=
  if (Lib.cut L [46, 46]).2.2 = true ∧ (ratR (Lib.cut L [46, 46]).1).2 = true ∧ (ratR (Lib.cut L [46, 46]).2.1).2 = true ∧ spanOk ⟨(ratR (Lib.cut L [46, 46]).1).1, (ratR (Lib.cut L [46, 46]).2.1).1⟩ = true
  then (⟨(ratR (Lib.cut L [46, 46]).1).1, (ratR (Lib.cut L [46, 46]).2.1).1⟩, true) else (⟨⟨0, 0⟩, ⟨0, 0⟩⟩, false)
theorem spanR_miss {L lo hi : List UInt8} (h : Lib.cut L [46, 46] = (lo, hi, false)) : spanR L = (⟨⟨0, 0⟩, ⟨0, 0⟩⟩, false) := by
  unfold spanR
  rw [h]
  simp
theorem spanR_hit {L lo hi : List UInt8} {a b c d : Int} {q r : Bool} (h : Lib.cut L [46, 46] = (lo, hi, true)) (h1 : ratR lo = (⟨a, b⟩, q)) (h2 : ratR hi = (⟨c, d⟩, r)) :
    spanR L = if q = true ∧ r = true ∧ spanOk ⟨⟨a, b⟩, ⟨c, d⟩⟩ = true then (⟨⟨a, b⟩, ⟨c, d⟩⟩, true) else (⟨⟨0, 0⟩, ⟨0, 0⟩⟩, false) := by
  unfold spanR
  rw [h]
  simp only [h1, h2, true_and]
theorem dots_yes {L : List UInt8} {k : Nat} (h : k + 1 < L.length) (h0 : L[k] = 46) (h1 : L[k + 1] = 46) : Lib.occAt L [46, 46] k = true := by
  unfold Lib.occAt
  rw [List.drop_eq_getElem_cons (by omega), List.drop_eq_getElem_cons h, h0, h1]
  simp
theorem dots_no {L : List UInt8} {k : Nat} (h : k + 1 < L.length) (h0 : L[k] ≠ 46 ∨ L[k + 1] ≠ 46) : Lib.occAt L [46, 46] k = false := by
  unfold Lib.occAt
  rw [List.drop_eq_getElem_cons (by omega), List.drop_eq_getElem_cons h]
  rcases h0 with h0 | h0
  · simp [List.isPrefixOf, Ne.symm h0]
  · simp [List.isPrefixOf, Ne.symm h0]
theorem dots_end {L : List UInt8} {k : Nat} (h : ¬ k + 1 < L.length) : Lib.occAt L [46, 46] k = false := by
  cases hc : Lib.occAt L [46, 46] k with
  | false => rfl
  | true =>
    rcases Lib.occAt_room hc with h1 | h1
    · simp at h1; omega
    · cases h1
theorem cut_hit {L : List UInt8} {k : Nat} (h : k + 1 < L.length) (h0 : L[k] = 46) (h1 : L[k + 1] = 46) (hn : ∀ j, j < k → Lib.occAt L [46, 46] j = false) : Lib.cut L [46, 46] = (L.take k, L.drop (k + 2), true) := by
  have hi : Lib.index L [46, 46] = k := Lib.index_first (by omega) (dots_yes h h0 h1) hn
  unfold Lib.cut
  rw [hi, if_pos (by omega)]
  simp
theorem cut_miss {L : List UInt8} {k : Nat} (h : ¬ k + 1 < L.length) (hn : ∀ j, j < k → Lib.occAt L [46, 46] j = false) : Lib.cut L [46, 46] = (L, [], false) := by
  have hi : Lib.index L [46, 46] = -1 := Lib.index_none (fun j _ => by
    by_cases hj : j < k
    · exact hn j hj
    · exact dots_end (by omega))
  unfold Lib.cut
  rw [hi, if_neg (by omega)]
theorem cut_len (L : List UInt8) : (Lib.cut L [46, 46]).1.length ≤ L.length ∧ (Lib.cut L [46, 46]).2.1.length ≤ L.length := by
  unfold Lib.cut
  split
  · simp only [List.length_take, List.length_drop]; omega
  · simp
theorem occ_succ {L : List UInt8} {k : Nat} (hn : ∀ j, j < k → Lib.occAt L [46, 46] j = false) (h : Lib.occAt L [46, 46] k = false) : ∀ j, j < k + 1 → Lib.occAt L [46, 46] j = false := by
  intro j hj
  by_cases e : j = k
  · rw [e]; exact h
  · exact hn j (by omega)
theorem implParseRatio_at {l : List UInt8} {a b : Int} {q : Bool} (h : ratR l = (⟨a, b⟩, q)) (hl : l.length ≤ 1048576) (w : World) (ht : Tab w) (he : Ers w) :
    Calls Tryd.prog 82 #[.string (txt l)] w fun e w' => e = .returned (.tuple #[.agg #[.int .i64 a, .int .i64 b], .bool q]) ∧ Ext w w' := by
  have h1 := implParseRatio_any (txt l) (by rw [txt_size]; exact hl) w ht he
  rw [txt_list, h] at h1
  exact h1
theorem specParseRatio_at {l : List UInt8} {a b : Int} {q : Bool} (h : ratR l = (⟨a, b⟩, q)) (hl : l.length ≤ 1048576) (w : World) :
    Calls Tryd.prog 79 #[.string (txt l)] w fun e w' => e = .returned (.tuple #[.agg #[.int .i64 a, .int .i64 b], .bool q]) ∧ Ext w w' := by
  have h1 := specParseRatio_any (txt l) (by rw [txt_size]; exact hl) w
  rw [txt_list, h] at h1
  exact h1
set_option maxHeartbeats 1000000 in
theorem eqSpan_same (a b c d : Int) (w : World) :
    Calls Tryd.prog 34 #[.agg #[.int .i64 a, .int .i64 b, .int .i64 c, .int .i64 d], .agg #[.int .i64 a, .int .i64 b, .int .i64 c, .int .i64 d]] w fun e w' => e = .returned (.bool true) ∧ Ext w w' := by
  have hx : Ext w ((w.alloc (.cells #[.int .i64 a, .int .i64 b, .int .i64 c, .int .i64 d] 65)).alloc (.cells #[.int .i64 a, .int .i64 b, .int .i64 c, .int .i64 d] 65)) := ((Ext.refl w).alloc _).alloc _
  have bA := (Blk.new w 65 #[.int .i64 a, .int .i64 b, .int .i64 c, .int .i64 d]).alloc (.cells #[.int .i64 a, .int .i64 b, .int .i64 c, .int .i64 d] 65)
  have bB := Blk.new (w.alloc (.cells #[.int .i64 a, .int .i64 b, .int .i64 c, .int .i64 d] 65)) 65 #[.int .i64 a, .int .i64 b, .int .i64 c, .int .i64 d]
  simp only [World.size_alloc] at bB
  have cA := fun o => bA.cell o
  have cB := fun o => bB.cell o
  go_enter Tryd.func34, Tryd.ntmps34
  go_wp2_with fail
  refine (eqRatio_any a b a b _).mono ?_
  rintro e w1 ⟨rfl, hx1⟩
  replace bA := bA.ext hx1
  replace bB := bB.ext hx1
  have cA1 := fun o => bA.cell o
  have cB1 := fun o => bB.cell o
  simp only [decide_true]
  go_wp2_with fail
  refine (eqRatio_any c d c d _).mono ?_
  rintro e w2 ⟨rfl, hx2⟩
  simp only [decide_true]
  go_wp2
  go_ret
  exact ⟨rfl, (hx.trans hx1).trans hx2⟩

set_option maxHeartbeats 8000000 in
theorem implParseSpan_any (s : ByteArray) (hs : s.size ≤ 1048576) (w : World) (hm : ∃ m, w.cell? ⟨0, 0, none⟩ = some (.int .i64 m)) (ht : Tab w) (he : Ers w) :
    Calls Tryd.prog 33 #[.string s] w fun e w' => e = .returned (.tuple #[.agg #[.int .i64 (spanR s.data.toList).1.Low.N, .int .i64 (spanR s.data.toList).1.Low.D, .int .i64 (spanR s.data.toList).1.High.N, .int .i64 (spanR s.data.toList).1.High.D], .bool (spanR s.data.toList).2]) ∧ Ext w w' := by
  have hx : Ext w (w.alloc (.cells #[.int .i64 0, .int .i64 0, .int .i64 0, .int .i64 0] 65)) := (Ext.refl w).alloc _
  have b0 := Blk.new w 65 #[.int .i64 0, .int .i64 0, .int .i64 0, .int .i64 0]
  obtain ⟨L, hL⟩ : ∃ L, s.data.toList = L := ⟨_, rfl⟩
  have HL := Lib.hid hL
  have hLn : L.length ≤ 1048576 := by rw [← hL]; simpa using hs
  obtain ⟨m, hm⟩ := hm
  have hm0 := max_ext hm hx
  have HCT := Lib.hid (Tryd.strings_Cut s ⟨#[46, 46]⟩ m _ (by omega) hm0)
  clear hm0 hm
  obtain ⟨lo, hlo⟩ : ∃ x, (Lib.cut L [46, 46]).1 = x := ⟨_, rfl⟩
  obtain ⟨hi, hhi⟩ : ∃ x, (Lib.cut L [46, 46]).2.1 = x := ⟨_, rfl⟩
  obtain ⟨fd, hfd⟩ : ∃ x, (Lib.cut L [46, 46]).2.2 = x := ⟨_, rfl⟩
  have hle := cut_len L
  rw [hlo, hhi] at hle
  obtain ⟨hl1, hl2⟩ := hle
  obtain ⟨⟨⟨a, b⟩, q⟩, hr1⟩ : ∃ x, ratR lo = x := ⟨_, rfl⟩
  obtain ⟨⟨⟨c, d⟩, r⟩, hr2⟩ : ∃ x, ratR hi = x := ⟨_, rfl⟩
  have hIa : I64 a := by have := (ratR_bd lo).1; rwa [hr1] at this
  have hIb : I64 b := by have := (ratR_bd lo).2; rwa [hr1] at this
  have hIc : I64 c := by have := (ratR_bd hi).1; rwa [hr2] at this
  have hId : I64 d := by have := (ratR_bd hi).2; rwa [hr2] at this
  have HB : Hid (∀ _ : fd = false, spanR L = (⟨⟨0, 0⟩, ⟨0, 0⟩⟩, false)) := fun e => spanR_miss (lo := lo) (hi := hi) (by rw [← hlo, ← hhi, ← e, ← hfd])
  have HG : Hid (∀ _ : fd = true, spanR L = if q = true ∧ r = true ∧ spanOk ⟨⟨a, b⟩, ⟨c, d⟩⟩ = true then (⟨⟨a, b⟩, ⟨c, d⟩⟩, true) else (⟨⟨0, 0⟩, ⟨0, 0⟩⟩, false)) := fun e => spanR_hit (lo := lo) (hi := hi) (by rw [← hlo, ← hhi, ← e, ← hfd]) hr1 hr2
  have HC2 : Hid (Lib.cut L [46, 46] = (lo, hi, fd)) := by unfold Hid; rw [← hlo, ← hhi, ← hfd]
  have HR1 := Lib.hid hr1
  have HR2 := Lib.hid hr2
  rw [hL]
  clear hL hlo hhi hfd hr1 hr2
  have HT0 := Lib.hid ht
  have HE0 := Lib.hid he
  clear ht he
  go_enter Tryd.func33, Tryd.ntmps33
  go_wp2_with fail
  refine HCT.out.mono ?_
  clear HCT
  rintro e w1 ⟨rfl, nd, rfl⟩
  rw [HL.out]
  rw [show Lib.cut L (⟨#[46, 46]⟩ : ByteArray).data.toList = (lo, hi, fd) from HC2.out]
  replace b0 := b0.drewN nd
  replace hx := hx.drewN nd
  have HT := HT0.out.ext hx
  have HE := HE0.out.ext hx
  go_wp2_with fail
  refine (implParseRatio_at HR1.out (by omega) _ HT HE).mono ?_
  rintro e w2 ⟨rfl, hx2⟩
  clear HT HE
  replace b0 := b0.ext hx2
  replace hx := hx.trans hx2
  have c0 := fun o => b0.cell o
  have f0 := fun o => b0.frozen o
  have bH := Blk.new w2 63 #[.int .i64 a, .int .i64 b]
  replace b0 := b0.alloc (.cells #[.int .i64 a, .int .i64 b] 63)
  replace hx := hx.alloc (.cells #[.int .i64 a, .int .i64 b] 63)
  have HT := HT0.out.ext hx
  have HE := HE0.out.ext hx
  go_wp2_with fail
  refine (implParseRatio_at HR2.out (by omega) _ HT HE).mono ?_
  rintro e w3 ⟨rfl, hx3⟩
  clear HT HE
  replace b0 := b0.ext hx3
  replace bH := bH.ext hx3
  replace hx := hx.trans hx3
  have cH := fun o => bH.cell o
  have hltH := bH.lt
  cases fd
  · have H := Lib.hid (HB.out rfl)
    clear HB HG
    have c0 := fun o => b0.cell o
    have f0 := fun o => b0.frozen o
    have hlt := b0.lt
    have hq := hx.size
    try simp only [World.size_alloc] at hq
    go_wp2
    have bF := (((b0.set_ 0 (.int .i64 0)).set_ 1 (.int .i64 0)).set_ 2 (.int .i64 0)).set_ 3 (.int .i64 0)
    replace bF := (bF.alloc (.cells #[.int .i64 c, .int .i64 d] 63)).alloc (.cells #[.int .i64 a, .int .i64 b, .int .i64 c, .int .i64 d] 65)
    have cF := fun o => bF.cell o
    refine bodyPost_ret (v := .tuple #[.agg #[.int .i64 0, .int .i64 0, .int .i64 0, .int .i64 0], .bool false]) (by simp [results, Tryd.results33, go_sem, cF]) rfl ⟨by rw [H.out], ?_⟩
    exact (((((hx.setCell (by first | omega | (simp <;> omega)) _).setCell (by first | omega | (simp <;> omega)) _).setCell (by first | omega | (simp <;> omega)) _).setCell (by first | omega | (simp <;> omega)) _).alloc _).alloc _
  have HZ := Lib.hid (HG.out rfl)
  clear HB HG
  cases q
  · have H := Lib.hid (HZ.out.trans (if_neg (fun e => by cases e.1)))
    clear HZ
    have c0 := fun o => b0.cell o
    have f0 := fun o => b0.frozen o
    have hlt := b0.lt
    have hq := hx.size
    try simp only [World.size_alloc] at hq
    go_wp2
    have bF := (((b0.set_ 0 (.int .i64 0)).set_ 1 (.int .i64 0)).set_ 2 (.int .i64 0)).set_ 3 (.int .i64 0)
    replace bF := (bF.alloc (.cells #[.int .i64 c, .int .i64 d] 63)).alloc (.cells #[.int .i64 a, .int .i64 b, .int .i64 c, .int .i64 d] 65)
    have cF := fun o => bF.cell o
    refine bodyPost_ret (v := .tuple #[.agg #[.int .i64 0, .int .i64 0, .int .i64 0, .int .i64 0], .bool false]) (by simp [results, Tryd.results33, go_sem, cF]) rfl ⟨by rw [H.out], ?_⟩
    exact (((((hx.setCell (by first | omega | (simp <;> omega)) _).setCell (by first | omega | (simp <;> omega)) _).setCell (by first | omega | (simp <;> omega)) _).setCell (by first | omega | (simp <;> omega)) _).alloc _).alloc _
  cases r
  · have H := Lib.hid (HZ.out.trans (if_neg (fun e => by cases e.2.1)))
    clear HZ
    have c0 := fun o => b0.cell o
    have f0 := fun o => b0.frozen o
    have hlt := b0.lt
    have hq := hx.size
    try simp only [World.size_alloc] at hq
    go_wp2
    have bF := (((b0.set_ 0 (.int .i64 0)).set_ 1 (.int .i64 0)).set_ 2 (.int .i64 0)).set_ 3 (.int .i64 0)
    replace bF := (bF.alloc (.cells #[.int .i64 c, .int .i64 d] 63)).alloc (.cells #[.int .i64 a, .int .i64 b, .int .i64 c, .int .i64 d] 65)
    have cF := fun o => bF.cell o
    refine bodyPost_ret (v := .tuple #[.agg #[.int .i64 0, .int .i64 0, .int .i64 0, .int .i64 0], .bool false]) (by simp [results, Tryd.results33, go_sem, cF]) rfl ⟨by rw [H.out], ?_⟩
    exact (((((hx.setCell (by first | omega | (simp <;> omega)) _).setCell (by first | omega | (simp <;> omega)) _).setCell (by first | omega | (simp <;> omega)) _).setCell (by first | omega | (simp <;> omega)) _).alloc _).alloc _
  have bS := Blk.new (w3.alloc (.cells #[.int .i64 c, .int .i64 d] 63)) 65 #[.int .i64 a, .int .i64 b, .int .i64 c, .int .i64 d]
  simp only [World.size_alloc] at bS
  replace b0 := (b0.alloc (.cells #[.int .i64 c, .int .i64 d] 63)).alloc (.cells #[.int .i64 a, .int .i64 b, .int .i64 c, .int .i64 d] 65)
  replace hx := (hx.alloc (.cells #[.int .i64 c, .int .i64 d] 63)).alloc (.cells #[.int .i64 a, .int .i64 b, .int .i64 c, .int .i64 d] 65)
  have cS := fun o => bS.cell o
  go_wp2_with fail
  refine (implSpanOk_any a b c d _ hIa hIb hIc hId).mono ?_
  rintro e w5 ⟨rfl, hx4⟩
  replace b0 := b0.ext hx4
  replace bS := bS.ext hx4
  replace hx := hx.trans hx4
  have cS4 := fun o => bS.cell o
  by_cases hk : spanOk ⟨⟨a, b⟩, ⟨c, d⟩⟩ = true
  rotate_left
  · have hk' : spanOk ⟨⟨a, b⟩, ⟨c, d⟩⟩ = false := by simpa using hk
    have H := Lib.hid (HZ.out.trans (if_neg (fun e => hk e.2.2)))
    rw [hk']
    clear hk hk' HZ
    have c0 := fun o => b0.cell o
    have f0 := fun o => b0.frozen o
    have hlt := b0.lt
    have hq := hx.size
    try simp only [World.size_alloc] at hq
    go_wp2
    have bF := (((b0.set_ 0 (.int .i64 0)).set_ 1 (.int .i64 0)).set_ 2 (.int .i64 0)).set_ 3 (.int .i64 0)
    have cF := fun o => bF.cell o
    refine bodyPost_ret (v := .tuple #[.agg #[.int .i64 0, .int .i64 0, .int .i64 0, .int .i64 0], .bool false]) (by simp [results, Tryd.results33, go_sem, cF]) rfl ⟨by rw [H.out], ?_⟩
    exact (((hx.setCell (by first | omega | (simp <;> omega)) _).setCell (by first | omega | (simp <;> omega)) _).setCell (by first | omega | (simp <;> omega)) _).setCell (by first | omega | (simp <;> omega)) _
  have H := Lib.hid (HZ.out.trans (if_pos ⟨by first | rfl | trivial, by first | rfl | trivial, hk⟩))
  rw [hk]
  clear hk HZ
  have c0 := fun o => b0.cell o
  have f0 := fun o => b0.frozen o
  have hlt := b0.lt
  have hq := hx.size
  try simp only [World.size_alloc] at hq
  go_wp2
  have bF := (((b0.set_ 0 (.int .i64 a)).set_ 1 (.int .i64 b)).set_ 2 (.int .i64 c)).set_ 3 (.int .i64 d)
  have cF := fun o => bF.cell o
  refine bodyPost_ret (v := .tuple #[.agg #[.int .i64 a, .int .i64 b, .int .i64 c, .int .i64 d], .bool true]) (by simp [results, Tryd.results33, go_sem, cF]) rfl ⟨by rw [H.out], ?_⟩
  exact (((hx.setCell (by first | omega | (simp <;> omega)) _).setCell (by first | omega | (simp <;> omega)) _).setCell (by first | omega | (simp <;> omega)) _).setCell (by first | omega | (simp <;> omega)) _

set_option maxHeartbeats 8000000 in
theorem specParseSpan_any (s : ByteArray) (hs : s.size ≤ 1048576) (w : World) :
    Calls Tryd.prog 32 #[.string s] w fun e w' => e = .returned (.tuple #[.agg #[.int .i64 (spanR s.data.toList).1.Low.N, .int .i64 (spanR s.data.toList).1.Low.D, .int .i64 (spanR s.data.toList).1.High.N, .int .i64 (spanR s.data.toList).1.High.D], .bool (spanR s.data.toList).2]) ∧ Ext w w' := by
  have hx : Ext w (w.alloc (.cells #[.int .i64 0, .int .i64 0, .int .i64 0, .int .i64 0] 65)) := (Ext.refl w).alloc _
  have b0 := Blk.new w 65 #[.int .i64 0, .int .i64 0, .int .i64 0, .int .i64 0]
  obtain ⟨L, hL⟩ : ∃ L, s.data.toList = L := ⟨_, rfl⟩
  have HL := Lib.hid hL
  obtain ⟨n, hn⟩ : ∃ n, s.size = n := ⟨_, rfl⟩
  have HN : Hid (L.length = n) := by rw [← hn, ← hL]; simp [Hid]
  rw [hL]
  clear hL
  have hs0 := b0.lt
  simp only [World.size_alloc] at hs0
  have HX := Lib.hid hx
  have HB0 := Lib.hid b0
  clear hx b0
  go_enter Tryd.func32, Tryd.ntmps32
  go_wp2
  go_loopw [4] (fun i wr => ∃ (k : Nat), k ≤ n ∧ i = .int .i64 k ∧ Ext w wr ∧ Blk wr w.heap.size 65 #[.int .i64 0, .int .i64 0, .int .i64 0, .int .i64 0] ∧ ∀ j, j < k → Lib.occAt L [46, 46] j = false) (fun i _ => n - (intOf i).toNat)
  case atStart => exact ⟨0, Nat.zero_le _, rfl, HX.out, HB0.out, fun j hj => by omega⟩
  case round =>
  obtain ⟨k, hk, rfl, hx, b0, hno⟩ := hrel
  have HNO := Lib.hid hno
  clear hno
  have hw1 : IntKind.i64.wrap ((k : Int) + 1) = (k : Int) + 1 := IntWalk.i64_in _ (by omega)
  have c0 := fun o => b0.cell o
  have f0 := fun o => b0.frozen o
  have hlt0 := b0.lt
  by_cases hlt : k + 1 < n
  rotate_left
  · have hlt2 : ¬ (k : Int) + 1 < (n : Int) := by omega
    have H := Lib.hid (spanR_miss (cut_miss (L := L) (by rw [HN.out]; exact hlt) HNO.out))
    have c0 := fun o => b0.cell o
    have f0 := fun o => b0.frozen o
    have hlt := b0.lt
    have hq := hx.size
    try simp only [World.size_alloc] at hq
    go_wp2
    have bF := (((b0.set_ 0 (.int .i64 0)).set_ 1 (.int .i64 0)).set_ 2 (.int .i64 0)).set_ 3 (.int .i64 0)
    have cF := fun o => bF.cell o
    refine bodyPost_ret (v := .tuple #[.agg #[.int .i64 0, .int .i64 0, .int .i64 0, .int .i64 0], .bool false]) (by simp [results, Tryd.results32, go_sem, cF]) rfl ⟨by rw [H.out], ?_⟩
    exact (((hx.setCell (by first | omega | (simp <;> omega)) _).setCell (by first | omega | (simp <;> omega)) _).setCell (by first | omega | (simp <;> omega)) _).setCell (by first | omega | (simp <;> omega)) _
  have hlt2 : (k : Int) + 1 < (n : Int) := by omega
  have hks : k < s.size := by omega
  have hks1 : k + 1 < s.size := by omega
  have hkl : k + 1 < L.length := by rw [HN.out]; exact hlt
  have hkl0 : k < L.length := by omega
  obtain ⟨c1, hc1⟩ : ∃ c, s[k]'hks = c := ⟨_, rfl⟩
  have HC1 : Hid (L[k]'hkl0 = c1) := by have h1 : s.data.toList[k]'(by rw [HL.out]; exact hkl0) = c1 := hc1; unfold Hid; rw [← h1]; congr 1; exact HL.out.symm
  obtain ⟨c2, hc2⟩ : ∃ c, s[k + 1]'hks1 = c := ⟨_, rfl⟩
  have HC2 : Hid (L[k + 1]'hkl = c2) := by have h1 : s.data.toList[k + 1]'(by rw [HL.out]; exact hkl) = c2 := hc2; unfold Hid; rw [← h1]; congr 1; exact HL.out.symm
  by_cases h1 : c1 = 46
  rotate_left
  · have h1' : ¬ (c1.toNat : Int) = 46 := fun e => h1 (UInt8.toNat_inj.1 (by have : (46 : UInt8).toNat = 46 := rfl; omega))
    have h1'' : ((c1.toNat : Int) == 46) = false := by rw [beq_eq_false_iff_ne]; exact h1'
    have HO := Lib.hid (occ_succ HNO.out (dots_no hkl (Or.inl (by rw [HC1.out]; exact h1))))
    go_wp2
    go_roundw
    case rel => exact ⟨k + 1, by omega, by go_num, by first | exact hx | exact hx.drewN _, by first | exact b0 | exact b0.drewN _, HO.out⟩
    case measure => simp [intOf]; omega
  have h1t : (c1.toNat : Int) = 46 := by rw [h1]; rfl
  by_cases h2 : c2 = 46
  rotate_left
  · have h2' : ¬ (c2.toNat : Int) = 46 := fun e => h2 (UInt8.toNat_inj.1 (by have : (46 : UInt8).toNat = 46 := rfl; omega))
    have h2'' : ((c2.toNat : Int) == 46) = false := by rw [beq_eq_false_iff_ne]; exact h2'
    have HO := Lib.hid (occ_succ HNO.out (dots_no hkl (Or.inr (by rw [HC2.out]; exact h2))))
    go_wp2
    go_roundw
    case rel => exact ⟨k + 1, by omega, by go_num, by first | exact hx | exact hx.drewN _, by first | exact b0 | exact b0.drewN _, HO.out⟩
    case measure => simp [intOf]; omega
  have HCT := Lib.hid (cut_hit hkl (by rw [HC1.out]; exact h1) (by rw [HC2.out]; exact h2) HNO.out)
  have h2t : (c2.toNat : Int) = 46 := by rw [h2]; rfl
  clear h1 h2
  obtain ⟨lo, hlo⟩ : ∃ x, L.take k = x := ⟨_, rfl⟩
  obtain ⟨hi, hhi⟩ : ∃ x, L.drop (k + 2) = x := ⟨_, rfl⟩
  have hl1 : lo.length ≤ 1048576 := by rw [← hlo, List.length_take, HN.out]; omega
  have hl2 : hi.length ≤ 1048576 := by rw [← hhi, List.length_drop, HN.out]; omega
  have hcut1 : s.extract 0 k = txt lo := by
    have := cut_txt s 0 k
    rw [HL.out, hlo, List.drop_zero] at this
    exact this
  have hcut2 : s.extract (k + 2) n = txt hi := by
    have := cut_txt_end s (k + 2) n (by rw [HL.out, HN.out])
    rw [HL.out, hhi] at this
    exact this
  rw [hlo, hhi] at HCT
  clear hlo hhi
  obtain ⟨⟨⟨a, b⟩, q⟩, hr1⟩ : ∃ x, ratR lo = x := ⟨_, rfl⟩
  obtain ⟨⟨⟨c, d⟩, r⟩, hr2⟩ : ∃ x, ratR hi = x := ⟨_, rfl⟩
  have hIa : I64 a := by have := (ratR_bd lo).1; rwa [hr1] at this
  have hIb : I64 b := by have := (ratR_bd lo).2; rwa [hr1] at this
  have hIc : I64 c := by have := (ratR_bd hi).1; rwa [hr2] at this
  have hId : I64 d := by have := (ratR_bd hi).2; rwa [hr2] at this
  have HZ := Lib.hid (spanR_hit HCT.out hr1 hr2)
  have HR1 := Lib.hid hr1
  have HR2 := Lib.hid hr2
  clear hr1 hr2
  have hw2 : IntKind.i64.wrap ((k : Int) + 2) = (k : Int) + 2 := IntWalk.i64_in _ (by omega)
  have hkn1 : (k : Int) ≤ (n : Int) := by omega
  have hkn2 : (k : Int) + 2 ≤ (n : Int) := by omega
  have hkt : ((k : Int) + 2).toNat = k + 2 := by omega
  go_wp2_with fail
  refine (specParseRatio_at HR1.out hl1 _).mono ?_
  rintro e w2 ⟨rfl, hx2⟩
  replace b0 := b0.ext hx2
  replace hx := hx.trans hx2
  have c0 := fun o => b0.cell o
  have f0 := fun o => b0.frozen o
  have bH := Blk.new w2 63 #[.int .i64 a, .int .i64 b]
  replace b0 := b0.alloc (.cells #[.int .i64 a, .int .i64 b] 63)
  replace hx := hx.alloc (.cells #[.int .i64 a, .int .i64 b] 63)
  go_wp2_with fail
  refine (specParseRatio_at HR2.out hl2 _).mono ?_
  rintro e w3 ⟨rfl, hx3⟩
  replace b0 := b0.ext hx3
  replace bH := bH.ext hx3
  replace hx := hx.trans hx3
  have cH := fun o => bH.cell o
  have hltH := bH.lt
  cases q
  · have H := Lib.hid (HZ.out.trans (if_neg (fun e => by cases e.1)))
    clear HZ
    have c0 := fun o => b0.cell o
    have f0 := fun o => b0.frozen o
    have hlt := b0.lt
    have hq := hx.size
    try simp only [World.size_alloc] at hq
    go_wp2
    have bF := (((b0.set_ 0 (.int .i64 0)).set_ 1 (.int .i64 0)).set_ 2 (.int .i64 0)).set_ 3 (.int .i64 0)
    replace bF := (bF.alloc (.cells #[.int .i64 c, .int .i64 d] 63)).alloc (.cells #[.int .i64 a, .int .i64 b, .int .i64 c, .int .i64 d] 65)
    have cF := fun o => bF.cell o
    refine bodyPost_ret (v := .tuple #[.agg #[.int .i64 0, .int .i64 0, .int .i64 0, .int .i64 0], .bool false]) (by simp [results, Tryd.results32, go_sem, cF]) rfl ⟨by rw [H.out], ?_⟩
    exact (((((hx.setCell (by first | omega | (simp <;> omega)) _).setCell (by first | omega | (simp <;> omega)) _).setCell (by first | omega | (simp <;> omega)) _).setCell (by first | omega | (simp <;> omega)) _).alloc _).alloc _
  cases r
  · have H := Lib.hid (HZ.out.trans (if_neg (fun e => by cases e.2.1)))
    clear HZ
    have c0 := fun o => b0.cell o
    have f0 := fun o => b0.frozen o
    have hlt := b0.lt
    have hq := hx.size
    try simp only [World.size_alloc] at hq
    go_wp2
    have bF := (((b0.set_ 0 (.int .i64 0)).set_ 1 (.int .i64 0)).set_ 2 (.int .i64 0)).set_ 3 (.int .i64 0)
    replace bF := (bF.alloc (.cells #[.int .i64 c, .int .i64 d] 63)).alloc (.cells #[.int .i64 a, .int .i64 b, .int .i64 c, .int .i64 d] 65)
    have cF := fun o => bF.cell o
    refine bodyPost_ret (v := .tuple #[.agg #[.int .i64 0, .int .i64 0, .int .i64 0, .int .i64 0], .bool false]) (by simp [results, Tryd.results32, go_sem, cF]) rfl ⟨by rw [H.out], ?_⟩
    exact (((((hx.setCell (by first | omega | (simp <;> omega)) _).setCell (by first | omega | (simp <;> omega)) _).setCell (by first | omega | (simp <;> omega)) _).setCell (by first | omega | (simp <;> omega)) _).alloc _).alloc _
  have bS := Blk.new (w3.alloc (.cells #[.int .i64 c, .int .i64 d] 63)) 65 #[.int .i64 a, .int .i64 b, .int .i64 c, .int .i64 d]
  simp only [World.size_alloc] at bS
  replace b0 := (b0.alloc (.cells #[.int .i64 c, .int .i64 d] 63)).alloc (.cells #[.int .i64 a, .int .i64 b, .int .i64 c, .int .i64 d] 65)
  replace hx := (hx.alloc (.cells #[.int .i64 c, .int .i64 d] 63)).alloc (.cells #[.int .i64 a, .int .i64 b, .int .i64 c, .int .i64 d] 65)
  have cS := fun o => bS.cell o
  go_wp2_with fail
  refine (specSpanOk_any a b c d _ hIa hIb hIc hId).mono ?_
  rintro e w5 ⟨rfl, hx4⟩
  replace b0 := b0.ext hx4
  replace bS := bS.ext hx4
  replace hx := hx.trans hx4
  have cS4 := fun o => bS.cell o
  by_cases hk : spanOk ⟨⟨a, b⟩, ⟨c, d⟩⟩ = true
  rotate_left
  · have hk' : spanOk ⟨⟨a, b⟩, ⟨c, d⟩⟩ = false := by simpa using hk
    have H := Lib.hid (HZ.out.trans (if_neg (fun e => hk e.2.2)))
    rw [hk']
    clear hk hk' HZ
    have c0 := fun o => b0.cell o
    have f0 := fun o => b0.frozen o
    have hlt := b0.lt
    have hq := hx.size
    try simp only [World.size_alloc] at hq
    go_wp2
    have bF := (((b0.set_ 0 (.int .i64 0)).set_ 1 (.int .i64 0)).set_ 2 (.int .i64 0)).set_ 3 (.int .i64 0)
    have cF := fun o => bF.cell o
    refine bodyPost_ret (v := .tuple #[.agg #[.int .i64 0, .int .i64 0, .int .i64 0, .int .i64 0], .bool false]) (by simp [results, Tryd.results32, go_sem, cF]) rfl ⟨by rw [H.out], ?_⟩
    exact (((hx.setCell (by first | omega | (simp <;> omega)) _).setCell (by first | omega | (simp <;> omega)) _).setCell (by first | omega | (simp <;> omega)) _).setCell (by first | omega | (simp <;> omega)) _
  have H := Lib.hid (HZ.out.trans (if_pos ⟨by first | rfl | trivial, by first | rfl | trivial, hk⟩))
  rw [hk]
  clear hk HZ
  have c0 := fun o => b0.cell o
  have f0 := fun o => b0.frozen o
  have hlt := b0.lt
  have hq := hx.size
  try simp only [World.size_alloc] at hq
  go_wp2
  have bF := (((b0.set_ 0 (.int .i64 a)).set_ 1 (.int .i64 b)).set_ 2 (.int .i64 c)).set_ 3 (.int .i64 d)
  have cF := fun o => bF.cell o
  refine bodyPost_ret (v := .tuple #[.agg #[.int .i64 a, .int .i64 b, .int .i64 c, .int .i64 d], .bool true]) (by simp [results, Tryd.results32, go_sem, cF]) rfl ⟨by rw [H.out], ?_⟩
  exact (((hx.setCell (by first | omega | (simp <;> omega)) _).setCell (by first | omega | (simp <;> omega)) _).setCell (by first | omega | (simp <;> omega)) _).setCell (by first | omega | (simp <;> omega)) _
end Go.Proofs.YtlgkfjhbimffiaaDoor
