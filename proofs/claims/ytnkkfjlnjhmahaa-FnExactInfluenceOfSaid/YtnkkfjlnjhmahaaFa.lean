/- Contract of l06Far of the reference: the first farthest corner and its value. -/
import Derived.Test.YtnkkfjlnjhmahaaSu
import Derived.Test.YtnkkfjlnjhmahaaRat
import Derived.Deep.RegionHeld3
namespace Go.Proofs.Ytnkkfjlnjhmahaa
open Go.ChangeShapes Go.WideShapes Go.ChangeAt Go.RowKit
set_option linter.unusedVariables false
set_option maxRecDepth 100000

theorem cmp_of {v d N D : Int} (hd : 1 ≤ d) (hD : 1 ≤ D) (hd2 : d ≤ 5000000000) (hD2 : D ≤ 5000000000) (hv : -(100000000 * d) ≤ v ∧ v ≤ 100000000 * d) (hN : -(100000000 * D) ≤ N ∧ N ≤ 100000000 * D) :
    0 < ratioCmp (ratioOf v d) (ratioOf N D) ↔ N * d < v * D := by
  obtain ⟨a1, a2, a3, a4, a5⟩ := ratioOf_good (n := v) (d := d) (by omega) hd (by omega)
  obtain ⟨b1, b2, b3, b4, b5⟩ := ratioOf_good (n := N) (d := D) (by omega) hD (by omega)
  unfold ratioCmp
  rw [if_pos ⟨a1, b1⟩]
  generalize ratioOf v d = r at *
  generalize ratioOf N D = s at *
  have e1 : s.N * r.D * (d * D) = N * d * (r.D * s.D) := by rw [show s.N * r.D * (d * D) = s.N * D * (r.D * d) by grind, b2]; grind
  have e2 : r.N * s.D * (d * D) = v * D * (r.D * s.D) := by rw [show r.N * s.D * (d * D) = r.N * d * (s.D * D) by grind, a2]; grind
  have p1 : 0 < d * D := Int.mul_pos (by omega) (by omega)
  have p2 : 0 < r.D * s.D := Int.mul_pos (by omega) (by omega)
  have i1 : s.N * r.D < r.N * s.D ↔ N * d < v * D := by
    constructor
    · intro h
      refine Int.lt_of_mul_lt_mul_right (a := r.D * s.D) ?_ (Int.le_of_lt p2)
      rw [← e1, ← e2]
      exact Int.mul_lt_mul_of_pos_right h p1
    · intro h
      refine Int.lt_of_mul_lt_mul_right (a := d * D) ?_ (Int.le_of_lt p1)
      rw [e1, e2]
      exact Int.mul_lt_mul_of_pos_right h p2
  rw [← i1]
  unfold cmpI
  split
  · constructor <;> intro h <;> omega
  · split
    · constructor <;> intro h <;> omega
    · constructor <;> intro h <;> omega
/-- the reference's state is the same -/
theorem far_step {a b : Int} (ha : -50000 ≤ a ∧ a ≤ 50000) (hb : -50000 ≤ b ∧ b ≤ 50000) {l : List Spot} (hl : ∀ s ∈ l, SpotB s) {k : Nat} (hk : k < l.length) :
    ((farTo a b l k).1 < 0 ∨ 0 < ratioCmp (ratioOf (a * l[k].X + b * l[k].Y) l[k].D) (ratioOf (farTo a b l k).2.1 (farTo a b l k).2.2) → farTo a b l (k + 1) = ((k : Int), a * l[k].X + b * l[k].Y, l[k].D)) ∧
    (¬ (farTo a b l k).1 < 0 → ¬ 0 < ratioCmp (ratioOf (a * l[k].X + b * l[k].Y) l[k].D) (ratioOf (farTo a b l k).2.1 (farTo a b l k).2.2) → farTo a b l (k + 1) = farTo a b l k) := by
  have hB := hl _ (List.getElem_mem hk)
  have hm := hB.mul ha hb
  have e : farTo a b l (k + 1) = if (farTo a b l k).2.2 = 0 ∨ (farTo a b l k).2.1 * (spotAt l k).D < (a * (spotAt l k).X + b * (spotAt l k).Y) * (farTo a b l k).2.2
      then ((k : Int), a * (spotAt l k).X + b * (spotAt l k).Y, (spotAt l k).D) else farTo a b l k := rfl
  rw [spotAt_at hk] at e
  rcases farTo_inv ha hb hl k (by omega) with ⟨rfl, h0⟩ | ⟨hk0, i, hi, hik, h1, h2⟩
  · rw [h0] at e ⊢
    rw [if_pos (.inl rfl)] at e
    exact ⟨fun _ => e, fun h => absurd (show (-1 : Int) < 0 by omega) h⟩
  · have hBi := hl _ (List.getElem_mem hi)
    have hmi := hBi.mul ha hb
    have c := cmp_of (v := a * l[k].X + b * l[k].Y) (d := l[k].D) (N := a * l[i].X + b * l[i].Y) (D := l[i].D) hB.d1 hBi.d1 hB.d2 hBi.d2 (by omega) (by omega)
    have d1 := hBi.d1
    rw [h1] at e ⊢
    simp only at e ⊢
    constructor
    · intro h
      rcases h with h | h
      · omega
      · rw [e, if_pos (.inr (c.1 h))]
    · intro _ h
      rw [e, if_neg]
      rintro (h3 | h3)
      · omega
      · exact h (c.2 h3)
theorem far_I64 {a b : Int} (ha : -50000 ≤ a ∧ a ≤ 50000) (hb : -50000 ≤ b ∧ b ≤ 50000) {l : List Spot} (hl : ∀ s ∈ l, SpotB s) {k : Nat} (hk : k ≤ l.length) (hl2 : l.length ≤ 1000000) :
    -1 ≤ (farTo a b l k).1 ∧ (farTo a b l k).1 ≤ 1000000 ∧ I64 (ratioOf (farTo a b l k).2.1 (farTo a b l k).2.2).N ∧ I64 (ratioOf (farTo a b l k).2.1 (farTo a b l k).2.2).D := by
  rcases farTo_inv ha hb hl k hk with ⟨rfl, h0⟩ | ⟨hk0, i, hi, hik, h1, h2⟩
  · rw [h0]
    have : ratioOf 0 0 = ⟨0, 0⟩ := by decide
    dsimp only
    rw [this]
    dsimp only
    unfold I64
    omega
  · have hBi := hl _ (List.getElem_mem hi)
    have hmi := hBi.mul ha hb
    have d1 := hBi.d1
    have d2 := hBi.d2
    obtain ⟨a1, a2, a3, a4, a5⟩ := ratioOf_good (n := a * l[i].X + b * l[i].Y) (d := l[i].D) (by omega) d1 (by omega)
    have := ratioOk_bd a1
    rw [h1]
    simp only
    unfold I64
    omega
set_option maxHeartbeats 8000000 in
theorem l06Far_any (A : Option Addr) (n c : Nat) (a b : Int) (hs : List Half) (w : World) (hn : hs.length = n) (hk : regOk hs = true) (hne : hs ≠ []) (ha : -50000 ≤ a ∧ a ≤ 50000) (hb : -50000 ≤ b ∧ b ≤ 50000)
    (hr : Row w A (ints (flat Half.ints hs))) :
    Calls Try.prog 32 #[.agg #[.slice A n c], .int .i64 a, .int .i64 b] w fun e w' => e = .returned (.tuple #[.int .i64 (farOf a b hs).1, .agg #[.int .i64 (suppR hs a b).N, .int .i64 (suppR hs a b).D]]) ∧ Ext w w' := by
  have hS := shape_of hk hne
  have hle := regOk_len hk
  have hcl : (cornL hs).length = hs.length := cornL_len hs
  have HC := Lib.hid (fun w hr => l05Corners_any A n c hs w hn hr (regOk_all hk) (by omega))
  rw [corners_same hS] at HC
  have HB : Hid (∀ s ∈ cornL hs, SpotB s) := hS.spotB
  have HF : Hid (suppR hs a b = ratioOf (farTo a b (cornL hs) (cornL hs).length).2.1 (farTo a b (cornL hs) (cornL hs).length).2.2 ∧ (farOf a b hs).1 = (farTo a b (cornL hs) (cornL hs).length).1) := by
    rw [hcl]
    exact ⟨rfl, rfl⟩
  obtain ⟨L, hL⟩ : ∃ L, cornL hs = L := ⟨_, rfl⟩
  rw [hL] at HC HB HF hcl
  have hLl : L.length ≤ 40 := by omega
  have HR := Lib.hid hr
  have hx : Ext w (((w.alloc (.cells #[.slice A n c] 25)).alloc (.cells #[.int .i64 0, .int .i64 0] 44)).alloc (.cells #[.int .i64 0, .int .i64 0] 44)) := (((Ext.refl w).alloc _).alloc _).alloc _
  have bP := ((Blk.new w 25 #[.slice A n c]).alloc (.cells #[.int .i64 0, .int .i64 0] 44)).alloc (.cells #[.int .i64 0, .int .i64 0] 44)
  have bR := (Blk.new (w.alloc (.cells #[.slice A n c] 25)) 44 #[.int .i64 0, .int .i64 0]).alloc (.cells #[.int .i64 0, .int .i64 0] 44)
  have bT := Blk.new ((w.alloc (.cells #[.slice A n c] 25)).alloc (.cells #[.int .i64 0, .int .i64 0] 44)) 44 #[.int .i64 0, .int .i64 0]
  simp only [World.size_alloc] at bR bT
  have cP := fun o => bP.cell o
  clear hn hk hne hr hS hle hcl hL
  go_enter Try.func32, Try.ntmps32
  go_wp2_with fail
  refine (HC.out _ (HR.out.ext hx)).mono ?_
  rintro e W1 ⟨AL, cL, nL, rfl, hnL, hx1, ownL⟩
  subst hnL
  replace hx := hx.trans hx1
  replace bR := bR.ext hx1
  replace bT := bT.ext hx1
  have hO : ∀ ad, AL = some ad → ad.block ≠ w.heap.size + 1 + 1 ∧ ad.block ≠ w.heap.size + 1 + 1 := by
    intro ad h
    subst h
    have := (own_lt ownL (g := ad.block) rfl).1
    simp only [World.size_alloc] at this
    omega
  have HO := Lib.hid hO
  have HRL := Lib.hid (Row.of_own ownL)
  clear hx1 ownL hO cP bP
  go_wp2
  go_loopw [8, 17] (fun v i wr => ∃ k : Nat, k ≤ L.length ∧ i = .int .i64 k ∧ v = .int .i64 (farTo a b L k).1 ∧ Blk wr (w.heap.size + 1) 44 #[.int .i64 0, .int .i64 0] ∧ Blk wr (w.heap.size + 1 + 1) 44 #[.int .i64 (ratioOf (farTo a b L k).2.1 (farTo a b L k).2.2).N, .int .i64 (ratioOf (farTo a b L k).2.1 (farTo a b L k).2.2).D] ∧ KeepsBut (w.heap.size + 1 + 1) (w.heap.size + 1 + 1) W1 wr ∧ Ext w wr) (fun _ i _ => L.length - (intOf i).toNat)
  case atStart => exact ⟨0, Nat.zero_le _, rfl, rfl, bR, (show Blk W1 _ _ #[.int .i64 (ratioOf 0 0).N, .int .i64 (ratioOf 0 0).D] by rw [show ratioOf 0 0 = ⟨0, 0⟩ by decide]; exact bT), KeepsBut.refl _ _ _, hx⟩
  case round =>
    obtain ⟨k, hk, rfl, rfl, dR, dT, hkp, hy⟩ := hrel
    have hi := far_I64 ha hb HB.out hk (by omega)
    by_cases hlt : k < L.length
    · obtain ⟨bb, off, rfl, hbb, s0, s1, s2⟩ := (hkp.row HRL.out HO.out).Spot (k := k) hlt
      have HSt := Lib.hid (far_step ha hb HB.out hlt)
      have hB := HB.out _ (List.getElem_mem hlt)
      have hm := hB.mul ha hb
      have m1 := mul_bd (a := a) (b := L[k].X) (A := 50000) (B := 1000 * L[k].D) ha ⟨hB.x1, hB.x2⟩
      have m2 := mul_bd (a := b) (b := L[k].Y) (A := 50000) (B := 1000 * L[k].D) hb ⟨hB.y1, hB.y2⟩
      have d1 := hB.d1
      have d2 := hB.d2
      clear hB
      obtain ⟨h, hh⟩ : ∃ h, L[k] = h := ⟨_, rfl⟩
      rw [hh] at s0 s1 s2 HSt hm m1 m2 d1 d2
      clear hh
      have HLT := Lib.hid hlt
      obtain ⟨p, hp⟩ : ∃ p, (farTo a b L k).1 = p := ⟨_, rfl⟩
      obtain ⟨T, hT⟩ : ∃ T, ratioOf (farTo a b L k).2.1 (farTo a b L k).2.2 = T := ⟨_, rfl⟩
      rw [hp, hT] at HSt hi
      rw [hp]
      rw [hT] at dT
      have HP := Lib.hid (show (farTo a b L k).1 = p from hp)
      have HT := Lib.hid (show ratioOf (farTo a b L k).2.1 (farTo a b L k).2.2 = T from hT)
      clear hp hT
      have ei1 : I64 (a * h.X + b * h.Y) := by unfold I64; omega
      have ei2 : I64 h.D := by unfold I64; omega
      have e1 : IntKind.i64.wrap (a * h.X) = a * h.X := IntWalk.i64_in _ (by omega)
      have e2 : IntKind.i64.wrap (b * h.Y) = b * h.Y := IntWalk.i64_in _ (by omega)
      have e3 : IntKind.i64.wrap (a * h.X + b * h.Y) = a * h.X + b * h.Y := IntWalk.i64_in _ (by omega)
      obtain ⟨g1, g2, g3, g4, g5⟩ := ratioOf_good (n := a * h.X + b * h.Y) (d := h.D) (by omega) d1 (by omega)
      have gb := ratioOk_bd g1
      clear g2 g3 g4 g5 g1 m1 m2 hm
      have hA := (Ext.refl wr).alloc (.cells #[.int .i64 h.X, .int .i64 h.Y, .int .i64 h.D] 29)
      replace hkp := hkp.trans (KeepsBut.of_ext hA)
      replace hy := hy.trans hA
      replace dT := dT.ext hA
      replace dR := dR.ext hA
      have cdT_1 := fun o => dT.cell o
      have fdT_1 := fun o => dT.frozen o
      go_wp2_with fail
      refine (specRatioOf_any _ _ _ ei1 ei2).mono ?_
      rintro e w3 ⟨rfl, hx3⟩
      replace hy := hy.trans hx3
      replace dT := dT.ext hx3
      replace dR := dR.ext hx3
      have cdT_2 := fun o => dT.cell o
      have fdT_2 := fun o => dT.frozen o
      replace hkp := hkp.trans (KeepsBut.of_ext hx3)
      obtain ⟨R, hR⟩ : ∃ R, ratioOf (a * h.X + b * h.Y) h.D = R := ⟨_, rfl⟩
      rw [hR] at HSt gb ⊢
      have HRR := Lib.hid hR
      clear hR
      have bN := Blk.new w3 44 #[.int .i64 R.N, .int .i64 R.D]
      have hA3 := (Ext.refl w3).alloc (.cells #[.int .i64 R.N, .int .i64 R.D] 44)
      replace hkp := hkp.trans (KeepsBut.of_ext hA3)
      replace hy := hy.trans hA3
      replace dT := dT.ext hA3
      replace dR := dR.ext hA3
      have cN := fun o => bN.cell o
      have cT := fun o => dT.cell o
      have fT := fun o => dT.frozen o
      have HC := Lib.hid (fun w => specRatioCmp_any R.N R.D T.N T.D w (by unfold I64; omega) (by unfold I64; omega) hi.2.2.1 hi.2.2.2)
      have hsz := Ext.size hy
      have hTl := dT.lt
      have yes : farTo a b L (k + 1) = ((k : Int), a * h.X + b * h.Y, h.D) → ∀ X, Ext (w3.alloc (.cells #[.int .i64 R.N, .int .i64 R.D] 44)) X → Blk ((X.setCell ⟨w.heap.size + 1 + 1, 0, none⟩ (.int .i64 R.N)).setCell ⟨w.heap.size + 1 + 1, 1, none⟩ (.int .i64 R.D)) (w.heap.size + 1) 44 #[.int .i64 0, .int .i64 0] ∧ Blk ((X.setCell ⟨w.heap.size + 1 + 1, 0, none⟩ (.int .i64 R.N)).setCell ⟨w.heap.size + 1 + 1, 1, none⟩ (.int .i64 R.D)) (w.heap.size + 1 + 1) 44 #[.int .i64 (ratioOf (farTo a b L (k + 1)).2.1 (farTo a b L (k + 1)).2.2).N, .int .i64 (ratioOf (farTo a b L (k + 1)).2.1 (farTo a b L (k + 1)).2.2).D] ∧ KeepsBut (w.heap.size + 1 + 1) (w.heap.size + 1 + 1) W1 ((X.setCell ⟨w.heap.size + 1 + 1, 0, none⟩ (.int .i64 R.N)).setCell ⟨w.heap.size + 1 + 1, 1, none⟩ (.int .i64 R.D)) ∧ Ext w ((X.setCell ⟨w.heap.size + 1 + 1, 0, none⟩ (.int .i64 R.N)).setCell ⟨w.heap.size + 1 + 1, 1, none⟩ (.int .i64 R.D)) := by
        intro he X hX
        refine ⟨((dR.ext hX).far (p := ⟨w.heap.size + 1 + 1, 0, none⟩) (by simp) _).far (p := ⟨w.heap.size + 1 + 1, 1, none⟩) (by simp) _, ?_, ((hkp.trans (KeepsBut.of_ext hX)).trans (KeepsBut.setx X 0 _)).trans (KeepsBut.setx _ 1 _), ((hy.trans hX).setCell (p := ⟨w.heap.size + 1 + 1, 0, none⟩) (by simp <;> omega) _).setCell (p := ⟨w.heap.size + 1 + 1, 1, none⟩) (by simp <;> omega) _⟩
        rw [he]
        dsimp only
        rw [HRR.out]
        exact ((dT.ext hX).set_ 0 (.int .i64 R.N)).set_ 1 (.int .i64 R.D)
      have HY := Lib.hid yes
      clear yes
      by_cases hneg : p < 0
      · have hS1 := Lib.hid (HSt.out.1 (.inl hneg))
        go_wp2
        go_roundw
        case rel =>
          obtain ⟨y1, y2, y3, y4⟩ := HY.out hS1.out _ (Ext.refl _)
          exact ⟨k + 1, HLT.out, by go_num, by rw [hS1.out], y1, y2, y3, y4⟩
        case measure => have := HLT.out; simp [intOf]; omega
      · have HNg := Lib.hid hneg
        obtain ⟨q, hq⟩ : ∃ q, ratioCmp R T = q := ⟨_, rfl⟩
        have HS2 := Lib.hid HSt.out
        rw [hq] at HS2
        change Hid (∀ w, Calls Try.prog 56 #[.agg #[.int .i64 R.N, .int .i64 R.D], .agg #[.int .i64 T.N, .int .i64 T.D]] w fun e w' => e = .returned (.int .i64 (ratioCmp R T)) ∧ Ext w w') at HC
        rw [hq] at HC
        clear hq
        by_cases hgt : 0 < q
        · have hS1 := Lib.hid (HS2.out.1 (.inr hgt))
          go_wp2_with fail
          refine (HC.out _).mono ?_
          rintro e w5 ⟨rfl, hx5⟩
          have cN5 := fun o => (bN.ext hx5).cell o
          have fT5 := fun o => (dT.ext hx5).frozen o
          have cT5 := fun o => (dT.ext hx5).cell o
          go_wp2
          go_roundw
          case rel =>
            obtain ⟨y1, y2, y3, y4⟩ := HY.out hS1.out w5 hx5
            exact ⟨k + 1, HLT.out, by go_num, by rw [hS1.out], y1, y2, y3, y4⟩
          case measure => have := HLT.out; simp [intOf]; omega
        · have hS1 := Lib.hid (HS2.out.2 (by have := HNg.out; omega) (by omega))
          go_wp2_with fail
          refine (HC.out _).mono ?_
          rintro e w5 ⟨rfl, hx5⟩
          go_wp2
          go_roundw
          case rel =>
            refine ⟨k + 1, HLT.out, by go_num, by rw [hS1.out, HP.out], dR.ext hx5, ?_, hkp.trans (KeepsBut.of_ext hx5), hy.trans hx5⟩
            rw [hS1.out, HT.out]
            exact dT.ext hx5
          case measure => have := HLT.out; simp [intOf]; omega
    · obtain rfl : k = L.length := by omega
      have cT := fun o => dT.cell o
      have cR := fun o => dR.cell o
      have fR := fun o => dR.frozen o
      go_wp2
      go_region
      have bF := (dR.set_ 0 (.int .i64 (ratioOf (farTo a b L L.length).2.1 (farTo a b L L.length).2.2).N)).set_ 1 (.int .i64 (ratioOf (farTo a b L L.length).2.1 (farTo a b L L.length).2.2).D)
      have cF := fun o => bF.cell o
      have hz : Ext w ((wr.setCell ⟨w.heap.size + 1, 0, none⟩ (.int .i64 (ratioOf (farTo a b L L.length).2.1 (farTo a b L L.length).2.2).N)).setCell ⟨w.heap.size + 1, 1, none⟩ (.int .i64 (ratioOf (farTo a b L L.length).2.1 (farTo a b L L.length).2.2).D)).drew := ((hy.setCell (p := ⟨w.heap.size + 1, 0, none⟩) (by simp) _).setCell (p := ⟨w.heap.size + 1, 1, none⟩) (by simp) _).drew
      clear cT cR fR
      go_wp2
      refine bodyPost_ret (v := .tuple #[.int .i64 (farTo a b L L.length).1, .agg #[.int .i64 (ratioOf (farTo a b L L.length).2.1 (farTo a b L L.length).2.2).N, .int .i64 (ratioOf (farTo a b L L.length).2.1 (farTo a b L L.length).2.2).D]]) (by simp [results, Try.results32, go_sem, cF]) rfl ?_
      exact ⟨by rw [HF.out.1, HF.out.2], hz⟩
end Go.Proofs.Ytnkkfjlnjhmahaa
