/- Contracts of draws of the reference: half planes, regions, rooms. (written by tools/mkDt.py) -/
import Derived.Test.YtlfepobnmmkcmaaGreatDoorDz
namespace Go.Proofs.YtlfepobnmmkcmaaGreatDoor
open Go.ChangeShapes Go.WideShapes Go.ChangeAt Go.RowKit
set_option linter.unusedVariables false
set_option maxRecDepth 100000

set_option maxHeartbeats 4000000 in
theorem l04Draw_any (w0 : World) (g : Nat) (A : Option Addr) (n c : Nat) (bs : List Int) (w : World) (hn : bs.length = n) (hr : Row w0 A (u8s bs)) (hle : n ≤ 1048576) (hc : Cur w0 w g A n c) :
    Calls Tryz.prog 88 #[.pointer (some ⟨g, 0, none⟩)] w fun e w' => (∃ h : Half, e = .returned (.agg #[.int .i64 h.A, .int .i64 h.B, .int .i64 h.C]) ∧ halfOk h = true) ∧ Cur w0 w' g A n c := by
  have HB := Lib.hid (fun (m : Int) (hm : I64 m) w hc => l01Below_any w0 g A n c bs m w hn hr hle hc hm)
  have hgl := hc.lt
  have hws := hc.ext.size
  have b0 := Blk.new w 78 #[.int .i64 0, .int .i64 0, .int .i64 0]
  have hc0 := hc.fwd ((Ext.refl w).alloc (.cells #[.int .i64 0, .int .i64 0, .int .i64 0] 78))
  have hne : w.heap.size ≠ g := by omega
  clear hn hr hc
  go_enter Tryz.func88, Tryz.ntmps88
  go_wp2_with fail
  refine (HB.out 13 (by unfold I64; omega) _ hc0).mono ?_
  rintro e w1 ⟨⟨a, rfl, ha0, ha1, _⟩, hc1, ho1⟩
  replace ha1 := ha1 (by omega)
  replace b0 := b0.only ho1 hne
  have v1 : IntKind.i64.wrap (a - 6) = a - 6 := IntWalk.i64_in _ (by omega)
  go_wp2_with fail
  refine (HB.out 13 (by unfold I64; omega) _ hc1).mono ?_
  rintro e w2 ⟨⟨b, rfl, hb0, hb1, _⟩, hc2, ho2⟩
  replace hb1 := hb1 (by omega)
  replace b0 := b0.only ho2 hne
  have v2 : IntKind.i64.wrap (b - 6) = b - 6 := IntWalk.i64_in _ (by omega)
  go_wp2_with fail
  refine (HB.out 400 (by unfold I64; omega) _ hc2).mono ?_
  rintro e w3 ⟨⟨d, rfl, hd0, hd1, _⟩, hc3, ho3⟩
  replace hd1 := hd1 (by omega)
  replace b0 := b0.only ho3 hne
  have v3 : IntKind.i64.wrap (d - 100) = d - 100 := IntWalk.i64_in _ (by omega)
  have HHf := Lib.hid (fun w => specHalfOf_any (a - 6) (b - 6) (d - 100) w (by unfold I64; omega) (by unfold I64; omega) (by unfold I64; omega))
  have HOk := Lib.hid (@halfOfZ_ok (a - 6) (b - 6) (d - 100))
  generalize halfOfZ (a - 6) (b - 6) (d - 100) = F at *
  obtain ⟨F1, ok⟩ := F
  dsimp only at HHf HOk
  go_wp2_with fail
  refine (HHf.out _).mono ?_
  rintro e w4 ⟨rfl, hx4⟩
  have hc4 := (hc3.fwd hx4).fwd ((Ext.refl w4).alloc (.cells #[.int .i64 F1.A, .int .i64 F1.B, .int .i64 F1.C] 78))
  have b4 := (b0.ext hx4).alloc (.cells #[.int .i64 F1.A, .int .i64 F1.B, .int .i64 F1.C] 78)
  have bF := Blk.new w4 78 #[.int .i64 F1.A, .int .i64 F1.B, .int .i64 F1.C]
  have cF := fun o => bF.cell o
  have c4 := fun o => b4.cell o
  have f4 := fun o => b4.frozen o
  have hne' : g ≠ w.heap.size := Ne.symm hne
  cases ok
  · go_wp2
    refine bodyPost_ret (v := .agg #[.int .i64 1, .int .i64 0, .int .i64 5]) (by simp [results, Tryz.results88, go_sem, c4]) rfl ⟨⟨⟨1, 0, 5⟩, rfl, by decide⟩, ?_⟩
    exact ((hc4.set (p := ⟨w.heap.size, 0, none⟩) hws hne' _).set (p := ⟨w.heap.size, 1, none⟩) hws hne' _).set (p := ⟨w.heap.size, 2, none⟩) hws hne' _
  · have hk := Lib.hid (HOk.out rfl)
    go_wp2
    refine bodyPost_ret (v := .agg #[.int .i64 F1.A, .int .i64 F1.B, .int .i64 F1.C]) (by simp [results, Tryz.results88, go_sem, c4]) rfl ⟨⟨F1, rfl, hk.out⟩, ?_⟩
    exact ((hc4.set (p := ⟨w.heap.size, 0, none⟩) hws hne' _).set (p := ⟨w.heap.size, 1, none⟩) hws hne' _).set (p := ⟨w.heap.size, 2, none⟩) hws hne' _
set_option maxHeartbeats 1000000 in
theorem makeHalf_any (A : Option Addr) (n c : Nat) (bs : List Int) (m : Int) (w : World) (hn : bs.length = n) (hr : Row w A (u8s bs)) (hle : n ≤ 1048576) (hm : I64 m) :
    Calls Tryz.prog 32 #[.slice A n c, .int .i64 m] w fun e w' => (∃ h : Half, e = .returned (.agg #[.int .i64 h.A, .int .i64 h.B, .int .i64 h.C]) ∧ halfOk h = true) ∧ Ext w w' := by
  have hx : Ext w (w.alloc (.cells #[.int .i64 0, .int .i64 0, .int .i64 0] 78)) := (Ext.refl w).alloc _
  have b0 := Blk.new w 78 #[.int .i64 0, .int .i64 0, .int .i64 0]
  have hr0 := hr.ext hx
  have HNew := Lib.hid (l26New_any A n c bs m _ hn hr0 hle hm)
  have HDr := Lib.hid (fun w g hc => l04Draw_any _ g A n c bs w hn hr0 hle hc)
  clear hn hr hr0
  go_enter Tryz.func32, Tryz.ntmps32
  go_wp2_with fail
  refine (HNew.out).mono ?_
  rintro e w1 ⟨g, rfl, hc1⟩
  go_wp2_with fail
  refine (HDr.out _ g hc1).mono ?_
  rintro e w2 ⟨⟨h, rfl, hk⟩, hc2⟩
  have hy := hx.trans hc2.ext
  have b2 := b0.ext hc2.ext
  have c2 := fun o => b2.cell o
  have f2 := fun o => b2.frozen o
  go_wp2
  refine bodyPost_ret (v := .agg #[.int .i64 h.A, .int .i64 h.B, .int .i64 h.C]) (by simp [results, Tryz.results32, go_sem, c2]) rfl ⟨⟨h, rfl, hk⟩, ?_⟩
  exact ((hy.setCell (Nat.le_refl _) _).setCell (Nat.le_refl _) _).setCell (Nat.le_refl _) _
set_option maxHeartbeats 4000000 in
theorem makeRoom_any (A : Option Addr) (n c : Nat) (bs : List Int) (w : World) (hn : bs.length = n) (hr : Row w A (u8s bs)) (hle : n ≤ 1048576) :
    Calls Tryz.prog 35 #[.slice A n c] w fun e w' => ∃ (r : Room) (A0 A6 A7 : Option Addr) (c0 c6 c7 : Nat), e = .returned (.agg #[.slice A0 r.Map.length c0, .int .i64 r.Div, .int .i64 r.Bx, .int .i64 r.By, .int .i64 r.Low, .int .i64 r.High, .slice A6 r.Noise.length c6, .slice A7 r.Limits.length c7]) ∧ roomOk r = true ∧ RoomHere w' r A0 A6 A7 c0 c6 c7 ∧ Ext w w' := by
  have hx : Ext w (w.alloc (.cells #[.slice none 0 0, .int .i64 0, .int .i64 0, .int .i64 0, .int .i64 0, .int .i64 0, .slice none 0 0, .slice none 0 0] 28)) := (Ext.refl w).alloc _
  have b0 := Blk.new w 28 #[.slice none 0 0, .int .i64 0, .int .i64 0, .int .i64 0, .int .i64 0, .int .i64 0, .slice none 0 0, .slice none 0 0]
  have hr0 := hr.ext hx
  have HNew := Lib.hid (l01New_any A n c bs _ hn hr0 hle)
  have HDr := Lib.hid (fun w g hc => l08Draw_any _ g A n c bs w hn hr0 hle hc)
  clear hn hr hr0
  go_enter Tryz.func35, Tryz.ntmps35
  go_wp2_with fail
  refine (HNew.out).mono ?_
  rintro e w1 ⟨g, rfl, hc1⟩
  go_wp2_with fail
  refine (HDr.out _ g hc1).mono ?_
  rintro e w2 ⟨r, A0, A6, A7, c0, c6, c7, rfl, hok, hc2, hRH⟩
  have hy := hx.trans hc2.ext
  have b2 := b0.ext hc2.ext
  have c2 := fun o => b2.cell o
  have f2 := fun o => b2.frozen o
  simp only [World.size_alloc] at hRH
  have HRH := Lib.hid hRH
  clear hRH
  go_wp2
  refine bodyPost_ret (v := .agg #[.slice A0 r.Map.length c0, .int .i64 r.Div, .int .i64 r.Bx, .int .i64 r.By, .int .i64 r.Low, .int .i64 r.High, .slice A6 r.Noise.length c6, .slice A7 r.Limits.length c7]) (by simp [results, Tryz.results35, go_sem, c2]) rfl ⟨r, A0, A6, A7, c0, c6, c7, rfl, hok, HRH.out _ ?_, ?_⟩
  · have hK : Keeps (w.heap.size + 1) g w2 w2 := fun _ _ _ _ => rfl
    exact (((((((hK.set (p := ⟨w.heap.size, 0, none⟩) (Nat.lt_succ_self _) _).set (p := ⟨w.heap.size, 1, none⟩) (Nat.lt_succ_self _) _).set (p := ⟨w.heap.size, 2, none⟩) (Nat.lt_succ_self _) _).set (p := ⟨w.heap.size, 3, none⟩) (Nat.lt_succ_self _) _).set (p := ⟨w.heap.size, 4, none⟩) (Nat.lt_succ_self _) _).set (p := ⟨w.heap.size, 5, none⟩) (Nat.lt_succ_self _) _).set (p := ⟨w.heap.size, 6, none⟩) (Nat.lt_succ_self _) _).set (p := ⟨w.heap.size, 7, none⟩) (Nat.lt_succ_self _) _
  · exact (((((((hy.setCell (Nat.le_refl _) _).setCell (Nat.le_refl _) _).setCell (Nat.le_refl _) _).setCell (Nat.le_refl _) _).setCell (Nat.le_refl _) _).setCell (Nat.le_refl _) _).setCell (Nat.le_refl _) _).setCell (Nat.le_refl _) _
theorem Cur.only_row {w0 w w' : World} {g : Nat} {A : Option Addr} {n c : Nat} {row : Option Nat} (h : Cur w0 w g A n c) (k : Only row w w') (hr : ∀ q, row = some q → g < q) : Cur w0 w' g A n c := by
  obtain ⟨i, j, hi, hn, hb⟩ := h.blk
  have hle := h.le
  have hlt := h.lt
  have hsz := h.ext.size
  refine ⟨h.ext.grown k (fun q hq => by have := hr q hq; omega), h.le, i, j, hi, hn, (k.block g hlt (fun e => by have := hr g e.symm; omega)).trans hb⟩
theorem area_p {x a : Int} (hx : -40 ≤ x ∧ x ≤ 19) (ha : -3 ≤ a ∧ a ≤ 3) : ∃ p, a * x = p ∧ -120 ≤ p ∧ p ≤ 120 := by
  refine ⟨_, rfl, ?_⟩
  rcases (by omega : a = -3 ∨ a = -2 ∨ a = -1 ∨ a = 0 ∨ a = 1 ∨ a = 2 ∨ a = 3) with rfl | rfl | rfl | rfl | rfl | rfl | rfl <;> omega
theorem area_q {y b : Int} (hy : -40 ≤ y ∧ y ≤ 19) (hb : 1 ≤ b ∧ b ≤ 3) : ∃ p, b * y = p ∧ -120 ≤ p ∧ p ≤ 120 := by
  refine ⟨_, rfl, ?_⟩
  rcases (by omega : b = 1 ∨ b = 2 ∨ b = 3) with rfl | rfl | rfl <;> omega
theorem area_t {f Z : Int} (hf : 3 ≤ f ∧ f ≤ 6) (hZ : 40 ≤ Z ∧ Z ≤ 158) : ∃ t u, f * Z = t ∧ t.tdiv 6 = u ∧ (0 ≤ t ∧ t ≤ 1000) ∧ 0 ≤ u ∧ u ≤ 200 := by
  have t1 : 0 ≤ f * Z ∧ f * Z ≤ 1000 := by
    rcases (by omega : f = 3 ∨ f = 4 ∨ f = 5 ∨ f = 6) with rfl | rfl | rfl | rfl <;> omega
  refine ⟨_, _, rfl, rfl, t1, ?_⟩
  rw [Int.tdiv_eq_ediv_of_nonneg t1.1]
  omega
theorem own_none {w : World} {base : Nat} {e : TypeId} {s n c : Nat} {xs : List Value} (h : w.ownsRow base e s (.slice none n c) n xs) : n = 0 ∧ c = 0 := by
  rcases h.2 with ⟨h1, h2⟩ | ⟨g, cap, cur, h1, _⟩
  · injection h1 with _ _ h3
    exact ⟨h2, h3⟩
  · injection h1 with h1
    cases h1

theorem area_box {x y W H : Int} (hx : -40 ≤ x ∧ x ≤ 19) (hy : -40 ≤ y ∧ y ≤ 19) (hW : 20 ≤ W ∧ W ≤ 79) (hH : 20 ≤ H ∧ H ≤ 79) : [(⟨1, 0, x + W⟩ : Half), ⟨0, 1, y + H⟩, ⟨-1, 0, -x⟩, ⟨0, -1, -y⟩].all halfOk = true := by
  simp only [List.all_cons, List.all_nil, Bool.and_true, Bool.and_eq_true]
  exact ⟨half_one (by omega) (by omega) (by decide) (by omega), half_one (by omega) (by omega) (by decide) (by omega), half_one (by omega) (by omega) (by decide) (by omega), half_one (by omega) (by omega) (by decide) (by omega)⟩
/-- what a draw of a region gives -/
def AreaMade (w0 : World) (e : Ending) (w' : World) : Prop := ∃ (hs : List Half) (A : Option Addr) (c : Nat), e = .returned (.agg #[.slice A hs.length c]) ∧ regOk hs = true ∧ w'.ownsRow w0.heap.size 78 3 (.slice A hs.length c) hs.length (ints (flat Half.ints hs))
set_option maxHeartbeats 16000000 in
theorem l05Draw_any (w0 : World) (g : Nat) (A : Option Addr) (n c : Nat) (bs : List Int) (w : World) (hn : bs.length = n) (hr : Row w0 A (u8s bs)) (hle : n ≤ 1048576) (hc : Cur w0 w g A n c) :
    Calls Tryz.prog 89 #[.pointer (some ⟨g, 0, none⟩)] w fun e w' => AreaMade w0 e w' ∧ Cur w0 w' g A n c := by
  obtain ⟨i0, hi0, hz0, hz1, hz2⟩ := info_parts half_info
  have HB := Lib.hid (fun (m : Int) (hm : I64 m) w hc => l01Below_any w0 g A n c bs m w hn hr hle hc hm)
  have hgl := hc.lt
  have hws := hc.ext.size
  have b0 := Blk.new w 26 #[.slice none 0 0]
  have hc0 := hc.fwd ((Ext.refl w).alloc (.cells #[.slice none 0 0] 26))
  have hne : w.heap.size ≠ g := by omega
  have hne' : g ≠ w.heap.size := Ne.symm hne
  clear hn hr hc
  go_enter Tryz.func89, Tryz.ntmps89
  go_wp2_with fail
  refine (HB.out 60 (by unfold I64; omega) _ hc0).mono ?_
  rintro e w1 ⟨⟨x_, rfl, hx0, hx1, _⟩, hc1, ho1⟩
  replace hx1 := hx1 (by omega)
  replace b0 := b0.only ho1 hne
  obtain ⟨x, hx⟩ : ∃ x, x_ - 40 = x := ⟨_, rfl⟩
  have v1 : IntKind.i64.wrap (x_ - 40) = x := by rw [hx]; exact IntWalk.i64_in _ (by omega)
  go_wp2_with fail
  refine (HB.out 60 (by unfold I64; omega) _ hc1).mono ?_
  rintro e w2 ⟨⟨y_, rfl, hy0, hy1, _⟩, hc2, ho2⟩
  replace hy1 := hy1 (by omega)
  replace b0 := b0.only ho2 hne
  obtain ⟨y, hy⟩ : ∃ x, y_ - 40 = x := ⟨_, rfl⟩
  have v2 : IntKind.i64.wrap (y_ - 40) = y := by rw [hy]; exact IntWalk.i64_in _ (by omega)
  go_wp2_with fail
  refine (HB.out 60 (by unfold I64; omega) _ hc2).mono ?_
  rintro e w3 ⟨⟨W_, rfl, hW0, hW1, _⟩, hc3, ho3⟩
  replace hW1 := hW1 (by omega)
  replace b0 := b0.only ho3 hne
  obtain ⟨W, hW⟩ : ∃ x, 20 + W_ = x := ⟨_, rfl⟩
  have v3 : IntKind.i64.wrap (20 + W_) = W := by rw [hW]; exact IntWalk.i64_in _ (by omega)
  go_wp2_with fail
  refine (HB.out 60 (by unfold I64; omega) _ hc3).mono ?_
  rintro e w4 ⟨⟨H_, rfl, hH0, hH1, _⟩, hc4, ho4⟩
  replace hH1 := hH1 (by omega)
  replace b0 := b0.only ho4 hne
  obtain ⟨H, hH⟩ : ∃ x, 20 + H_ = x := ⟨_, rfl⟩
  have v4 : IntKind.i64.wrap (20 + H_) = H := by rw [hH]; exact IntWalk.i64_in _ (by omega)
  have bx : -40 ≤ x ∧ x ≤ 19 := by omega
  have by_ : -40 ≤ y ∧ y ≤ 19 := by omega
  have bW : 20 ≤ W ∧ W ≤ 79 := by omega
  have bH : 20 ≤ H ∧ H ≤ 79 := by omega
  have v5 : IntKind.i64.wrap (x + W) = x + W := IntWalk.i64_in _ (by omega)
  have v6 : IntKind.i64.wrap (y + H) = y + H := IntWalk.i64_in _ (by omega)
  have v7 : IntKind.i64.wrap (-x) = -x := IntWalk.i64_in _ (by omega)
  have v8 : IntKind.i64.wrap (-y) = -y := IntWalk.i64_in _ (by omega)
  have v9 : IntKind.i64.wrap (W + H) = W + H := IntWalk.i64_in _ (by omega)
  have hE4 := (Ext.refl w4).alloc (.cells #[.int .i64 1, .int .i64 0, .int .i64 (x + W), .int .i64 0, .int .i64 1, .int .i64 (y + H), .int .i64 (-1), .int .i64 0, .int .i64 (-x), .int .i64 0, .int .i64 (-1), .int .i64 (-y)] 78)
  have hown := World.ownsRow_lit (base := w4.heap.size) (e := 78) (size := 3) w4 #[.int .i64 1, .int .i64 0, .int .i64 (x + W), .int .i64 0, .int .i64 1, .int .i64 (y + H), .int .i64 (-1), .int .i64 0, .int .i64 (-x), .int .i64 0, .int .i64 (-1), .int .i64 (-y)] 4 (Nat.le_refl _) (by unfold maxLen; omega) (by rfl)
  have hall := area_box bx by_ bW bH
  replace hown : _ := own_eq hown (show _ = ints (flat Half.ints [(⟨1, 0, x + W⟩ : Half), ⟨0, 1, y + H⟩, ⟨-1, 0, -x⟩, ⟨0, -1, -y⟩]) from rfl)
  have hc5 := hc4.fwd hE4
  have hg4 := hc4.lt
  have hl4 := b0.lt
  have hs4 := hc4.ext.size
  replace b0 := b0.ext hE4
  obtain ⟨l0, hl0⟩ : ∃ l, [(⟨1, 0, x + W⟩ : Half), ⟨0, 1, y + H⟩, ⟨-1, 0, -x⟩, ⟨0, -1, -y⟩] = l := ⟨_, rfl⟩
  have hl0n : l0.length = 4 := by rw [← hl0]; rfl
  rw [hl0] at hall hown
  clear hl0 hc0 hc1 hc2 hc3 hc4 ho1 ho2 ho3 ho4 hE4 hx hy hW hH
  obtain ⟨L, hL⟩ : ∃ L, w4.heap.size = L := ⟨_, rfl⟩
  have hgL : g < L := by omega
  have hwL : w.heap.size < L := by omega
  have hsL : w0.heap.size ≤ L := by omega
  have hLW : L ≤ (w4.alloc (.cells #[.int .i64 1, .int .i64 0, .int .i64 (x + W), .int .i64 0, .int .i64 1, .int .i64 (y + H), .int .i64 (-1), .int .i64 0, .int .i64 (-x), .int .i64 0, .int .i64 (-1), .int .i64 (-y)] 78)).heap.size := by rw [World.size_alloc]; omega
  go_wp2_with fail
  generalize (w4.alloc (.cells #[.int .i64 1, .int .i64 0, .int .i64 (x + W), .int .i64 0, .int .i64 1, .int .i64 (y + H), .int .i64 (-1), .int .i64 0, .int .i64 (-x), .int .i64 0, .int .i64 (-1), .int .i64 (-y)] 78)) = W5 at *
  rw [hL] at hown
  clear hL
  go_wp2_with fail
  refine (HB.out 3 (by unfold I64; omega) _ hc5).mono ?_
  rintro e w6 ⟨⟨n_, rfl, hn0, hn1, _⟩, hc6, ho6⟩
  replace hn1 := hn1 (by omega)
  obtain ⟨kk, rfl⟩ : ∃ k : Nat, n_ = (k : Int) := ⟨n_.toNat, by omega⟩
  replace b0 := b0.only ho6 hne
  replace hown := own_only' hown ho6 hgL
  have hLs6 := Nat.le_trans hLW ho6.size
  obtain ⟨Z, hZ⟩ : ∃ z, W + H = z := ⟨_, rfl⟩
  rw [hZ] at v9
  have v9' : IntKind.i64.wrap (W + H) = Z := by rw [hZ]; exact v9
  clear ho6 hc5 v5 v6 v7 v8 v9
  go_wp2_with fail
  go_loopw [7, 8] (fun l i wr => ∃ (k : Nat) (A' : Option Addr) (c' : Nat) (hs : List Half), l = .slice A' hs.length c' ∧ i = .int .i64 (k : Int) ∧ hs.length + k ≤ 6 ∧ hs.all halfOk = true ∧ wr.ownsRow L 78 3 (.slice A' hs.length c') hs.length (ints (flat Half.ints hs)) ∧ Cur w0 wr g A n c ∧ Blk wr w.heap.size 26 #[.slice none 0 0] ∧ L ≤ wr.heap.size) (fun _ i _ => (intOf i).toNat)
  case atStart => exact ⟨kk, _, 4, l0, by rw [hl0n], rfl, by omega, hall, by rw [hl0n]; exact hown, hc6, b0, hLs6⟩
  case round =>
    obtain ⟨k, A', c', hs, rfl, rfl, hk, hok, hown, hcr, b0, hLs⟩ := hrel
    have Hok := Lib.hid hok
    clear hok hall hc6
    by_cases hk0 : k = 0
    · subst hk0
      have HMk := Lib.hid (l05Make_any A' hs.length c' hs wr rfl (Row.of_own hown) (by rintro rfl; exact own_none hown) (by omega) Hok.out)
      have HPk : Hid (regOk (madeOf hs) = true) := made_regOk Hok.out (by have := made_len hs; omega)
      generalize madeOf hs = P at *
      have hws2 := hcr.ext.size
      have hrs : w0.heap.size ≤ wr.heap.size := hws2
      clear hown
      go_wp2_with fail
      refine HMk.out.mono ?_
      rintro e w7 ⟨A7, c7, n7, rfl, hn7, hx7, hown7⟩
      subst hn7
      have hc7 := hcr.fwd hx7
      have hb7 := b0.lt
      have b7 := b0.ext hx7
      have d7 := fun o => b7.cell o
      have f7 := fun o => b7.frozen o
      go_wp2
      refine bodyPost_ret (v := .agg #[.slice A7 P.length c7]) (by simp [results, Tryz.results89, go_sem, d7]) rfl ⟨⟨P, A7, c7, rfl, HPk.out, own_base (own_far hown7 hb7 _) hrs⟩, hc7.set (p := ⟨w.heap.size, 0, none⟩) hws hne' _⟩
    · have hk1 : (0 : Int) < (k : Int) := by omega
      have vk : IntKind.i64.wrap ((k : Int) - 1) = (k : Int) - 1 := IntWalk.i64_in _ (by omega)
      go_wp2_with fail
      refine (HB.out 7 (by unfold I64; omega) _ hcr).mono ?_
      rintro e w7 ⟨⟨a_, rfl, ha0, ha1, _⟩, hc7, ho7⟩
      replace ha1 := ha1 (by omega)
      replace b0 := b0.only ho7 hne
      replace hown := own_only' hown ho7 hgL
      replace hLs := Nat.le_trans hLs ho7.size
      obtain ⟨a, ha⟩ : ∃ z, a_ - 3 = z := ⟨_, rfl⟩
      have u1 : IntKind.i64.wrap (a_ - 3) = a := by rw [ha]; exact IntWalk.i64_in _ (by omega)
      have ba : -3 ≤ a ∧ a ≤ 3 := by omega
      clear ha
      go_wp2_with fail
      refine (HB.out 3 (by unfold I64; omega) _ hc7).mono ?_
      rintro e w8 ⟨⟨b_, rfl, hb0, hb1, _⟩, hc8, ho8⟩
      replace hb1 := hb1 (by omega)
      replace b0 := b0.only ho8 hne
      replace hown := own_only' hown ho8 hgL
      replace hLs := Nat.le_trans hLs ho8.size
      obtain ⟨b, hb⟩ : ∃ z, 1 + b_ = z := ⟨_, rfl⟩
      have u2 : IntKind.i64.wrap (1 + b_) = b := by rw [hb]; exact IntWalk.i64_in _ (by omega)
      have bb : 1 ≤ b ∧ b ≤ 3 := by omega
      obtain ⟨p, hp, bp⟩ := area_p bx ba
      obtain ⟨q, hq, bq⟩ := area_q by_ bb
      have u3 : IntKind.i64.wrap (a * x) = p := by rw [hp]; exact IntWalk.i64_in _ (by omega)
      have u4 : IntKind.i64.wrap (b * y) = q := by rw [hq]; exact IntWalk.i64_in _ (by omega)
      have u5 : IntKind.i64.wrap (p + q) = p + q := IntWalk.i64_in _ (by omega)
      clear hb hp hq
      go_wp2_with fail
      refine (HB.out 4 (by unfold I64; omega) _ hc8).mono ?_
      rintro e w9 ⟨⟨e_, rfl, he0, he1, _⟩, hc9, ho9⟩
      replace he1 := he1 (by omega)
      replace b0 := b0.only ho9 hne
      replace hown := own_only' hown ho9 hgL
      replace hLs := Nat.le_trans hLs ho9.size
      obtain ⟨f, hf⟩ : ∃ z, 3 + e_ = z := ⟨_, rfl⟩
      have u6 : IntKind.i64.wrap (3 + e_) = f := by rw [hf]; exact IntWalk.i64_in _ (by omega)
      obtain ⟨t, u, ht, hu, bt, bu⟩ := area_t (Z := Z) (f := f) (by omega) (by omega)
      have u7 : IntKind.i64.wrap (f * Z) = t := by rw [ht]; exact IntWalk.i64_in _ (by omega)
      have u8 : IntKind.i64.wrap (t.tdiv 6) = u := by rw [hu]; exact IntWalk.i64_in _ (by omega)
      have u9 : IntKind.i64.wrap (p + q + u) = p + q + u := IntWalk.i64_in _ (by omega)
      have HHf := Lib.hid (fun w => specHalfOf_any a b (p + q + u) w (by unfold I64; omega) (by unfold I64; omega) (by unfold I64; omega))
      have HOk := Lib.hid (@halfOfZ_ok a b (p + q + u))
      generalize halfOfZ a b (p + q + u) = F at *
      obtain ⟨F1, ok⟩ := F
      dsimp only at HHf HOk
      clear hf ht hu ho7 ho8 ho9 hc7 hc8 hcr
      go_wp2_with fail
      refine (HHf.out _).mono ?_
      rintro e wA ⟨rfl, hxA⟩
      replace hLs := Nat.le_trans hLs hxA.size
      have hA5 := (Ext.refl wA).alloc (.cells #[.int .i64 F1.A, .int .i64 F1.B, .int .i64 F1.C] 78)
      have hcB := (hc9.fwd hxA).fwd hA5
      replace b0 := (b0.ext hxA).ext hA5
      replace hown := own_ext (own_ext hown hxA) hA5
      have bF := Blk.new wA 78 #[.int .i64 F1.A, .int .i64 F1.B, .int .i64 F1.C]
      have cF := fun o => bF.cell o
      cases ok
      · have HO := Lib.hid hown
        clear hown
        go_wp2
        go_roundw
        case rel => exact ⟨k - 1, A', c', hs, rfl, by go_num, by omega, Hok.out, HO.out, hcB, b0, by rw [World.size_alloc]; omega⟩
        case measure => simp [intOf]; omega
      · have hkF := HOk.out rfl
        have hnews := Blk.new (wA.alloc (.cells #[.int .i64 F1.A, .int .i64 F1.B, .int .i64 F1.C] 78)) 78 #[.int .i64 F1.A, .int .i64 F1.B, .int .i64 F1.C]
        simp only [World.size_alloc] at hnews
        have hsz9 := hcB.ext.size
        have hgl9 := hc9.lt
        have hgA := hxA.size
        have hlen : hs.length ≤ 6 := by omega
        have hbl := b0.lt
        go_wp2_with (at_builtin; go_must (refine wpList_append_own _ rfl _ _ 24 rfl L 78 i0 (.agg #[.int .i64 0, .int .i64 0, .int .i64 0]) 3 24 Tryz.underlying24 hi0 hz0 hz1 hz2 rfl (by decide) _ _ _ rfl (hown.alloc _) ⟨wA.heap.size + 1, 0, none⟩ 1 1 #[.int .i64 F1.A, .int .i64 F1.B, .int .i64 F1.C].toList rfl rfl (row_add (fun j v hj => by rw [hnews.cell, Nat.zero_add]; simpa using hj)) (by simp [Value.oneCell']) (by unfold maxLen; omega) (by omega) (by simp; omega) ?_); intro v' wB hown' hgrow _)
        have hcC := hcB.fwd ((Ext.refl _).alloc (.cells #[.int .i64 F1.A, .int .i64 F1.B, .int .i64 F1.C] 78))
        have bC := b0.alloc (.cells #[.int .i64 F1.A, .int .i64 F1.B, .int .i64 F1.C] 78)
        have hcD := hcC.only_row hgrow (fun q hq => by have := (hown.lt q hq).1; omega)
        have bD := (hgrow.block w.heap.size bC.lt (fun e => by have := (hown.lt _ e.symm).1; omega)).trans bC
        have hHk := Lib.hid (hkF)
        obtain ⟨A9, c9, rfl⟩ := own_form hown'
        go_roundw
        case rel => exact ⟨k - 1, _, _, hs ++ [F1], by rw [List.length_append]; rfl, by go_num, by rw [List.length_append]; simp only [List.length_cons, List.length_nil]; omega, by rw [List.all_append, Hok.out]; simp [hHk.out], by rw [halves_add, List.length_append]; exact hown', hcD, bD, Nat.le_trans (by simp only [World.size_alloc]; omega) hgrow.size⟩
        case measure => simp [intOf]; omega
set_option maxHeartbeats 1000000 in
theorem makeArea_any (A : Option Addr) (n c : Nat) (bs : List Int) (m : Int) (w : World) (hn : bs.length = n) (hr : Row w A (u8s bs)) (hle : n ≤ 1048576) (hm : I64 m) :
    Calls Tryz.prog 33 #[.slice A n c, .int .i64 m] w fun e w' => AreaMade w e w' ∧ Ext w w' := by
  have hx : Ext w (w.alloc (.cells #[.slice none 0 0] 26)) := (Ext.refl w).alloc _
  have b0 := Blk.new w 26 #[.slice none 0 0]
  have hr0 := hr.ext hx
  have HNew := Lib.hid (l26New_any A n c bs m _ hn hr0 hle hm)
  have HDr := Lib.hid (fun w g hc => l05Draw_any _ g A n c bs w hn hr0 hle hc)
  clear hn hr hr0
  go_enter Tryz.func33, Tryz.ntmps33
  go_wp2_with fail
  refine (HNew.out).mono ?_
  rintro e w1 ⟨g, rfl, hc1⟩
  go_wp2_with fail
  refine (HDr.out _ g hc1).mono ?_
  rintro e w2 ⟨⟨hs, A2, c2, rfl, hk, hown⟩, hc2⟩
  have hy := hx.trans hc2.ext
  have b2 := b0.ext hc2.ext
  have d2 := fun o => b2.cell o
  have f2 := fun o => b2.frozen o
  simp only [World.size_alloc] at hown
  go_wp2
  refine bodyPost_ret (v := .agg #[.slice A2 hs.length c2]) (by simp [results, Tryz.results33, go_sem, d2]) rfl ⟨⟨hs, A2, c2, rfl, hk, ?_⟩, ?_⟩
  · exact own_base (own_far hown (Nat.lt_succ_self _) _) (Nat.le_succ _)
  · exact hy.setCell (Nat.le_refl _) _
end Go.Proofs.YtlfepobnmmkcmaaGreatDoor
