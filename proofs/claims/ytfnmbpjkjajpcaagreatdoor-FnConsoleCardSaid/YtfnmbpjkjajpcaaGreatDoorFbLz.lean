/- Contracts of copies of regions: Clone, copyRegion of the program, l08Region of the reference. -/
import Derived.Test.YtfnmbpjkjajpcaaGreatDoorFbBz
import Derived.Test.YtfnmbpjkjajpcaaGreatDoorFbSz
import Derived.Test.YtfnmbpjkjajpcaaGreatDoorFbIf
import Derived.Deep.CutRange
import Derived.Test.YtfnmbpjkjajpcaaGreatDoorFbIv
import Derived.Test.YtfnmbpjkjajpcaaGreatDoorFbRz
import Derived.Deep.AppendLies
import Derived.Deep.RegionHeld3
namespace Go.Proofs.YtfnmbpjkjajpcaaGreatDoor
open Go.ChangeShapes Go.WideShapes Go.ChangeAt Go.RowKit
set_option linter.unusedVariables false
set_option maxRecDepth 100000
set_option maxHeartbeats 2000000 in
theorem clone_any (A : Option Addr) (n c : Nat) (hs : List Half) (w : World) (hn : hs.length = n) (hr : Row w A (ints (flat Half.ints hs))) (hA : A = none → n = 0 ∧ c = 0) (hle : n ≤ 1048576) :
    Calls Tryz.prog 180 #[.slice A n c] w (HalvesMade hs w) := by
  obtain ⟨i0, hi0, hz0, hz1, hz2⟩ := info_parts half_info
  rcases A with _ | ⟨b, off, z⟩
  · obtain ⟨rfl, rfl⟩ := hA rfl
    have hnil : hs = [] := List.length_eq_zero_iff.1 hn
    subst hnil
    have q : ∀ (w : World) (a : Option Addr) (n c n' c' : Nat), (binOp .eql 32 (.slice a n c) (.slice none n' c')).run Tryz.prog w = .ok (.bool a.isNone) w := fun w a n c n' c' => Lib.run_eql_slice_nil w _ _ a n c n' c' Tryz.underlying32
    clear hr hA hn
    go_enter Tryz.func180, Tryz.ntmps180
    go_wp2
    go_ret
    exact ⟨none, 0, 0, rfl, rfl, Ext.refl w, World.ownsRow_nil _ _ _ _⟩
  have q : ∀ (w : World) (a : Option Addr) (n c n' c' : Nat), (binOp .eql 32 (.slice a n c) (.slice none n' c')).run Tryz.prog w = .ok (.bool a.isNone) w := fun w a n c n' c' => Lib.run_eql_slice_nil w _ _ a n c n' c' Tryz.underlying32
  have hxa : Ext w (w.alloc (.cells #[] 116)) := (Ext.refl w).alloc _
  have hlit : (w.alloc (.cells #[] 116)).ownsRow w.heap.size 116 3 (.slice (some ⟨w.heap.size, 0, none⟩) 0 0) 0 [] := by
    simpa using World.ownsRow_lit (base := w.heap.size) (e := 116) (size := 3) w #[] 0 (Nat.le_refl _) (by unfold maxLen; omega) rfl
  have hca := hr.ext hxa
  have hfl : (ints (flat Half.ints hs)).length = n * 3 := by rw [ints_length, flat_length Half.ints_len, hn]
  have HN := Lib.hid hn
  clear hr hA hn
  go_enter Tryz.func180, Tryz.ntmps180
  go_wp2_with (at_builtin; go_must (refine wpList_append_src rfl _ _ 32 rfl w.heap.size 116 i0 (.agg #[.int .i64 0, .int .i64 0, .int .i64 0]) 3 24 Tryz.underlying32 hi0 hz0 hz1 hz2 rfl (by decide) _ _ _ rfl hlit (some ⟨b, off, z⟩) n c (ints (flat Half.ints hs)) rfl (by rintro ⟨⟩) hfl hca (oneCell_ints _) (by unfold maxLen; omega) (by omega) (by simp) ?_); intro v1 w1 hown1 hgrow1; obtain ⟨A1, c1, rfl⟩ := own_form hown1)
  have hx1 : Ext w w1 := hxa.grown hgrow1 (fun g e => (World.ownsRow.lt hlit _ e).1)
  simp only [Nat.zero_add, List.nil_append] at hown1
  go_wp2
  go_ret
  exact ⟨A1, c1, n, rfl, HN.out.symm, hx1, hown1⟩
set_option maxHeartbeats 2000000 in
theorem implCopyRegion_any (A : Option Addr) (n c : Nat) (hs : List Half) (w : World) (hn : hs.length = n) (hr : Row w A (ints (flat Half.ints hs))) (hA : A = none → n = 0 ∧ c = 0) (hle : n ≤ 1048576) :
    Calls Tryz.prog 136 #[.agg #[.slice A n c]] w (RegOne hs w) := by
  have hx : Ext w ((w.alloc (.cells #[.slice A n c] 34)).alloc (.cells #[.slice none 0 0] 34)) := ((Ext.refl w).alloc _).alloc _
  have bP := (Blk.new w 34 #[.slice A n c]).alloc (.cells #[.slice none 0 0] 34)
  have bR := Blk.new (w.alloc (.cells #[.slice A n c] 34)) 34 #[.slice none 0 0]
  simp only [World.size_alloc] at bR
  have HC := Lib.hid (fun w hr => clone_any A n c hs w hn hr hA hle)
  have HR := Lib.hid hr
  have cP := fun o => bP.cell o
  clear hn hr hA hle
  go_enter Tryz.func136, Tryz.ntmps136
  go_wp2_with fail
  refine (HC.out _ (HR.out.ext hx)).mono ?_
  rintro e w1 ⟨A1, c1, n1, rfl, hn1, hx1, hown1⟩
  subst hn1
  have b1 := bR.ext hx1
  have c0 := fun o => b1.cell o
  have f0 := fun o => b1.frozen o
  have hy1 := hx.trans hx1
  clear cP
  go_wp2
  have bF := b1.set_ 0 (.slice A1 hs.length c1)
  have cF := fun o => bF.cell o
  clear c0 f0
  refine bodyPost_ret (v := .agg #[.slice A1 hs.length c1]) (by simp [results, Tryz.results136, go_sem, cF]) rfl ?_
  exact ⟨A1, c1, _, rfl, rfl, hy1.setCell (by simp only; omega) _, own_base (own_far hown1 (by simp <;> omega) _) (by simp only [World.size_alloc]; omega)⟩
end Go.Proofs.YtfnmbpjkjajpcaaGreatDoor
namespace Go.Proofs.YtfnmbpjkjajpcaaGreatDoor
open Go.ChangeShapes Go.WideShapes Go.ChangeAt Go.RowKit
set_option linter.unusedVariables false
set_option maxRecDepth 100000
theorem tdiv_bd {x : Int} (g : Nat) (h : -100 ≤ x ∧ x ≤ 100) : -100 ≤ x.tdiv (g : Int) ∧ x.tdiv (g : Int) ≤ 100 := by
  have h1 := Int.natAbs_tdiv x (g : Int)
  have h2 : (x.tdiv (g : Int)).natAbs ≤ x.natAbs := by rw [h1]; exact Nat.div_le_self _ _
  omega
theorem gcd_small {bx by_ : Int} (hx : -100 ≤ bx ∧ bx ≤ 100) (hy : -100 ≤ by_ ∧ by_ ≤ 100) (hz : ¬ (bx = 0 ∧ by_ = 0)) : 1 ≤ Int.gcd bx by_ ∧ Int.gcd bx by_ ≤ 100 := by
  have hp : 0 < Int.gcd bx by_ := Nat.pos_of_ne_zero fun e => hz (Int.gcd_eq_zero_iff.1 e)
  refine ⟨hp, ?_⟩
  by_cases h0 : bx = 0
  · have hb : by_ ≠ 0 := fun e => hz ⟨h0, e⟩
    have : Int.gcd bx by_ ≤ by_.natAbs := by unfold Int.gcd; exact Nat.gcd_le_right _ (by omega)
    omega
  · have : Int.gcd bx by_ ≤ bx.natAbs := by unfold Int.gcd; exact Nat.gcd_le_left _ (by omega)
    omega
theorem dir_bd {bx by_ : Int} (hx : -100 ≤ bx ∧ bx ≤ 100) (hy : -100 ≤ by_ ∧ by_ ≤ 100) : (-100 ≤ dirA bx by_ ∧ dirA bx by_ ≤ 100) ∧ (-100 ≤ dirB bx by_ ∧ dirB bx by_ ≤ 100) :=
  ⟨tdiv_bd _ (by omega), tdiv_bd _ hx⟩
theorem grow_void (bx by_ low high : Int) : growR [] bx by_ low high = ([], true) := by
  unfold growR; rw [if_pos (.inl rfl)]
theorem grow_still (p : List Half) {bx by_ : Int} (low high : Int) (hz : bx = 0 ∧ by_ = 0) : growR p bx by_ low high = (p, true) := by
  unfold growR; rw [if_pos (.inr hz)]
theorem grow_no1 {p : List Half} {bx by_ low high : Int} (hp : p ≠ []) (hz : ¬ (bx = 0 ∧ by_ = 0)) (h : (sideH p (dirA bx by_) (dirB bx by_)).2 = false ∨ (sideH p (-dirA bx by_) (-dirB bx by_)).2 = false) : growR p bx by_ low high = ([], false) := by
  unfold growR
  rw [if_neg (fun e => e.elim hp hz), if_neg]
  rintro ⟨h1, h2, _⟩
  rcases h with h | h
  · rw [h] at h1; cases h1
  · rw [h] at h2; cases h2
theorem grow_no2 {p : List Half} {bx by_ low high : Int} (hz : ¬ (bx = 0 ∧ by_ = 0)) {k : Nat} (hk : k < p.length) (h : (growH bx by_ low high p[k]).2 = false) : growR p bx by_ low high = ([], false) := by
  unfold growR
  rw [if_neg (fun e => e.elim (fun e => by rw [e] at hk; simp at hk) hz), if_neg]
  rintro ⟨_, _, h3⟩
  have := List.all_eq_true.1 h3 _ (List.getElem_mem hk)
  rw [h] at this
  cases this
theorem grow_all {p : List Half} {bx by_ low high : Int} (h : ∀ k (hk : k < p.length), (growH bx by_ low high p[k]).2 = true) : p.all (fun h => (growH bx by_ low high h).2) = true := by
  refine List.all_eq_true.2 fun x hx => ?_
  obtain ⟨i, hi, rfl⟩ := List.getElem_of_mem hx
  exact h i hi
theorem grow_yes {p : List Half} {bx by_ low high : Int} (hp : p ≠ []) (hz : ¬ (bx = 0 ∧ by_ = 0)) (h1 : (sideH p (dirA bx by_) (dirB bx by_)).2 = true) (h2 : (sideH p (-dirA bx by_) (-dirB bx by_)).2 = true) (h : ∀ k (hk : k < p.length), (growH bx by_ low high p[k]).2 = true) :
    growR p bx by_ low high = fitR (madeOf ([(sideH p (dirA bx by_) (dirB bx by_)).1, (sideH p (-dirA bx by_) (-dirB bx by_)).1] ++ p.map fun h => (growH bx by_ low high h).1)) := by
  unfold growR
  rw [if_neg (fun e => e.elim hp hz), if_pos ⟨h1, h2, grow_all h⟩]
theorem grow_list {p : List Half} {bx by_ low high : Int} (h1 : (sideH p (dirA bx by_) (dirB bx by_)).2 = true) (h2 : (sideH p (-dirA bx by_) (-dirB bx by_)).2 = true) (h : ∀ k (hk : k < p.length), (growH bx by_ low high p[k]).2 = true) :
    ([(sideH p (dirA bx by_) (dirB bx by_)).1, (sideH p (-dirA bx by_) (-dirB bx by_)).1] ++ p.map fun h => (growH bx by_ low high h).1).all halfOk = true := by
  refine List.all_eq_true.2 fun x hx => ?_
  rcases List.mem_append.1 hx with h | h
  · simp only [List.mem_cons, List.not_mem_nil, or_false] at h
    rcases h with rfl | rfl
    · exact halfOfZ_ok h1
    · exact halfOfZ_ok h2
  · obtain ⟨y, hy, rfl⟩ := List.mem_map.1 h
    exact halfOfZ_ok (List.all_eq_true.1 (grow_all ‹_›) y hy)
def growN (bx by_ low high : Int) (h : Half) : Int := max (-low * (h.A * bx + h.B * by_)) (-high * (h.A * bx + h.B * by_))
theorem growH_eq (bx by_ low high : Int) (h : Half) : growH bx by_ low high h = halfOfZ h.A h.B (h.C + growN bx by_ low high h) := by
  unfold growH growN
  congr 1
  omega
end Go.Proofs.YtfnmbpjkjajpcaaGreatDoor
namespace Go.Proofs.YtfnmbpjkjajpcaaGreatDoor
open Go.ChangeShapes Go.WideShapes Go.ChangeAt Go.RowKit
set_option linter.unusedVariables false
set_option maxRecDepth 100000
theorem Blk.new1 (w : World) (o : Obj) (t : TypeId) (cs : Array Value) : Blk ((w.alloc o).alloc (.cells cs t)) (w.heap.size + 1) t cs := by
  have h := Blk.new (w.alloc o) t cs
  rwa [World.size_alloc] at h
theorem Blk.newS (w : World) (p q : Addr) (u v : Value) (t : TypeId) (cs : Array Value) : Blk (((w.setCell p u).setCell q v).alloc (.cells cs t)) w.heap.size t cs := by
  have h := Blk.new ((w.setCell p u).setCell q v) t cs
  simpa using h
def TwoRatios (x y : Ratio) (w : World) (p q : Value) (wx : World) : Prop := ∃ b1 b2 : Nat, p = .pointer (some ⟨b1, 0, none⟩) ∧ q = .pointer (some ⟨b2, 0, none⟩) ∧ Ext w wx ∧ Blk wx b1 139 #[.int .i64 x.N, .int .i64 x.D] ∧ Blk wx b2 139 #[.int .i64 y.N, .int .i64 y.D]
theorem TwoRatios.new {x y : Ratio} {w V : World} (h : Ext w V) : TwoRatios x y w (.pointer (some ⟨V.heap.size, 0, none⟩)) (.pointer (some ⟨V.heap.size + 1, 0, none⟩)) ((V.alloc (.cells #[.int .i64 x.N, .int .i64 x.D] 139)).alloc (.cells #[.int .i64 y.N, .int .i64 y.D] 139)) :=
  ⟨_, _, rfl, rfl, (h.alloc _).alloc _, (Blk.new V _ _).alloc _, Blk.new1 V _ _ _⟩
theorem TwoRatios.new' {x y : Ratio} {w V : World} (h : Ext w V) : TwoRatios x y w (.pointer (some ⟨V.heap.size + 1, 0, none⟩)) (.pointer (some ⟨V.heap.size, 0, none⟩)) ((V.alloc (.cells #[.int .i64 y.N, .int .i64 y.D] 139)).alloc (.cells #[.int .i64 x.N, .int .i64 x.D] 139)) :=
  ⟨_, _, rfl, rfl, (h.alloc _).alloc _, Blk.new1 V _ _ _, (Blk.new V _ _).alloc _⟩
theorem TwoRatios.one {x y : Ratio} {w V : World} {g : Nat} (h : Ext w V) (hg : w.heap.size ≤ g) (b : Blk V g 139 #[.int .i64 0, .int .i64 0]) : TwoRatios x y w (.pointer (some ⟨g, 0, none⟩)) (.pointer (some ⟨V.heap.size, 0, none⟩)) (((V.setCell ⟨g, 0, none⟩ (.int .i64 x.N)).setCell ⟨g, 1, none⟩ (.int .i64 x.D)).alloc (.cells #[.int .i64 y.N, .int .i64 y.D] 139)) :=
  ⟨_, _, rfl, rfl, ((h.setCell (p := ⟨g, 0, none⟩) hg _).setCell (p := ⟨g, 1, none⟩) hg _).alloc _, ((b.set_ 0 (.int .i64 x.N)).set_ 1 (.int .i64 x.D)).alloc _, Blk.newS V _ _ _ _ _ _⟩
theorem TwoRatios.one' {x y : Ratio} {w V : World} {g : Nat} (h : Ext w V) (hg : w.heap.size ≤ g) (b : Blk V g 139 #[.int .i64 0, .int .i64 0]) : TwoRatios x y w (.pointer (some ⟨V.heap.size, 0, none⟩)) (.pointer (some ⟨g, 0, none⟩)) (((V.setCell ⟨g, 0, none⟩ (.int .i64 y.N)).setCell ⟨g, 1, none⟩ (.int .i64 y.D)).alloc (.cells #[.int .i64 x.N, .int .i64 x.D] 139)) :=
  ⟨_, _, rfl, rfl, ((h.setCell (p := ⟨g, 0, none⟩) hg _).setCell (p := ⟨g, 1, none⟩) hg _).alloc _, Blk.newS V _ _ _ _ _ _, ((b.set_ 0 (.int .i64 y.N)).set_ 1 (.int .i64 y.D)).alloc _⟩
theorem TwoRatios.two {x y : Ratio} {w V : World} {g k : Nat} (h : Ext w V) (hg : w.heap.size ≤ g) (hk : w.heap.size ≤ k) (hne : g ≠ k) (b : Blk V g 139 #[.int .i64 0, .int .i64 0]) (b' : Blk V k 139 #[.int .i64 0, .int .i64 0]) : TwoRatios x y w (.pointer (some ⟨g, 0, none⟩)) (.pointer (some ⟨k, 0, none⟩)) ((((V.setCell ⟨g, 0, none⟩ (.int .i64 x.N)).setCell ⟨g, 1, none⟩ (.int .i64 x.D)).setCell ⟨k, 0, none⟩ (.int .i64 y.N)).setCell ⟨k, 1, none⟩ (.int .i64 y.D)) :=
  ⟨_, _, rfl, rfl, h.two hg hk _ _ _ _, (Blk.two hne b b' _ _ _ _).1, (Blk.two hne b b' _ _ _ _).2⟩
def SidesMade (p : List Half) (a b : Int) (w : World) (e : Ending) (w' : World) : Prop :=
  ∃ A, e = .returned (.tuple #[.slice A 2 2, .bool ((sideH p a b).2 && (sideH p (-a) (-b)).2)]) ∧ Ext w w' ∧ w'.ownsRow w.heap.size 116 3 (.slice A 2 2) 2 (ints (flat Half.ints [(sideH p a b).1, (sideH p (-a) (-b)).1]))
set_option maxHeartbeats 8000000 in
theorem implSideHalves_any (A : Option Addr) (n c : Nat) (bx by_ : Int) (hs : List Half) (w : World) (hn : hs.length = n) (hk : regOk hs = true) (hne : hs ≠ []) (hx_ : -100 ≤ bx ∧ bx ≤ 100) (hy_ : -100 ≤ by_ ∧ by_ ≤ 100) (hz : ¬ (bx = 0 ∧ by_ = 0)) (hr : Row w A (ints (flat Half.ints hs))) :
    Calls Tryz.prog 338 #[.agg #[.slice A n c], .int .i64 bx, .int .i64 by_] w (SidesMade hs (dirA bx by_) (dirB bx by_) w) := by
  have hS := shape_of hk hne
  obtain ⟨⟨a1, a2⟩, b1, b2⟩ := dir_bd hx_ hy_
  obtain ⟨g1, g2⟩ := gcd_small hx_ hy_ hz
  have HL := Lib.hid (fun w hr => implSupport_any A n c (dirA bx by_) (dirB bx by_) hs w hn hk hne (by omega) (by omega) hr)
  have HRt := Lib.hid (fun w hr => implSupport_any A n c (-dirA bx by_) (-dirB bx by_) hs w hn hk hne (by omega) (by omega) hr)
  obtain ⟨_, l2, l3, l4, l5⟩ := supp_ok (a := dirA bx by_) (b := dirB bx by_) (by omega) (by omega) hS
  obtain ⟨_, r2, r3, r4, r5⟩ := supp_ok (a := -dirA bx by_) (b := -dirB bx by_) (by omega) (by omega) hS
  have HSL : Hid (sideH hs (dirA bx by_) (dirB bx by_) = halfOfZ (dirA bx by_ * (suppR hs (dirA bx by_) (dirB bx by_)).D) (dirB bx by_ * (suppR hs (dirA bx by_) (dirB bx by_)).D) (suppR hs (dirA bx by_) (dirB bx by_)).N) := rfl
  have HSR : Hid (sideH hs (-dirA bx by_) (-dirB bx by_) = halfOfZ (-dirA bx by_ * (suppR hs (-dirA bx by_) (-dirB bx by_)).D) (-dirB bx by_ * (suppR hs (-dirA bx by_) (-dirB bx by_)).D) (suppR hs (-dirA bx by_) (-dirB bx by_)).N) := rfl
  have hda : (-by_).tdiv (Int.gcd bx by_ : Int) = dirA bx by_ := rfl
  have hdb : bx.tdiv (Int.gcd bx by_ : Int) = dirB bx by_ := rfl
  have HG := Lib.hid (gcdTo_two bx by_)
  obtain ⟨SL, hSL⟩ : ∃ S, sideH hs (dirA bx by_) (dirB bx by_) = S := ⟨_, rfl⟩
  obtain ⟨SR, hSR⟩ : ∃ S, sideH hs (-dirA bx by_) (-dirB bx by_) = S := ⟨_, rfl⟩
  rw [hSL] at HSL
  rw [hSR] at HSR
  have HSLe := Lib.hid hSL
  have HSRe := Lib.hid hSR
  clear hSL hSR
  generalize suppR hs (dirA bx by_) (dirB bx by_) = L at *
  generalize suppR hs (-dirA bx by_) (-dirB bx by_) = R at *
  generalize dirA bx by_ = dA at *
  generalize dirB bx by_ = dB at *
  have m1 := mul_bd (a := dA) (b := L.D) (A := 100) (B := 5000000000) ⟨a1, a2⟩ ⟨by omega, by omega⟩
  have m2 := mul_bd (a := dB) (b := L.D) (A := 100) (B := 5000000000) ⟨b1, b2⟩ ⟨by omega, by omega⟩
  have m3 := mul_bd (a := -dA) (b := R.D) (A := 100) (B := 5000000000) ⟨by omega, by omega⟩ ⟨by omega, by omega⟩
  have m4 := mul_bd (a := -dB) (b := R.D) (A := 100) (B := 5000000000) ⟨by omega, by omega⟩ ⟨by omega, by omega⟩
  have HHL := Lib.hid (fun w => implHalfOf_any (dA * L.D) (dB * L.D) L.N w (by unfold I64; omega) (by unfold I64; omega) (by unfold I64; omega))
  have HHR := Lib.hid (fun w => implHalfOf_any (-dA * R.D) (-dB * R.D) R.N w (by unfold I64; omega) (by unfold I64; omega) (by unfold I64; omega))
  rw [← HSL.out] at HHL
  rw [← HSR.out] at HHR
  obtain ⟨x1, hx1⟩ : ∃ x, dA * L.D = x := ⟨_, rfl⟩
  obtain ⟨x2, hx2⟩ : ∃ x, dB * L.D = x := ⟨_, rfl⟩
  obtain ⟨x3, hx3⟩ : ∃ x, -dA * R.D = x := ⟨_, rfl⟩
  obtain ⟨x4, hx4⟩ : ∃ x, -dB * R.D = x := ⟨_, rfl⟩
  have w1 : IntKind.i64.wrap (dA * L.D) = x1 := by rw [← hx1]; exact IntWalk.i64_in _ (by omega)
  have w2 : IntKind.i64.wrap (dB * L.D) = x2 := by rw [← hx2]; exact IntWalk.i64_in _ (by omega)
  have w3 : IntKind.i64.wrap (-dA * R.D) = x3 := by rw [← hx3]; exact IntWalk.i64_in _ (by omega)
  have w4 : IntKind.i64.wrap (-dB * R.D) = x4 := by rw [← hx4]; exact IntWalk.i64_in _ (by omega)
  have w5 : IntKind.i64.wrap (-dA) = -dA := IntWalk.i64_in _ (by omega)
  have w6 : IntKind.i64.wrap (-dB) = -dB := IntWalk.i64_in _ (by omega)
  have w7 : IntKind.i64.wrap (-by_) = -by_ := IntWalk.i64_in _ (by omega)
  rw [hx1, hx2] at HHL
  rw [hx3, hx4] at HHR
  clear hx1 hx2 hx3 hx4 m1 m2 m3 m4
  obtain ⟨g, hg⟩ : ∃ g : Int, (Int.gcd bx by_ : Int) = g := ⟨_, rfl⟩
  have hconv : IntKind.i64.wrap ((gcdTo [bx, by_] 2 : Nat) : Int) = g := by rw [HG.out, ← hg]; exact IntWalk.i64_in _ (by omega)
  rw [hg] at hda hdb
  have hg0 : ¬ g = 0 := by omega
  have hg0b : (g == 0) = false := by rw [beq_eq_false_iff_ne]; exact hg0
  have v1 : IntKind.i64.wrap (-(by_.tdiv g)) = dA := by rw [← Int.neg_tdiv, hda]; exact IntWalk.i64_in _ (by omega)
  have v2 : IntKind.i64.wrap (bx.tdiv g) = dB := by rw [hdb]; exact IntWalk.i64_in _ (by omega)
  have hx : Ext w ((w.alloc (.cells #[.slice A n c] 34)).alloc (.cells #[.int .i64 bx, .int .i64 by_] 3)) := ((Ext.refl w).alloc _).alloc _
  have bP := (Blk.new w 34 #[.slice A n c]).alloc (.cells #[.int .i64 bx, .int .i64 by_] 3)
  have hrow : Row ((w.alloc (.cells #[.slice A n c] 34)).alloc (.cells #[.int .i64 bx, .int .i64 by_] 3)) (some ⟨w.heap.size + 1, 0, none⟩) (ints [bx, by_]) := by
    refine .inr ⟨w.heap.size + 1, 0, rfl, fun j v hj => ?_⟩
    have hb := Blk.new (w.alloc (.cells #[.slice A n c] 34)) 3 #[.int .i64 bx, .int .i64 by_]
    simp only [World.size_alloc] at hb
    rw [hb.cell, Nat.zero_add]
    simpa [ints] using hj
  have HII : Hid (∀ i, (hi : i < [bx, by_].length) → I64 [bx, by_][i]) := by
    intro i hi
    match i, hi with
    | 0, _ => unfold I64; exact ⟨by simp only [List.getElem_cons_zero]; omega, by simp only [List.getElem_cons_zero]; omega⟩
    | 1, _ => unfold I64; exact ⟨by simp only [List.getElem_cons_succ, List.getElem_cons_zero]; omega, by simp only [List.getElem_cons_succ, List.getElem_cons_zero]; omega⟩
  have HRw := Lib.hid hr
  clear hg hda hdb HG a1 a2 b1 b2 g1 g2 l2 l3 l4 l5 r2 r3 r4 r5 hS hn hk hne hr hx_ hy_ hz HSL HSR
  go_enter Tryz.func338, Tryz.ntmps338
  go_wp2_with fail
  refine (gcdOfAll_any _ 2 _ [bx, by_] _ rfl hrow (by unfold maxLen; omega) HII.out).mono ?_
  rintro e V ⟨rfl, hxV⟩
  replace hx := hx.trans hxV
  replace bP := bP.ext hxV
  have cP := fun o => bP.cell o
  clear hrow HII
  go_wp2
  go_quiet (fail)
  generalize nq = n1
  replace hx := hx.drewN n1
  replace bP := bP.drewN n1
  generalize V.drewN n1 = W at *
  clear cP
  have cP := fun o => bP.cell o
  go_upto_region 3 with fail
  go_cut [11, 12] from 29 to 38 (fun p q wx => TwoRatios L R w p q wx)
  case first =>
    have hcur := Ext.refl W
    have lP := bP.lt
    have nP := Nat.ne_of_lt lP
    have nP' := (Nat.ne_of_lt lP).symm
    have nP1 := Nat.ne_of_lt (Nat.lt_succ_of_lt lP)
    have nP1' := (Nat.ne_of_lt (Nat.lt_succ_of_lt lP)).symm
    go_region_held3 (fun w' => w'.cell? ⟨w.heap.size, 0, none⟩ = some (.slice A n c))
      (go_keep)
      (first
        | (go_at_call 252; (with_reducible refine (HL.out _ (HRw.out.ext (hx.trans (by first | exact hcur | exact hcur.drew | exact hcur.alloc _ | exact hcur.drew.alloc _ | exact (hcur.alloc _).drew | exact ((hcur.alloc _).alloc _).drew | exact (hcur.alloc _).alloc _ | exact (hcur.drew.alloc _).alloc _)))).mono ?_); rintro e w9 ⟨rfl, hx9⟩; (first | have hx8 := (Ext.refl _).drew.trans hx9 | have hx8 := hx9); replace hcur := Ext.trans (by first | exact hcur | exact hcur.drew | exact hcur.alloc _ | exact hcur.drew.alloc _ | exact (hcur.alloc _).drew | exact ((hcur.alloc _).alloc _).drew | exact (hcur.alloc _).alloc _ | exact (hcur.drew.alloc _).alloc _) hx9; have cP9 := fun o => (bP.ext hcur).cell o; have lP9 := (bP.ext hcur).lt; have nP9 := Nat.ne_of_lt lP9; have nP9' := (Nat.ne_of_lt lP9).symm; have nP8 := Nat.ne_of_lt (Nat.lt_succ_of_lt lP9); have nP8' := (Nat.ne_of_lt (Nat.lt_succ_of_lt lP9)).symm; (first | (have gA := Blk.ext ((Blk.new _ 139 #[.int .i64 0, .int .i64 0]).alloc (.cells #[.int .i64 0, .int .i64 0] 139)) hx8; have gB := Blk.ext (Blk.new _ 139 #[.int .i64 0, .int .i64 0]) hx8; simp only [World.size_alloc] at gB; have gAc := fun o => gA.cell o; have gAf := fun o => gA.frozen o; have lA := gA.lt; have nA := Nat.ne_of_lt gA.lt; have nA' := (Nat.ne_of_lt gA.lt).symm; have gBc := fun o => gB.cell o; have gBf := fun o => gB.frozen o; have lB := gB.lt; have nB := Nat.ne_of_lt gB.lt; have nB' := (Nat.ne_of_lt gB.lt).symm) | (have gA := Blk.ext (Blk.new _ 139 #[.int .i64 0, .int .i64 0]) hx8; have gAc := fun o => gA.cell o; have gAf := fun o => gA.frozen o; have lA := gA.lt; have nA := Nat.ne_of_lt gA.lt; have nA' := (Nat.ne_of_lt gA.lt).symm) | skip))
        | (go_at_call 252; (with_reducible refine (HRt.out _ (HRw.out.ext (hx.trans (by first | exact hcur | exact hcur.drew | exact hcur.alloc _ | exact hcur.drew.alloc _ | exact (hcur.alloc _).drew | exact ((hcur.alloc _).alloc _).drew | exact (hcur.alloc _).alloc _ | exact (hcur.drew.alloc _).alloc _)))).mono ?_); rintro e w9 ⟨rfl, hx9⟩; (first | have hx8 := (Ext.refl _).drew.trans hx9 | have hx8 := hx9); replace hcur := Ext.trans (by first | exact hcur | exact hcur.drew | exact hcur.alloc _ | exact hcur.drew.alloc _ | exact (hcur.alloc _).drew | exact ((hcur.alloc _).alloc _).drew | exact (hcur.alloc _).alloc _ | exact (hcur.drew.alloc _).alloc _) hx9; have cP9 := fun o => (bP.ext hcur).cell o; have lP9 := (bP.ext hcur).lt; have nP9 := Nat.ne_of_lt lP9; have nP9' := (Nat.ne_of_lt lP9).symm; have nP8 := Nat.ne_of_lt (Nat.lt_succ_of_lt lP9); have nP8' := (Nat.ne_of_lt (Nat.lt_succ_of_lt lP9)).symm; (first | (replace gB := gB.ext hx8; replace gA := gA.ext hx8; have gAc := fun o => gA.cell o; have gAf := fun o => gA.frozen o; have lA := gA.lt; have nA := Nat.ne_of_lt gA.lt; have nA' := (Nat.ne_of_lt gA.lt).symm; have gBc := fun o => gB.cell o; have gBf := fun o => gB.frozen o; have lB := gB.lt; have nB := Nat.ne_of_lt gB.lt; have nB' := (Nat.ne_of_lt gB.lt).symm) | (have gB := Blk.ext (Blk.new _ 139 #[.int .i64 0, .int .i64 0]) hx8; replace gA := (gA.alloc _).ext hx8; have gAc := fun o => gA.cell o; have gAf := fun o => gA.frozen o; have lA := gA.lt; have nA := Nat.ne_of_lt gA.lt; have nA' := (Nat.ne_of_lt gA.lt).symm; have gBc := fun o => gB.cell o; have gBf := fun o => gB.frozen o; have lB := gB.lt; have nB := Nat.ne_of_lt gB.lt; have nB' := (Nat.ne_of_lt gB.lt).symm) | (replace gA := gA.ext hx8; have gAc := fun o => gA.cell o; have gAf := fun o => gA.frozen o; have lA := gA.lt; have nA := Nat.ne_of_lt gA.lt; have nA' := (Nat.ne_of_lt gA.lt).symm) | (have gA := Blk.ext ((Blk.new _ 139 #[.int .i64 0, .int .i64 0]).alloc (.cells #[.int .i64 0, .int .i64 0] 139)) hx8; have gB := Blk.ext (Blk.new _ 139 #[.int .i64 0, .int .i64 0]) hx8; simp only [World.size_alloc] at gB; have gAc := fun o => gA.cell o; have gAf := fun o => gA.frozen o; have lA := gA.lt; have nA := Nat.ne_of_lt gA.lt; have nA' := (Nat.ne_of_lt gA.lt).symm; have gBc := fun o => gB.cell o; have gBf := fun o => gB.frozen o; have lB := gB.lt; have nB := Nat.ne_of_lt gB.lt; have nB' := (Nat.ne_of_lt gB.lt).symm) | (have gA := Blk.ext (Blk.new _ 139 #[.int .i64 0, .int .i64 0]) hx8; have gAc := fun o => gA.cell o; have gAf := fun o => gA.frozen o; have lA := gA.lt; have nA := Nat.ne_of_lt gA.lt; have nA' := (Nat.ne_of_lt gA.lt).symm) | skip)))
    all_goals
      have hE := hx.trans hcur
      go_wp2_with fail
      go_meet
      case rel => first | (with_reducible exact TwoRatios.new hE) | (with_reducible exact TwoRatios.new' hE) | (with_reducible exact TwoRatios.one hE (by omega) gA) | (with_reducible exact TwoRatios.one' hE (by omega) gA) | (with_reducible exact TwoRatios.two hE (by omega) (by omega) (by omega) gA gB) | (with_reducible exact TwoRatios.two hE (by omega) (by omega) (by omega) gB gA)
  case rest =>
  obtain ⟨b1, b2, rfl, rfl, hxC, bL, bR⟩ := hcut
  have cL := fun o => bL.cell o
  have cR := fun o => bR.cell o
  clear hx bP cP HL HRt HRw hxV
  go_wp2_with fail
  refine (HHL.out _).mono ?_
  rintro e w1_ ⟨rfl, hx1⟩
  obtain ⟨s1, ok1⟩ := SL
  obtain ⟨s2, ok2⟩ := SR
  dsimp only at *
  have hA1 := (Ext.refl w1_).alloc (.cells #[.int .i64 s1.A, .int .i64 s1.B, .int .i64 s1.C] 116)
  have bX := Blk.new w1_ 116 #[.int .i64 s1.A, .int .i64 s1.B, .int .i64 s1.C]
  replace hxC := (hxC.trans hx1).trans hA1
  replace bR := (bR.ext hx1).ext hA1
  clear cL cR
  have cR := fun o => bR.cell o
  go_wp2_with fail
  refine (HHR.out _).mono ?_
  rintro e w2_ ⟨rfl, hx2⟩
  have hA2 := (Ext.refl w2_).alloc (.cells #[.int .i64 s2.A, .int .i64 s2.B, .int .i64 s2.C] 116)
  have bY := Blk.new w2_ 116 #[.int .i64 s2.A, .int .i64 s2.B, .int .i64 s2.C]
  replace hxC := (hxC.trans hx2).trans hA2
  replace bX := (bX.ext hx2).ext hA2
  have hXl := bX.lt
  have cX := fun o => bX.cell o
  have cY := fun o => bY.cell o
  clear cR
  have hF := hxC.alloc (.cells #[.int .i64 s1.A, .int .i64 s1.B, .int .i64 s1.C, .int .i64 s2.A, .int .i64 s2.B, .int .i64 s2.C] 116)
  have hs := hxC.size
  have hown : ((w2_.alloc (.cells #[.int .i64 s2.A, .int .i64 s2.B, .int .i64 s2.C] 116)).alloc (.cells #[.int .i64 s1.A, .int .i64 s1.B, .int .i64 s1.C, .int .i64 s2.A, .int .i64 s2.B, .int .i64 s2.C] 116)).ownsRow w.heap.size 116 3 (.slice (some ⟨w2_.heap.size + 1, 0, none⟩) 2 2) 2 (ints (flat Half.ints [s1, s2])) := by
    have h := World.ownsRow_lit (base := w.heap.size) (e := 116) (size := 3) (w2_.alloc (.cells #[.int .i64 s2.A, .int .i64 s2.B, .int .i64 s2.C] 116)) #[.int .i64 s1.A, .int .i64 s1.B, .int .i64 s1.C, .int .i64 s2.A, .int .i64 s2.B, .int .i64 s2.C] 2 hs (by unfold maxLen; omega) rfl
    rw [World.size_alloc] at h
    exact h
  cases ok1
  all_goals
    go_wp2
    refine bodyPost_ret (v := .tuple #[.slice (some ⟨w2_.heap.size + 1, 0, none⟩) 2 2, .bool _]) (by simp [results, Tryz.results338, go_sem]; rfl) rfl ?_
    unfold SidesMade
    rw [HSLe.out, HSRe.out]
    exact ⟨_, rfl, hF, hown⟩
end Go.Proofs.YtfnmbpjkjajpcaaGreatDoor
namespace Go.Proofs.YtfnmbpjkjajpcaaGreatDoor
open Go.ChangeShapes Go.WideShapes Go.ChangeAt Go.RowKit
set_option linter.unusedVariables false
set_option maxRecDepth 100000
set_option maxHeartbeats 16000000 in
theorem implGrow_any (A : Option Addr) (n c : Nat) (bx by_ low high : Int) (hs : List Half) (w : World) (hn : hs.length = n) (hk : regOk hs = true) (hA : A = none → n = 0 ∧ c = 0) (hx_ : -100 ≤ bx ∧ bx ≤ 100) (hy_ : -100 ≤ by_ ∧ by_ ≤ 100) (hlo : -1000 ≤ low ∧ low ≤ 1000) (hhi : -1000 ≤ high ∧ high ≤ 1000) (hr : Row w A (ints (flat Half.ints hs))) :
    Calls Tryz.prog 322 #[.agg #[.slice A n c], .int .i64 bx, .int .i64 by_, .int .i64 low, .int .i64 high] w (RegMade (growR hs bx by_ low high) w) := by
  obtain ⟨i0, hi0, hz0, hz1, hz2⟩ := info_parts half_info
  have hle : n ≤ 40 := by have := regOk_len hk; omega
  have hx : Ext w ((w.alloc (.cells #[.slice A n c] 34)).alloc (.cells #[.slice none 0 0] 34)) := ((Ext.refl w).alloc _).alloc _
  have bP := (Blk.new w 34 #[.slice A n c]).alloc (.cells #[.slice none 0 0] 34)
  have bR := Blk.new (w.alloc (.cells #[.slice A n c] 34)) 34 #[.slice none 0 0]
  simp only [World.size_alloc] at bR
  have HR := Lib.hid hr
  have HN := Lib.hid hn
  have HV := Lib.hid (fun w => implIsVoid_any A n c w (by unfold maxLen; omega))
  have HCp := Lib.hid (fun w hr => implCopyRegion_any A n c hs w hn hr hA (by omega))
  have HOk : Hid (∀ k (hk : k < hs.length), halfOk hs[k] = true) := fun k h => List.all_eq_true.1 (regOk_all hk) _ (List.getElem_mem h)
  have HSd := Lib.hid (fun (h0 : n ≠ 0) (hz : ¬ (bx = 0 ∧ by_ = 0)) w hr => implSideHalves_any A n c bx by_ hs w hn hk (fun e => h0 (by rw [← hn, e]; rfl)) hx_ hy_ hz hr)
  have HSt : Hid (n = 0 ∨ (bx = 0 ∧ by_ = 0) → growR hs bx by_ low high = (hs, true)) := fun h => by
    rcases h with h | h
    · have : hs = [] := List.length_eq_zero_iff.1 (hn.trans h)
      rw [this]
      exact grow_void _ _ _ _
    · exact grow_still _ _ _ h
  have HNo1 := Lib.hid (fun (h0 : n ≠ 0) (hz : ¬ (bx = 0 ∧ by_ = 0)) h => grow_no1 (p := hs) (low := low) (high := high) (fun e => h0 (by rw [← hn, e]; rfl)) hz h)
  have HNo2 := Lib.hid (fun (hz : ¬ (bx = 0 ∧ by_ = 0)) k (hk : k < hs.length) h => grow_no2 (p := hs) (low := low) (high := high) hz hk h)
  have HYes := Lib.hid (fun (h0 : n ≠ 0) (hz : ¬ (bx = 0 ∧ by_ = 0)) h1 h2 h => grow_yes (p := hs) (low := low) (high := high) (fun e => h0 (by rw [← hn, e]; rfl)) hz h1 h2 h)
  have HList := Lib.hid (fun h1 h2 h => grow_list (p := hs) (bx := bx) (by_ := by_) (low := low) (high := high) h1 h2 h)
  clear hr hn hk hA
  have cbP_1 := fun o => bP.cell o
  have cbR_2 := fun o => bR.cell o
  have fbR_2 := fun o => bR.frozen o
  go_enter Tryz.func322, Tryz.ntmps322
  go_wp2_with fail
  refine (HV.out _).mono ?_
  rintro e w1 ⟨rfl, hx1⟩
  replace hx := hx.trans hx1
  replace bP := bP.ext hx1
  replace bR := bR.ext hx1
  have cbP_3 := fun o => bP.cell o
  have cbR_4 := fun o => bR.cell o
  have fbR_4 := fun o => bR.frozen o
  have STILL : ∀ V : World, Ext w V → Blk V (w.heap.size + 1) 34 #[.slice none 0 0] → True := fun _ _ _ => trivial
  by_cases hst : n = 0 ∨ (bx = 0 ∧ by_ = 0)
  · have H := Lib.hid (HSt.out hst)
    by_cases h0 : n = 0
    · have hb : decide (n = 0) = true := decide_eq_true h0
      rw [hb]
      clear hb h0 hst
      go_wp2_with fail
      refine (HCp.out _ (HR.out.ext hx)).mono ?_
      rintro e w2 ⟨A2, c2, n2, rfl, hn2, hx2, hown2⟩
      subst hn2
      have hs2 := bR.lt
      replace hx := hx.trans hx2
      replace bP := bP.ext hx2
      replace bR := bR.ext hx2
      have cbP_5 := fun o => bP.cell o
      have cbR_6 := fun o => bR.cell o
      have fbR_6 := fun o => bR.frozen o
      go_wp2
      have bF := bR.set_ 0 (.slice A2 hs.length c2)
      have cF := fun o => bF.cell o
      refine bodyPost_ret (v := .tuple #[.agg #[.slice A2 hs.length c2], .bool true]) (by simp [results, Tryz.results322, go_sem, cF]) rfl ?_
      rw [H.out]
      exact ⟨A2, c2, _, rfl, rfl, hx.setCell (by simp only; omega) _, own_base (own_far hown2 (by simp only; omega) _) (by omega)⟩
    · have hz : bx = 0 ∧ by_ = 0 := hst.resolve_left h0
      obtain ⟨rfl, rfl⟩ := hz
      have hb : decide (n = 0) = false := decide_eq_false h0
      rw [hb]
      clear hb h0 hst
      go_wp2_with fail
      refine (HCp.out _ (HR.out.ext hx)).mono ?_
      rintro e w2 ⟨A2, c2, n2, rfl, hn2, hx2, hown2⟩
      subst hn2
      have hs2 := bR.lt
      replace hx := hx.trans hx2
      replace bP := bP.ext hx2
      replace bR := bR.ext hx2
      have cbP_7 := fun o => bP.cell o
      have cbR_8 := fun o => bR.cell o
      have fbR_8 := fun o => bR.frozen o
      go_wp2
      have bF := bR.set_ 0 (.slice A2 hs.length c2)
      have cF := fun o => bF.cell o
      refine bodyPost_ret (v := .tuple #[.agg #[.slice A2 hs.length c2], .bool true]) (by simp [results, Tryz.results322, go_sem, cF]) rfl ?_
      rw [H.out]
      exact ⟨A2, c2, _, rfl, rfl, hx.setCell (by simp only; omega) _, own_base (own_far hown2 (by simp only; omega) _) (by omega)⟩
  have h0 : n ≠ 0 := fun e => hst (.inl e)
  have hz : ¬ (bx = 0 ∧ by_ = 0) := fun e => hst (.inr e)
  have hb : decide (n = 0) = false := decide_eq_false h0
  rw [hb]
  have HZ := Lib.hid hz
  have HH0 := Lib.hid h0
  have HSides := Lib.hid (fun w hr => HSd.out h0 hz w hr)
  have HNoS := Lib.hid (fun h => HNo1.out h0 hz h)
  have HNoG := Lib.hid (fun k hk h => HNo2.out hz k hk h)
  have HAllY := Lib.hid (fun h1 h2 h => HYes.out h0 hz h1 h2 h)
  clear HNo1 HNo2 HYes HSd HCp HSt
  obtain ⟨S1, hS1⟩ : ∃ S, sideH hs (dirA bx by_) (dirB bx by_) = S := ⟨_, rfl⟩
  obtain ⟨S2, hS2⟩ : ∃ S, sideH hs (-dirA bx by_) (-dirB bx by_) = S := ⟨_, rfl⟩
  rw [hS1, hS2] at HNoS HAllY HList
  have HS1 := Lib.hid hS1
  have HS2 := Lib.hid hS2
  clear hS1 hS2
  generalize hgr : growR hs bx by_ low high = GR at *
  clear hgr STILL
  have hw2 : (bx == 0) = true ∧ (by_ == 0) = false ∨ (bx == 0) = false := by
    by_cases e : bx = 0
    · refine .inl ⟨by simpa using e, ?_⟩
      rw [beq_eq_false_iff_ne]
      exact fun e2 => hz ⟨e, e2⟩
    · exact .inr (by simpa using e)
  clear hb hst h0 hz
  have hsz := bR.lt
  rcases hw2 with ⟨hb1, hb2⟩ | hb1
  all_goals
    go_wp2_with fail
    refine (HSides.out _ (HR.out.ext hx)).mono ?_
    rintro e w3 ⟨A3, he, hx3, hown3⟩
    rw [HS1.out, HS2.out] at he hown3
    subst he
    have hs3 := bR.lt
    replace hx := hx.trans hx3
    replace bP := bP.ext hx3
    replace bR := bR.ext hx3
    have cbP_9 := fun o => bP.cell o
    have cbR_10 := fun o => bR.cell o
    have fbR_10 := fun o => bR.frozen o
    obtain ⟨s1, ok1⟩ := S1
    obtain ⟨s2, ok2⟩ := S2
    dsimp only at *
    cases hok : (ok1 && ok2)
    · have H := Lib.hid (HNoS.out (by cases ok1; exact .inl rfl; cases ok2; exact .inr rfl; cases hok))
      go_wp2
      have bF := bR.set_ 0 (.slice none 0 0)
      have cF := fun o => bF.cell o
      refine bodyPost_ret (v := .tuple #[.agg #[.slice none 0 0], .bool false]) (by simp [results, Tryz.results322, go_sem, cF]) rfl ?_
      exact RegMade.nil false H.out rfl (hx.setCell (by simp only; omega) _)
    have hok1 : ok1 = true := by cases ok1; cases hok; rfl
    have hok2 : ok2 = true := by cases ok2; cases ok1; cases hok; cases hok; rfl
    have HY := Lib.hid (HAllY.out hok1 hok2)
    have HL := Lib.hid (HList.out hok1 hok2)
    clear hok1 hok2 HAllY HList HNoS
    have hown0 : w3.ownsRow (w.heap.size + 2) 116 3 (.slice A3 2 2) (2 + 0) (ints (flat Half.ints ([s1, s2] ++ movedTo (growH bx by_ low high) hs 0))) := by
      have := own_base hown3 (show w.heap.size + 2 ≤ _ by omega)
      simpa [movedTo] using this
    go_wp2
    clear hown3 hok
    go_loopw [12, 44] (fun v i wr => ∃ k : Nat, k ≤ n ∧ i = .int .i64 k ∧ (∀ j (hj : j < hs.length), j < k → (growH bx by_ low high hs[j]).2 = true) ∧ Ext w wr ∧ Blk wr (w.heap.size + 1) 34 #[.slice none 0 0] ∧ wr.ownsRow (w.heap.size + 2) 116 3 v (2 + k) (ints (flat Half.ints ([s1, s2] ++ movedTo (growH bx by_ low high) hs k)))) (fun _ i _ => n - (intOf i).toNat)
    case atStart => exact ⟨0, Nat.zero_le _, rfl, fun j _ h => by omega, hx, bR, hown0⟩
    case round =>
    obtain ⟨k, hk, rfl, hall, hy, bQ, hown⟩ := hrel
    have hsz := hy.size
    have hQl := bQ.lt
    have HAll := Lib.hid hall
    clear hall hown0 bR hx
    by_cases hlt : k < n
    rotate_left
    · obtain rfl : k = n := by omega
      obtain ⟨A', c', rfl⟩ := own_form hown
      have HM := Lib.hid (HY.out (fun j hj => HAll.out j hj (by have := HN.out; omega)))
      have hmt : movedTo (growH bx by_ low high) hs k = hs.map fun h => (growH bx by_ low high h).1 := by rw [← HN.out]; exact movedTo_all _ hs
      rw [hmt] at hown
      have hml : ([s1, s2] ++ hs.map fun h => (growH bx by_ low high h).1).length = 2 + k := by rw [List.length_append, List.length_map, HN.out]; rfl
      have hma := HL.out (fun j hj => HAll.out j hj (by have := HN.out; omega))
      have HMA := Lib.hid (meetAll_any A' (2 + k) c' _ wr hml (Row.of_own hown) (by omega) (by omega) hma)
      rw [← HM.out] at HMA
      clear hml hma hmt hown
      go_wp2_with fail
      refine (HMA.out).mono ?_
      rintro e w4 ⟨A4, c4, n4, rfl, hn4, hx4, hown4⟩
      have b4 := bQ.ext hx4
      have c0 := fun o => b4.cell o
      have f0 := fun o => b4.frozen o
      have hy4 := hy.trans hx4
      subst hn4
      go_wp2
      have bF := b4.set_ 0 (.slice A4 GR.1.length c4)
      have cF := fun o => bF.cell o
      clear c0 f0
      refine bodyPost_ret (v := .tuple #[.agg #[.slice A4 GR.1.length c4], .bool GR.2]) (by simp [results, Tryz.results322, go_sem, cF]) rfl ?_
      exact ⟨A4, c4, _, rfl, rfl, hy4.setCell (by simp) _, own_base (own_far hown4 (by simp <;> omega) _) (by omega)⟩
    have hkl : k < hs.length := by rw [HN.out]; exact hlt
    obtain ⟨b, off, rfl, hb, c0, c1, c2⟩ := (HR.out.ext hy).Half (k := k) hkl
    have hh := HOk.out k hkl
    have HMk := Lib.hid (movedTo_succ (f := growH bx by_ low high) hkl)
    have HFail := Lib.hid (HNoG.out k hkl)
    have HNext : Hid ((growH bx by_ low high hs[k]).2 = true → ∀ j (hj : j < hs.length), j < k + 1 → (growH bx by_ low high hs[j]).2 = true) := by
      intro h j hj hjk
      by_cases e : j = k
      · subst e; exact h
      · exact HAll.out j hj (by omega)
    obtain ⟨g, hg⟩ : ∃ g, hs[k]'hkl = g := ⟨_, rfl⟩
    rw [hg] at c0 c1 c2 hh HMk HFail HNext
    obtain ⟨b1, b2, b3, b4, b5, b6, _⟩ := halfOk_bd hh
    have HGe := Lib.hid (growH_eq bx by_ low high g)
    rw [HGe.out] at HMk HFail HNext
    have m1 := mul_bd (a := g.A) (b := bx) (A := 50000) (B := 100) ⟨b1, b2⟩ hx_
    have m2 := mul_bd (a := g.B) (b := by_) (A := 50000) (B := 100) ⟨b3, b4⟩ hy_
    have w1 : IntKind.i64.wrap (g.A * bx) = g.A * bx := IntWalk.i64_in _ (by omega)
    have w2 : IntKind.i64.wrap (g.B * by_) = g.B * by_ := IntWalk.i64_in _ (by omega)
    have w3 : IntKind.i64.wrap (g.A * bx + g.B * by_) = g.A * bx + g.B * by_ := IntWalk.i64_in _ (by omega)
    have w4 : IntKind.i64.wrap (-low) = -low := IntWalk.i64_in _ (by omega)
    have w5 : IntKind.i64.wrap (-high) = -high := IntWalk.i64_in _ (by omega)
    unfold growN at HMk HFail HNext
    obtain ⟨p1, hp1⟩ : ∃ x, g.A * bx = x := ⟨_, rfl⟩
    obtain ⟨p2, hp2⟩ : ∃ x, g.B * by_ = x := ⟨_, rfl⟩
    rw [hp1, hp2] at HMk HFail HNext w3
    rw [hp1] at m1
    rw [hp2] at m2
    replace w1 := w1.trans hp1
    replace w2 := w2.trans hp2
    clear hp1 hp2 hg hkl
    obtain ⟨z, hz⟩ : ∃ z, p1 + p2 = z := ⟨_, rfl⟩
    rw [hz] at HMk HFail HNext
    replace w3 := w3.trans hz
    have m3 := mul_bd (a := -low) (b := z) (A := 1000) (B := 10000000) ⟨by omega, by omega⟩ ⟨by omega, by omega⟩
    have m4 := mul_bd (a := -high) (b := z) (A := 1000) (B := 10000000) ⟨by omega, by omega⟩ ⟨by omega, by omega⟩
    have w6 : IntKind.i64.wrap (-low * z) = -low * z := IntWalk.i64_in _ (by omega)
    have w7 : IntKind.i64.wrap (-high * z) = -high * z := IntWalk.i64_in _ (by omega)
    obtain ⟨q1, hq1⟩ : ∃ x, -low * z = x := ⟨_, rfl⟩
    obtain ⟨q2, hq2⟩ : ∃ x, -high * z = x := ⟨_, rfl⟩
    rw [hq1, hq2] at HMk HFail HNext
    rw [hq1] at m3
    rw [hq2] at m4
    replace w6 := w6.trans hq1
    replace w7 := w7.trans hq2
    obtain ⟨m, hm⟩ : ∃ m, max q1 q2 = m := ⟨_, rfl⟩
    rw [hm] at HMk HFail HNext
    have w8 : IntKind.i64.wrap (g.C + m) = g.C + m := IntWalk.i64_in _ (by omega)
    have HHf := Lib.hid (fun w => implHalfOf_any g.A g.B (g.C + m) w (by unfold I64; omega) (by unfold I64; omega) (by unfold I64; omega))
    obtain ⟨F, hF⟩ : ∃ F, halfOfZ g.A g.B (g.C + m) = F := ⟨_, rfl⟩
    rw [hF] at HMk HFail HNext HHf
    clear hF hz hq1 hq2 m1 m2 m3 m4 b1 b2 b3 b4 b5 b6 hh
    obtain ⟨F1, ok⟩ := F
    dsimp only at HMk HFail HNext HHf
    have bG := Blk.new wr 116 #[.int .i64 g.A, .int .i64 g.B, .int .i64 g.C]
    have cG := fun o => bG.cell o
    have hA := (Ext.refl wr).alloc (.cells #[.int .i64 g.A, .int .i64 g.B, .int .i64 g.C] 116)
    replace hy := hy.trans hA
    replace bQ := bQ.ext hA
    replace hown := own_ext hown hA
    go_wp2_with fail
    refine (HHf.out _).mono ?_
    rintro e w5_ ⟨rfl, hx5⟩
    replace hy := hy.trans hx5
    replace bQ := bQ.ext hx5
    replace hown := own_ext hown hx5
    have hQ5 := bQ.lt
    have bQ5 := bQ
    have hy5 := hy
    have bN := Blk.new w5_ 116 #[.int .i64 F1.A, .int .i64 F1.B, .int .i64 F1.C]
    have hA5 := (Ext.refl w5_).alloc (.cells #[.int .i64 F1.A, .int .i64 F1.B, .int .i64 F1.C] 116)
    replace hy := hy.trans hA5
    replace bQ := bQ.ext hA5
    replace hown := own_ext hown hA5
    have cN := fun o => bN.cell o
    have cQ := fun o => bQ.cell o
    have fQ := fun o => bQ.frozen o
    clear c0 c1 c2 cG w1 w2 w3 w4 w5 w6 w7 w8 hm
    cases ok
    · have HM := Lib.hid (HFail.out rfl)
      go_wp2
      have bF := (bQ5.set_ 0 (.slice none 0 0)).alloc (.cells #[.int .i64 F1.A, .int .i64 F1.B, .int .i64 F1.C] 116)
      have cF := fun o => bF.cell o
      clear cQ fQ
      refine bodyPost_ret (v := .tuple #[.agg #[.slice none 0 0], .bool false]) (by simp [results, Tryz.results322, go_sem, cF]) rfl ?_
      exact RegMade.nil false HM.out rfl ((hy5.setCell (by simp) _).alloc _)
    have hsz5 := hy.size
    have hnews := Blk.new (w5_.alloc (.cells #[.int .i64 F1.A, .int .i64 F1.B, .int .i64 F1.C] 116)) 116 #[.int .i64 F1.A, .int .i64 F1.B, .int .i64 F1.C]
    have HLT := Lib.hid hlt
    simp only [World.size_alloc] at hnews hsz5
    go_wp2_with (at_builtin; go_must (refine wpList_append_own _ rfl _ _ 32 rfl (w.heap.size + 2) 116 i0 (.agg #[.int .i64 0, .int .i64 0, .int .i64 0]) 3 24 Tryz.underlying32 hi0 hz0 hz1 hz2 rfl (by decide) _ _ _ rfl (hown.alloc _) ⟨w5_.heap.size + 1, 0, none⟩ 1 1 #[.int .i64 F1.A, .int .i64 F1.B, .int .i64 F1.C].toList rfl rfl (row_add (fun j v hj => by rw [hnews.cell, Nat.zero_add]; simpa using hj)) (by simp [Value.oneCell']) (by unfold maxLen; omega) (by omega) (by simp; omega) ?_); intro v' w6 hown' hgrow _)
    have hy6 : Ext w w6 := (hy.alloc _).grown hgrow (fun q hq => by have := (hown.lt q hq).1; omega)
    have b6 : Blk w6 (w.heap.size + 1) 34 #[.slice none 0 0] := (hgrow.block (w.heap.size + 1) (bQ.alloc (.cells #[.int .i64 F1.A, .int .i64 F1.B, .int .i64 F1.C] 116)).lt (fun e => by have := (hown.lt _ e.symm).1; omega)).trans (bQ.alloc (.cells #[.int .i64 F1.A, .int .i64 F1.B, .int .i64 F1.C] 116))
    go_roundw
    case rel => exact ⟨k + 1, HLT.out, by go_num, HNext.out (by first | rfl | trivial), hy6, b6, by rw [HMk.out, ← List.append_assoc, halves_add]; exact hown'⟩
    case measure => have := HLT.out; simp [intOf]; omega
end Go.Proofs.YtfnmbpjkjajpcaaGreatDoor
namespace Go.Proofs.YtfnmbpjkjajpcaaGreatDoor
open Go.ChangeShapes Go.WideShapes Go.ChangeAt Go.RowKit
set_option linter.unusedVariables false
set_option maxRecDepth 100000
theorem meet_no {p q : List Half} (h : 40 < p.length + q.length) : meetR p q = ([], false) := by unfold meetR; rw [if_pos h]
theorem meet_void {p q : List Half} (h : p.length + q.length ≤ 40) (h2 : p = [] ∨ q = []) : meetR p q = ([], true) := by unfold meetR; rw [if_neg (by omega), if_pos h2]
theorem meet_yes {p q : List Half} (h : p.length + q.length ≤ 40) (h1 : p ≠ []) (h2 : q ≠ []) : meetR p q = (madeOf (p ++ q), true) := by unfold meetR; rw [if_neg (by omega), if_neg (fun e => e.elim h1 h2)]
theorem meet_yes2 {p q : List Half} (hp : regOk p = true) (hq : regOk q = true) (h : p.length + q.length ≤ 40) (h1 : p ≠ []) (h2 : q ≠ []) : meetR p q = fitR (madeOf (p ++ q)) := by
  rw [meet_yes h h1 h2, meet_fit hp hq h h1 h2]
set_option maxHeartbeats 8000000 in
theorem implMeetRegions_ok (A : Option Addr) (n c : Nat) (ps : List Half) (A' : Option Addr) (n' c' : Nat) (qs : List Half) (w : World) (hn : ps.length = n) (hr : Row w A (ints (flat Half.ints ps))) (hp : regOk ps = true)
    (hn' : qs.length = n') (hr' : Row w A' (ints (flat Half.ints qs))) (hq : regOk qs = true) :
    Calls Tryz.prog 297 #[.agg #[.slice A n c], .agg #[.slice A' n' c']] w (RegMade (meetR ps qs) w) := by
  have hle : n ≤ 40 := by have := regOk_len hp; omega
  have hle' : n' ≤ 40 := by have := regOk_len hq; omega
  have HO1 := Lib.hid (fun w hr => implRegionOk_any A n c ps w hn hr (halves_I (regOk_all hp)) (by unfold maxLen; omega))
  have HO2 := Lib.hid (fun w hr => implRegionOk_any A' n' c' qs w hn' hr (halves_I (regOk_all hq)) (by unfold maxLen; omega))
  have HV1 := Lib.hid (fun w => implIsVoid_any A n c w (by unfold maxLen; omega))
  have HV2 := Lib.hid (fun w => implIsVoid_any A' n' c' w (by unfold maxLen; omega))
  rw [hp] at HO1
  rw [hq] at HO2
  have HNo : Hid (40 < n + n' → meetR ps qs = ([], false)) := fun h => meet_no (by omega)
  have HVd : Hid (n + n' ≤ 40 → n = 0 ∨ n' = 0 → meetR ps qs = ([], true)) := fun h h2 => meet_void (by omega) (by rcases h2 with h2 | h2; exact .inl (List.length_eq_zero_iff.1 (hn.trans h2)); exact .inr (List.length_eq_zero_iff.1 (hn'.trans h2)))
  have HYes : Hid (n + n' ≤ 40 → n ≠ 0 → n' ≠ 0 → meetR ps qs = fitR (madeOf (ps ++ qs))) := fun h h1 h2 => meet_yes2 hp hq (by omega) (fun e => h1 (by rw [← hn, e]; rfl)) (fun e => h2 (by rw [← hn', e]; rfl))
  have HAll : Hid ((ps ++ qs).all halfOk = true) := by rw [Hid, List.all_append, regOk_all hp, regOk_all hq]; rfl
  have HLen : Hid ((ps ++ qs).length = n + n') := by rw [Hid, List.length_append, hn, hn']
  have HCat := Lib.hid (fun B w hb r1 r2 p1 p2 => concat_any B A A' n c n' c' ps qs w hb hn hn' r1 r2 p1 p2 (by omega) (by omega))
  have HR := Lib.hid hr
  have HR' := Lib.hid hr'
  have hx : Ext w (((w.alloc (.cells #[.slice A n c] 34)).alloc (.cells #[.slice A' n' c'] 34)).alloc (.cells #[.slice none 0 0] 34)) := (((Ext.refl w).alloc _).alloc _).alloc _
  have bP := ((Blk.new w 34 #[.slice A n c]).alloc (.cells #[.slice A' n' c'] 34)).alloc (.cells #[.slice none 0 0] 34)
  have bQ := (Blk.new (w.alloc (.cells #[.slice A n c] 34)) 34 #[.slice A' n' c']).alloc (.cells #[.slice none 0 0] 34)
  have bR := Blk.new ((w.alloc (.cells #[.slice A n c] 34)).alloc (.cells #[.slice A' n' c'] 34)) 34 #[.slice none 0 0]
  simp only [World.size_alloc] at bQ bR
  clear hr hr' hn hn' hp hq
  have cbP_11 := fun o => bP.cell o
  have cbQ_12 := fun o => bQ.cell o
  have cbR_13 := fun o => bR.cell o
  have fbR_13 := fun o => bR.frozen o
  go_enter Tryz.func297, Tryz.ntmps297
  go_wp2_with fail
  refine (HO1.out _ (HR.out.ext hx)).mono ?_
  rintro e w1 ⟨rfl, hx1⟩
  replace hx := hx.trans hx1
  replace bP := bP.ext hx1
  replace bQ := bQ.ext hx1
  replace bR := bR.ext hx1
  have cbP_14 := fun o => bP.cell o
  have cbQ_15 := fun o => bQ.cell o
  have cbR_16 := fun o => bR.cell o
  have fbR_16 := fun o => bR.frozen o
  go_wp2_with fail
  refine (HO2.out _ (HR'.out.ext hx)).mono ?_
  rintro e w2 ⟨rfl, hx2⟩
  replace hx := hx.trans hx2
  replace bP := bP.ext hx2
  replace bQ := bQ.ext hx2
  replace bR := bR.ext hx2
  have cbP_17 := fun o => bP.cell o
  have cbQ_18 := fun o => bQ.cell o
  have cbR_19 := fun o => bR.cell o
  have fbR_19 := fun o => bR.frozen o
  by_cases h40 : 40 < n + n'
  · have hb : decide ((40 : Int) < (n : Int) + (n' : Int)) = true := decide_eq_true (by omega)
    have hb2 : (40 : Int) < (n : Int) + (n' : Int) := by omega
    have H := Lib.hid (HNo.out h40)
    clear h40
    go_wp2
    have bF := bR.set_ 0 (.slice none 0 0)
    have cF := fun o => bF.cell o
    refine bodyPost_ret (v := .tuple #[.agg #[.slice none 0 0], .bool false]) (by simp [results, Tryz.results297, go_sem, cF]) rfl ?_
    exact RegMade.nil false H.out rfl (hx.setCell (by simp only; omega) _)
  have hb2 : ¬ (40 : Int) < (n : Int) + (n' : Int) := by omega
  have hsum : n + n' ≤ 40 := by omega
  clear h40
  go_wp2_with fail
  refine (HV1.out _).mono ?_
  rintro e w3 ⟨rfl, hx3⟩
  replace hx := hx.trans hx3
  replace bP := bP.ext hx3
  replace bQ := bQ.ext hx3
  replace bR := bR.ext hx3
  have cbP_20 := fun o => bP.cell o
  have cbQ_21 := fun o => bQ.cell o
  have cbR_22 := fun o => bR.cell o
  have fbR_22 := fun o => bR.frozen o
  by_cases h0 : n = 0
  · have hb : decide (n = 0) = true := decide_eq_true h0
    have H := Lib.hid (HVd.out hsum (.inl h0))
    rw [hb]
    clear h0 hb
    go_wp2
    have bF := bR.set_ 0 (.slice none 0 0)
    have cF := fun o => bF.cell o
    refine bodyPost_ret (v := .tuple #[.agg #[.slice none 0 0], .bool true]) (by simp [results, Tryz.results297, go_sem, cF]) rfl ?_
    exact RegMade.nil true H.out rfl (hx.setCell (by simp only; omega) _)
  have hb : decide (n = 0) = false := decide_eq_false h0
  rw [hb]
  have hn0 : 0 < n := by omega
  clear h0 hb
  go_wp2_with fail
  refine (HV2.out _).mono ?_
  rintro e w4 ⟨rfl, hx4⟩
  replace hx := hx.trans hx4
  replace bP := bP.ext hx4
  replace bQ := bQ.ext hx4
  replace bR := bR.ext hx4
  have cbP_23 := fun o => bP.cell o
  have cbQ_24 := fun o => bQ.cell o
  have cbR_25 := fun o => bR.cell o
  have fbR_25 := fun o => bR.frozen o
  by_cases h0 : n' = 0
  · have hb : decide (n' = 0) = true := decide_eq_true h0
    have H := Lib.hid (HVd.out hsum (.inr h0))
    rw [hb]
    clear h0 hb
    go_wp2
    have bF := bR.set_ 0 (.slice none 0 0)
    have cF := fun o => bF.cell o
    refine bodyPost_ret (v := .tuple #[.agg #[.slice none 0 0], .bool true]) (by simp [results, Tryz.results297, go_sem, cF]) rfl ?_
    exact RegMade.nil true H.out rfl (hx.setCell (by simp only; omega) _)
  have hb : decide (n' = 0) = false := decide_eq_false h0
  rw [hb]
  have hn0' : 0 < n' := by omega
  clear h0 hb
  have bC := Blk.new w4 32 #[.slice A n c, .slice A' n' c']
  have H := Lib.hid (HYes.out hsum (by omega) (by omega))
  have hsz := bR.lt
  have ha4 := (Ext.refl w4).alloc (.cells #[.slice A n c, .slice A' n' c'] 32)
  replace hx := hx.trans ha4
  replace bP := bP.ext ha4
  replace bQ := bQ.ext ha4
  replace bR := bR.ext ha4
  have cbP_26 := fun o => bP.cell o
  have cbQ_27 := fun o => bQ.cell o
  have cbR_28 := fun o => bR.cell o
  have fbR_28 := fun o => bR.frozen o
  go_wp2_with fail
  refine (HCat.out _ _ bC (HR.out.ext hx) (HR'.out.ext hx) hn0 hn0').mono ?_
  rintro e w5 ⟨A5, c5, n5, rfl, hn5, hx5, hown5⟩
  replace hx := hx.trans hx5
  replace bP := bP.ext hx5
  replace bQ := bQ.ext hx5
  replace bR := bR.ext hx5
  have cbP_29 := fun o => bP.cell o
  have cbQ_30 := fun o => bQ.cell o
  have cbR_31 := fun o => bR.cell o
  have fbR_31 := fun o => bR.frozen o
  rw [HLen.out] at hn5
  subst hn5
  have HMA := Lib.hid (meetAll_any A5 (n + n') c5 (ps ++ qs) w5 HLen.out (Row.of_own hown5) (by omega) (by omega) HAll.out)
  rw [← H.out] at HMA
  clear hown5
  go_wp2_with fail
  refine (HMA.out).mono ?_
  rintro e w6 ⟨A6, c6, n6, rfl, hn6, hx6, hown6⟩
  have hs5 := bR.lt
  replace hx := hx.trans hx6
  replace bP := bP.ext hx6
  replace bQ := bQ.ext hx6
  replace bR := bR.ext hx6
  have cbP_32 := fun o => bP.cell o
  have cbQ_33 := fun o => bQ.cell o
  have cbR_34 := fun o => bR.cell o
  have fbR_34 := fun o => bR.frozen o
  subst hn6
  generalize meetR ps qs = r at *
  go_wp2
  have bF := bR.set_ 0 (.slice A6 r.1.length c6)
  have cF := fun o => bF.cell o
  refine bodyPost_ret (v := .tuple #[.agg #[.slice A6 r.1.length c6], .bool r.2]) (by simp [results, Tryz.results297, go_sem, cF]) rfl ?_
  exact ⟨A6, c6, _, rfl, rfl, hx.setCell (by simp only; omega) _, own_base (own_far hown6 (by simp only; omega) _) (by omega)⟩
end Go.Proofs.YtfnmbpjkjajpcaaGreatDoor
namespace Go.Proofs.YtfnmbpjkjajpcaaGreatDoor
open Go.ChangeShapes Go.WideShapes Go.ChangeAt Go.RowKit
set_option linter.unusedVariables false
set_option maxRecDepth 100000
theorem pull_bd {r : Dyn} (hr : DynOk r) {h : Half} (hh : halfOk h = true) : (-1000000 ≤ h.A * r.a ∧ h.A * r.a ≤ 1000000) ∧ (-1000000 ≤ h.B * r.c ∧ h.B * r.c ≤ 1000000) ∧ (-1000000 ≤ h.A * r.b ∧ h.A * r.b ≤ 1000000) ∧ (-1000000 ≤ h.B * r.d ∧ h.B * r.d ≤ 1000000) ∧ (-2000000000 ≤ h.C * r.q ∧ h.C * r.q ≤ 2000000000) := by
  obtain ⟨b1, b2, b3, b4, b5, b6, _⟩ := halfOk_bd hh
  have hq := hr.q
  have m1 := mul_bd (a := h.A) (b := r.a) (A := 50000) (B := 20) ⟨b1, b2⟩ hr.a
  have m2 := mul_bd (a := h.B) (b := r.c) (A := 50000) (B := 20) ⟨b3, b4⟩ hr.c
  have m3 := mul_bd (a := h.A) (b := r.b) (A := 50000) (B := 20) ⟨b1, b2⟩ hr.b
  have m4 := mul_bd (a := h.B) (b := r.d) (A := 50000) (B := 20) ⟨b3, b4⟩ hr.d
  have m5 := mul_bd (a := h.C) (b := r.q) (A := 100000000) (B := 20) ⟨b5, b6⟩ ⟨by omega, by omega⟩
  omega
set_option maxHeartbeats 8000000 in
theorem pull1_any (B1 B2 : Nat) (r : Dyn) (h : Half) (A : Option Addr) (c : Nat) (V : World) (hr : DynOk r) (bM : Blk V B1 31 #[.slice A 4 c]) (bQ : Blk V B2 3 #[.int .i64 r.q]) (hm : Row V A (ints [r.a, r.b, r.c, r.d])) (hh : halfOk h = true) :
    Calls Tryz.prog 339 #[.agg #[.int .i64 h.A, .int .i64 h.B, .int .i64 h.C], .pointer (some ⟨B1, 0, none⟩), .pointer (some ⟨B2, 0, none⟩)] V fun e V' => e = .returned (.tuple #[.agg #[.int .i64 (pullH r.a r.b r.c r.d r.q h).1.A, .int .i64 (pullH r.a r.b r.c r.d r.q h).1.B, .int .i64 (pullH r.a r.b r.c r.d r.q h).1.C], .bool (pullH r.a r.b r.c r.d r.q h).2]) ∧ Ext V V' := by
  obtain ⟨q1, q2, q3, q4, q5⟩ := pull_bd hr hh
  have w1 : IntKind.i64.wrap (h.A * r.a) = h.A * r.a := IntWalk.i64_in _ (by omega)
  have w2 : IntKind.i64.wrap (h.B * r.c) = h.B * r.c := IntWalk.i64_in _ (by omega)
  have w3 : IntKind.i64.wrap (h.A * r.b) = h.A * r.b := IntWalk.i64_in _ (by omega)
  have w4 : IntKind.i64.wrap (h.B * r.d) = h.B * r.d := IntWalk.i64_in _ (by omega)
  have w5 : IntKind.i64.wrap (h.C * r.q) = h.C * r.q := IntWalk.i64_in _ (by omega)
  have w6 : IntKind.i64.wrap (h.A * r.a + h.B * r.c) = h.A * r.a + h.B * r.c := IntWalk.i64_in _ (by omega)
  have w7 : IntKind.i64.wrap (h.A * r.b + h.B * r.d) = h.A * r.b + h.B * r.d := IntWalk.i64_in _ (by omega)
  have HH := Lib.hid (fun w => implHalfOf_any (h.A * r.a + h.B * r.c) (h.A * r.b + h.B * r.d) (h.C * r.q) w (by unfold I64; omega) (by unfold I64; omega) (by unfold I64; omega))
  have HE : Hid (pullH r.a r.b r.c r.d r.q h = halfOfZ (h.A * r.a + h.B * r.c) (h.A * r.b + h.B * r.d) (h.C * r.q)) := rfl
  rw [← HE.out] at HH
  generalize pullH r.a r.b r.c r.d r.q h = E at *
  have hx : Ext V ((V.alloc (.cells #[.int .i64 h.A, .int .i64 h.B, .int .i64 h.C] 116)).alloc (.cells #[.int .i64 0, .int .i64 0, .int .i64 0] 116)) := ((Ext.refl V).alloc _).alloc _
  have bH := (Blk.new V 116 #[.int .i64 h.A, .int .i64 h.B, .int .i64 h.C]).alloc (.cells #[.int .i64 0, .int .i64 0, .int .i64 0] 116)
  have bR := Blk.new (V.alloc (.cells #[.int .i64 h.A, .int .i64 h.B, .int .i64 h.C] 116)) 116 #[.int .i64 0, .int .i64 0, .int .i64 0]
  simp only [World.size_alloc] at bR
  have hM1 := bM.lt
  have hQ1 := bQ.lt
  replace bM := bM.ext hx
  replace bQ := bQ.ext hx
  obtain ⟨g, o, rfl, hg, k0, k1, k2, k3⟩ := row4 hm
  have ne1 : ¬ B1 = V.heap.size + 1 := by omega
  have ne2 : ¬ B2 = V.heap.size + 1 := by omega
  have ne3 : ¬ g = V.heap.size + 1 := by omega
  have ne1' : ¬ V.heap.size + 1 = B1 := by omega
  have ne2' : ¬ V.heap.size + 1 = B2 := by omega
  have ne3' : ¬ V.heap.size + 1 = g := by omega
  replace k0 := hx.cellOf k0
  replace k1 := hx.cellOf k1
  replace k2 := hx.cellOf k2
  replace k3 := hx.cellOf k3
  have cM := fun o => bM.cell o
  have cQ := fun o => bQ.cell o
  have cH := fun o => bH.cell o
  rw [Nat.add_zero] at k0
  clear q1 q2 q3 q4 q5 hm hh
  go_enter Tryz.func339, Tryz.ntmps339
  go_wp2
  generalize (V.alloc (.cells #[.int .i64 h.A, .int .i64 h.B, .int .i64 h.C] 116)).alloc (.cells #[.int .i64 0, .int .i64 0, .int .i64 0] 116) = W at *
  have hcur := Ext.refl W
  go_region_held3 (fun w' => w'.cell? ⟨V.heap.size, 0, none⟩ = some (.int .i64 h.A) ∧ w'.cell? ⟨V.heap.size, 1, none⟩ = some (.int .i64 h.B) ∧ w'.cell? ⟨V.heap.size, 2, none⟩ = some (.int .i64 h.C) ∧ w'.cell? ⟨B1, 0, none⟩ = some (.slice (some ⟨g, o, none⟩) 4 c) ∧ w'.cell? ⟨B2, 0, none⟩ = some (.int .i64 r.q) ∧ w'.cell? ⟨g, o, none⟩ = some (.int .i64 r.a) ∧ w'.cell? ⟨g, o + 1, none⟩ = some (.int .i64 r.b) ∧ w'.cell? ⟨g, o + 2, none⟩ = some (.int .i64 r.c) ∧ w'.cell? ⟨g, o + 3, none⟩ = some (.int .i64 r.d))
    (go_keep)
    (first
      | (go_at_call 115; (with_reducible refine (HH.out _).mono ?_); rintro e w9 ⟨rfl, hx9⟩; replace hcur := Ext.trans (by first | exact hcur | exact hcur.drew) hx9; have d1 := fun o => (bH.ext hcur).cell o; have d2 := fun o => (bM.ext hcur).cell o; have d3 := fun o => (bQ.ext hcur).cell o; have d4 := hcur.cellOf k0; have d5 := hcur.cellOf k1; have d6 := hcur.cellOf k2; have d7 := hcur.cellOf k3; have d8 := fun o => (bR.ext hcur).cell o; have d9 := fun o => (bR.ext hcur).frozen o))
  all_goals
    obtain ⟨⟨x, y, z⟩, ok⟩ := E
    have bF := (((bR.ext hcur).set_ 0 (.int .i64 x)).set_ 1 (.int .i64 y)).set_ 2 (.int .i64 z)
    have cF := fun o => bF.cell o
    have hEf := hx.trans hcur
    clear d8 d9
    go_wp2
    refine bodyPost_ret (v := .tuple #[.agg #[.int .i64 x, .int .i64 y, .int .i64 z], .bool ok]) (by simp [results, Tryz.results339, go_sem, cF]) rfl ?_
    exact ⟨rfl, by first | exact ((hEf.setCell (by simp only; omega) _).setCell (by simp only; omega) _).setCell (by simp only; omega) _ | exact (((hEf.setCell (by simp only; omega) _).setCell (by simp only; omega) _).setCell (by simp only; omega) _).drew⟩
set_option maxHeartbeats 4000000 in
theorem implPull_any (r : Dyn) (A : Option Addr) (n c : Nat) (ps : List Half) (A' : Option Addr) (c' : Nat) (w : World) (hr : DynOk r) (hn : ps.length = n) (hp : Row w A (ints (flat Half.ints ps))) (hpk : ps.all halfOk = true) (hle : n ≤ 1000) (hm : Row w A' (ints [r.a, r.b, r.c, r.d])) :
    Calls Tryz.prog 323 #[.agg #[.slice A n c], .slice A' 4 c', .int .i64 r.q] w (RegMade (pullR ps r.a r.b r.c r.d r.q) w) := by
  have hx : Ext w ((((w.alloc (.cells #[.slice A n c] 34)).alloc (.cells #[.slice A' 4 c'] 31)).alloc (.cells #[.int .i64 r.q] 3)).alloc (.cells #[.slice none 0 0] 34)) := ((((Ext.refl w).alloc _).alloc _).alloc _).alloc _
  have bP := (((Blk.new w 34 #[.slice A n c]).alloc (.cells #[.slice A' 4 c'] 31)).alloc (.cells #[.int .i64 r.q] 3)).alloc (.cells #[.slice none 0 0] 34)
  have bM := ((Blk.new (w.alloc (.cells #[.slice A n c] 34)) 31 #[.slice A' 4 c']).alloc (.cells #[.int .i64 r.q] 3)).alloc (.cells #[.slice none 0 0] 34)
  have bQ := (Blk.new ((w.alloc (.cells #[.slice A n c] 34)).alloc (.cells #[.slice A' 4 c'] 31)) 3 #[.int .i64 r.q]).alloc (.cells #[.slice none 0 0] 34)
  have bR := Blk.new (((w.alloc (.cells #[.slice A n c] 34)).alloc (.cells #[.slice A' 4 c'] 31)).alloc (.cells #[.int .i64 r.q] 3)) 34 #[.slice none 0 0]
  simp only [World.size_alloc] at bM bQ bR
  have cP := fun o => bP.cell o
  have HM := Lib.hid (implMoved_any 339 #[.pointer (some ⟨w.heap.size + 1, 0, none⟩), .pointer (some ⟨w.heap.size + 1 + 1, 0, none⟩)] (pullH r.a r.b r.c r.d r.q) A n c ps _ hn (hp.ext hx) hle (enters_of Tryz.func339 (by kernel_rfl) rfl)
    (fun h hh V hV => pull1_any (w.heap.size + 1) (w.heap.size + 1 + 1) r h A' c' V hr (bM.ext hV) (bQ.ext hV) ((hm.ext hx).ext hV) (List.all_eq_true.1 hpk h hh)) (fun h hh e => halfOfZ_ok e))
  have HE : Hid (movedR (pullH r.a r.b r.c r.d r.q) ps = pullR ps r.a r.b r.c r.d r.q) := rfl
  rw [HE.out] at HM
  generalize pullR ps r.a r.b r.c r.d r.q = R at *
  clear hn hp hpk hm hle hr HE
  go_enter Tryz.func323, Tryz.ntmps323
  go_wp2_with fail
  refine (HM.out).mono ?_
  rintro e w3 ⟨A3, c3, n3, rfl, hn3, hx3, hown3⟩
  have b3 := bR.ext hx3
  have c0 := fun o => b3.cell o
  have f0 := fun o => b3.frozen o
  have hy3 := hx.trans hx3
  subst hn3
  clear cP
  go_wp2
  have bF := b3.set_ 0 (.slice A3 R.1.length c3)
  have cF := fun o => bF.cell o
  clear c0 f0
  refine bodyPost_ret (v := .tuple #[.agg #[.slice A3 R.1.length c3], .bool R.2]) (by simp [results, Tryz.results323, go_sem, cF]) rfl ?_
  exact ⟨A3, c3, _, rfl, rfl, hy3.setCell (by simp only; omega) _, own_base (own_far hown3 (by simp <;> omega) _) (by simp only [World.size_alloc]; omega)⟩
end Go.Proofs.YtfnmbpjkjajpcaaGreatDoor
namespace Go.Proofs.YtfnmbpjkjajpcaaGreatDoor
open Go.ChangeShapes Go.WideShapes Go.ChangeAt Go.RowKit
set_option linter.unusedVariables false
set_option maxRecDepth 100000
end Go.Proofs.YtfnmbpjkjajpcaaGreatDoor
