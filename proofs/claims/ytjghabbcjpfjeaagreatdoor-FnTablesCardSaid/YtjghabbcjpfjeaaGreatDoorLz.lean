/- Plain facts on regions grown along a direction. -/
import Derived.Test.YtjghabbcjpfjeaaGreatDoorSz
import Derived.Test.YtjghabbcjpfjeaaGreatDoorRk
namespace Go.Proofs.YtjghabbcjpfjeaaGreatDoor
open Go.ChangeShapes Go.WideShapes Go.ChangeAt Go.RowKit
set_option linter.unusedVariables false
set_option maxRecDepth 100000

theorem made_swap {a b : List Half} (h : (b ++ a).all halfOk = true) : madeOf (b ++ a) = madeOf (a ++ b) := by
  unfold madeOf
  rw [sortedH_same (l := frame ++ (b ++ a)) (l' := frame ++ (a ++ b)) (fun x hx => framed_ok h x hx) (fun x => by simp only [List.mem_append]; constructor <;> (rintro (h | h | h) <;> simp [h]))]
theorem tdiv_bd {x : Int} (g : Nat) (h : -100 ≤ x ∧ x ≤ 100) : -100 ≤ x.tdiv (g : Int) ∧ x.tdiv (g : Int) ≤ 100 := by
  have h1 := Int.natAbs_tdiv x (g : Int)
  have h2 : (x.tdiv (g : Int)).natAbs ≤ x.natAbs := by rw [h1]; exact Nat.div_le_self _ _
  omega
theorem gcd_small {bx by_ : Int} (hx : -100 ≤ bx ∧ bx ≤ 100) (hy : -100 ≤ by_ ∧ by_ ≤ 100) (hz : ¬ (bx = 0 ∧ by_ = 0)) : 1 ≤ Int.gcd bx by_ ∧ Int.gcd bx by_ ≤ 100 := by
  have hp : 0 < Int.gcd bx by_ := Nat.pos_of_ne_zero fun e => hz (Int.gcd_eq_zero_iff.1 e)
  refine ⟨hp, ?_⟩
  by_cases h0 : bx = 0
  · have hb : by_ ≠ 0 := fun e => hz ⟨h0, e⟩
    have : Int.gcd bx by_ ≤ by_.natAbs := by unfold Int.gcd; exact Nat.gcd_le_right _ (by omega)
    omega
  · have : Int.gcd bx by_ ≤ bx.natAbs := by unfold Int.gcd; exact Nat.gcd_le_left _ (by omega)
    omega
theorem dir_bd {bx by_ : Int} (hx : -100 ≤ bx ∧ bx ≤ 100) (hy : -100 ≤ by_ ∧ by_ ≤ 100) : (-100 ≤ dirA bx by_ ∧ dirA bx by_ ≤ 100) ∧ (-100 ≤ dirB bx by_ ∧ dirB bx by_ ≤ 100) :=
  ⟨tdiv_bd _ (by omega), tdiv_bd _ hx⟩
theorem dir_ne {bx by_ : Int} (hz : ¬ (bx = 0 ∧ by_ = 0)) : dirA bx by_ ≠ 0 ∨ dirB bx by_ ≠ 0 := by
  by_cases h : dirA bx by_ = 0
  · refine .inr fun h2 => hz ?_
    unfold dirA at h
    unfold dirB at h2
    have d1 : ((Int.gcd bx by_ : Nat) : Int) ∣ bx := Int.gcd_dvd_left ..
    have d2 : ((Int.gcd bx by_ : Nat) : Int) ∣ -by_ := (Int.dvd_neg).2 (Int.gcd_dvd_right ..)
    have e1 := Int.mul_tdiv_cancel' d1
    have e2 := Int.mul_tdiv_cancel' d2
    rw [h2, Int.mul_zero] at e1
    rw [h, Int.mul_zero] at e2
    exact ⟨e1.symm, by omega⟩
  · exact .inl h
/-- what the reference makes of a side -/
theorem top_side {a b : Int} (ha : -50000 ≤ a ∧ a ≤ 50000) (hb : -50000 ≤ b ∧ b ≤ 50000) (hz : a ≠ 0 ∨ b ≠ 0) {p : List Half} (hp : Shape p) : topR a b (suppR p a b) = sideH p a b := by
  unfold topR
  by_cases hD : (suppR p a b).D ≤ 50000
  · rw [if_pos ⟨(supp_ok ha hb hp).1, hD⟩]
    rfl
  · rw [if_neg (fun e => hD e.2)]
    exact (halfOfZ_no (supp_big ha hb hz hp (by omega))).symm
theorem grow_void (bx by_ low high : Int) : growR [] bx by_ low high = ([], true) := by
  unfold growR; rw [if_pos (.inl rfl)]
theorem grow_still (p : List Half) {bx by_ : Int} (low high : Int) (hz : bx = 0 ∧ by_ = 0) : growR p bx by_ low high = (p, true) := by
  unfold growR; rw [if_pos (.inr hz)]
theorem grow_no1 {p : List Half} {bx by_ low high : Int} (hp : p ≠ []) (hz : ¬ (bx = 0 ∧ by_ = 0)) (h : (sideH p (dirA bx by_) (dirB bx by_)).2 = false ∨ (sideH p (-dirA bx by_) (-dirB bx by_)).2 = false) : growR p bx by_ low high = ([], false) := by
  unfold growR
  rw [if_neg (fun e => e.elim hp hz), if_neg]
  rintro ⟨h1, h2, _⟩
  rcases h with h | h
  · rw [h] at h1; cases h1
  · rw [h] at h2; cases h2
theorem grow_no2 {p : List Half} {bx by_ low high : Int} (hz : ¬ (bx = 0 ∧ by_ = 0)) {k : Nat} (hk : k < p.length) (h : (growH bx by_ low high p[k]).2 = false) : growR p bx by_ low high = ([], false) := by
  unfold growR
  rw [if_neg (fun e => e.elim (fun e => by rw [e] at hk; simp at hk) hz), if_neg]
  rintro ⟨_, _, h3⟩
  have := List.all_eq_true.1 h3 _ (List.getElem_mem hk)
  rw [h] at this
  cases this
theorem grow_all {p : List Half} {bx by_ low high : Int} (h : ∀ k (hk : k < p.length), (growH bx by_ low high p[k]).2 = true) : p.all (fun h => (growH bx by_ low high h).2) = true := by
  refine List.all_eq_true.2 fun x hx => ?_
  obtain ⟨i, hi, rfl⟩ := List.getElem_of_mem hx
  exact h i hi
theorem grow_yes {p : List Half} {bx by_ low high : Int} (hp : p ≠ []) (hz : ¬ (bx = 0 ∧ by_ = 0)) (h1 : (sideH p (dirA bx by_) (dirB bx by_)).2 = true) (h2 : (sideH p (-dirA bx by_) (-dirB bx by_)).2 = true) (h : ∀ k (hk : k < p.length), (growH bx by_ low high p[k]).2 = true) :
    growR p bx by_ low high = fitR (madeOf ([(sideH p (dirA bx by_) (dirB bx by_)).1, (sideH p (-dirA bx by_) (-dirB bx by_)).1] ++ p.map fun h => (growH bx by_ low high h).1)) := by
  unfold growR
  rw [if_neg (fun e => e.elim hp hz), if_pos ⟨h1, h2, grow_all h⟩]
theorem grow_list {p : List Half} {bx by_ low high : Int} (h1 : (sideH p (dirA bx by_) (dirB bx by_)).2 = true) (h2 : (sideH p (-dirA bx by_) (-dirB bx by_)).2 = true) (h : ∀ k (hk : k < p.length), (growH bx by_ low high p[k]).2 = true) :
    ([(sideH p (dirA bx by_) (dirB bx by_)).1, (sideH p (-dirA bx by_) (-dirB bx by_)).1] ++ p.map fun h => (growH bx by_ low high h).1).all halfOk = true := by
  refine List.all_eq_true.2 fun x hx => ?_
  rcases List.mem_append.1 hx with h | h
  · simp only [List.mem_cons, List.not_mem_nil, or_false] at h
    rcases h with rfl | rfl
    · exact halfOfZ_ok h1
    · exact halfOfZ_ok h2
  · obtain ⟨y, hy, rfl⟩ := List.mem_map.1 h
    exact halfOfZ_ok (List.all_eq_true.1 (grow_all ‹_›) y hy)
/-- the reference's order -/
theorem grow_yes2 {p : List Half} {bx by_ low high : Int} (hp : p ≠ []) (hz : ¬ (bx = 0 ∧ by_ = 0)) (h1 : (sideH p (dirA bx by_) (dirB bx by_)).2 = true) (h2 : (sideH p (-dirA bx by_) (-dirB bx by_)).2 = true) (h : ∀ k (hk : k < p.length), (growH bx by_ low high p[k]).2 = true) :
    growR p bx by_ low high = fitR (madeOf ((p.map fun h => (growH bx by_ low high h).1) ++ [(sideH p (dirA bx by_) (dirB bx by_)).1, (sideH p (-dirA bx by_) (-dirB bx by_)).1])) := by
  rw [grow_yes hp hz h1 h2 h, made_swap (grow_list h1 h2 h)]
/-- how far a half plane goes out -/
def growN (bx by_ low high : Int) (h : Half) : Int := max (-low * (h.A * bx + h.B * by_)) (-high * (h.A * bx + h.B * by_))
theorem growH_eq (bx by_ low high : Int) (h : Half) : growH bx by_ low high h = halfOfZ h.A h.B (h.C + growN bx by_ low high h) := by
  unfold growH growN
  congr 1
  omega
end Go.Proofs.YtjghabbcjpfjeaaGreatDoor
/- Contracts of copies of regions: Clone, copyRegion of the program, l08Region of the reference. -/
namespace Go.Proofs.YtjghabbcjpfjeaaGreatDoor
open Go.ChangeShapes Go.WideShapes Go.ChangeAt Go.RowKit
set_option linter.unusedVariables false
set_option maxRecDepth 100000

set_option maxHeartbeats 2000000 in
theorem clone_any (A : Option Addr) (n c : Nat) (hs : List Half) (w : World) (hn : hs.length = n) (hr : Row w A (ints (flat Half.ints hs))) (hA : A = none → n = 0 ∧ c = 0) (hle : n ≤ 1000) :
    Calls Tryz.prog 116 #[.slice A n c] w (HalvesMade hs w) := by
  obtain ⟨i0, hi0, hz0, hz1, hz2⟩ := info_parts half_info
  rcases A with _ | ⟨b, off, z⟩
  · obtain ⟨rfl, rfl⟩ := hA rfl
    have hnil : hs = [] := List.length_eq_zero_iff.1 hn
    subst hnil
    have q : ∀ (w : World) (a : Option Addr) (n c n' c' : Nat), (binOp .eql 24 (.slice a n c) (.slice none n' c')).run Tryz.prog w = .ok (.bool a.isNone) w := fun w a n c n' c' => Lib.run_eql_slice_nil w _ _ a n c n' c' Tryz.underlying24
    clear hr hA hn
    go_enter Tryz.func116, Tryz.ntmps116
    go_wp2
    go_ret
    exact ⟨none, 0, 0, rfl, rfl, Ext.refl w, World.ownsRow_nil _ _ _ _⟩
  have q : ∀ (w : World) (a : Option Addr) (n c n' c' : Nat), (binOp .eql 24 (.slice a n c) (.slice none n' c')).run Tryz.prog w = .ok (.bool a.isNone) w := fun w a n c n' c' => Lib.run_eql_slice_nil w _ _ a n c n' c' Tryz.underlying24
  have hxa : Ext w (w.alloc (.cells #[] 120)) := (Ext.refl w).alloc _
  have hlit : (w.alloc (.cells #[] 120)).ownsRow w.heap.size 120 3 (.slice (some ⟨w.heap.size, 0, none⟩) 0 0) 0 [] := by
    simpa using World.ownsRow_lit (base := w.heap.size) (e := 120) (size := 3) w #[] 0 (Nat.le_refl _) (by unfold maxLen; omega) rfl
  have hca := hr.ext hxa
  have hfl : (ints (flat Half.ints hs)).length = n * 3 := by rw [ints_length, flat_length Half.ints_len, hn]
  have HN := Lib.hid hn
  clear hr hA hn
  go_enter Tryz.func116, Tryz.ntmps116
  go_wp2_with (at_builtin; go_must (refine wpList_append_src rfl _ _ 24 rfl w.heap.size 120 i0 (.agg #[.int .i64 0, .int .i64 0, .int .i64 0]) 3 24 Tryz.underlying24 hi0 hz0 hz1 hz2 rfl (by decide) _ _ _ rfl hlit (some ⟨b, off, z⟩) n c (ints (flat Half.ints hs)) rfl (by rintro ⟨⟩) hfl hca (oneCell_ints _) (by unfold maxLen; omega) (by omega) (by simp) ?_); intro v1 w1 hown1 hgrow1; obtain ⟨A1, c1, rfl⟩ := own_form hown1)
  have hx1 : Ext w w1 := hxa.grown hgrow1 (fun g e => (World.ownsRow.lt hlit _ e).1)
  simp only [Nat.zero_add, List.nil_append] at hown1
  go_wp2
  go_ret
  exact ⟨A1, c1, n, rfl, HN.out.symm, hx1, hown1⟩
set_option maxHeartbeats 2000000 in
theorem implCopyRegion_any (A : Option Addr) (n c : Nat) (hs : List Half) (w : World) (hn : hs.length = n) (hr : Row w A (ints (flat Half.ints hs))) (hA : A = none → n = 0 ∧ c = 0) (hle : n ≤ 1000) :
    Calls Tryz.prog 91 #[.agg #[.slice A n c]] w (RegOne hs w) := by
  have hx : Ext w ((w.alloc (.cells #[.slice A n c] 26)).alloc (.cells #[.slice none 0 0] 26)) := ((Ext.refl w).alloc _).alloc _
  have bP := (Blk.new w 26 #[.slice A n c]).alloc (.cells #[.slice none 0 0] 26)
  have bR := Blk.new (w.alloc (.cells #[.slice A n c] 26)) 26 #[.slice none 0 0]
  simp only [World.size_alloc] at bR
  have HC := Lib.hid (fun w hr => clone_any A n c hs w hn hr hA hle)
  have HR := Lib.hid hr
  have cP := fun o => bP.cell o
  clear hn hr hA hle
  go_enter Tryz.func91, Tryz.ntmps91
  go_wp2_with fail
  refine (HC.out _ (HR.out.ext hx)).mono ?_
  rintro e w1 ⟨A1, c1, n1, rfl, hn1, hx1, hown1⟩
  subst hn1
  have b1 := bR.ext hx1
  have c0 := fun o => b1.cell o
  have f0 := fun o => b1.frozen o
  have hy1 := hx.trans hx1
  clear cP
  go_wp2
  have bF := b1.set_ 0 (.slice A1 hs.length c1)
  have cF := fun o => bF.cell o
  clear c0 f0
  refine bodyPost_ret (v := .agg #[.slice A1 hs.length c1]) (by simp [results, Tryz.results91, go_sem, cF]) rfl ?_
  exact ⟨A1, c1, _, rfl, rfl, hy1.setCell (by simp only; omega) _, own_base (own_far hown1 (by simp <;> omega) _) (by simp only [World.size_alloc]; omega)⟩
end Go.Proofs.YtjghabbcjpfjeaaGreatDoor
