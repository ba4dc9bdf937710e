/- Contracts of l07Grown and GrowAlong of the reference, for valid regions. -/
import Derived.Test.YtigkgnplgehmhaaGreatDoorLz
import Derived.Test.YtigkgnplgehmhaaGreatDoorSz
import Derived.Deep.AppendLies
import Derived.Test.YtigkgnplgehmhaaGreatDoorRz
import Derived.Deep.LoopGhost
import Derived.Test.YtigkgnplgehmhaaGreatDoorCl
import Derived.Test.YtigkgnplgehmhaaGreatDoorSs
import Derived.Deep.RegionHeld3
namespace Go.Proofs.YtigkgnplgehmhaaGreatDoor
open Go.ChangeShapes Go.WideShapes Go.ChangeAt Go.RowKit
set_option linter.unusedVariables false
set_option maxRecDepth 100000

def dirsL (bx by_ : Int) : List Half := [⟨dirA bx by_, dirB bx by_, 0⟩, ⟨-dirA bx by_, -dirB bx by_, 0⟩]
def sideD (hs : List Half) (d : Half) : Half × Bool := sideH hs d.A d.B
/-- the half planes of a grown region, in the reference's order -/
def grownL (hs : List Half) (bx by_ low high : Int) : List Half × Bool :=
  if hs.all (fun h => (growH bx by_ low high h).2) = true ∧ (dirsL bx by_).all (fun d => (sideD hs d).2) = true then ((hs.map fun h => (growH bx by_ low high h).1) ++ (dirsL bx by_).map fun d => (sideD hs d).1, true) else ([], false)
theorem grown_no1 {hs : List Half} {bx by_ low high : Int} {k : Nat} (hk : k < hs.length) (h : (growH bx by_ low high hs[k]).2 = false) : grownL hs bx by_ low high = ([], false) := by
  unfold grownL
  rw [if_neg]
  rintro ⟨h1, _⟩
  have := List.all_eq_true.1 h1 _ (List.getElem_mem hk)
  rw [h] at this; cases this
theorem grown_no2 {hs : List Half} {bx by_ low high : Int} {k : Nat} (hk : k < (dirsL bx by_).length) (h : (sideD hs (dirsL bx by_)[k]).2 = false) : grownL hs bx by_ low high = ([], false) := by
  unfold grownL
  rw [if_neg]
  rintro ⟨_, h1⟩
  have := List.all_eq_true.1 h1 _ (List.getElem_mem hk)
  rw [h] at this; cases this
theorem grown_yes {hs : List Half} {bx by_ low high : Int} (h1 : ∀ k (hk : k < hs.length), (growH bx by_ low high hs[k]).2 = true) (h2 : ∀ k (hk : k < (dirsL bx by_).length), (sideD hs (dirsL bx by_)[k]).2 = true) :
    grownL hs bx by_ low high = (movedTo (growH bx by_ low high) hs hs.length ++ movedTo (sideD hs) (dirsL bx by_) (dirsL bx by_).length, true) := by
  unfold grownL
  rw [if_pos, movedTo_all, movedTo_all]
  refine ⟨grow_all h1, List.all_eq_true.2 fun x hx => ?_⟩
  obtain ⟨i, hi, rfl⟩ := List.getElem_of_mem hx
  exact h2 i hi
theorem grown_all {hs : List Half} {bx by_ low high : Int} : (grownL hs bx by_ low high).1.all halfOk = true := by
  unfold grownL
  split
  · rename_i h
    refine List.all_eq_true.2 fun x hx => ?_
    rcases List.mem_append.1 hx with hx | hx
    · obtain ⟨y, hy, rfl⟩ := List.mem_map.1 hx
      exact halfOfZ_ok (List.all_eq_true.1 h.1 y hy)
    · obtain ⟨y, hy, rfl⟩ := List.mem_map.1 hx
      exact halfOfZ_ok (List.all_eq_true.1 h.2 y hy)
  · rfl
theorem grown_len {hs : List Half} {bx by_ low high : Int} : (grownL hs bx by_ low high).1.length ≤ hs.length + 2 := by
  unfold grownL
  split
  · rw [List.length_append, List.length_map, List.length_map]; exact Nat.le_refl _
  · exact Nat.zero_le _
theorem grow_grown {hs : List Half} {bx by_ low high : Int} (hp : hs ≠ []) (hz : ¬ (bx = 0 ∧ by_ = 0)) : growR hs bx by_ low high = if (grownL hs bx by_ low high).2 = true then fitR (madeOf (grownL hs bx by_ low high).1) else ([], false) := by
  by_cases h : hs.all (fun h => (growH bx by_ low high h).2) = true ∧ (dirsL bx by_).all (fun d => (sideD hs d).2) = true
  · have e : grownL hs bx by_ low high = ((hs.map fun h => (growH bx by_ low high h).1) ++ (dirsL bx by_).map fun d => (sideD hs d).1, true) := by unfold grownL; rw [if_pos h]
    rw [e, if_pos rfl]
    have h2 := h.2
    simp only [dirsL, List.all_cons, List.all_nil, Bool.and_true, Bool.and_eq_true] at h2
    exact grow_yes2 hp hz h2.1 h2.2 (fun k hk => List.all_eq_true.1 h.1 _ (List.getElem_mem hk))
  · have e : grownL hs bx by_ low high = ([], false) := by unfold grownL; rw [if_neg h]
    rw [e, if_neg (by simp)]
    unfold growR
    rw [if_neg (fun e => e.elim hp hz), if_neg]
    rintro ⟨h1, h2, h3⟩
    refine h ⟨h3, ?_⟩
    simp only [dirsL, List.all_cons, List.all_nil, Bool.and_true, Bool.and_eq_true]
    exact ⟨h1, h2⟩
/-- half planes were made, and a bool -/
def ListMade (r : List Half × Bool) (w : World) (e : Ending) (w' : World) : Prop :=
  ∃ A c n, e = .returned (.tuple #[.slice A n c, .bool r.2]) ∧ n = r.1.length ∧ Ext w w' ∧ w'.ownsRow w.heap.size 101 3 (.slice A n c) n (ints (flat Half.ints r.1))
theorem ListMade.nil {r : List Half × Bool} {w w' : World} {e : Ending} (b : Bool) (hr : r = ([], b)) (he : e = .returned (.tuple #[.slice none 0 0, .bool b])) (hx : Ext w w') : ListMade r w e w' := by
  subst hr
  exact ⟨none, 0, 0, he, rfl, hx, World.ownsRow_nil _ _ _ _⟩
theorem gcdI_small {bx by_ : Int} (hx : -100 ≤ bx ∧ bx ≤ 100) (hy : -100 ≤ by_ ∧ by_ ≤ 100) : gcdI bx by_ = (Int.gcd bx by_ : Int) := by
  unfold gcdI
  rw [if_neg]
  rintro (h | h) <;> (unfold isLeastI at h; simp at h; omega)
set_option maxHeartbeats 32000000 in
theorem l07Grown_any (A : Option Addr) (n c : Nat) (bx by_ low high : Int) (hs : List Half) (w : World) (hn : hs.length = n) (hk : regOk hs = true) (hne : hs ≠ []) (hz : ¬ (bx = 0 ∧ by_ = 0)) (hx_ : -100 ≤ bx ∧ bx ≤ 100) (hy_ : -100 ≤ by_ ∧ by_ ≤ 100) (hlo : -1000 ≤ low ∧ low ≤ 1000) (hhi : -1000 ≤ high ∧ high ≤ 1000) (hr : Row w A (ints (flat Half.ints hs))) :
    Calls Tryz.prog 179 #[.agg #[.slice A n c], .int .i64 bx, .int .i64 by_, .int .i64 low, .int .i64 high] w (ListMade (grownL hs bx by_ low high) w) := by
  obtain ⟨i0, hi0, hz0, hz1, hz2⟩ := info_parts half_info
  have hle : n ≤ 40 := by have := regOk_len hk; omega
  have hS := shape_of hk hne
  have HR := Lib.hid hr
  have HN := Lib.hid hn
  have HOk : Hid (∀ k (hk : k < hs.length), halfOk hs[k] = true) := fun k h => List.all_eq_true.1 (regOk_all hk) _ (List.getElem_mem h)
  obtain ⟨⟨a1, a2⟩, b1, b2⟩ := dir_bd hx_ hy_
  obtain ⟨g1, g2⟩ := gcd_small hx_ hy_ hz
  have HGc := Lib.hid (fun w => specGcd_any bx by_ w (by unfold I64; omega) (by unfold I64; omega))
  rw [gcdI_small hx_ hy_] at HGc
  have HFar := Lib.hid (fun a b (ha : -50000 ≤ a ∧ a ≤ 50000) (hb : -50000 ≤ b ∧ b ≤ 50000) w hr => l06Far_any A n c a b hs w hn hk hne ha hb hr)
  have HTop := Lib.hid (fun a b (ha : -50000 ≤ a ∧ a ≤ 50000) (hb : -50000 ≤ b ∧ b ≤ 50000) (hz : a ≠ 0 ∨ b ≠ 0) => top_side ha hb hz hS)
  have HSo := Lib.hid (fun a b (ha : -50000 ≤ a ∧ a ≤ 50000) (hb : -50000 ≤ b ∧ b ≤ 50000) => supp_ok ha hb hS)
  have HDn := Lib.hid (dir_ne hz)
  have HNo1 := Lib.hid (fun k hk h => grown_no1 (hs := hs) (bx := bx) (by_ := by_) (low := low) (high := high) (k := k) hk h)
  have HNo2 := Lib.hid (fun k hk h => grown_no2 (hs := hs) (bx := bx) (by_ := by_) (low := low) (high := high) (k := k) hk h)
  have HYes := Lib.hid (fun h1 h2 => grown_yes (hs := hs) (bx := bx) (by_ := by_) (low := low) (high := high) h1 h2)
  generalize grownL hs bx by_ low high = GL at *
  have hx : Ext w (w.alloc (.cells #[.slice A n c] 35)) := (Ext.refl w).alloc _
  have bP := Blk.new w 35 #[.slice A n c]
  have hxa := hx.alloc (.cells #[] 101)
  have bPa := bP.alloc (.cells #[] 101)
  have hown0 : ((w.alloc (.cells #[.slice A n c] 35)).alloc (.cells #[] 101)).ownsRow (w.heap.size + 1) 101 3 (.slice (some ⟨w.heap.size + 1, 0, none⟩) 0 0) 0 (ints (flat Half.ints (movedTo (growH bx by_ low high) hs 0))) := by
    simpa [movedTo, flat, ints] using World.ownsRow_lit (base := w.heap.size + 1) (e := 101) (size := 3) (w.alloc (.cells #[.slice A n c] 35)) #[] 0 (by simp) (by unfold maxLen; omega) rfl
  have cP := fun o => bPa.cell o
  clear hr hn hk hne hS
  go_enter Tryz.func179, Tryz.ntmps179
  go_wp2
  clear cP
  go_loopw [12, 29] (fun v i wr => ∃ k : Nat, k ≤ n ∧ i = .int .i64 k ∧ (∀ j (hj : j < hs.length), j < k → (growH bx by_ low high hs[j]).2 = true) ∧ Ext w wr ∧ Blk wr w.heap.size 35 #[.slice A n c] ∧ wr.ownsRow (w.heap.size + 1) 101 3 v k (ints (flat Half.ints (movedTo (growH bx by_ low high) hs k)))) (fun _ i _ => n - (intOf i).toNat)
  case atStart => exact ⟨0, Nat.zero_le _, rfl, fun j _ h => by omega, hxa, bPa, hown0⟩
  case round =>
  obtain ⟨k, hk, rfl, hall, hy, bQ, hown⟩ := hrel
  have hsz := hy.size
  have hQl := bQ.lt
  have HAll := Lib.hid hall
  clear hall hown0 bP bPa hx hxa
  by_cases hlt : k < n
  rotate_left
  · obtain rfl : k = n := by omega
    have hallF : Hid (∀ j (hj : j < hs.length), (growH bx by_ low high hs[j]).2 = true) := fun j hj => HAll.out j hj (by have := HN.out; omega)
    have wn1 : IntKind.i64.wrap (-by_) = -by_ := IntWalk.i64_in _ (by omega)
    have wn2 : IntKind.i64.wrap (-bx) = -bx := IntWalk.i64_in _ (by omega)
    have t1 : (-by_).tdiv (Int.gcd bx by_ : Int) = dirA bx by_ := rfl
    have t2 : bx.tdiv (Int.gcd bx by_ : Int) = dirB bx by_ := rfl
    have t3 : by_.tdiv (Int.gcd bx by_ : Int) = -dirA bx by_ := by unfold dirA; rw [Int.neg_tdiv, Int.neg_neg]
    have t4 : (-bx).tdiv (Int.gcd bx by_ : Int) = -dirB bx by_ := by unfold dirB; rw [Int.neg_tdiv]
    have HDs : Hid (dirsL bx by_ = [⟨dirA bx by_, dirB bx by_, 0⟩, ⟨-dirA bx by_, -dirB bx by_, 0⟩]) := rfl
    generalize dirA bx by_ = dA at *
    generalize dirB bx by_ = dB at *
    obtain ⟨g, hg⟩ : ∃ g : Int, (Int.gcd bx by_ : Int) = g := ⟨_, rfl⟩
    rw [hg] at t1 t2 t3 t4 HGc
    have hg0 : ¬ g = 0 := by omega
    have hg0b : (g == 0) = false := by rw [beq_eq_false_iff_ne]; exact hg0
    have v1 : IntKind.i64.wrap (-(by_.tdiv g)) = dA := by rw [← Int.neg_tdiv, t1]; exact IntWalk.i64_in _ (by omega)
    have v2 : IntKind.i64.wrap (bx.tdiv g) = dB := by rw [t2]; exact IntWalk.i64_in _ (by omega)
    have v3 : IntKind.i64.wrap (by_.tdiv g) = -dA := by rw [t3]; exact IntWalk.i64_in _ (by omega)
    have v4 : IntKind.i64.wrap (-(bx.tdiv g)) = -dB := by rw [← Int.neg_tdiv, t4]; exact IntWalk.i64_in _ (by omega)
    clear t1 t2 t3 t4 hg g1 g2
    go_wp2_with fail
    refine (HGc.out _).mono ?_
    rintro e w2 ⟨rfl, hx2⟩
    replace hy := hy.trans hx2
    replace bQ := bQ.ext hx2
    replace hown := own_ext hown hx2
    go_wp2_with fail
    go_region
    have bL := Blk.ext (Blk.new w2 101 #[.int .i64 dA, .int .i64 dB, .int .i64 0, .int .i64 (-dA), .int .i64 (-dB), .int .i64 0]) ((Ext.refl _).drew)
    have hy2 := (hy.alloc (.cells #[.int .i64 dA, .int .i64 dB, .int .i64 0, .int .i64 (-dA), .int .i64 (-dB), .int .i64 0] 101)).drew
    have bQ2 := Blk.ext (bQ.alloc (.cells #[.int .i64 dA, .int .i64 dB, .int .i64 0, .int .i64 (-dA), .int .i64 (-dB), .int .i64 0] 101)) ((Ext.refl _).drew)
    have hownV := own_ext hown (((Ext.refl w2).alloc (.cells #[.int .i64 dA, .int .i64 dB, .int .i64 0, .int .i64 (-dA), .int .i64 (-dB), .int .i64 0] 101)).drew)
    obtain ⟨A3, c3, rfl⟩ := own_form hown
    have hfar : ∀ q, Value.ownBlock (.slice A3 k c3) = some q → q ≠ w2.heap.size := fun q hq => by have := (hown.lt q hq).2; omega
    have hL1 := HN.out
    generalize (w2.alloc (.cells #[.int .i64 dA, .int .i64 dB, .int .i64 0, .int .i64 (-dA), .int .i64 (-dB), .int .i64 0] 101)).drew = V at *
    have hVl := bL.lt
    have hVw : w.heap.size < w2.heap.size := by have := bQ.lt; omega
    generalize w2.heap.size = BL at *
    obtain ⟨AL, hAL⟩ : ∃ AL : Option Addr, some (⟨BL, 0, none⟩ : Addr) = AL := ⟨_, rfl⟩
    rw [hAL]
    have HAL := Lib.hid hAL
    obtain ⟨D, hDD⟩ : ∃ D, dirsL bx by_ = D := ⟨_, rfl⟩
    have HDs2 : Hid (D = [⟨dA, dB, 0⟩, ⟨-dA, -dB, 0⟩]) := hDD.symm.trans HDs.out
    rw [hDD] at HNo2 HYes
    have hDl : D.length = 2 := by rw [HDs2.out]; rfl
    have HDb : Hid (∀ q (hq : q < D.length), (-100 ≤ D[q].A ∧ D[q].A ≤ 100) ∧ (-100 ≤ D[q].B ∧ D[q].B ≤ 100) ∧ (D[q].A ≠ 0 ∨ D[q].B ≠ 0)) := by
      rw [Hid, HDs2.out]
      intro q hq
      match q, hq with
      | 0, _ => exact ⟨⟨a1, a2⟩, ⟨b1, b2⟩, HDn.out⟩
      | 1, _ => exact ⟨by simp only [List.getElem_cons_succ, List.getElem_cons_zero]; omega, by simp only [List.getElem_cons_succ, List.getElem_cons_zero]; omega, by have := HDn.out; simp only [List.getElem_cons_succ, List.getElem_cons_zero]; omega⟩
    have HRowL : Hid (∀ V', Blk V' BL 101 #[.int .i64 dA, .int .i64 dB, .int .i64 0, .int .i64 (-dA), .int .i64 (-dB), .int .i64 0] → Row V' AL (ints (flat Half.ints D))) := by
      intro V' hB
      rw [← HAL.out, HDs2.out]
      refine .inr ⟨BL, 0, rfl, fun j v hj => ?_⟩
      rw [hB.cell, Nat.zero_add]
      simpa [ints, flat, Half.ints] using hj
    clear hAL hDD HAL HDs HDs2 a1 a2 b1 b2 v1 v2 v3 v4 wn1 wn2 hg0 hg0b HDn HGc hown hy bQ
    go_wp2
    go_loopw [12, 90] (fun v i wr => ∃ q : Nat, q ≤ 2 ∧ i = .int .i64 q ∧ (∀ j (hj : j < D.length), j < q → (sideD hs D[j]).2 = true) ∧ Ext w wr ∧ Blk wr w.heap.size 35 #[.slice A k c] ∧ Blk wr BL 101 #[.int .i64 dA, .int .i64 dB, .int .i64 0, .int .i64 (-dA), .int .i64 (-dB), .int .i64 0] ∧ (∀ g, Value.ownBlock v = some g → g ≠ BL) ∧ wr.ownsRow (w.heap.size + 1) 101 3 v (k + q) (ints (flat Half.ints (movedTo (growH bx by_ low high) hs k ++ movedTo (sideD hs) D q)))) (fun _ i _ => 2 - (intOf i).toNat)
    case atStart => exact ⟨0, Nat.zero_le _, rfl, fun j _ h => by omega, hy2, bQ2, bL, hfar, by simpa [movedTo] using hownV⟩
    case round =>
    obtain ⟨q, hq, rfl, hall2, hy, bQ, bL, hfr, hown⟩ := hrel
    have HAll2 := Lib.hid hall2
    clear hall2 hfar hy2 bQ2 hownV
    have hdl := bL.lt
    have hsz2 := hy.size
    by_cases hlt2 : q < 2
    rotate_left
    · obtain rfl : q = 2 := by omega
      obtain ⟨A4, c4, rfl⟩ := own_form hown
      have HG := Lib.hid (HYes.out hallF.out (fun j hj => HAll2.out j hj (by omega)))
      have hk' : hs.length = k := HN.out
      rw [hk', hDl] at HG
      have hlen : (movedTo (growH bx by_ low high) hs k ++ movedTo (sideD hs) D 2).length = k + 2 := by rw [List.length_append, movedTo_len (by omega), movedTo_len (by omega)]
      have HLn := Lib.hid hlen
      clear hlen hk'
      go_wp2
      refine bodyPost_ret (v := .tuple #[.slice A4 (k + 2) c4, .bool true]) (by simp [results, Tryz.results179, go_sem]) rfl ?_
      rw [HG.out]
      exact ⟨A4, c4, _, rfl, HLn.out.symm, hy, own_base hown (by omega)⟩
    have hql : q < D.length := by omega
    have hRL := HRowL.out _ bL
    obtain ⟨b, off, rfl, hb, c0, c1, c2⟩ := hRL.Half (k := q) hql
    obtain ⟨⟨d1, d2⟩, ⟨d3, d4⟩, d5⟩ := HDb.out q hql
    have HMk := Lib.hid (movedTo_succ (f := sideD hs) hql)
    have HFail := Lib.hid (HNo2.out q hql)
    have HNext : Hid ((sideD hs D[q]).2 = true → ∀ j (hj : j < D.length), j < q + 1 → (sideD hs D[j]).2 = true) := by
      intro h j hj hjk
      by_cases e : j = q
      · subst e; exact h
      · exact HAll2.out j hj (by omega)
    obtain ⟨g, hg⟩ : ∃ g, D[q]'hql = g := ⟨_, rfl⟩
    rw [hg] at c0 c1 c2 d1 d2 d3 d4 d5 HMk HFail HNext
    have HTp : topR g.A g.B ⟨(suppR hs g.A g.B).N, (suppR hs g.A g.B).D⟩ = sideD hs g := HTop.out g.A g.B (by omega) (by omega) d5
    have HFr := Lib.hid (fun w hr => HFar.out g.A g.B (by omega) (by omega) w hr)
    generalize (farOf g.A g.B hs).1 = fi at HFr
    obtain ⟨q1, q2, q3, q4, q5⟩ := HSo.out g.A g.B (by omega) (by omega)
    have HTo := Lib.hid (fun w => l07Top_any g.A g.B (suppR hs g.A g.B).N (suppR hs g.A g.B).D w (by omega) (by omega) (by unfold I64; omega) (by unfold I64; omega))
    rw [HTp] at HTo
    generalize suppR hs g.A g.B = S at *
    generalize sideD hs g = E at *
    obtain ⟨F1, ok⟩ := E
    dsimp only at HMk HFail HNext HTo
    clear HTp hg hql q1 q2 q3 q4 q5 d1 d2 d3 d4 d5 hRL
    have bG := Blk.new wr 101 #[.int .i64 g.A, .int .i64 g.B, .int .i64 g.C]
    have hA := (Ext.refl wr).alloc (.cells #[.int .i64 g.A, .int .i64 g.B, .int .i64 g.C] 101)
    replace hy := hy.trans hA
    replace bQ := bQ.ext hA
    replace bL := bL.ext hA
    replace hown := own_ext hown hA
    have cQ := fun o => bQ.cell o
    have cG := fun o => bG.cell o
    go_wp2_with fail
    refine (HFr.out _ (HR.out.ext hy)).mono ?_
    rintro e w5 ⟨rfl, hx5⟩
    have bS := Blk.new w5 55 #[.int .i64 S.N, .int .i64 S.D]
    have hA5 := hx5.trans ((Ext.refl w5).alloc (.cells #[.int .i64 S.N, .int .i64 S.D] 55))
    replace hy := hy.trans hA5
    replace bQ := bQ.ext hA5
    replace bL := bL.ext hA5
    replace bG := bG.ext hA5
    replace hown := own_ext hown hA5
    clear cQ cG c0 c1 c2
    have cG := fun o => bG.cell o
    have cS := fun o => bS.cell o
    go_wp2_with fail
    refine (HTo.out _).mono ?_
    rintro e w7 ⟨rfl, hx7⟩
    replace hy := hy.trans hx7
    replace bQ := bQ.ext hx7
    replace bL := bL.ext hx7
    replace hown := own_ext hown hx7
    have bN := Blk.new w7 101 #[.int .i64 F1.A, .int .i64 F1.B, .int .i64 F1.C]
    have hA7 := (Ext.refl w7).alloc (.cells #[.int .i64 F1.A, .int .i64 F1.B, .int .i64 F1.C] 101)
    replace hy := hy.trans hA7
    replace bQ := bQ.ext hA7
    replace bL := bL.ext hA7
    replace hown := own_ext hown hA7
    have cN := fun o => bN.cell o
    clear cG cS bG bS
    cases ok
    · have HM := Lib.hid (HFail.out rfl)
      go_wp2
      refine bodyPost_ret (v := .tuple #[.slice none 0 0, .bool false]) (by simp [results, Tryz.results179, go_sem]) rfl ?_
      exact ListMade.nil false HM.out rfl hy
    have hnews := Blk.new (w7.alloc (.cells #[.int .i64 F1.A, .int .i64 F1.B, .int .i64 F1.C] 101)) 101 #[.int .i64 F1.A, .int .i64 F1.B, .int .i64 F1.C]
    have HLT := Lib.hid hlt2
    simp only [World.size_alloc] at hnews
    have hbl7 := bL.lt
    have hwl7 := hy.size
    go_wp2_with (at_builtin; go_must (refine wpList_append_lies _ rfl _ _ 33 rfl (w.heap.size + 1) 101 i0 (.agg #[.int .i64 0, .int .i64 0, .int .i64 0]) 3 24 Tryz.underlying33 hi0 hz0 hz1 hz2 rfl (by decide) _ _ _ rfl (hown.alloc _) ⟨w7.heap.size + 1, 0, none⟩ 1 1 #[.int .i64 F1.A, .int .i64 F1.B, .int .i64 F1.C].toList rfl rfl (row_add (fun j v hj => by rw [hnews.cell, Nat.zero_add]; simpa using hj)) (by simp [Value.oneCell']) (by omega) (by unfold maxLen; omega) (by omega) (by simp only [World.size_alloc] at hwl7 ⊢; omega) _ rfl ?_); intro g' cap' w8 hown' hgrow hat hlt8)
    have hy8 : Ext w w8 := (hy.alloc _).grown hgrow (fun q hq => by have := (hown.lt q hq).1; omega)
    have bQ8 := (hgrow.block w.heap.size (bQ.alloc (.cells #[.int .i64 F1.A, .int .i64 F1.B, .int .i64 F1.C] 101)).lt (fun e => by have := (hown.lt _ e.symm).1; omega)).trans (bQ.alloc (.cells #[.int .i64 F1.A, .int .i64 F1.B, .int .i64 F1.C] 101))
    have bL8 := (hgrow.block BL (bL.alloc (.cells #[.int .i64 F1.A, .int .i64 F1.B, .int .i64 F1.C] 101)).lt (fun e => hfr _ e.symm rfl)).trans (bL.alloc (.cells #[.int .i64 F1.A, .int .i64 F1.B, .int .i64 F1.C] 101))
    go_roundw
    case rel =>
      refine ⟨q + 1, HLT.out, by go_num, HNext.out (by first | rfl | trivial), hy8, bQ8, bL8, ?_, by rw [HMk.out, ← List.append_assoc, halves_add]; exact hown'⟩
      intro g hg
      obtain rfl : g' = g := by simpa [Value.ownBlock] using hg
      rcases hat with hat | hat
      · exact hfr _ hat
      · rw [hat]
        simp only [World.size_alloc] at hbl7 ⊢
        omega
    case measure => have := HLT.out; simp [intOf]; omega
  have hkl : k < hs.length := by rw [HN.out]; exact hlt
  obtain ⟨b, off, rfl, hb, c0, c1, c2⟩ := (HR.out.ext hy).Half (k := k) hkl
  have hh := HOk.out k hkl
  have HMk := Lib.hid (movedTo_succ (f := growH bx by_ low high) hkl)
  have HFail := Lib.hid (HNo1.out k hkl)
  have HNext : Hid ((growH bx by_ low high hs[k]).2 = true → ∀ j (hj : j < hs.length), j < k + 1 → (growH bx by_ low high hs[j]).2 = true) := by
    intro h j hj hjk
    by_cases e : j = k
    · subst e; exact h
    · exact HAll.out j hj (by omega)
  obtain ⟨g, hg⟩ : ∃ g, hs[k]'hkl = g := ⟨_, rfl⟩
  rw [hg] at c0 c1 c2 hh HMk HFail HNext
  obtain ⟨b1, b2, b3, b4, b5, b6, _⟩ := halfOk_bd hh
  have HGe := Lib.hid (growH_eq bx by_ low high g)
  rw [HGe.out] at HMk HFail HNext
  have m1 := mul_bd (a := g.A) (b := bx) (A := 50000) (B := 100) ⟨b1, b2⟩ hx_
  have m2 := mul_bd (a := g.B) (b := by_) (A := 50000) (B := 100) ⟨b3, b4⟩ hy_
  have w1 : IntKind.i64.wrap (g.A * bx) = g.A * bx := IntWalk.i64_in _ (by omega)
  have w2 : IntKind.i64.wrap (g.B * by_) = g.B * by_ := IntWalk.i64_in _ (by omega)
  have w3 : IntKind.i64.wrap (g.A * bx + g.B * by_) = g.A * bx + g.B * by_ := IntWalk.i64_in _ (by omega)
  have w4 : IntKind.i64.wrap (-low) = -low := IntWalk.i64_in _ (by omega)
  have w5 : IntKind.i64.wrap (-high) = -high := IntWalk.i64_in _ (by omega)
  unfold growN at HMk HFail HNext
  obtain ⟨p1, hp1⟩ : ∃ x, g.A * bx = x := ⟨_, rfl⟩
  obtain ⟨p2, hp2⟩ : ∃ x, g.B * by_ = x := ⟨_, rfl⟩
  rw [hp1, hp2] at HMk HFail HNext w3
  rw [hp1] at m1
  rw [hp2] at m2
  replace w1 := w1.trans hp1
  replace w2 := w2.trans hp2
  clear hp1 hp2 hg hkl
  obtain ⟨z, hz⟩ : ∃ z, p1 + p2 = z := ⟨_, rfl⟩
  rw [hz] at HMk HFail HNext
  replace w3 := w3.trans hz
  have m3 := mul_bd (a := -low) (b := z) (A := 1000) (B := 10000000) ⟨by omega, by omega⟩ ⟨by omega, by omega⟩
  have m4 := mul_bd (a := -high) (b := z) (A := 1000) (B := 10000000) ⟨by omega, by omega⟩ ⟨by omega, by omega⟩
  have w6 : IntKind.i64.wrap (-low * z) = -low * z := IntWalk.i64_in _ (by omega)
  have w7 : IntKind.i64.wrap (-high * z) = -high * z := IntWalk.i64_in _ (by omega)
  obtain ⟨q1, hq1⟩ : ∃ x, -low * z = x := ⟨_, rfl⟩
  obtain ⟨q2, hq2⟩ : ∃ x, -high * z = x := ⟨_, rfl⟩
  rw [hq1, hq2] at HMk HFail HNext
  rw [hq1] at m3
  rw [hq2] at m4
  replace w6 := w6.trans hq1
  replace w7 := w7.trans hq2
  obtain ⟨m, hm⟩ : ∃ m, max q1 q2 = m := ⟨_, rfl⟩
  rw [hm] at HMk HFail HNext
  have w8 : IntKind.i64.wrap (g.C + m) = g.C + m := IntWalk.i64_in _ (by omega)
  have HHf := Lib.hid (fun w => specHalfOf_any g.A g.B (g.C + m) w (by unfold I64; omega) (by unfold I64; omega) (by unfold I64; omega))
  obtain ⟨F, hF⟩ : ∃ F, halfOfZ g.A g.B (g.C + m) = F := ⟨_, rfl⟩
  rw [hF] at HMk HFail HNext HHf
  clear hF hz hq1 hq2 m1 m2 m3 m4 b1 b2 b3 b4 b5 b6 hh
  obtain ⟨F1, ok⟩ := F
  dsimp only at HMk HFail HNext HHf
  have bG := Blk.new wr 101 #[.int .i64 g.A, .int .i64 g.B, .int .i64 g.C]
  have cG := fun o => bG.cell o
  have hA := (Ext.refl wr).alloc (.cells #[.int .i64 g.A, .int .i64 g.B, .int .i64 g.C] 101)
  replace hy := hy.trans hA
  replace bQ := bQ.ext hA
  replace hown := own_ext hown hA
  go_wp2_with fail
  refine (HHf.out _).mono ?_
  rintro e w5_ ⟨rfl, hx5⟩
  replace hy := hy.trans hx5
  replace bQ := bQ.ext hx5
  replace hown := own_ext hown hx5
  have hQ5 := bQ.lt
  have bQ5 := bQ
  have hy5 := hy
  have bN := Blk.new w5_ 101 #[.int .i64 F1.A, .int .i64 F1.B, .int .i64 F1.C]
  have hA5 := (Ext.refl w5_).alloc (.cells #[.int .i64 F1.A, .int .i64 F1.B, .int .i64 F1.C] 101)
  replace hy := hy.trans hA5
  replace bQ := bQ.ext hA5
  replace hown := own_ext hown hA5
  have cN := fun o => bN.cell o
  have cQ := fun o => bQ.cell o
  have fQ := fun o => bQ.frozen o
  clear c0 c1 c2 cG w1 w2 w3 w4 w5 w6 w7 w8 hm
  cases ok
  · have HM := Lib.hid (HFail.out rfl)
    go_wp2
    refine bodyPost_ret (v := .tuple #[.slice none 0 0, .bool false]) (by simp [results, Tryz.results179, go_sem]) rfl ?_
    exact ListMade.nil false HM.out rfl hy
  have hsz5 := hy.size
  have hnews := Blk.new (w5_.alloc (.cells #[.int .i64 F1.A, .int .i64 F1.B, .int .i64 F1.C] 101)) 101 #[.int .i64 F1.A, .int .i64 F1.B, .int .i64 F1.C]
  have HLT := Lib.hid hlt
  simp only [World.size_alloc] at hnews hsz5
  go_wp2_with (at_builtin; go_must (refine wpList_append_own _ rfl _ _ 33 rfl (w.heap.size + 1) 101 i0 (.agg #[.int .i64 0, .int .i64 0, .int .i64 0]) 3 24 Tryz.underlying33 hi0 hz0 hz1 hz2 rfl (by decide) _ _ _ rfl (hown.alloc _) ⟨w5_.heap.size + 1, 0, none⟩ 1 1 #[.int .i64 F1.A, .int .i64 F1.B, .int .i64 F1.C].toList rfl rfl (row_add (fun j v hj => by rw [hnews.cell, Nat.zero_add]; simpa using hj)) (by simp [Value.oneCell']) (by unfold maxLen; omega) (by omega) (by simp; omega) ?_); intro v' w6 hown' hgrow _)
  have hy6 : Ext w w6 := (hy.alloc _).grown hgrow (fun q hq => by have := (hown.lt q hq).1; omega)
  have b6 := (hgrow.block w.heap.size (bQ.alloc (.cells #[.int .i64 F1.A, .int .i64 F1.B, .int .i64 F1.C] 101)).lt (fun e => by have := (hown.lt _ e.symm).1; omega)).trans (bQ.alloc (.cells #[.int .i64 F1.A, .int .i64 F1.B, .int .i64 F1.C] 101))
  go_roundw
  case rel => exact ⟨k + 1, HLT.out, by go_num, HNext.out (by first | rfl | trivial), hy6, b6, by rw [HMk.out, halves_add]; exact hown'⟩
  case measure => have := HLT.out; simp [intOf]; omega
def alongR (hs : List Half) (bx by_ low high : Int) : List Half × Bool := if 38 < hs.length then ([], false) else growR hs bx by_ low high
theorem inR_yes {n lo hi : Int} (h : lo ≤ n ∧ n ≤ hi) : inR n lo hi = true := by
  unfold inR
  rw [decide_eq_true h.1, decide_eq_true h.2]
  rfl
theorem l01In_yes {n lo hi : Int} (h : lo ≤ n ∧ n ≤ hi) (w : World) : Calls Tryz.prog 67 #[.int .i64 n, .int .i64 lo, .int .i64 hi] w fun e w' => e = .returned (.bool true) ∧ w' = w :=
  l01In_is (inR_yes h) w
set_option maxHeartbeats 16000000 in
theorem specGrowAlong_any (A : Option Addr) (n c : Nat) (bx by_ low high : Int) (hs : List Half) (w : World) (hn : hs.length = n) (hk : regOk hs = true) (hA : A = none → n = 0 ∧ c = 0) (hx_ : -100 ≤ bx ∧ bx ≤ 100) (hy_ : -100 ≤ by_ ∧ by_ ≤ 100) (hlo : -1000 ≤ low ∧ low ≤ 1000) (hhi : low ≤ high ∧ high ≤ 1000) (hr : Row w A (ints (flat Half.ints hs))) :
    Calls Tryz.prog 148 #[.agg #[.slice A n c], .int .i64 bx, .int .i64 by_, .int .i64 low, .int .i64 high] w (RegMade (alongR hs bx by_ low high) w) := by
  obtain ⟨i0, hi0, hz0, hz1, hz2⟩ := info_parts half_info
  have hle : n ≤ 40 := by have := regOk_len hk; omega
  have hx : Ext w ((w.alloc (.cells #[.slice A n c] 35)).alloc (.cells #[.slice none 0 0] 35)) := ((Ext.refl w).alloc _).alloc _
  have bP := (Blk.new w 35 #[.slice A n c]).alloc (.cells #[.slice none 0 0] 35)
  have bR := Blk.new (w.alloc (.cells #[.slice A n c] 35)) 35 #[.slice none 0 0]
  simp only [World.size_alloc] at bR
  have HO := Lib.hid (fun w hr => specRegionOk_any A n c hs w hn hr hA (halves_I (regOk_all hk)) (by unfold maxLen; omega))
  rw [hk] at HO
  have HV := Lib.hid (fun w => specIsVoid_any A n c w (by unfold maxLen; omega))
  have HI1 := Lib.hid (fun w => l01In_yes hx_ w)
  have HI2 := Lib.hid (fun w => l01In_yes hy_ w)
  have HI3 := Lib.hid (fun w => l01In_yes hlo w)
  have HI4 := Lib.hid (fun w => l01In_yes hhi w)
  have HGr := Lib.hid (fun (h0 : n ≠ 0) (hz : ¬ (bx = 0 ∧ by_ = 0)) w hr => l07Grown_any A n c bx by_ low high hs w hn hk (fun e => h0 (by rw [← hn, e]; rfl)) hz hx_ hy_ hlo ⟨by omega, hhi.2⟩ hr)
  have HBig : Hid (38 < n → alongR hs bx by_ low high = ([], false)) := fun h => if_pos (by omega)
  have HSt : Hid (n ≤ 38 → (n = 0 ∨ (bx = 0 ∧ by_ = 0)) → alongR hs bx by_ low high = (hs, true)) := fun h0 h => by
    unfold alongR
    rw [if_neg (by omega)]
    rcases h with h | h
    · have : hs = [] := List.length_eq_zero_iff.1 (hn.trans h)
      rw [this]
      exact grow_void _ _ _ _
    · exact grow_still _ _ _ h
  have HYes : Hid (n ≤ 38 → n ≠ 0 → ¬ (bx = 0 ∧ by_ = 0) → alongR hs bx by_ low high = if (grownL hs bx by_ low high).2 = true then fitR (madeOf (grownL hs bx by_ low high).1) else ([], false)) := fun h h0 hz => by
    unfold alongR
    rw [if_neg (by omega)]
    exact grow_grown (fun e => h0 (by rw [← hn, e]; rfl)) hz
  have HLa : Hid ((grownL hs bx by_ low high).1.all halfOk = true) := grown_all
  have HLl : Hid ((grownL hs bx by_ low high).1.length ≤ n + 2) := by rw [← hn]; exact grown_len
  have HR := Lib.hid hr
  have HN := Lib.hid hn
  have HAn := Lib.hid hA
  have HFl : Hid ((ints (flat Half.ints hs)).length = n * 3) := by rw [Hid, ints_length, flat_length Half.ints_len, hn]
  generalize alongR hs bx by_ low high = GR at *
  generalize grownL hs bx by_ low high = GL at *
  clear hr hn hk hA
  have cbP_1 := fun o => bP.cell o
  have cbR_2 := fun o => bR.cell o
  have fbR_2 := fun o => bR.frozen o
  go_enter Tryz.func148, Tryz.ntmps148
  go_wp2_with fail
  refine (HO.out _ (HR.out.ext hx)).mono ?_
  rintro e w1 ⟨rfl, hx1⟩
  replace hx := hx.trans hx1
  replace bP := bP.ext hx1
  replace bR := bR.ext hx1
  have cbP_3 := fun o => bP.cell o
  have cbR_4 := fun o => bR.cell o
  have fbR_4 := fun o => bR.frozen o
  by_cases h38 : 38 < n
  · have hb2 : (38 : Int) < (n : Int) := by omega
    have hb3 : decide ((38 : Int) < (n : Int)) = true := decide_eq_true hb2
    have H := Lib.hid (HBig.out h38)
    clear h38
    go_wp2
    have bF := bR.set_ 0 (.slice none 0 0)
    have cF := fun o => bF.cell o
    refine bodyPost_ret (v := .tuple #[.agg #[.slice none 0 0], .bool false]) (by simp [results, Tryz.results148, go_sem, cF]) rfl ?_
    exact RegMade.nil false H.out rfl (hx.setCell (by simp only; omega) _)
  have hb2 : ¬ (38 : Int) < (n : Int) := by omega
  have hb3 : decide ((38 : Int) < (n : Int)) = false := decide_eq_false hb2
  have h38' : n ≤ 38 := by omega
  clear h38
  go_wp2_with fail
  refine (HI1.out _).mono ?_
  rintro e w' ⟨rfl, rfl⟩
  go_wp2_with fail
  refine (HI2.out _).mono ?_
  rintro e w' ⟨rfl, rfl⟩
  go_wp2_with fail
  refine (HI3.out _).mono ?_
  rintro e w' ⟨rfl, rfl⟩
  go_wp2_with fail
  refine (HI4.out _).mono ?_
  rintro e w' ⟨rfl, rfl⟩
  go_wp2_with fail
  refine (HV.out _).mono ?_
  rintro e w2 ⟨rfl, hx2⟩
  replace hx := hx.trans hx2
  replace bP := bP.ext hx2
  replace bR := bR.ext hx2
  have cbP_5 := fun o => bP.cell o
  have cbR_6 := fun o => bR.cell o
  have fbR_6 := fun o => bR.frozen o
  by_cases hst : n = 0 ∨ (bx = 0 ∧ by_ = 0)
  · have H := Lib.hid (HSt.out h38' hst)
    have hw3 : decide (n = 0) = true ∨ (decide (n = 0) = false ∧ (bx == 0) = true ∧ (by_ == 0) = true) := by
      by_cases e : n = 0
      · exact .inl (decide_eq_true e)
      · rcases hst with h | ⟨rfl, rfl⟩
        · exact absurd h e
        · exact .inr ⟨decide_eq_false e, rfl, rfl⟩
    have hs2 := hx.size
    have hrl := bR.lt
    have hxa := hx.alloc (.cells #[] 101)
    have hlit : (w2.alloc (.cells #[] 101)).ownsRow (w.heap.size + 2) 101 3 (.slice (some ⟨w2.heap.size, 0, none⟩) 0 0) 0 [] := by
      simpa using World.ownsRow_lit (base := w.heap.size + 2) (e := 101) (size := 3) w2 #[] 0 (by omega) (by unfold maxLen; omega) rfl
    have hca := HR.out.ext hxa
    have bRa := bR.alloc (.cells #[] 101)
    have bPa := bP.alloc (.cells #[] 101)
    have cPa := fun o => bPa.cell o
    clear hst
    rcases hw3 with hb | ⟨hb, hb4, hb5⟩
    all_goals
      rw [hb]
      clear hb
      go_wp2_with (at_builtin; go_must (refine wpList_append_src rfl _ _ 33 rfl (w.heap.size + 2) 101 i0 (.agg #[.int .i64 0, .int .i64 0, .int .i64 0]) 3 24 Tryz.underlying33 hi0 hz0 hz1 hz2 rfl (by decide) _ _ _ rfl hlit A n c (ints (flat Half.ints hs)) rfl HAn.out HFl.out hca (oneCell_ints _) (by unfold maxLen; omega) (by omega) (by simp only [World.size_alloc]; omega) ?_); intro v1 w3 hown3 hgrow3; obtain ⟨A3, c3, rfl⟩ := own_form hown3; have hx3 : Ext w w3 := hxa.grown hgrow3 (fun g e => by have := (World.ownsRow.lt hlit _ e).1; omega); have b3 : Blk w3 (w.heap.size + 1) 35 #[.slice none 0 0] := (hgrow3.block (w.heap.size + 1) bRa.lt (fun e => by have := (World.ownsRow.lt hlit _ e.symm).1; omega)).trans bRa; simp only [Nat.zero_add, List.nil_append] at hown3; have c0 := fun o => b3.cell o; have f0 := fun o => b3.frozen o)
      have bF := b3.set_ 0 (.slice A3 n c3)
      have cF := fun o => bF.cell o
      clear c0 f0
      refine bodyPost_ret (v := .tuple #[.agg #[.slice A3 n c3], .bool true]) (by simp [results, Tryz.results148, go_sem, cF]) rfl ?_
      rw [H.out]
      exact ⟨A3, c3, n, rfl, HN.out.symm, hx3.setCell (by simp only; omega) _, own_base (own_far hown3 (by simp only; omega) _) (by omega)⟩
  have h0 : n ≠ 0 := fun e => hst (.inl e)
  have hz : ¬ (bx = 0 ∧ by_ = 0) := fun e => hst (.inr e)
  have hb : decide (n = 0) = false := decide_eq_false h0
  rw [hb]
  have HG := Lib.hid (fun w hr => HGr.out h0 hz w hr)
  have HY := Lib.hid (HYes.out h38' h0 hz)
  have hw2 : (bx == 0) = true ∧ (by_ == 0) = false ∨ (bx == 0) = false := by
    by_cases e : bx = 0
    · refine .inl ⟨by simpa using e, ?_⟩
      rw [beq_eq_false_iff_ne]
      exact fun e2 => hz ⟨e, e2⟩
    · exact .inr (by simpa using e)
  clear hb hst h0 hz HGr HYes HSt HBig
  obtain ⟨L, ok⟩ := GL
  dsimp only at HLa HLl HY
  rcases hw2 with ⟨hb1, hb2⟩ | hb1
  all_goals
    go_wp2_with fail
    refine (HG.out _ (HR.out.ext hx)).mono ?_
    rintro e w3 ⟨A3, c3, n3, rfl, hn3, hx3, hown3⟩
    dsimp only at hn3 hown3 ⊢
    have hs3 := bR.lt
    replace hx := hx.trans hx3
    replace bP := bP.ext hx3
    replace bR := bR.ext hx3
    have cbP_7 := fun o => bP.cell o
    have cbR_8 := fun o => bR.cell o
    have fbR_8 := fun o => bR.frozen o
    subst hn3
    cases ok
    · have H := Lib.hid (HY.out.trans (if_neg (by simp)))
      go_wp2
      have bF := bR.set_ 0 (.slice none 0 0)
      have cF := fun o => bF.cell o
      refine bodyPost_ret (v := .tuple #[.agg #[.slice none 0 0], .bool false]) (by simp [results, Tryz.results148, go_sem, cF]) rfl ?_
      exact RegMade.nil false H.out rfl (hx.setCell (by simp only; omega) _)
    have H := Lib.hid (HY.out.trans (if_pos rfl))
    have hl2 := HLl.out
    have hnn : A3 = none → L.length = 0 ∧ c3 = 0 := fun e => (Mine.of_own hown3).none e
    have HMA := Lib.hid (l05Fit_any A3 L.length c3 L _ rfl (Row.of_own hown3) hnn (by omega) HLa.out)
    rw [← H.out] at HMA
    clear hown3 hnn
    go_wp2_with fail
    refine (HMA.out).mono ?_
    rintro e w4 ⟨A4, c4, n4, rfl, hn4, hx4, hown4⟩
    have hs4 := bR.lt
    replace hx := hx.trans hx4
    replace bP := bP.ext hx4
    replace bR := bR.ext hx4
    have cbP_9 := fun o => bP.cell o
    have cbR_10 := fun o => bR.cell o
    have fbR_10 := fun o => bR.frozen o
    subst hn4
    go_wp2
    have bF := bR.set_ 0 (.slice A4 GR.1.length c4)
    have cF := fun o => bF.cell o
    refine bodyPost_ret (v := .tuple #[.agg #[.slice A4 GR.1.length c4], .bool GR.2]) (by simp [results, Tryz.results148, go_sem, cF]) rfl ?_
    exact ⟨A4, c4, _, rfl, rfl, hx.setCell (by simp only; omega) _, own_base (own_far hown4 (by simp only; omega) _) (by omega)⟩
end Go.Proofs.YtigkgnplgehmhaaGreatDoor
/- Contract of PullBack of the reference, for valid regions and maps. (written by tools/mkPb.py) -/
namespace Go.Proofs.YtigkgnplgehmhaaGreatDoor
open Go.ChangeShapes Go.WideShapes Go.ChangeAt Go.RowKit
set_option linter.unusedVariables false
set_option maxRecDepth 100000

theorem own_set {w : World} {base : Nat} {e : TypeId} {s n : Nat} {v : Value} {xs : List Value} (h : w.ownsRow base e s v n xs) {p : Addr} (hp : ∀ g, v.ownBlock = some g → g ≠ p.block) (u : Value) : (w.setCell p u).ownsRow base e s v n xs := by
  refine World.ownsRow.kept h (row := some p.block) ⟨rfl, rfl, rfl, by simp [World.setCell], fun k _ hk => heap_setCell_other w p k u (fun e => hk (by rw [e]))⟩ ?_
  exact .inr (fun e => hp _ e rfl)
theorem isMap_of {r : Dyn} (h : DynOk r) : isMapB [r.a, r.b, r.c, r.d] r.q = true := by
  unfold isMapB
  rw [inR_yes h.q, decide_eq_true (by rfl)]
  simp only [List.all_cons, List.all_nil, Bool.and_true, Bool.true_and]
  rw [inR_yes h.a, inR_yes h.b, inR_yes h.c, inR_yes h.d]
  rfl
set_option maxHeartbeats 32000000 in
theorem specPullBack_any (r : Dyn) (A : Option Addr) (n c : Nat) (ps : List Half) (A' : Option Addr) (c' : Nat) (w : World) (hr : DynOk r) (hdet : r.a * r.d - r.b * r.c ≠ 0) (hn : ps.length = n) (hp : Row w A (ints (flat Half.ints ps))) (hA : A = none → n = 0 ∧ c = 0) (hpk : regOk ps = true) (hm : Row w A' (ints [r.a, r.b, r.c, r.d])) :
    Calls Tryz.prog 149 #[.agg #[.slice A n c], .slice A' 4 c', .int .i64 r.q] w (RegMade (pullR ps r.a r.b r.c r.d r.q) w) := by
  obtain ⟨i0, hi0, hz0, hz1, hz2⟩ := info_parts half_info
  have hle : n ≤ 40 := by have := regOk_len hpk; omega
  have HO := Lib.hid (fun w hr => specRegionOk_any A n c ps w hn hr hA (halves_I (regOk_all hpk)) (by unfold maxLen; omega))
  rw [hpk] at HO
  have H1 := Lib.hid (fun w h => l07Matrix_any A' 4 c' [r.a, r.b, r.c, r.d] r.q w rfl h (by unfold maxLen; omega))
  rw [isMap_of hr] at H1
  have p1 := mul_bd (a := r.a) (b := r.d) (A := 20) (B := 20) hr.a hr.d
  have p2 := mul_bd (a := r.b) (b := r.c) (A := 20) (B := 20) hr.b hr.c
  have e1 : IntKind.i64.wrap (r.a * r.d) = r.a * r.d := IntWalk.i64_in _ (by omega)
  have e2 : IntKind.i64.wrap (r.b * r.c) = r.b * r.c := IntWalk.i64_in _ (by omega)
  have e3 : IntKind.i64.wrap (r.a * r.d - r.b * r.c) = r.a * r.d - r.b * r.c := IntWalk.i64_in _ (by omega)
  have hdz : ((r.a * r.d - r.b * r.c) == 0) = false := by rw [beq_eq_false_iff_ne]; exact hdet
  have HP : Hid (∀ k (hk : k < ps.length), halfOk ps[k] = true) := fun k hk => List.all_eq_true.1 (regOk_all hpk) _ (List.getElem_mem hk)
  have HBd := Lib.hid (fun h (hh : halfOk h = true) => pull_bd hr hh)
  have HHf := Lib.hid (fun x y z w hx hy hz => specHalfOf_any x y z w hx hy hz)
  have HE : Hid (movedR (pullH r.a r.b r.c r.d r.q) ps = pullR ps r.a r.b r.c r.d r.q) := rfl
  have HPH : Hid (∀ h, pullH r.a r.b r.c r.d r.q h = halfOfZ (h.A * r.a + h.B * r.c) (h.A * r.b + h.B * r.d) (h.C * r.q)) := fun h => rfl
  have HR := Lib.hid hp
  have HN := Lib.hid hn
  have HM := Lib.hid hm
  have hx : Ext w ((w.alloc (.cells #[.slice A n c] 35)).alloc (.cells #[.slice none 0 0] 35)) := ((Ext.refl w).alloc _).alloc _
  have bP := (Blk.new w 35 #[.slice A n c]).alloc (.cells #[.slice none 0 0] 35)
  have bR := Blk.new (w.alloc (.cells #[.slice A n c] 35)) 35 #[.slice none 0 0]
  simp only [World.size_alloc] at bR
  obtain ⟨W, hW⟩ : ∃ W, (w.alloc (.cells #[.slice A n c] 35)).alloc (.cells #[.slice none 0 0] 35) = W := ⟨_, rfl⟩
  rw [hW] at hx bP bR
  obtain ⟨g0, o0, rfl, hg0, j0, j1, j2, j3⟩ := row4 hm
  rw [Nat.add_zero] at j0
  have cW := fun (p : After W) o => (bP.ext p.h).cell o
  have k0 := fun (p : After W) => (hx.trans p.h).cellOf j0
  have k1 := fun (p : After W) => (hx.trans p.h).cellOf j1
  have k2 := fun (p : After W) => (hx.trans p.h).cellOf j2
  have k3 := fun (p : After W) => (hx.trans p.h).cellOf j3
  obtain ⟨F, hF⟩ : ∃ F, pullH r.a r.b r.c r.d r.q = F := ⟨_, rfl⟩
  rw [hF] at HE HPH
  obtain ⟨PR, hPR⟩ : ∃ P, pullR ps r.a r.b r.c r.d r.q = P := ⟨_, rfl⟩
  rw [hPR] at HE ⊢
  have HFok : Hid (∀ h, (F h).2 = true → halfOk (F h).1 = true) := fun h e => by rw [HPH.out] at e ⊢; exact halfOfZ_ok e
  obtain ⟨ma, mb, mc, md, q, bx, by_, lo, hi⟩ := r
  dsimp only at *
  clear hp hm hn hpk hr hdet p1 p2 hF hPR hA
  go_enter Tryz.func149, Tryz.ntmps149
  go_wp2_with fail
  try simp only [List.append_eq, List.cons_append, List.nil_append]
  refine wp_region_after (by kernel_rfl) (by kernel_rfl) ?_
  repeat (go_big_quiet_step ((first
      | (go_at_call 66; exact Calls.after_same (H1.out _ (HM.out.ext (hx.trans (After.h _)))))
      | (go_at_call 31; exact Calls.after_of (HO.out _ (HR.out.ext (hx.trans (After.h _))))))))
  refine wpQuiet_nil ?_
  rintro V ⟨⟨_, hV⟩, rfl⟩
  replace hx := hx.trans hV
  replace bP := bP.ext hV
  replace bR := bR.ext hV
  clear cW k0 k1 k2 k3 hV hW e1 e2 e3 hdz
  have hs0 := bR.lt
  have hown0 : (V.alloc (.cells #[] 101)).ownsRow (w.heap.size + 2) 101 3 (.slice (some ⟨V.heap.size, 0, none⟩) 0 0) 0 (ints (flat Half.ints (movedTo F ps 0))) := by
    simpa [movedTo, flat, ints] using World.ownsRow_lit (base := w.heap.size + 2) (e := 101) (size := 3) V #[] 0 (by omega) (by unfold maxLen; omega) rfl
  replace hx := hx.alloc (.cells #[] 101)
  replace bP := bP.alloc (.cells #[] 101)
  replace bR := bR.alloc (.cells #[] 101)
  have cP := fun o => bP.cell o
  go_wp2
  clear cP
  go_loopw [8, 45] (fun v i wr => ∃ k : Nat, k ≤ n ∧ i = .int .i64 k ∧ (∀ j (hj : j < ps.length), j < k → (F ps[j]).2 = true) ∧ Ext w wr ∧ Blk wr (w.heap.size + 1) 35 #[.slice none 0 0] ∧ wr.ownsRow (w.heap.size + 2) 101 3 v k (ints (flat Half.ints (movedTo F ps k)))) (fun _ i _ => n - (intOf i).toNat)
  case atStart => exact ⟨0, Nat.zero_le _, rfl, fun j _ h => by omega, hx, bR, hown0⟩
  case round =>
  obtain ⟨k, hk, rfl, hall, hy, dR, hown⟩ := hrel
  have hsz := hy.size
  have hdl := dR.lt
  have HAll := Lib.hid hall
  clear hall hown0 bR hx bP
  by_cases hlt : k < n
  rotate_left
  · obtain rfl : k = n := by omega
    obtain ⟨A3, c3, rfl⟩ := own_form hown
    have cR := fun o => dR.cell o
    have fR := fun o => dR.frozen o
    by_cases hk0 : k = 0
    · have hb : ((k : Int) == 0) = true := by rw [hk0]; rfl
      have HMv : Hid (PR = ([], true)) := by
        have : ps = [] := List.length_eq_zero_iff.1 (HN.out.trans hk0)
        rw [Hid, ← HE.out, this]
        rfl
      clear hk0
      go_wp2
      have bF := dR.set_ 0 (.slice none 0 0)
      have cF := fun o => bF.cell o
      clear cR fR
      refine bodyPost_ret (v := .tuple #[.agg #[.slice none 0 0], .bool true]) (by simp [results, Tryz.results149, go_sem, cF]) rfl ?_
      exact RegMade.nil true HMv.out rfl (hy.setCell (by simp only; omega) _)
    have hb : ((k : Int) == 0) = false := by rw [beq_eq_false_iff_ne]; omega
    have hne : ps ≠ [] := fun e => by have := HN.out; rw [e] at this; simp at this; omega
    have HMv := Lib.hid (moved_full hne (fun j hj => HAll.out j hj (by have := HN.out; omega)))
    have hmt : movedTo F ps k = ps.map fun h => (F h).1 := by rw [← HN.out]; exact movedTo_all _ ps
    rw [hmt] at hown
    have hml : (ps.map fun h => (F h).1).length = k := by rw [List.length_map]; exact HN.out
    have hma : (ps.map fun h => (F h).1).all halfOk = true := by
      refine List.all_eq_true.2 fun x hx => ?_
      obtain ⟨y, hy, rfl⟩ := List.mem_map.1 hx
      obtain ⟨j, hj, rfl⟩ := List.getElem_of_mem hy
      exact HFok.out _ (HAll.out j hj (by have := HN.out; omega))
    have hnn : A3 = none → k = 0 ∧ c3 = 0 := fun e => (Mine.of_own hown).none e
    have HMA := Lib.hid (l05Fit_any A3 k c3 (ps.map fun h => (F h).1) wr hml (Row.of_own hown) hnn (by omega) hma)
    rw [← HMv.out, HE.out] at HMA
    clear hml hma hmt hnn hown hk0
    go_wp2_with fail
    refine (HMA.out).mono ?_
    rintro e w4 ⟨A4, c4, n4, rfl, hn4, hx4, hown4⟩
    have b4 := dR.ext hx4
    clear cR fR
    have c0 := fun o => b4.cell o
    have f0 := fun o => b4.frozen o
    have hy4 := hy.trans hx4
    subst hn4
    go_wp2
    have bF := b4.set_ 0 (.slice A4 PR.1.length c4)
    have cF := fun o => bF.cell o
    clear c0 f0
    refine bodyPost_ret (v := .tuple #[.agg #[.slice A4 PR.1.length c4], .bool PR.2]) (by simp [results, Tryz.results149, go_sem, cF]) rfl ?_
    exact ⟨A4, c4, _, rfl, rfl, hy4.setCell (by simp only; omega) _, own_base (own_far hown4 (by simp only; omega) _) (by omega)⟩
  have hkl : k < ps.length := by rw [HN.out]; exact hlt
  obtain ⟨b, off, rfl, hb, c0, c1, c2⟩ := (HR.out.ext hy).Half (k := k) hkl
  have hh := HP.out k hkl
  have HMk := Lib.hid (movedTo_succ (f := F) hkl)
  have HFail := Lib.hid (moved_fail (f := F) hkl)
  rw [HE.out] at HFail
  have HNext : Hid ((F ps[k]).2 = true → ∀ j (hj : j < ps.length), j < k + 1 → (F ps[j]).2 = true) := by
    intro h j hj hjk
    by_cases e : j = k
    · subst e; exact h
    · exact HAll.out j hj (by omega)
  obtain ⟨g, hg⟩ : ∃ g, ps[k]'hkl = g := ⟨_, rfl⟩
  rw [hg] at c0 c1 c2 hh HMk HFail HNext
  clear hg hkl
  obtain ⟨q1, q2, q3, q4, q5⟩ := HBd.out g hh
  have HHg := Lib.hid (fun w => HHf.out (g.A * ma + g.B * mc) (g.A * mb + g.B * md) (g.C * q) w (by unfold I64; omega) (by unfold I64; omega) (by unfold I64; omega))
  rw [← HPH.out g] at HHg
  have w1 : IntKind.i64.wrap (g.A * ma) = g.A * ma := IntWalk.i64_in _ (by omega)
  have w2 : IntKind.i64.wrap (g.B * mc) = g.B * mc := IntWalk.i64_in _ (by omega)
  have w3 : IntKind.i64.wrap (g.A * mb) = g.A * mb := IntWalk.i64_in _ (by omega)
  have w4 : IntKind.i64.wrap (g.B * md) = g.B * md := IntWalk.i64_in _ (by omega)
  have w5 : IntKind.i64.wrap (g.C * q) = g.C * q := IntWalk.i64_in _ (by omega)
  have w6 : IntKind.i64.wrap (g.A * ma + g.B * mc) = g.A * ma + g.B * mc := IntWalk.i64_in _ (by omega)
  have w7 : IntKind.i64.wrap (g.A * mb + g.B * md) = g.A * mb + g.B * md := IntWalk.i64_in _ (by omega)
  obtain ⟨E, hE⟩ : ∃ E, F g = E := ⟨_, rfl⟩
  rw [hE] at HMk HFail HNext HHg
  clear hE q1 q2 q3 q4 q5
  obtain ⟨F1, ok⟩ := E
  dsimp only at HMk HFail HNext HHg
  have bG := Blk.new wr 101 #[.int .i64 g.A, .int .i64 g.B, .int .i64 g.C]
  have hA := (Ext.refl wr).alloc (.cells #[.int .i64 g.A, .int .i64 g.B, .int .i64 g.C] 101)
  replace hy := hy.trans hA
  replace dR := dR.ext hA
  replace hown := own_ext hown hA
  obtain ⟨W2, hW2⟩ : ∃ W2, wr.alloc (.cells #[.int .i64 g.A, .int .i64 g.B, .int .i64 g.C] 101) = W2 := ⟨_, rfl⟩
  rw [hW2] at hy dR hown bG
  have hgl := bG.lt
  obtain ⟨GB, hGB⟩ : ∃ GB, wr.heap.size = GB := ⟨_, rfl⟩
  rw [hGB] at bG hgl
  have r0 := hy.cellOf j0
  have r1 := hy.cellOf j1
  have r2 := hy.cellOf j2
  have r3 := hy.cellOf j3
  have hg0l : g0 < W2.heap.size := by have := hy.size; omega
  have hdl2 := dR.lt
  have ne1 := Nat.ne_of_lt hgl
  have ne1' := (Nat.ne_of_lt hgl).symm
  have ne2 := Nat.ne_of_lt hg0l
  have ne2' := (Nat.ne_of_lt hg0l).symm
  have HLT := Lib.hid hlt
  go_wp2_with fail
  have cG := fun o => bG.cell o
  have hcur := Ext.refl W2
  go_region_held3 (fun w' => w'.cell? ⟨GB, 0, none⟩ = some (.int .i64 g.A) ∧ w'.cell? ⟨GB, 1, none⟩ = some (.int .i64 g.B) ∧ w'.cell? ⟨GB, 2, none⟩ = some (.int .i64 g.C) ∧ w'.cell? ⟨g0, o0, none⟩ = some (.int .i64 ma) ∧ w'.cell? ⟨g0, o0 + 1, none⟩ = some (.int .i64 mb) ∧ w'.cell? ⟨g0, o0 + 2, none⟩ = some (.int .i64 mc) ∧ w'.cell? ⟨g0, o0 + 3, none⟩ = some (.int .i64 md))
    (go_keep)
    (first
      | (go_at_call 93; (with_reducible refine (HHg.out _).mono ?_); rintro e w9 ⟨rfl, hx9⟩; (first | have hx8 := (Ext.refl _).drew.trans hx9 | have hx8 := hx9); replace hcur := Ext.trans (by first | exact hcur | exact hcur.drew | exact hcur.alloc _ | exact hcur.drew.alloc _ | exact (hcur.alloc _).drew) hx9; have d1 := fun o => (bG.ext hcur).cell o; have d4 := hcur.cellOf r0; have d5 := hcur.cellOf r1; have d6 := hcur.cellOf r2; have d7 := hcur.cellOf r3; have l1 := (bG.ext hcur).lt; have l2 := Nat.lt_of_lt_of_le hg0l hcur.size; have m1 := Nat.ne_of_lt l1; have m1' := (Nat.ne_of_lt l1).symm; have m2 := Nat.ne_of_lt l2; have m2' := (Nat.ne_of_lt l2).symm; (first | (have gA := Blk.ext (Blk.new _ 101 #[.int .i64 0, .int .i64 0, .int .i64 0]) hx8; have gAc := fun o => gA.cell o; have gAf := fun o => gA.frozen o; have lA := gA.lt) | skip)))
  · have bN := Blk.new w9 101 #[.int .i64 F1.A, .int .i64 F1.B, .int .i64 F1.C]
    have hy7 := hy.trans hcur
    have hA7 := (Ext.refl w9).alloc (.cells #[.int .i64 F1.A, .int .i64 F1.B, .int .i64 F1.C] 101)
    have hown7 := own_ext (own_ext hown hcur) hA7
    have dR7 := (dR.ext hcur).ext hA7
    have dRx := dR.ext hcur
    replace hy := hy7.trans hA7
    have NUM := bN.lt
    clear cG r0 r1 r2 r3 d1 d4 d5 d6 d7 w1 w2 w3 w4 w5 w6 w7 c0 c1 c2
    generalize w9.alloc (.cells #[.int .i64 F1.A, .int .i64 F1.B, .int .i64 F1.C] 101) = WN at *
    generalize w9.heap.size = BN at *
    try clear gA gAc gAf lA
    have cN := fun o => bN.cell o
    have cQ := fun o => dR7.cell o
    have fQ := fun o => dR7.frozen o
    have hdl7 := dR7.lt
    cases ok
    · have HMv := Lib.hid (HFail.out rfl)
      go_wp2
      have bF := dR7.set_ 0 (.slice none 0 0)
      have cF := fun o => bF.cell o
      clear cQ fQ
      refine bodyPost_ret (v := .tuple #[.agg #[.slice none 0 0], .bool false]) (by simp [results, Tryz.results149, go_sem, cF]) rfl ?_
      exact RegMade.nil false HMv.out rfl (hy.setCell (by simp only; omega) _)
    have hnews := Blk.new WN 101 #[.int .i64 F1.A, .int .i64 F1.B, .int .i64 F1.C]
    have hszN := hy.size
    go_wp2_with (at_builtin; go_must (refine wpList_append_own _ rfl _ _ 33 rfl (w.heap.size + 2) 101 i0 (.agg #[.int .i64 0, .int .i64 0, .int .i64 0]) 3 24 Tryz.underlying33 hi0 hz0 hz1 hz2 rfl (by decide) _ _ _ rfl (hown7.alloc _) ⟨WN.heap.size, 0, none⟩ 1 1 #[.int .i64 F1.A, .int .i64 F1.B, .int .i64 F1.C].toList rfl rfl (row_add (fun j v hj => by rw [hnews.cell, Nat.zero_add]; simpa using hj)) (by simp [Value.oneCell']) (by unfold maxLen; omega) (by omega) (by simp only [World.size_alloc]; omega) ?_); intro v' w10 hown' hgrow _)
    have hy8 : Ext w w10 := (hy.alloc _).grown hgrow (fun q hq => by have := (hown7.lt q hq).1; omega)
    have dR8 : Blk w10 (w.heap.size + 1) 35 #[.slice none 0 0] := (hgrow.block (w.heap.size + 1) (dR7.alloc (.cells #[.int .i64 F1.A, .int .i64 F1.B, .int .i64 F1.C] 101)).lt (fun e => by have := (hown7.lt _ e.symm).1; omega)).trans (dR7.alloc (.cells #[.int .i64 F1.A, .int .i64 F1.B, .int .i64 F1.C] 101))
    go_roundw
    case rel => exact ⟨k + 1, HLT.out, by go_num, HNext.out (by first | rfl | trivial), hy8, dR8, by rw [HMk.out, halves_add]; exact hown'⟩
    case measure => have := HLT.out; simp [intOf]; omega
  · have hls := lA
    have hown7 := own_set (own_set (own_set (own_ext hown hcur) (p := ⟨W2.heap.size, 0, none⟩) (fun g hg => by have := (hown.lt g hg).2; simp only; omega) (.int .i64 F1.A)) (p := ⟨W2.heap.size, 1, none⟩) (fun g hg => by have := (hown.lt g hg).2; simp only; omega) (.int .i64 F1.B)) (p := ⟨W2.heap.size, 2, none⟩) (fun g hg => by have := (hown.lt g hg).2; simp only; omega) (.int .i64 F1.C)
    have bN := ((gA.set_ 0 (.int .i64 F1.A)).set_ 1 (.int .i64 F1.B)).set_ 2 (.int .i64 F1.C)
    have dRx := dR.ext hcur
    have dR7 := ((dRx.far (p := ⟨W2.heap.size, 0, none⟩) (by simp only; omega) (.int .i64 F1.A)).far (p := ⟨W2.heap.size, 1, none⟩) (by simp only; omega) (.int .i64 F1.B)).far (p := ⟨W2.heap.size, 2, none⟩) (by simp only; omega) (.int .i64 F1.C)
    have hw2 := hy.size
    have hy7 := hy.trans hcur
    replace hy := ((hy7.setCell (p := ⟨W2.heap.size, 0, none⟩) hw2 (.int .i64 F1.A)).setCell (p := ⟨W2.heap.size, 1, none⟩) hw2 (.int .i64 F1.B)).setCell (p := ⟨W2.heap.size, 2, none⟩) hw2 (.int .i64 F1.C)
    have NUM := bN.lt
    clear cG r0 r1 r2 r3 d1 d4 d5 d6 d7 w1 w2 w3 w4 w5 w6 w7 c0 c1 c2
    generalize ((w9.setCell ⟨W2.heap.size, 0, none⟩ (.int .i64 F1.A)).setCell ⟨W2.heap.size, 1, none⟩ (.int .i64 F1.B)).setCell ⟨W2.heap.size, 2, none⟩ (.int .i64 F1.C) = WN at *
    generalize W2.heap.size = BN at *
    try clear gA gAc gAf lA
    have cN := fun o => bN.cell o
    have cQ := fun o => dR7.cell o
    have fQ := fun o => dR7.frozen o
    have hdl7 := dR7.lt
    cases ok
    · have HMv := Lib.hid (HFail.out rfl)
      go_wp2
      have bF := dR7.set_ 0 (.slice none 0 0)
      have cF := fun o => bF.cell o
      clear cQ fQ
      refine bodyPost_ret (v := .tuple #[.agg #[.slice none 0 0], .bool false]) (by simp [results, Tryz.results149, go_sem, cF]) rfl ?_
      exact RegMade.nil false HMv.out rfl (hy.setCell (by simp only; omega) _)
    have hnews := Blk.new WN 101 #[.int .i64 F1.A, .int .i64 F1.B, .int .i64 F1.C]
    have hszN := hy.size
    go_wp2_with (at_builtin; go_must (refine wpList_append_own _ rfl _ _ 33 rfl (w.heap.size + 2) 101 i0 (.agg #[.int .i64 0, .int .i64 0, .int .i64 0]) 3 24 Tryz.underlying33 hi0 hz0 hz1 hz2 rfl (by decide) _ _ _ rfl (hown7.alloc _) ⟨WN.heap.size, 0, none⟩ 1 1 #[.int .i64 F1.A, .int .i64 F1.B, .int .i64 F1.C].toList rfl rfl (row_add (fun j v hj => by rw [hnews.cell, Nat.zero_add]; simpa using hj)) (by simp [Value.oneCell']) (by unfold maxLen; omega) (by omega) (by simp only [World.size_alloc]; omega) ?_); intro v' w10 hown' hgrow _)
    have hy8 : Ext w w10 := (hy.alloc _).grown hgrow (fun q hq => by have := (hown7.lt q hq).1; omega)
    have dR8 : Blk w10 (w.heap.size + 1) 35 #[.slice none 0 0] := (hgrow.block (w.heap.size + 1) (dR7.alloc (.cells #[.int .i64 F1.A, .int .i64 F1.B, .int .i64 F1.C] 101)).lt (fun e => by have := (hown7.lt _ e.symm).1; omega)).trans (dR7.alloc (.cells #[.int .i64 F1.A, .int .i64 F1.B, .int .i64 F1.C] 101))
    go_roundw
    case rel => exact ⟨k + 1, HLT.out, by go_num, HNext.out (by first | rfl | trivial), hy8, dR8, by rw [HMk.out, halves_add]; exact hown'⟩
    case measure => have := HLT.out; simp [intOf]; omega
end Go.Proofs.YtigkgnplgehmhaaGreatDoor
/- Contracts of pre and keep of the program. (written by tools/mkKp.py) -/
namespace Go.Proofs.YtigkgnplgehmhaaGreatDoor
open Go.ChangeShapes Go.WideShapes Go.ChangeAt Go.RowKit
set_option linter.unusedVariables false
set_option maxRecDepth 100000

set_option maxHeartbeats 8000000 in
theorem implPre_ok (r : Room) (A0 A6 A7 : Option Addr) (c0 c6 c7 : Nat) (A : Option Addr) (n c : Nat) (ps : List Half) (w : World) (hv : RoomV r) (ha : RoomHere w r A0 A6 A7 c0 c6 c7) (hn : ps.length = n) (hr : Row w A (ints (flat Half.ints ps))) (hA : A = none → n = 0 ∧ c = 0) (hpk : regOk ps = true) :
    Calls Tryz.prog 103 #[.agg #[.slice A0 r.Map.length c0, .int .i64 r.Div, .int .i64 r.Bx, .int .i64 r.By, .int .i64 r.Low, .int .i64 r.High, .slice A6 r.Noise.length c6, .slice A7 r.Limits.length c7], .agg #[.slice A n c]] w (RegMade (preR r ps) w) := by
  obtain ⟨hD, hM⟩ := hv.dyn
  have d1 : -1000 ≤ r.Low := hD.low
  have d2 : r.Low ≤ r.High := hD.mid
  have d3 : r.High ≤ 1000 := hD.high
  have hle : n ≤ 40 := by have := regOk_len hpk; omega
  have hEk : Hid (regOk (erodeR ps r.Noise).1 = true) := erodeR_ok _ _
  have hGk : Hid (∀ E, regOk E = true → regOk (growR E r.Bx r.By r.Low r.High).1 = true) := fun E h => growR_ok h _ _ _ _
  have HE := Lib.hid (fun w hr hr' => implErode_any A n c ps A6 r.Noise.length c6 r.Noise w hn hr (regOk_all hpk) (by omega) rfl hv.noise hv.noiseN hr')
  have HG := Lib.hid (fun A n c E w hn hk hA hr => implGrow_any A n c r.Bx r.By r.Low r.High E w hn hk hA hD.bx hD.by_ ⟨d1, by omega⟩ ⟨by omega, d3⟩ hr)
  have HP := Lib.hid (fun A n c G w hn hp hk hle hm => implPull_any (dynOf r) A n c G A0 c0 w hD hn hp hk hle hm)
  have hq : (dynOf r).q = r.Div := rfl
  have hl4 : r.Map.length = 4 := by rw [hM]; rfl
  have HMr : Hid (∀ V, Ext w V → Row V A0 (ints [(dynOf r).a, (dynOf r).b, (dynOf r).c, (dynOf r).d])) := fun V hV => by
    have := (ha.ext hV).at_.m
    rwa [hM] at this
  have HNo := Lib.hid (fun h => preR_no (r := r) (p := ps) h)
  have HNo2 := Lib.hid (fun h => preR_no2 (r := r) (p := ps) h)
  have HYes := Lib.hid (fun h1 h2 h3 => preR_yes (r := r) (p := ps) h1 h2 h3)
  have hx : Ext w (((w.alloc (.cells #[.slice A0 r.Map.length c0, .int .i64 r.Div, .int .i64 r.Bx, .int .i64 r.By, .int .i64 r.Low, .int .i64 r.High, .slice A6 r.Noise.length c6, .slice A7 r.Limits.length c7] 37)).alloc (.cells #[.slice A n c] 35)).alloc (.cells #[.slice none 0 0] 35)) := (((Ext.refl w).alloc _).alloc _).alloc _
  have bM := ((Blk.new w 37 #[.slice A0 r.Map.length c0, .int .i64 r.Div, .int .i64 r.Bx, .int .i64 r.By, .int .i64 r.Low, .int .i64 r.High, .slice A6 r.Noise.length c6, .slice A7 r.Limits.length c7]).alloc (.cells #[.slice A n c] 35)).alloc (.cells #[.slice none 0 0] 35)
  have bP := (Blk.new (w.alloc (.cells #[.slice A0 r.Map.length c0, .int .i64 r.Div, .int .i64 r.Bx, .int .i64 r.By, .int .i64 r.Low, .int .i64 r.High, .slice A6 r.Noise.length c6, .slice A7 r.Limits.length c7] 37)) 35 #[.slice A n c]).alloc (.cells #[.slice none 0 0] 35)
  have bR := Blk.new ((w.alloc (.cells #[.slice A0 r.Map.length c0, .int .i64 r.Div, .int .i64 r.Bx, .int .i64 r.By, .int .i64 r.Low, .int .i64 r.High, .slice A6 r.Noise.length c6, .slice A7 r.Limits.length c7] 37)).alloc (.cells #[.slice A n c] 35)) 35 #[.slice none 0 0]
  simp only [World.size_alloc] at bP bR
  have HR := Lib.hid hr
  have HA := Lib.hid ha
  rw [hq] at HP
  rw [hl4] at bM hx bP bR ⊢
  clear hv ha hn hr hpk hD hM hA d1 d2 d3
  generalize preR r ps = PR at *
  generalize erodeR ps r.Noise = ER at *
  have cbM_11 := fun o => bM.cell o
  have cbP_12 := fun o => bP.cell o
  have cbR_13 := fun o => bR.cell o
  have fbR_13 := fun o => bR.frozen o
  go_enter Tryz.func103, Tryz.ntmps103
  go_wp2_with fail
  refine (HE.out _ (HR.out.ext hx) ((HA.out.ext hx).at_.p)).mono ?_
  rintro e w1 ⟨A1, c1, n1, rfl, hn1, hx1, hown1⟩
  have hs1 := bR.lt
  replace hx := hx.trans hx1
  replace bM := bM.ext hx1
  replace bP := bP.ext hx1
  replace bR := bR.ext hx1
  have cbM_14 := fun o => bM.cell o
  have cbP_15 := fun o => bP.cell o
  have cbR_16 := fun o => bR.cell o
  have fbR_16 := fun o => bR.frozen o
  have hs1b := bR.lt
  obtain ⟨E, ok⟩ := ER
  dsimp only at *
  subst hn1
  have bE := Blk.new w1 35 #[.slice A1 E.length c1]
  have bR0 := bR
  have hx0 := hx
  have ha1 := (Ext.refl w1).alloc (.cells #[.slice A1 E.length c1] 35)
  replace hx := hx.trans ha1
  replace bM := bM.ext ha1
  replace bP := bP.ext ha1
  replace bR := bR.ext ha1
  have cbM_17 := fun o => bM.cell o
  have cbP_18 := fun o => bP.cell o
  have cbR_19 := fun o => bR.cell o
  have fbR_19 := fun o => bR.frozen o
  replace hown1 := own_ext hown1 ha1
  have cE := fun o => bE.cell o
  cases ok
  · have H := Lib.hid (HNo.out (.inl rfl))
    go_wp2
    have bF := (bR0.set_ 0 (.slice none 0 0)).alloc (.cells #[.slice A1 E.length c1] 35)
    have cF := fun o => bF.cell o
    refine bodyPost_ret (v := .tuple #[.agg #[.slice none 0 0], .bool false]) (by simp [results, Tryz.results103, go_sem, cF]) rfl ?_
    exact RegMade.nil false H.out rfl ((hx0.setCell (by simp only; omega) _).alloc _)
  by_cases h38 : 38 < E.length
  · have hb : (38 : Int) < (E.length : Int) := by omega
    have hb2 : decide ((38 : Int) < (E.length : Int)) = true := decide_eq_true hb
    have H := Lib.hid (HNo.out (.inr h38))
    clear h38
    go_wp2
    have bF := (bR0.set_ 0 (.slice none 0 0)).alloc (.cells #[.slice A1 E.length c1] 35)
    have cF := fun o => bF.cell o
    refine bodyPost_ret (v := .tuple #[.agg #[.slice none 0 0], .bool false]) (by simp [results, Tryz.results103, go_sem, cF]) rfl ?_
    exact RegMade.nil false H.out rfl ((hx0.setCell (by simp only; omega) _).alloc _)
  have hb : ¬ (38 : Int) < (E.length : Int) := by omega
  have hb2 : decide ((38 : Int) < (E.length : Int)) = false := decide_eq_false hb
  have h38' : E.length ≤ 38 := by omega
  have HY := Lib.hid (fun h3 => HYes.out rfl h38' h3)
  have hGk' := Lib.hid (hGk.out E hEk.out)
  have hmine := (Mine.of_own hown1).none
  clear HNo HYes h38
  go_wp2_with fail
  refine (HG.out A1 E.length c1 E _ rfl hEk.out hmine (Row.of_own hown1)).mono ?_
  rintro e w2 ⟨A2, c2, n2, rfl, hn2, hx2, hown2⟩
  replace hx := hx.trans hx2
  replace bM := bM.ext hx2
  replace bP := bP.ext hx2
  replace bR := bR.ext hx2
  replace bE := bE.ext hx2
  have cbM_20 := fun o => bM.cell o
  have cbP_21 := fun o => bP.cell o
  have cbR_22 := fun o => bR.cell o
  have fbR_22 := fun o => bR.frozen o
  have cbE_23 := fun o => bE.cell o
  have hs2 := bR.lt
  generalize growR E r.Bx r.By r.Low r.High = GR at *
  obtain ⟨G, ok⟩ := GR
  dsimp only at *
  subst hn2
  have bG := Blk.new w2 35 #[.slice A2 G.length c2]
  replace bR0 := bR
  replace hx0 := hx
  have ha2 := (Ext.refl w2).alloc (.cells #[.slice A2 G.length c2] 35)
  replace hx := hx.trans ha2
  replace bM := bM.ext ha2
  replace bP := bP.ext ha2
  replace bR := bR.ext ha2
  replace bE := bE.ext ha2
  have cbM_24 := fun o => bM.cell o
  have cbP_25 := fun o => bP.cell o
  have cbR_26 := fun o => bR.cell o
  have fbR_26 := fun o => bR.frozen o
  have cbE_27 := fun o => bE.cell o
  replace hown2 := own_ext hown2 ha2
  have cG := fun o => bG.cell o
  clear hown1 hmine
  cases ok
  · have H := Lib.hid (HNo2.out rfl)
    go_wp2
    have bF := (bR0.set_ 0 (.slice none 0 0)).alloc (.cells #[.slice A2 G.length c2] 35)
    have cF := fun o => bF.cell o
    refine bodyPost_ret (v := .tuple #[.agg #[.slice none 0 0], .bool false]) (by simp [results, Tryz.results103, go_sem, cF]) rfl ?_
    exact RegMade.nil false H.out rfl ((hx0.setCell (by simp only; omega) _).alloc _)
  have H := Lib.hid (HY.out rfl)
  have hGl := regOk_len hGk'.out
  clear HNo2 HY
  go_wp2_with fail
  refine (HP.out A2 G.length c2 G _ rfl (Row.of_own hown2) (regOk_all hGk'.out) (by omega) (HMr.out _ hx)).mono ?_
  rintro e wX ⟨AX, cX, nX, rfl, hnX, hxX, hownX⟩
  rw [← H.out] at hnX hownX ⊢
  have hsX := bR.lt
  replace hx := hx.trans hxX
  replace bM := bM.ext hxX
  replace bP := bP.ext hxX
  replace bR := bR.ext hxX
  replace bE := bE.ext hxX
  replace bG := bG.ext hxX
  have cbM_28 := fun o => bM.cell o
  have cbP_29 := fun o => bP.cell o
  have cbR_30 := fun o => bR.cell o
  have fbR_30 := fun o => bR.frozen o
  have cbE_31 := fun o => bE.cell o
  have cbG_32 := fun o => bG.cell o
  subst hnX
  go_wp2
  have bF := bR.set_ 0 (.slice AX PR.1.length cX)
  have cF := fun o => bF.cell o
  refine bodyPost_ret (v := .tuple #[.agg #[.slice AX PR.1.length cX], .bool PR.2]) (by simp [results, Tryz.results103, go_sem, cF]) rfl ?_
  exact ⟨AX, cX, _, rfl, rfl, hx.setCell (by simp only; omega) _, own_base (own_far hownX (by simp only; omega) _) (by omega)⟩
set_option maxHeartbeats 8000000 in
theorem implKeep_ok (r : Room) (A0 A6 A7 : Option Addr) (c0 c6 c7 : Nat) (A : Option Addr) (n c : Nat) (ps : List Half) (w : World) (hv : RoomV r) (ha : RoomHere w r A0 A6 A7 c0 c6 c7) (hn : ps.length = n) (hr : Row w A (ints (flat Half.ints ps))) (hA : A = none → n = 0 ∧ c = 0) (hpk : regOk ps = true) :
    Calls Tryz.prog 57 #[.agg #[.slice A0 r.Map.length c0, .int .i64 r.Div, .int .i64 r.Bx, .int .i64 r.By, .int .i64 r.Low, .int .i64 r.High, .slice A6 r.Noise.length c6, .slice A7 r.Limits.length c7], .agg #[.slice A n c]] w (RegMade (keepR r ps) w) := by
  have HP := Lib.hid (fun w ha hr => implPre_ok r A0 A6 A7 c0 c6 c7 A n c ps w hv ha hn hr hA hpk)
  have HMt := Lib.hid (fun A' n' c' Q w hr hn' hr' hq => implMeetRegions_ok A n c ps A' n' c' Q w hn hr hpk hn' hr' hq)
  have hPk : Hid (regOk (preR r ps).1 = true) := preR_ok r ps
  have HNo := Lib.hid (fun h => keepR_no (r := r) (p := ps) h)
  have HYes := Lib.hid (fun h => keepR_yes (r := r) (p := ps) h)
  have hx : Ext w (((w.alloc (.cells #[.slice A0 r.Map.length c0, .int .i64 r.Div, .int .i64 r.Bx, .int .i64 r.By, .int .i64 r.Low, .int .i64 r.High, .slice A6 r.Noise.length c6, .slice A7 r.Limits.length c7] 37)).alloc (.cells #[.slice A n c] 35)).alloc (.cells #[.slice none 0 0] 35)) := (((Ext.refl w).alloc _).alloc _).alloc _
  have bM := ((Blk.new w 37 #[.slice A0 r.Map.length c0, .int .i64 r.Div, .int .i64 r.Bx, .int .i64 r.By, .int .i64 r.Low, .int .i64 r.High, .slice A6 r.Noise.length c6, .slice A7 r.Limits.length c7]).alloc (.cells #[.slice A n c] 35)).alloc (.cells #[.slice none 0 0] 35)
  have bP := (Blk.new (w.alloc (.cells #[.slice A0 r.Map.length c0, .int .i64 r.Div, .int .i64 r.Bx, .int .i64 r.By, .int .i64 r.Low, .int .i64 r.High, .slice A6 r.Noise.length c6, .slice A7 r.Limits.length c7] 37)) 35 #[.slice A n c]).alloc (.cells #[.slice none 0 0] 35)
  have bR := Blk.new ((w.alloc (.cells #[.slice A0 r.Map.length c0, .int .i64 r.Div, .int .i64 r.Bx, .int .i64 r.By, .int .i64 r.Low, .int .i64 r.High, .slice A6 r.Noise.length c6, .slice A7 r.Limits.length c7] 37)).alloc (.cells #[.slice A n c] 35)) 35 #[.slice none 0 0]
  simp only [World.size_alloc] at bP bR
  have HR := Lib.hid hr
  have HA := Lib.hid ha
  clear hv ha hn hr hpk hA
  generalize keepR r ps = KR at *
  generalize preR r ps = PR at *
  have cbM_33 := fun o => bM.cell o
  have cbP_34 := fun o => bP.cell o
  have cbR_35 := fun o => bR.cell o
  have fbR_35 := fun o => bR.frozen o
  go_enter Tryz.func57, Tryz.ntmps57
  go_wp2_with fail
  refine (HP.out _ (HA.out.ext hx) (HR.out.ext hx)).mono ?_
  rintro e w1 ⟨A1, c1, n1, rfl, hn1, hx1, hown1⟩
  replace hx := hx.trans hx1
  replace bM := bM.ext hx1
  replace bP := bP.ext hx1
  replace bR := bR.ext hx1
  have cbM_36 := fun o => bM.cell o
  have cbP_37 := fun o => bP.cell o
  have cbR_38 := fun o => bR.cell o
  have fbR_38 := fun o => bR.frozen o
  have hs1 := bR.lt
  obtain ⟨Q, ok⟩ := PR
  dsimp only at *
  subst hn1
  have bE := Blk.new w1 35 #[.slice A1 Q.length c1]
  have bR0 := bR
  have hx0 := hx
  have ha1 := (Ext.refl w1).alloc (.cells #[.slice A1 Q.length c1] 35)
  replace hx := hx.trans ha1
  replace bM := bM.ext ha1
  replace bP := bP.ext ha1
  replace bR := bR.ext ha1
  have cbM_39 := fun o => bM.cell o
  have cbP_40 := fun o => bP.cell o
  have cbR_41 := fun o => bR.cell o
  have fbR_41 := fun o => bR.frozen o
  replace hown1 := own_ext hown1 ha1
  have cE := fun o => bE.cell o
  cases ok
  · have H := Lib.hid (HNo.out rfl)
    go_wp2
    have bF := (bR0.set_ 0 (.slice none 0 0)).alloc (.cells #[.slice A1 Q.length c1] 35)
    have cF := fun o => bF.cell o
    refine bodyPost_ret (v := .tuple #[.agg #[.slice none 0 0], .bool false]) (by simp [results, Tryz.results57, go_sem, cF]) rfl ?_
    exact RegMade.nil false H.out rfl ((hx0.setCell (by simp only; omega) _).alloc _)
  have H := Lib.hid (HYes.out rfl)
  clear HNo HYes
  go_wp2_with fail
  refine (HMt.out A1 Q.length c1 Q _ (HR.out.ext hx) rfl (Row.of_own hown1) hPk.out).mono ?_
  rintro e wX ⟨AX, cX, nX, rfl, hnX, hxX, hownX⟩
  rw [← H.out] at hnX hownX ⊢
  have hsX := bR.lt
  replace hx := hx.trans hxX
  replace bM := bM.ext hxX
  replace bP := bP.ext hxX
  replace bR := bR.ext hxX
  replace bE := bE.ext hxX
  have cbM_42 := fun o => bM.cell o
  have cbP_43 := fun o => bP.cell o
  have cbR_44 := fun o => bR.cell o
  have fbR_44 := fun o => bR.frozen o
  have cbE_45 := fun o => bE.cell o
  subst hnX
  go_wp2
  have bF := bR.set_ 0 (.slice AX KR.1.length cX)
  have cF := fun o => bF.cell o
  refine bodyPost_ret (v := .tuple #[.agg #[.slice AX KR.1.length cX], .bool KR.2]) (by simp [results, Tryz.results57, go_sem, cF]) rfl ?_
  exact ⟨AX, cX, _, rfl, rfl, hx.setCell (by simp only; omega) _, own_base (own_far hownX (by simp only; omega) _) (by omega)⟩
end Go.Proofs.YtigkgnplgehmhaaGreatDoor
/- Contracts of PreRegion and KeepRegion of the reference. (written by tools/mkKp.py) -/
namespace Go.Proofs.YtigkgnplgehmhaaGreatDoor
open Go.ChangeShapes Go.WideShapes Go.ChangeAt Go.RowKit
set_option linter.unusedVariables false
set_option maxRecDepth 100000

theorem RoomV.det {r : Room} (h : RoomV r) : (dynOf r).a * (dynOf r).d - (dynOf r).b * (dynOf r).c ≠ 0 := by
  obtain ⟨a, b, c, d, hm, _, hd⟩ := h.map
  unfold dynOf
  rw [hm]
  exact hd
theorem preR_along_no {r : Room} {p : List Half} (h1 : (erodeR p r.Noise).2 = true) (h : (alongR (erodeR p r.Noise).1 r.Bx r.By r.Low r.High).2 = false) : preR r p = ([], false) := by
  unfold alongR at h
  split at h
  · rename_i h38
    exact preR_no (.inr h38)
  · exact preR_no2 h
theorem preR_along {r : Room} {p : List Half} (h1 : (erodeR p r.Noise).2 = true) (h : (alongR (erodeR p r.Noise).1 r.Bx r.By r.Low r.High).2 = true) :
    preR r p = pullR (alongR (erodeR p r.Noise).1 r.Bx r.By r.Low r.High).1 (dynOf r).a (dynOf r).b (dynOf r).c (dynOf r).d r.Div := by
  unfold alongR at h ⊢
  split at h
  · cases h
  · rename_i h38
    rw [if_neg h38]
    exact preR_yes h1 (by omega) h
theorem along_ok {E : List Half} (h : regOk E = true) (bx by_ low high : Int) : regOk (alongR E bx by_ low high).1 = true := by
  unfold alongR
  split
  · rfl
  · exact growR_ok h _ _ _ _
set_option maxHeartbeats 8000000 in
theorem specPreRegion_ok (r : Room) (A0 A6 A7 : Option Addr) (c0 c6 c7 : Nat) (A : Option Addr) (n c : Nat) (ps : List Half) (w : World) (hv : RoomV r) (ha : RoomHere w r A0 A6 A7 c0 c6 c7) (hn : ps.length = n) (hr : Row w A (ints (flat Half.ints ps))) (hA : A = none → n = 0 ∧ c = 0) (hpk : regOk ps = true) :
    Calls Tryz.prog 125 #[.agg #[.slice A0 r.Map.length c0, .int .i64 r.Div, .int .i64 r.Bx, .int .i64 r.By, .int .i64 r.Low, .int .i64 r.High, .slice A6 r.Noise.length c6, .slice A7 r.Limits.length c7], .agg #[.slice A n c]] w (RegMade (preR r ps) w) := by
  obtain ⟨hD, hM⟩ := hv.dyn
  have hdet := hv.det
  have d1 : -1000 ≤ r.Low := hD.low
  have d2 : r.Low ≤ r.High := hD.mid
  have d3 : r.High ≤ 1000 := hD.high
  have hle : n ≤ 40 := by have := regOk_len hpk; omega
  have hEk : Hid (regOk (erodeR ps r.Noise).1 = true) := erodeR_ok _ _
  have hGk : Hid (∀ E, regOk E = true → regOk (alongR E r.Bx r.By r.Low r.High).1 = true) := fun E h => along_ok h _ _ _ _
  have HE := Lib.hid (fun w ha hr => specRobustPart_ok r A0 A6 A7 c0 c6 c7 A n c ps w hv ha hn hr hA hpk)
  have HG := Lib.hid (fun A n c E w hn hk hA hr => specGrowAlong_any A n c r.Bx r.By r.Low r.High E w hn hk hA hD.bx hD.by_ ⟨d1, by omega⟩ ⟨d2, d3⟩ hr)
  have HP := Lib.hid (fun A n c G w hn hp hA hk hm => specPullBack_any (dynOf r) A n c G A0 c0 w hD hdet hn hp hA hk hm)
  have hq : (dynOf r).q = r.Div := rfl
  have hl4 : r.Map.length = 4 := by rw [hM]; rfl
  have HMr : Hid (∀ V, Ext w V → Row V A0 (ints [(dynOf r).a, (dynOf r).b, (dynOf r).c, (dynOf r).d])) := fun V hV => by
    have := (ha.ext hV).at_.m
    rwa [hM] at this
  have HNo := Lib.hid (fun h => preR_no (r := r) (p := ps) h)
  have HNo2 := Lib.hid (fun h1 h => preR_along_no (r := r) (p := ps) h1 h)
  have HYes := Lib.hid (fun h1 h => preR_along (r := r) (p := ps) h1 h)
  have hx : Ext w (((w.alloc (.cells #[.slice A0 r.Map.length c0, .int .i64 r.Div, .int .i64 r.Bx, .int .i64 r.By, .int .i64 r.Low, .int .i64 r.High, .slice A6 r.Noise.length c6, .slice A7 r.Limits.length c7] 37)).alloc (.cells #[.slice A n c] 35)).alloc (.cells #[.slice none 0 0] 35)) := (((Ext.refl w).alloc _).alloc _).alloc _
  have bM := ((Blk.new w 37 #[.slice A0 r.Map.length c0, .int .i64 r.Div, .int .i64 r.Bx, .int .i64 r.By, .int .i64 r.Low, .int .i64 r.High, .slice A6 r.Noise.length c6, .slice A7 r.Limits.length c7]).alloc (.cells #[.slice A n c] 35)).alloc (.cells #[.slice none 0 0] 35)
  have bP := (Blk.new (w.alloc (.cells #[.slice A0 r.Map.length c0, .int .i64 r.Div, .int .i64 r.Bx, .int .i64 r.By, .int .i64 r.Low, .int .i64 r.High, .slice A6 r.Noise.length c6, .slice A7 r.Limits.length c7] 37)) 35 #[.slice A n c]).alloc (.cells #[.slice none 0 0] 35)
  have bR := Blk.new ((w.alloc (.cells #[.slice A0 r.Map.length c0, .int .i64 r.Div, .int .i64 r.Bx, .int .i64 r.By, .int .i64 r.Low, .int .i64 r.High, .slice A6 r.Noise.length c6, .slice A7 r.Limits.length c7] 37)).alloc (.cells #[.slice A n c] 35)) 35 #[.slice none 0 0]
  simp only [World.size_alloc] at bP bR
  have HR := Lib.hid hr
  have HA := Lib.hid ha
  rw [hq] at HP
  rw [hl4] at bM hx bP bR HE ⊢
  clear hv ha hn hr hpk hD hM hA d1 d2 d3 hdet
  generalize preR r ps = PR at *
  generalize erodeR ps r.Noise = ER at *
  have cbM_46 := fun o => bM.cell o
  have cbP_47 := fun o => bP.cell o
  have cbR_48 := fun o => bR.cell o
  have fbR_48 := fun o => bR.frozen o
  go_enter Tryz.func125, Tryz.ntmps125
  go_wp2_with fail
  refine (HE.out _ (HA.out.ext hx) (HR.out.ext hx)).mono ?_
  rintro e w1 ⟨A1, c1, n1, rfl, hn1, hx1, hown1⟩
  have hs1 := bR.lt
  replace hx := hx.trans hx1
  replace bM := bM.ext hx1
  replace bP := bP.ext hx1
  replace bR := bR.ext hx1
  have cbM_49 := fun o => bM.cell o
  have cbP_50 := fun o => bP.cell o
  have cbR_51 := fun o => bR.cell o
  have fbR_51 := fun o => bR.frozen o
  have hs1b := bR.lt
  obtain ⟨E, ok⟩ := ER
  dsimp only at *
  subst hn1
  have bE := Blk.new w1 35 #[.slice A1 E.length c1]
  have bR0 := bR
  have hx0 := hx
  have ha1 := (Ext.refl w1).alloc (.cells #[.slice A1 E.length c1] 35)
  replace hx := hx.trans ha1
  replace bM := bM.ext ha1
  replace bP := bP.ext ha1
  replace bR := bR.ext ha1
  have cbM_52 := fun o => bM.cell o
  have cbP_53 := fun o => bP.cell o
  have cbR_54 := fun o => bR.cell o
  have fbR_54 := fun o => bR.frozen o
  replace hown1 := own_ext hown1 ha1
  have cE := fun o => bE.cell o
  cases ok
  · have H := Lib.hid (HNo.out (.inl rfl))
    go_wp2
    have bF := (bR0.set_ 0 (.slice none 0 0)).alloc (.cells #[.slice A1 E.length c1] 35)
    have cF := fun o => bF.cell o
    refine bodyPost_ret (v := .tuple #[.agg #[.slice none 0 0], .bool false]) (by simp [results, Tryz.results125, go_sem, cF]) rfl ?_
    exact RegMade.nil false H.out rfl ((hx0.setCell (by simp only; omega) _).alloc _)
  have HY := Lib.hid (HYes.out rfl)
  have HN2 := Lib.hid (HNo2.out rfl)
  have hGk' := Lib.hid (hGk.out E hEk.out)
  have hmine := (Mine.of_own hown1).none
  clear HNo HYes HNo2
  go_wp2_with fail
  refine (HG.out A1 E.length c1 E _ rfl hEk.out hmine (Row.of_own hown1)).mono ?_
  rintro e w2 ⟨A2, c2, n2, rfl, hn2, hx2, hown2⟩
  replace hx := hx.trans hx2
  replace bM := bM.ext hx2
  replace bP := bP.ext hx2
  replace bR := bR.ext hx2
  replace bE := bE.ext hx2
  have cbM_55 := fun o => bM.cell o
  have cbP_56 := fun o => bP.cell o
  have cbR_57 := fun o => bR.cell o
  have fbR_57 := fun o => bR.frozen o
  have cbE_58 := fun o => bE.cell o
  have hs2 := bR.lt
  generalize alongR E r.Bx r.By r.Low r.High = GR at *
  obtain ⟨G, ok⟩ := GR
  dsimp only at *
  subst hn2
  have bG := Blk.new w2 35 #[.slice A2 G.length c2]
  replace bR0 := bR
  replace hx0 := hx
  have ha2 := (Ext.refl w2).alloc (.cells #[.slice A2 G.length c2] 35)
  replace hx := hx.trans ha2
  replace bM := bM.ext ha2
  replace bP := bP.ext ha2
  replace bR := bR.ext ha2
  replace bE := bE.ext ha2
  have cbM_59 := fun o => bM.cell o
  have cbP_60 := fun o => bP.cell o
  have cbR_61 := fun o => bR.cell o
  have fbR_61 := fun o => bR.frozen o
  have cbE_62 := fun o => bE.cell o
  replace hown2 := own_ext hown2 ha2
  have cG := fun o => bG.cell o
  clear hown1 hmine
  cases ok
  · have H := Lib.hid (HN2.out rfl)
    go_wp2
    have bF := (bR0.set_ 0 (.slice none 0 0)).alloc (.cells #[.slice A2 G.length c2] 35)
    have cF := fun o => bF.cell o
    refine bodyPost_ret (v := .tuple #[.agg #[.slice none 0 0], .bool false]) (by simp [results, Tryz.results125, go_sem, cF]) rfl ?_
    exact RegMade.nil false H.out rfl ((hx0.setCell (by simp only; omega) _).alloc _)
  have H := Lib.hid (HY.out rfl)
  have hmine2 := (Mine.of_own hown2).none
  clear HN2 HY
  go_wp2_with fail
  refine (HP.out A2 G.length c2 G _ rfl (Row.of_own hown2) hmine2 hGk'.out (HMr.out _ hx)).mono ?_
  rintro e wX ⟨AX, cX, nX, rfl, hnX, hxX, hownX⟩
  rw [← H.out] at hnX hownX ⊢
  have hsX := bR.lt
  replace hx := hx.trans hxX
  replace bM := bM.ext hxX
  replace bP := bP.ext hxX
  replace bR := bR.ext hxX
  replace bE := bE.ext hxX
  replace bG := bG.ext hxX
  have cbM_63 := fun o => bM.cell o
  have cbP_64 := fun o => bP.cell o
  have cbR_65 := fun o => bR.cell o
  have fbR_65 := fun o => bR.frozen o
  have cbE_66 := fun o => bE.cell o
  have cbG_67 := fun o => bG.cell o
  subst hnX
  go_wp2
  have bF := bR.set_ 0 (.slice AX PR.1.length cX)
  have cF := fun o => bF.cell o
  refine bodyPost_ret (v := .tuple #[.agg #[.slice AX PR.1.length cX], .bool PR.2]) (by simp [results, Tryz.results125, go_sem, cF]) rfl ?_
  exact ⟨AX, cX, _, rfl, rfl, hx.setCell (by simp only; omega) _, own_base (own_far hownX (by simp only; omega) _) (by omega)⟩
set_option maxHeartbeats 8000000 in
theorem specKeepRegion_ok (r : Room) (A0 A6 A7 : Option Addr) (c0 c6 c7 : Nat) (A : Option Addr) (n c : Nat) (ps : List Half) (w : World) (hv : RoomV r) (ha : RoomHere w r A0 A6 A7 c0 c6 c7) (hn : ps.length = n) (hr : Row w A (ints (flat Half.ints ps))) (hA : A = none → n = 0 ∧ c = 0) (hpk : regOk ps = true) :
    Calls Tryz.prog 86 #[.agg #[.slice A0 r.Map.length c0, .int .i64 r.Div, .int .i64 r.Bx, .int .i64 r.By, .int .i64 r.Low, .int .i64 r.High, .slice A6 r.Noise.length c6, .slice A7 r.Limits.length c7], .agg #[.slice A n c]] w (RegMade (keepR r ps) w) := by
  have HP := Lib.hid (fun w ha hr => specPreRegion_ok r A0 A6 A7 c0 c6 c7 A n c ps w hv ha hn hr hA hpk)
  have HMt := Lib.hid (fun A' n' c' Q w hr hn' hr' hA' hq => specMeetRegions_ok A n c ps A' n' c' Q w hn hr hA hpk hn' hr' hA' hq)
  have hPk : Hid (regOk (preR r ps).1 = true) := preR_ok r ps
  have HNo := Lib.hid (fun h => keepR_no (r := r) (p := ps) h)
  have HYes := Lib.hid (fun h => keepR_yes (r := r) (p := ps) h)
  have hx : Ext w (((w.alloc (.cells #[.slice A0 r.Map.length c0, .int .i64 r.Div, .int .i64 r.Bx, .int .i64 r.By, .int .i64 r.Low, .int .i64 r.High, .slice A6 r.Noise.length c6, .slice A7 r.Limits.length c7] 37)).alloc (.cells #[.slice A n c] 35)).alloc (.cells #[.slice none 0 0] 35)) := (((Ext.refl w).alloc _).alloc _).alloc _
  have bM := ((Blk.new w 37 #[.slice A0 r.Map.length c0, .int .i64 r.Div, .int .i64 r.Bx, .int .i64 r.By, .int .i64 r.Low, .int .i64 r.High, .slice A6 r.Noise.length c6, .slice A7 r.Limits.length c7]).alloc (.cells #[.slice A n c] 35)).alloc (.cells #[.slice none 0 0] 35)
  have bP := (Blk.new (w.alloc (.cells #[.slice A0 r.Map.length c0, .int .i64 r.Div, .int .i64 r.Bx, .int .i64 r.By, .int .i64 r.Low, .int .i64 r.High, .slice A6 r.Noise.length c6, .slice A7 r.Limits.length c7] 37)) 35 #[.slice A n c]).alloc (.cells #[.slice none 0 0] 35)
  have bR := Blk.new ((w.alloc (.cells #[.slice A0 r.Map.length c0, .int .i64 r.Div, .int .i64 r.Bx, .int .i64 r.By, .int .i64 r.Low, .int .i64 r.High, .slice A6 r.Noise.length c6, .slice A7 r.Limits.length c7] 37)).alloc (.cells #[.slice A n c] 35)) 35 #[.slice none 0 0]
  simp only [World.size_alloc] at bP bR
  have HR := Lib.hid hr
  have HA := Lib.hid ha
  clear hv ha hn hr hpk hA
  generalize keepR r ps = KR at *
  generalize preR r ps = PR at *
  have cbM_68 := fun o => bM.cell o
  have cbP_69 := fun o => bP.cell o
  have cbR_70 := fun o => bR.cell o
  have fbR_70 := fun o => bR.frozen o
  go_enter Tryz.func86, Tryz.ntmps86
  go_wp2_with fail
  refine (HP.out _ (HA.out.ext hx) (HR.out.ext hx)).mono ?_
  rintro e w1 ⟨A1, c1, n1, rfl, hn1, hx1, hown1⟩
  replace hx := hx.trans hx1
  replace bM := bM.ext hx1
  replace bP := bP.ext hx1
  replace bR := bR.ext hx1
  have cbM_71 := fun o => bM.cell o
  have cbP_72 := fun o => bP.cell o
  have cbR_73 := fun o => bR.cell o
  have fbR_73 := fun o => bR.frozen o
  have hs1 := bR.lt
  obtain ⟨Q, ok⟩ := PR
  dsimp only at *
  subst hn1
  have bE := Blk.new w1 35 #[.slice A1 Q.length c1]
  have bR0 := bR
  have hx0 := hx
  have ha1 := (Ext.refl w1).alloc (.cells #[.slice A1 Q.length c1] 35)
  replace hx := hx.trans ha1
  replace bM := bM.ext ha1
  replace bP := bP.ext ha1
  replace bR := bR.ext ha1
  have cbM_74 := fun o => bM.cell o
  have cbP_75 := fun o => bP.cell o
  have cbR_76 := fun o => bR.cell o
  have fbR_76 := fun o => bR.frozen o
  replace hown1 := own_ext hown1 ha1
  have cE := fun o => bE.cell o
  cases ok
  · have H := Lib.hid (HNo.out rfl)
    go_wp2
    have bF := (bR0.set_ 0 (.slice none 0 0)).alloc (.cells #[.slice A1 Q.length c1] 35)
    have cF := fun o => bF.cell o
    refine bodyPost_ret (v := .tuple #[.agg #[.slice none 0 0], .bool false]) (by simp [results, Tryz.results86, go_sem, cF]) rfl ?_
    exact RegMade.nil false H.out rfl ((hx0.setCell (by simp only; omega) _).alloc _)
  have H := Lib.hid (HYes.out rfl)
  have hmine := (Mine.of_own hown1).none
  clear HNo HYes
  go_wp2_with fail
  refine (HMt.out A1 Q.length c1 Q _ (HR.out.ext hx) rfl (Row.of_own hown1) hmine hPk.out).mono ?_
  rintro e wX ⟨AX, cX, nX, rfl, hnX, hxX, hownX⟩
  rw [← H.out] at hnX hownX ⊢
  have hsX := bR.lt
  replace hx := hx.trans hxX
  replace bM := bM.ext hxX
  replace bP := bP.ext hxX
  replace bR := bR.ext hxX
  replace bE := bE.ext hxX
  have cbM_77 := fun o => bM.cell o
  have cbP_78 := fun o => bP.cell o
  have cbR_79 := fun o => bR.cell o
  have fbR_79 := fun o => bR.frozen o
  have cbE_80 := fun o => bE.cell o
  subst hnX
  go_wp2
  have bF := bR.set_ 0 (.slice AX KR.1.length cX)
  have cF := fun o => bF.cell o
  refine bodyPost_ret (v := .tuple #[.agg #[.slice AX KR.1.length cX], .bool KR.2]) (by simp [results, Tryz.results86, go_sem, cF]) rfl ?_
  exact ⟨AX, cX, _, rfl, rfl, hx.setCell (by simp only; omega) _, own_base (own_far hownX (by simp only; omega) _) (by omega)⟩
end Go.Proofs.YtigkgnplgehmhaaGreatDoor
/- Contracts of RunRounds of both. (written by tools/mkRu.py) -/
namespace Go.Proofs.YtigkgnplgehmhaaGreatDoor
open Go.ChangeShapes Go.WideShapes Go.ChangeAt Go.RowKit
set_option linter.unusedVariables false
set_option maxRecDepth 100000

/-- a kept region was made, and a bool -/
def KeptMade (x : KeptV) (w : World) (e : Ending) (w' : World) : Prop :=
  ∃ A c n, e = .returned (.tuple #[.agg #[.slice A n c, .int .i64 (x.n : Int), .bool x.stop], .bool x.ok]) ∧ n = x.reg.length ∧ Ext w w' ∧ w'.ownsRow w.heap.size 101 3 (.slice A n c) n (ints (flat Half.ints x.reg))
theorem KeptMade.nil {x : KeptV} {w w' : World} {e : Ending} (hr : x = ⟨[], 0, false, false⟩) (he : e = .returned (.tuple #[.agg #[.slice none 0 0, .int .i64 0, .bool false], .bool false])) (hx : Ext w w') : KeptMade x w e w' := by
  subst hr
  exact ⟨none, 0, 0, he, rfl, hx, World.ownsRow_nil _ _ _ _⟩
theorem ext_set3 {w V : World} {g : Nat} (h : Ext w V) (hg : w.heap.size ≤ g) (a b c : Value) : Ext w (((V.setCell ⟨g, 0, none⟩ a).setCell ⟨g, 1, none⟩ b).setCell ⟨g, 2, none⟩ c) :=
  ((h.setCell (p := ⟨g, 0, none⟩) hg _).setCell (p := ⟨g, 1, none⟩) hg _).setCell (p := ⟨g, 2, none⟩) hg _
theorem own_set3 {w : World} {base : Nat} {e : TypeId} {s n : Nat} {v : Value} {xs : List Value} (h : w.ownsRow base e s v n xs) {g : Nat} (hg : g < base) (a b c : Value) : (((w.setCell ⟨g, 0, none⟩ a).setCell ⟨g, 1, none⟩ b).setCell ⟨g, 2, none⟩ c).ownsRow base e s v n xs :=
  own_far (own_far (own_far h (p := ⟨g, 0, none⟩) hg a) (p := ⟨g, 1, none⟩) hg b) (p := ⟨g, 2, none⟩) hg c
theorem runR_bad {r : Room} (h : roomOk r = false) (k : Nat) : runR r k = ⟨[], 0, false, false⟩ := by unfold runR; rw [h]; rfl
theorem runR_good {r : Room} (h : roomOk r = true) (k : Nat) : runR r k = runF r k r.Limits 0 := by unfold runR; rw [if_pos h]
set_option maxHeartbeats 32000000 in
theorem implRunRounds_any (r : Room) (A0 A6 A7 : Option Addr) (c0 c6 c7 : Nat) (k : Nat) (w : World) (hk : k ≤ 12) (ha : RoomHere w r A0 A6 A7 c0 c6 c7) (hFI : roomFI r) (hRL : RoomL r) :
    Calls Tryz.prog 23 #[.agg #[.slice A0 r.Map.length c0, .int .i64 r.Div, .int .i64 r.Bx, .int .i64 r.By, .int .i64 r.Low, .int .i64 r.High, .slice A6 r.Noise.length c6, .slice A7 r.Limits.length c7], .int .i64 (k : Int)] w (KeptMade (runR r k) w) := by
  have hx : Ext w ((w.alloc (.cells #[.slice A0 r.Map.length c0, .int .i64 r.Div, .int .i64 r.Bx, .int .i64 r.By, .int .i64 r.Low, .int .i64 r.High, .slice A6 r.Noise.length c6, .slice A7 r.Limits.length c7] 37)).alloc (.cells #[.slice none 0 0, .int .i64 0, .bool false] 61)) := ((Ext.refl w).alloc _).alloc _
  have bM := (Blk.new w 37 #[.slice A0 r.Map.length c0, .int .i64 r.Div, .int .i64 r.Bx, .int .i64 r.By, .int .i64 r.Low, .int .i64 r.High, .slice A6 r.Noise.length c6, .slice A7 r.Limits.length c7]).alloc (.cells #[.slice none 0 0, .int .i64 0, .bool false] 61)
  have bR := Blk.new (w.alloc (.cells #[.slice A0 r.Map.length c0, .int .i64 r.Div, .int .i64 r.Bx, .int .i64 r.By, .int .i64 r.Low, .int .i64 r.High, .slice A6 r.Noise.length c6, .slice A7 r.Limits.length c7] 37)) 61 #[.slice none 0 0, .int .i64 0, .bool false]
  simp only [World.size_alloc] at bR
  have HRo := Lib.hid (fun w h => implRoomOk_any r A0 A6 A7 c0 c6 c7 w h hFI hRL)
  have HIn := Lib.hid (fun w => inRange_eq (n := (k : Int)) (lo := 0) (hi := 12) (inR_yes (by omega)) w)
  have HBad := Lib.hid (fun h => runR_bad (r := r) h k)
  have HGood := Lib.hid (fun h => runR_good (r := r) h k)
  have HV := Lib.hid (fun h => room_valid (r := r) h)
  have HA := Lib.hid ha
  obtain ⟨v, hv⟩ : ∃ v, roomOk r = v := ⟨_, rfl⟩
  rw [hv] at HRo HBad HGood HV
  generalize runR r k = X at *
  clear ha hFI hRL hv
  have cbM_81 := fun o => bM.cell o
  have cbR_82 := fun o => bR.cell o
  have fbR_82 := fun o => bR.frozen o
  go_enter Tryz.func23, Tryz.ntmps23
  go_wp2_with fail
  refine (HIn.out _).mono ?_
  rintro e w' ⟨rfl, rfl⟩
  go_wp2_with fail
  refine (HRo.out _ (HA.out.ext hx).at_).mono ?_
  rintro e w1 ⟨rfl, hx1⟩
  replace hx := hx.trans hx1
  replace bM := bM.ext hx1
  replace bR := bR.ext hx1
  have cbM_83 := fun o => bM.cell o
  have cbR_84 := fun o => bR.cell o
  have fbR_84 := fun o => bR.frozen o
  cases v
  · have H := Lib.hid (HBad.out rfl)
    go_wp2
    have bF := ((bR.set_ 0 (.slice none 0 0)).set_ 1 (.int .i64 0)).set_ 2 (.bool false)
    have cF := fun o => bF.cell o
    refine bodyPost_ret (v := .tuple #[.agg #[.slice none 0 0, .int .i64 0, .bool false], .bool false]) (by simp [results, Tryz.results23, go_sem, cF]) rfl ?_
    exact KeptMade.nil H.out rfl (ext_set3 hx (by omega) _ _ _)
  have hv := HV.out (by first | rfl | trivial)
  have HX := Lib.hid (HGood.out (by first | rfl | trivial))
  have hlim := HA.out.n7
  have HCp := Lib.hid (fun w hr => implCopyRegion_any A7 r.Limits.length c7 r.Limits w rfl hr hlim (by have := regOk_len hv.limits; omega))
  have HLk : Hid (regOk r.Limits = true) := hv.limits
  have HKeep := Lib.hid (fun A n c ps w ha hn hr hA hpk => implKeep_ok r A0 A6 A7 c0 c6 c7 A n c ps w hv ha hn hr hA hpk)
  have HKok := Lib.hid (fun p (h : regOk p = true) => keepR_ok (r := r) h)
  have HSame := Lib.hid (fun A B n m c d xs ys w hn hm hr hs hle hle' => implSameRegion_any A B n m c d xs ys w hn hm hr hs hle hle')
  clear HBad HGood HRo HIn HV hlim hv
  go_wp2_with fail
  refine (HCp.out _ ((HA.out.ext hx).at_.q)).mono ?_
  rintro e w2 ⟨A2, c2, n2, rfl, hn2, hx2, hown2⟩
  subst hn2
  have hs2 := bR.lt
  replace hx := hx.trans hx2
  replace bM := bM.ext hx2
  replace bR := bR.ext hx2
  have cbM_85 := fun o => bM.cell o
  have cbR_86 := fun o => bR.cell o
  have fbR_86 := fun o => bR.frozen o
  have hs2b := bR.lt
  have bK := Blk.new w2 61 #[.slice A2 r.Limits.length c2, .int .i64 0, .bool false]
  have hfar : ∀ g, Value.ownBlock (.slice A2 r.Limits.length c2) = some g → g ≠ w2.heap.size := fun q hq => by have := (hown2.lt q hq).2; omega
  have ha2 := (Ext.refl w2).alloc (.cells #[.slice A2 r.Limits.length c2, .int .i64 0, .bool false] 61)
  replace hx := hx.trans ha2
  replace bM := bM.ext ha2
  replace bR := bR.ext ha2
  have cbM_87 := fun o => bM.cell o
  have cbR_88 := fun o => bR.cell o
  have fbR_88 := fun o => bR.frozen o
  replace hown2 := own_base (own_ext hown2 ha2) (show w.heap.size + 2 ≤ _ by omega)
  obtain ⟨BK, hBK⟩ : ∃ B, w2.heap.size = B := ⟨_, rfl⟩
  rw [hBK] at bK hfar
  have hBK2 : w.heap.size + 1 < BK := by omega
  go_wp2
  go_loopg [] (2 * k + 1) (fun gk wr => ∃ (p : List Half) (j : Nat) (st : Bool) (A : Option Addr) (c : Nat), j ≤ k ∧ regOk p = true ∧ gk = 2 * (k - j) + (if st = true then 0 else 1) ∧ (st = false → X = runF r (k - j) p j) ∧ (st = true → X = ⟨p, j, true, true⟩)
    ∧ Ext w wr ∧ Blk wr w.heap.size 37 #[.slice A0 r.Map.length c0, .int .i64 r.Div, .int .i64 r.Bx, .int .i64 r.By, .int .i64 r.Low, .int .i64 r.High, .slice A6 r.Noise.length c6, .slice A7 r.Limits.length c7] ∧ Blk wr (w.heap.size + 1) 61 #[.slice none 0 0, .int .i64 0, .bool false] ∧ Blk wr BK 61 #[.slice A p.length c, .int .i64 (j : Int), .bool st]
    ∧ (∀ g, Value.ownBlock (.slice A p.length c) = some g → g ≠ BK) ∧ wr.ownsRow (w.heap.size + 2) 101 3 (.slice A p.length c) p.length (ints (flat Half.ints p)))
  case atStart => exact ⟨r.Limits, 0, false, A2, c2, Nat.zero_le _, HLk.out, by simp, fun _ => HX.out, (fun h => by cases h), hx, bM, bR, bK, hfar, hown2⟩
  case round =>
  obtain ⟨p, j, st, A, c, hj, hpk, hgk, hgo, hst, hy, dM, dR, dK, hfr, hown⟩ := hrel
  have hsz := hy.size
  have hdl := dR.lt
  have hkl := dK.lt
  have hpl := regOk_len hpk
  have hmine := (Mine.of_own hown).none
  clear bM bR bK hfar hown2 hx HCp HLk
  cases st
  rotate_left
  · have H := Lib.hid (hst rfl)
    have cK := fun o => dK.cell o
    have cR := fun o => dR.cell o
    have fR := fun o => dR.frozen o
    clear hgo hst hgk
    by_cases hlt : (j : Int) < (k : Int)
    all_goals
      go_wp2
      have bF := ((dR.set_ 0 (.slice A p.length c)).set_ 1 (.int .i64 (j : Int))).set_ 2 (.bool true)
      have cF := fun o => bF.cell o
      clear cR fR cK
      refine bodyPost_ret (v := .tuple #[.agg #[.slice A p.length c, .int .i64 (j : Int), .bool true], .bool true]) (by simp [results, Tryz.results23, go_sem, cF]) rfl ?_
      rw [H.out]
      exact ⟨A, c, _, rfl, rfl, ext_set3 hy (by omega) _ _ _, own_base (own_set3 hown (by omega) _ _ _) (by omega)⟩
  have hgoF := hgo rfl
  clear hgo hst
  by_cases hjk : j = k
  · subst hjk
    have hlt : ¬ (j : Int) < (j : Int) := by omega
    have H : Hid (X = ⟨p, j, false, true⟩) := by
      rw [Hid, hgoF, Nat.sub_self]
      rfl
    have cK := fun o => dK.cell o
    have cR := fun o => dR.cell o
    have fR := fun o => dR.frozen o
    clear hgoF hgk
    go_wp2
    have bF := ((dR.set_ 0 (.slice A p.length c)).set_ 1 (.int .i64 (j : Int))).set_ 2 (.bool false)
    have cF := fun o => bF.cell o
    clear cR fR cK
    refine bodyPost_ret (v := .tuple #[.agg #[.slice A p.length c, .int .i64 (j : Int), .bool false], .bool true]) (by simp [results, Tryz.results23, go_sem, cF]) rfl ?_
    rw [H.out]
    exact ⟨A, c, _, rfl, rfl, ext_set3 hy (by omega) _ _ _, own_base (own_set3 hown (by omega) _ _ _) (by omega)⟩
  have hlt : (j : Int) < (k : Int) := by omega
  have hjk2 : j < k := by omega
  obtain ⟨f, hf⟩ : ∃ f, k - j = f + 1 := ⟨k - j - 1, by omega⟩
  rw [hf] at hgoF
  have HNo := Lib.hid (fun h => hgoF.trans (runF_no h))
  have HStop := Lib.hid (fun h h2 => hgoF.trans (runF_stop h h2))
  have HGo := Lib.hid (fun h h2 => hgoF.trans (runF_go h h2))
  have hf2 : k - (j + 1) = f := by omega
  have HKq := Lib.hid (HKok.out p hpk)
  have HNum := Lib.hid (And.intro hf (And.intro hf2 (And.intro hgk hjk2)))
  have HKp := Lib.hid (fun w ha hr => HKeep.out A p.length c p w ha rfl hr hmine hpk)
  clear hgoF hf hf2 hgk hjk hjk2
  obtain ⟨KR, hKR⟩ : ∃ x, keepR r p = x := ⟨_, rfl⟩
  rw [hKR] at HNo HStop HGo HKq HKp
  obtain ⟨q, ok⟩ := KR
  dsimp only at HNo HStop HGo HKq HKp
  clear hKR
  have wj : IntKind.i64.wrap ((j : Int) + 1) = ((j + 1 : Nat) : Int) := by
    have e : ((j + 1 : Nat) : Int) = (j : Int) + 1 := by omega
    rw [e]
    exact IntWalk.i64_in _ (by omega)
  have cK := fun o => dK.cell o
  have cM := fun o => dM.cell o
  go_wp2_with fail
  refine (HKp.out _ (HA.out.ext hy) (Row.of_own hown)).mono ?_
  rintro e w3 ⟨A3, c3, n3, rfl, hn3, hx3, hown3⟩
  dsimp only at hn3 hown3 ⊢
  subst hn3
  have bN := Blk.new w3 35 #[.slice A3 q.length c3]
  have hA3 := (Ext.refl w3).alloc (.cells #[.slice A3 q.length c3] 35)
  have dR3 := dR.ext hx3
  have hy3 := hy.trans hx3
  replace hy := hy3.trans hA3
  have h34 := hx3.trans hA3
  replace dM := dM.ext h34
  replace dR := dR.ext h34
  replace dK := dK.ext h34
  replace hown := own_ext hown h34
  have hfr3 : ∀ g, Value.ownBlock (.slice A3 q.length c3) = some g → g ≠ BK := fun g hg => by have := (hown3.lt g hg).1; omega
  replace hown3 := own_ext hown3 hA3
  clear cK cM
  have cK := fun o => dK.cell o
  have cN := fun o => bN.cell o
  have cR := fun o => dR.cell o
  have fR := fun o => dR.frozen o
  have hs3 := hx3.size
  cases ok
  · have H := Lib.hid (HNo.out rfl)
    go_wp2
    have bF := ((dR.set_ 0 (.slice none 0 0)).set_ 1 (.int .i64 0)).set_ 2 (.bool false)
    have cF := fun o => bF.cell o
    clear cR fR
    refine bodyPost_ret (v := .tuple #[.agg #[.slice none 0 0, .int .i64 0, .bool false], .bool false]) (by simp [results, Tryz.results23, go_sem, cF]) rfl ?_
    exact KeptMade.nil H.out rfl (ext_set3 hy (by omega) _ _ _)
  have hql := regOk_len HKq.out
  clear cR fR
  go_wp2_with fail
  refine (HSame.out A3 A q.length p.length c3 c q p _ rfl rfl (Row.of_own hown3) (Row.of_own hown) (by unfold maxLen; omega) (by unfold maxLen; omega)).mono ?_
  rintro e w5 ⟨rfl, hx5⟩
  replace hy := hy.trans hx5
  replace dM := dM.ext hx5
  replace dR := dR.ext hx5
  replace dK := dK.ext hx5
  replace bN := bN.ext hx5
  replace hown := own_ext hown hx5
  replace hown3 := own_ext hown3 hx5
  clear cK cN
  have cK := fun o => dK.cell o
  have fK := fun o => dK.frozen o
  have cN := fun o => bN.cell o
  have hwB : w.heap.size ≤ BK := by omega
  have hneM : w.heap.size ≠ BK := by omega
  have hneR : w.heap.size + 1 ≠ BK := by omega
  by_cases hs : q = p
  · have hb : decide (q = p) = true := decide_eq_true hs
    rw [hb]
    have H := Lib.hid (HStop.out (by first | rfl | trivial) hs)
    clear hb hs
    go_wp2
    go_roundg (2 * (k - j))
    case measure => obtain ⟨n1, n2, n3, n4⟩ := HNum.out; rw [n3]; simp
    case rel => exact ⟨p, j, true, A, c, hj, hpk, by simp, (fun h => by cases h), fun _ => H.out, hy.setCell (p := ⟨BK, 2, none⟩) hwB _, dM.far (p := ⟨BK, 2, none⟩) hneM _, dR.far (p := ⟨BK, 2, none⟩) hneR _, dK.set_ 2 (.bool true), hfr, own_set hown (p := ⟨BK, 2, none⟩) hfr _⟩
  have hb : decide (q = p) = false := decide_eq_false hs
  rw [hb]
  have H := Lib.hid (HGo.out (by first | rfl | trivial) hs)
  clear hb hs
  have hnb : w3.heap.size ≠ BK := by omega
  have bN2 := bN.far (p := ⟨BK, 0, none⟩) hnb (.slice A3 q.length c3)
  have dK2 := dK.set_ 0 (.slice A3 q.length c3)
  have cN2 := fun o => bN2.cell o
  have cK2 := fun o => dK2.cell o
  have fK2 := fun o => dK2.frozen o
  go_wp2
  go_roundg (2 * (k - (j + 1)) + 1)
  case measure => obtain ⟨n1, n2, n3, n4⟩ := HNum.out; rw [n3]; simp; omega
  case rel => exact ⟨q, j + 1, false, A3, c3, by omega, HKq.out, by simp, (fun _ => by obtain ⟨n1, n2, n3, n4⟩ := HNum.out; rw [n2]; exact H.out), (fun h => by cases h), (hy.setCell (p := ⟨BK, 0, none⟩) hwB _).setCell (p := ⟨BK, 1, none⟩) hwB _, (dM.far (p := ⟨BK, 0, none⟩) hneM _).far (p := ⟨BK, 1, none⟩) hneM _, (dR.far (p := ⟨BK, 0, none⟩) hneR _).far (p := ⟨BK, 1, none⟩) hneR _, (dK.set_ 0 (.slice A3 q.length c3)).set_ 1 (.int .i64 ((j + 1 : Nat) : Int)), hfr3, own_base (own_set (own_set hown3 (p := ⟨BK, 0, none⟩) hfr3 _) (p := ⟨BK, 1, none⟩) hfr3 _) (by omega)⟩
set_option maxHeartbeats 32000000 in
theorem specRunRounds_any (r : Room) (A0 A6 A7 : Option Addr) (c0 c6 c7 : Nat) (k : Nat) (w : World) (hk : k ≤ 12) (ha : RoomHere w r A0 A6 A7 c0 c6 c7) (hFI : roomFI r) (hRL : RoomL r) :
    Calls Tryz.prog 44 #[.agg #[.slice A0 r.Map.length c0, .int .i64 r.Div, .int .i64 r.Bx, .int .i64 r.By, .int .i64 r.Low, .int .i64 r.High, .slice A6 r.Noise.length c6, .slice A7 r.Limits.length c7], .int .i64 (k : Int)] w (KeptMade (runR r k) w) := by
  have hx : Ext w ((w.alloc (.cells #[.slice A0 r.Map.length c0, .int .i64 r.Div, .int .i64 r.Bx, .int .i64 r.By, .int .i64 r.Low, .int .i64 r.High, .slice A6 r.Noise.length c6, .slice A7 r.Limits.length c7] 37)).alloc (.cells #[.slice none 0 0, .int .i64 0, .bool false] 61)) := ((Ext.refl w).alloc _).alloc _
  have bM := (Blk.new w 37 #[.slice A0 r.Map.length c0, .int .i64 r.Div, .int .i64 r.Bx, .int .i64 r.By, .int .i64 r.Low, .int .i64 r.High, .slice A6 r.Noise.length c6, .slice A7 r.Limits.length c7]).alloc (.cells #[.slice none 0 0, .int .i64 0, .bool false] 61)
  have bR := Blk.new (w.alloc (.cells #[.slice A0 r.Map.length c0, .int .i64 r.Div, .int .i64 r.Bx, .int .i64 r.By, .int .i64 r.Low, .int .i64 r.High, .slice A6 r.Noise.length c6, .slice A7 r.Limits.length c7] 37)) 61 #[.slice none 0 0, .int .i64 0, .bool false]
  simp only [World.size_alloc] at bR
  have HRo := Lib.hid (fun w h => specRoomOk_any r A0 A6 A7 c0 c6 c7 w h ha.n6 ha.n7 hFI hRL)
  have HIn := Lib.hid (fun w => l01In_yes (n := (k : Int)) (lo := 0) (hi := 12) (by omega) w)
  have HBad := Lib.hid (fun h => runR_bad (r := r) h k)
  have HGood := Lib.hid (fun h => runR_good (r := r) h k)
  have HV := Lib.hid (fun h => room_valid (r := r) h)
  have HA := Lib.hid ha
  obtain ⟨v, hv⟩ : ∃ v, roomOk r = v := ⟨_, rfl⟩
  rw [hv] at HRo HBad HGood HV
  generalize runR r k = X at *
  clear ha hFI hRL hv
  have cbM_89 := fun o => bM.cell o
  have cbR_90 := fun o => bR.cell o
  have fbR_90 := fun o => bR.frozen o
  go_enter Tryz.func44, Tryz.ntmps44
  go_wp2_with fail
  refine (HRo.out _ (HA.out.ext hx).at_).mono ?_
  rintro e w1 ⟨rfl, hx1⟩
  replace hx := hx.trans hx1
  replace bM := bM.ext hx1
  replace bR := bR.ext hx1
  have cbM_91 := fun o => bM.cell o
  have cbR_92 := fun o => bR.cell o
  have fbR_92 := fun o => bR.frozen o
  cases v
  · have H := Lib.hid (HBad.out rfl)
    go_wp2
    have bF := ((bR.set_ 0 (.slice none 0 0)).set_ 1 (.int .i64 0)).set_ 2 (.bool false)
    have cF := fun o => bF.cell o
    refine bodyPost_ret (v := .tuple #[.agg #[.slice none 0 0, .int .i64 0, .bool false], .bool false]) (by simp [results, Tryz.results44, go_sem, cF]) rfl ?_
    exact KeptMade.nil H.out rfl (ext_set3 hx (by omega) _ _ _)
  go_wp2_with fail
  refine (HIn.out _).mono ?_
  rintro e w' ⟨rfl, rfl⟩
  have hv := HV.out (by first | rfl | trivial)
  have HX := Lib.hid (HGood.out (by first | rfl | trivial))
  have hlim := HA.out.n7
  have HCp := Lib.hid (fun w hr => l08Region_any A7 r.Limits.length c7 r.Limits w rfl hr hlim (by have := regOk_len hv.limits; omega))
  have HLk : Hid (regOk r.Limits = true) := hv.limits
  have HKeep := Lib.hid (fun A n c ps w ha hn hr hA hpk => specKeepRegion_ok r A0 A6 A7 c0 c6 c7 A n c ps w hv ha hn hr hA hpk)
  have HKok := Lib.hid (fun p (h : regOk p = true) => keepR_ok (r := r) h)
  have HSame := Lib.hid (fun A B n m c d xs ys w hn hm hr hs hle hle' => specSameRegion_any A B n m c d xs ys w hn hm hr hs hle hle')
  clear HBad HGood HRo HIn HV hlim hv
  go_wp2_with fail
  refine (HCp.out _ ((HA.out.ext hx).at_.q)).mono ?_
  rintro e w2 ⟨A2, c2, n2, rfl, hn2, hx2, hown2⟩
  subst hn2
  have hs2 := bR.lt
  replace hx := hx.trans hx2
  replace bM := bM.ext hx2
  replace bR := bR.ext hx2
  have cbM_93 := fun o => bM.cell o
  have cbR_94 := fun o => bR.cell o
  have fbR_94 := fun o => bR.frozen o
  have hs2b := bR.lt
  have bK := Blk.new w2 61 #[.slice A2 r.Limits.length c2, .int .i64 0, .bool false]
  have hfar : ∀ g, Value.ownBlock (.slice A2 r.Limits.length c2) = some g → g ≠ w2.heap.size := fun q hq => by have := (hown2.lt q hq).2; omega
  have ha2 := (Ext.refl w2).alloc (.cells #[.slice A2 r.Limits.length c2, .int .i64 0, .bool false] 61)
  replace hx := hx.trans ha2
  replace bM := bM.ext ha2
  replace bR := bR.ext ha2
  have cbM_95 := fun o => bM.cell o
  have cbR_96 := fun o => bR.cell o
  have fbR_96 := fun o => bR.frozen o
  replace hown2 := own_base (own_ext hown2 ha2) (show w.heap.size + 2 ≤ _ by omega)
  obtain ⟨BK, hBK⟩ : ∃ B, w2.heap.size = B := ⟨_, rfl⟩
  rw [hBK] at bK hfar
  have hBK2 : w.heap.size + 1 < BK := by omega
  go_wp2
  go_loopg [] (2 * k + 1) (fun gk wr => ∃ (p : List Half) (j : Nat) (st : Bool) (A : Option Addr) (c : Nat), j ≤ k ∧ regOk p = true ∧ gk = 2 * (k - j) + (if st = true then 0 else 1) ∧ (st = false → X = runF r (k - j) p j) ∧ (st = true → X = ⟨p, j, true, true⟩)
    ∧ Ext w wr ∧ Blk wr w.heap.size 37 #[.slice A0 r.Map.length c0, .int .i64 r.Div, .int .i64 r.Bx, .int .i64 r.By, .int .i64 r.Low, .int .i64 r.High, .slice A6 r.Noise.length c6, .slice A7 r.Limits.length c7] ∧ Blk wr (w.heap.size + 1) 61 #[.slice none 0 0, .int .i64 0, .bool false] ∧ Blk wr BK 61 #[.slice A p.length c, .int .i64 (j : Int), .bool st]
    ∧ (∀ g, Value.ownBlock (.slice A p.length c) = some g → g ≠ BK) ∧ wr.ownsRow (w.heap.size + 2) 101 3 (.slice A p.length c) p.length (ints (flat Half.ints p)))
  case atStart => exact ⟨r.Limits, 0, false, A2, c2, Nat.zero_le _, HLk.out, by simp, fun _ => HX.out, (fun h => by cases h), hx, bM, bR, bK, hfar, hown2⟩
  case round =>
  obtain ⟨p, j, st, A, c, hj, hpk, hgk, hgo, hst, hy, dM, dR, dK, hfr, hown⟩ := hrel
  have hsz := hy.size
  have hdl := dR.lt
  have hkl := dK.lt
  have hpl := regOk_len hpk
  have hmine := (Mine.of_own hown).none
  clear bM bR bK hfar hown2 hx HCp HLk
  cases st
  rotate_left
  · have H := Lib.hid (hst rfl)
    have cK := fun o => dK.cell o
    have cR := fun o => dR.cell o
    have fR := fun o => dR.frozen o
    clear hgo hst hgk
    by_cases hlt : (j : Int) < (k : Int)
    all_goals
      go_wp2
      have bF := ((dR.set_ 0 (.slice A p.length c)).set_ 1 (.int .i64 (j : Int))).set_ 2 (.bool true)
      have cF := fun o => bF.cell o
      clear cR fR cK
      refine bodyPost_ret (v := .tuple #[.agg #[.slice A p.length c, .int .i64 (j : Int), .bool true], .bool true]) (by simp [results, Tryz.results44, go_sem, cF]) rfl ?_
      rw [H.out]
      exact ⟨A, c, _, rfl, rfl, ext_set3 hy (by omega) _ _ _, own_base (own_set3 hown (by omega) _ _ _) (by omega)⟩
  have hgoF := hgo rfl
  clear hgo hst
  by_cases hjk : j = k
  · subst hjk
    have hlt : ¬ (j : Int) < (j : Int) := by omega
    have H : Hid (X = ⟨p, j, false, true⟩) := by
      rw [Hid, hgoF, Nat.sub_self]
      rfl
    have cK := fun o => dK.cell o
    have cR := fun o => dR.cell o
    have fR := fun o => dR.frozen o
    clear hgoF hgk
    go_wp2
    have bF := ((dR.set_ 0 (.slice A p.length c)).set_ 1 (.int .i64 (j : Int))).set_ 2 (.bool false)
    have cF := fun o => bF.cell o
    clear cR fR cK
    refine bodyPost_ret (v := .tuple #[.agg #[.slice A p.length c, .int .i64 (j : Int), .bool false], .bool true]) (by simp [results, Tryz.results44, go_sem, cF]) rfl ?_
    rw [H.out]
    exact ⟨A, c, _, rfl, rfl, ext_set3 hy (by omega) _ _ _, own_base (own_set3 hown (by omega) _ _ _) (by omega)⟩
  have hlt : (j : Int) < (k : Int) := by omega
  have hjk2 : j < k := by omega
  obtain ⟨f, hf⟩ : ∃ f, k - j = f + 1 := ⟨k - j - 1, by omega⟩
  rw [hf] at hgoF
  have HNo := Lib.hid (fun h => hgoF.trans (runF_no h))
  have HStop := Lib.hid (fun h h2 => hgoF.trans (runF_stop h h2))
  have HGo := Lib.hid (fun h h2 => hgoF.trans (runF_go h h2))
  have hf2 : k - (j + 1) = f := by omega
  have HKq := Lib.hid (HKok.out p hpk)
  have HNum := Lib.hid (And.intro hf (And.intro hf2 (And.intro hgk hjk2)))
  have HKp := Lib.hid (fun w ha hr => HKeep.out A p.length c p w ha rfl hr hmine hpk)
  clear hgoF hf hf2 hgk hjk hjk2
  obtain ⟨KR, hKR⟩ : ∃ x, keepR r p = x := ⟨_, rfl⟩
  rw [hKR] at HNo HStop HGo HKq HKp
  obtain ⟨q, ok⟩ := KR
  dsimp only at HNo HStop HGo HKq HKp
  clear hKR
  have wj : IntKind.i64.wrap ((j : Int) + 1) = ((j + 1 : Nat) : Int) := by
    have e : ((j + 1 : Nat) : Int) = (j : Int) + 1 := by omega
    rw [e]
    exact IntWalk.i64_in _ (by omega)
  have cK := fun o => dK.cell o
  have cM := fun o => dM.cell o
  go_wp2_with fail
  refine (HKp.out _ (HA.out.ext hy) (Row.of_own hown)).mono ?_
  rintro e w3 ⟨A3, c3, n3, rfl, hn3, hx3, hown3⟩
  dsimp only at hn3 hown3 ⊢
  subst hn3
  have bN := Blk.new w3 35 #[.slice A3 q.length c3]
  have hA3 := (Ext.refl w3).alloc (.cells #[.slice A3 q.length c3] 35)
  have dR3 := dR.ext hx3
  have hy3 := hy.trans hx3
  replace hy := hy3.trans hA3
  have h34 := hx3.trans hA3
  replace dM := dM.ext h34
  replace dR := dR.ext h34
  replace dK := dK.ext h34
  replace hown := own_ext hown h34
  have hfr3 : ∀ g, Value.ownBlock (.slice A3 q.length c3) = some g → g ≠ BK := fun g hg => by have := (hown3.lt g hg).1; omega
  replace hown3 := own_ext hown3 hA3
  clear cK cM
  have cK := fun o => dK.cell o
  have cN := fun o => bN.cell o
  have cR := fun o => dR.cell o
  have fR := fun o => dR.frozen o
  have hs3 := hx3.size
  cases ok
  · have H := Lib.hid (HNo.out rfl)
    go_wp2
    have bF := ((dR.set_ 0 (.slice none 0 0)).set_ 1 (.int .i64 0)).set_ 2 (.bool false)
    have cF := fun o => bF.cell o
    clear cR fR
    refine bodyPost_ret (v := .tuple #[.agg #[.slice none 0 0, .int .i64 0, .bool false], .bool false]) (by simp [results, Tryz.results44, go_sem, cF]) rfl ?_
    exact KeptMade.nil H.out rfl (ext_set3 hy (by omega) _ _ _)
  have hql := regOk_len HKq.out
  clear cR fR
  go_wp2_with fail
  refine (HSame.out A3 A q.length p.length c3 c q p _ rfl rfl (Row.of_own hown3) (Row.of_own hown) (by unfold maxLen; omega) (by unfold maxLen; omega)).mono ?_
  rintro e w5 ⟨rfl, hx5⟩
  replace hy := hy.trans hx5
  replace dM := dM.ext hx5
  replace dR := dR.ext hx5
  replace dK := dK.ext hx5
  replace bN := bN.ext hx5
  replace hown := own_ext hown hx5
  replace hown3 := own_ext hown3 hx5
  clear cK cN
  have cK := fun o => dK.cell o
  have fK := fun o => dK.frozen o
  have cN := fun o => bN.cell o
  have hwB : w.heap.size ≤ BK := by omega
  have hneM : w.heap.size ≠ BK := by omega
  have hneR : w.heap.size + 1 ≠ BK := by omega
  by_cases hs : q = p
  · have hb : decide (q = p) = true := decide_eq_true hs
    rw [hb]
    have H := Lib.hid (HStop.out (by first | rfl | trivial) hs)
    clear hb hs
    go_wp2
    go_roundg (2 * (k - j))
    case measure => obtain ⟨n1, n2, n3, n4⟩ := HNum.out; rw [n3]; simp
    case rel => exact ⟨p, j, true, A, c, hj, hpk, by simp, (fun h => by cases h), fun _ => H.out, hy.setCell (p := ⟨BK, 2, none⟩) hwB _, dM.far (p := ⟨BK, 2, none⟩) hneM _, dR.far (p := ⟨BK, 2, none⟩) hneR _, dK.set_ 2 (.bool true), hfr, own_set hown (p := ⟨BK, 2, none⟩) hfr _⟩
  have hb : decide (q = p) = false := decide_eq_false hs
  rw [hb]
  have H := Lib.hid (HGo.out (by first | rfl | trivial) hs)
  clear hb hs
  have hnb : w3.heap.size ≠ BK := by omega
  have bN2 := bN.far (p := ⟨BK, 0, none⟩) hnb (.slice A3 q.length c3)
  have dK2 := dK.set_ 0 (.slice A3 q.length c3)
  have cN2 := fun o => bN2.cell o
  have cK2 := fun o => dK2.cell o
  have fK2 := fun o => dK2.frozen o
  go_wp2
  go_roundg (2 * (k - (j + 1)) + 1)
  case measure => obtain ⟨n1, n2, n3, n4⟩ := HNum.out; rw [n3]; simp; omega
  case rel => exact ⟨q, j + 1, false, A3, c3, by omega, HKq.out, by simp, (fun _ => by obtain ⟨n1, n2, n3, n4⟩ := HNum.out; rw [n2]; exact H.out), (fun h => by cases h), (hy.setCell (p := ⟨BK, 0, none⟩) hwB _).setCell (p := ⟨BK, 1, none⟩) hwB _, (dM.far (p := ⟨BK, 0, none⟩) hneM _).far (p := ⟨BK, 1, none⟩) hneM _, (dR.far (p := ⟨BK, 0, none⟩) hneR _).far (p := ⟨BK, 1, none⟩) hneR _, (dK.set_ 0 (.slice A3 q.length c3)).set_ 1 (.int .i64 ((j + 1 : Nat) : Int)), hfr3, own_base (own_set (own_set hown3 (p := ⟨BK, 0, none⟩) hfr3 _) (p := ⟨BK, 1, none⟩) hfr3 _) (by omega)⟩
end Go.Proofs.YtigkgnplgehmhaaGreatDoor
/- Contracts of KeptLines of both. (written by tools/mkKl.py) -/
namespace Go.Proofs.YtigkgnplgehmhaaGreatDoor
open Go.ChangeShapes Go.WideShapes Go.ChangeAt Go.RowKit
set_option linter.unusedVariables false
set_option maxRecDepth 100000

def roundsT (n : Nat) : List UInt8 := [114, 111, 117, 110, 100, 115, 32] ++ numT (n : Int)
def wordT (b : Bool) : List UInt8 := if b = true then [115, 116, 111, 112, 112, 101, 100] else [111, 112, 101, 110]
def keptT (r : Room) : List (List UInt8) := if (runR r 12).ok = true then [roundsT (runR r 12).n, wordT (runR r 12).stop, cornerT (runR r 12).reg] else []
theorem keptT_len (r : Room) : (keptT r).length ≤ 1048576 := by
  unfold keptT
  split
  · simp
  · simp
set_option maxHeartbeats 16000000 in
theorem implKeptLines_any (r : Room) (A0 A6 A7 : Option Addr) (c0 c6 c7 : Nat) (w : World) (ha : RoomHere w r A0 A6 A7 c0 c6 c7) (hFI : roomFI r) (hRL : RoomL r) (ht : Tab w) :
    Calls Tryz.prog 16 #[.agg #[.slice A0 r.Map.length c0, .int .i64 r.Div, .int .i64 r.Bx, .int .i64 r.By, .int .i64 r.Low, .int .i64 r.High, .slice A6 r.Noise.length c6, .slice A7 r.Limits.length c7]] w fun e w' => StrsMade (keptT r) w e w' := by
  have hx : Ext w (w.alloc (.cells #[.slice A0 r.Map.length c0, .int .i64 r.Div, .int .i64 r.Bx, .int .i64 r.By, .int .i64 r.Low, .int .i64 r.High, .slice A6 r.Noise.length c6, .slice A7 r.Limits.length c7] 37)) := (Ext.refl w).alloc _
  have bM := Blk.new w 37 #[.slice A0 r.Map.length c0, .int .i64 r.Div, .int .i64 r.Bx, .int .i64 r.By, .int .i64 r.Low, .int .i64 r.High, .slice A6 r.Noise.length c6, .slice A7 r.Limits.length c7]
  have HRu := Lib.hid (fun w ha => implRunRounds_any r A0 A6 A7 c0 c6 c7 12 w (by omega) ha hFI hRL)
  have HA := Lib.hid ha
  have HNo : Hid ((runR r 12).ok = false → keptT r = []) := fun h => by unfold keptT; rw [h]; rfl
  have HYes : Hid ((runR r 12).ok = true → keptT r = [roundsT (runR r 12).n, wordT (runR r 12).stop, cornerT (runR r 12).reg]) := fun h => if_pos h
  have HK : Hid (regOk (runR r 12).reg = true) := runR_ok r 12
  have HN : Hid ((runR r 12).n ≤ 12) := runR_n r 12
  have HT := Lib.hid ht
  clear ht
  generalize keptT r = KT at *
  generalize runR r 12 = X at *
  clear ha hFI hRL
  have cM := fun o => bM.cell o
  go_enter Tryz.func16, Tryz.ntmps16
  go_wp2_with fail
  refine (HRu.out _ (HA.out.ext hx)).mono ?_
  rintro e w1 ⟨A1, c1, n1, rfl, hn1, hx1, hown1⟩
  subst hn1
  obtain ⟨p, j, st, ok⟩ := X
  dsimp only at *
  have bK := Blk.new w1 61 #[.slice A1 p.length c1, .int .i64 (j : Int), .bool st]
  have hA1 := (Ext.refl w1).alloc (.cells #[.slice A1 p.length c1, .int .i64 (j : Int), .bool st] 61)
  replace hx := (hx.trans hx1).trans hA1
  replace hown1 := own_ext hown1 hA1
  have cK := fun o => bK.cell o
  clear cM bM
  cases ok
  · have H := Lib.hid (HNo.out rfl)
    go_wp2
    go_ret
    exact StrsMade.none H.out rfl hx
  have H := Lib.hid (HYes.out rfl)
  have hle := regOk_len HK.out
  have hjn := HN.out
  have hmine := (Mine.of_own hown1).none
  have HRow := Lib.hid (Row.of_own hown1)
  have hs1 := hx.size
  have HCl := Lib.hid (fun w hr ht => implCornerLine_any A1 p.length c1 p w rfl hr (halves_I (regOk_all HK.out)) (by unfold maxLen; omega) ht)
  have HFi := Lib.hid (fun w ht => implFormatInt_any (j : Int) w (by unfold I64; omega) ht)
  have hsz := sz1 (n := (j : Int)) (by unfold I64; omega)
  obtain ⟨tn, htn⟩ : ∃ t, txt (numT (j : Int)) = t := ⟨_, rfl⟩
  rw [htn] at HFi hsz
  obtain ⟨t1, ht1⟩ : ∃ t, (⟨#[114, 111, 117, 110, 100, 115, 32]⟩ : ByteArray) ++ tn = t := ⟨_, rfl⟩
  have a1 := add_txt (a := ⟨#[114, 111, 117, 110, 100, 115, 32]⟩) (b := tn) (c := t1) ht1 (by have : (⟨#[114, 111, 117, 110, 100, 115, 32]⟩ : ByteArray).size = 7 := rfl; omega)
  have HT1 : Hid (txt (roundsT j) = t1) := by rw [Hid, roundsT, ← txt_append, htn, ← ht1]; rfl
  obtain ⟨t3, ht3⟩ : ∃ t, txt (cornerT p) = t := ⟨_, rfl⟩
  rw [ht3] at HCl
  have HT3 := Lib.hid ht3
  have HWd : Hid (∀ b, txt (wordT b) = if b = true then ⟨#[115, 116, 111, 112, 112, 101, 100]⟩ else ⟨#[111, 112, 101, 110]⟩) := fun b => by cases b <;> rfl
  clear htn ht1 ht3 hmine hown1 HNo HYes
  cases st
  all_goals
    go_wp2_with fail
    generalize (w1.alloc (.cells #[.slice A1 p.length c1, .int .i64 (j : Int), .bool _] 61)) = W at *
    generalize w1.heap.size = BK at *
    have hcur := Ext.refl W
    go_region_held3 (fun w' => w'.cell? ⟨BK, 0, none⟩ = some (.slice A1 p.length c1) ∧ w'.cell? ⟨BK, 1, none⟩ = some (.int .i64 (j : Int)))
      (go_keep)
      (first
        | (go_at_call 25; (with_reducible refine (HFi.out _ (HT.out.ext (hx.trans (by first | exact hcur | exact hcur.drew)))).mono ?_); rintro e w9 ⟨rfl, hx9⟩; replace hcur := Ext.trans (by first | exact hcur | exact hcur.drew) hx9; have d1 := fun o => (bK.ext hcur).cell o; have l1 := (bK.ext hcur).lt)
        | (go_at_call 26; (with_reducible refine (HCl.out _ (HRow.out.ext (by first | exact hcur | exact hcur.drew)) (HT.out.ext (hx.trans (by first | exact hcur | exact hcur.drew)))).mono ?_); rintro e w9 ⟨rfl, hx9⟩; replace hcur := Ext.trans (by first | exact hcur | exact hcur.drew) hx9; have d1 := fun o => (bK.ext hcur).cell o; have l1 := (bK.ext hcur).lt))
    have hEf := hx.trans hcur
    have hsf := hEf.size
    clear cK d1 l1
    go_wp2
    go_ret
    rw [H.out]
    refine StrsMade.mk (n := 3) rfl rfl (hEf.alloc _) ?_
    rw [show ∀ b, strs [roundsT j, wordT b, cornerT p] = [.string (txt (roundsT j)), .string (txt (wordT b)), .string (txt (cornerT p))] from fun _ => rfl, HT1.out, HT3.out]
    exact World.ownsRow_lit (base := w.heap.size) (e := 9) (size := 1) w9 _ 3 hsf (by unfold maxLen; omega) rfl
set_option maxHeartbeats 16000000 in
theorem specKeptLines_any (r : Room) (A0 A6 A7 : Option Addr) (c0 c6 c7 : Nat) (w : World) (ha : RoomHere w r A0 A6 A7 c0 c6 c7) (hFI : roomFI r) (hRL : RoomL r) :
    Calls Tryz.prog 15 #[.agg #[.slice A0 r.Map.length c0, .int .i64 r.Div, .int .i64 r.Bx, .int .i64 r.By, .int .i64 r.Low, .int .i64 r.High, .slice A6 r.Noise.length c6, .slice A7 r.Limits.length c7]] w fun e w' => StrsMade (keptT r) w e w' := by
  have hx : Ext w (w.alloc (.cells #[.slice A0 r.Map.length c0, .int .i64 r.Div, .int .i64 r.Bx, .int .i64 r.By, .int .i64 r.Low, .int .i64 r.High, .slice A6 r.Noise.length c6, .slice A7 r.Limits.length c7] 37)) := (Ext.refl w).alloc _
  have bM := Blk.new w 37 #[.slice A0 r.Map.length c0, .int .i64 r.Div, .int .i64 r.Bx, .int .i64 r.By, .int .i64 r.Low, .int .i64 r.High, .slice A6 r.Noise.length c6, .slice A7 r.Limits.length c7]
  have HRu := Lib.hid (fun w ha => specRunRounds_any r A0 A6 A7 c0 c6 c7 12 w (by omega) ha hFI hRL)
  have HA := Lib.hid ha
  have HNo : Hid ((runR r 12).ok = false → keptT r = []) := fun h => by unfold keptT; rw [h]; rfl
  have HYes : Hid ((runR r 12).ok = true → keptT r = [roundsT (runR r 12).n, wordT (runR r 12).stop, cornerT (runR r 12).reg]) := fun h => if_pos h
  have HK : Hid (regOk (runR r 12).reg = true) := runR_ok r 12
  have HN : Hid ((runR r 12).n ≤ 12) := runR_n r 12
  generalize keptT r = KT at *
  generalize runR r 12 = X at *
  clear ha hFI hRL
  have cM := fun o => bM.cell o
  go_enter Tryz.func15, Tryz.ntmps15
  go_wp2_with fail
  refine (HRu.out _ (HA.out.ext hx)).mono ?_
  rintro e w1 ⟨A1, c1, n1, rfl, hn1, hx1, hown1⟩
  subst hn1
  obtain ⟨p, j, st, ok⟩ := X
  dsimp only at *
  have bK := Blk.new w1 61 #[.slice A1 p.length c1, .int .i64 (j : Int), .bool st]
  have hA1 := (Ext.refl w1).alloc (.cells #[.slice A1 p.length c1, .int .i64 (j : Int), .bool st] 61)
  replace hx := (hx.trans hx1).trans hA1
  replace hown1 := own_ext hown1 hA1
  have cK := fun o => bK.cell o
  clear cM bM
  cases ok
  · have H := Lib.hid (HNo.out rfl)
    go_wp2
    go_ret
    exact StrsMade.none H.out rfl hx
  have H := Lib.hid (HYes.out rfl)
  have hle := regOk_len HK.out
  have hjn := HN.out
  have hmine := (Mine.of_own hown1).none
  have HRow := Lib.hid (Row.of_own hown1)
  have hs1 := hx.size
  have HCl := Lib.hid (fun w hr => specCornerLine_any A1 p.length c1 p w rfl hr hmine (halves_I (regOk_all HK.out)) (by unfold maxLen; omega))
  have HFi := Lib.hid (fun w => specFormatInt_any (j : Int) w (by unfold I64; omega))
  have hsz := sz1 (n := (j : Int)) (by unfold I64; omega)
  obtain ⟨tn, htn⟩ : ∃ t, txt (numT (j : Int)) = t := ⟨_, rfl⟩
  rw [htn] at HFi hsz
  obtain ⟨t1, ht1⟩ : ∃ t, (⟨#[114, 111, 117, 110, 100, 115, 32]⟩ : ByteArray) ++ tn = t := ⟨_, rfl⟩
  have a1 := add_txt (a := ⟨#[114, 111, 117, 110, 100, 115, 32]⟩) (b := tn) (c := t1) ht1 (by have : (⟨#[114, 111, 117, 110, 100, 115, 32]⟩ : ByteArray).size = 7 := rfl; omega)
  have HT1 : Hid (txt (roundsT j) = t1) := by rw [Hid, roundsT, ← txt_append, htn, ← ht1]; rfl
  obtain ⟨t3, ht3⟩ : ∃ t, txt (cornerT p) = t := ⟨_, rfl⟩
  rw [ht3] at HCl
  have HT3 := Lib.hid ht3
  have HWd : Hid (∀ b, txt (wordT b) = if b = true then ⟨#[115, 116, 111, 112, 112, 101, 100]⟩ else ⟨#[111, 112, 101, 110]⟩) := fun b => by cases b <;> rfl
  clear htn ht1 ht3 hmine hown1 HNo HYes
  cases st
  all_goals
    go_wp2_with fail
    generalize (w1.alloc (.cells #[.slice A1 p.length c1, .int .i64 (j : Int), .bool _] 61)) = W at *
    generalize w1.heap.size = BK at *
    have hcur := Ext.refl W
    go_region_held3 (fun w' => w'.cell? ⟨BK, 0, none⟩ = some (.slice A1 p.length c1) ∧ w'.cell? ⟨BK, 1, none⟩ = some (.int .i64 (j : Int)))
      (go_keep)
      (first
        | (go_at_call 45; (with_reducible refine (HFi.out _).mono ?_); rintro e w9 ⟨rfl, hx9⟩; replace hcur := Ext.trans (by first | exact hcur | exact hcur.drew) hx9; have d1 := fun o => (bK.ext hcur).cell o; have l1 := (bK.ext hcur).lt)
        | (go_at_call 46; (with_reducible refine (HCl.out _ (HRow.out.ext (by first | exact hcur | exact hcur.drew))).mono ?_); rintro e w9 ⟨rfl, hx9⟩; replace hcur := Ext.trans (by first | exact hcur | exact hcur.drew) hx9; have d1 := fun o => (bK.ext hcur).cell o; have l1 := (bK.ext hcur).lt))
    have hEf := hx.trans hcur
    have hsf := hEf.size
    clear cK d1 l1
    go_wp2
    go_ret
    rw [H.out]
    refine StrsMade.mk (n := 3) rfl rfl (hEf.alloc _) ?_
    rw [show ∀ b, strs [roundsT j, wordT b, cornerT p] = [.string (txt (roundsT j)), .string (txt (wordT b)), .string (txt (cornerT p))] from fun _ => rfl, HT1.out, HT3.out]
    exact World.ownsRow_lit (base := w.heap.size) (e := 9) (size := 1) w9 _ 3 hsf (by unfold maxLen; omega) rfl
end Go.Proofs.YtigkgnplgehmhaaGreatDoor
