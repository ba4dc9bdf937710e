/- The cursor of the drawing functions: what it may return, where it writes. -/
import Derived.Test.YtfnmbpjkjajpcaaGreatDoorFbHz
import Derived.Deep.RegionHeld3
import Derived.Test.YtfnmbpjkjajpcaaGreatDoorFbGz
namespace Go.Proofs.YtfnmbpjkjajpcaaGreatDoor
open Go.ChangeShapes Go.WideShapes Go.ChangeAt Go.RowKit
set_option linter.unusedVariables false
def u8s (bs : List Int) : List Value := bs.map (.int .u8 ·)
theorem u8s_get {bs : List Int} {k : Nat} (h : k < bs.length) : (u8s bs)[k]? = some (.int .u8 bs[k]) := by simp [u8s, h]
theorem u8s_ne {bs : List Int} {k : Nat} (h : k < bs.length) : u8s bs ≠ [] := by
  intro e
  have := u8s_get h
  rw [e] at this
  cases this
theorem Row.u8 {w : World} {A : Option Addr} {bs : List Int} (h : Row w A (u8s bs)) {k : Nat} (hk : k < bs.length) :
    ∃ b off, A = some ⟨b, off, none⟩ ∧ b < w.heap.size ∧ w.cell? ⟨b, off + k, none⟩ = some (.int .u8 bs[k]) := by
  obtain ⟨b, off, hA, hb, hc⟩ := h.at_ (u8s_ne hk)
  exact ⟨b, off, hA, hb, hc k _ (u8s_get hk)⟩
theorem openArg_bytes {H : Type} {enc : TypeId × Value → H} {P : Program} {w : World} {base : Nat} {spare : Nat → Bool} {held : Bool} {t e : TypeId} {r : Reach} {b0 : Nat} {v : Value} {d : DataW H} {p : List MemPlace}
    (ht : P.underlying t = some (.slice e)) (he : P.underlying e = some (.int .u8)) (hc : P.cellsOf e = 1) (hv : Value.okWide P w r b0 t v) (h : DataW.Trod enc P w base spare held t v d p) :
    ∃ A len cap bs, v = .slice A len cap ∧ bs.length = len ∧ Row w A (u8s bs) ∧ len ≤ cap ∧ cap ≤ maxLen := by
  obtain ⟨a, l, c, rfl⟩ := okWide_slice ht hv
  obtain ⟨fuel, hf⟩ := h
  rcases open_ints ht he hc hf with ⟨hcs, _⟩ | ⟨a', len, cap, zs, hcs, _, hl, hm, hz, _, hcell, _⟩
  · simp only [Value.cells, List.cons.injEq, Value.slice.injEq] at hcs
    obtain ⟨⟨rfl, rfl, rfl⟩, _⟩ := hcs
    exact ⟨none, 0, 0, [], rfl, rfl, .inl rfl, Nat.le_refl _, Nat.zero_le _⟩
  · simp only [Value.cells, List.cons.injEq, Value.slice.injEq] at hcs
    obtain ⟨⟨rfl, rfl, rfl⟩, _⟩ := hcs
    have hlen : l ≤ zs.length := by rw [hz]; split <;> omega
    refine ⟨_, _, _, zs.take l, rfl, by rw [List.length_take]; omega, ?_, hl, hm⟩
    by_cases hl0 : l = 0
    · subst hl0; exact .inl rfl
    · have h0 := hcell 0 (by omega)
      obtain ⟨b, off, hs⟩ := add_none h0
      rcases hs with rfl | ⟨hs, _⟩
      · refine .inr ⟨b, off, rfl, fun j v hj => ?_⟩
        have hj' : j < l := by
          have := (List.getElem?_eq_some_iff.1 hj).1
          simp [u8s] at this; omega
        have h1 := hcell j (by omega)
        rw [show (⟨b, off, none⟩ : Addr).add j = ⟨b, off + j, none⟩ from by unfold Addr.add; split <;> simp_all] at h1
        have e2 : v = .int .u8 (zs.getD j 0) := by
          have hz' : j < zs.length := by omega
          simp [u8s, hj', hz'] at hj
          rw [← hj]
          simp [List.getD_eq_getElem?_getD, List.getElem?_eq_getElem hz']
        rw [e2]; exact h1
      · exact absurd rfl hs
theorem and_bd (x m : Int) (h0 : 0 ≤ m) (h1 : m ≤ 9223372036854775807) : 0 ≤ bits .and .i64 x m ∧ bits .and .i64 x m ≤ m := by
  have h2 : (BitVec.ofInt 64 m).toNat = m.toNat := by
    rw [BitVec.toNat_ofInt]
    omega
  have h3 : (BitVec.ofInt 64 x &&& BitVec.ofInt 64 m).toNat ≤ m.toNat := by
    rw [BitVec.toNat_and, h2]
    exact Nat.and_le_right
  have h4 : bits .and .i64 x m = IntKind.i64.wrap ((BitVec.ofInt 64 x &&& BitVec.ofInt 64 m).toNat : Int) := rfl
  rw [h4, IntKind.wrap_i64]
  omega
structure Cur (w0 w : World) (g : Nat) (A : Option Addr) (n c : Nat) : Prop where
  ext : Ext w0 w
  le : w0.heap.size ≤ g
  blk : ∃ i h : Int, 0 ≤ i ∧ i ≤ n ∧ Blk w g 103 #[.slice A n c, .int .i64 i, .int .i64 h]
theorem Cur.fwd {w0 w w' : World} {g : Nat} {A : Option Addr} {n c : Nat} (h : Cur w0 w g A n c) (e : Ext w w') : Cur w0 w' g A n c := by
  obtain ⟨i, k, hi, hn, hb⟩ := h.blk
  exact ⟨h.ext.trans e, h.le, i, k, hi, hn, hb.ext e⟩
theorem Cur.lt {w0 w : World} {g : Nat} {A : Option Addr} {n c : Nat} (h : Cur w0 w g A n c) : g < w.heap.size := by
  obtain ⟨i, k, hi, hn, hb⟩ := h.blk
  exact hb.lt
theorem Blk.only {w w' : World} {g k : Nat} {t : TypeId} {cs : Array Value} (h : Blk w k t cs) (ho : Only (some g) w w') (hne : k ≠ g) : Blk w' k t cs :=
  (ho.block k h.lt (by intro e; cases e; exact hne rfl)).trans h
set_option maxHeartbeats 1000000 in
theorem l01Byte_any (w0 : World) (g : Nat) (A : Option Addr) (n c : Nat) (bs : List Int) (w : World) (hn : bs.length = n) (hr : Row w0 A (u8s bs)) (hle : n ≤ 1048576) (hc : Cur w0 w g A n c) :
    Calls Tryz.prog 23 #[.pointer (some ⟨g, 0, none⟩)] w fun e w' => (∃ x : Int, e = .returned (.int .i64 x) ∧ 0 ≤ x ∧ x ≤ 255) ∧ Cur w0 w' g A n c ∧ Only (some g) w w' := by
  obtain ⟨hx, hg, i, h, hi0, hin, hb⟩ := hc
  have c0 := fun o => hb.cell o
  have f0 := fun o => hb.frozen o
  have hl := hb.lt
  go_enter Tryz.func23, Tryz.ntmps23
  go_wp2_with fail
  generalize wrap64 (wrap64 (h * 6364136223846793005) + 1442695040888963407) = h1
  have hb1 : Blk (w.setCell ⟨g, 2, none⟩ (.int .i64 h1)) g 103 #[.slice A n c, .int .i64 i, .int .i64 h1] := hb.set_ 2 (.int .i64 h1)
  have hx1 : Ext w0 (w.setCell ⟨g, 2, none⟩ (.int .i64 h1)) := hx.setCell hg _
  have ho1 : Only (some g) w (w.setCell ⟨g, 2, none⟩ (.int .i64 h1)) := (Only.refl _ w).set 2 _
  clear c0 f0 hl hb hx
  generalize w.setCell ⟨g, 2, none⟩ (.int .i64 h1) = w1 at *
  have c0 := fun o => hb1.cell o
  have f0 := fun o => hb1.frozen o
  have hl := hb1.lt
  go_quiet (fail)
  go_wp2_with fail
  obtain ⟨ha1, ha2⟩ := and_bd (bits .xor .i64 (h1 / 8589934592) (h1 / 35184372088832)) 255 (by omega) (by omega)
  generalize bits .and .i64 (bits .xor .i64 (h1 / 8589934592) (h1 / 35184372088832)) 255 = x at *
  by_cases hlt : i < (n : Int)
  · obtain ⟨k, rfl⟩ := Int.eq_ofNat_of_zero_le hi0
    have hk : k < n := by omega
    obtain ⟨b, off, rfl, hb, hcode⟩ := hr.u8 (k := k) (by omega)
    have hcode1 := hx1.cellOf hcode
    generalize hbv : bs[k] = bv at hcode1
    have hz : (0 : Int) ≤ (k : Int) := by omega
    go_quiet (fail)
    go_wp2_with fail
    go_quiet (fail)
    go_wp2_with fail
    obtain ⟨hy1, hy2⟩ := and_bd (wrap64 (x + wrap64 bv)) 255 (by omega) (by omega)
    go_ret
    refine ⟨⟨_, rfl, hy1, hy2⟩, ⟨((hx1.drewN _).setCell hg _), hg, (k : Int) + 1, h1, by omega, by omega, ?_⟩, (ho1.drewN _).set 1 _⟩
    exact (hb1.drewN _).set_ 1 _
  · have hd : decide (i < (n : Int)) = false := by simpa using hlt
    clear hlt
    go_quiet (fail)
    go_wp2
    go_ret
    exact ⟨⟨_, rfl, ha1, ha2⟩, ⟨(hx1.drewN _).drewN _, hg, i, h1, hi0, hin, (hb1.drewN _).drewN _⟩, (ho1.drewN _).drewN _⟩
set_option maxHeartbeats 1000000 in
theorem l01Below_any (w0 : World) (g : Nat) (A : Option Addr) (n c : Nat) (bs : List Int) (m : Int) (w : World) (hn : bs.length = n) (hr : Row w0 A (u8s bs)) (hle : n ≤ 1048576) (hc : Cur w0 w g A n c) (hm : I64 m) :
    Calls Tryz.prog 66 #[.pointer (some ⟨g, 0, none⟩), .int .i64 m] w fun e w' => (∃ x : Int, e = .returned (.int .i64 x) ∧ 0 ≤ x ∧ (0 < m → x < m) ∧ (m ≤ 0 → x = 0)) ∧ Cur w0 w' g A n c ∧ Only (some g) w w' := by
  unfold I64 at hm
  by_cases h0 : m ≤ 0
  · go_enter Tryz.func66, Tryz.ntmps66
    go_wp2
    go_ret
    exact ⟨⟨0, rfl, by omega, fun h => by omega, fun _ => rfl⟩, hc, Only.refl _ _⟩
  have hmz : ¬ m = 0 := by omega
  have hmb : (m == 0) = false := by simpa using hmz
  by_cases h1 : m ≤ 256
  · go_enter Tryz.func66, Tryz.ntmps66
    go_wp2_with fail
    refine (l01Byte_any _ _ _ _ _ bs _ hn hr hle hc).mono ?_
    rintro e w1 ⟨⟨x, rfl, hx0, hx1⟩, hc1, ho1⟩
    have hq0 := Int.emod_nonneg x hmz
    have hq1 := Int.emod_lt_of_pos x (show 0 < m by omega)
    go_wp2
    go_ret
    exact ⟨⟨_, rfl, hq0, fun _ => hq1, fun h => by omega⟩, hc1, ho1⟩
  · go_enter Tryz.func66, Tryz.ntmps66
    go_wp2_with fail
    refine (l01Byte_any _ _ _ _ _ bs _ hn hr hle hc).mono ?_
    rintro e w1 ⟨⟨x, rfl, hx0, hx1⟩, hc1, ho1⟩
    go_wp2_with fail
    refine (l01Byte_any _ _ _ _ _ bs _ hn hr hle hc1).mono ?_
    rintro e w2 ⟨⟨y, rfl, hy0, hy1⟩, hc2, ho2⟩
    go_wp2_with fail
    refine (l01Byte_any _ _ _ _ _ bs _ hn hr hle hc2).mono ?_
    rintro e w3 ⟨⟨z, rfl, hz0, hz1⟩, hc3, ho3⟩
    go_wp2_with fail
    refine (l01Byte_any _ _ _ _ _ bs _ hn hr hle hc3).mono ?_
    rintro e w4 ⟨⟨v, rfl, hv0, hv1⟩, hc4, ho4⟩
    have hq0 := Int.emod_nonneg (x * 16777216 + y * 65536 + z * 256 + v) hmz
    have hq1 := Int.emod_lt_of_pos (x * 16777216 + y * 65536 + z * 256 + v) (show 0 < m by omega)
    go_wp2
    go_ret
    exact ⟨⟨_, rfl, hq0, fun _ => hq1, fun h => by omega⟩, hc4, ((ho1.trans ho2).trans ho3).trans ho4⟩
set_option maxRecDepth 100000 in
set_option maxHeartbeats 1000000 in
theorem l01New_any (A : Option Addr) (n c : Nat) (bs : List Int) (w : World) (hn : bs.length = n) (hr : Row w A (u8s bs)) (hle : n ≤ 1048576) :
    Calls Tryz.prog 30 #[.slice A n c] w fun e w' => ∃ g, e = .returned (.pointer (some ⟨g, 0, none⟩)) ∧ Cur w w' g A n c := by
  go_enter Tryz.func30, Tryz.ntmps30
  go_wp2
  go_loopw [3, 4] (fun h i wr => ∃ (k : Nat) (hv : Int), k ≤ n ∧ h = .int .i64 hv ∧ i = .int .i64 (k : Int) ∧ Ext w wr) (fun _ i _ => (n - (intOf i).toNat))
  case atStart => exact ⟨0, _, by omega, rfl, rfl, Ext.refl _⟩
  case round =>
    obtain ⟨k, hv, hk, rfl, rfl, hx⟩ := hrel
    by_cases hkn : k < n
    · by_cases hk4 : k < 4000
      · obtain ⟨b, off, rfl, hb, hcode⟩ := hr.u8 (k := k) (by omega)
        have hcode1 := hx.cellOf hcode
        generalize hbv : bs[k] = bv at hcode1
        have hz : (0 : Int) ≤ (k : Int) := by omega
        have hz2 : (k : Int) < (n : Int) := by omega
        go_wp2
        go_roundw
        case rel => exact ⟨k + 1, _, by omega, rfl, by go_num, hx⟩
        case measure => simp [intOf]; omega
      · have hd : decide ((k : Int) < 4000) = false := by simp; omega
        go_wp2
        go_ret
        exact ⟨wr.heap.size, rfl, hx.alloc _, hx.size, 0, hv, by omega, by omega, Blk.new wr _ _⟩
    · have hd : decide ((k : Int) < (n : Int)) = false := by simp; omega
      go_wp2
      go_ret
      exact ⟨wr.heap.size, rfl, hx.alloc _, hx.size, 0, hv, by omega, by omega, Blk.new wr _ _⟩
end Go.Proofs.YtfnmbpjkjajpcaaGreatDoor
namespace Go.Proofs.YtfnmbpjkjajpcaaGreatDoor
set_option linter.unusedVariables false
def boxHs (x0 y0 x1 y1 : Int) : List Half := [⟨1, 0, x1⟩, ⟨0, 1, y1⟩, ⟨-1, 0, -x0⟩, ⟨0, -1, -y0⟩]
def boundB (a b : Int) : Bool := decide (-1000 ≤ a) && decide (a < b) && decide (b ≤ 1000)
def boxR (x0 y0 x1 y1 : Int) : List Half × Bool := if boundB x0 x1 = true ∧ boundB y0 y1 = true then (madeOf (boxHs x0 y0 x1 y1), true) else ([], false)
theorem half_one {a b c : Int} (ha : -1 ≤ a ∧ a ≤ 1) (hb : -1 ≤ b ∧ b ≤ 1) (hg : Int.gcd a b = 1) (hc : -1000 ≤ c ∧ c ≤ 1000) : halfOk ⟨a, b, c⟩ = true := by
  unfold halfOk inR
  simp only [Bool.and_eq_true, decide_eq_true_eq, Bool.or_eq_true]
  refine ⟨⟨⟨⟨⟨by omega, by omega⟩, by omega, by omega⟩, by omega, by omega⟩, ?_⟩, ?_⟩
  · rcases Int.lt_trichotomy a 0 with h | h | h
    · exact .inl (by omega)
    · right
      intro e
      subst h e
      exact absurd hg (by decide)
    · exact .inl (by omega)
  · rw [hg]; exact Nat.gcd_one_left _
theorem box_all {x0 y0 x1 y1 : Int} (h1 : boundB x0 x1 = true) (h2 : boundB y0 y1 = true) : (boxHs x0 y0 x1 y1).all halfOk = true := by
  unfold boundB at h1 h2
  simp only [Bool.and_eq_true, decide_eq_true_eq] at h1 h2
  unfold boxHs
  simp only [List.all_cons, List.all_nil, Bool.and_true, Bool.and_eq_true]
  exact ⟨half_one (by omega) (by omega) (by decide) (by omega), half_one (by omega) (by omega) (by decide) (by omega), half_one (by omega) (by omega) (by decide) (by omega), half_one (by omega) (by omega) (by decide) (by omega)⟩
theorem box_len {x0 y0 x1 y1 : Int} : (madeOf (boxHs x0 y0 x1 y1)).length ≤ 8 := made_len _
theorem box_from {x0 y0 x1 y1 : Int} (h1 : boundB x0 x1 = true) (h2 : boundB y0 y1 = true) : fromR (boxHs x0 y0 x1 y1) = (madeOf (boxHs x0 y0 x1 y1), true) := by
  unfold fromR
  rw [if_pos ⟨by simp [boxHs], box_all h1 h2⟩]
  exact fit_ok (by have := @box_len x0 y0 x1 y1; omega)
theorem boxR_ok (x0 y0 x1 y1 : Int) : regOk (boxR x0 y0 x1 y1).1 = true := by
  unfold boxR
  split
  · rename_i h
    have := fit_regOk (hs := boxHs x0 y0 x1 y1) (box_all h.1 h.2)
    rwa [fit_ok (by have := @box_len x0 y0 x1 y1; omega)] at this
  · rfl
end Go.Proofs.YtfnmbpjkjajpcaaGreatDoor
