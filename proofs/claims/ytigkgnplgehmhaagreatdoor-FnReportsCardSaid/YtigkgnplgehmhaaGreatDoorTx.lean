/- Contracts of numerals: FormatInt of the program and of the reference. -/
import Derived.Test.YtigkgnplgehmhaaGreatDoorQ
import Derived.Lib.ItoaLen
import Derived.Lib.LaidTab
import Derived.IntWalk
import Derived.Deep.RegionHeld3
import Derived.Deep.RegionWith
namespace Go.Proofs.YtigkgnplgehmhaaGreatDoor
open Go.ChangeShapes Go.WideShapes Go.ChangeAt Go.RowKit
set_option linter.unusedVariables false

/-- a text of bytes -/
def txt (l : List UInt8) : ByteArray := ⟨l.toArray⟩
theorem txt_append (a b : List UInt8) : txt a ++ txt b = txt (a ++ b) := by
  unfold txt
  apply ByteArray.ext
  simp
theorem txt_list (a : List UInt8) : (txt a).data.toList = a := by simp [txt]
theorem txt_size (a : List UInt8) : (txt a).size = a.length := by
  show (txt a).data.size = a.length
  simp [txt]
def numT (n : Int) : List UInt8 := Lib.itoa n
theorem numT_neg {u : Nat} (h : 1 ≤ u) : numT (-(u : Int)) = 45 :: Lib.decDigits u := by unfold numT Lib.itoa; rw [if_pos (by omega)]; simp
theorem numT_pos (u : Nat) : numT (u : Int) = Lib.decDigits u := by unfold numT Lib.itoa; rw [if_neg (by omega)]; simp
theorem dec_small {u : Nat} (h : u < 10) : Lib.decDigits u = [UInt8.ofNat (48 + u)] := by rw [Lib.decDigits, dif_pos h]
theorem dec_big {u : Nat} (h : ¬ u < 10) : Lib.decDigits u = Lib.decDigits (u / 10) ++ [UInt8.ofNat (48 + u % 10)] := by rw [Lib.decDigits, dif_neg h]

/-- string(b) of a slice of one byte -/
theorem conv1 (w : World) (g : Nat) (x : Int) (h0 : 0 ≤ x) (h1 : x ≤ 255) (hc : w.cell? ⟨g, 0, none⟩ = some (.int .u8 x)) :
    (convert 51 9 (.slice (some ⟨g, 0, none⟩) 1 1)).run Tryz.prog w = .ok (.string (txt [UInt8.ofNat x.toNat])) w := by
  refine run_convert_bytes_back _ _ _ 5 ⟨g, 0, none⟩ 1 [UInt8.ofNat x.toNat] Tryz.underlying51 Tryz.underlying5 Tryz.underlying9 fun j hj => ?_
  have : j = 0 := by simpa using hj
  subst this
  have e : ((UInt8.ofNat x.toNat).toNat : Int) = x := by simp [UInt8.toNat_ofNat']; omega
  show w.cell? ⟨g, 0, none⟩ = some (.int .u8 ((UInt8.ofNat x.toNat).toNat : Int))
  rw [e, hc]
theorem neg_tdiv10 (u : Nat) : (-(u : Int)).tdiv 10 = -((u / 10 : Nat) : Int) := by rw [Int.neg_tdiv]; rfl
theorem neg_tmod10 (u : Nat) : (-(u : Int)).tmod 10 = -((u % 10 : Nat) : Int) := by rw [Int.neg_tmod]; rfl
theorem numT_len {n : Int} (h1 : -9223372036854775808 ≤ n) (h2 : n ≤ 9223372036854775807) : (numT n).length ≤ 64 := by
  have := Lib.itoa_length_le n h1 h2
  unfold numT
  omega
set_option maxRecDepth 100000 in
set_option maxHeartbeats 400000 in
theorem specFormatNeg (u : Nat) : 1 ≤ u → u ≤ 9223372036854775808 → ∀ (w : World),
    Calls Tryz.prog 45 #[.int .i64 (-(u : Int))] w fun e w' => e = .returned (.string (txt (numT (-(u : Int))))) ∧ Ext w w' := by
  induction u using Nat.strongRecOn with
  | _ u ih =>
    intro h1 h2 w
    have E := numT_neg h1
    obtain ⟨n, hn⟩ : ∃ n : Int, -(u : Int) = n := ⟨_, rfl⟩
    have hneg : n < 0 := by omega
    by_cases hs : u < 10
    · have hq : n.tdiv 10 = 0 := by rw [← hn, neg_tdiv10]; omega
      have hx : 48 - n = ((48 + u : Nat) : Int) := by omega
      have hc0 := fun (w : World) => conv1 (w.alloc (.cells #[.int .u8 (48 + (u : Int))] 5)) w.heap.size (48 + (u : Int)) (by omega) (by omega) (by simp)
      rw [dec_small hs, ← show (48 + (u : Int)).toNat = 48 + u from by omega] at E
      obtain ⟨c, hc⟩ : ∃ c, UInt8.ofNat (48 + (u : Int)).toNat = c := ⟨_, rfl⟩
      rw [hc] at E hc0
      have hz : (txt [c]).size ≤ 1 := by rw [txt_size]; simp
      have HE := Lib.hid E
      clear E ih hc
      rw [hn] at *
      go_enter Tryz.func45, Tryz.ntmps45
      go_wp2
      go_ret
      refine ⟨?_, (Ext.refl _).alloc _⟩
      show Ending.returned (.string (txt [45] ++ txt [c])) = _
      rw [txt_append, HE.out]
      rfl
    · have ih' := ih (u / 10) (by omega) (by omega) (by omega)
      have hq : n.tdiv 10 = -((u / 10 : Nat) : Int) := by rw [← hn, neg_tdiv10]
      have hr : n.tmod 10 = -((u % 10 : Nat) : Int) := by rw [← hn, neg_tmod10]
      have HT : txt (numT (-((u / 10 : Nat) : Int))) ++ txt [UInt8.ofNat (48 + ((u % 10 : Nat) : Int)).toNat] = txt (numT n) := by
        rw [txt_append, ← hn, E, dec_big hs, numT_neg (by omega), show (48 + ((u % 10 : Nat) : Int)).toNat = 48 + u % 10 from by omega]
        rfl
      obtain ⟨q, hqe⟩ : ∃ q : Int, -((u / 10 : Nat) : Int) = q := ⟨_, rfl⟩
      rw [hqe] at hq ih' HT
      have hqn : q < 0 := by omega
      have hqb : (q == 0) = false := by simp; omega
      have hqw : -922337203685477581 ≤ q := by omega
      have hx : 48 - n.tmod 10 = 48 + ((u % 10 : Nat) : Int) := by rw [hr]; omega
      obtain ⟨r, hre⟩ : ∃ r : Int, 48 + ((u % 10 : Nat) : Int) = r := ⟨_, rfl⟩
      rw [hre] at hx HT
      have hrb : 48 ≤ r ∧ r ≤ 57 := by omega
      have hcv := fun (w : World) (g : Nat) => conv1 w g r (by omega) (by omega)
      obtain ⟨c, hc⟩ : ∃ c, UInt8.ofNat r.toNat = c := ⟨_, rfl⟩
      rw [hc] at hcv HT
      have hz : (txt [c]).size ≤ 1 := by rw [txt_size]; simp
      obtain ⟨t, ht⟩ : ∃ t, txt (numT q) = t := ⟨_, rfl⟩
      rw [ht] at ih' HT
      have hts : t.size ≤ 64 := by rw [← ht, txt_size]; exact numT_len (by omega) (by omega)
      have HT' := Lib.hid HT
      have IH := Lib.hid ih'
      rw [hn]
      have hr' := hr
      clear E ih ht hqe hre HT hr ih' hc
      have hcur := Ext.refl w
      have l1 : IntKind.i64.wrap (n.tmod 10) = n.tmod 10 := by rw [hr']; exact IntWalk.i64_in _ (by omega)
      have l2 : IntKind.i64.wrap (48 - n.tmod 10) = r := by rw [hx]; exact IntWalk.i64_in _ (by omega)
      have l3 : IntKind.u8.wrap r = r := IntWalk.u8_in _ (by omega)
      have l4 : IntKind.i64.wrap q = q := IntWalk.i64_in _ (by omega)
      clear hr' hx
      go_enter Tryz.func45, Tryz.ntmps45
      go_wp2_with fail
      go_region_with (go_at_call 45; (with_reducible refine (IH.out _).mono ?_); rintro e w9 ⟨rfl, hx9⟩; replace hcur := Ext.trans (by first | exact hcur | exact hcur.drew | exact hcur.alloc _ | exact (hcur.alloc _).drew) hx9; have hcl := hx9.cellOf (p := ⟨w.heap.size, 0, none⟩) (v := .int .u8 r); simp at hcl)
      all_goals
        go_wp2
        go_ret
        refine ⟨?_, by first | exact hcur | exact hcur.alloc _ | exact (hcur.alloc _).drew⟩
        show Ending.returned (.string (t ++ txt [c])) = _
        rw [HT'.out]

set_option maxRecDepth 100000 in
set_option maxHeartbeats 400000 in
theorem specFormatPos (u : Nat) (h2 : u ≤ 9223372036854775807) (w : World) :
    Calls Tryz.prog 45 #[.int .i64 (u : Int)] w fun e w' => e = .returned (.string (txt (numT (u : Int)))) ∧ Ext w w' := by
  have hL := numT_len (n := (u : Int)) (by omega) (by omega)
  rw [numT_pos] at hL ⊢
  have h0 : ¬ (u : Int) < 0 := by omega
  go_enter Tryz.func45, Tryz.ntmps45
  go_wp2
  go_loopw [0, 3] (fun n s wr => ∃ (k : Nat) (l : List UInt8), k ≤ u ∧ n = .int .i64 (k : Int) ∧ s = .string (txt l) ∧ Lib.decDigits k ++ l = Lib.decDigits u ∧ Ext w wr) (fun n _ _ => (intOf n).toNat)
  case atStart => exact ⟨u, [], Nat.le_refl _, rfl, rfl, by simp, Ext.refl _⟩
  case round =>
    obtain ⟨k, l, hk, rfl, rfl, he, hx⟩ := hrel
    have hl : l.length ≤ 64 := by
      have := congrArg List.length he
      rw [List.length_append] at this
      omega
    have hls : (txt l).size ≤ 64 := by rw [txt_size]; exact hl
    by_cases hlt : 9 < (k : Int)
    · have hq : (k : Int) / 10 = ((k / 10 : Nat) : Int) := by omega
      have hx1 : 48 + (k : Int) % 10 = ((48 + k % 10 : Nat) : Int) := by omega
      have hc0 := fun (w : World) => conv1 (w.alloc (.cells #[.int .u8 (48 + (k : Int) % 10)] 5)) w.heap.size (48 + (k : Int) % 10) (by omega) (by omega) (by simp)
      have he2 : Lib.decDigits (k / 10) ++ ([UInt8.ofNat (48 + (k : Int) % 10).toNat] ++ l) = Lib.decDigits u := by
        rw [← List.append_assoc, ← he, dec_big (by omega : ¬ k < 10), show (48 + (k : Int) % 10).toNat = 48 + k % 10 from by omega]
      have hkr : 0 ≤ (k : Int) % 10 ∧ (k : Int) % 10 ≤ 9 := by omega
      obtain ⟨c, hc⟩ : ∃ c, UInt8.ofNat (48 + (k : Int) % 10).toNat = c := ⟨_, rfl⟩
      rw [hc] at hc0 he2
      have hz : (txt [c]).size ≤ 1 := by rw [txt_size]; simp
      have HE := Lib.hid he2
      clear he he2 hc hx1 hq
      obtain ⟨l', hl'⟩ : ∃ l', l' = [c] ++ l := ⟨_, rfl⟩
      go_wp2
      go_roundw
      case rel => exact ⟨k / 10, [c] ++ l, by omega, by congr 1, by rw [← txt_append], HE.out, hx.alloc _⟩
      case measure => simp [intOf]; omega
    · have hc0 := fun (w : World) => conv1 (w.alloc (.cells #[.int .u8 (48 + (k : Int))] 5)) w.heap.size (48 + (k : Int)) (by omega) (by omega) (by simp)
      have he2 : txt [UInt8.ofNat (48 + (k : Int)).toNat] ++ txt l = txt (Lib.decDigits u) := by
        rw [txt_append, ← he, dec_small (by omega : k < 10), show (48 + (k : Int)).toNat = 48 + k from by omega]
      obtain ⟨c, hc⟩ : ∃ c, UInt8.ofNat (48 + (k : Int)).toNat = c := ⟨_, rfl⟩
      rw [hc] at hc0 he2
      have hz : (txt [c]).size ≤ 1 := by rw [txt_size]; simp
      have HE := Lib.hid he2
      clear he he2 hc
      go_wp2
      go_ret
      refine ⟨?_, hx.alloc _⟩
      show Ending.returned (.string (txt [c] ++ txt l)) = _
      rw [HE.out]

theorem specFormatInt_any (n : Int) (w : World) (hn : I64 n) :
    Calls Tryz.prog 45 #[.int .i64 n] w fun e w' => e = .returned (.string (txt (numT n))) ∧ Ext w w' := by
  unfold I64 at hn
  rcases Int.lt_or_le n 0 with h | h
  · obtain ⟨u, rfl⟩ : ∃ u : Nat, n = -(u : Int) := ⟨n.natAbs, by omega⟩
    exact specFormatNeg u (by omega) (by omega) w
  · obtain ⟨u, rfl⟩ := Int.eq_ofNat_of_zero_le h
    exact specFormatPos u (by omega) w
end Go.Proofs.YtigkgnplgehmhaaGreatDoor
