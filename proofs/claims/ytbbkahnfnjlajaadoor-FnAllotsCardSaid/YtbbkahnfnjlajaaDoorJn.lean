/- Contracts of joined texts: Join and joinInts of the program; rows of strings of the call's own. -/
import Derived.Test.YtbbkahnfnjlajaaDoorFm
import Derived.Test.YtbbkahnfnjlajaaDoorMix
import Derived.Lib.Join
import Derived.OwnWalk
import Derived.Deep.DeepMust
namespace Go.Proofs.YtbbkahnfnjlajaaDoor
open Go.ChangeShapes Go.WideShapes Go.ChangeAt Go.RowKit
set_option linter.unusedVariables false

/-- texts as cells -/
def strs (l : List (List UInt8)) : List Value := l.map fun t => .string (txt t)
theorem strs_length (l : List (List UInt8)) : (strs l).length = l.length := by simp [strs]
theorem strs_append (a b : List (List UInt8)) : strs (a ++ b) = strs a ++ strs b := by simp [strs]
theorem strs_get {l : List (List UInt8)} {k : Nat} (h : k < l.length) : (strs l)[k]? = some (.string (txt l[k])) := by simp [strs, h]
theorem strs_ne {l : List (List UInt8)} {k : Nat} (h : k < l.length) : strs l ≠ [] := by
  intro e
  have h2 : (strs l).length = 0 := by rw [e]; rfl
  rw [strs_length] at h2
  omega
theorem Row.str {w : World} {A : Option Addr} {l : List (List UInt8)} (h : Row w A (strs l)) {k : Nat} (hk : k < l.length) :
    ∃ b off, A = some ⟨b, off, none⟩ ∧ b < w.heap.size ∧ w.cell? ⟨b, off + k, none⟩ = some (.string (txt l[k])) := by
  obtain ⟨b, off, hA, hb, hc⟩ := h.at_ (strs_ne hk)
  exact ⟨b, off, hA, hb, hc k _ (strs_get hk)⟩
theorem join_len_le (l : List (List UInt8)) (s : List UInt8) (b : Nat) (h : ∀ t ∈ l, t.length ≤ b) : (Lib.join l s).length ≤ l.length * (b + s.length) := by
  have hl : ∀ r : List (List UInt8), (∀ t ∈ r, t.length ≤ b) → Lib.lens r ≤ r.length * b := by
    intro r
    induction r with
    | nil => intro _; simp [Lib.lens]
    | cons x r ih =>
      intro h
      have h1 := h x (by simp)
      have h2 := ih fun t ht => h t (by simp [ht])
      simp only [Lib.lens, List.map_cons, List.sum_cons, List.length_cons, Nat.succ_mul] at h2 ⊢
      omega
  cases l with
  | nil => simp [Lib.join_nil]
  | cons x r =>
    rw [Lib.join_length]
    have h1 := hl _ h
    have h2 : s.length * r.length ≤ (r.length + 1) * s.length := by rw [Nat.mul_comm]; exact Nat.mul_le_mul_right _ (by omega)
    simp only [List.length_cons, Nat.mul_add] at h1 ⊢
    omega
theorem map_txt_list (l : List (List UInt8)) : (l.map txt).map (fun b => b.data.toList) = l := by
  rw [List.map_map]
  conv => rhs; rw [← List.map_id l]
  exact List.map_congr_left fun t _ => txt_list t

theorem str_info : (Tryd.prog.info? 9).map (fun i => (i.zero, i.size, i.bytes)) = some (some (.string ByteArray.empty), 1, 16) := by kernel_rfl

theorem implJoin_any (A : Option Addr) (n c : Nat) (l : List (List UInt8)) (s : ByteArray) (w : World) (hn : l.length = n) (hr : Row w A (strs l)) (hc : n ≤ c) (hle : n ≤ 4194304) (hlen : (Lib.join l s.data.toList).length ≤ 140737488355328) :
    Calls Tryd.prog 89 #[.slice A n c, .string s] w fun e w' => e = .returned (.string (txt (Lib.join l s.data.toList))) ∧ Ext w w' := by
  subst hn
  by_cases h0 : l.length = 0
  · have hl : l = [] := List.eq_nil_of_length_eq_zero h0
    subst hl
    have hcon := Tryd.strings_Join_none A c s w
    go_enter Tryd.func89, Tryd.ntmps89
    go_wp2_with fail
    refine hcon.mono ?_
    rintro e w' ⟨rfl, rfl⟩
    go_wp2
    go_ret
    exact ⟨ret_txt rfl, Ext.refl _⟩
  · obtain ⟨b, off, rfl, hb, hcell⟩ := hr.at_ (strs_ne (k := 0) (by omega))
    have hcon := Tryd.strings_Join b off c (l.map txt) s w (fun j x hj => hcell j _ (by
      have hj' : j < l.length := by
        have := (List.getElem?_eq_some_iff.1 hj).1
        simpa using this
      rw [List.getElem?_map, List.getElem?_eq_getElem hj'] at hj
      injection hj with hj
      rw [strs_get hj', ← hj])) hb (by rw [List.length_map]; omega) (by rw [List.length_map]; exact hc) (by rw [map_txt_list]; exact hlen)
    rw [map_txt_list, List.length_map] at hcon
    change Calls Tryd.prog _ _ _ fun e w' => e = .returned (.string (txt (Lib.join l s.data.toList))) ∧ _ at hcon
    clear hcell hr hlen h0
    generalize Lib.join l s.data.toList = t at hcon ⊢
    go_enter Tryd.func89, Tryd.ntmps89
    go_wp2_with fail
    refine hcon.mono ?_
    rintro e w1 ⟨rfl, hx1⟩
    go_wp2
    go_ret
    exact ⟨rfl, hx1⟩

def joinT (xs : List Int) : List UInt8 := Lib.join (xs.map numT) [32]
def numsTo (xs : List Int) (k : Nat) : List (List UInt8) := (xs.map numT).take k
theorem numsTo_succ {xs : List Int} {k : Nat} (h : k < xs.length) : numsTo xs (k + 1) = numsTo xs k ++ [numT xs[k]] := by
  unfold numsTo
  rw [List.take_succ_eq_append_getElem (by simpa using h), List.getElem_map]
theorem numsTo_len {xs : List Int} {k : Nat} (h : k ≤ xs.length) : (numsTo xs k).length = k := by
  unfold numsTo
  rw [List.length_take, List.length_map]; omega
theorem numsTo_all (xs : List Int) : numsTo xs xs.length = xs.map numT := by
  unfold numsTo
  rw [List.take_of_length_le (by simp)]
theorem joinT_len {xs : List Int} (hI : ∀ i, (hi : i < xs.length) → I64 xs[i]) : (joinT xs).length ≤ xs.length * 65 := by
  have := join_len_le (xs.map numT) [32] 64 (fun t ht => by
    obtain ⟨n, hn, rfl⟩ := List.mem_map.1 ht
    obtain ⟨i, hi, rfl⟩ := List.getElem_of_mem hn
    exact numT_len (hI i hi).1 (hI i hi).2)
  simpa [joinT] using this

set_option maxHeartbeats 1000000 in
theorem joinInts_any (A : Option Addr) (n c : Nat) (xs : List Int) (w : World) (hn : xs.length = n) (hr : Row w A (ints xs)) (hle : n ≤ 1048576) (hI : ∀ i, (hi : i < xs.length) → I64 xs[i]) (ht : Tab w) :
    Calls Tryd.prog 61 #[.slice A n c] w fun e w' => e = .returned (.string (txt (joinT xs))) ∧ Ext w w' := by
  have HI := Lib.hid hI
  have HL := Lib.hid (joinT_len hI)
  have HT := Lib.hid ht
  clear hI ht
  obtain ⟨i0, hi0, hz0, hz1, hz2⟩ := info_parts str_info
  go_enter Tryd.func61, Tryd.ntmps61
  go_wp2
  go_loopw [3, 8] (fun v i wr => ∃ k : Nat, k ≤ n ∧ i = .int .i64 k ∧ Ext w wr ∧ wr.ownsRow w.heap.size 9 1 v k (strs (numsTo xs k))) (fun _ i _ => n - (intOf i).toNat)
  case atStart => exact ⟨0, Nat.zero_le _, rfl, Ext.refl _, World.ownsRow_nil _ _ _ _⟩
  case round =>
  obtain ⟨k, hk, rfl, hx, hown⟩ := hrel
  have hsz := hx.size
  by_cases hlt : k < n
  · obtain ⟨b, off, rfl, hb, hc0⟩ := (hr.ext hx).int (k := k) (by omega)
    have hlt2 : (k : Int) < (n : Int) := by omega
    have Hk := Lib.hid (numsTo_succ (xs := xs) (k := k) (by omega))
    have hIk := HI.out k (by omega)
    have hTk := HT.out.ext hx
    go_wp2_with fail
    refine (implFormatInt_any _ _ hIk hTk).mono ?_
    rintro e w1 ⟨rfl, hx1⟩
    replace hown := own_ext hown hx1
    have hsz1 := hx1.size
    obtain ⟨t, ht⟩ : ∃ t, numT xs[k] = t := ⟨_, rfl⟩
    rw [ht] at Hk ⊢
    clear ht
    go_wp2_with (at_builtin; go_must (refine wpList_append_own _ rfl _ _ 128 rfl w.heap.size 9 i0 (.string ByteArray.empty) 1 16 Tryd.underlying128 hi0 hz0 hz1 hz2 rfl (by decide) _ _ _ rfl (hown.alloc _) ⟨w1.heap.size, 0, none⟩ 1 1 [.string (txt t)] rfl rfl (cell_one_new _ _ _) (by simp [Value.oneCell']) (by unfold maxLen; omega) (by omega) (by simp; omega) ?_); intro v' w2 hown' hgrow _)
    have hx2 : Ext w w2 := ((hx.trans hx1).alloc _).grown hgrow (fun g hg => (hown.lt g hg).1)
    go_roundw
    case rel => exact ⟨k + 1, by omega, by go_num, hx2, by rw [Hk.out, strs_append]; exact hown'⟩
    case measure => simp [intOf]; omega
  · obtain rfl : k = n := by omega
    obtain ⟨A', c', rfl⟩ := own_form hown
    have hrow := Row.of_own hown
    have hcap := own_cap hown
    have hlen : (numsTo xs k).length = k := numsTo_len (by omega)
    have E : Hid (Lib.join (numsTo xs k) [32] = joinT xs) := by unfold Hid joinT; rw [← hn, numsTo_all]
    have hb : (Lib.join (numsTo xs k) [32]).length ≤ 140737488355328 := by rw [E.out]; have := HL.out; omega
    have Hlen := Lib.hid hlen
    have Hb := Lib.hid hb
    clear hlen hb
    go_wp2_with fail
    refine (implJoin_any _ _ _ (numsTo xs k) _ _ Hlen.out hrow hcap (by omega) Hb.out).mono ?_
    rintro e w1 ⟨rfl, hx1⟩
    go_wp2
    go_ret
    exact ⟨ret_txt (by rw [← E.out]), hx.trans hx1⟩
end Go.Proofs.YtbbkahnfnjlajaaDoor
