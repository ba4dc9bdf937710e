/- Contracts of UnusedOf and ShortOf of the program and of the reference. -/
import Derived.Test.YtfnmbpjkjajpcaaGreatDoorFbI
import Derived.Test.YtfnmbpjkjajpcaaGreatDoorFbPz
import Derived.OwnWalk
import Derived.Deep.DeepMust
import Derived.Test.YtfnmbpjkjajpcaaGreatDoorFbQ
import Derived.Lib.ItoaLen
import Derived.Lib.LaidTab
import Derived.IntWalk
import Derived.Deep.RegionHeld3
import Derived.Deep.RegionWith
import Derived.Test.YtfnmbpjkjajpcaaGreatDoorFbJz
import Derived.Test.YtfnmbpjkjajpcaaGreatDoorShelf
import Derived.Test.YtfnmbpjkjajpcaaGreatDoorFbMix
import Derived.Lib.Join
import Derived.Test.YtfnmbpjkjajpcaaGreatDoorFbMz
import Derived.Deep.QuietTactic
import Derived.Test.YtfnmbpjkjajpcaaGreatDoorFbAp
import Derived.Test.YtfnmbpjkjajpcaaGreatDoorFbRat
import Derived.Lib.AtoiAll
import Derived.Lib.AtoiAllCases
import Derived.Test.YtfnmbpjkjajpcaaGreatDoorFbHz
import Derived.Lib.SmallJoins
namespace Go.Proofs.YtfnmbpjkjajpcaaGreatDoor
open Go.ChangeShapes Go.WideShapes Go.ChangeAt Go.RowKit
set_option linter.unusedVariables false
theorem int_info : (Tryz.prog.info? 3).map (fun i => (i.zero, i.size, i.bytes)) = some (some (.int .i64 0), 1, 8) := by kernel_rfl
def IntsMade (l : List Int) (w : World) (e : Ending) (w' : World) : Prop :=
  ∃ A c, e = .returned (.slice A l.length c) ∧ w'.ownsRow w.heap.size 3 1 (.slice A l.length c) l.length (ints l) ∧ Ext w w'
theorem IntsMade.mk {l : List Int} {w w' : World} {e : Ending} {A : Option Addr} {c : Nat} (he : e = .returned (.slice A l.length c)) (hx : Ext w w') (ho : w'.ownsRow w.heap.size 3 1 (.slice A l.length c) l.length (ints l)) : IntsMade l w e w' :=
  ⟨A, c, he, ho, hx⟩
end Go.Proofs.YtfnmbpjkjajpcaaGreatDoor
namespace Go.Proofs.YtfnmbpjkjajpcaaGreatDoor
open Go.ChangeShapes Go.WideShapes Go.ChangeAt Go.RowKit
set_option linter.unusedVariables false
def txt (l : List UInt8) : ByteArray := ⟨l.toArray⟩
theorem txt_append (a b : List UInt8) : txt a ++ txt b = txt (a ++ b) := by
  unfold txt
  apply ByteArray.ext
  simp
theorem txt_list (a : List UInt8) : (txt a).data.toList = a := by simp [txt]
theorem txt_size (a : List UInt8) : (txt a).size = a.length := by
  show (txt a).data.size = a.length
  simp [txt]
def numT (n : Int) : List UInt8 := Lib.itoa n
theorem numT_neg {u : Nat} (h : 1 ≤ u) : numT (-(u : Int)) = 45 :: Lib.decDigits u := by unfold numT Lib.itoa; rw [if_pos (by omega)]; simp
theorem numT_pos (u : Nat) : numT (u : Int) = Lib.decDigits u := by unfold numT Lib.itoa; rw [if_neg (by omega)]; simp
theorem numT_len {n : Int} (h1 : -9223372036854775808 ≤ n) (h2 : n ≤ 9223372036854775807) : (numT n).length ≤ 64 := by
  have := Lib.itoa_length_le n h1 h2
  unfold numT
  omega
end Go.Proofs.YtfnmbpjkjajpcaaGreatDoor
namespace Go.Proofs.YtfnmbpjkjajpcaaGreatDoor
open Go.ChangeShapes Go.WideShapes Go.ChangeAt Go.RowKit
set_option linter.unusedVariables false
def Tab (w : World) : Prop := Lib.TabIs Tryz.prog w "internal/strconv.uint64pow10" .u64 Lib.pow10Tab
theorem gTab : Tryz.prog.globalNamed "internal/strconv.uint64pow10" = some 0 := by kernel_rfl
theorem Tab.ext {w w' : World} (h : Tab w) (hx : Ext w w') : Tab w' := by
  unfold Tab Lib.TabIs World.var? at h ⊢
  rw [gTab] at h ⊢
  simp only [Option.bind_some] at h ⊢
  have hlt : 0 < w.heap.size := by
    rcases Nat.lt_or_ge 0 w.heap.size with h' | h'
    · exact h'
    · rw [Array.getElem?_eq_none h'] at h; cases h
  rw [hx.block _ hlt]
  exact h
theorem Tab.drew {w : World} (h : Tab w) : Tab w.drew := h
theorem add_txt {a b c : ByteArray} (h : a ++ b = c) (hs : a.size + b.size ≤ 9223372036854775807) (w : World) : (Op.stringOp .add a b).run Tryz.prog w = .ok (.string c) w := by
  rw [← h]; exact run_string_add_sum w a b hs
theorem ret_txt {a b : ByteArray} (h : a = b) : Ending.returned (.string a) = .returned (.string b) := by rw [h]
theorem ext_grow (w : World) (k : Nat) (os : Array Obj) : Ext w (Sort.grow (w.drewN k) os) :=
  ⟨rfl, rfl, rfl, by simp [Sort.grow, World.drewN], fun i hi => by simp [Sort.grow, World.drewN, Array.getElem?_append_left hi]⟩
theorem implFormatInt_any (n : Int) (w : World) (hn : I64 n) (ht : Tab w) :
    Calls Tryz.prog 8 #[.int .i64 n] w fun e w' => e = .returned (.string (txt (numT n))) ∧ Ext w w' := by
  unfold I64 at hn
  go_enter Tryz.func8, Tryz.ntmps8
  go_wp2_with fail
  refine (Tryz.strconv_Itoa n hn.1 hn.2 _ ht).mono ?_
  rintro e w1 ⟨rfl, k, os, rfl⟩
  go_wp2
  go_ret
  exact ⟨rfl, ext_grow _ _ _⟩
def ratioT (r : Ratio) : List UInt8 := if ratioOk r = true then (if r.D = 1 then numT r.N else numT r.N ++ [47] ++ numT r.D) else []
theorem ratioT_len (r : Ratio) : (ratioT r).length ≤ 129 := by
  unfold ratioT
  split
  · rename_i h
    obtain ⟨h1, h2, h3, h4⟩ := ratioOk_bd h
    have a := numT_len (n := r.N) (by omega) (by omega)
    have b := numT_len (n := r.D) (by omega) (by omega)
    split
    · omega
    · simp only [List.length_append, List.length_cons, List.length_nil]; omega
  · simp
def spanT (w : Span) : List UInt8 := if spanOk w = true then ratioT w.Low ++ [46, 46] ++ ratioT w.High else []
theorem sz1 {n : Int} (hn : I64 n) : (txt (numT n)).size ≤ 64 := by rw [txt_size]; exact numT_len hn.1 hn.2
set_option maxHeartbeats 1000000 in
theorem implFormatRatio_any (a b : Int) (w : World) (ha : I64 a) (hb : I64 b) (ht : Tab w) :
    Calls Tryz.prog 188 #[.agg #[.int .i64 a, .int .i64 b]] w fun e w' => e = .returned (.string (txt (ratioT ⟨a, b⟩))) ∧ Ext w w' := by
  have hx : Ext w (w.alloc (.cells #[.int .i64 a, .int .i64 b] 139)) := (Ext.refl w).alloc _
  have bR := Blk.new w 139 #[.int .i64 a, .int .i64 b]
  have HT := ht.ext hx
  have s1 := sz1 ha
  have s2 := sz1 hb
  go_enter Tryz.func188, Tryz.ntmps188
  go_wp2_with fail
  refine (implRatioOk_any _ _ _ ha hb).mono ?_
  rintro e w1 ⟨rfl, hx1⟩
  replace hx := hx.trans hx1
  replace bR := bR.ext hx1
  have cbR_1 := fun o => bR.cell o
  by_cases h1 : ratioOk ⟨a, b⟩ = true
  · have H1 := Lib.hid h1
    rw [h1]
    clear h1
    replace HT := ht.ext hx
    by_cases hd : b = 1
    · have hbd : (b == 1) = true := by simpa using hd
      have H : Hid (ratioT ⟨a, b⟩ = numT a) := by unfold Hid ratioT; rw [if_pos H1.out, if_pos hd]
      clear hd
      go_wp2_with fail
      refine (implFormatInt_any _ _ ha HT).mono ?_
      rintro e w2 ⟨rfl, hx2⟩
      replace hx := hx.trans hx2
      replace bR := bR.ext hx2
      have cbR_2 := fun o => bR.cell o
      go_wp2
      go_ret
      exact ⟨ret_txt (by rw [H.out]), hx⟩
    · have hbd : (b == 1) = false := by simpa using hd
      have H : Hid (txt (numT a) ++ txt [47] ++ txt (numT b) = txt (ratioT ⟨a, b⟩)) := by unfold Hid ratioT; rw [if_pos H1.out, if_neg hd, txt_append, txt_append]
      clear hd
      obtain ⟨ta, hta⟩ : ∃ t, txt (numT a) = t := ⟨_, rfl⟩
      obtain ⟨tb, htb⟩ : ∃ t, txt (numT b) = t := ⟨_, rfl⟩
      have Ha := Lib.hid hta
      have Hb := Lib.hid htb
      rw [hta] at s1 H
      rw [htb] at s2 H
      clear hta htb
      obtain ⟨t1, ht1⟩ : ∃ t, ta ++ txt [47] = t := ⟨_, rfl⟩
      have s3 : t1.size ≤ 65 := by rw [← ht1, ByteArray.size_append, txt_size]; simp; omega
      have a1 := add_txt (a := ta) (b := ⟨#[47]⟩) (c := t1) ht1 (by have : (⟨#[47]⟩ : ByteArray).size = 1 := rfl; omega)
      rw [ht1] at H
      have a2 := add_txt (a := t1) (b := tb) (c := txt (ratioT ⟨a, b⟩)) H.out (by omega)
      clear ht1 H
      go_wp2_with fail
      have hcur := Ext.refl (w1)
      go_region_held3 (fun w' => w'.cell? ⟨w.heap.size, 0, none⟩ = some (.int .i64 a) ∧ w'.cell? ⟨w.heap.size, 1, none⟩ = some (.int .i64 b))
        (go_keep)
        (first
          | (go_at_call 8; (with_reducible refine (implFormatInt_any _ _ (by assumption) (by first | exact HT.drew | exact t9)).mono ?_); rintro e w9 ⟨rfl, hx9⟩; replace hcur := Ext.trans (by first | exact hcur | exact hcur.drew | exact hcur.alloc _ | exact (hcur.alloc _).drew) hx9; have c9bR := fun o => (bR.ext hcur).cell o; have t9 := Tab.ext HT hcur; (first | rw [Ha.out] | rw [Hb.out])))
      go_wp2
      go_ret
      exact ⟨rfl, by first | exact hx.trans hcur⟩
  · have h1' : ratioOk ⟨a, b⟩ = false := by simpa using h1
    have H : Hid (ratioT ⟨a, b⟩ = []) := by unfold Hid ratioT; rw [if_neg h1]
    rw [h1']
    clear h1 h1'
    go_wp2
    go_ret
    exact ⟨ret_txt (by rw [H.out]; rfl), hx⟩
theorem sz2 (r : Ratio) : (txt (ratioT r)).size ≤ 129 := by rw [txt_size]; exact ratioT_len r
set_option maxHeartbeats 1000000 in
theorem implFormatSpan_any (a b c d : Int) (w : World) (ha : I64 a) (hb : I64 b) (hc : I64 c) (hd : I64 d) (ht : Tab w) :
    Calls Tryz.prog 251 #[.agg #[.int .i64 a, .int .i64 b, .int .i64 c, .int .i64 d]] w fun e w' => e = .returned (.string (txt (spanT ⟨⟨a, b⟩, ⟨c, d⟩⟩))) ∧ Ext w w' := by
  have hx : Ext w (w.alloc (.cells #[.int .i64 a, .int .i64 b, .int .i64 c, .int .i64 d] 178)) := (Ext.refl w).alloc _
  have bR := Blk.new w 178 #[.int .i64 a, .int .i64 b, .int .i64 c, .int .i64 d]
  go_enter Tryz.func251, Tryz.ntmps251
  go_wp2_with fail
  refine (implSpanOk_any _ _ _ _ _ ha hb hc hd).mono ?_
  rintro e w1 ⟨rfl, hx1⟩
  replace hx := hx.trans hx1
  replace bR := bR.ext hx1
  have cbR_5 := fun o => bR.cell o
  by_cases h1 : spanOk ⟨⟨a, b⟩, ⟨c, d⟩⟩ = true
  · have HT := ht.ext hx
    have s1 := sz2 ⟨a, b⟩
    have s2 := sz2 ⟨c, d⟩
    have H : txt (ratioT ⟨a, b⟩) ++ txt [46, 46] ++ txt (ratioT ⟨c, d⟩) = txt (spanT ⟨⟨a, b⟩, ⟨c, d⟩⟩) := by unfold spanT; rw [if_pos h1, txt_append, txt_append]
    rw [h1]
    clear h1
    obtain ⟨ta, hta⟩ : ∃ t, txt (ratioT ⟨a, b⟩) = t := ⟨_, rfl⟩
    obtain ⟨tb, htb⟩ : ∃ t, txt (ratioT ⟨c, d⟩) = t := ⟨_, rfl⟩
    have Ha := Lib.hid hta
    have Hb := Lib.hid htb
    rw [hta] at s1 H
    rw [htb] at s2 H
    clear hta htb
    obtain ⟨t1, ht1⟩ : ∃ t, ta ++ txt [46, 46] = t := ⟨_, rfl⟩
    have s3 : t1.size ≤ 131 := by rw [← ht1, ByteArray.size_append, txt_size]; simp; omega
    have a1 := add_txt (a := ta) (b := ⟨#[46, 46]⟩) (c := t1) ht1 (by have : (⟨#[46, 46]⟩ : ByteArray).size = 2 := rfl; omega)
    rw [ht1] at H
    have a2 := add_txt (a := t1) (b := tb) (c := txt (spanT ⟨⟨a, b⟩, ⟨c, d⟩⟩)) H (by omega)
    clear ht1 H
    go_wp2_with fail
    have hcur := Ext.refl (w1)
    go_region_held3 (fun w' => w'.cell? ⟨w.heap.size, 0, none⟩ = some (.int .i64 a) ∧ w'.cell? ⟨w.heap.size, 1, none⟩ = some (.int .i64 b) ∧ w'.cell? ⟨w.heap.size, 2, none⟩ = some (.int .i64 c) ∧ w'.cell? ⟨w.heap.size, 3, none⟩ = some (.int .i64 d))
      (go_keep)
      (first
        | (go_at_call 188; (with_reducible refine (implFormatRatio_any _ _ _ (by assumption) (by assumption) (by first | exact HT.drew | exact t9)).mono ?_); rintro e w9 ⟨rfl, hx9⟩; replace hcur := Ext.trans (by first | exact hcur | exact hcur.drew | exact hcur.alloc _ | exact (hcur.alloc _).drew) hx9; have c9bR := fun o => (bR.ext hcur).cell o; have t9 := Tab.ext HT hcur; (first | rw [Ha.out] | rw [Hb.out])))
    go_wp2
    go_ret
    exact ⟨rfl, hx.trans hcur⟩
  · have h1' : spanOk ⟨⟨a, b⟩, ⟨c, d⟩⟩ = false := by simpa using h1
    have H : Hid (spanT ⟨⟨a, b⟩, ⟨c, d⟩⟩ = []) := by unfold Hid spanT; rw [if_neg h1]
    rw [h1']
    clear h1 h1'
    go_wp2
    go_ret
    exact ⟨ret_txt (by rw [H.out]; rfl), hx⟩
end Go.Proofs.YtfnmbpjkjajpcaaGreatDoor
namespace Go.Proofs.YtfnmbpjkjajpcaaGreatDoor
open Go.ChangeShapes Go.WideShapes Go.ChangeAt Go.RowKit
set_option linter.unusedVariables false
def strs (l : List (List UInt8)) : List Value := l.map fun t => .string (txt t)
theorem strs_length (l : List (List UInt8)) : (strs l).length = l.length := by simp [strs]
theorem strs_append (a b : List (List UInt8)) : strs (a ++ b) = strs a ++ strs b := by simp [strs]
theorem strs_get {l : List (List UInt8)} {k : Nat} (h : k < l.length) : (strs l)[k]? = some (.string (txt l[k])) := by simp [strs, h]
theorem strs_ne {l : List (List UInt8)} {k : Nat} (h : k < l.length) : strs l ≠ [] := by
  intro e
  have h2 : (strs l).length = 0 := by rw [e]; rfl
  rw [strs_length] at h2
  omega
theorem Row.str {w : World} {A : Option Addr} {l : List (List UInt8)} (h : Row w A (strs l)) {k : Nat} (hk : k < l.length) :
    ∃ b off, A = some ⟨b, off, none⟩ ∧ b < w.heap.size ∧ w.cell? ⟨b, off + k, none⟩ = some (.string (txt l[k])) := by
  obtain ⟨b, off, hA, hb, hc⟩ := h.at_ (strs_ne hk)
  exact ⟨b, off, hA, hb, hc k _ (strs_get hk)⟩
theorem join_len_le (l : List (List UInt8)) (s : List UInt8) (b : Nat) (h : ∀ t ∈ l, t.length ≤ b) : (Lib.join l s).length ≤ l.length * (b + s.length) := by
  have hl : ∀ r : List (List UInt8), (∀ t ∈ r, t.length ≤ b) → Lib.lens r ≤ r.length * b := by
    intro r
    induction r with
    | nil => intro _; simp [Lib.lens]
    | cons x r ih =>
      intro h
      have h1 := h x (by simp)
      have h2 := ih fun t ht => h t (by simp [ht])
      simp only [Lib.lens, List.map_cons, List.sum_cons, List.length_cons, Nat.succ_mul] at h2 ⊢
      omega
  cases l with
  | nil => simp [Lib.join_nil]
  | cons x r =>
    rw [Lib.join_length]
    have h1 := hl _ h
    have h2 : s.length * r.length ≤ (r.length + 1) * s.length := by rw [Nat.mul_comm]; exact Nat.mul_le_mul_right _ (by omega)
    simp only [List.length_cons, Nat.mul_add] at h1 ⊢
    omega
theorem map_txt_list (l : List (List UInt8)) : (l.map txt).map (fun b => b.data.toList) = l := by
  rw [List.map_map]
  conv => rhs; rw [← List.map_id l]
  exact List.map_congr_left fun t _ => txt_list t
theorem str_info : (Tryz.prog.info? 9).map (fun i => (i.zero, i.size, i.bytes)) = some (some (.string ByteArray.empty), 1, 16) := by kernel_rfl
theorem implJoin_any (A : Option Addr) (n c : Nat) (l : List (List UInt8)) (s : ByteArray) (w : World) (hn : l.length = n) (hr : Row w A (strs l)) (hc : n ≤ c) (hle : n ≤ 4194304) (hlen : (Lib.join l s.data.toList).length ≤ 140737488355328) :
    Calls Tryz.prog 14 #[.slice A n c, .string s] w fun e w' => e = .returned (.string (txt (Lib.join l s.data.toList))) ∧ Ext w w' := by
  subst hn
  by_cases h0 : l.length = 0
  · have hl : l = [] := List.eq_nil_of_length_eq_zero h0
    subst hl
    have hcon := Tryz.strings_Join_none A c s w
    go_enter Tryz.func14, Tryz.ntmps14
    go_wp2_with fail
    refine hcon.mono ?_
    rintro e w' ⟨rfl, rfl⟩
    go_wp2
    go_ret
    exact ⟨ret_txt rfl, Ext.refl _⟩
  · obtain ⟨b, off, rfl, hb, hcell⟩ := hr.at_ (strs_ne (k := 0) (by omega))
    have hcon := Tryz.strings_Join b off c (l.map txt) s w (fun j x hj => hcell j _ (by
      have hj' : j < l.length := by
        have := (List.getElem?_eq_some_iff.1 hj).1
        simpa using this
      rw [List.getElem?_map, List.getElem?_eq_getElem hj'] at hj
      injection hj with hj
      rw [strs_get hj', ← hj])) hb (by rw [List.length_map]; omega) (by rw [List.length_map]; exact hc) (by rw [map_txt_list]; exact hlen)
    rw [map_txt_list, List.length_map] at hcon
    change Calls Tryz.prog _ _ _ fun e w' => e = .returned (.string (txt (Lib.join l s.data.toList))) ∧ _ at hcon
    clear hcell hr hlen h0
    generalize Lib.join l s.data.toList = t at hcon ⊢
    go_enter Tryz.func14, Tryz.ntmps14
    go_wp2_with fail
    refine hcon.mono ?_
    rintro e w1 ⟨rfl, hx1⟩
    go_wp2
    go_ret
    exact ⟨rfl, hx1⟩
def joinT (xs : List Int) : List UInt8 := Lib.join (xs.map numT) [32]
def numsTo (xs : List Int) (k : Nat) : List (List UInt8) := (xs.map numT).take k
theorem numsTo_succ {xs : List Int} {k : Nat} (h : k < xs.length) : numsTo xs (k + 1) = numsTo xs k ++ [numT xs[k]] := by
  unfold numsTo
  rw [List.take_succ_eq_append_getElem (by simpa using h), List.getElem_map]
theorem numsTo_len {xs : List Int} {k : Nat} (h : k ≤ xs.length) : (numsTo xs k).length = k := by
  unfold numsTo
  rw [List.length_take, List.length_map]; omega
theorem numsTo_all (xs : List Int) : numsTo xs xs.length = xs.map numT := by
  unfold numsTo
  rw [List.take_of_length_le (by simp)]
theorem joinT_len {xs : List Int} (hI : ∀ i, (hi : i < xs.length) → I64 xs[i]) : (joinT xs).length ≤ xs.length * 65 := by
  have := join_len_le (xs.map numT) [32] 64 (fun t ht => by
    obtain ⟨n, hn, rfl⟩ := List.mem_map.1 ht
    obtain ⟨i, hi, rfl⟩ := List.getElem_of_mem hn
    exact numT_len (hI i hi).1 (hI i hi).2)
  simpa [joinT] using this
set_option maxHeartbeats 1000000 in
theorem joinInts_any (A : Option Addr) (n c : Nat) (xs : List Int) (w : World) (hn : xs.length = n) (hr : Row w A (ints xs)) (hle : n ≤ 1048576) (hI : ∀ i, (hi : i < xs.length) → I64 xs[i]) (ht : Tab w) :
    Calls Tryz.prog 196 #[.slice A n c] w fun e w' => e = .returned (.string (txt (joinT xs))) ∧ Ext w w' := by
  have HI := Lib.hid hI
  have HL := Lib.hid (joinT_len hI)
  have HT := Lib.hid ht
  clear hI ht
  obtain ⟨i0, hi0, hz0, hz1, hz2⟩ := info_parts str_info
  go_enter Tryz.func196, Tryz.ntmps196
  go_wp2
  go_loopw [3, 8] (fun v i wr => ∃ k : Nat, k ≤ n ∧ i = .int .i64 k ∧ Ext w wr ∧ wr.ownsRow w.heap.size 9 1 v k (strs (numsTo xs k))) (fun _ i _ => n - (intOf i).toNat)
  case atStart => exact ⟨0, Nat.zero_le _, rfl, Ext.refl _, World.ownsRow_nil _ _ _ _⟩
  case round =>
  obtain ⟨k, hk, rfl, hx, hown⟩ := hrel
  have hsz := hx.size
  by_cases hlt : k < n
  · obtain ⟨b, off, rfl, hb, hc0⟩ := (hr.ext hx).int (k := k) (by omega)
    have hlt2 : (k : Int) < (n : Int) := by omega
    have Hk := Lib.hid (numsTo_succ (xs := xs) (k := k) (by omega))
    have hIk := HI.out k (by omega)
    have hTk := HT.out.ext hx
    go_wp2_with fail
    refine (implFormatInt_any _ _ hIk hTk).mono ?_
    rintro e w1 ⟨rfl, hx1⟩
    replace hown := own_ext hown hx1
    have hsz1 := hx1.size
    obtain ⟨t, ht⟩ : ∃ t, numT xs[k] = t := ⟨_, rfl⟩
    rw [ht] at Hk ⊢
    clear ht
    go_wp2_with (at_builtin; go_must (refine wpList_append_own _ rfl _ _ 27 rfl w.heap.size 9 i0 (.string ByteArray.empty) 1 16 Tryz.underlying27 hi0 hz0 hz1 hz2 rfl (by decide) _ _ _ rfl (hown.alloc _) ⟨w1.heap.size, 0, none⟩ 1 1 [.string (txt t)] rfl rfl (cell_one_new _ _ _) (by simp [Value.oneCell']) (by unfold maxLen; omega) (by omega) (by simp; omega) ?_); intro v' w2 hown' hgrow _)
    have hx2 : Ext w w2 := ((hx.trans hx1).alloc _).grown hgrow (fun g hg => (hown.lt g hg).1)
    go_roundw
    case rel => exact ⟨k + 1, by omega, by go_num, hx2, by rw [Hk.out, strs_append]; exact hown'⟩
    case measure => simp [intOf]; omega
  · obtain rfl : k = n := by omega
    obtain ⟨A', c', rfl⟩ := own_form hown
    have hrow := Row.of_own hown
    have hcap := own_cap hown
    have hlen : (numsTo xs k).length = k := numsTo_len (by omega)
    have E : Hid (Lib.join (numsTo xs k) [32] = joinT xs) := by unfold Hid joinT; rw [← hn, numsTo_all]
    have hb : (Lib.join (numsTo xs k) [32]).length ≤ 140737488355328 := by rw [E.out]; have := HL.out; omega
    have Hlen := Lib.hid hlen
    have Hb := Lib.hid hb
    clear hlen hb
    go_wp2_with fail
    refine (implJoin_any _ _ _ (numsTo xs k) _ _ Hlen.out hrow hcap (by omega) Hb.out).mono ?_
    rintro e w1 ⟨rfl, hx1⟩
    go_wp2
    go_ret
    exact ⟨ret_txt (by rw [← E.out]), hx.trans hx1⟩
end Go.Proofs.YtfnmbpjkjajpcaaGreatDoor
namespace Go.Proofs.YtfnmbpjkjajpcaaGreatDoor
open Go.ChangeShapes Go.WideShapes Go.ChangeAt Go.RowKit
set_option linter.unusedVariables false
set_option maxRecDepth 100000
def StrsMade (l : List (List UInt8)) (w : World) (e : Ending) (w' : World) : Prop :=
  ∃ A c, e = .returned (.slice A l.length c) ∧ Mine w' w.heap.size w'.heap.size 9 1 (.slice A l.length c) l.length (strs l) ∧ Ext w w'
theorem StrsMade.mk {l : List (List UInt8)} {w w' : World} {e : Ending} {A : Option Addr} {c n : Nat} (hn : n = l.length) (he : e = .returned (.slice A n c)) (hx : Ext w w') (ho : w'.ownsRow w.heap.size 9 1 (.slice A n c) n (strs l)) : StrsMade l w e w' := by
  subst hn
  exact ⟨A, c, he, Mine.of_own ho, hx⟩
theorem StrsMade.none {l : List (List UInt8)} {w w' : World} {e : Ending} (hl : l = []) (he : e = .returned (.slice none 0 0)) (hx : Ext w w') : StrsMade l w e w' := by
  subst hl
  exact ⟨Option.none, 0, he, Mine.of_own (World.ownsRow_nil _ _ _ _), hx⟩
end Go.Proofs.YtfnmbpjkjajpcaaGreatDoor
namespace Go.Proofs.YtfnmbpjkjajpcaaGreatDoor
open Go.ChangeShapes Go.WideShapes Go.ChangeAt Go.RowKit
set_option linter.unusedVariables false
set_option maxRecDepth 100000
def spotT (s : Spot) : List UInt8 := if spotOk s = true then ratioT (ratioOf s.X s.D) ++ [44] ++ ratioT (ratioOf s.Y s.D) else []
theorem spotT_len (s : Spot) : (spotT s).length ≤ 259 := by
  unfold spotT
  split
  · have h1 := ratioT_len (ratioOf s.X s.D)
    have h2 := ratioT_len (ratioOf s.Y s.D)
    simp only [List.length_append, List.length_cons, List.length_nil]
    omega
  · simp
theorem ratioOf_small {x d : Int} (hx : -5000000000000 ≤ x ∧ x ≤ 5000000000000) (hd : 1 ≤ d ∧ d ≤ 5000000000) : I64 (ratioOf x d).N ∧ I64 (ratioOf x d).D := by
  obtain ⟨h1, h2, h3, h4, h5⟩ := ratioOf_good (n := x) (d := d) (by omega) hd.1 (by omega)
  unfold I64
  omega
set_option maxHeartbeats 2000000 in
theorem implFormatSpot_any (a b c : Int) (w : World) (ha : I64 a) (hb : I64 b) (hc : I64 c) (ht : Tab w) :
    Calls Tryz.prog 249 #[.agg #[.int .i64 a, .int .i64 b, .int .i64 c]] w fun e w' => e = .returned (.string (txt (spotT ⟨a, b, c⟩))) ∧ Ext w w' := by
  have hx : Ext w (w.alloc (.cells #[.int .i64 a, .int .i64 b, .int .i64 c] 38)) := (Ext.refl w).alloc _
  have bR := Blk.new w 38 #[.int .i64 a, .int .i64 b, .int .i64 c]
  go_enter Tryz.func249, Tryz.ntmps249
  go_wp2_with fail
  refine (implSpotOk_any _ _ _ _ ha hb hc).mono ?_
  rintro e w1 ⟨rfl, hx1⟩
  replace hx := hx.trans hx1
  replace bR := bR.ext hx1
  have cbR_7 := fun o => bR.cell o
  by_cases h1 : spotOk ⟨a, b, c⟩ = true
  · have H : Hid (txt (ratioT (ratioOf a c)) ++ txt [44] ++ txt (ratioT (ratioOf b c)) = txt (spotT ⟨a, b, c⟩)) := by unfold Hid spotT; rw [if_pos h1, txt_append, txt_append]
    have hbd := spotOk_bd h1
    change 1 ≤ c ∧ c ≤ 5000000000 ∧ -(1000 * c) ≤ a ∧ a ≤ 1000 * c ∧ -(1000 * c) ≤ b ∧ b ≤ 1000 * c at hbd
    obtain ⟨q1, q2, q3, q4, q5, q6⟩ := hbd
    obtain ⟨IxN, IxD⟩ := ratioOf_small (x := a) (d := c) (by omega) (by omega)
    obtain ⟨IyN, IyD⟩ := ratioOf_small (x := b) (d := c) (by omega) (by omega)
    rw [h1]
    clear h1 q1 q2 q3 q4 q5 q6
    have s1 : (txt (ratioT (ratioOf a c))).size ≤ 129 := by rw [txt_size]; exact ratioT_len _
    have s2 : (txt (ratioT (ratioOf b c))).size ≤ 129 := by rw [txt_size]; exact ratioT_len _
    obtain ⟨ta, hta⟩ : ∃ t, txt (ratioT (ratioOf a c)) = t := ⟨_, rfl⟩
    obtain ⟨tb, htb⟩ : ∃ t, txt (ratioT (ratioOf b c)) = t := ⟨_, rfl⟩
    have Ha : Hid (txt (ratioT ⟨(ratioOf a c).N, (ratioOf a c).D⟩) = ta) := hta
    have Hb : Hid (txt (ratioT ⟨(ratioOf b c).N, (ratioOf b c).D⟩) = tb) := htb
    rw [hta] at s1 H
    rw [htb] at s2 H
    clear hta htb
    have sp : (⟨#[44]⟩ : ByteArray).size = 1 := rfl
    have sq : (txt [44]).size = 1 := rfl
    obtain ⟨t1, ht1⟩ : ∃ t, ta ++ txt [44] = t := ⟨_, rfl⟩
    have z1 : t1.size ≤ 130 := by rw [← ht1, ByteArray.size_append]; omega
    have a1 := add_txt (a := ta) (b := ⟨#[44]⟩) (c := t1) ht1 (by omega)
    rw [ht1] at H
    have a2 := add_txt (a := t1) (b := tb) (c := txt (spotT ⟨a, b, c⟩)) H.out (by omega)
    clear ht1 H sp sq
    have HT := ht.ext hx
    go_wp2_with fail
    have hcur := Ext.refl (w1)
    go_region_held3 (fun w' => w'.cell? ⟨w.heap.size, 0, none⟩ = some (.int .i64 a) ∧ w'.cell? ⟨w.heap.size, 1, none⟩ = some (.int .i64 b) ∧ w'.cell? ⟨w.heap.size, 2, none⟩ = some (.int .i64 c))
      (go_keep)
      (first
        | (go_at_call 191; (with_reducible refine (implRatioOf_any _ _ _ (by assumption) (by assumption)).mono ?_); rintro e w9 ⟨rfl, hx9⟩; replace hcur := Ext.trans (by first | exact hcur | exact hcur.drew | exact hcur.alloc _ | exact (hcur.alloc _).drew) hx9; have c9bR := fun o => (bR.ext hcur).cell o; have t9 := Tab.ext HT hcur)
        | (go_at_call 188; (with_reducible refine (implFormatRatio_any _ _ _ (by assumption) (by assumption) (by first | exact HT.drew | exact t9 | exact HT)).mono ?_); rintro e w9 ⟨rfl, hx9⟩; replace hcur := Ext.trans (by first | exact hcur | exact hcur.drew | exact hcur.alloc _ | exact (hcur.alloc _).drew) hx9; have c9bR := fun o => (bR.ext hcur).cell o; have t9 := Tab.ext HT hcur; (first | rw [Ha.out] | rw [Hb.out])))
    go_wp2
    go_ret
    exact ⟨rfl, hx.trans hcur⟩
  · have h1' : spotOk ⟨a, b, c⟩ = false := by simpa using h1
    have H : Hid (spotT ⟨a, b, c⟩ = []) := by unfold Hid spotT; rw [if_neg h1]
    rw [h1']
    clear h1 h1'
    go_wp2
    go_ret
    exact ⟨ret_txt (by rw [H.out]; rfl), hx⟩
end Go.Proofs.YtfnmbpjkjajpcaaGreatDoor
namespace Go.Proofs.YtfnmbpjkjajpcaaGreatDoor
set_option linter.unusedVariables false
def pI (l : List UInt8) : Option Int := match Lib.atoiAll l with | .ok v => if numT v = l then some v else none | _ => none
def isDig (c : UInt8) : Bool := decide (48 ≤ c.toNat ∧ c.toNat ≤ 57)
def digN (a : Nat) (c : UInt8) : Nat := a * 10 + (c.toNat - 48)
def valN (l : List UInt8) : Nat := l.foldl digN 0
theorem pI_some {l : List UInt8} {n : Int} (h : pI l = some n) : numT n = l ∧ -9223372036854775808 ≤ n ∧ n ≤ 9223372036854775807 := by
  unfold pI at h
  split at h
  · rename_i v hv
    split at h
    · rename_i he
      injection h with h
      subst h
      exact ⟨he, Lib.atoiAll_bounds hv⟩
    · cases h
  · cases h
theorem dec_spec (u : Nat) : (Lib.decDigits u).all isDig = true ∧ Lib.decDigits u ≠ [] ∧ valN (Lib.decDigits u) = u := by
  induction u using Nat.strongRecOn with
  | _ u ih =>
    rw [Lib.decDigits]
    split
    · rename_i h
      refine ⟨?_, by simp, ?_⟩
      · simp [isDig]; omega
      · simp [valN, digN]; omega
    · rename_i h
      obtain ⟨h1, h2, h3⟩ := ih (u / 10) (by omega)
      have hm : u % 10 < 10 := by omega
      refine ⟨?_, by simp, ?_⟩
      · rw [List.all_append, h1]
        simp [isDig]; omega
      · unfold valN at h3 ⊢
        rw [List.foldl_append, h3]
        simp [digN]
        omega
theorem digN_mono (l : List UInt8) : ∀ a : Nat, a ≤ l.foldl digN a := by
  induction l with
  | nil => intro a; exact Nat.le_refl _
  | cons c r ih => intro a; exact Nat.le_trans (by unfold digN; omega) (ih (digN a c))
theorem parse_dig (l : List UInt8) : ∀ a : Nat, l.all isDig = true → l.foldl digN a ≤ 9223372036854775808 → Lib.parseUint10 a l = .ok (l.foldl digN a) := by
  induction l with
  | nil => intro a _ _; rfl
  | cons c r ih =>
    intro a h hb
    rw [List.all_cons, Bool.and_eq_true] at h
    have hc : 48 ≤ c.toNat ∧ c.toNat ≤ 57 := by simpa [isDig] using h.1
    have hm := digN_mono r (digN a c)
    have hb' : r.foldl digN (digN a c) ≤ 9223372036854775808 := hb
    have hd : digN a c = a * 10 + (c.toNat - 48) := rfl
    rw [Lib.parseUint10, if_pos hc, if_neg (by omega), if_neg (by omega)]
    exact ih _ h.2 hb'
theorem pI_num (n : Int) (h0 : -9223372036854775808 ≤ n) (h1 : n ≤ 9223372036854775807) : pI (numT n) = some n := by
  have key : Lib.atoiAll (numT n) = .ok n := by
    by_cases hn : n < 0
    · obtain ⟨u, rfl⟩ : ∃ u : Nat, n = -(u : Int) := ⟨n.natAbs, by omega⟩
      rw [numT_neg (by omega), Lib.atoiAll_minus]
      obtain ⟨d1, d2, d3⟩ := dec_spec u
      unfold Lib.parseMag
      rw [if_neg d2, parse_dig _ _ d1 (by unfold valN at d3; omega)]
      unfold valN at d3
      rw [d3]
      unfold Lib.signed
      simp only
      rw [if_neg (by omega)]
    · obtain ⟨u, rfl⟩ : ∃ u : Nat, n = (u : Int) := ⟨n.toNat, by omega⟩
      rw [numT_pos]
      obtain ⟨d1, d2, d3⟩ := dec_spec u
      cases hl : Lib.decDigits u with
      | nil => exact absurd hl d2
      | cons c r =>
        rw [hl] at d1 d3
        have hc : 48 ≤ c.toNat ∧ c.toNat ≤ 57 := by rw [List.all_cons, Bool.and_eq_true] at d1; simpa [isDig] using d1.1
        rw [Lib.atoiAll_plain c r (by omega) (by omega)]
        unfold Lib.parseMag
        unfold valN at d3
        rw [if_neg (by simp), parse_dig _ _ d1 (by omega), d3]
        unfold Lib.signless
        simp only
        rw [if_neg (by omega)]
  unfold pI
  rw [key]
  simp
end Go.Proofs.YtfnmbpjkjajpcaaGreatDoor
namespace Go.Proofs.YtfnmbpjkjajpcaaGreatDoor
open Go.ChangeShapes Go.WideShapes Go.ChangeAt Go.RowKit
set_option linter.unusedVariables false
set_option maxRecDepth 100000
def pV (l : List UInt8) : Int := (pI l).getD 0
def pB (l : List UInt8) : Bool := (pI l).isSome
theorem txt_same (a : List UInt8) (s : ByteArray) : ((txt a).toList == s.toList) = decide (a = s.data.toList) := by
  rw [ByteArray.toList_eq, ByteArray.toList_eq, txt_list]
  by_cases h : a = s.data.toList <;> simp [h]
end Go.Proofs.YtfnmbpjkjajpcaaGreatDoor
namespace Go.Proofs.YtfnmbpjkjajpcaaGreatDoor
open Go.ChangeShapes Go.WideShapes Go.ChangeAt Go.RowKit
set_option linter.unusedVariables false
set_option maxRecDepth 100000
def Ers (w : World) : Prop := (∃ tp p, w.cell? ⟨2, 0, none⟩ = some (.iface tp p)) ∧ (∃ tp p, w.cell? ⟨3, 0, none⟩ = some (.iface tp p))
theorem Ers.ext {w w' : World} (h : Ers w) (hx : Ext w w') : Ers w' := by
  obtain ⟨⟨t, p, h1⟩, t', p', h2⟩ := h
  exact ⟨⟨t, p, hx.cellOf h1⟩, t', p', hx.cellOf h2⟩
theorem atoi_any (s : ByteArray) (hs : s.size ≤ 1048576) (w : World) (he : Ers w) :
    Calls Tryz.prog 113 #[.string s] w fun e w' => Ext w w' ∧ ((∃ v, Lib.atoiAll s.data.toList = .ok v ∧ e = .returned (.tuple #[.int .i64 v, .nilIface])) ∨
      ((∀ v, Lib.atoiAll s.data.toList ≠ .ok v) ∧ ∃ (z : Int) (t : TypeId) (p : Value), e = .returned (.tuple #[.int .i64 z, .iface t p]))) := by
  obtain ⟨⟨t, p, h1⟩, t', p', h2⟩ := he
  rcases hA : Lib.atoiAll s.data.toList with v | _ | _
  · refine (Tryz.strconv_Atoi_ok s (by omega) v hA w).mono ?_
    rintro e w' ⟨rfl, h⟩
    refine ⟨?_, Or.inl ⟨v, rfl, rfl⟩⟩
    rcases h with rfl | ⟨t, rfl⟩
    · exact Ext.refl _
    · exact Go.Joins.below_bytesWorld _ _ _ _ (Nat.le_refl _)
  · refine (Tryz.strconv_Atoi_syntax s (by omega) hA _ w h1 (Or.inr ⟨_, _, rfl⟩)).mono ?_
    rintro e w' ⟨N, rfl, _, _, hb⟩
    exact ⟨hb, Or.inr ⟨fun v h => (by cases h), _, _, _, rfl⟩⟩
  · refine (Tryz.strconv_Atoi_range s (by omega) hA _ w h2 (Or.inr ⟨_, _, rfl⟩)).mono ?_
    rintro e w' ⟨N, rfl, _, _, hb⟩
    exact ⟨hb, Or.inr ⟨fun v h => (by cases h), _, _, _, rfl⟩⟩
set_option maxHeartbeats 4000000 in
theorem implParseInt_any (s : ByteArray) (hs : s.size ≤ 1048576) (w : World) (ht : Tab w) (he : Ers w) :
    Calls Tryz.prog 61 #[.string s] w fun e w' => e = .returned (.tuple #[.int .i64 (pV s.data.toList), .bool (pB s.data.toList)]) ∧ Ext w w' := by
  obtain ⟨L, hL⟩ : ∃ L, s.data.toList = L := ⟨_, rfl⟩
  have HL := Lib.hid hL
  rw [hL]
  have HB : Hid (∀ h : pI L = none, pV L = 0 ∧ pB L = false) := fun h => by simp [pV, pB, h]
  have HG : Hid (∀ n : Int, ∀ h : pI L = some n, pV L = n ∧ pB L = true) := fun n h => by simp [pV, pB, h]
  obtain ⟨pv, hpv⟩ : ∃ x, pV L = x := ⟨_, rfl⟩
  obtain ⟨pb, hpb⟩ : ∃ x, pB L = x := ⟨_, rfl⟩
  rw [hpv] at HB HG ⊢
  rw [hpb] at HB HG ⊢
  clear hpv hpb
  have HT0 := Lib.hid ht
  have HE0 := Lib.hid he
  clear ht he
  go_enter Tryz.func61, Tryz.ntmps61
  have hE := HE0.out
  go_wp2_with fail
  refine (atoi_any s hs _ hE).mono ?_
  clear hE
  rintro e w1 ⟨hx1, ⟨v, hv, rfl⟩ | ⟨hv, z, t, p, rfl⟩⟩
  · rw [HL.out] at hv
    have Hv := Lib.hid hv
    clear hv
    clear hL
    have hvb := Lib.atoiAll_bounds Hv.out
    have hI : I64 v := hvb
    have HT := HT0.out.ext hx1
    have Hp : Hid (pI L = if numT v = L then some v else none) := by unfold Hid pI; rw [Hv.out]
    go_wp2_with fail
    refine (implFormatInt_any _ _ hI HT).mono ?_
    rintro e w2 ⟨rfl, hx2⟩
    by_cases hc : numT v = L
    · have hcm : ((txt (numT v)).toList == s.toList) = true := by rw [txt_same, HL.out, decide_eq_true_eq]; exact hc
      obtain ⟨q1, q2⟩ := HG.out v (by rw [Hp.out, if_pos hc])
      clear hc
      go_wp2
      go_ret2
      exact ⟨by rw [q1, q2]; rfl, hx1.trans hx2⟩
    · have hcm : ((txt (numT v)).toList == s.toList) = false := by rw [txt_same, HL.out, decide_eq_false_iff_not]; exact hc
      obtain ⟨q1, q2⟩ := HB.out (by rw [Hp.out, if_neg hc])
      clear hc
      go_wp2
      go_ret2
      exact ⟨by rw [q1, q2]; rfl, hx1.trans hx2⟩
  · obtain ⟨q1, q2⟩ := HB.out (by
      unfold pI
      split
      · rename_i v h; rw [← hL] at h; exact absurd h (hv v)
      · rfl)
    clear hv hL
    go_wp2
    go_ret2
    exact ⟨by rw [q1, q2]; rfl, hx1⟩
end Go.Proofs.YtfnmbpjkjajpcaaGreatDoor
namespace Go.Proofs.YtfnmbpjkjajpcaaGreatDoor
open Go.ChangeShapes Go.WideShapes Go.ChangeAt Go.RowKit
set_option linter.unusedVariables false
end Go.Proofs.YtfnmbpjkjajpcaaGreatDoor
