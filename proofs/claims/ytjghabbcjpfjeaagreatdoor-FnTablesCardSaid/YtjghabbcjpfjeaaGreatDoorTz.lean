/- Contracts of numerals: FormatInt of the program and of the reference. -/
import Derived.Test.YtjghabbcjpfjeaaGreatDoorQ
import Derived.Lib.ItoaLen
import Derived.Lib.LaidTab
import Derived.IntWalk
import Derived.Deep.RegionHeld3
import Derived.Deep.RegionWith
import Derived.Test.YtjghabbcjpfjeaaGreatDoorSp
import Derived.Test.YtjghabbcjpfjeaaGreatDoorShelf
import Derived.Test.YtjghabbcjpfjeaaGreatDoorMix
import Derived.Lib.Join
import Derived.OwnWalk
import Derived.Deep.DeepMust
import Derived.Test.YtjghabbcjpfjeaaGreatDoorMs
import Derived.Deep.QuietTactic
import Derived.Test.YtjghabbcjpfjeaaGreatDoorSo
import Derived.Test.YtjghabbcjpfjeaaGreatDoorAp
import Derived.Test.YtjghabbcjpfjeaaGreatDoorRat
namespace Go.Proofs.YtjghabbcjpfjeaaGreatDoor
open Go.ChangeShapes Go.WideShapes Go.ChangeAt Go.RowKit
set_option linter.unusedVariables false

/-- a text of bytes -/
def txt (l : List UInt8) : ByteArray := ⟨l.toArray⟩
theorem txt_append (a b : List UInt8) : txt a ++ txt b = txt (a ++ b) := by
  unfold txt
  apply ByteArray.ext
  simp
theorem txt_list (a : List UInt8) : (txt a).data.toList = a := by simp [txt]
theorem txt_size (a : List UInt8) : (txt a).size = a.length := by
  show (txt a).data.size = a.length
  simp [txt]
def numT (n : Int) : List UInt8 := Lib.itoa n
theorem numT_neg {u : Nat} (h : 1 ≤ u) : numT (-(u : Int)) = 45 :: Lib.decDigits u := by unfold numT Lib.itoa; rw [if_pos (by omega)]; simp
theorem numT_pos (u : Nat) : numT (u : Int) = Lib.decDigits u := by unfold numT Lib.itoa; rw [if_neg (by omega)]; simp
theorem dec_small {u : Nat} (h : u < 10) : Lib.decDigits u = [UInt8.ofNat (48 + u)] := by rw [Lib.decDigits, dif_pos h]
theorem dec_big {u : Nat} (h : ¬ u < 10) : Lib.decDigits u = Lib.decDigits (u / 10) ++ [UInt8.ofNat (48 + u % 10)] := by rw [Lib.decDigits, dif_neg h]

/-- string(b) of a slice of one byte -/
theorem conv1 (w : World) (g : Nat) (x : Int) (h0 : 0 ≤ x) (h1 : x ≤ 255) (hc : w.cell? ⟨g, 0, none⟩ = some (.int .u8 x)) :
    (convert 22 9 (.slice (some ⟨g, 0, none⟩) 1 1)).run Tryz.prog w = .ok (.string (txt [UInt8.ofNat x.toNat])) w := by
  refine run_convert_bytes_back _ _ _ 5 ⟨g, 0, none⟩ 1 [UInt8.ofNat x.toNat] Tryz.underlying22 Tryz.underlying5 Tryz.underlying9 fun j hj => ?_
  have : j = 0 := by simpa using hj
  subst this
  have e : ((UInt8.ofNat x.toNat).toNat : Int) = x := by simp [UInt8.toNat_ofNat']; omega
  show w.cell? ⟨g, 0, none⟩ = some (.int .u8 ((UInt8.ofNat x.toNat).toNat : Int))
  rw [e, hc]
theorem neg_tdiv10 (u : Nat) : (-(u : Int)).tdiv 10 = -((u / 10 : Nat) : Int) := by rw [Int.neg_tdiv]; rfl
theorem neg_tmod10 (u : Nat) : (-(u : Int)).tmod 10 = -((u % 10 : Nat) : Int) := by rw [Int.neg_tmod]; rfl
theorem numT_len {n : Int} (h1 : -9223372036854775808 ≤ n) (h2 : n ≤ 9223372036854775807) : (numT n).length ≤ 64 := by
  have := Lib.itoa_length_le n h1 h2
  unfold numT
  omega
end Go.Proofs.YtjghabbcjpfjeaaGreatDoor
/- Contracts of texts of numbers: FormatInt of the program, FormatRatio, FormatSpan. -/
namespace Go.Proofs.YtjghabbcjpfjeaaGreatDoor
open Go.ChangeShapes Go.WideShapes Go.ChangeAt Go.RowKit
set_option linter.unusedVariables false

/-- the library's table of powers lies as the program's text lays it -/
def Tab (w : World) : Prop := Lib.TabIs Tryz.prog w "internal/strconv.uint64pow10" .u64 Lib.pow10Tab
theorem gTab : Tryz.prog.globalNamed "internal/strconv.uint64pow10" = some 0 := by kernel_rfl
theorem Tab.ext {w w' : World} (h : Tab w) (hx : Ext w w') : Tab w' := by
  unfold Tab Lib.TabIs World.var? at h ⊢
  rw [gTab] at h ⊢
  simp only [Option.bind_some] at h ⊢
  have hlt : 0 < w.heap.size := by
    rcases Nat.lt_or_ge 0 w.heap.size with h' | h'
    · exact h'
    · rw [Array.getElem?_eq_none h'] at h; cases h
  rw [hx.block _ hlt]
  exact h
theorem Tab.drew {w : World} (h : Tab w) : Tab w.drew := h

theorem add_txt {a b c : ByteArray} (h : a ++ b = c) (hs : a.size + b.size ≤ 9223372036854775807) (w : World) : (Op.stringOp .add a b).run Tryz.prog w = .ok (.string c) w := by
  rw [← h]; exact run_string_add_sum w a b hs
theorem ret_txt {a b : ByteArray} (h : a = b) : Ending.returned (.string a) = .returned (.string b) := by rw [h]
theorem ext_grow (w : World) (k : Nat) (os : Array Obj) : Ext w (Sort.grow (w.drewN k) os) :=
  ⟨rfl, rfl, rfl, by simp [Sort.grow, World.drewN], fun i hi => by simp [Sort.grow, World.drewN, Array.getElem?_append_left hi]⟩
theorem implFormatInt_any (n : Int) (w : World) (hn : I64 n) (ht : Tab w) :
    Calls Tryz.prog 43 #[.int .i64 n] w fun e w' => e = .returned (.string (txt (numT n))) ∧ Ext w w' := by
  unfold I64 at hn
  go_enter Tryz.func43, Tryz.ntmps43
  go_wp2_with fail
  refine (Tryz.strconv_Itoa n hn.1 hn.2 _ ht).mono ?_
  rintro e w1 ⟨rfl, k, os, rfl⟩
  go_wp2
  go_ret
  exact ⟨rfl, ext_grow _ _ _⟩

def ratioT (r : Ratio) : List UInt8 := if ratioOk r = true then (if r.D = 1 then numT r.N else numT r.N ++ [47] ++ numT r.D) else []
theorem ratioT_len (r : Ratio) : (ratioT r).length ≤ 129 := by
  unfold ratioT
  split
  · rename_i h
    obtain ⟨h1, h2, h3, h4⟩ := ratioOk_bd h
    have a := numT_len (n := r.N) (by omega) (by omega)
    have b := numT_len (n := r.D) (by omega) (by omega)
    split
    · omega
    · simp only [List.length_append, List.length_cons, List.length_nil]; omega
  · simp
def spanT (w : Span) : List UInt8 := if spanOk w = true then ratioT w.Low ++ [46, 46] ++ ratioT w.High else []

theorem sz1 {n : Int} (hn : I64 n) : (txt (numT n)).size ≤ 64 := by rw [txt_size]; exact numT_len hn.1 hn.2

set_option maxHeartbeats 1000000 in
theorem implFormatRatio_any (a b : Int) (w : World) (ha : I64 a) (hb : I64 b) (ht : Tab w) :
    Calls Tryz.prog 72 #[.agg #[.int .i64 a, .int .i64 b]] w fun e w' => e = .returned (.string (txt (ratioT ⟨a, b⟩))) ∧ Ext w w' := by
  have hx : Ext w (w.alloc (.cells #[.int .i64 a, .int .i64 b] 44)) := (Ext.refl w).alloc _
  have bR := Blk.new w 44 #[.int .i64 a, .int .i64 b]
  have HT := ht.ext hx
  have s1 := sz1 ha
  have s2 := sz1 hb
  go_enter Tryz.func72, Tryz.ntmps72
  go_wp2_with fail
  refine (implRatioOk_any _ _ _ ha hb).mono ?_
  rintro e w1 ⟨rfl, hx1⟩
  replace hx := hx.trans hx1
  replace bR := bR.ext hx1
  have cbR_1 := fun o => bR.cell o
  by_cases h1 : ratioOk ⟨a, b⟩ = true
  · have H1 := Lib.hid h1
    rw [h1]
    clear h1
    replace HT := ht.ext hx
    by_cases hd : b = 1
    · have hbd : (b == 1) = true := by simpa using hd
      have H : Hid (ratioT ⟨a, b⟩ = numT a) := by unfold Hid ratioT; rw [if_pos H1.out, if_pos hd]
      clear hd
      go_wp2_with fail
      refine (implFormatInt_any _ _ ha HT).mono ?_
      rintro e w2 ⟨rfl, hx2⟩
      replace hx := hx.trans hx2
      replace bR := bR.ext hx2
      have cbR_2 := fun o => bR.cell o
      go_wp2
      go_ret
      exact ⟨ret_txt (by rw [H.out]), hx⟩
    · have hbd : (b == 1) = false := by simpa using hd
      have H : Hid (txt (numT a) ++ txt [47] ++ txt (numT b) = txt (ratioT ⟨a, b⟩)) := by unfold Hid ratioT; rw [if_pos H1.out, if_neg hd, txt_append, txt_append]
      clear hd
      obtain ⟨ta, hta⟩ : ∃ t, txt (numT a) = t := ⟨_, rfl⟩
      obtain ⟨tb, htb⟩ : ∃ t, txt (numT b) = t := ⟨_, rfl⟩
      have Ha := Lib.hid hta
      have Hb := Lib.hid htb
      rw [hta] at s1 H
      rw [htb] at s2 H
      clear hta htb
      obtain ⟨t1, ht1⟩ : ∃ t, ta ++ txt [47] = t := ⟨_, rfl⟩
      have s3 : t1.size ≤ 65 := by rw [← ht1, ByteArray.size_append, txt_size]; simp; omega
      have a1 := add_txt (a := ta) (b := ⟨#[47]⟩) (c := t1) ht1 (by have : (⟨#[47]⟩ : ByteArray).size = 1 := rfl; omega)
      rw [ht1] at H
      have a2 := add_txt (a := t1) (b := tb) (c := txt (ratioT ⟨a, b⟩)) H.out (by omega)
      clear ht1 H
      go_wp2_with fail
      have hcur := Ext.refl (w1)
      go_region_held3 (fun w' => w'.cell? ⟨w.heap.size, 0, none⟩ = some (.int .i64 a) ∧ w'.cell? ⟨w.heap.size, 1, none⟩ = some (.int .i64 b))
        (go_keep)
        (first
          | (go_at_call 43; (with_reducible refine (implFormatInt_any _ _ (by assumption) (by first | exact HT.drew | exact t9)).mono ?_); rintro e w9 ⟨rfl, hx9⟩; replace hcur := Ext.trans (by first | exact hcur | exact hcur.drew | exact hcur.alloc _ | exact (hcur.alloc _).drew) hx9; have c9bR := fun o => (bR.ext hcur).cell o; have t9 := Tab.ext HT hcur; (first | rw [Ha.out] | rw [Hb.out])))
      go_wp2
      go_ret
      exact ⟨rfl, by first | exact hx.trans hcur⟩
  · have h1' : ratioOk ⟨a, b⟩ = false := by simpa using h1
    have H : Hid (ratioT ⟨a, b⟩ = []) := by unfold Hid ratioT; rw [if_neg h1]
    rw [h1']
    clear h1 h1'
    go_wp2
    go_ret
    exact ⟨ret_txt (by rw [H.out]; rfl), hx⟩



end Go.Proofs.YtjghabbcjpfjeaaGreatDoor
/- Contracts of joined texts: Join and joinInts of the program; rows of strings of the call's own. -/
namespace Go.Proofs.YtjghabbcjpfjeaaGreatDoor
open Go.ChangeShapes Go.WideShapes Go.ChangeAt Go.RowKit
set_option linter.unusedVariables false

/-- texts as cells -/
def strs (l : List (List UInt8)) : List Value := l.map fun t => .string (txt t)
theorem strs_length (l : List (List UInt8)) : (strs l).length = l.length := by simp [strs]
theorem strs_append (a b : List (List UInt8)) : strs (a ++ b) = strs a ++ strs b := by simp [strs]
theorem strs_get {l : List (List UInt8)} {k : Nat} (h : k < l.length) : (strs l)[k]? = some (.string (txt l[k])) := by simp [strs, h]
theorem strs_ne {l : List (List UInt8)} {k : Nat} (h : k < l.length) : strs l ≠ [] := by
  intro e
  have h2 : (strs l).length = 0 := by rw [e]; rfl
  rw [strs_length] at h2
  omega
theorem Row.str {w : World} {A : Option Addr} {l : List (List UInt8)} (h : Row w A (strs l)) {k : Nat} (hk : k < l.length) :
    ∃ b off, A = some ⟨b, off, none⟩ ∧ b < w.heap.size ∧ w.cell? ⟨b, off + k, none⟩ = some (.string (txt l[k])) := by
  obtain ⟨b, off, hA, hb, hc⟩ := h.at_ (strs_ne hk)
  exact ⟨b, off, hA, hb, hc k _ (strs_get hk)⟩
theorem join_len_le (l : List (List UInt8)) (s : List UInt8) (b : Nat) (h : ∀ t ∈ l, t.length ≤ b) : (Lib.join l s).length ≤ l.length * (b + s.length) := by
  have hl : ∀ r : List (List UInt8), (∀ t ∈ r, t.length ≤ b) → Lib.lens r ≤ r.length * b := by
    intro r
    induction r with
    | nil => intro _; simp [Lib.lens]
    | cons x r ih =>
      intro h
      have h1 := h x (by simp)
      have h2 := ih fun t ht => h t (by simp [ht])
      simp only [Lib.lens, List.map_cons, List.sum_cons, List.length_cons, Nat.succ_mul] at h2 ⊢
      omega
  cases l with
  | nil => simp [Lib.join_nil]
  | cons x r =>
    rw [Lib.join_length]
    have h1 := hl _ h
    have h2 : s.length * r.length ≤ (r.length + 1) * s.length := by rw [Nat.mul_comm]; exact Nat.mul_le_mul_right _ (by omega)
    simp only [List.length_cons, Nat.mul_add] at h1 ⊢
    omega
theorem map_txt_list (l : List (List UInt8)) : (l.map txt).map (fun b => b.data.toList) = l := by
  rw [List.map_map]
  conv => rhs; rw [← List.map_id l]
  exact List.map_congr_left fun t _ => txt_list t

theorem str_info : (Tryz.prog.info? 9).map (fun i => (i.zero, i.size, i.bytes)) = some (some (.string ByteArray.empty), 1, 16) := by kernel_rfl

theorem implJoin_any (A : Option Addr) (n c : Nat) (l : List (List UInt8)) (s : ByteArray) (w : World) (hn : l.length = n) (hr : Row w A (strs l)) (hc : n ≤ c) (hle : n ≤ 4194304) (hlen : (Lib.join l s.data.toList).length ≤ 140737488355328) :
    Calls Tryz.prog 44 #[.slice A n c, .string s] w fun e w' => e = .returned (.string (txt (Lib.join l s.data.toList))) ∧ Ext w w' := by
  subst hn
  by_cases h0 : l.length = 0
  · have hl : l = [] := List.eq_nil_of_length_eq_zero h0
    subst hl
    have hcon := Tryz.strings_Join_none A c s w
    go_enter Tryz.func44, Tryz.ntmps44
    go_wp2_with fail
    refine hcon.mono ?_
    rintro e w' ⟨rfl, rfl⟩
    go_wp2
    go_ret
    exact ⟨ret_txt rfl, Ext.refl _⟩
  · obtain ⟨b, off, rfl, hb, hcell⟩ := hr.at_ (strs_ne (k := 0) (by omega))
    have hcon := Tryz.strings_Join b off c (l.map txt) s w (fun j x hj => hcell j _ (by
      have hj' : j < l.length := by
        have := (List.getElem?_eq_some_iff.1 hj).1
        simpa using this
      rw [List.getElem?_map, List.getElem?_eq_getElem hj'] at hj
      injection hj with hj
      rw [strs_get hj', ← hj])) hb (by rw [List.length_map]; omega) (by rw [List.length_map]; exact hc) (by rw [map_txt_list]; exact hlen)
    rw [map_txt_list, List.length_map] at hcon
    change Calls Tryz.prog _ _ _ fun e w' => e = .returned (.string (txt (Lib.join l s.data.toList))) ∧ _ at hcon
    clear hcell hr hlen h0
    generalize Lib.join l s.data.toList = t at hcon ⊢
    go_enter Tryz.func44, Tryz.ntmps44
    go_wp2_with fail
    refine hcon.mono ?_
    rintro e w1 ⟨rfl, hx1⟩
    go_wp2
    go_ret
    exact ⟨rfl, hx1⟩

def joinT (xs : List Int) : List UInt8 := Lib.join (xs.map numT) [32]
def numsTo (xs : List Int) (k : Nat) : List (List UInt8) := (xs.map numT).take k
theorem numsTo_succ {xs : List Int} {k : Nat} (h : k < xs.length) : numsTo xs (k + 1) = numsTo xs k ++ [numT xs[k]] := by
  unfold numsTo
  rw [List.take_succ_eq_append_getElem (by simpa using h), List.getElem_map]
theorem numsTo_len {xs : List Int} {k : Nat} (h : k ≤ xs.length) : (numsTo xs k).length = k := by
  unfold numsTo
  rw [List.length_take, List.length_map]; omega
theorem numsTo_all (xs : List Int) : numsTo xs xs.length = xs.map numT := by
  unfold numsTo
  rw [List.take_of_length_le (by simp)]
theorem joinT_len {xs : List Int} (hI : ∀ i, (hi : i < xs.length) → I64 xs[i]) : (joinT xs).length ≤ xs.length * 65 := by
  have := join_len_le (xs.map numT) [32] 64 (fun t ht => by
    obtain ⟨n, hn, rfl⟩ := List.mem_map.1 ht
    obtain ⟨i, hi, rfl⟩ := List.getElem_of_mem hn
    exact numT_len (hI i hi).1 (hI i hi).2)
  simpa [joinT] using this

end Go.Proofs.YtjghabbcjpfjeaaGreatDoor
/- Contracts of the helpers on slices of strings: comparisons, marks; Join of the reference. -/
namespace Go.Proofs.YtjghabbcjpfjeaaGreatDoor
open Go.ChangeShapes Go.WideShapes Go.ChangeAt Go.RowKit
set_option linter.unusedVariables false
set_option maxRecDepth 100000

/-- a slice of strings of the call's own was made -/
def StrsMade (l : List (List UInt8)) (w : World) (e : Ending) (w' : World) : Prop :=
  ∃ A c, e = .returned (.slice A l.length c) ∧ Mine w' w.heap.size w'.heap.size 9 1 (.slice A l.length c) l.length (strs l) ∧ Ext w w'
theorem StrsMade.mk {l : List (List UInt8)} {w w' : World} {e : Ending} {A : Option Addr} {c n : Nat} (hn : n = l.length) (he : e = .returned (.slice A n c)) (hx : Ext w w') (ho : w'.ownsRow w.heap.size 9 1 (.slice A n c) n (strs l)) : StrsMade l w e w' := by
  subst hn
  exact ⟨A, c, he, Mine.of_own ho, hx⟩
theorem StrsMade.none {l : List (List UInt8)} {w w' : World} {e : Ending} (hl : l = []) (he : e = .returned (.slice none 0 0)) (hx : Ext w w') : StrsMade l w e w' := by
  subst hl
  exact ⟨Option.none, 0, he, Mine.of_own (World.ownsRow_nil _ _ _ _), hx⟩


def markT (k : Int) : List UInt8 := 109 :: numT k
def marksTo (k0 : Int) (n : Nat) : List (List UInt8) := (upTo k0 n).map markT
theorem marksTo_len (k0 : Int) (n : Nat) : (marksTo k0 n).length = n := by simp [marksTo, upTo_length]
theorem marksTo_get {k0 : Int} {n k : Nat} (h : k < n) : (strs (marksTo k0 n))[k]? = some (.string (txt (markT (k0 + k)))) := by
  unfold strs marksTo
  rw [List.getElem?_map, List.getElem?_map, upTo_get h]
  rfl
theorem markT_len {k : Int} (h0 : 0 ≤ k) (h1 : k ≤ 9223372036854775807) : (markT k).length ≤ 65 := by
  have := numT_len (n := k) (by omega) (by omega)
  simp only [markT, List.length_cons]; omega




theorem join_take_succ (l : List (List UInt8)) (s : List UInt8) (k : Nat) (h : k < l.length) : Lib.join (l.take (k + 1)) s = (if k = 0 then [] else Lib.join (l.take k) s ++ s) ++ l[k] := by
  cases l with
  | nil => simp at h
  | cons x r =>
    by_cases hk : k = 0
    · subst hk; simp [Lib.join_one]
    · rw [if_neg hk]
      obtain ⟨j, rfl⟩ : ∃ j, k = j + 1 := ⟨k - 1, by omega⟩
      have hj : j < r.length := by simpa using h
      rw [List.take_succ_cons, List.take_succ_cons, Lib.join_cons, Lib.join_cons, Lib.joinTail_take_succ s r j r[j] (List.getElem?_eq_getElem hj)]
      simp [List.append_assoc]
theorem join_take_le (l : List (List UInt8)) (s : List UInt8) (k : Nat) : (Lib.join (l.take k) s).length ≤ (Lib.join l s).length := by
  cases l with
  | nil => simp
  | cons x r =>
    cases k with
    | zero => simp [Lib.join_nil]
    | succ k =>
      rw [List.take_succ_cons, Lib.join_cons, Lib.join_cons, List.length_append, List.length_append]
      have := Lib.joinTail_take_le s r k
      omega

end Go.Proofs.YtjghabbcjpfjeaaGreatDoor
/- Contracts of texts of spots: FormatSpot of the program and of the reference. -/
namespace Go.Proofs.YtjghabbcjpfjeaaGreatDoor
open Go.ChangeShapes Go.WideShapes Go.ChangeAt Go.RowKit
set_option linter.unusedVariables false
set_option maxRecDepth 100000

def spotT (s : Spot) : List UInt8 := if spotOk s = true then ratioT (ratioOf s.X s.D) ++ [44] ++ ratioT (ratioOf s.Y s.D) else []
theorem spotT_len (s : Spot) : (spotT s).length ≤ 259 := by
  unfold spotT
  split
  · have h1 := ratioT_len (ratioOf s.X s.D)
    have h2 := ratioT_len (ratioOf s.Y s.D)
    simp only [List.length_append, List.length_cons, List.length_nil]
    omega
  · simp
theorem ratioOf_small {x d : Int} (hx : -5000000000000 ≤ x ∧ x ≤ 5000000000000) (hd : 1 ≤ d ∧ d ≤ 5000000000) : I64 (ratioOf x d).N ∧ I64 (ratioOf x d).D := by
  obtain ⟨h1, h2, h3, h4, h5⟩ := ratioOf_good (n := x) (d := d) (by omega) hd.1 (by omega)
  unfold I64
  omega
set_option maxHeartbeats 2000000 in
theorem implFormatSpot_any (a b c : Int) (w : World) (ha : I64 a) (hb : I64 b) (hc : I64 c) (ht : Tab w) :
    Calls Tryz.prog 71 #[.agg #[.int .i64 a, .int .i64 b, .int .i64 c]] w fun e w' => e = .returned (.string (txt (spotT ⟨a, b, c⟩))) ∧ Ext w w' := by
  have hx : Ext w (w.alloc (.cells #[.int .i64 a, .int .i64 b, .int .i64 c] 30)) := (Ext.refl w).alloc _
  have bR := Blk.new w 30 #[.int .i64 a, .int .i64 b, .int .i64 c]
  go_enter Tryz.func71, Tryz.ntmps71
  go_wp2_with fail
  refine (implSpotOk_any _ _ _ _ ha hb hc).mono ?_
  rintro e w1 ⟨rfl, hx1⟩
  replace hx := hx.trans hx1
  replace bR := bR.ext hx1
  have cbR_7 := fun o => bR.cell o
  by_cases h1 : spotOk ⟨a, b, c⟩ = true
  · have H : Hid (txt (ratioT (ratioOf a c)) ++ txt [44] ++ txt (ratioT (ratioOf b c)) = txt (spotT ⟨a, b, c⟩)) := by unfold Hid spotT; rw [if_pos h1, txt_append, txt_append]
    have hbd := spotOk_bd h1
    change 1 ≤ c ∧ c ≤ 5000000000 ∧ -(1000 * c) ≤ a ∧ a ≤ 1000 * c ∧ -(1000 * c) ≤ b ∧ b ≤ 1000 * c at hbd
    obtain ⟨q1, q2, q3, q4, q5, q6⟩ := hbd
    obtain ⟨IxN, IxD⟩ := ratioOf_small (x := a) (d := c) (by omega) (by omega)
    obtain ⟨IyN, IyD⟩ := ratioOf_small (x := b) (d := c) (by omega) (by omega)
    rw [h1]
    clear h1 q1 q2 q3 q4 q5 q6
    have s1 : (txt (ratioT (ratioOf a c))).size ≤ 129 := by rw [txt_size]; exact ratioT_len _
    have s2 : (txt (ratioT (ratioOf b c))).size ≤ 129 := by rw [txt_size]; exact ratioT_len _
    obtain ⟨ta, hta⟩ : ∃ t, txt (ratioT (ratioOf a c)) = t := ⟨_, rfl⟩
    obtain ⟨tb, htb⟩ : ∃ t, txt (ratioT (ratioOf b c)) = t := ⟨_, rfl⟩
    have Ha : Hid (txt (ratioT ⟨(ratioOf a c).N, (ratioOf a c).D⟩) = ta) := hta
    have Hb : Hid (txt (ratioT ⟨(ratioOf b c).N, (ratioOf b c).D⟩) = tb) := htb
    rw [hta] at s1 H
    rw [htb] at s2 H
    clear hta htb
    have sp : (⟨#[44]⟩ : ByteArray).size = 1 := rfl
    have sq : (txt [44]).size = 1 := rfl
    obtain ⟨t1, ht1⟩ : ∃ t, ta ++ txt [44] = t := ⟨_, rfl⟩
    have z1 : t1.size ≤ 130 := by rw [← ht1, ByteArray.size_append]; omega
    have a1 := add_txt (a := ta) (b := ⟨#[44]⟩) (c := t1) ht1 (by omega)
    rw [ht1] at H
    have a2 := add_txt (a := t1) (b := tb) (c := txt (spotT ⟨a, b, c⟩)) H.out (by omega)
    clear ht1 H sp sq
    have HT := ht.ext hx
    go_wp2_with fail
    have hcur := Ext.refl (w1)
    go_region_held3 (fun w' => w'.cell? ⟨w.heap.size, 0, none⟩ = some (.int .i64 a) ∧ w'.cell? ⟨w.heap.size, 1, none⟩ = some (.int .i64 b) ∧ w'.cell? ⟨w.heap.size, 2, none⟩ = some (.int .i64 c))
      (go_keep)
      (first
        | (go_at_call 14; (with_reducible refine (implRatioOf_any _ _ _ (by assumption) (by assumption)).mono ?_); rintro e w9 ⟨rfl, hx9⟩; replace hcur := Ext.trans (by first | exact hcur | exact hcur.drew | exact hcur.alloc _ | exact (hcur.alloc _).drew) hx9; have c9bR := fun o => (bR.ext hcur).cell o; have t9 := Tab.ext HT hcur)
        | (go_at_call 72; (with_reducible refine (implFormatRatio_any _ _ _ (by assumption) (by assumption) (by first | exact HT.drew | exact t9 | exact HT)).mono ?_); rintro e w9 ⟨rfl, hx9⟩; replace hcur := Ext.trans (by first | exact hcur | exact hcur.drew | exact hcur.alloc _ | exact (hcur.alloc _).drew) hx9; have c9bR := fun o => (bR.ext hcur).cell o; have t9 := Tab.ext HT hcur; (first | rw [Ha.out] | rw [Hb.out])))
    go_wp2
    go_ret
    exact ⟨rfl, hx.trans hcur⟩
  · have h1' : spotOk ⟨a, b, c⟩ = false := by simpa using h1
    have H : Hid (spotT ⟨a, b, c⟩ = []) := by unfold Hid spotT; rw [if_neg h1]
    rw [h1']
    clear h1 h1'
    go_wp2
    go_ret
    exact ⟨ret_txt (by rw [H.out]; rfl), hx⟩


end Go.Proofs.YtjghabbcjpfjeaaGreatDoor
