/- IsDigits and ParseInt of the reference, read off their walks. -/
import Derived.Test.YtlgkfjhbimffiaaGreatDoorPi
import Derived.Test.YtlgkfjhbimffiaaGreatDoorFm
import Derived.Test.YtlgkfjhbimffiaaGreatDoorHz
namespace Go.Proofs.YtlgkfjhbimffiaaGreatDoor
open Go.ChangeShapes Go.WideShapes Go.ChangeAt Go.RowKit
set_option linter.unusedVariables false
set_option maxRecDepth 100000

theorem byte_at (s : ByteArray) (k : Nat) (h : k < s.size) : s[k]'h = s.data.toList[k]'(by simpa using h) := rfl
theorem all_take_full (f : UInt8 → Bool) (l : List UInt8) (k : Nat) (h : l.length ≤ k) : (l.take k).all f = l.all f := by rw [List.take_of_length_le h]
theorem all_no {f : UInt8 → Bool} {l : List UInt8} {k : Nat} (h : k < l.length) (hf : f l[k] = false) : l.all f = false := by
  rw [List.all_eq_false]
  exact ⟨_, List.getElem_mem h, by rw [hf]; simp⟩

def digitsOk (l : List UInt8) : Bool := l.all isDig && !l.isEmpty

set_option maxHeartbeats 4000000 in
theorem specIsDigits_any (s : ByteArray) (hs : s.size ≤ 1048576) (w : World) :
    Calls Tryz.prog 101 #[.string s] w fun e w' => e = .returned (.bool (digitsOk s.data.toList)) ∧ Ext w w' := by
  obtain ⟨n, hn⟩ : ∃ n, s.size = n := ⟨_, rfl⟩
  have HN : Hid (s.data.toList.length = n) := by rw [← hn]; simp [Hid]
  have HZ := Lib.hid hn
  go_enter Tryz.func101, Tryz.ntmps101
  go_wp2
  go_loopw [3] (fun i wr => ∃ (k : Nat), k ≤ n ∧ i = .int .i64 k ∧ Ext w wr ∧ (s.data.toList.take k).all isDig = true) (fun i _ => n - (intOf i).toNat)
  case atStart => exact ⟨0, Nat.zero_le _, rfl, Ext.refl _, rfl⟩
  case round =>
  obtain ⟨k, hk, rfl, hx, hall⟩ := hrel
  have Hall := Lib.hid hall
  clear hall
  by_cases hlt : k < n
  rotate_left
  · obtain rfl : k = n := by omega
    have hf : s.data.toList.all isDig = true := by have := Hall.out; rwa [List.take_of_length_le (by rw [HN.out]; omega)] at this
    have hz : s.data.toList.isEmpty = decide (k = 0) := by have := HN.out; cases hl : s.data.toList <;> rw [hl] at this <;> simp at this ⊢ <;> omega
    have hd : digitsOk s.data.toList = decide (0 < k) := by unfold digitsOk; rw [hf, hz]; by_cases h0 : k = 0 <;> simp [h0]; omega
    go_wp2
    go_ret
    exact ⟨by rw [hd]; simp, hx⟩
  have hlt2 : (k : Int) < (n : Int) := by omega
  have hks : k < s.size := by omega
  have hkl : k < s.data.toList.length := by rw [HN.out]; exact hlt
  obtain ⟨c, hc⟩ : ∃ c, s[k]'hks = c := ⟨_, rfl⟩
  have HC : Hid (s.data.toList[k]'hkl = c) := hc
  by_cases h1 : c.toNat < 48
  · have h1' : (c.toNat : Int) < 48 := by omega
    have hb : isDig c = false := by simp [isDig]; omega
    have hd : digitsOk s.data.toList = false := by unfold digitsOk; rw [all_no hkl (by rw [HC.out]; exact hb)]; rfl
    clear hb
    go_wp2
    go_ret
    exact ⟨by first | rfl | (rw [hd]; rfl), hx⟩
  have h1' : ¬ (c.toNat : Int) < 48 := by omega
  by_cases h2 : 57 < c.toNat
  · have h2' : (57 : Int) < (c.toNat : Int) := by omega
    have hb : isDig c = false := by simp [isDig]; omega
    have hd : digitsOk s.data.toList = false := by unfold digitsOk; rw [all_no hkl (by rw [HC.out]; exact hb)]; rfl
    clear hb
    go_wp2
    go_ret
    exact ⟨by first | rfl | (rw [hd]; rfl), hx⟩
  have h2' : ¬ (57 : Int) < (c.toNat : Int) := by omega
  have Hg : Hid ((s.data.toList.take (k + 1)).all isDig = true) := by
    have hb : isDig c = true := by simp [isDig]; omega
    have ha := Hall.out
    rw [List.all_eq_true] at ha
    rw [Hid, List.all_eq_true]
    intro x hx
    rw [List.mem_take_iff_getElem] at hx
    obtain ⟨i, hi, rfl⟩ := hx
    by_cases h : i = k
    · subst h
      rw [HC.out]; exact hb
    · exact ha _ (List.mem_take_iff_getElem.2 ⟨i, by omega, rfl⟩)
  go_wp2
  go_roundw
  case rel => exact ⟨k + 1, by omega, by go_num, hx, Hg.out⟩
  case measure => simp [intOf]; omega

def pV (l : List UInt8) : Int := (pI l).getD 0
def pB (l : List UInt8) : Bool := (pI l).isSome
theorem valN_take_succ (l : List UInt8) (k : Nat) (h : k < l.length) : valN (l.take (k + 1)) = valN (l.take k) * 10 + (l[k].toNat - 48) := by
  unfold valN
  rw [List.take_add_one, List.foldl_append, List.getElem?_eq_getElem h]
  rfl
theorem valN_take_le (l : List UInt8) (k : Nat) : valN (l.take k) ≤ valN l := by
  have h : valN l = (l.drop k).foldl digN (valN (l.take k)) := by
    unfold valN
    rw [← List.foldl_append, List.take_append_drop]
  rw [h]
  exact digN_mono _ _
theorem pI_bad {l : List UInt8} (h : digitsOk (magOf l) = false) : pI l = none := by
  cases hp : pI l with
  | none => rfl
  | some n =>
    obtain ⟨h1, h2, _⟩ := pI_shape hp
    rw [digitsOk, h1] at h
    simp [h2] at h
theorem pI_long {l : List UInt8} (h : 19 < (magOf l).length) : pI l = none := by
  cases hp : pI l with
  | none => rfl
  | some n => have := (pI_shape hp).2.2.1; omega
theorem pI_great {l : List UInt8} (h : 9223372036854775808 < valN (magOf l)) : pI l = none := by
  cases hp : pI l with
  | none => rfl
  | some n => have := (pI_shape hp).2.2.2.1; omega
theorem pI_great_pos {l : List UInt8} (hn : l.head? ≠ some 45) (h : 9223372036854775808 ≤ valN (magOf l)) : pI l = none := by
  cases hp : pI l with
  | none => rfl
  | some n =>
    have h1 := (pI_shape hp).2.2.2.2
    rw [if_neg hn] at h1
    have := (pI_some hp).2.2
    omega
theorem pI_end {l : List UInt8} {n : Int} (hn : n = if l.head? = some 45 then -(valN (magOf l) : Int) else (valN (magOf l) : Int)) (h0 : -9223372036854775808 ≤ n) (h1 : n ≤ 9223372036854775807) :
    pI l = if numT n = l then some n else none := by
  split
  · rename_i h
    rw [← h]; exact pI_num n h0 h1
  · rename_i h
    cases hp : pI l with
    | none => rfl
    | some m =>
      exfalso
      have h2 := (pI_shape hp).2.2.2.2
      rw [← hn] at h2
      subst h2
      exact h (pI_some hp).1
theorem txt_same (a : List UInt8) (s : ByteArray) : ((txt a).toList == s.toList) = decide (a = s.data.toList) := by
  rw [ByteArray.toList_eq, ByteArray.toList_eq, txt_list]
  by_cases h : a = s.data.toList <;> simp [h]

set_option maxHeartbeats 4000000 in
theorem specParseInt_any (s : ByteArray) (hs : s.size ≤ 1048576) (w : World) :
    Calls Tryz.prog 80 #[.string s] w fun e w' => e = .returned (.tuple #[.int .i64 (pV s.data.toList), .bool (pB s.data.toList)]) ∧ Ext w w' := by
  obtain ⟨L, hL⟩ : ∃ L, s.data.toList = L := ⟨_, rfl⟩
  obtain ⟨M, hM⟩ : ∃ M, magOf L = M := ⟨_, rfl⟩
  have HL := Lib.hid hL
  have HM := Lib.hid hM
  obtain ⟨n, hn⟩ : ∃ n, s.size = n := ⟨_, rfl⟩
  have HN : Hid (L.length = n) := by rw [← hn, ← hL]; simp [Hid]
  rw [hL]
  clear hL hM
  have HB : Hid (∀ h : pI L = none, pV L = 0 ∧ pB L = false) := fun h => by simp [pV, pB, h]
  have HG : Hid (∀ n : Int, ∀ h : pI L = some n, pV L = n ∧ pB L = true) := fun n h => by simp [pV, pB, h]
  obtain ⟨pv, hpv⟩ : ∃ x, pV L = x := ⟨_, rfl⟩
  obtain ⟨pb, hpb⟩ : ∃ x, pB L = x := ⟨_, rfl⟩
  rw [hpv] at HB HG ⊢
  rw [hpb] at HB HG ⊢
  clear hpv hpb
  go_enter Tryz.func80, Tryz.ntmps80
  by_cases hneg : L.head? = some 45
  · have hL0 : 0 < L.length := by cases L with
      | nil => cases hneg
      | cons a r => simp
    have hn0 : (0 : Int) < (n : Int) := by have := HN.out; omega
    have hn1 : 0 < s.size := by have := HN.out; omega
    have hn2 : (1 : Int) ≤ (n : Int) := by omega
    have hc0 : s[0]'hn1 = 45 := by
      have h1 : s.data.toList[0]'(by rw [HL.out]; exact hL0) = 45 := by
        have h2 : s.data.toList.head? = some 45 := by rw [HL.out]; exact hneg
        rw [List.head?_eq_getElem?, List.getElem?_eq_getElem (by rw [HL.out]; exact hL0)] at h2
        exact Option.some.inj h2
      exact h1
    have HM' : Hid (M = L.tail) := by rw [Hid, ← HM.out]; unfold magOf; rw [if_pos hneg]
    obtain ⟨t, ht⟩ : ∃ t, s.extract 1 n = t := ⟨_, rfl⟩
    have Ht : Hid (t.data.toList = M) := by
      rw [Hid, HM'.out, ← ht, ← HL.out, ← List.drop_one]
      have h1 := HN.out
      rw [← HL.out] at h1
      rw [← h1]
      simp only [ByteArray.data_extract, Array.toList_extract, List.extract_eq_take_drop, List.drop_one]
      rw [List.take_of_length_le (by simp)]
    obtain ⟨m, hm⟩ : ∃ m, t.size = m := ⟨_, rfl⟩
    have Hm : Hid (M.length = m) := by rw [← hm, ← Ht.out]; simp [Hid]
    have hmn : m ≤ 1048576 := by have h1 := Hm.out; rw [HM'.out, List.length_tail, HN.out] at h1; omega
    go_wp2_with fail
    refine (specIsDigits_any _ (by omega) _).mono ?_
    rintro e w1 ⟨rfl, hx1⟩
    rw [Ht.out]
    by_cases hd : digitsOk M = true
    rotate_left
    · have hd' : digitsOk M = false := by simpa using hd
      obtain ⟨q1, q2⟩ := HB.out (pI_bad (by rw [HM.out]; exact hd'))
      rw [hd']
      clear hd hd'
      go_wp2
      go_ret2
      exact ⟨by rw [q1, q2]; rfl, hx1⟩
    rw [hd]
    have Hd := Lib.hid hd
    clear hd
    by_cases hz : m ≤ 19
    rotate_left
    · obtain ⟨q1, q2⟩ := HB.out (pI_long (by rw [HM.out, Hm.out]; omega))
      have hz' : (19 : Int) < (m : Int) := by omega
      go_wp2
      go_ret2
      exact ⟨by rw [q1, q2]; rfl, hx1⟩
    have hz' : ¬ (19 : Int) < (m : Int) := by omega
    go_wp2
    go_loopw [6, 7] (fun a i wr => ∃ (k : Nat) (z : Int), k ≤ m ∧ i = .int .i64 k ∧ a = .int .i64 z ∧ -9223372036854775808 ≤ z ∧ z ≤ 0 ∧ z = -(valN (M.take k) : Int) ∧ Ext w1 wr) (fun _ i _ => m - (intOf i).toNat)
    case atStart => exact ⟨0, 0, Nat.zero_le _, rfl, rfl, by omega, by omega, rfl, Ext.refl _⟩
    case round =>
    obtain ⟨k, z, hk, rfl, rfl, hz1, hz2, hzv, hx⟩ := hrel
    have Hz := Lib.hid hzv
    clear hzv
    by_cases hlt : k < m
    · have hlt2 : (k : Int) < (m : Int) := by omega
      have hkt : k < t.size := by omega
      have hkl : k < M.length := by rw [Hm.out]; exact hlt
      obtain ⟨c, hc⟩ : ∃ c, t[k]'hkt = c := ⟨_, rfl⟩
      have HC : Hid (M[k]'hkl = c) := by have h1 : t.data.toList[k]'(by rw [Ht.out]; exact hkl) = c := hc; unfold Hid; rw [← h1]; congr 1; exact Ht.out.symm
      have hcd : 48 ≤ c.toNat ∧ c.toNat ≤ 57 := by
        have h1 := Hd.out
        unfold digitsOk at h1
        rw [Bool.and_eq_true, List.all_eq_true] at h1
        have h2 := h1.1 _ (List.getElem_mem hkl)
        rw [HC.out] at h2
        simpa [isDig] using h2
      have Hs : Hid (valN (M.take (k + 1)) = valN (M.take k) * 10 + (c.toNat - 48)) := by rw [Hid, valN_take_succ _ _ hkl, HC.out]
      have Hle := Lib.hid (valN_take_le M (k + 1))
      obtain ⟨b, hb⟩ : ∃ b : Int, (c.toNat : Int) = b := ⟨_, rfl⟩
      have Hb := Lib.hid hb
      have hb1 : 48 ≤ b ∧ b ≤ 57 := by omega
      obtain ⟨d, hd⟩ : ∃ d : Int, b - 48 = d := ⟨_, rfl⟩
      have Hdd := Lib.hid hd
      have hd1 : 0 ≤ d ∧ d ≤ 9 := by omega
      have v1 : IntKind.i64.wrap (b - 48) = d := by rw [hd]; exact IntWalk.i64_in _ (by omega)
      have v0 : IntKind.i64.wrap b = b := IntWalk.i64_in _ (by omega)
      obtain ⟨e, he⟩ : ∃ e : Int, -9223372036854775808 + d = e := ⟨_, rfl⟩
      have v2 : IntKind.i64.wrap (-9223372036854775808 + d) = e := by rw [he]; exact IntWalk.i64_in _ (by omega)
      obtain ⟨q, hq⟩ : ∃ q : Int, e.tdiv 10 = q := ⟨_, rfl⟩
      have Hq : Hid (q = -((9223372036854775808 - d) / 10)) := by
        unfold Hid
        rw [← hq, ← he, show -9223372036854775808 + d = -(9223372036854775808 - d) from by omega, Int.neg_tdiv, Int.tdiv_eq_ediv_of_nonneg (by omega)]
      have hq1 : -922337203685477580 ≤ q ∧ q ≤ -922337203685477579 := by have := Hq.out; omega
      have v3 : IntKind.i64.wrap q = q := IntWalk.i64_in _ (by omega)
      have v3' : IntKind.i64.wrap (e.tdiv 10) = q := by rw [hq]; exact v3
      clear hd he
      by_cases hov : z < q
      · obtain ⟨q1, q2⟩ := HB.out (pI_great (by rw [HM.out]; have := Hz.out; have := Hq.out; have := Hs.out; have := Hle.out; have := Hb.out; have := Hdd.out; omega))
        go_wp2
        go_ret2
        exact ⟨by rw [q1, q2]; rfl, hx1.trans hx⟩
      have h10 : -9223372036854775808 ≤ z * 10 - d := by have := Hq.out; omega
      obtain ⟨p, hp⟩ : ∃ p : Int, z * 10 = p := ⟨_, rfl⟩
      have v4 : IntKind.i64.wrap (z * 10) = p := by rw [hp]; exact IntWalk.i64_in _ (by omega)
      obtain ⟨r, hr⟩ : ∃ r : Int, p - d = r := ⟨_, rfl⟩
      have v5 : IntKind.i64.wrap (p - d) = r := by rw [hr]; exact IntWalk.i64_in _ (by omega)
      have Hr : Hid (-9223372036854775808 ≤ r ∧ r ≤ 0 ∧ r = -(valN (M.take (k + 1)) : Int)) := by
        have := Hz.out; have := Hs.out; have := Hdd.out; have := Hb.out
        refine ⟨by omega, by omega, by omega⟩
      clear hp hr
      go_wp2
      go_roundw
      case rel => exact ⟨k + 1, r, by omega, by go_num, rfl, Hr.out.1, Hr.out.2.1, Hr.out.2.2, hx⟩
      case measure => simp [intOf]; omega
    obtain rfl : k = m := by omega
    have Hz3 : Hid (z = -(valN M : Int)) := by have := Hz.out; rw [List.take_of_length_le (by rw [Hm.out]; omega)] at this; exact this

    have hE : pI L = if numT z = L then some z else none := pI_end (by rw [if_pos hneg, HM.out]; exact Hz3.out) (by omega) (by omega)
    have HE := Lib.hid hE
    clear hE
    go_wp2_with fail
    refine (specFormatInt_any _ _ (by unfold I64; omega)).mono ?_
    rintro e w2 ⟨rfl, hx2⟩
    by_cases hc : numT z = L
    · have hcm : ((txt (numT z)).toList == s.toList) = true := by rw [txt_same, HL.out, decide_eq_true_eq]; exact hc
      obtain ⟨q1, q2⟩ := HG.out z (by rw [HE.out, if_pos hc])
      clear hc
      go_wp2
      go_ret2
      exact ⟨by rw [q1, q2]; rfl, (hx1.trans hx).trans hx2⟩
    · have hcm : ((txt (numT z)).toList == s.toList) = false := by rw [txt_same, HL.out, decide_eq_false_iff_not]; exact hc
      obtain ⟨q1, q2⟩ := HB.out (by rw [HE.out, if_neg hc])
      clear hc
      go_wp2
      go_ret2
      exact ⟨by rw [q1, q2]; rfl, (hx1.trans hx).trans hx2⟩
  · by_cases hn00 : n = 0
    · have HB0 := HB.out (pI_bad (by rw [HM.out]; have h1 := HN.out; have : L = [] := List.length_eq_zero_iff.1 (by omega); subst this; rw [← HM.out]; rfl))
      obtain ⟨q1, q2⟩ := HB0
      have Hz0 : Hid (digitsOk L = false) := by have h1 := HN.out; have : L = [] := List.length_eq_zero_iff.1 (by omega); subst this; rfl
      subst hn00
      go_wp2_with fail
      refine (specIsDigits_any _ (by omega) _).mono ?_
      rintro e w1 ⟨rfl, hx1⟩
      rw [HL.out, Hz0.out]
      go_wp2
      go_ret2
      exact ⟨by rw [q1, q2]; rfl, hx1⟩
    have hL0 : 0 < L.length := by have := HN.out; omega
    have hn0 : (0 : Int) < (n : Int) := by omega
    have hn1 : 0 < s.size := by have := HN.out; omega
    obtain ⟨c0, hc0⟩ : ∃ c, s[0]'hn1 = c := ⟨_, rfl⟩
    have h45 : ¬ c0 = 45 := by
      intro h
      apply hneg
      have h1 : s.data.toList[0]'(by rw [HL.out]; exact hL0) = c0 := hc0
      rw [List.head?_eq_getElem?, List.getElem?_eq_getElem hL0]
      rw [h] at h1
      rw [← h1]
      congr 1
      congr 1
      exact HL.out.symm
    have h45' : ¬ (c0.toNat : Int) = 45 := by
      intro h
      exact h45 (UInt8.toNat_inj.1 (by have : (45 : UInt8).toNat = 45 := rfl; omega))
    have HM' : Hid (M = L) := by rw [Hid, ← HM.out]; unfold magOf; rw [if_neg hneg]
    have Ht : Hid (s.data.toList = M) := by rw [Hid, HM'.out]; exact HL.out
    obtain ⟨m, hm⟩ : ∃ m, n = m := ⟨_, rfl⟩
    subst hm
    have Hm : Hid (M.length = n) := by rw [Hid, HM'.out]; exact HN.out
    go_wp2_with fail
    refine (specIsDigits_any _ (by omega) _).mono ?_
    rintro e w1 ⟨rfl, hx1⟩
    rw [Ht.out]
    by_cases hd : digitsOk M = true
    rotate_left
    · have hd' : digitsOk M = false := by simpa using hd
      obtain ⟨q1, q2⟩ := HB.out (pI_bad (by rw [HM.out]; exact hd'))
      rw [hd']
      clear hd hd'
      go_wp2
      go_ret2
      exact ⟨by rw [q1, q2]; rfl, hx1⟩
    rw [hd]
    have Hd := Lib.hid hd
    clear hd
    by_cases hz : n ≤ 19
    rotate_left
    · obtain ⟨q1, q2⟩ := HB.out (pI_long (by rw [HM.out, Hm.out]; omega))
      have hz' : (19 : Int) < (n : Int) := by omega
      go_wp2
      go_ret2
      exact ⟨by rw [q1, q2]; rfl, hx1⟩
    have hz' : ¬ (19 : Int) < (n : Int) := by omega
    go_wp2
    go_loopw [6, 7] (fun a i wr => ∃ (k : Nat) (z : Int), k ≤ n ∧ i = .int .i64 k ∧ a = .int .i64 z ∧ -9223372036854775808 ≤ z ∧ z ≤ 0 ∧ z = -(valN (M.take k) : Int) ∧ Ext w1 wr) (fun _ i _ => n - (intOf i).toNat)
    case atStart => exact ⟨0, 0, Nat.zero_le _, rfl, rfl, by omega, by omega, rfl, Ext.refl _⟩
    case round =>
    obtain ⟨k, z, hk, rfl, rfl, hz1, hz2, hzv, hx⟩ := hrel
    have Hz := Lib.hid hzv
    clear hzv
    by_cases hlt : k < n
    · have hlt2 : (k : Int) < (n : Int) := by omega
      have hkt : k < s.size := by omega
      have hkl : k < M.length := by rw [Hm.out]; exact hlt
      obtain ⟨c, hc⟩ : ∃ c, s[k]'hkt = c := ⟨_, rfl⟩
      have HC : Hid (M[k]'hkl = c) := by have h1 : s.data.toList[k]'(by rw [Ht.out]; exact hkl) = c := hc; unfold Hid; rw [← h1]; congr 1; exact Ht.out.symm
      have hcd : 48 ≤ c.toNat ∧ c.toNat ≤ 57 := by
        have h1 := Hd.out
        unfold digitsOk at h1
        rw [Bool.and_eq_true, List.all_eq_true] at h1
        have h2 := h1.1 _ (List.getElem_mem hkl)
        rw [HC.out] at h2
        simpa [isDig] using h2
      have Hs : Hid (valN (M.take (k + 1)) = valN (M.take k) * 10 + (c.toNat - 48)) := by rw [Hid, valN_take_succ _ _ hkl, HC.out]
      have Hle := Lib.hid (valN_take_le M (k + 1))
      obtain ⟨b, hb⟩ : ∃ b : Int, (c.toNat : Int) = b := ⟨_, rfl⟩
      have Hb := Lib.hid hb
      have hb1 : 48 ≤ b ∧ b ≤ 57 := by omega
      obtain ⟨d, hd⟩ : ∃ d : Int, b - 48 = d := ⟨_, rfl⟩
      have Hdd := Lib.hid hd
      have hd1 : 0 ≤ d ∧ d ≤ 9 := by omega
      have v1 : IntKind.i64.wrap (b - 48) = d := by rw [hd]; exact IntWalk.i64_in _ (by omega)
      have v0 : IntKind.i64.wrap b = b := IntWalk.i64_in _ (by omega)
      obtain ⟨e, he⟩ : ∃ e : Int, -9223372036854775808 + d = e := ⟨_, rfl⟩
      have v2 : IntKind.i64.wrap (-9223372036854775808 + d) = e := by rw [he]; exact IntWalk.i64_in _ (by omega)
      obtain ⟨q, hq⟩ : ∃ q : Int, e.tdiv 10 = q := ⟨_, rfl⟩
      have Hq : Hid (q = -((9223372036854775808 - d) / 10)) := by
        unfold Hid
        rw [← hq, ← he, show -9223372036854775808 + d = -(9223372036854775808 - d) from by omega, Int.neg_tdiv, Int.tdiv_eq_ediv_of_nonneg (by omega)]
      have hq1 : -922337203685477580 ≤ q ∧ q ≤ -922337203685477579 := by have := Hq.out; omega
      have v3 : IntKind.i64.wrap q = q := IntWalk.i64_in _ (by omega)
      have v3' : IntKind.i64.wrap (e.tdiv 10) = q := by rw [hq]; exact v3
      clear hd he
      by_cases hov : z < q
      · obtain ⟨q1, q2⟩ := HB.out (pI_great (by rw [HM.out]; have := Hz.out; have := Hq.out; have := Hs.out; have := Hle.out; have := Hb.out; have := Hdd.out; omega))
        go_wp2
        go_ret2
        exact ⟨by rw [q1, q2]; rfl, hx1.trans hx⟩
      have h10 : -9223372036854775808 ≤ z * 10 - d := by have := Hq.out; omega
      obtain ⟨p, hp⟩ : ∃ p : Int, z * 10 = p := ⟨_, rfl⟩
      have v4 : IntKind.i64.wrap (z * 10) = p := by rw [hp]; exact IntWalk.i64_in _ (by omega)
      obtain ⟨r, hr⟩ : ∃ r : Int, p - d = r := ⟨_, rfl⟩
      have v5 : IntKind.i64.wrap (p - d) = r := by rw [hr]; exact IntWalk.i64_in _ (by omega)
      have Hr : Hid (-9223372036854775808 ≤ r ∧ r ≤ 0 ∧ r = -(valN (M.take (k + 1)) : Int)) := by
        have := Hz.out; have := Hs.out; have := Hdd.out; have := Hb.out
        refine ⟨by omega, by omega, by omega⟩
      clear hp hr
      go_wp2
      go_roundw
      case rel => exact ⟨k + 1, r, by omega, by go_num, rfl, Hr.out.1, Hr.out.2.1, Hr.out.2.2, hx⟩
      case measure => simp [intOf]; omega
    obtain rfl : k = n := by omega
    have Hz3 : Hid (z = -(valN M : Int)) := by have := Hz.out; rw [List.take_of_length_le (by rw [Hm.out]; omega)] at this; exact this
    by_cases h63 : z = -9223372036854775808
    · obtain ⟨q1, q2⟩ := HB.out (pI_great_pos hneg (by rw [HM.out]; have := Hz3.out; omega))
      subst h63
      go_wp2
      go_ret2
      exact ⟨by rw [q1, q2]; rfl, hx1.trans hx⟩
    obtain ⟨y, hy⟩ : ∃ y : Int, -z = y := ⟨_, rfl⟩
    have Hy := Lib.hid hy
    have v6 : IntKind.i64.wrap (-z) = y := by rw [hy]; exact IntWalk.i64_in _ (by omega)
    have hy1 : 0 ≤ y ∧ y ≤ 9223372036854775807 := by omega
    clear hy
    have hE : pI L = if numT y = L then some y else none := pI_end (by rw [if_neg hneg, HM.out]; have := Hz3.out; have := Hy.out; omega) (by omega) (by omega)
    have HE := Lib.hid hE
    clear hE
    go_wp2_with fail
    refine (specFormatInt_any _ _ (by unfold I64; omega)).mono ?_
    rintro e w2 ⟨rfl, hx2⟩
    by_cases hc : numT y = L
    · have hcm : ((txt (numT y)).toList == s.toList) = true := by rw [txt_same, HL.out, decide_eq_true_eq]; exact hc
      obtain ⟨q1, q2⟩ := HG.out y (by rw [HE.out, if_pos hc])
      clear hc
      go_wp2
      go_ret2
      exact ⟨by rw [q1, q2]; rfl, (hx1.trans hx).trans hx2⟩
    · have hcm : ((txt (numT y)).toList == s.toList) = false := by rw [txt_same, HL.out, decide_eq_false_iff_not]; exact hc
      obtain ⟨q1, q2⟩ := HB.out (by rw [HE.out, if_neg hc])
      clear hc
      go_wp2
      go_ret2
      exact ⟨by rw [q1, q2]; rfl, (hx1.trans hx).trans hx2⟩
end Go.Proofs.YtlgkfjhbimffiaaGreatDoor
