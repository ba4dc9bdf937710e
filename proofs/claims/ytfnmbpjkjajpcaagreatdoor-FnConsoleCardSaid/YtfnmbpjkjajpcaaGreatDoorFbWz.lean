/- Contract of run of the program's console, out of those of change and answer. -/
import Derived.Test.YtfnmbpjkjajpcaaGreatDoorFbVz
import Derived.Test.YtfnmbpjkjajpcaaGreatDoorFbKz
import Derived.Test.YtfnmbpjkjajpcaaGreatDoorFbUz
import Derived.Test.YtfnmbpjkjajpcaaGreatDoorFbXz
import Derived.Deep.CutRange
import Derived.Deep.AppendLies
namespace Go.Proofs.YtfnmbpjkjajpcaaGreatDoor
open Go.ChangeShapes Go.WideShapes Go.ChangeAt Go.RowKit
set_option linter.unusedVariables false
set_option maxRecDepth 100000
def Changed (B : Nat) (c : Console) (x : Option (Console × List UInt8)) (lo : Nat) (w : World) (e : Ending) (w' : World) : Prop :=
  match x with
  | some y => e = .returned (.tuple #[.string (txt y.2), .bool true]) ∧ ConAt w' B y.1 lo ∧ Touch B (B + 1) w w'
  | none => e = .returned (.tuple #[.string (txt []), .bool false]) ∧ Ext w w'
def ChangeOk : Prop := ∀ (B lo : Nat) (c : Console) (wd : List UInt8) (A : Option Addr) (m cn : Nat) (ns : List Int) (w : World), ConAt w B c lo → ConOk c → (32 : UInt8) ∉ wd → ns.length = m → m ≤ 1048577 → m ≤ cn → Row w A (ints ns) → (∀ z ∈ ns, I64 z) → Tab w →
  Calls Tryz.prog 62 #[.pointer (some ⟨B, 0, none⟩), .string (txt (formT wd m)), .slice A m cn] w (Changed B c (changeR c wd ns) lo w)
def AnswerOk : Prop := ∀ (B lo : Nat) (c : Console) (wd : List UInt8) (A : Option Addr) (m cn : Nat) (ns : List Int) (w : World), ConAt w B c lo → ConOk c → (32 : UInt8) ∉ wd → ns.length = m → m ≤ 1048577 → m ≤ cn → Row w A (ints ns) → (∀ z ∈ ns, I64 z) → Tab w → 0 < lo →
  Calls Tryz.prog 63 #[.pointer (some ⟨B, 0, none⟩), .string (txt (formT wd m)), .slice A m cn] w (Did B (answerR c wd ns) lo w)
theorem lineR_nil (c : Console) : lineR c [] = (c, []) := rfl
theorem lineR_note (c : Console) (t : List UInt8) : lineR c (35 :: t) = (c, []) := by unfold lineR; rw [if_pos (.inr rfl)]
theorem lineR_bad {c : Console} {b : UInt8} {t : List UInt8} {P : List (List UInt8)} (hb : b ≠ 35) (hP : splitC 32 (b :: t) = P) (h : (P.drop 1).all pB = false) : lineR c (b :: t) = (c, unkT) := by
  unfold lineR
  rw [if_neg (by rintro (h | h); cases h; exact hb (Option.some.inj h)), hP, if_neg (by rw [h]; simp)]
theorem lineR_cmd {c : Console} {b : UInt8} {t : List UInt8} {P : List (List UInt8)} (hb : b ≠ 35) (hP : splitC 32 (b :: t) = P) (h : (P.drop 1).all pB = true) : lineR c (b :: t) = cmdR c (P.headD []) ((P.drop 1).map pV) := by
  unfold lineR
  rw [if_neg (by rintro (h | h); cases h; exact hb (Option.some.inj h)), hP, if_pos h]
set_option maxHeartbeats 8000000 in
theorem run_of (HCh : ChangeOk) (HAn : AnswerOk) (B lo : Nat) (c : Console) (s : ByteArray) (w : World) (h : ConAt w B c lo) (hk : ConOk c) (hs : s.size ≤ 1048576) (ht : Tab w) (he : Ers w) (hgl : 0 < lo) :
    Calls Tryz.prog 25 #[.pointer (some ⟨B, 0, none⟩), .string s] w (Did B (lineR c s.data.toList) lo w) := by
  obtain ⟨i0, hi0, hz0, hz1, hz2⟩ := info_parts int_info
  obtain ⟨L, hL⟩ : ∃ L, s.data.toList = L := ⟨_, rfl⟩
  obtain rfl : s = txt L := by rw [← hL]; exact (bytes_txt s).symm
  have hLn : L.length ≤ 1048576 := by rwa [txt_size] at hs
  clear hL
  rw [txt_list]
  clear hs
  have HC := Lib.hid h
  clear h
  rcases L with _ | ⟨b, t⟩
  · have q1 : (txt []).toList = [] := by rw [ByteArray.toList_eq, txt_list]
    have q2 : (txt []).toList.isEmpty = true := by rw [q1]; rfl
    have HE := Lib.hid (lineR_nil c)
    generalize lineR c [] = X at *
    go_enter Tryz.func25, Tryz.ntmps25
    go_wp2
    go_ret
    rw [HE.out]
    exact ⟨rfl, HC.out, Touch.refl _ _ _⟩
  have q1 : ¬ (txt (b :: t)).toList = [] := by rw [ByteArray.toList_eq, txt_list]; simp
  have q2 : (txt (b :: t)).toList.isEmpty = false := by rw [ByteArray.toList_eq, txt_list]; rfl
  have q3 : (txt (b :: t)).size = t.length + 1 := by rw [txt_size]; rfl
  have q5 : 0 < (txt (b :: t)).size := by omega
  have q6 : (txt (b :: t))[0]'q5 = b := rfl
  by_cases hb : b = 35
  · subst hb
    have HE := Lib.hid (lineR_note c t)
    have q7 : (((35 : UInt8).toNat : Int) == 35) = true := rfl
    generalize lineR c (35 :: t) = X at *
    go_enter Tryz.func25, Tryz.ntmps25
    go_wp2
    go_ret
    rw [HE.out]
    exact ⟨rfl, HC.out, Touch.refl _ _ _⟩
  have q7 : ((b.toNat : Int) == 35) = false := by
    rw [beq_eq_false_iff_ne]
    intro e
    apply hb
    have : b.toNat = 35 := by omega
    exact UInt8.toNat_inj.1 this
  have q8 : ¬ (b.toNat : Int) = 35 := by rwa [beq_eq_false_iff_ne] at q7
  obtain ⟨P, hP⟩ : ∃ P, splitC 32 (b :: t) = P := ⟨_, rfl⟩
  have HBad := Lib.hid (fun h => lineR_bad (c := c) hb hP h)
  have HCmd := Lib.hid (fun h => lineR_cmd (c := c) hb hP h)
  have HSp := Lib.hid (fun w => implSplitAny_any 32 (txt (b :: t)) (by rw [txt_size]; exact hLn) w)
  have hPn : P.length ≤ 1048577 := by have := splitC_len 32 (b :: t); rw [hP] at this; omega
  have hP0 : P ≠ [] := by rw [← hP]; exact split_ne _ _
  have HS : Hid (∀ k (h : k < P.length), P[k].length ≤ 1048576) := fun k h => Nat.le_trans (splitC_small 32 (b :: t) _ (by rw [hP]; exact List.getElem_mem h)) hLn
  have HW : Hid (∀ x ∈ P, (32 : UInt8) ∉ x) := by rw [← hP]; exact words_free _ _ (Nat.le_refl _)
  rw [txt_list, hP] at HSp
  have HCo := Lib.hid hk
  have HT0 := Lib.hid ht
  have HE0 := Lib.hid he
  clear hP hk ht he hLn hb
  generalize lineR c (b :: t) = X at *
  obtain ⟨n, hn⟩ : ∃ n, P.length = n + 1 := ⟨P.length - 1, by have := List.length_pos_iff.2 hP0; omega⟩
  clear hP0
  go_enter Tryz.func25, Tryz.ntmps25
  go_wp2_with fail
  refine (HSp.out _).mono ?_
  rintro e w1 ⟨A, cc, rfl, th, hx1⟩
  have hrow := th.row
  have hcap := th.cap
  clear th
  rw [hn] at hPn hcap ⊢
  have HN := Lib.hid hn
  clear hn
  obtain ⟨gb, ob, rfl, hgb, hw0⟩ := hrow.str (k := 0) (by rw [HN.out]; omega)
  have HR := Lib.hid hrow
  have hs1 := hx1.size
  have HQn : Hid ((P.drop 1).length = n) := by rw [Hid, List.length_drop, HN.out]; rfl
  have HQ : Hid (∀ k (h : k < (P.drop 1).length) V, Ext w1 V → V.cell? ⟨gb, ob + 1 + k, none⟩ = some (.string (txt (P.drop 1)[k])) ∧ (P.drop 1)[k].length ≤ 1048576) := by
    intro k h V hV
    have h' : k + 1 < P.length := by rw [HN.out]; rw [HQn.out] at h; omega
    obtain ⟨g2, o2, e2, _, hc⟩ := (HR.out.ext hV).str (k := k + 1) h'
    cases e2
    have e : (P.drop 1)[k] = P[k + 1] := by rw [List.getElem_drop]; congr 1; omega
    rw [e]
    refine ⟨?_, HS.out _ h'⟩
    rw [show ob + 1 + k = ob + (k + 1) by omega]
    exact hc
  obtain ⟨wd, hwd⟩ : ∃ wd, P[0]'(by rw [HN.out]; omega) = wd := ⟨_, rfl⟩
  rw [hwd] at hw0
  have HHd : Hid (P.headD [] = wd) := by
    rw [Hid, ← hwd]
    cases P with
    | nil => have := HN.out; simp at this
    | cons p ps => rfl
  have HWd : Hid ((32 : UInt8) ∉ wd) := by rw [← hwd]; exact HW.out _ (List.getElem_mem _)
  have HWl : Hid (wd.length ≤ 1048576) := by rw [← hwd]; exact HS.out 0 (by rw [HN.out]; omega)
  clear hwd hrow
  have HW0 : Hid (∀ V, Ext w1 V → V.cell? ⟨gb, ob, none⟩ = some (.string (txt wd))) := fun V hV => hV.cellOf hw0
  rw [HHd.out] at HCmd
  generalize P.drop 1 = Q at *
  have hcap2 : (n : Int) + 1 ≤ (cc : Int) := by omega
  clear hw0 HS HW HR HHd
  go_wp2
  all_goals
    go_loopw [6, 26] (fun v i wr => ∃ (k : Nat), k ≤ n ∧ i = .int .i64 k ∧ Ext w1 wr ∧ wr.ownsRow w1.heap.size 3 1 v k (ints ((Q.take k).map pV)) ∧ (Q.take k).all pB = true) (fun _ i _ => n - (intOf i).toNat)
    case atStart => exact ⟨0, Nat.zero_le _, rfl, Ext.refl _, World.ownsRow_nil _ _ _ _, rfl⟩
    case round =>
    obtain ⟨k, hk, rfl, hx, hown, hall⟩ := hrel
    have Hall := Lib.hid hall
    clear hall
    have hsz := hx.size
    by_cases hlt : k < n
    rotate_left
    · obtain rfl : k = n := by omega
      have hf : Q.all pB = true := by have := Hall.out; rwa [List.take_of_length_le (by rw [HQn.out]; omega)] at this
      have HX := Lib.hid (HCmd.out hf)
      rw [List.take_of_length_le (by rw [HQn.out]; omega)] at hown
      obtain ⟨A', c', rfl⟩ := own_form hown
      have m0 := Mine.of_own hown
      have hln : (Q.map pV).length = k := by rw [List.length_map, HQn.out]
      have hI : ∀ z ∈ Q.map pV, I64 z := by
        intro z hz
        obtain ⟨l, _, rfl⟩ := List.mem_map.1 hz
        exact pV_bd l
      generalize Q.map pV = ns at *
      have HM := Lib.hid m0
      have HLn := Lib.hid hln
      have HI := Lib.hid hI
      have cW := HW0.out _ hx
      obtain ⟨ta, hta⟩ : ∃ ta, txt wd = ta := ⟨_, rfl⟩
      obtain ⟨tn, htn⟩ : ∃ tn, txt (numT (k : Int)) = tn := ⟨_, rfl⟩
      obtain ⟨t1, ht1⟩ : ∃ t1, ta ++ (⟨#[32]⟩ : ByteArray) = t1 := ⟨_, rfl⟩
      have ht2 : t1 ++ tn = txt (formT wd k) := by
        rw [← ht1, ← hta, ← htn]
        unfold formT
        apply ByteArray.ext
        simp [txt]
      have z1 : ta.size ≤ 1048576 := by rw [← hta, txt_size]; exact HWl.out
      have z2 : tn.size ≤ 64 := by rw [← htn]; exact sz1 (by unfold I64; omega)
      have z3 : t1.size = ta.size + 1 := by rw [← ht1, ByteArray.size_append]; rfl
      have a1 := add_txt (a := ta) (b := ⟨#[32]⟩) (c := t1) ht1 (by have : (⟨#[32]⟩ : ByteArray).size = 1 := rfl; omega)
      have a2 := add_txt (a := t1) (b := tn) (c := txt (formT wd k)) ht2 (by omega)
      have HF := Lib.hid (fun w ht => implFormatInt_any (k : Int) w (by unfold I64; omega) ht)
      rw [htn] at HF
      rw [hta] at cW
      have HW1 := Lib.hid (fun V hV => HW0.out V hV)
      rw [hta] at HW1
      have HT1 := Lib.hid (HT0.out.ext (hx1.trans hx))
      clear hln hI m0 hf hta htn ht1 ht2 z1 z2 z3 hown
      go_upto_region 13 with fail
      go_cut [11] from 42 to 49 (fun v wx => v = .string (txt (formT wd k)) ∧ Ext wr wx)
      case first =>
        have hcur := Ext.refl wr
        go_region_held3 (fun w' => w'.cell? ⟨gb, ob, none⟩ = some (.string ta))
          (go_keep)
          (first
            | (go_at_call 8; (with_reducible refine (HF.out _ (by exact HT1.out.ext (by first | exact hcur | exact hcur.drew))).mono ?_); rintro e w9 ⟨rfl, hx9⟩; replace hcur := Ext.trans (by first | exact hcur | exact hcur.drew) hx9; have d9 := HW1.out _ (hx.trans hcur)))
        all_goals
          go_wp2_with fail
          go_meet
          case rel => exact ⟨rfl, by first | exact hcur | exact hcur.drew⟩
      case rest =>
      obtain ⟨wA, rfl⟩ : ∃ W, W = wc := ⟨_, rfl⟩
      obtain ⟨rfl, hxC⟩ := hcut
      have hxA := hx1.trans (hx.trans hxC)
      have hrA := HM.out.row.ext hxC
      have hcA := HM.out.cap
      have HCA := Lib.hid (HC.out.ext hxA)
      have HTA := Lib.hid (HT0.out.ext hxA)
      have HAns := Lib.hid (fun V hV => HAn B lo c wd A' k c' ns V (HCA.out.ext hV) HCo.out HWd.out HLn.out (by omega) hcA (hrA.ext hV) HI.out (HTA.out.ext hV) hgl)
      have HChg := Lib.hid (HCh B lo c wd A' k c' ns wA HCA.out HCo.out HWd.out HLn.out (by omega) hcA hrA HI.out HTA.out)
      have HTx := Lib.hid (Touch.of_ext (lo := B) (hi := B + 1) hxA)
      have HXX : Hid (X = (changeR c wd ns).getD (answerR c wd ns)) := HX.out
      clear cW a1 a2 hrA hcA
      obtain ⟨Y, hY⟩ : ∃ Y, changeR c wd ns = Y := ⟨_, rfl⟩
      rw [hY] at HChg HXX
      clear hY HX
      go_wp2_with fail
      refine (HChg.out).mono ?_
      cases Y with
      | some y =>
        rintro e w3 ⟨rfl, hC3, hT3⟩
        go_wp2
        go_ret
        rw [HXX.out]
        exact ⟨rfl, hC3, HTx.out.trans hT3⟩
      | none =>
        rintro e w3 ⟨rfl, hx3⟩
        go_wp2_with fail
        refine (HAns.out _ hx3).mono ?_
        rintro e w4 ⟨rfl, hC4, hT4⟩
        go_wp2
        go_ret
        rw [HXX.out]
        exact ⟨rfl, hC4, (HTx.out.trans (Touch.of_ext hx3)).trans hT4⟩
    first
      | exfalso; omega
      | have hlt2 : (k : Int) < (n : Int) := by omega
        have hkl : k < Q.length := by rw [HQn.out]; exact hlt
        obtain ⟨hc0, hsk⟩ := HQ.out k hkl _ hx
        have Hg : Hid (∀ h : pB Q[k] = true, (Q.take (k + 1)).all pB = true) := fun h => all_take_at hkl Hall.out h
        have Hb : Hid (∀ h : pB Q[k] = false, Q.all pB = false) := fun h => all_not_at hkl h
        have Hm : Hid ((Q.take (k + 1)).map pV = (Q.take k).map pV ++ [pV Q[k]]) := map_take_at hkl
        obtain ⟨t, ht⟩ : ∃ t, Q[k]'hkl = t := ⟨_, rfl⟩
        rw [ht] at hc0 hsk Hg Hb Hm
        clear ht
        have hst : (txt t).size ≤ 1048576 := by rw [txt_size]; exact hsk
        have HT := HT0.out.ext (hx1.trans hx)
        have HE := HE0.out.ext (hx1.trans hx)
        go_wp2_with fail
        refine (implParseInt_any (txt t) hst _ HT HE).mono ?_
        rintro e w2 ⟨rfl, hx2⟩
        rw [txt_list]
        by_cases hp : pB t = true
        rotate_left
        · have hp' : pB t = false := by simpa using hp
          have HX := Lib.hid (HBad.out (Hb.out hp'))
          rw [hp']
          clear hp hp'
          have hxE := (hx1.trans hx).trans hx2
          go_wp2
          go_ret
          rw [HX.out]
          exact ⟨rfl, HC.out.ext hxE, Touch.of_ext hxE⟩
        have Hok := Lib.hid (Hg.out hp)
        rw [hp]
        clear hp
        obtain ⟨z, hz⟩ : ∃ z, pV t = z := ⟨_, rfl⟩
        rw [hz] at Hm ⊢
        clear hz
        have hown2 := own_ext hown hx2
        have hsz2 := hx2.size
        go_wp2_with (at_builtin; go_must (refine wpList_append_own _ rfl _ _ 31 rfl w1.heap.size 3 i0 (.int .i64 0) 1 8 Tryz.underlying31 hi0 hz0 hz1 hz2 rfl (by decide) _ _ _ rfl (hown2.alloc _) ⟨w2.heap.size, 0, none⟩ 1 1 [.int .i64 z] rfl rfl (cell_one_new _ _ _) (by simp [Value.oneCell']) (by unfold maxLen; omega) (by omega) (by simp; omega) ?_); intro v' w4 hown' hgrow _)
        have hx5 : Ext w1 w4 := ((hx.trans hx2).alloc _).grown hgrow (fun g hg => (hown.lt g hg).1)
        go_roundw
        case rel => exact ⟨k + 1, by omega, by go_num, hx5, by rw [Hm.out, ints_append]; exact hown', Hok.out⟩
        case measure => simp [intOf]; omega
end Go.Proofs.YtfnmbpjkjajpcaaGreatDoor
namespace Go.Proofs.YtfnmbpjkjajpcaaGreatDoor
open Go.ChangeShapes Go.WideShapes Go.ChangeAt Go.RowKit
set_option linter.unusedVariables false
set_option maxRecDepth 100000
theorem formAt : (txt (formT wAt 3)).toList = [97, 116, 32, 51] := by rw [ByteArray.toList_eq, txt_list]; decide +kernel
theorem freeAt : (32 : UInt8) ∉ wAt := by decide
theorem formKept : (txt (formT wKept 0)).toList = [107, 101, 112, 116, 32, 48] := by rw [ByteArray.toList_eq, txt_list]; decide +kernel
theorem freeKept : (32 : UInt8) ∉ wKept := by decide
theorem formSpan : (txt (formT wSpan 0)).toList = [115, 112, 97, 110, 32, 48] := by rw [ByteArray.toList_eq, txt_list]; decide +kernel
theorem freeSpan : (32 : UInt8) ∉ wSpan := by decide
theorem formRounds : (txt (formT wRounds 1)).toList = [114, 111, 117, 110, 100, 115, 32, 49] := by rw [ByteArray.toList_eq, txt_list]; decide +kernel
theorem freeRounds : (32 : UInt8) ∉ wRounds := by decide
theorem formLoss : (txt (formT wLoss 1)).toList = [108, 111, 115, 115, 32, 49] := by rw [ByteArray.toList_eq, txt_list]; decide +kernel
theorem freeLoss : (32 : UInt8) ∉ wLoss := by decide
theorem formWatch : (txt (formT wWatch 0)).toList = [119, 97, 116, 99, 104, 32, 48] := by rw [ByteArray.toList_eq, txt_list]; decide +kernel
theorem freeWatch : (32 : UInt8) ∉ wWatch := by decide
theorem formJudge : (txt (formT wJudge 2)).toList = [106, 117, 100, 103, 101, 32, 50] := by rw [ByteArray.toList_eq, txt_list]; decide +kernel
theorem freeJudge : (32 : UInt8) ∉ wJudge := by decide
theorem formLog : (txt (formT wLog 0)).toList = [108, 111, 103, 32, 48] := by rw [ByteArray.toList_eq, txt_list]; decide +kernel
theorem freeLog : (32 : UInt8) ∉ wLog := by decide
theorem formAsk : (txt (formT wAsk 4)).toList = [97, 115, 107, 32, 52] := by rw [ByteArray.toList_eq, txt_list]; decide +kernel
theorem freeAsk : (32 : UInt8) ∉ wAsk := by decide
theorem formAllot : (txt (formT wAllot 1)).toList = [97, 108, 108, 111, 116, 32, 49] := by rw [ByteArray.toList_eq, txt_list]; decide +kernel
theorem freeAllot : (32 : UInt8) ∉ wAllot := by decide
theorem form_no {w v L : List UInt8} {m d : Nat} (hw : (32 : UInt8) ∉ w) (hv : (32 : UInt8) ∉ v) (hm : m ≤ 2000000) (hd : d ≤ 2000000) (e : (txt (formT v d)).toList = L) (h : ¬ (w = v ∧ m = d)) : ¬ (txt (formT w m)).toList = L := by
  intro q
  rw [← e, ByteArray.toList_eq, ByteArray.toList_eq, txt_list, txt_list, form_iff hw hv hm hd] at q
  exact h q
theorem row_one {w : World} {A : Option Addr} {n0 : Int} (h : Row w A (ints [n0])) : ∃ g o, A = some ⟨g, o, none⟩ ∧ g < w.heap.size ∧ w.cell? ⟨g, o, none⟩ = some (.int .i64 n0) := by
  obtain ⟨g, o, e, hg, h0⟩ := h.int (k := 0) (by simp)
  exact ⟨g, o, e, hg, h0⟩
theorem asks_row {w : World} {B lo : Nat} {c : Console} {R W : List Value} {a : Value} {rs ps qs : List (Nat × Nat)} (h : Con w B c lo R W a rs ps qs) : ∃ A k x y, a = .slice A c.Asks.length k ∧ Mine w x y 121 4 (.slice A c.Asks.length k) c.Asks.length (ints (flat Ask.ints c.Asks)) := by
  obtain ⟨A, k, r, x, y, rr, e, rfl, hm, h1, rfl, rfl⟩ := h.asks
  exact ⟨A, k, x, y, (List.cons.inj e).1, hm⟩
def AskOk : Prop := ∀ (B lo : Nat) (c : Console) (A : Option Addr) (cn : Nat) (n0 n1 n2 n3 : Int) (w : World), ConAt w B c lo → ConOk c → Row w A (ints [n0, n1, n2, n3]) → I64 n0 → I64 n1 → I64 n2 → I64 n3 →
  Calls Tryz.prog 127 #[.pointer (some ⟨B, 0, none⟩), .slice A 4 cn] w (Did B (askC c ⟨n0, n2, n1, n3⟩) lo w)
section
variable {w : World} {B lo : Nat} {c : Console} {R W : List Value} {a : Value} {rs ps qs : List (Nat × Nat)}
set_option maxHeartbeats 8000000 in
theorem answerAt (h : Con w B c lo R W a rs ps qs) (hk : ConOk c) (A : Option Addr) (cn : Nat) (n0 n1 n2 : Int) (hr : Row w A (ints [n0, n1, n2])) (i0 : I64 n0) (i1 : I64 n1) (i2 : I64 n2) : Calls Tryz.prog 63 #[.pointer (some ⟨B, 0, none⟩), .string (txt (formT wAt 3)), .slice A 3 cn] w (Did B (stateC c (spotOf n0 n1 n2)) lo w) := by
  have q := formAt
  have HCall := Lib.hid (setState_any A cn n0 n1 n2 h hr i0 i1 i2)
  clear h hk hr i0 i1 i2
  go_enter Tryz.func63, Tryz.ntmps63
  go_wp2_with fail
  refine (HCall.out).mono ?_
  rintro e w4 ⟨rfl, hC4, hT4⟩
  go_wp2
  go_ret
  exact ⟨rfl, hC4, hT4⟩
set_option maxHeartbeats 8000000 in
theorem answerKept (h : Con w B c lo R W a rs ps qs) (hk : ConOk c) (A : Option Addr) (cn : Nat) (ht : Tab w) : Calls Tryz.prog 63 #[.pointer (some ⟨B, 0, none⟩), .string (txt (formT wKept 0)), .slice A 0 cn] w (Did B (c, orN (Lib.join (keptT c.Room) [59])) lo w) := by
  have q := formKept
  have hFI := hk.room
  have hL := big_room hk.roomL
  obtain ⟨A0, A6, A7, c0, c6, c7, rfl, H⟩ := room_sep h.room
  have HKl := Lib.hid (fun w ha ht => implKeptLines_any c.Room A0 A6 A7 c0 c6 c7 w ha hFI hL ht)
  have HH := Lib.hid H.here
  have HC := Lib.hid h
  have hjl := keptJ_len c.Room
  have hkl := keptT_len c.Room
  obtain ⟨d0, d1, d2, d3, d4, d5, d6, d7⟩ := h.cells8
  clear hFI hL H h hk
  go_enter Tryz.func63, Tryz.ntmps63
  go_wp2_with fail
  refine (HKl.out _ HH.out ht).mono ?_
  rintro e w1 ⟨A1, c1, rfl, m1, hx1⟩
  have hr1 := m1.row
  have hc1 := m1.cap
  generalize keptT c.Room = KT at *
  go_wp2_with fail
  refine (implJoin_any A1 KT.length c1 KT ⟨#[59]⟩ _ rfl hr1 hc1 (by omega) (show (Lib.join KT [59]).length ≤ 140737488355328 by omega)).mono ?_
  rintro e w2 ⟨rfl, hx2⟩
  go_wp2_with fail
  refine (orNone_any _ _).mono ?_
  rintro e w' ⟨rfl, rfl⟩
  go_wp2
  go_ret
  exact ⟨rfl, (HC.out.ext (hx1.trans hx2)).at_, Touch.of_ext (hx1.trans hx2)⟩
set_option maxHeartbeats 8000000 in
theorem answerSpan (h : Con w B c lo R W a rs ps qs) (hk : ConOk c) (A : Option Addr) (cn : Nat) (ht : Tab w) : Calls Tryz.prog 63 #[.pointer (some ⟨B, 0, none⟩), .string (txt (formT wSpan 0)), .slice A 0 cn] w (Did B (c, spanC c) lo w) := by
  have q := formSpan
  have HC := Lib.hid h
  have HCall := Lib.hid (spanText_any h hk ht)
  clear h hk ht
  go_enter Tryz.func63, Tryz.ntmps63
  go_wp2_with fail
  refine (HCall.out).mono ?_
  rintro e w4 ⟨rfl, hx4⟩
  go_wp2
  go_ret
  exact ⟨rfl, (HC.out.ext hx4).at_, Touch.of_ext hx4⟩
set_option maxHeartbeats 8000000 in
theorem answerRounds (h : Con w B c lo R W a rs ps qs) (hk : ConOk c) (A : Option Addr) (cn : Nat) (n0 : Int) (hr : Row w A (ints [n0])) (ht : Tab w) : Calls Tryz.prog 63 #[.pointer (some ⟨B, 0, none⟩), .string (txt (formT wRounds 1)), .slice A 1 cn] w (Did B (c, roundsC c.Room n0) lo w) := by
  have q := formRounds
  have HC := Lib.hid h
  obtain ⟨gn, on, rfl, hgn, hr0⟩ := row_one hr
  have HCall := Lib.hid (roundsText_any n0 h hk ht)
  clear h hk ht hr
  go_enter Tryz.func63, Tryz.ntmps63
  go_wp2_with fail
  refine (HCall.out).mono ?_
  rintro e w4 ⟨rfl, hx4⟩
  go_wp2
  go_ret
  exact ⟨rfl, (HC.out.ext hx4).at_, Touch.of_ext hx4⟩
set_option maxHeartbeats 8000000 in
theorem answerLoss (h : Con w B c lo R W a rs ps qs) (hk : ConOk c) (A : Option Addr) (cn : Nat) (n0 : Int) (hr : Row w A (ints [n0])) (ht : Tab w) : Calls Tryz.prog 63 #[.pointer (some ⟨B, 0, none⟩), .string (txt (formT wLoss 1)), .slice A 1 cn] w (Did B (c, lossC c.Room n0) lo w) := by
  have q := formLoss
  have HC := Lib.hid h
  obtain ⟨gn, on, rfl, hgn, hr0⟩ := row_one hr
  have HCall := Lib.hid (lossText_any n0 h hk ht)
  clear h hk ht hr
  go_enter Tryz.func63, Tryz.ntmps63
  go_wp2_with fail
  refine (HCall.out).mono ?_
  rintro e w4 ⟨rfl, hx4⟩
  go_wp2
  go_ret
  exact ⟨rfl, (HC.out.ext hx4).at_, Touch.of_ext hx4⟩
set_option maxHeartbeats 8000000 in
theorem answerWatch (h : Con w B c lo R W a rs ps qs) (hk : ConOk c) (A : Option Addr) (cn : Nat) : Calls Tryz.prog 63 #[.pointer (some ⟨B, 0, none⟩), .string (txt (formT wWatch 0)), .slice A 0 cn] w (Did B (watchC c) lo w) := by
  have q := formWatch
  have HCall := Lib.hid (watch_any h hk)
  clear h hk
  go_enter Tryz.func63, Tryz.ntmps63
  go_wp2_with fail
  refine (HCall.out).mono ?_
  rintro e w4 ⟨rfl, hC4, hT4⟩
  go_wp2
  go_ret
  exact ⟨rfl, hC4, hT4⟩
set_option maxHeartbeats 8000000 in
theorem answerJudge (h : Con w B c lo R W a rs ps qs) (hk : ConOk c) (A : Option Addr) (cn : Nat) (n0 n1 : Int) (hr : Row w A (ints [n0, n1])) (i0 : I64 n0) (i1 : I64 n1) (ht : Tab w) (hgl : 0 < lo) : Calls Tryz.prog 63 #[.pointer (some ⟨B, 0, none⟩), .string (txt (formT wJudge 2)), .slice A 2 cn] w (Did B (judgeC c n0 n1) lo w) := by
  have q := formJudge
  have HCall := Lib.hid (judge_any A cn n0 n1 h hk ht hr i0 i1 hgl)
  clear h hk ht hr i0 i1 hgl
  go_enter Tryz.func63, Tryz.ntmps63
  go_wp2_with fail
  refine (HCall.out).mono ?_
  rintro e w4 ⟨rfl, hC4, hT4⟩
  go_wp2
  go_ret
  exact ⟨rfl, hC4, hT4⟩
set_option maxHeartbeats 8000000 in
theorem answerLog (h : Con w B c lo R W a rs ps qs) (hk : ConOk c) (A : Option Addr) (cn : Nat) (ht : Tab w) : Calls Tryz.prog 63 #[.pointer (some ⟨B, 0, none⟩), .string (txt (formT wLog 0)), .slice A 0 cn] w (Did B (c, logT c.Watch.Log) lo w) := by
  have q := formLog
  have HC := Lib.hid h
  have HW := Lib.hid (fun V hV ht => implWatchLine_any c.Watch W V ((h.ext hV).watchIn.elim fun x q => q.elim fun y q => q.rows) hk.watchL.2.2.2.2 ht)
  obtain ⟨A0, A6, A7, A8, A9, c0, c6, c7, c8, c9, rfl, H⟩ := watch_sep h.watch
  obtain ⟨d0, d1, d2, d3, d4, d5, d6, d7, d8, d9⟩ := h.cells10
  have HB : Hid (watchB c.Watch.Log = txt (logT c.Watch.Log)) := (bytes_txt _).symm
  clear H h hk
  go_enter Tryz.func63, Tryz.ntmps63
  go_wp2_with fail
  refine (HW.out _ (Ext.refl _) ht).mono ?_
  rintro e w4 ⟨rfl, hx4⟩
  go_wp2
  go_ret
  exact ⟨ret_txt HB.out, (HC.out.ext hx4).at_, Touch.of_ext hx4⟩
set_option maxHeartbeats 8000000 in
theorem answerAsk (h : Con w B c lo R W a rs ps qs) (hk : ConOk c) (HAsk : AskOk) (A : Option Addr) (cn : Nat) (n0 n1 n2 n3 : Int) (hr : Row w A (ints [n0, n1, n2, n3])) (i0 : I64 n0) (i1 : I64 n1) (i2 : I64 n2) (i3 : I64 n3) : Calls Tryz.prog 63 #[.pointer (some ⟨B, 0, none⟩), .string (txt (formT wAsk 4)), .slice A 4 cn] w (Did B (askC c ⟨n0, n2, n1, n3⟩) lo w) := by
  have q := formAsk
  have HCall := Lib.hid (HAsk B lo c A cn n0 n1 n2 n3 w h.at_ hk hr i0 i1 i2 i3)
  clear HAsk h hk hr i0 i1 i2 i3
  go_enter Tryz.func63, Tryz.ntmps63
  go_wp2_with fail
  refine (HCall.out).mono ?_
  rintro e w4 ⟨rfl, hC4, hT4⟩
  go_wp2
  go_ret
  exact ⟨rfl, hC4, hT4⟩
set_option maxHeartbeats 8000000 in
theorem answerAllot (h : Con w B c lo R W a rs ps qs) (hk : ConOk c) (A : Option Addr) (cn : Nat) (n0 : Int) (hr : Row w A (ints [n0])) (i0 : I64 n0) (ht : Tab w) : Calls Tryz.prog 63 #[.pointer (some ⟨B, 0, none⟩), .string (txt (formT wAllot 1)), .slice A 1 cn] w (Did B (c, orN (allotT c.Asks n0)) lo w) := by
  have q := formAllot
  have HC := Lib.hid h
  obtain ⟨gn, on, rfl, hgn, hr0⟩ := row_one hr
  obtain ⟨A9, c9, x9, y9, rfl, m9⟩ := asks_row h
  have hrow := m9.row
  have HAl := Lib.hid (fun V hV ht => implAllotLine_any A9 c.Asks.length c9 c.Asks n0 V rfl (hrow.ext hV) (by have := hk.asksL; unfold Big at this; unfold maxLen; omega) i0 ht)
  have hc21 := h.cell21
  have HT := Lib.hid ht
  clear h hk hr m9 hrow ht
  go_enter Tryz.func63, Tryz.ntmps63
  go_wp2_with fail
  go_still_tail 7, (by kernel_rfl)
  change wpList _ _ _ _ _ w.drew
  have hxd := (Ext.refl w).drew
  generalize w.drew = w3 at hxd ⊢
  go_wp2_with fail
  refine (HAl.out _ hxd (HT.out.ext hxd)).mono ?_
  rintro e w4 ⟨rfl, hx4⟩
  go_wp2_with fail
  refine (orNone_any _ _).mono ?_
  rintro e w' ⟨rfl, rfl⟩
  go_wp2
  go_ret
  exact ⟨rfl, (HC.out.ext (hxd.trans hx4)).at_, Touch.of_ext (hxd.trans hx4)⟩
set_option maxHeartbeats 4000000 in
theorem answerNone (h : Con w B c lo R W a rs ps qs) {wd : List UInt8} {m : Nat} (hw : (32 : UInt8) ∉ wd) (hm : m ≤ 2000000) (h0 : ¬ (wd = wAt ∧ m = 3)) (h1 : ¬ (wd = wKept ∧ m = 0)) (h2 : ¬ (wd = wSpan ∧ m = 0)) (h3 : ¬ (wd = wRounds ∧ m = 1)) (h4 : ¬ (wd = wLoss ∧ m = 1)) (h5 : ¬ (wd = wWatch ∧ m = 0)) (h6 : ¬ (wd = wJudge ∧ m = 2)) (h7 : ¬ (wd = wLog ∧ m = 0)) (h8 : ¬ (wd = wAsk ∧ m = 4)) (h9 : ¬ (wd = wAllot ∧ m = 1)) (A : Option Addr) (cn : Nat) : Calls Tryz.prog 63 #[.pointer (some ⟨B, 0, none⟩), .string (txt (formT wd m)), .slice A m cn] w (Did B (c, unkT) lo w) := by
  have HC := Lib.hid h
  have e0 := form_no hw freeAt hm (by omega) formAt h0
  have d0 := decide_eq_false e0
  have b0 := beq_eq_false_iff_ne.2 e0
  have e1 := form_no hw freeKept hm (by omega) formKept h1
  have d1 := decide_eq_false e1
  have b1 := beq_eq_false_iff_ne.2 e1
  have e2 := form_no hw freeSpan hm (by omega) formSpan h2
  have d2 := decide_eq_false e2
  have b2 := beq_eq_false_iff_ne.2 e2
  have e3 := form_no hw freeRounds hm (by omega) formRounds h3
  have d3 := decide_eq_false e3
  have b3 := beq_eq_false_iff_ne.2 e3
  have e4 := form_no hw freeLoss hm (by omega) formLoss h4
  have d4 := decide_eq_false e4
  have b4 := beq_eq_false_iff_ne.2 e4
  have e5 := form_no hw freeWatch hm (by omega) formWatch h5
  have d5 := decide_eq_false e5
  have b5 := beq_eq_false_iff_ne.2 e5
  have e6 := form_no hw freeJudge hm (by omega) formJudge h6
  have d6 := decide_eq_false e6
  have b6 := beq_eq_false_iff_ne.2 e6
  have e7 := form_no hw freeLog hm (by omega) formLog h7
  have d7 := decide_eq_false e7
  have b7 := beq_eq_false_iff_ne.2 e7
  have e8 := form_no hw freeAsk hm (by omega) formAsk h8
  have d8 := decide_eq_false e8
  have b8 := beq_eq_false_iff_ne.2 e8
  have e9 := form_no hw freeAllot hm (by omega) formAllot h9
  have d9 := decide_eq_false e9
  have b9 := beq_eq_false_iff_ne.2 e9
  clear h hw hm h0 h1 h2 h3 h4 h5 h6 h7 h8 h9
  go_enter Tryz.func63, Tryz.ntmps63
  go_wp2
  go_ret
  exact ⟨rfl, HC.out.at_, Touch.refl _ _ _⟩
end
theorem ansLen1 {l : List Int} (h : l.length = 1) : ∃ a, l = [a] := by
  match l, h with
  | [a], _ => exact ⟨a, rfl⟩
theorem ansLen2 {l : List Int} (h : l.length = 2) : ∃ a b, l = [a, b] := by
  match l, h with
  | [a, b], _ => exact ⟨a, b, rfl⟩
theorem ansLen3 {l : List Int} (h : l.length = 3) : ∃ a b c, l = [a, b, c] := by
  match l, h with
  | [a, b, c], _ => exact ⟨a, b, c, rfl⟩
theorem ansLen4 {l : List Int} (h : l.length = 4) : ∃ a b c d, l = [a, b, c, d] := by
  match l, h with
  | [a, b, c, d], _ => exact ⟨a, b, c, d, rfl⟩
theorem answer_of (HAsk : AskOk) : AnswerOk := by
  intro B lo c wd A m cn ns w hC hk hw hl hm hcn hr hI ht hgl
  obtain ⟨R, W, a, rs, ps, qs, h⟩ := hC
  by_cases h0 : wd = wAt ∧ m = 3
  · obtain ⟨rfl, rfl⟩ := h0
    obtain ⟨n0, n1, n2, rfl⟩ := ansLen3 hl
    exact answerAt h hk A cn n0 n1 n2 hr (hI _ (by simp)) (hI _ (by simp)) (hI _ (by simp))
  by_cases h1 : wd = wKept ∧ m = 0
  · obtain ⟨rfl, rfl⟩ := h1
    have e0 := List.length_eq_zero_iff.1 hl
    subst e0
    exact answerKept h hk A cn ht
  by_cases h2 : wd = wSpan ∧ m = 0
  · obtain ⟨rfl, rfl⟩ := h2
    have e0 := List.length_eq_zero_iff.1 hl
    subst e0
    exact answerSpan h hk A cn ht
  by_cases h3 : wd = wRounds ∧ m = 1
  · obtain ⟨rfl, rfl⟩ := h3
    obtain ⟨n0, rfl⟩ := ansLen1 hl
    exact answerRounds h hk A cn n0 hr ht
  by_cases h4 : wd = wLoss ∧ m = 1
  · obtain ⟨rfl, rfl⟩ := h4
    obtain ⟨n0, rfl⟩ := ansLen1 hl
    exact answerLoss h hk A cn n0 hr ht
  by_cases h5 : wd = wWatch ∧ m = 0
  · obtain ⟨rfl, rfl⟩ := h5
    have e0 := List.length_eq_zero_iff.1 hl
    subst e0
    exact answerWatch h hk A cn
  by_cases h6 : wd = wJudge ∧ m = 2
  · obtain ⟨rfl, rfl⟩ := h6
    obtain ⟨n0, n1, rfl⟩ := ansLen2 hl
    exact answerJudge h hk A cn n0 n1 hr (hI _ (by simp)) (hI _ (by simp)) ht hgl
  by_cases h7 : wd = wLog ∧ m = 0
  · obtain ⟨rfl, rfl⟩ := h7
    have e0 := List.length_eq_zero_iff.1 hl
    subst e0
    exact answerLog h hk A cn ht
  by_cases h8 : wd = wAsk ∧ m = 4
  · obtain ⟨rfl, rfl⟩ := h8
    obtain ⟨n0, n1, n2, n3, rfl⟩ := ansLen4 hl
    exact answerAsk h hk HAsk A cn n0 n1 n2 n3 hr (hI _ (by simp)) (hI _ (by simp)) (hI _ (by simp)) (hI _ (by simp))
  by_cases h9 : wd = wAllot ∧ m = 1
  · obtain ⟨rfl, rfl⟩ := h9
    obtain ⟨n0, rfl⟩ := ansLen1 hl
    exact answerAllot h hk A cn n0 hr (hI _ (by simp)) ht
  have e : answerR c wd ns = (c, unkT) := by
    subst hl
    unfold answerR
    rw [if_neg h0, if_neg h1, if_neg h2, if_neg h3, if_neg h4, if_neg h5, if_neg h6, if_neg h7, if_neg h8, if_neg h9]
  rw [e]
  exact answerNone h hw (by omega) h0 h1 h2 h3 h4 h5 h6 h7 h8 h9 A cn
end Go.Proofs.YtfnmbpjkjajpcaaGreatDoor
namespace Go.Proofs.YtfnmbpjkjajpcaaGreatDoor
open Go.ChangeShapes Go.WideShapes Go.ChangeAt Go.RowKit
set_option linter.unusedVariables false
set_option maxRecDepth 100000
theorem askK_info : (Tryz.prog.info? 121).map (fun i => (i.zero, i.size, i.bytes)) = some (some (.agg #[.int .i64 0, .int .i64 0, .int .i64 0, .int .i64 0]), 4, 32) := by kernel_rfl
set_option maxHeartbeats 2000000 in
theorem cloneA_any (A : Option Addr) (n c : Nat) (zs : List Ask) (w : World) (hn : zs.length = n) (hr : Row w A (ints (flat Ask.ints zs))) (hA : A = none → n = 0 ∧ c = 0) (hle : n ≤ 1048576) :
    Calls Tryz.prog 72 #[.slice A n c] w fun e w' => ∃ A' c', e = .returned (.slice A' n c') ∧ Mine w' w.heap.size w'.heap.size 121 4 (.slice A' n c') n (ints (flat Ask.ints zs)) ∧ Ext w w' := by
  obtain ⟨i0, hi0, hz0, hz1, hz2⟩ := info_parts askK_info
  rcases A with _ | ⟨b, off, z⟩
  · obtain ⟨rfl, rfl⟩ := hA rfl
    have hnil : zs = [] := List.length_eq_zero_iff.1 hn
    subst hnil
    have q : ∀ (w : World) (a : Option Addr) (n c n' c' : Nat), (binOp .eql 41 (.slice a n c) (.slice none n' c')).run Tryz.prog w = .ok (.bool a.isNone) w := fun w a n c n' c' => Lib.run_eql_slice_nil w _ _ a n c n' c' Tryz.underlying41
    clear hr hA hn
    go_enter Tryz.func72, Tryz.ntmps72
    go_wp2
    go_ret
    exact ⟨none, 0, rfl, Mine.of_own (World.ownsRow_nil _ _ _ _), Ext.refl w⟩
  have q : ∀ (w : World) (a : Option Addr) (n c n' c' : Nat), (binOp .eql 41 (.slice a n c) (.slice none n' c')).run Tryz.prog w = .ok (.bool a.isNone) w := fun w a n c n' c' => Lib.run_eql_slice_nil w _ _ a n c n' c' Tryz.underlying41
  have hxa : Ext w (w.alloc (.cells #[] 121)) := (Ext.refl w).alloc _
  have hlit : (w.alloc (.cells #[] 121)).ownsRow w.heap.size 121 4 (.slice (some ⟨w.heap.size, 0, none⟩) 0 0) 0 [] := by
    simpa using World.ownsRow_lit (base := w.heap.size) (e := 121) (size := 4) w #[] 0 (Nat.le_refl _) (by unfold maxLen; omega) rfl
  have hca := hr.ext hxa
  have hfl : (ints (flat Ask.ints zs)).length = n * 4 := by rw [ints_length, flat_length Ask.ints_len, hn]
  have HN := Lib.hid hn
  clear hr hA hn
  go_enter Tryz.func72, Tryz.ntmps72
  go_wp2_with (at_builtin; go_must (refine wpList_append_src rfl _ _ 41 rfl w.heap.size 121 i0 (.agg #[.int .i64 0, .int .i64 0, .int .i64 0, .int .i64 0]) 4 32 Tryz.underlying41 hi0 hz0 hz1 hz2 rfl (by decide) _ _ _ rfl hlit (some ⟨b, off, z⟩) n c (ints (flat Ask.ints zs)) rfl (by rintro ⟨⟩) hfl hca (oneCell_ints _) (by unfold maxLen; omega) (by omega) (by simp) ?_); intro v1 w1 hown1 hgrow1; obtain ⟨A1, c1, rfl⟩ := own_form hown1)
  have hx1 : Ext w w1 := hxa.grown hgrow1 (fun g e => (World.ownsRow.lt hlit _ e).1)
  simp only [Nat.zero_add, List.nil_append] at hown1
  go_wp2
  go_ret
  exact ⟨A1, c1, rfl, Mine.of_own hown1, hx1⟩
theorem row_four {w : World} {A : Option Addr} {n0 n1 n2 n3 : Int} (h : Row w A (ints [n0, n1, n2, n3])) : ∃ g o, A = some ⟨g, o, none⟩ ∧ g < w.heap.size ∧ w.cell? ⟨g, o, none⟩ = some (.int .i64 n0) ∧ w.cell? ⟨g, o + 1, none⟩ = some (.int .i64 n1) ∧ w.cell? ⟨g, o + 2, none⟩ = some (.int .i64 n2) ∧ w.cell? ⟨g, o + 3, none⟩ = some (.int .i64 n3) := by
  obtain ⟨g, o, e, hg, h0⟩ := h.int (k := 0) (by simp)
  obtain ⟨g1, o1, e1, _, h1⟩ := h.int (k := 1) (by simp)
  obtain ⟨g2, o2, e2, _, h2⟩ := h.int (k := 2) (by simp)
  obtain ⟨g3, o3, e3, _, h3⟩ := h.int (k := 3) (by simp)
  rw [e] at e1 e2 e3
  cases e1
  cases e2
  cases e3
  exact ⟨g, o, e, hg, h0, h1, h2, h3⟩
theorem own_eq4 {w : World} {base : Nat} {e : TypeId} {s n : Nat} {v : Value} {xs ys : List Value} (h : w.ownsRow base e s v n xs) (e' : xs = ys) : w.ownsRow base e s v n ys := e' ▸ h
theorem conL_set {R W : List Value} {s : Spot} {a v : Value} (hR : R.length = 8) (hW : W.length = 10) : (conL R s W a).toArray.setIfInBounds 21 v = (conL R s W v).toArray := by
  apply Array.ext'
  rw [Array.toList_setIfInBounds]
  show (conL R s W a).set 21 v = conL R s W v
  unfold conL
  rw [List.set_append_right _ _ (by omega), hR, List.set_append_right _ _ (by simp [spotL]), List.set_append_right _ _ (by simp [spotL]; omega)]
  simp [spotL, hW]
section
variable {w : World} {B lo : Nat} {c : Console} {R W : List Value} {a : Value} {rs ps qs : List (Nat × Nat)}
set_option maxHeartbeats 16000000 in
theorem ask_any (A : Option Addr) (cn : Nat) (n0 n1 n2 n3 : Int) (h : Con w B c lo R W a rs ps qs) (hk : ConOk c) (hr : Row w A (ints [n0, n1, n2, n3])) : Calls Tryz.prog 127 #[.pointer (some ⟨B, 0, none⟩), .slice A 4 cn] w (Did B (askC c ⟨n0, n2, n1, n3⟩) lo w) := by
  obtain ⟨i0, hi0, hz0, hz1, hz2⟩ := info_parts askK_info
  obtain ⟨gn, on, rfl, hgn, hr0, hr1, hr2, hr3⟩ := row_four hr
  obtain ⟨A9, c9, x9, y9, rfl, m9⟩ := asks_row h
  have hrow := m9.row
  have hb9 : c.Asks.length ≤ 1048576 := hk.asksL
  have HCl := Lib.hid (fun V hV => cloneA_any A9 c.Asks.length c9 c.Asks V rfl (hrow.ext hV) m9.none hb9)
  have HD : Hid (askC c ⟨n0, n2, n1, n3⟩ = if asksOk (c.Asks ++ [⟨n0, n2, n1, n3⟩]) = true then (⟨c.Room, c.State, c.Watch, c.Asks ++ [⟨n0, n2, n1, n3⟩]⟩, okT) else (c, noneT)) := rfl
  have HC := Lib.hid h
  have hc21 := h.cell21
  have HN : Hid (∀ V, Ext w V → V.cell? ⟨B, 21, none⟩ = some (.slice A9 c.Asks.length c9) ∧ V.cell? ⟨gn, on, none⟩ = some (.int .i64 n0) ∧ V.cell? ⟨gn, on + 1, none⟩ = some (.int .i64 n1) ∧ V.cell? ⟨gn, on + 2, none⟩ = some (.int .i64 n2) ∧ V.cell? ⟨gn, on + 3, none⟩ = some (.int .i64 n3)) := fun V hV => ⟨hV.cellOf hc21, hV.cellOf hr0, hV.cellOf hr1, hV.cellOf hr2, hV.cellOf hr3⟩
  have HCat : Hid (∀ l, l = ints (flat Ask.ints c.Asks) ++ #[.int .i64 n0, .int .i64 n2, .int .i64 n1, .int .i64 n3].toList → l = ints (flat Ask.ints (c.Asks ++ [⟨n0, n2, n1, n3⟩]))) := by
    intro l e
    rw [e]
    simp [flat, ints, Ask.ints]
  have HLn : Hid ((c.Asks ++ [(⟨n0, n2, n1, n3⟩ : Ask)]).length = c.Asks.length + 1) := by rw [Hid, List.length_append]; rfl
  have hlt := h.blk.lt
  clear h hr hrow m9 hk
  generalize askC c (⟨n0, n2, n1, n3⟩ : Ask) = X at *
  generalize hxs : c.Asks = xs at *
  obtain ⟨m, hm⟩ : ∃ m, xs.length = m := ⟨_, rfl⟩
  rw [hm] at HCl hc21 HN hb9 HLn
  have HXs := Lib.hid hxs
  have HM := Lib.hid hm
  clear hm hxs
  generalize xs ++ [(⟨n0, n2, n1, n3⟩ : Ask)] = ys at *
  have KH := Blk.new w 121 #[.int .i64 n0, .int .i64 n2, .int .i64 n1, .int .i64 n3]
  go_enter Tryz.func127, Tryz.ntmps127
  go_upto_region 1 with fail
  go_cut [5] from 6 to 25 (fun v wx => ∃ g cap, v = .slice (some ⟨g, 0, none⟩) (m + 1) cap ∧ Ext w wx ∧ wx.ownsRow w.heap.size 121 4 (.slice (some ⟨g, 0, none⟩) (m + 1) cap) (m + 1) (ints (flat Ask.ints ys)))
  case first =>
    have hcur := Ext.refl w
    have nb1 : ¬ gn = w.heap.size := by omega
    have nb2 : ¬ w.heap.size = gn := by omega
    have nb3 : ¬ B = w.heap.size := by omega
    have nb4 : ¬ w.heap.size = B := by omega
    go_region_held3 (fun w' => w'.cell? ⟨B, 21, none⟩ = some (.slice A9 m c9) ∧ w'.cell? ⟨gn, on, none⟩ = some (.int .i64 n0) ∧ w'.cell? ⟨gn, on + 1, none⟩ = some (.int .i64 n1) ∧ w'.cell? ⟨gn, on + 2, none⟩ = some (.int .i64 n2) ∧ w'.cell? ⟨gn, on + 3, none⟩ = some (.int .i64 n3))
      (go_keep)
      (first
        | (go_at_call 72; (with_reducible refine (HCl.out _ (by exact (by first | exact hcur | exact hcur.drew | exact hcur.alloc _ | exact (hcur.alloc _).drew | exact hcur.drew.alloc _))).mono ?_); rintro e w9 ⟨A1, c1, rfl, m1, hx9⟩; have hown1 := own_base m1.1 (base' := w.heap.size) (by simp <;> omega); (first | have hx8 := (Ext.refl _).drew.trans hx9 | have hx8 := hx9); replace hcur := Ext.trans (by first | exact hcur | exact hcur.drew | exact hcur.alloc _ | exact (hcur.alloc _).drew | exact hcur.drew.alloc _) hx9; have y9 := hcur.size; have na1 : ¬ gn = w9.heap.size := (by omega); have na2 : ¬ w9.heap.size = gn := (by omega); have na3 : ¬ B = w9.heap.size := (by omega); have na4 : ¬ w9.heap.size = B := (by omega); obtain ⟨g0, g1, g2, g3, g4⟩ := HN.out _ hcur; (first | (have gH : Blk w9 w.heap.size 121 #[.int .i64 n0, .int .i64 n2, .int .i64 n1, .int .i64 n3] := KH.ext hx8; have gHc := fun o => gH.cell o; have gHl := gH.lt) | skip))
        | (have gHx := gH; refine step_append_lies _ (by rfl) (.tmp 10) (.tmp 24) 41 (by rfl) w.heap.size 121 i0 (.agg #[.int .i64 0, .int .i64 0, .int .i64 0, .int .i64 0]) 4 32 Tryz.underlying41 hi0 hz0 hz1 hz2 rfl (by decide) (.slice A1 m c1) m (ints (flat Ask.ints xs)) (by first | rfl | simp [Act.eval]) (hown1) ⟨w.heap.size, 0, none⟩ 1 1 #[.int .i64 n0, .int .i64 n2, .int .i64 n1, .int .i64 n3].toList (by rfl) (by rfl) (row_add (fun j v hj => by rw [(gH : Blk _ _ 121 #[.int .i64 n0, .int .i64 n2, .int .i64 n1, .int .i64 n3]).cell, Nat.zero_add]; simpa using hj)) (by simp [Value.oneCell']) (by omega) (by unfold maxLen; omega) (by omega) (by first | exact hcur.size | exact (hcur.alloc _).size) _ rfl ?_; intro gg2 cap2 w10 hown2 hgrow2 hat2 hlt2; have hcur2 : Ext w w10 := Ext.grown (by first | exact hcur | exact hcur.alloc _) hgrow2 (fun q hq => (World.ownsRow.lt hown1 q hq).1); replace hown2 := own_eq4 hown2 (HCat.out _ rfl); obtain ⟨k0, k1, k2, k3, k4⟩ := HN.out _ hcur2)
        | (refine step_append_lies _ (by rfl) (.tmp 10) (.tmp 24) 41 (by rfl) w.heap.size 121 i0 (.agg #[.int .i64 0, .int .i64 0, .int .i64 0, .int .i64 0]) 4 32 Tryz.underlying41 hi0 hz0 hz1 hz2 rfl (by decide) (.slice A1 m c1) m (ints (flat Ask.ints xs)) (by first | rfl | simp [Act.eval]) (hown1.alloc _) ⟨w9.heap.size, 0, none⟩ 1 1 #[.int .i64 n0, .int .i64 n2, .int .i64 n1, .int .i64 n3].toList (by rfl) (by rfl) (row_add (fun j v hj => by rw [(Blk.new w9 _ _ : Blk _ _ 121 #[.int .i64 n0, .int .i64 n2, .int .i64 n1, .int .i64 n3]).cell, Nat.zero_add]; simpa using hj)) (by simp [Value.oneCell']) (by omega) (by unfold maxLen; omega) (by omega) (by first | exact hcur.size | exact (hcur.alloc _).size) _ rfl ?_; intro gg2 cap2 w10 hown2 hgrow2 hat2 hlt2; have hcur2 : Ext w w10 := Ext.grown (by first | exact hcur | exact hcur.alloc _) hgrow2 (fun q hq => (World.ownsRow.lt hown1 q hq).1); replace hown2 := own_eq4 hown2 (HCat.out _ rfl); obtain ⟨k0, k1, k2, k3, k4⟩ := HN.out _ hcur2))
    all_goals
      go_wp2_with fail
      go_meet
      case rel => exact ⟨gg2, cap2, rfl, by first | exact hcur2 | exact hcur2.drew, by first | exact hown2 | exact hown2.drew⟩
  case rest =>
  obtain ⟨wA, rfl⟩ : ∃ W, W = wc := ⟨_, rfl⟩
  obtain ⟨g, cap, rfl, hE, hown⟩ := hcut
  have mA := Mine.of_own hown
  have hsE := hE.size
  go_wp2_with fail
  refine (implAsksOk_any (some ⟨g, 0, none⟩) (m + 1) cap ys _ HLn.out mA.row (by unfold maxLen; omega)).mono ?_
  rintro e w5 ⟨rfl, hx5⟩
  have hE5 := hE.trans hx5
  have h5 := HC.out.ext hE5
  have d21 := h5.cell21
  have f21 := h5.blk.frozen 21
  have hb5 := h5.blk.set_ 21 (.slice (some ⟨g, 0, none⟩) (m + 1) cap)
  rw [conL_set h5.lenR h5.lenW] at hb5
  have HB5 := Lib.hid hb5
  have m5 := mA.ext hx5
  clear hb5 h5
  by_cases k1 : asksOk ys = true
  rotate_left
  · have H := Lib.hid (HD.out.trans (if_neg k1))
    have k1' : asksOk ys = false := by simpa using k1
    rw [k1']
    clear k1 k1'
    go_wp2
    go_ret
    rw [H.out]
    exact ⟨rfl, (HC.out.ext hE5).at_, Touch.of_ext hE5⟩
  have H := Lib.hid (HD.out.trans (if_pos k1))
  rw [k1]
  clear k1
  go_wp2
  go_ret
  rw [H.out]
  have hT : Touch B (B + 1) w5 (w5.setCell ⟨B, 21, none⟩ (.slice (some ⟨g, 0, none⟩) (m + 1) cap)) := (Touch.refl B (B + 1) w5).setCell (Nat.le_refl _) (Nat.lt_succ_self _) _
  refine ⟨rfl, ?_, (Touch.of_ext hE5).trans hT⟩
  have m6 := m5.touch hT (.inr (by omega))
  have hs5 := hx5.size
  have hB5 := HB5.out
  have e9 := HLn.out
  clear HB5 HLn mA hown
  generalize m + 1 = M at *
  subst e9
  refine HC.out.newAsks ((Touch.of_ext hE5).trans hT) (AggIn.one (e := 121) (s := 4) m6 (by omega)) (Nat.le_refl _) (by have := hT.size; omega) hB5
end
theorem ask_ok : AskOk := by
  intro B lo c A cn n0 n1 n2 n3 w hC hk hr _ _ _ _
  obtain ⟨R, W, a, rs, ps, qs, h⟩ := hC
  exact ask_any A cn n0 n1 n2 n3 h hk hr
theorem answer_ok : AnswerOk := answer_of ask_ok
end Go.Proofs.YtfnmbpjkjajpcaaGreatDoor
namespace Go.Proofs.YtfnmbpjkjajpcaaGreatDoor
open Go.ChangeShapes Go.WideShapes Go.ChangeAt Go.RowKit
set_option linter.unusedVariables false
set_option maxRecDepth 100000
theorem formCMap : (txt (formT wMap 5)).toList = [109, 97, 112, 32, 53] := by rw [ByteArray.toList_eq, txt_list]; decide +kernel
theorem freeCMap : (32 : UInt8) ∉ wMap := by decide
theorem formCDrive : (txt (formT wDrive 2)).toList = [100, 114, 105, 118, 101, 32, 50] := by rw [ByteArray.toList_eq, txt_list]; decide +kernel
theorem freeCDrive : (32 : UInt8) ∉ wDrive := by decide
theorem formCRange : (txt (formT wRange 2)).toList = [114, 97, 110, 103, 101, 32, 50] := by rw [ByteArray.toList_eq, txt_list]; decide +kernel
theorem freeCRange : (32 : UInt8) ∉ wRange := by decide
theorem formCNoise : (txt (formT wNoise 4)).toList = [110, 111, 105, 115, 101, 32, 52] := by rw [ByteArray.toList_eq, txt_list]; decide +kernel
theorem freeCNoise : (32 : UInt8) ∉ wNoise := by decide
theorem formCLimits : (txt (formT wLimits 4)).toList = [108, 105, 109, 105, 116, 115, 32, 52] := by rw [ByteArray.toList_eq, txt_list]; decide +kernel
theorem freeCLimits : (32 : UInt8) ∉ wLimits := by decide
theorem formCCut : (txt (formT wCut 3)).toList = [99, 117, 116, 32, 51] := by rw [ByteArray.toList_eq, txt_list]; decide +kernel
theorem freeCCut : (32 : UInt8) ∉ wCut := by decide
theorem room_split {w : World} {r : Room} {v0 v6 v7 : Value} {x y : Nat} (h : AggIn w (roomF r) [v0, .int .i64 r.Div, .int .i64 r.Bx, .int .i64 r.By, .int .i64 r.Low, .int .i64 r.High, v6, v7] x y) : ∃ a0 b0 a6 b6 a7 b7, AggIn w [intF r.Map] [v0] a0 b0 ∧ AggIn w [halfF r.Noise] [v6] a6 b6 ∧ AggIn w [halfF r.Limits] [v7] a7 b7 ∧ (b0 ≤ a6 ∨ b6 ≤ a0) ∧ (b0 ≤ a7 ∨ b7 ≤ a0) ∧ (b6 ≤ a7 ∨ b7 ≤ a6) ∧ (x ≤ a0 ∧ b0 ≤ y) ∧ (x ≤ a6 ∧ b6 ≤ y) ∧ (x ≤ a7 ∧ b7 ≤ y) := by
  obtain ⟨rs, ⟨A0, c0, _, a0, b0, _, e0, rfl, o0, l0, _, e1, _, e2, _, e3, _, e4, _, e5, A6, c6, _, a6, b6, _, e6, rfl, o6, l6, A7, c7, _, a7, b7, _, e7, rfl, o7, l7, _, rfl⟩, ap, bd⟩ := h
  obtain ⟨p0, rfl⟩ := List.cons.inj e0
  obtain ⟨_, rfl⟩ := List.cons.inj e1
  obtain ⟨_, rfl⟩ := List.cons.inj e2
  obtain ⟨_, rfl⟩ := List.cons.inj e3
  obtain ⟨_, rfl⟩ := List.cons.inj e4
  obtain ⟨_, rfl⟩ := List.cons.inj e5
  obtain ⟨p6, rfl⟩ := List.cons.inj e6
  obtain ⟨p7, rfl⟩ := List.cons.inj e7
  subst p0 p6 p7
  have k0 := bd (a0, b0) (by simp)
  have k6 := bd (a6, b6) (by simp)
  have k7 := bd (a7, b7) (by simp)
  exact ⟨a0, b0, a6, b6, a7, b7, AggIn.one o0 l0, AggIn.one o6 l6, AggIn.one o7 l7, ap.1 (a6, b6) (by simp), ap.1 (a7, b7) (by simp), ap.2.1 (a7, b7) (by simp), k0, k6, k7⟩
theorem room_build {w : World} {r : Room} {v0 v6 v7 : Value} {a0 b0 a6 b6 a7 b7 x y : Nat} (h0 : AggIn w [intF r.Map] [v0] a0 b0) (h6 : AggIn w [halfF r.Noise] [v6] a6 b6) (h7 : AggIn w [halfF r.Limits] [v7] a7 b7) (d1 : b0 ≤ a6 ∨ b6 ≤ a0) (d2 : b0 ≤ a7 ∨ b7 ≤ a0) (d3 : b6 ≤ a7 ∨ b7 ≤ a6) (k0 : x ≤ a0 ∧ b0 ≤ y) (k6 : x ≤ a6 ∧ b6 ≤ y) (k7 : x ≤ a7 ∧ b7 ≤ y) :
    AggIn w (roomF r) [v0, .int .i64 r.Div, .int .i64 r.Bx, .int .i64 r.By, .int .i64 r.Low, .int .i64 r.High, v6, v7] x y := by
  obtain ⟨rs, p1, p2, p3⟩ := h0
  obtain ⟨qs, q1, q2, q3⟩ := h6
  obtain ⟨ss, s1, s2, s3⟩ := h7
  have hi : AggSep w ([.i r.Div, .i r.Bx, .i r.By, .i r.Low, .i r.High] ++ ([halfF r.Noise] ++ [halfF r.Limits])) ([.int .i64 r.Div, .int .i64 r.Bx, .int .i64 r.By, .int .i64 r.Low, .int .i64 r.High] ++ ([v6] ++ [v7])) ([] ++ (qs ++ ss)) :=
    AggSep.append (show AggSep w [.i r.Div, .i r.Bx, .i r.By, .i r.Low, .i r.High] [.int .i64 r.Div, .int .i64 r.Bx, .int .i64 r.By, .int .i64 r.Low, .int .i64 r.High] [] from ⟨_, rfl, _, rfl, _, rfl, _, rfl, _, rfl, rfl, rfl⟩) (q1.append s1)
  refine ⟨rs ++ (qs ++ ss), p1.append hi, p2.append (q2.append s2 ?_) ?_, ?_⟩
  · intro p hp q hq
    have := q3 p hp
    have := s3 q hq
    omega
  · intro p hp q hq
    have := p3 p hp
    rcases List.mem_append.1 hq with hq | hq
    · have := q3 q hq; omega
    · have := s3 q hq; omega
  · intro p hp
    rcases List.mem_append.1 hp with hp | hp
    · have := p3 p hp; omega
    rcases List.mem_append.1 hp with hp | hp
    · have := q3 p hp; omega
    · have := s3 p hp; omega
theorem row_take4 {w : World} {A : Option Addr} {n0 n1 n2 n3 n4 : Int} (h : Row w A (ints [n0, n1, n2, n3, n4])) : Row w A (ints [n0, n1, n2, n3]) := by
  rcases h with h | ⟨g, o, hA, hc⟩
  · cases h
  · refine .inr ⟨g, o, hA, fun j v hj => hc j v ?_⟩
    have hl : j < (ints [n0, n1, n2, n3]).length := (List.getElem?_eq_some_iff.1 hj).1
    have : ints [n0, n1, n2, n3, n4] = ints [n0, n1, n2, n3] ++ ints [n4] := rfl
    rw [this, List.getElem?_append_left hl]
    exact hj
theorem RegMade.aggIn {x : List Half × Bool} {w w' : World} {e : Ending} (h : RegMade x w e w') : ∃ A c, e = .returned (.tuple #[.agg #[.slice A x.1.length c], .bool x.2]) ∧ AggIn w' [halfF x.1] [.slice A x.1.length c] w.heap.size w'.heap.size ∧ Ext w w' := by
  obtain ⟨A, c, n, rfl, hn, hx, ho⟩ := h
  subst hn
  exact ⟨A, c, rfl, AggIn.one (Mine.of_own ho) hx.size, hx⟩
theorem halfOfZ_in (a b c : Int) : I64 (halfOfZ a b c).1.A ∧ I64 (halfOfZ a b c).1.B ∧ I64 (halfOfZ a b c).1.C := by
  cases h : (halfOfZ a b c).2 with
  | true =>
    obtain ⟨b1, b2, b3, b4, b5, b6, _⟩ := halfOk_bd (halfOfZ_ok h)
    unfold I64
    omega
  | false =>
    rw [halfOfZ_no h]
    unfold I64
    simp
def HalfCut (x : Half) (ok : Bool) (V : World) (p o : Value) (wx : World) : Prop := ∃ g : Nat, p = .pointer (some ⟨g, 0, none⟩) ∧ o = .bool ok ∧ V.heap.size ≤ g ∧ Ext V wx ∧ Blk wx g 116 #[.int .i64 x.A, .int .i64 x.B, .int .i64 x.C]
theorem HalfCut.new {x : Half} {ok : Bool} {V w : World} (h : Ext V w) : HalfCut x ok V (.pointer (some ⟨w.heap.size, 0, none⟩)) (.bool ok) (w.alloc (.cells #[.int .i64 x.A, .int .i64 x.B, .int .i64 x.C] 116)) := ⟨_, rfl, rfl, h.size, h.alloc _, Blk.new w _ _⟩
theorem HalfCut.old {x : Half} {ok : Bool} {V w : World} {g : Nat} (h : Ext V w) (hg : V.heap.size ≤ g) (hb : Blk w g 116 #[.int .i64 0, .int .i64 0, .int .i64 0]) : HalfCut x ok V (.pointer (some ⟨g, 0, none⟩)) (.bool ok) (((w.setCell ⟨g, 0, none⟩ (.int .i64 x.A)).setCell ⟨g, 1, none⟩ (.int .i64 x.B)).setCell ⟨g, 2, none⟩ (.int .i64 x.C)) :=
  ⟨g, rfl, rfl, hg, ((h.setCell (p := ⟨g, 0, none⟩) hg _).setCell (p := ⟨g, 1, none⟩) hg _).setCell (p := ⟨g, 2, none⟩) hg _, ((hb.set_ 0 (.int .i64 x.A)).set_ 1 (.int .i64 x.B)).set_ 2 (.int .i64 x.C)⟩
section
variable {w : World} {B lo : Nat} {c : Console} {R W : List Value} {a : Value} {rs ps qs : List (Nat × Nat)}
set_option maxHeartbeats 8000000 in
theorem changeDrive (h : Con w B c lo R W a rs ps qs) (hk : ConOk c) (A : Option Addr) (cn : Nat) (n0 n1 : Int) (hr : Row w A (ints [n0, n1])) (i0 : I64 n0) (i1 : I64 n1) : Calls Tryz.prog 62 #[.pointer (some ⟨B, 0, none⟩), .string (txt (formT wDrive 2)), .slice A 2 cn] w (Changed B c (some (setR c ⟨c.Room.Map, c.Room.Div, n0, n1, c.Room.Low, c.Room.High, c.Room.Noise, c.Room.Limits⟩ true)) lo w) := by
  have q := formCDrive
  obtain ⟨gn, on, rfl, hgn, hr0, hr1⟩ := row_two hr
  have hFI := hk.room
  have hb := hk.roomL
  obtain ⟨A0, A6, A7, c0, c6, c7, hR8, H⟩ := room_sep h.room
  have HCr := Lib.hid (implCopyRoom_any c.Room A0 A6 A7 c0 c6 c7 w H hb.1 hb.2.1 hb.2.2)
  have HFI := Lib.hid hFI
  have HBg := Lib.hid hb
  have HC := Lib.hid h
  have hlt := h.blk.lt
  have hle := h.le
  rw [hR8] at h
  obtain ⟨d0, d1, d2, d3, d4, d5, d6, d7⟩ := h.cells8
  clear h hk hFI hb H hR8
  go_enter Tryz.func62, Tryz.ntmps62
  go_wp2_with fail
  refine (HCr.out).mono ?_
  rintro e w1 ⟨us, rfl, m1, hx1⟩
  obtain ⟨B0, B6, B7, e0, e6, e7, rfl, -⟩ := room_sep (Exists.choose_spec m1).1
  clear d0 d1 d2 d3 d4 d5 d6 d7
  have hs1 := hx1.size
  have bR := Blk.new w1 36 #[.slice B0 c.Room.Map.length e0, .int .i64 c.Room.Div, .int .i64 c.Room.Bx, .int .i64 c.Room.By, .int .i64 c.Room.Low, .int .i64 c.Room.High, .slice B6 c.Room.Noise.length e6, .slice B7 c.Room.Limits.length e7]
  have hx2 := hx1.alloc (.cells #[.slice B0 c.Room.Map.length e0, .int .i64 c.Room.Div, .int .i64 c.Room.Bx, .int .i64 c.Room.By, .int .i64 c.Room.Low, .int .i64 c.Room.High, .slice B6 c.Room.Noise.length e6, .slice B7 c.Room.Limits.length e7] 36)
  have m2 := m1.ext ((Ext.refl w1).alloc (.cells #[.slice B0 c.Room.Map.length e0, .int .i64 c.Room.Div, .int .i64 c.Room.Bx, .int .i64 c.Room.By, .int .i64 c.Room.Low, .int .i64 c.Room.High, .slice B6 c.Room.Noise.length e6, .slice B7 c.Room.Limits.length e7] 36))
  have cR := fun o => bR.cell o
  have fR := fun o => bR.frozen o
  have t0 : ∀ cs, (w1.alloc (.cells cs 36)).cell? ⟨gn, on, none⟩ = some (.int .i64 n0) := fun cs => (hx1.alloc _).cellOf hr0
  have t1 : ∀ cs, (w1.alloc (.cells cs 36)).cell? ⟨gn, on + 1, none⟩ = some (.int .i64 n1) := fun cs => (hx1.alloc _).cellOf hr1
  have nb1 : ¬ gn = w1.heap.size := by omega
  have nb2 : ¬ w1.heap.size = gn := by omega
  have HS := Lib.hid (fun V x y R' h hr hg hB hy hFI hL => setRoom_any (w := V) (B := B) (lo := lo) (c := c) (R := R) (W := W) (a := a) (rs := rs) (ps := ps) (qs := qs) ⟨c.Room.Map, c.Room.Div, n0, n1, c.Room.Low, c.Room.High, c.Room.Noise, c.Room.Limits⟩ R' x y true h hr hg hB hy hFI hL)
  go_wp2_with fail
  go_region
  all_goals
    have hEV : Ext w (w1.alloc (.cells #[.slice B0 c.Room.Map.length e0, .int .i64 c.Room.Div, .int .i64 n0, .int .i64 n1, .int .i64 c.Room.Low, .int .i64 c.Room.High, .slice B6 c.Room.Noise.length e6, .slice B7 c.Room.Limits.length e7] 36)).drew := (hx1.alloc _).drew
    have mV := (m1.ext ((Ext.refl w1).alloc (.cells #[.slice B0 c.Room.Map.length e0, .int .i64 c.Room.Div, .int .i64 n0, .int .i64 n1, .int .i64 c.Room.Low, .int .i64 c.Room.High, .slice B6 c.Room.Noise.length e6, .slice B7 c.Room.Limits.length e7] 36))).ext (Ext.refl _).drew
    obtain ⟨a0, b0, a6, b6, a7, b7, p0, p6, p7, q1, q2, q3, k0, k6, k7⟩ := room_split mV
    have mN := room_build (r := ⟨c.Room.Map, c.Room.Div, n0, n1, c.Room.Low, c.Room.High, c.Room.Noise, c.Room.Limits⟩) p0 p6 p7 q1 q2 q3 k0 k6 k7
    have zV := hEV.size
    have zW : (w1.alloc (.cells #[.slice B0 c.Room.Map.length e0, .int .i64 c.Room.Div, .int .i64 n0, .int .i64 n1, .int .i64 c.Room.Low, .int .i64 c.Room.High, .slice B6 c.Room.Noise.length e6, .slice B7 c.Room.Limits.length e7] 36)).drew.heap.size = w1.heap.size + 1 := by simp
    have HS2 := Lib.hid (HS.out _ _ _ _ (HC.out.ext hEV) mN (fun p hp => hle p hp) hlt (by omega) ⟨HFI.out.1, HFI.out.2.1, i0, i1, HFI.out.2.2.2.2.1, HFI.out.2.2.2.2.2.1, HFI.out.2.2.2.2.2.2.1, HFI.out.2.2.2.2.2.2.2⟩ (big_room HBg.out))
    clear zW zV mN mV
    go_wp2_with fail
    refine (HS2.out).mono ?_
    rintro e w4 ⟨rfl, hC4, hT4⟩
    go_wp2
    go_ret2
    exact ⟨rfl, hC4, (Touch.of_ext hEV).trans hT4⟩
set_option maxHeartbeats 8000000 in
theorem changeRange (h : Con w B c lo R W a rs ps qs) (hk : ConOk c) (A : Option Addr) (cn : Nat) (n0 n1 : Int) (hr : Row w A (ints [n0, n1])) (i0 : I64 n0) (i1 : I64 n1) : Calls Tryz.prog 62 #[.pointer (some ⟨B, 0, none⟩), .string (txt (formT wRange 2)), .slice A 2 cn] w (Changed B c (some (setR c ⟨c.Room.Map, c.Room.Div, c.Room.Bx, c.Room.By, n0, n1, c.Room.Noise, c.Room.Limits⟩ true)) lo w) := by
  have q := formCRange
  obtain ⟨gn, on, rfl, hgn, hr0, hr1⟩ := row_two hr
  have hFI := hk.room
  have hb := hk.roomL
  obtain ⟨A0, A6, A7, c0, c6, c7, hR8, H⟩ := room_sep h.room
  have HCr := Lib.hid (implCopyRoom_any c.Room A0 A6 A7 c0 c6 c7 w H hb.1 hb.2.1 hb.2.2)
  have HFI := Lib.hid hFI
  have HBg := Lib.hid hb
  have HC := Lib.hid h
  have hlt := h.blk.lt
  have hle := h.le
  rw [hR8] at h
  obtain ⟨d0, d1, d2, d3, d4, d5, d6, d7⟩ := h.cells8
  clear h hk hFI hb H hR8
  go_enter Tryz.func62, Tryz.ntmps62
  go_wp2_with fail
  refine (HCr.out).mono ?_
  rintro e w1 ⟨us, rfl, m1, hx1⟩
  obtain ⟨B0, B6, B7, e0, e6, e7, rfl, -⟩ := room_sep (Exists.choose_spec m1).1
  clear d0 d1 d2 d3 d4 d5 d6 d7
  have hs1 := hx1.size
  have bR := Blk.new w1 36 #[.slice B0 c.Room.Map.length e0, .int .i64 c.Room.Div, .int .i64 c.Room.Bx, .int .i64 c.Room.By, .int .i64 c.Room.Low, .int .i64 c.Room.High, .slice B6 c.Room.Noise.length e6, .slice B7 c.Room.Limits.length e7]
  have hx2 := hx1.alloc (.cells #[.slice B0 c.Room.Map.length e0, .int .i64 c.Room.Div, .int .i64 c.Room.Bx, .int .i64 c.Room.By, .int .i64 c.Room.Low, .int .i64 c.Room.High, .slice B6 c.Room.Noise.length e6, .slice B7 c.Room.Limits.length e7] 36)
  have m2 := m1.ext ((Ext.refl w1).alloc (.cells #[.slice B0 c.Room.Map.length e0, .int .i64 c.Room.Div, .int .i64 c.Room.Bx, .int .i64 c.Room.By, .int .i64 c.Room.Low, .int .i64 c.Room.High, .slice B6 c.Room.Noise.length e6, .slice B7 c.Room.Limits.length e7] 36))
  have cR := fun o => bR.cell o
  have fR := fun o => bR.frozen o
  have t0 : ∀ cs, (w1.alloc (.cells cs 36)).cell? ⟨gn, on, none⟩ = some (.int .i64 n0) := fun cs => (hx1.alloc _).cellOf hr0
  have t1 : ∀ cs, (w1.alloc (.cells cs 36)).cell? ⟨gn, on + 1, none⟩ = some (.int .i64 n1) := fun cs => (hx1.alloc _).cellOf hr1
  have nb1 : ¬ gn = w1.heap.size := by omega
  have nb2 : ¬ w1.heap.size = gn := by omega
  have HS := Lib.hid (fun V x y R' h hr hg hB hy hFI hL => setRoom_any (w := V) (B := B) (lo := lo) (c := c) (R := R) (W := W) (a := a) (rs := rs) (ps := ps) (qs := qs) ⟨c.Room.Map, c.Room.Div, c.Room.Bx, c.Room.By, n0, n1, c.Room.Noise, c.Room.Limits⟩ R' x y true h hr hg hB hy hFI hL)
  go_wp2_with fail
  go_region
  all_goals
    have hEV : Ext w (w1.alloc (.cells #[.slice B0 c.Room.Map.length e0, .int .i64 c.Room.Div, .int .i64 c.Room.Bx, .int .i64 c.Room.By, .int .i64 n0, .int .i64 n1, .slice B6 c.Room.Noise.length e6, .slice B7 c.Room.Limits.length e7] 36)).drew := (hx1.alloc _).drew
    have mV := (m1.ext ((Ext.refl w1).alloc (.cells #[.slice B0 c.Room.Map.length e0, .int .i64 c.Room.Div, .int .i64 c.Room.Bx, .int .i64 c.Room.By, .int .i64 n0, .int .i64 n1, .slice B6 c.Room.Noise.length e6, .slice B7 c.Room.Limits.length e7] 36))).ext (Ext.refl _).drew
    obtain ⟨a0, b0, a6, b6, a7, b7, p0, p6, p7, q1, q2, q3, k0, k6, k7⟩ := room_split mV
    have mN := room_build (r := ⟨c.Room.Map, c.Room.Div, c.Room.Bx, c.Room.By, n0, n1, c.Room.Noise, c.Room.Limits⟩) p0 p6 p7 q1 q2 q3 k0 k6 k7
    have zV := hEV.size
    have zW : (w1.alloc (.cells #[.slice B0 c.Room.Map.length e0, .int .i64 c.Room.Div, .int .i64 c.Room.Bx, .int .i64 c.Room.By, .int .i64 n0, .int .i64 n1, .slice B6 c.Room.Noise.length e6, .slice B7 c.Room.Limits.length e7] 36)).drew.heap.size = w1.heap.size + 1 := by simp
    have HS2 := Lib.hid (HS.out _ _ _ _ (HC.out.ext hEV) mN (fun p hp => hle p hp) hlt (by omega) ⟨HFI.out.1, HFI.out.2.1, HFI.out.2.2.1, HFI.out.2.2.2.1, i0, i1, HFI.out.2.2.2.2.2.2.1, HFI.out.2.2.2.2.2.2.2⟩ (big_room HBg.out))
    clear zW zV mN mV
    go_wp2_with fail
    refine (HS2.out).mono ?_
    rintro e w4 ⟨rfl, hC4, hT4⟩
    go_wp2
    go_ret2
    exact ⟨rfl, hC4, (Touch.of_ext hEV).trans hT4⟩
set_option maxHeartbeats 8000000 in
theorem changeNoise (h : Con w B c lo R W a rs ps qs) (hk : ConOk c) (A : Option Addr) (cn : Nat) (n0 n1 n2 n3 : Int) (hr : Row w A (ints [n0, n1, n2, n3])) : Calls Tryz.prog 62 #[.pointer (some ⟨B, 0, none⟩), .string (txt (formT wNoise 4)), .slice A 4 cn] w (Changed B c (some (setR c ⟨c.Room.Map, c.Room.Div, c.Room.Bx, c.Room.By, c.Room.Low, c.Room.High, (boxR n0 n1 n2 n3).1, c.Room.Limits⟩ (boxR n0 n1 n2 n3).2)) lo w) := by
  have q := formCNoise
  obtain ⟨gn, on, rfl, hgn, hr0, hr1, hr2, hr3⟩ := row_four hr
  have hFI := hk.room
  have hb := hk.roomL
  obtain ⟨A0, A6, A7, c0, c6, c7, hR8, H⟩ := room_sep h.room
  have HCr := Lib.hid (implCopyRoom_any c.Room A0 A6 A7 c0 c6 c7 w H hb.1 hb.2.1 hb.2.2)
  have HFI := Lib.hid hFI
  have HBg := Lib.hid hb
  have HC := Lib.hid h
  have hlt := h.blk.lt
  have hle := h.le
  rw [hR8] at h
  obtain ⟨d0, d1, d2, d3, d4, d5, d6, d7⟩ := h.cells8
  clear h hk hFI hb H hR8
  go_enter Tryz.func62, Tryz.ntmps62
  go_wp2_with fail
  refine (HCr.out).mono ?_
  rintro e w1 ⟨us, rfl, m1, hx1⟩
  obtain ⟨B0, B6, B7, e0, e6, e7, rfl, -⟩ := room_sep (Exists.choose_spec m1).1
  clear d0 d1 d2 d3 d4 d5 d6 d7
  have hs1 := hx1.size
  have bR := Blk.new w1 36 #[.slice B0 c.Room.Map.length e0, .int .i64 c.Room.Div, .int .i64 c.Room.Bx, .int .i64 c.Room.By, .int .i64 c.Room.Low, .int .i64 c.Room.High, .slice B6 c.Room.Noise.length e6, .slice B7 c.Room.Limits.length e7]
  have hx2 := hx1.alloc (.cells #[.slice B0 c.Room.Map.length e0, .int .i64 c.Room.Div, .int .i64 c.Room.Bx, .int .i64 c.Room.By, .int .i64 c.Room.Low, .int .i64 c.Room.High, .slice B6 c.Room.Noise.length e6, .slice B7 c.Room.Limits.length e7] 36)
  have m2 := m1.ext ((Ext.refl w1).alloc (.cells #[.slice B0 c.Room.Map.length e0, .int .i64 c.Room.Div, .int .i64 c.Room.Bx, .int .i64 c.Room.By, .int .i64 c.Room.Low, .int .i64 c.Room.High, .slice B6 c.Room.Noise.length e6, .slice B7 c.Room.Limits.length e7] 36))
  have cR := fun o => bR.cell o
  have fR := fun o => bR.frozen o
  have nb1 : ¬ gn = w1.heap.size := by omega
  have nb2 : ¬ w1.heap.size = gn := by omega
  have HBx := Lib.hid (fun V => implBoxRegion_any n0 n1 n2 n3 V)
  have HBk : Hid (regOk (boxR n0 n1 n2 n3).1 = true) := boxR_ok n0 n1 n2 n3
  have HBI := Lib.hid (halves_I (regOk_all HBk.out))
  have HBl : Hid (Big (boxR n0 n1 n2 n3).1.length) := by have := regOk_len HBk.out; unfold Hid Big; omega
  generalize boxR n0 n1 n2 n3 = BX at *
  have HS := Lib.hid (fun V x y R' h hr hg hB hy hFI hL => setRoom_any (w := V) (B := B) (lo := lo) (c := c) (R := R) (W := W) (a := a) (rs := rs) (ps := ps) (qs := qs) ⟨c.Room.Map, c.Room.Div, c.Room.Bx, c.Room.By, c.Room.Low, c.Room.High, BX.1, c.Room.Limits⟩ R' x y BX.2 h hr hg hB hy hFI hL)
  have u0 := hx2.cellOf hr0
  have u1 := hx2.cellOf hr1
  have u2 := hx2.cellOf hr2
  have u3 := hx2.cellOf hr3
  have hs2 := hx2.size
  have zz : (w1.alloc (.cells #[.slice B0 c.Room.Map.length e0, .int .i64 c.Room.Div, .int .i64 c.Room.Bx, .int .i64 c.Room.By, .int .i64 c.Room.Low, .int .i64 c.Room.High, .slice B6 c.Room.Noise.length e6, .slice B7 c.Room.Limits.length e7] 36)).heap.size = w1.heap.size + 1 := by simp
  have bl := bR.lt
  have ZZ := Lib.hid zz
  clear zz
  go_wp2_with fail
  generalize w1.alloc (.cells #[.slice B0 c.Room.Map.length e0, .int .i64 c.Room.Div, .int .i64 c.Room.Bx, .int .i64 c.Room.By, .int .i64 c.Room.Low, .int .i64 c.Room.High, .slice B6 c.Room.Noise.length e6, .slice B7 c.Room.Limits.length e7] 36) = w2 at *
  have hcur := Ext.refl w2
  go_region_held3 (fun w' => w'.cell? ⟨gn, on, none⟩ = some (.int .i64 n0) ∧ w'.cell? ⟨gn, on + 1, none⟩ = some (.int .i64 n1) ∧ w'.cell? ⟨gn, on + 2, none⟩ = some (.int .i64 n2) ∧ w'.cell? ⟨gn, on + 3, none⟩ = some (.int .i64 n3))
    (go_keep)
    (first
      | (go_at_call 31; (with_reducible refine (HBx.out _).mono ?_); rintro e w4 hm4; obtain ⟨A4, c4, rfl, p4, hx4⟩ := hm4.aggIn; (try simp only [World.size_drew] at p4); have z4 := hx4.size; (try simp only [World.size_drew] at z4); replace hcur := Ext.trans (by first | exact hcur | exact hcur.drew) hx4; have v0 := hcur.cellOf u0; have v1 := hcur.cellOf u1; have v2 := hcur.cellOf u2; have v3 := hcur.cellOf u3; have bR4 := bR.ext hcur; have cR4 := fun o => bR4.cell o; have fR4 := fun o => bR4.frozen o))
  all_goals
    have hEV := (hx2.trans hcur).setCell (p := ⟨w1.heap.size, 6, none⟩) hs1 (.slice A4 BX.1.length c4)
    have z5 := hcur.size
    have hZ := ZZ.out
    obtain ⟨a0, b0, a6, b6, a7, b7, p0, p6, p7, q1, q2, q3, k0, k6, k7⟩ := room_split (m2.ext hcur)
    have T : Touch w1.heap.size (w1.heap.size + 1) w4 (w4.setCell ⟨w1.heap.size, 6, none⟩ (.slice A4 BX.1.length c4)) := (Touch.refl w1.heap.size (w1.heap.size + 1) w4).setCell (p := ⟨w1.heap.size, 6, none⟩) (Nat.le_refl _) (Nat.lt_succ_self _) _
    have zT := T.size
    replace p0 := p0.touch T (by omega)
    replace p6 := p6.touch T (by omega)
    replace p7 := p7.touch T (by omega)
    replace p4 := p4.touch T (by omega)
    have mN := room_build (r := ⟨c.Room.Map, c.Room.Div, c.Room.Bx, c.Room.By, c.Room.Low, c.Room.High, BX.1, c.Room.Limits⟩) p0 p4 p7 (.inl (by omega)) q2 (.inr (by omega)) (x := w.heap.size) (y := (w4.setCell ⟨w1.heap.size, 6, none⟩ (.slice A4 BX.1.length c4)).heap.size) (by omega) (by omega) (by omega)
    have HS2 := Lib.hid (HS.out _ _ _ _ (HC.out.ext hEV) mN (fun p hp => hle p hp) hlt (Nat.le_refl _) ⟨HFI.out.1, HFI.out.2.1, HFI.out.2.2.1, HFI.out.2.2.2.1, HFI.out.2.2.2.2.1, HFI.out.2.2.2.2.2.1, HBI.out, HFI.out.2.2.2.2.2.2.2⟩ (big_room ⟨HBg.out.1, HBl.out, HBg.out.2.2⟩))
    clear hZ zT T mN
    go_wp2_with fail
    refine (HS2.out).mono ?_
    rintro e w5 ⟨rfl, hC5, hT5⟩
    go_wp2
    go_ret2
    exact ⟨rfl, hC5, (Touch.of_ext hEV).trans hT5⟩
set_option maxHeartbeats 8000000 in
theorem changeLimits (h : Con w B c lo R W a rs ps qs) (hk : ConOk c) (A : Option Addr) (cn : Nat) (n0 n1 n2 n3 : Int) (hr : Row w A (ints [n0, n1, n2, n3])) : Calls Tryz.prog 62 #[.pointer (some ⟨B, 0, none⟩), .string (txt (formT wLimits 4)), .slice A 4 cn] w (Changed B c (some (setR c ⟨c.Room.Map, c.Room.Div, c.Room.Bx, c.Room.By, c.Room.Low, c.Room.High, c.Room.Noise, (boxR n0 n1 n2 n3).1⟩ (boxR n0 n1 n2 n3).2)) lo w) := by
  have q := formCLimits
  obtain ⟨gn, on, rfl, hgn, hr0, hr1, hr2, hr3⟩ := row_four hr
  have hFI := hk.room
  have hb := hk.roomL
  obtain ⟨A0, A6, A7, c0, c6, c7, hR8, H⟩ := room_sep h.room
  have HCr := Lib.hid (implCopyRoom_any c.Room A0 A6 A7 c0 c6 c7 w H hb.1 hb.2.1 hb.2.2)
  have HFI := Lib.hid hFI
  have HBg := Lib.hid hb
  have HC := Lib.hid h
  have hlt := h.blk.lt
  have hle := h.le
  rw [hR8] at h
  obtain ⟨d0, d1, d2, d3, d4, d5, d6, d7⟩ := h.cells8
  clear h hk hFI hb H hR8
  go_enter Tryz.func62, Tryz.ntmps62
  go_wp2_with fail
  refine (HCr.out).mono ?_
  rintro e w1 ⟨us, rfl, m1, hx1⟩
  obtain ⟨B0, B6, B7, e0, e6, e7, rfl, -⟩ := room_sep (Exists.choose_spec m1).1
  clear d0 d1 d2 d3 d4 d5 d6 d7
  have hs1 := hx1.size
  have bR := Blk.new w1 36 #[.slice B0 c.Room.Map.length e0, .int .i64 c.Room.Div, .int .i64 c.Room.Bx, .int .i64 c.Room.By, .int .i64 c.Room.Low, .int .i64 c.Room.High, .slice B6 c.Room.Noise.length e6, .slice B7 c.Room.Limits.length e7]
  have hx2 := hx1.alloc (.cells #[.slice B0 c.Room.Map.length e0, .int .i64 c.Room.Div, .int .i64 c.Room.Bx, .int .i64 c.Room.By, .int .i64 c.Room.Low, .int .i64 c.Room.High, .slice B6 c.Room.Noise.length e6, .slice B7 c.Room.Limits.length e7] 36)
  have m2 := m1.ext ((Ext.refl w1).alloc (.cells #[.slice B0 c.Room.Map.length e0, .int .i64 c.Room.Div, .int .i64 c.Room.Bx, .int .i64 c.Room.By, .int .i64 c.Room.Low, .int .i64 c.Room.High, .slice B6 c.Room.Noise.length e6, .slice B7 c.Room.Limits.length e7] 36))
  have cR := fun o => bR.cell o
  have fR := fun o => bR.frozen o
  have nb1 : ¬ gn = w1.heap.size := by omega
  have nb2 : ¬ w1.heap.size = gn := by omega
  have HBx := Lib.hid (fun V => implBoxRegion_any n0 n1 n2 n3 V)
  have HBk : Hid (regOk (boxR n0 n1 n2 n3).1 = true) := boxR_ok n0 n1 n2 n3
  have HBI := Lib.hid (halves_I (regOk_all HBk.out))
  have HBl : Hid (Big (boxR n0 n1 n2 n3).1.length) := by have := regOk_len HBk.out; unfold Hid Big; omega
  generalize boxR n0 n1 n2 n3 = BX at *
  have HS := Lib.hid (fun V x y R' h hr hg hB hy hFI hL => setRoom_any (w := V) (B := B) (lo := lo) (c := c) (R := R) (W := W) (a := a) (rs := rs) (ps := ps) (qs := qs) ⟨c.Room.Map, c.Room.Div, c.Room.Bx, c.Room.By, c.Room.Low, c.Room.High, c.Room.Noise, BX.1⟩ R' x y BX.2 h hr hg hB hy hFI hL)
  have u0 := hx2.cellOf hr0
  have u1 := hx2.cellOf hr1
  have u2 := hx2.cellOf hr2
  have u3 := hx2.cellOf hr3
  have hs2 := hx2.size
  have zz : (w1.alloc (.cells #[.slice B0 c.Room.Map.length e0, .int .i64 c.Room.Div, .int .i64 c.Room.Bx, .int .i64 c.Room.By, .int .i64 c.Room.Low, .int .i64 c.Room.High, .slice B6 c.Room.Noise.length e6, .slice B7 c.Room.Limits.length e7] 36)).heap.size = w1.heap.size + 1 := by simp
  have bl := bR.lt
  have ZZ := Lib.hid zz
  clear zz
  go_wp2_with fail
  generalize w1.alloc (.cells #[.slice B0 c.Room.Map.length e0, .int .i64 c.Room.Div, .int .i64 c.Room.Bx, .int .i64 c.Room.By, .int .i64 c.Room.Low, .int .i64 c.Room.High, .slice B6 c.Room.Noise.length e6, .slice B7 c.Room.Limits.length e7] 36) = w2 at *
  have hcur := Ext.refl w2
  go_region_held3 (fun w' => w'.cell? ⟨gn, on, none⟩ = some (.int .i64 n0) ∧ w'.cell? ⟨gn, on + 1, none⟩ = some (.int .i64 n1) ∧ w'.cell? ⟨gn, on + 2, none⟩ = some (.int .i64 n2) ∧ w'.cell? ⟨gn, on + 3, none⟩ = some (.int .i64 n3))
    (go_keep)
    (first
      | (go_at_call 31; (with_reducible refine (HBx.out _).mono ?_); rintro e w4 hm4; obtain ⟨A4, c4, rfl, p4, hx4⟩ := hm4.aggIn; (try simp only [World.size_drew] at p4); have z4 := hx4.size; (try simp only [World.size_drew] at z4); replace hcur := Ext.trans (by first | exact hcur | exact hcur.drew) hx4; have v0 := hcur.cellOf u0; have v1 := hcur.cellOf u1; have v2 := hcur.cellOf u2; have v3 := hcur.cellOf u3; have bR4 := bR.ext hcur; have cR4 := fun o => bR4.cell o; have fR4 := fun o => bR4.frozen o))
  all_goals
    have hEV := (hx2.trans hcur).setCell (p := ⟨w1.heap.size, 7, none⟩) hs1 (.slice A4 BX.1.length c4)
    have z5 := hcur.size
    have hZ := ZZ.out
    obtain ⟨a0, b0, a6, b6, a7, b7, p0, p6, p7, q1, q2, q3, k0, k6, k7⟩ := room_split (m2.ext hcur)
    have T : Touch w1.heap.size (w1.heap.size + 1) w4 (w4.setCell ⟨w1.heap.size, 7, none⟩ (.slice A4 BX.1.length c4)) := (Touch.refl w1.heap.size (w1.heap.size + 1) w4).setCell (p := ⟨w1.heap.size, 7, none⟩) (Nat.le_refl _) (Nat.lt_succ_self _) _
    have zT := T.size
    replace p0 := p0.touch T (by omega)
    replace p6 := p6.touch T (by omega)
    replace p7 := p7.touch T (by omega)
    replace p4 := p4.touch T (by omega)
    have mN := room_build (r := ⟨c.Room.Map, c.Room.Div, c.Room.Bx, c.Room.By, c.Room.Low, c.Room.High, c.Room.Noise, BX.1⟩) p0 p6 p4 q1 (.inl (by omega)) (.inl (by omega)) (x := w.heap.size) (y := (w4.setCell ⟨w1.heap.size, 7, none⟩ (.slice A4 BX.1.length c4)).heap.size) (by omega) (by omega) (by omega)
    have HS2 := Lib.hid (HS.out _ _ _ _ (HC.out.ext hEV) mN (fun p hp => hle p hp) hlt (Nat.le_refl _) ⟨HFI.out.1, HFI.out.2.1, HFI.out.2.2.1, HFI.out.2.2.2.1, HFI.out.2.2.2.2.1, HFI.out.2.2.2.2.2.1, HFI.out.2.2.2.2.2.2.1, HBI.out⟩ (big_room ⟨HBg.out.1, HBg.out.2.1, HBl.out⟩))
    clear hZ zT T mN
    go_wp2_with fail
    refine (HS2.out).mono ?_
    rintro e w5 ⟨rfl, hC5, hT5⟩
    go_wp2
    go_ret2
    exact ⟨rfl, hC5, (Touch.of_ext hEV).trans hT5⟩
set_option maxHeartbeats 8000000 in
theorem changeMap (h : Con w B c lo R W a rs ps qs) (hk : ConOk c) (A : Option Addr) (cn : Nat) (hcn : 5 ≤ cn) (n0 n1 n2 n3 n4 : Int) (hr : Row w A (ints [n0, n1, n2, n3, n4])) (i0 : I64 n0) (i1 : I64 n1) (i2 : I64 n2) (i3 : I64 n3) (i4 : I64 n4) : Calls Tryz.prog 62 #[.pointer (some ⟨B, 0, none⟩), .string (txt (formT wMap 5)), .slice A 5 cn] w (Changed B c (some (setR c ⟨[n0, n1, n2, n3], n4, c.Room.Bx, c.Room.By, c.Room.Low, c.Room.High, c.Room.Noise, c.Room.Limits⟩ true)) lo w) := by
  have q := formCMap
  obtain ⟨gn, on, hAe, hgn, hr4⟩ := hr.int (k := 4) (by simp)
  subst hAe
  have HRw := Lib.hid (row_take4 hr)
  have hr4' : w.cell? ⟨gn, on + 4, none⟩ = some (.int .i64 n4) := hr4
  clear hr hr4
  have hFI := hk.room
  have hb := hk.roomL
  obtain ⟨A0, A6, A7, c0, c6, c7, hR8, H⟩ := room_sep h.room
  have HCr := Lib.hid (implCopyRoom_any c.Room A0 A6 A7 c0 c6 c7 w H hb.1 hb.2.1 hb.2.2)
  have HFI := Lib.hid hFI
  have HBg := Lib.hid hb
  have HC := Lib.hid h
  have hlt := h.blk.lt
  have hle := h.le
  rw [hR8] at h
  obtain ⟨d0, d1, d2, d3, d4, d5, d6, d7⟩ := h.cells8
  clear h hk hFI hb H hR8
  go_enter Tryz.func62, Tryz.ntmps62
  go_wp2_with fail
  refine (HCr.out).mono ?_
  rintro e w1 ⟨us, rfl, m1, hx1⟩
  obtain ⟨B0, B6, B7, e0, e6, e7, rfl, -⟩ := room_sep (Exists.choose_spec m1).1
  clear d0 d1 d2 d3 d4 d5 d6 d7
  have hs1 := hx1.size
  have bR := Blk.new w1 36 #[.slice B0 c.Room.Map.length e0, .int .i64 c.Room.Div, .int .i64 c.Room.Bx, .int .i64 c.Room.By, .int .i64 c.Room.Low, .int .i64 c.Room.High, .slice B6 c.Room.Noise.length e6, .slice B7 c.Room.Limits.length e7]
  have hx2 := hx1.alloc (.cells #[.slice B0 c.Room.Map.length e0, .int .i64 c.Room.Div, .int .i64 c.Room.Bx, .int .i64 c.Room.By, .int .i64 c.Room.Low, .int .i64 c.Room.High, .slice B6 c.Room.Noise.length e6, .slice B7 c.Room.Limits.length e7] 36)
  have m2 := m1.ext ((Ext.refl w1).alloc (.cells #[.slice B0 c.Room.Map.length e0, .int .i64 c.Room.Div, .int .i64 c.Room.Bx, .int .i64 c.Room.By, .int .i64 c.Room.Low, .int .i64 c.Room.High, .slice B6 c.Room.Noise.length e6, .slice B7 c.Room.Limits.length e7] 36))
  have cR := fun o => bR.cell o
  have fR := fun o => bR.frozen o
  have nb1 : ¬ gn = w1.heap.size := by omega
  have nb2 : ¬ w1.heap.size = gn := by omega
  have HCl := Lib.hid (fun V hV => cloneI_any (some ⟨gn, on, none⟩) 4 cn [n0, n1, n2, n3] V rfl (HRw.out.ext hV) (by rintro ⟨⟩) (by omega))
  have HMI : Hid (∀ z ∈ [n0, n1, n2, n3], I64 z) := by
    intro z hz
    simp only [List.mem_cons, List.not_mem_nil, or_false] at hz
    rcases hz with rfl | rfl | rfl | rfl <;> assumption
  have HS := Lib.hid (fun V x y R' h hr hg hB hy hFI hL => setRoom_any (w := V) (B := B) (lo := lo) (c := c) (R := R) (W := W) (a := a) (rs := rs) (ps := ps) (qs := qs) ⟨[n0, n1, n2, n3], n4, c.Room.Bx, c.Room.By, c.Room.Low, c.Room.High, c.Room.Noise, c.Room.Limits⟩ R' x y true h hr hg hB hy hFI hL)
  have u4 := hx2.cellOf hr4'
  have hs2 := hx2.size
  have hcn4 : (4 : Int) ≤ (cn : Int) := by omega
  have zz : (w1.alloc (.cells #[.slice B0 c.Room.Map.length e0, .int .i64 c.Room.Div, .int .i64 c.Room.Bx, .int .i64 c.Room.By, .int .i64 c.Room.Low, .int .i64 c.Room.High, .slice B6 c.Room.Noise.length e6, .slice B7 c.Room.Limits.length e7] 36)).heap.size = w1.heap.size + 1 := by simp
  have bl := bR.lt
  have ZZ := Lib.hid zz
  clear zz
  go_wp2_with fail
  generalize w1.alloc (.cells #[.slice B0 c.Room.Map.length e0, .int .i64 c.Room.Div, .int .i64 c.Room.Bx, .int .i64 c.Room.By, .int .i64 c.Room.Low, .int .i64 c.Room.High, .slice B6 c.Room.Noise.length e6, .slice B7 c.Room.Limits.length e7] 36) = w2 at *
  have hcur := Ext.refl w2
  go_region_held3 (fun w' => w'.cell? ⟨gn, on + 4, none⟩ = some (.int .i64 n4))
    (go_keep)
    (first
      | (go_at_call 114; (with_reducible refine (HCl.out _ (by exact hx2.trans (by first | exact hcur | exact hcur.drew))).mono ?_); rintro e w4 ⟨A4, c4, rfl, m4, hx4⟩; have p4 := AggIn.one m4 hx4.size; (try simp only [World.size_drew] at p4); have z4 := hx4.size; (try simp only [World.size_drew] at z4); replace hcur := Ext.trans (by first | exact hcur | exact hcur.drew) hx4; have v4 := hcur.cellOf u4; have bR4 := bR.ext hcur; have cR4 := fun o => bR4.cell o; have fR4 := fun o => bR4.frozen o))
  all_goals
    have hEV := ((hx2.trans hcur).setCell (p := ⟨w1.heap.size, 0, none⟩) hs1 (.slice A4 4 c4)).setCell (p := ⟨w1.heap.size, 1, none⟩) hs1 (.int .i64 n4)
    have z5 := hcur.size
    have hZ := ZZ.out
    obtain ⟨a0, b0, a6, b6, a7, b7, p0, p6, p7, q1, q2, q3, k0, k6, k7⟩ := room_split (m2.ext hcur)
    have T : Touch w1.heap.size (w1.heap.size + 1) w4 ((w4.setCell ⟨w1.heap.size, 0, none⟩ (.slice A4 4 c4)).setCell ⟨w1.heap.size, 1, none⟩ (.int .i64 n4)) := ((Touch.refl w1.heap.size (w1.heap.size + 1) w4).setCell (p := ⟨w1.heap.size, 0, none⟩) (Nat.le_refl _) (Nat.lt_succ_self _) _).setCell (p := ⟨w1.heap.size, 1, none⟩) (Nat.le_refl _) (Nat.lt_succ_self _) _
    have zT := T.size
    replace p6 := p6.touch T (by omega)
    replace p7 := p7.touch T (by omega)
    replace p4 := p4.touch T (by omega)
    have mN := room_build (r := ⟨[n0, n1, n2, n3], n4, c.Room.Bx, c.Room.By, c.Room.Low, c.Room.High, c.Room.Noise, c.Room.Limits⟩) p4 p6 p7 (.inr (by omega)) (.inr (by omega)) q3 (x := w.heap.size) (y := ((w4.setCell ⟨w1.heap.size, 0, none⟩ (.slice A4 4 c4)).setCell ⟨w1.heap.size, 1, none⟩ (.int .i64 n4)).heap.size) (by omega) (by omega) (by omega)
    have HS2 := Lib.hid (HS.out _ _ _ _ (HC.out.ext hEV) mN (fun p hp => hle p hp) hlt (Nat.le_refl _) ⟨HMI.out, i4, HFI.out.2.2.1, HFI.out.2.2.2.1, HFI.out.2.2.2.2.1, HFI.out.2.2.2.2.2.1, HFI.out.2.2.2.2.2.2.1, HFI.out.2.2.2.2.2.2.2⟩ (big_room ⟨(show Big [n0, n1, n2, n3].length by unfold Big; simp), HBg.out.2.1, HBg.out.2.2⟩))
    clear hZ zT T mN
    go_wp2_with fail
    refine (HS2.out).mono ?_
    rintro e w5 ⟨rfl, hC5, hT5⟩
    go_wp2
    go_ret2
    exact ⟨rfl, hC5, (Touch.of_ext hEV).trans hT5⟩
set_option maxHeartbeats 4000000 in
theorem changeNone (h : Con w B c lo R W a rs ps qs) (hk : ConOk c) {wd : List UInt8} {m : Nat} (hw : (32 : UInt8) ∉ wd) (hm : m ≤ 2000000) (h0 : ¬ (wd = wMap ∧ m = 5)) (h1 : ¬ (wd = wDrive ∧ m = 2)) (h2 : ¬ (wd = wRange ∧ m = 2)) (h3 : ¬ (wd = wNoise ∧ m = 4)) (h4 : ¬ (wd = wLimits ∧ m = 4)) (h5 : ¬ (wd = wCut ∧ m = 3)) (A : Option Addr) (cn : Nat) : Calls Tryz.prog 62 #[.pointer (some ⟨B, 0, none⟩), .string (txt (formT wd m)), .slice A m cn] w (Changed B c none lo w) := by
  have x0 := form_no hw freeCMap hm (by omega) formCMap h0
  have y0 := decide_eq_false x0
  have z0 := beq_eq_false_iff_ne.2 x0
  have x1 := form_no hw freeCDrive hm (by omega) formCDrive h1
  have y1 := decide_eq_false x1
  have z1 := beq_eq_false_iff_ne.2 x1
  have x2 := form_no hw freeCRange hm (by omega) formCRange h2
  have y2 := decide_eq_false x2
  have z2 := beq_eq_false_iff_ne.2 x2
  have x3 := form_no hw freeCNoise hm (by omega) formCNoise h3
  have y3 := decide_eq_false x3
  have z3 := beq_eq_false_iff_ne.2 x3
  have x4 := form_no hw freeCLimits hm (by omega) formCLimits h4
  have y4 := decide_eq_false x4
  have z4 := beq_eq_false_iff_ne.2 x4
  have x5 := form_no hw freeCCut hm (by omega) formCCut h5
  have y5 := decide_eq_false x5
  have z5 := beq_eq_false_iff_ne.2 x5
  have hFI := hk.room
  have hb := hk.roomL
  obtain ⟨A0, A6, A7, c0, c6, c7, hR8, H⟩ := room_sep h.room
  have HCr := Lib.hid (implCopyRoom_any c.Room A0 A6 A7 c0 c6 c7 w H hb.1 hb.2.1 hb.2.2)
  have HFI := Lib.hid hFI
  have HBg := Lib.hid hb
  have HC := Lib.hid h
  have hlt := h.blk.lt
  have hle := h.le
  rw [hR8] at h
  obtain ⟨d0, d1, d2, d3, d4, d5, d6, d7⟩ := h.cells8
  clear h hk hFI hb H hR8
  go_enter Tryz.func62, Tryz.ntmps62
  go_wp2_with fail
  refine (HCr.out).mono ?_
  rintro e w1 ⟨us, rfl, m1, hx1⟩
  obtain ⟨B0, B6, B7, e0, e6, e7, rfl, -⟩ := room_sep (Exists.choose_spec m1).1
  clear d0 d1 d2 d3 d4 d5 d6 d7
  have hs1 := hx1.size
  have bR := Blk.new w1 36 #[.slice B0 c.Room.Map.length e0, .int .i64 c.Room.Div, .int .i64 c.Room.Bx, .int .i64 c.Room.By, .int .i64 c.Room.Low, .int .i64 c.Room.High, .slice B6 c.Room.Noise.length e6, .slice B7 c.Room.Limits.length e7]
  have hx2 := hx1.alloc (.cells #[.slice B0 c.Room.Map.length e0, .int .i64 c.Room.Div, .int .i64 c.Room.Bx, .int .i64 c.Room.By, .int .i64 c.Room.Low, .int .i64 c.Room.High, .slice B6 c.Room.Noise.length e6, .slice B7 c.Room.Limits.length e7] 36)
  have m2 := m1.ext ((Ext.refl w1).alloc (.cells #[.slice B0 c.Room.Map.length e0, .int .i64 c.Room.Div, .int .i64 c.Room.Bx, .int .i64 c.Room.By, .int .i64 c.Room.Low, .int .i64 c.Room.High, .slice B6 c.Room.Noise.length e6, .slice B7 c.Room.Limits.length e7] 36))
  have cR := fun o => bR.cell o
  have fR := fun o => bR.frozen o
  go_wp2
  go_ret2
  exact ⟨rfl, hx2⟩
set_option maxHeartbeats 8000000 in
theorem changeCut (h : Con w B c lo R W a rs ps qs) (hk : ConOk c) (A : Option Addr) (cn : Nat) (n0 n1 n2 : Int) (hr : Row w A (ints [n0, n1, n2])) (i0 : I64 n0) (i1 : I64 n1) (i2 : I64 n2) : Calls Tryz.prog 62 #[.pointer (some ⟨B, 0, none⟩), .string (txt (formT wCut 3)), .slice A 3 cn] w (Changed B c (some (setR c ⟨c.Room.Map, c.Room.Div, c.Room.Bx, c.Room.By, c.Room.Low, c.Room.High, c.Room.Noise, (cutR c.Room.Limits (halfOfZ n0 n1 n2).1).1⟩ ((cutR c.Room.Limits (halfOfZ n0 n1 n2).1).2 && (halfOfZ n0 n1 n2).2))) lo w) := by
  have q := formCCut
  obtain ⟨gn, on, rfl, hgn, hr0, hr1, hr2⟩ := row_three hr
  have hFI := hk.room
  have hb := hk.roomL
  obtain ⟨A0, A6, A7, c0, c6, c7, hR8, H⟩ := room_sep h.room
  have HCr := Lib.hid (implCopyRoom_any c.Room A0 A6 A7 c0 c6 c7 w H hb.1 hb.2.1 hb.2.2)
  have HFI := Lib.hid hFI
  have HBg := Lib.hid hb
  have HC := Lib.hid h
  have hlt := h.blk.lt
  have hle := h.le
  rw [hR8] at h
  obtain ⟨d0, d1, d2, d3, d4, d5, d6, d7⟩ := h.cells8
  clear h hk hFI hb H hR8
  go_enter Tryz.func62, Tryz.ntmps62
  go_wp2_with fail
  refine (HCr.out).mono ?_
  rintro e w1 ⟨us, rfl, m1, hx1⟩
  obtain ⟨B0, B6, B7, e0, e6, e7, rfl, -⟩ := room_sep (Exists.choose_spec m1).1
  clear d0 d1 d2 d3 d4 d5 d6 d7
  have hs1 := hx1.size
  have bR := Blk.new w1 36 #[.slice B0 c.Room.Map.length e0, .int .i64 c.Room.Div, .int .i64 c.Room.Bx, .int .i64 c.Room.By, .int .i64 c.Room.Low, .int .i64 c.Room.High, .slice B6 c.Room.Noise.length e6, .slice B7 c.Room.Limits.length e7]
  have hx2 := hx1.alloc (.cells #[.slice B0 c.Room.Map.length e0, .int .i64 c.Room.Div, .int .i64 c.Room.Bx, .int .i64 c.Room.By, .int .i64 c.Room.Low, .int .i64 c.Room.High, .slice B6 c.Room.Noise.length e6, .slice B7 c.Room.Limits.length e7] 36)
  have m2 := m1.ext ((Ext.refl w1).alloc (.cells #[.slice B0 c.Room.Map.length e0, .int .i64 c.Room.Div, .int .i64 c.Room.Bx, .int .i64 c.Room.By, .int .i64 c.Room.Low, .int .i64 c.Room.High, .slice B6 c.Room.Noise.length e6, .slice B7 c.Room.Limits.length e7] 36))
  have cR := fun o => bR.cell o
  have fR := fun o => bR.frozen o
  have nb1 : ¬ gn = w1.heap.size := by omega
  have nb2 : ¬ w1.heap.size = gn := by omega
  have HHf := Lib.hid (fun V => implHalfOf_any n0 n1 n2 V i0 i1 i2)
  have HHI := Lib.hid (halfOfZ_in n0 n1 n2)
  have HCk : Hid (∀ h, regOk (cutR c.Room.Limits h).1 = true) := fun h => cutR_ok c.Room.Limits h
  generalize halfOfZ n0 n1 n2 = HZ at *
  obtain ⟨hz, okh⟩ := HZ
  dsimp only at *
  have HCC := Lib.hid (HCk.out hz)
  have HCu := Lib.hid (fun A k V hr hA => implCutRegion_any A c.Room.Limits.length k c.Room.Limits hz V rfl hr hA HFI.out.2.2.2.2.2.2.2 (by have := HBg.out.2.2; unfold Big at this; unfold maxLen; omega) HHI.out.1 HHI.out.2.1 HHI.out.2.2)
  clear HCk HHI
  generalize cutR c.Room.Limits hz = CR at *
  obtain ⟨CX, okc⟩ := CR
  dsimp only at *
  have HS := Lib.hid (fun b V x y R' h hr hg hB hy hFI hL => setRoom_any (w := V) (B := B) (lo := lo) (c := c) (R := R) (W := W) (a := a) (rs := rs) (ps := ps) (qs := qs) ⟨c.Room.Map, c.Room.Div, c.Room.Bx, c.Room.By, c.Room.Low, c.Room.High, c.Room.Noise, CX⟩ R' x y b h hr hg hB hy hFI hL)
  have u0 := hx2.cellOf hr0
  have u1 := hx2.cellOf hr1
  have u2 := hx2.cellOf hr2
  have hs2 := hx2.size
  have zz : (w1.alloc (.cells #[.slice B0 c.Room.Map.length e0, .int .i64 c.Room.Div, .int .i64 c.Room.Bx, .int .i64 c.Room.By, .int .i64 c.Room.Low, .int .i64 c.Room.High, .slice B6 c.Room.Noise.length e6, .slice B7 c.Room.Limits.length e7] 36)).heap.size = w1.heap.size + 1 := by simp
  have bl := bR.lt
  have ZZ := Lib.hid zz
  clear zz
  go_upto_region 16 with fail
  generalize w1.alloc (.cells #[.slice B0 c.Room.Map.length e0, .int .i64 c.Room.Div, .int .i64 c.Room.Bx, .int .i64 c.Room.By, .int .i64 c.Room.Low, .int .i64 c.Room.High, .slice B6 c.Room.Noise.length e6, .slice B7 c.Room.Limits.length e7] 36) = w2 at *
  go_cut [10, 11] from 88 to 100 (fun p o wx => HalfCut hz okh w2 p o wx)
  case first =>
    have hcur := Ext.refl w2
    have nb3 : ¬ gn = w2.heap.size := by omega
    have nb4 : ¬ w2.heap.size = gn := by omega
    go_region_held3 (fun w' => w'.cell? ⟨gn, on, none⟩ = some (.int .i64 n0) ∧ w'.cell? ⟨gn, on + 1, none⟩ = some (.int .i64 n1) ∧ w'.cell? ⟨gn, on + 2, none⟩ = some (.int .i64 n2))
      (go_keep)
      (first
        | (go_at_call 115; (with_reducible refine (HHf.out _).mono ?_); rintro e w4 ⟨rfl, hx4⟩; (first | have hx8 := (Ext.refl _).drew.trans hx4 | have hx8 := hx4); replace hcur := Ext.trans (by first | exact hcur | exact hcur.drew | exact hcur.alloc _ | exact hcur.drew.alloc _ | exact (hcur.alloc _).drew) hx4; have y4 := hcur.size; have na1 : ¬ gn = w4.heap.size := (by omega); have na2 : ¬ w4.heap.size = gn := (by omega); have g0 := hcur.cellOf u0; have g1 := hcur.cellOf u1; have g2 := hcur.cellOf u2; (first | (have gA : Blk w4 w2.heap.size 116 #[.int .i64 0, .int .i64 0, .int .i64 0] := (Blk.new w2 _ _).ext hx8; have gAc := fun o => gA.cell o; have gAf := fun o => gA.frozen o; have gAl := gA.lt) | skip)))
    all_goals
      go_wp2_with fail
      go_meet
      case rel => first | (with_reducible exact HalfCut.new hcur) | (with_reducible exact HalfCut.old hcur (Nat.le_refl _) gA)
  case rest =>
  obtain ⟨wA, rfl⟩ : ∃ W, W = wc := ⟨_, rfl⟩
  obtain ⟨g, rfl, rfl, hg, hE, bG⟩ := hcut
  have cG := fun o => bG.cell o
  have bRA := bR.ext hE
  have cRA := fun o => bRA.cell o
  have sA := hE.size
  obtain ⟨a0, b0, a6, b6, a7, b7, p0, p6, p7, q1, q2, q3, k0, k6, k7⟩ := room_split (m2.ext hE)
  obtain ⟨A7', c7', e7', o7⟩ := p7.one_inv
  cases e7'
  go_wp2_with fail
  refine (HCu.out B7 e7 _ o7.row o7.none).mono ?_
  rintro e w4 hm4
  obtain ⟨A4, c4, rfl, p4, hx4⟩ := hm4.aggIn
  dsimp only at *
  have z4 := hx4.size
  have bR4 := bRA.ext hx4
  have cR4 := fun o => bR4.cell o
  have fR4 := fun o => bR4.frozen o
  have hEV := ((hx2.trans hE).trans hx4).setCell (p := ⟨w1.heap.size, 7, none⟩) hs1 (.slice A4 CX.length c4)
  have hZ := ZZ.out
  have T : Touch w1.heap.size (w1.heap.size + 1) w4 (w4.setCell ⟨w1.heap.size, 7, none⟩ (.slice A4 CX.length c4)) := (Touch.refl w1.heap.size (w1.heap.size + 1) w4).setCell (p := ⟨w1.heap.size, 7, none⟩) (Nat.le_refl _) (Nat.lt_succ_self _) _
  have zT := T.size
  replace p0 := (p0.ext hx4).touch T (by omega)
  replace p6 := (p6.ext hx4).touch T (by omega)
  replace p4 := p4.touch T (by omega)
  have mN := room_build (r := ⟨c.Room.Map, c.Room.Div, c.Room.Bx, c.Room.By, c.Room.Low, c.Room.High, c.Room.Noise, CX⟩) p0 p6 p4 q1 (.inl (by omega)) (.inl (by omega)) (x := w.heap.size) (y := (w4.setCell ⟨w1.heap.size, 7, none⟩ (.slice A4 CX.length c4)).heap.size) (by omega) (by omega) (by omega)
  have HS2 := Lib.hid (fun b => HS.out b _ _ _ _ (HC.out.ext hEV) mN (fun p hp => hle p hp) hlt (Nat.le_refl _) ⟨HFI.out.1, HFI.out.2.1, HFI.out.2.2.1, HFI.out.2.2.2.1, HFI.out.2.2.2.2.1, HFI.out.2.2.2.2.2.1, HFI.out.2.2.2.2.2.2.1, halves_I (regOk_all HCC.out)⟩ (big_room ⟨HBg.out.1, HBg.out.2.1, (show Big CX.length by have := regOk_len HCC.out; unfold Big; omega)⟩))
  clear hZ zT T mN
  cases okc
  · go_wp2_with fail
    refine (HS2.out false).mono ?_
    rintro e w5 ⟨rfl, hC5, hT5⟩
    go_wp2
    go_ret2
    exact ⟨rfl, hC5, (Touch.of_ext hEV).trans hT5⟩
  · go_wp2_with fail
    refine (HS2.out okh).mono ?_
    rintro e w5 ⟨rfl, hC5, hT5⟩
    go_wp2
    go_ret2
    exact ⟨rfl, hC5, (Touch.of_ext hEV).trans hT5⟩
end
theorem ansLen5 {l : List Int} (h : l.length = 5) : ∃ a b c d e, l = [a, b, c, d, e] := by
  match l, h with
  | [a, b, c, d, e], _ => exact ⟨a, b, c, d, e, rfl⟩
theorem change_ok : ChangeOk := by
  intro B lo c wd A m cn ns w hC hk hw hl hm hcn hr hI ht
  obtain ⟨R, W, a, rs, ps, qs, h⟩ := hC
  by_cases h0 : wd = wMap ∧ m = 5
  · obtain ⟨rfl, rfl⟩ := h0
    obtain ⟨n0, n1, n2, n3, n4, rfl⟩ := ansLen5 hl
    exact changeMap h hk A cn hcn n0 n1 n2 n3 n4 hr (hI _ (by simp)) (hI _ (by simp)) (hI _ (by simp)) (hI _ (by simp)) (hI _ (by simp))
  by_cases h1 : wd = wDrive ∧ m = 2
  · obtain ⟨rfl, rfl⟩ := h1
    obtain ⟨n0, n1, rfl⟩ := ansLen2 hl
    exact changeDrive h hk A cn n0 n1 hr (hI _ (by simp)) (hI _ (by simp))
  by_cases h2 : wd = wRange ∧ m = 2
  · obtain ⟨rfl, rfl⟩ := h2
    obtain ⟨n0, n1, rfl⟩ := ansLen2 hl
    exact changeRange h hk A cn n0 n1 hr (hI _ (by simp)) (hI _ (by simp))
  by_cases h3 : wd = wNoise ∧ m = 4
  · obtain ⟨rfl, rfl⟩ := h3
    obtain ⟨n0, n1, n2, n3, rfl⟩ := ansLen4 hl
    exact changeNoise h hk A cn n0 n1 n2 n3 hr
  by_cases h4 : wd = wLimits ∧ m = 4
  · obtain ⟨rfl, rfl⟩ := h4
    obtain ⟨n0, n1, n2, n3, rfl⟩ := ansLen4 hl
    exact changeLimits h hk A cn n0 n1 n2 n3 hr
  by_cases h5 : wd = wCut ∧ m = 3
  · obtain ⟨rfl, rfl⟩ := h5
    obtain ⟨n0, n1, n2, rfl⟩ := ansLen3 hl
    exact changeCut h hk A cn n0 n1 n2 hr (hI _ (by simp)) (hI _ (by simp)) (hI _ (by simp))
  have e : changeR c wd ns = none := by
    subst hl
    unfold changeR
    rw [if_neg h0, if_neg h1, if_neg h2, if_neg h3, if_neg h4, if_neg h5]
  rw [e]
  exact changeNone h hk hw (by omega) h0 h1 h2 h3 h4 h5 A cn
theorem run_any (B lo : Nat) (c : Console) (s : ByteArray) (w : World) (h : ConAt w B c lo) (hk : ConOk c) (hs : s.size ≤ 1048576) (ht : Tab w) (he : Ers w) (hgl : 0 < lo) :
    Calls Tryz.prog 25 #[.pointer (some ⟨B, 0, none⟩), .string s] w (Did B (lineR c s.data.toList) lo w) := run_of change_ok answer_ok B lo c s w h hk hs ht he hgl
end Go.Proofs.YtfnmbpjkjajpcaaGreatDoor
namespace Go.Proofs.YtfnmbpjkjajpcaaGreatDoor
open Go.ChangeShapes Go.WideShapes Go.ChangeAt Go.RowKit
set_option linter.unusedVariables false
set_option maxRecDepth 100000
theorem byteCells_txt (L : List UInt8) : Lib.strCells (txt L) = Lib.byteCells L := by
  unfold Lib.strCells
  rw [txt_list]
  rfl
theorem byteCells_append (a b : List UInt8) : Lib.byteCells a ++ Lib.byteCells b = Lib.byteCells (a ++ b) := by
  unfold Lib.byteCells
  rw [List.map_append]
theorem sess_long {L : List UInt8} (h : 40 < (linesOf L).length) : sessR L = ([], -1) := by unfold sessR; rw [if_pos h]
theorem sess_yes {L : List UInt8} (h : ¬ 40 < (linesOf L).length) : sessR L = ((linesR newConsole (linesOf L)).2, ((linesOf L).length : Int)) := by unfold sessR; rw [if_neg h]
theorem lines_small (L : List UInt8) : ∀ x ∈ linesOf L, x.length ≤ L.length := by
  intro x hx
  refine splitC_small 10 L x ?_
  unfold linesOf at hx
  split at hx
  · exact List.dropLast_subset _ hx
  · exact hx
theorem take_snoc {α : Type} {l : List α} {k : Nat} (h : k < l.length) : l.take (k + 1) = l.take k ++ [l[k]] := by
  rw [List.take_add_one, List.getElem?_eq_getElem h]
  rfl
set_option maxHeartbeats 8000000 in
theorem runSession_of (HCh : ChangeOk) (HAn : AnswerOk) (s : ByteArray) (w : World) (hs : s.size ≤ 1048576) (ht : Tab w) (he : Ers w) (hm : Spl w) :
    Calls Tryz.prog 9 #[.string s] w fun e w' => e = .returned (.tuple #[.string (txt (sessR s.data.toList).1), .int .i64 (sessR s.data.toList).2]) ∧ Ext w w' := by
  have hgl : 0 < w.heap.size := by
    have h := ht
    unfold Tab Lib.TabIs World.var? at h
    rw [gTab] at h
    simp only [Option.bind_some] at h
    rcases Nat.lt_or_ge 0 w.heap.size with q | q
    · exact q
    · rw [Array.getElem?_eq_none q] at h
      cases h
  have HSp := Lib.hid (fun w hm => implSplitLines_any s hs w hm)
  have HRun := Lib.hid (fun B c s' w' h hk hs ht he => run_of HCh HAn B w.heap.size c s' w' h hk hs ht he hgl)
  have HSm : Hid (∀ x ∈ linesOf s.data.toList, x.length ≤ 1048576) := fun x hx => Nat.le_trans (lines_small _ x hx) (by rw [show s.data.toList.length = s.size from Array.length_toList ..]; exact hs)
  have HLong := Lib.hid (fun h => sess_long (L := s.data.toList) h)
  have HYes := Lib.hid (fun h => sess_yes (L := s.data.toList) h)
  have HT := Lib.hid ht
  have HE := Lib.hid he
  clear ht he hs HCh HAn
  generalize linesOf s.data.toList = LS at *
  generalize sessR s.data.toList = X at *
  go_enter Tryz.func9, Tryz.ntmps9
  go_wp2_with fail
  refine (HSp.out _ hm).mono ?_
  rintro e w1 ⟨A1, c1, rfl, hrow, hx1⟩
  clear hm
  obtain ⟨n, hn⟩ : ∃ n, LS.length = n := ⟨_, rfl⟩
  rw [hn] at HLong HYes ⊢
  have HN := Lib.hid hn
  clear hn
  have HR := Lib.hid hrow
  clear hrow
  by_cases h40 : 40 < n
  · have H := Lib.hid (HLong.out h40)
    have h1 : (40 : Int) < (n : Int) := by omega
    have h2 : decide ((40 : Int) < (n : Int)) = true := decide_eq_true h1
    clear h40
    go_wp2
    go_ret2
    rw [H.out]
    exact ⟨rfl, hx1⟩
  have H := Lib.hid (HYes.out h40)
  have h1 : ¬ (40 : Int) < (n : Int) := by omega
  have h2 : decide ((40 : Int) < (n : Int)) = false := decide_eq_false h1
  go_wp2_with fail
  refine (implNewConsole_any _).mono ?_
  rintro e w2 ⟨us, rs, rfl, hsep, hap, hbd, hx2⟩
  have hsz1 := hx1.size
  have hsz2 := hx2.size
  have hlen : us.toArray.size = 22 := by
    rw [List.size_toArray, hsep.len]
    rfl
  have hone : us.toArray.all (·.oneCell') = true := by
    rw [Array.all_eq_true]
    intro i hi
    exact hsep.cell _ (by simp at hi ⊢)
  have bZ := Blk.new w2 43 #[.slice none 0 0, .int .i64 0, .int .i64 0, .int .i64 0, .int .i64 0, .int .i64 0, .slice none 0 0, .slice none 0 0, .int .i64 0, .int .i64 0, .int .i64 0, .slice none 0 0, .int .i64 0, .int .i64 0, .int .i64 0, .int .i64 0, .int .i64 0, .slice none 0 0, .slice none 0 0, .slice none 0 0, .slice none 0 0, .slice none 0 0]
  have hZ := (Ext.refl w2).alloc (.cells #[.slice none 0 0, .int .i64 0, .int .i64 0, .int .i64 0, .int .i64 0, .int .i64 0, .slice none 0 0, .slice none 0 0, .int .i64 0, .int .i64 0, .int .i64 0, .slice none 0 0, .int .i64 0, .int .i64 0, .int .i64 0, .int .i64 0, .int .i64 0, .slice none 0 0, .slice none 0 0, .slice none 0 0, .slice none 0 0, .slice none 0 0] 43)
  have hT0 : Touch w2.heap.size (w2.heap.size + 1) (w2.alloc (.cells #[.slice none 0 0, .int .i64 0, .int .i64 0, .int .i64 0, .int .i64 0, .int .i64 0, .slice none 0 0, .slice none 0 0, .int .i64 0, .int .i64 0, .int .i64 0, .slice none 0 0, .int .i64 0, .int .i64 0, .int .i64 0, .int .i64 0, .int .i64 0, .slice none 0 0, .slice none 0 0, .slice none 0 0, .slice none 0 0, .slice none 0 0] 43)) ((w2.alloc (.cells #[.slice none 0 0, .int .i64 0, .int .i64 0, .int .i64 0, .int .i64 0, .int .i64 0, .slice none 0 0, .slice none 0 0, .int .i64 0, .int .i64 0, .int .i64 0, .slice none 0 0, .int .i64 0, .int .i64 0, .int .i64 0, .int .i64 0, .int .i64 0, .slice none 0 0, .slice none 0 0, .slice none 0 0, .slice none 0 0, .slice none 0 0] 43)).setRow w2.heap.size us.toArray) := (Touch.refl _ _ _).setRow (Nat.le_refl _) (Nat.lt_succ_self _) _
  have hC3 : ConAt ((w2.alloc (.cells #[.slice none 0 0, .int .i64 0, .int .i64 0, .int .i64 0, .int .i64 0, .int .i64 0, .slice none 0 0, .slice none 0 0, .int .i64 0, .int .i64 0, .int .i64 0, .slice none 0 0, .int .i64 0, .int .i64 0, .int .i64 0, .int .i64 0, .int .i64 0, .slice none 0 0, .slice none 0 0, .slice none 0 0, .slice none 0 0, .slice none 0 0] 43)).setRow w2.heap.size us.toArray) w2.heap.size newConsole w.heap.size := by
    refine Con.of ((hsep.ext hZ).touch hT0 fun q hq => .inl (hbd q hq).2) hap (fun p hp => ?_) (bZ.setRow _) (by omega)
    have := hbd p hp
    have h1 := hT0.size
    have h2 := hZ.size
    omega
  have hE3 : Ext w1 ((w2.alloc (.cells #[.slice none 0 0, .int .i64 0, .int .i64 0, .int .i64 0, .int .i64 0, .int .i64 0, .slice none 0 0, .slice none 0 0, .int .i64 0, .int .i64 0, .int .i64 0, .slice none 0 0, .int .i64 0, .int .i64 0, .int .i64 0, .int .i64 0, .int .i64 0, .slice none 0 0, .slice none 0 0, .slice none 0 0, .slice none 0 0, .slice none 0 0] 43)).setRow w2.heap.size us.toArray) := (hx2.trans hZ).touch hT0 hsz2
  have hs3 : ((w2.alloc (.cells #[.slice none 0 0, .int .i64 0, .int .i64 0, .int .i64 0, .int .i64 0, .int .i64 0, .slice none 0 0, .slice none 0 0, .int .i64 0, .int .i64 0, .int .i64 0, .slice none 0 0, .int .i64 0, .int .i64 0, .int .i64 0, .int .i64 0, .int .i64 0, .slice none 0 0, .slice none 0 0, .slice none 0 0, .slice none 0 0, .slice none 0 0] 43)).setRow w2.heap.size us.toArray).heap.size = w2.heap.size + 1 := by simp
  have HS3 := Lib.hid hs3
  clear hs3 hT0 hZ hsep hap hbd hx2
  go_wp2_with (refine wpList_store_row (P := Tryz.prog) rfl 43 _ _ rfl w2.heap.size us.toArray rfl rfl 43 _ bZ (by rw [hlen]; kernel_rfl) (by rw [hlen]; rfl) hone ?_)
  clear bZ hlen hone
  generalize (w2.alloc (.cells #[.slice none 0 0, .int .i64 0, .int .i64 0, .int .i64 0, .int .i64 0, .int .i64 0, .slice none 0 0, .slice none 0 0, .int .i64 0, .int .i64 0, .int .i64 0, .slice none 0 0, .int .i64 0, .int .i64 0, .int .i64 0, .int .i64 0, .int .i64 0, .slice none 0 0, .slice none 0 0, .slice none 0 0, .slice none 0 0, .slice none 0 0] 43)).setRow w2.heap.size us.toArray = w3 at *
  have hBz := Blk.new w3 70 #[.pointer none, .slice none 0 0]
  have hE4 : Ext w1 (w3.alloc (.cells #[.pointer none, .slice none 0 0] 70)) := hE3.alloc _
  have hC4 := hC3.ext ((Ext.refl w3).alloc (.cells #[.pointer none, .slice none 0 0] 70))
  have hs3 := HS3.out
  rw [hs3] at hBz
  clear hs3
  have hB4 : Bld w1.heap.size (w2.heap.size + 1) (Lib.byteCells []) (w3.alloc (.cells #[.pointer none, .slice none 0 0] 70)) := .inl ⟨by omega, _, hBz, World.ownsRow_nil _ _ _ _, by simp [Value.ownBlock]⟩
  clear hBz hE3 hC3
  go_loopw [18] (fun i wr => ∃ k : Nat, k ≤ n ∧ i = .int .i64 k ∧ Ext w1 wr ∧ ConAt wr w2.heap.size (linesR newConsole (LS.take k)).1 w.heap.size ∧ Bld w1.heap.size (w2.heap.size + 1) (Lib.byteCells (linesR newConsole (LS.take k)).2) wr) (fun i _ => n - (intOf i).toNat)
  case atStart => exact ⟨0, Nat.zero_le _, rfl, hE4, hC4, hB4⟩
  case round =>
  clear hE4 hC4 hB4
  obtain ⟨k, hk, rfl, hxr, hCr, hBr⟩ := hrel
  have hkk : ConOk (linesR newConsole (LS.take k)).1 := linesR_ok newConsole_ok _
  have hkl : (linesR newConsole (LS.take k)).2.length ≤ 3600040 := by
    have h1 := linesR_len newConsole_ok (LS.take k)
    have h2 : (LS.take k).length ≤ 40 := by rw [List.length_take]; omega
    exact Nat.le_trans h1 (Nat.mul_le_mul h2 (Nat.le_refl 90001))
  have hszr := hxr.size
  by_cases hlt : k < n
  rotate_left
  · obtain rfl : k = n := by omega
    rw [List.take_of_length_le (by rw [HN.out]; exact Nat.le_refl _)] at hBr
    generalize linesR newConsole LS = Y at *
    go_wp2_with fail
    refine (Tryz.Builder_String_any w1.heap.size (w2.heap.size + 1) Y.2 _ hBr hszr).mono ?_
    rintro e w5 ⟨rfl, hb5⟩
    have hx5 : Ext w w5 := by
      have hxw := hx1.trans hxr
      exact ⟨hb5.os.trans hxw.os, hb5.tape.trans hxw.tape, hb5.output.trans hxw.output, Nat.le_trans hxw.size hb5.size, fun i hi => (hb5.block i (by omega)).trans (hxw.block i hi)⟩
    go_wp2
    go_ret2
    rw [H.out]
    exact ⟨rfl, hx5⟩
  have hlt2 : (k : Int) < (n : Int) := by omega
  have hkl2 : k < LS.length := by rw [HN.out]; exact hlt
  obtain ⟨gb, ob, rfl, hgb, hc0⟩ := (HR.out.ext hxr).str (k := k) hkl2
  have hsm := HSm.out _ (List.getElem_mem hkl2)
  have HSn : Hid (linesR newConsole (LS.take (k + 1)) = _) := (congrArg _ (take_snoc hkl2)).trans (linesR_snoc newConsole _ _)
  obtain ⟨x, hx⟩ : ∃ x, LS[k]'hkl2 = x := ⟨_, rfl⟩
  rw [hx] at hc0 hsm HSn
  clear hx
  generalize linesR newConsole (LS.take k) = Y at *
  obtain ⟨cY, tY⟩ := Y
  dsimp only at *
  have hst : (txt x).size ≤ 1048576 := by rw [txt_size]; exact hsm
  have hTl := lineR_len hkk x
  have hrun := HRun.out w2.heap.size cY (txt x) wr hCr hkk hst (HT.out.ext (hx1.trans hxr)) (HE.out.ext (hx1.trans hxr))
  rw [txt_list] at hrun
  have HRn := Lib.hid hrun
  clear hrun hkk
  generalize lineR cY x = Z at *
  obtain ⟨cZ, tZ⟩ := Z
  dsimp only at *
  go_wp2_with fail
  refine (HRn.out).mono ?_
  rintro e w5 ⟨rfl, hC5, hT5⟩
  dsimp only at hC5
  obtain ⟨R0, W0, a0, rs0, ps0, qs0, hcon⟩ := hCr
  have hB5 := hBr.touch hcon.blk hT5
  have hx5 : Ext w1 w5 := hxr.touch hT5 hsz2
  clear hcon hBr hT5
  by_cases hz : tZ = []
  · subst hz
    have q1 : (txt []).toList = [] := by rw [ByteArray.toList_eq, txt_list]
    have q2 : (txt []).toList.isEmpty = true := by rw [q1]; rfl
    go_wp2
    go_roundw
    case rel => exact ⟨k + 1, by omega, by go_num, hx5, by rw [HSn.out]; exact hC5, by rw [HSn.out]; simpa using hB5⟩
    case measure => simp [intOf]; omega
  have q1 : ¬ (txt tZ).toList = [] := by rw [ByteArray.toList_eq, txt_list]; exact hz
  have q2 : (txt tZ).toList.isEmpty = false := by
    rw [ByteArray.toList_eq, txt_list]
    cases tZ
    · exact absurd rfl hz
    · rfl
  have ht2 : txt tZ ++ (⟨#[10]⟩ : ByteArray) = txt (tZ ++ [10]) := by
    apply ByteArray.ext
    simp [txt]
  have z1 : (txt tZ).size ≤ 90000 := by rw [txt_size]; exact hTl
  have z2 : (txt (tZ ++ [10])).size ≤ 90001 := by rw [txt_size, List.length_append]; simp; omega
  have a1 := add_txt (a := txt tZ) (b := ⟨#[10]⟩) (c := txt (tZ ++ [10])) ht2 (by have : (⟨#[10]⟩ : ByteArray).size = 1 := rfl; omega)
  have hszr5 := hx5.size
  have hlb : (Lib.byteCells tY).length ≤ 3600040 := by rw [Lib.byteCells_length]; exact hkl
  clear ht2 hTl
  go_wp2_with fail
  refine (writeString_any w1.heap.size (w2.heap.size + 1) (Lib.byteCells tY) (txt (tZ ++ [10])) _ hB5 (by omega) (by omega)).mono ?_
  rintro e w6 ⟨rfl, hB6, hK6⟩
  have hC6 := hC5.kept hB5 hK6
  have hx6 := BKept.ext hx5 hK6
  rw [byteCells_txt, byteCells_append] at hB6
  have HSn2 : Hid (linesR newConsole (LS.take (k + 1)) = (cZ, tY ++ (tZ ++ [10]))) := by
    have := HSn.out
    rw [if_neg hz] at this
    exact this
  clear q1 q2 a1
  go_wp2
  go_roundw
  case rel => exact ⟨k + 1, by omega, by go_num, hx6, by rw [HSn2.out]; exact hC6, by rw [HSn2.out]; exact hB6⟩
  case measure => simp [intOf]; omega
end Go.Proofs.YtfnmbpjkjajpcaaGreatDoor
