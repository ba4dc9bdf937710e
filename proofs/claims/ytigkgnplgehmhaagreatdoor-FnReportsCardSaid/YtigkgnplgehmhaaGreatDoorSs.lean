/- Contracts of the helpers on slices of strings: comparisons, marks; Join of the reference. -/
import Derived.Test.YtigkgnplgehmhaaGreatDoorJn
import Derived.Test.YtigkgnplgehmhaaGreatDoorMs
import Derived.Deep.QuietTactic
namespace Go.Proofs.YtigkgnplgehmhaaGreatDoor
open Go.ChangeShapes Go.WideShapes Go.ChangeAt Go.RowKit
set_option linter.unusedVariables false
set_option maxRecDepth 100000

/-- a slice of strings of the call's own was made -/
def StrsMade (l : List (List UInt8)) (w : World) (e : Ending) (w' : World) : Prop :=
  ∃ A c, e = .returned (.slice A l.length c) ∧ Mine w' w.heap.size w'.heap.size 9 1 (.slice A l.length c) l.length (strs l) ∧ Ext w w'
theorem StrsMade.mk {l : List (List UInt8)} {w w' : World} {e : Ending} {A : Option Addr} {c n : Nat} (hn : n = l.length) (he : e = .returned (.slice A n c)) (hx : Ext w w') (ho : w'.ownsRow w.heap.size 9 1 (.slice A n c) n (strs l)) : StrsMade l w e w' := by
  subst hn
  exact ⟨A, c, he, Mine.of_own ho, hx⟩
theorem StrsMade.none {l : List (List UInt8)} {w w' : World} {e : Ending} (hl : l = []) (he : e = .returned (.slice none 0 0)) (hx : Ext w w') : StrsMade l w e w' := by
  subst hl
  exact ⟨Option.none, 0, he, Mine.of_own (World.ownsRow_nil _ _ _ _), hx⟩

set_option maxHeartbeats 1000000 in
theorem eqStringS_same (A B : Option Addr) (n c d : Nat) (l : List (List UInt8)) (w : World) (hn : l.length = n) (hr : Row w A (strs l)) (hs : Row w B (strs l)) (hle : n ≤ maxLen) :
    Calls Tryz.prog 17 #[.slice A n c, .slice B n d] w fun e w' => e = .returned (.bool true) ∧ Ext w w' := by
  unfold maxLen at hle
  go_enter Tryz.func17, Tryz.ntmps17
  go_wp2
  go_loopw [5] (fun i wr => ∃ (k : Nat), k ≤ n ∧ i = .int .i64 k ∧ Ext w wr) (fun i _ => n - (intOf i).toNat)
  case atStart => exact ⟨0, Nat.zero_le _, rfl, Ext.refl _⟩
  case round =>
    obtain ⟨k, hk, rfl, hx⟩ := hrel
    by_cases hlt : k < n
    · obtain ⟨b, off, rfl, hb, hc⟩ := (hr.ext hx).str (k := k) (by omega)
      obtain ⟨b', off', rfl, hb', hc'⟩ := (hs.ext hx).str (k := k) (by omega)
      have hlt2 : (k : Int) < (n : Int) := by omega
      generalize txt (l[k]'(by omega)) = t at hc hc'
      go_wp2_with fail
      go_quiet (fail)
      go_wp2
      go_roundw
      case rel => exact ⟨k + 1, by omega, by go_num, hx.drewN _⟩
      case measure => simp [intOf]; omega
    · go_wp2
      go_ret
      exact ⟨rfl, hx⟩

def markT (k : Int) : List UInt8 := 109 :: numT k
def marksTo (k0 : Int) (n : Nat) : List (List UInt8) := (upTo k0 n).map markT
theorem marksTo_len (k0 : Int) (n : Nat) : (marksTo k0 n).length = n := by simp [marksTo, upTo_length]
theorem marksTo_get {k0 : Int} {n k : Nat} (h : k < n) : (strs (marksTo k0 n))[k]? = some (.string (txt (markT (k0 + k)))) := by
  unfold strs marksTo
  rw [List.getElem?_map, List.getElem?_map, upTo_get h]
  rfl
theorem markT_len {k : Int} (h0 : 0 ≤ k) (h1 : k ≤ 9223372036854775807) : (markT k).length ≤ 65 := by
  have := numT_len (n := k) (by omega) (by omega)
  simp only [markT, List.length_cons]; omega

theorem digits_go (k : Nat) (h : 0 < k) : Lib.decDigits k = (if k / 10 = 0 then [] else Lib.decDigits (k / 10)) ++ [UInt8.ofNat (48 + k % 10)] := by
  by_cases hs : k < 10
  · rw [dec_small hs, if_pos (by omega), show k % 10 = k from by omega]; rfl
  · rw [dec_big hs, if_neg (by omega)]
set_option maxHeartbeats 1000000 in
theorem markText_any (k0 : Int) (w : World) (h0 : 1 ≤ k0) (h1 : k0 ≤ 1000000000000) :
    Calls Tryz.prog 49 #[.int .i64 k0] w fun e w' => e = .returned (.string (txt (markT k0))) ∧ Ext w w' := by
  obtain ⟨u, rfl⟩ := Int.eq_ofNat_of_zero_le (show 0 ≤ k0 by omega)
  have hL := numT_len (n := (u : Int)) (by omega) (by omega)
  have hM : markT (u : Int) = 109 :: Lib.decDigits u := by unfold markT; rw [numT_pos]
  rw [numT_pos] at hL
  rw [hM]
  have HM := Lib.hid hM
  clear hM
  have hpos : ¬ (u : Int) ≤ 0 := by omega
  go_enter Tryz.func49, Tryz.ntmps49
  go_wp2
  go_loopw [0, 3] (fun n s wr => ∃ (k : Nat) (l : List UInt8), k ≤ u ∧ n = .int .i64 (k : Int) ∧ s = .string (txt l) ∧ (if k = 0 then [] else Lib.decDigits k) ++ l = Lib.decDigits u ∧ Ext w wr) (fun n _ _ => (intOf n).toNat)
  case atStart => exact ⟨u, [], Nat.le_refl _, rfl, rfl, by rw [if_neg (by omega)]; simp, Ext.refl _⟩
  case round =>
    obtain ⟨k, l, hk, rfl, rfl, he, hx⟩ := hrel
    have hl : l.length ≤ 64 := by
      have := congrArg List.length he
      rw [List.length_append] at this
      omega
    have hls : (txt l).size ≤ 64 := by rw [txt_size]; exact hl
    by_cases hlt : 0 < (k : Int)
    · have hx1 : 48 + (k : Int) % 10 = ((48 + k % 10 : Nat) : Int) := by omega
      have hc0 := fun (w : World) => conv1 (w.alloc (.cells #[.int .u8 (48 + (k : Int) % 10)] 5)) w.heap.size (48 + (k : Int) % 10) (by omega) (by omega) (by simp)
      have he2 : (if k / 10 = 0 then [] else Lib.decDigits (k / 10)) ++ ([UInt8.ofNat (48 + (k : Int) % 10).toNat] ++ l) = Lib.decDigits u := by
        rw [← List.append_assoc, ← he, if_neg (show ¬ k = 0 by omega), digits_go k (by omega), show (48 + (k : Int) % 10).toNat = 48 + k % 10 from by omega]
      have hkr : 0 ≤ (k : Int) % 10 ∧ (k : Int) % 10 ≤ 9 := by omega
      obtain ⟨c, hc⟩ : ∃ c, UInt8.ofNat (48 + (k : Int) % 10).toNat = c := ⟨_, rfl⟩
      rw [hc] at hc0 he2
      have hz : (txt [c]).size ≤ 1 := by rw [txt_size]; simp
      have HE := Lib.hid he2
      clear he he2 hc hx1
      go_wp2
      go_roundw
      case rel => exact ⟨k / 10, [c] ++ l, by omega, by congr 1, by rw [← txt_append], HE.out, hx.alloc _⟩
      case measure => simp [intOf]; omega
    · have hk0 : k = 0 := by omega
      rw [if_pos hk0, List.nil_append] at he
      have HE := Lib.hid he
      have p1 : (⟨#[109]⟩ : ByteArray).size = 1 := rfl
      clear he
      subst hk0
      go_wp2
      go_ret
      refine ⟨?_, hx⟩
      show Ending.returned (.string (txt [109] ++ txt l)) = _
      rw [txt_append, HE.out]
      rfl

set_option maxHeartbeats 1000000 in
theorem markStringS_m (A : Option Addr) (n c : Nat) (k0 : Int) (cs : List Value) (lo hi : Nat) (w : World) (ho : Mine w lo hi 9 1 (.slice A n c) n cs) (h0 : 1 ≤ k0) (h1 : k0 ≤ 1000000000) (hn : n ≤ 1000000000) (hhi : hi ≤ w.heap.size) :
    Calls Tryz.prog 19 #[.slice A n c, .int .i64 k0] w fun e w' => e = .returned (.int .i64 (k0 + n)) ∧ Mine w' lo hi 9 1 (.slice A n c) n (strs (marksTo k0 n)) ∧ Touch lo hi w w' := by
  have Hl := Lib.hid ho.1.1
  have HG := Lib.hid (fun g hg => ho.at_ (g := g) hg)
  go_enter Tryz.func19, Tryz.ntmps19
  go_wp2
  go_loopw [1, 5] (fun m i wr => ∃ (k : Nat) (cur : List Value), k ≤ n ∧ i = .int .i64 k ∧ m = .int .i64 (k0 + k) ∧ Mine wr lo hi 9 1 (.slice A n c) n cur ∧ Pref cur (strs (marksTo k0 n)) k ∧ Touch lo hi w wr) (fun _ i _ => n - (intOf i).toNat)
  case atStart => exact ⟨0, _, Nat.zero_le _, rfl, by simp, ho, Pref.start (by rw [Hl.out, strs_length, marksTo_len]; omega), Touch.refl _ _ _⟩
  case round =>
    obtain ⟨k, cur, hk, rfl, rfl, hown, hp, hx⟩ := hrel
    have Hp := Lib.hid hp
    clear hp ho
    by_cases hlt : k < n
    · obtain ⟨g, rfl⟩ : ∃ g, A = some ⟨g, 0, none⟩ := by
        rcases hown.1.2 with ⟨_, h⟩ | ⟨g, cap, cu, hv, _⟩
        · omega
        · injection hv with hA _ _; exact ⟨g, hA⟩
      go_wp2_with fail
      refine (markText_any _ _ (by omega) (by omega)).mono ?_
      rintro e w2 ⟨rfl, hx2⟩
      have hown2 := hown.ext hx2
      have hgb := HG.out g rfl
      obtain ⟨vg, hcg⟩ := own_cell hown2.1 (j := k) (by omega)
      have hfg := hown2.1.frozenAt k
      have Hst := Lib.hid ((hown2.1.stored k (.string (txt (markT (k0 + k))))).1)
      have hx3 := hx.trans (Touch.of_ext hx2)
      have HF := Lib.hid hown2.2
      clear hown hown2
      go_wp2
      go_roundw
      case rel => exact ⟨k + 1, _, by omega, by go_num, by go_num, ⟨Hst.out, HF.out⟩, Hp.out.set (marksTo_get hlt), hx3.trans (Touch.of_only ((Only.refl (some g) w2).set k _) (fun g' hg' => by injection hg' with hg'; omega))⟩
      case measure => simp [intOf]; omega
    · go_wp2
      go_ret
      refine ⟨ret_int (by rw [show k = n from by omega]), ?_, hx⟩
      have e := Hp.out.done (by rw [strs_length, marksTo_len]; omega)
      rw [e] at hown
      exact hown

set_option maxHeartbeats 1000000 in
theorem heldStringS_m (A : Option Addr) (n c : Nat) (k0 : Int) (w : World) (hr : Row w A (strs (marksTo k0 n))) (h0 : 1 ≤ k0) (h1 : k0 ≤ 1000000000) (hn : n ≤ 1000000000) :
    Calls Tryz.prog 20 #[.slice A n c, .int .i64 k0] w fun e w' => e = .returned (.int .i64 (k0 + n)) ∧ Ext w w' := by
  have Hl := Lib.hid (marksTo_len k0 n)
  go_enter Tryz.func20, Tryz.ntmps20
  go_wp2
  go_loopw [1, 5] (fun m i wr => ∃ (k : Nat), k ≤ n ∧ i = .int .i64 k ∧ m = .int .i64 (k0 + k) ∧ Ext w wr) (fun _ i _ => n - (intOf i).toNat)
  case atStart => exact ⟨0, Nat.zero_le _, rfl, by simp, Ext.refl _⟩
  case round =>
    obtain ⟨k, hk, rfl, rfl, hx⟩ := hrel
    by_cases hlt : k < n
    · obtain ⟨b, off, rfl, hb, hc⟩ : ∃ b off, A = some ⟨b, off, none⟩ ∧ b < wr.heap.size ∧ wr.cell? ⟨b, off + k, none⟩ = some (.string (txt (markT (k0 + k)))) := by
        obtain ⟨b, off, hA, hb, hc⟩ := (hr.ext hx).at_ (strs_ne (k := k) (by rw [Hl.out]; exact hlt))
        exact ⟨b, off, hA, hb, hc k _ (marksTo_get hlt)⟩
      have hlt2 : (k : Int) < (n : Int) := by omega
      obtain ⟨t, ht⟩ : ∃ t, txt (markT (k0 + k)) = t := ⟨_, rfl⟩
      rw [ht] at hc
      have HT := Lib.hid ht
      clear ht
      go_wp2_with fail
      have hcur := Ext.refl wr
      go_region_held3 (fun w' => w'.cell? ⟨b, off + k, none⟩ = some (.string t))
        (go_keep)
        ((go_at_call 49; (with_reducible refine (markText_any _ _ (by omega) (by omega)).mono ?_); rintro e w9 ⟨rfl, hx9⟩; replace hcur := Ext.trans (by first | exact hcur | exact hcur.drew) hx9; have hc9 := hcur.cellOf hc; rw [HT.out]))
      all_goals
        have hx2 := hx.trans hcur
        go_wp2
        go_roundw
        case rel => exact ⟨k + 1, by omega, by go_num, by go_num, hx2⟩
        case measure => simp [intOf]; omega
    · go_wp2
      go_ret
      exact ⟨ret_int (by rw [show k = n from by omega]), hx⟩

theorem join_take_succ (l : List (List UInt8)) (s : List UInt8) (k : Nat) (h : k < l.length) : Lib.join (l.take (k + 1)) s = (if k = 0 then [] else Lib.join (l.take k) s ++ s) ++ l[k] := by
  cases l with
  | nil => simp at h
  | cons x r =>
    by_cases hk : k = 0
    · subst hk; simp [Lib.join_one]
    · rw [if_neg hk]
      obtain ⟨j, rfl⟩ : ∃ j, k = j + 1 := ⟨k - 1, by omega⟩
      have hj : j < r.length := by simpa using h
      rw [List.take_succ_cons, List.take_succ_cons, Lib.join_cons, Lib.join_cons, Lib.joinTail_take_succ s r j r[j] (List.getElem?_eq_getElem hj)]
      simp [List.append_assoc]
theorem join_take_le (l : List (List UInt8)) (s : List UInt8) (k : Nat) : (Lib.join (l.take k) s).length ≤ (Lib.join l s).length := by
  cases l with
  | nil => simp
  | cons x r =>
    cases k with
    | zero => simp [Lib.join_nil]
    | succ k =>
      rw [List.take_succ_cons, Lib.join_cons, Lib.join_cons, List.length_append, List.length_append]
      have := Lib.joinTail_take_le s r k
      omega

set_option maxHeartbeats 1000000 in
theorem specJoin_any (A : Option Addr) (n c : Nat) (l : List (List UInt8)) (s : ByteArray) (w : World) (hn : l.length = n) (hr : Row w A (strs l)) (hle : n ≤ 4194304) (hlen : (Lib.join l s.data.toList).length ≤ 140737488355328) :
    Calls Tryz.prog 88 #[.slice A n c, .string s] w fun e w' => e = .returned (.string (txt (Lib.join l s.data.toList))) ∧ Ext w w' := by
  have hs : s = txt s.data.toList := by
    unfold txt
    apply ByteArray.ext
    simp
  obtain ⟨sl, hsl⟩ : ∃ x, s.data.toList = x := ⟨_, rfl⟩
  rw [hsl] at hs hlen ⊢
  subst hs
  clear hsl
  have HL := Lib.hid (fun k => Nat.le_trans (join_take_le l sl k) hlen)
  go_enter Tryz.func88, Tryz.ntmps88
  go_wp2
  go_loop [5, 10] (fun v i => ∃ k : Nat, k ≤ n ∧ i = .int .i64 k ∧ v = .string (txt (Lib.join (l.take k) sl))) (fun _ i => n - (intOf i).toNat)
  case atStart => exact ⟨0, Nat.zero_le _, rfl, rfl⟩
  case round =>
    obtain ⟨k, hk, rfl, rfl⟩ := hrel
    by_cases hlt : k < n
    · obtain ⟨b, off, rfl, hb, hc⟩ := hr.str (k := k) (by omega)
      have HJ := Lib.hid (join_take_succ l sl k (by omega))
      have h1 := HL.out (k + 1)
      rw [HJ.out, List.length_append] at h1
      have hz1 : (txt (l[k]'(by omega))).size ≤ 140737488355328 := by rw [txt_size]; omega
      by_cases hk0 : k = 0
      · subst hk0
        have hk2 : ¬ (0 : Int) < ((0 : Nat) : Int) := by omega
        have hE : txt (Lib.join (l.take 0) sl) = ⟨#[]⟩ := rfl
        rw [hE]
        obtain ⟨t, ht⟩ : ∃ t, txt (l[0]'(by omega)) = t := ⟨_, rfl⟩
        rw [ht] at hc hz1
        have HT := Lib.hid ht
        have p0 : (⟨#[]⟩ : ByteArray).size = 0 := rfl
        rw [Nat.add_zero] at hc
        clear ht h1 hE
        go_wp2
        go_round
        case rel => exact ⟨0 + 1, by omega, by go_num, by rw [HJ.out, if_pos rfl, List.nil_append, HT.out]; first | rfl | simp⟩
        case measure => simp [intOf]; omega
      · have hk2 : (0 : Int) < (k : Int) := by omega
        rw [if_neg hk0, List.length_append] at h1
        have HJ2 : Hid (Lib.join (l.take (k + 1)) sl = (Lib.join (l.take k) sl ++ sl) ++ l[k]'(by omega)) := by rw [Hid, HJ.out, if_neg hk0]
        have hz2 : (txt (Lib.join (l.take k) sl)).size ≤ 140737488355328 := by rw [txt_size]; omega
        have hz3 : (txt sl).size ≤ 140737488355328 := by rw [txt_size]; omega
        obtain ⟨j, hj⟩ : ∃ j, Lib.join (l.take k) sl = j := ⟨_, rfl⟩
        obtain ⟨x, hx⟩ : ∃ x, l[k]'(by omega) = x := ⟨_, rfl⟩
        rw [hj] at HJ2 hz2 ⊢
        rw [hx] at HJ2 hc hz1
        clear hj hx h1 HJ
        have hz4 : (txt j ++ txt sl).size ≤ 281474976710656 := by rw [ByteArray.size_append]; omega
        go_wp2
        go_round
        case rel => exact ⟨k + 1, by omega, by go_num, by rw [HJ2.out, ← txt_append, ← txt_append]⟩
        case measure => simp [intOf]; omega
    · obtain rfl : k = n := by omega
      go_wp2
      go_ret
      exact ⟨ret_txt (by rw [List.take_of_length_le (by omega)]), Ext.refl _⟩
end Go.Proofs.YtigkgnplgehmhaaGreatDoor
