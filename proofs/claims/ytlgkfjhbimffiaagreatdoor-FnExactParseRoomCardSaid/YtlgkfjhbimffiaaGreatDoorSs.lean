/- Contracts of the helpers on slices of strings: comparisons, marks; Join of the reference. -/
import Derived.Test.YtlgkfjhbimffiaaGreatDoorJn
import Derived.Test.YtlgkfjhbimffiaaGreatDoorMs
import Derived.Deep.QuietTactic
namespace Go.Proofs.YtlgkfjhbimffiaaGreatDoor
open Go.ChangeShapes Go.WideShapes Go.ChangeAt Go.RowKit
set_option linter.unusedVariables false
set_option maxRecDepth 100000

/-- a slice of strings of the call's own was made -/
def StrsMade (l : List (List UInt8)) (w : World) (e : Ending) (w' : World) : Prop :=
  ∃ A c, e = .returned (.slice A l.length c) ∧ Mine w' w.heap.size w'.heap.size 9 1 (.slice A l.length c) l.length (strs l) ∧ Ext w w'
theorem StrsMade.mk {l : List (List UInt8)} {w w' : World} {e : Ending} {A : Option Addr} {c n : Nat} (hn : n = l.length) (he : e = .returned (.slice A n c)) (hx : Ext w w') (ho : w'.ownsRow w.heap.size 9 1 (.slice A n c) n (strs l)) : StrsMade l w e w' := by
  subst hn
  exact ⟨A, c, he, Mine.of_own ho, hx⟩
theorem StrsMade.none {l : List (List UInt8)} {w w' : World} {e : Ending} (hl : l = []) (he : e = .returned (.slice none 0 0)) (hx : Ext w w') : StrsMade l w e w' := by
  subst hl
  exact ⟨Option.none, 0, he, Mine.of_own (World.ownsRow_nil _ _ _ _), hx⟩


def markT (k : Int) : List UInt8 := 109 :: numT k
def marksTo (k0 : Int) (n : Nat) : List (List UInt8) := (upTo k0 n).map markT
theorem marksTo_len (k0 : Int) (n : Nat) : (marksTo k0 n).length = n := by simp [marksTo, upTo_length]
theorem marksTo_get {k0 : Int} {n k : Nat} (h : k < n) : (strs (marksTo k0 n))[k]? = some (.string (txt (markT (k0 + k)))) := by
  unfold strs marksTo
  rw [List.getElem?_map, List.getElem?_map, upTo_get h]
  rfl
theorem markT_len {k : Int} (h0 : 0 ≤ k) (h1 : k ≤ 9223372036854775807) : (markT k).length ≤ 65 := by
  have := numT_len (n := k) (by omega) (by omega)
  simp only [markT, List.length_cons]; omega




theorem join_take_succ (l : List (List UInt8)) (s : List UInt8) (k : Nat) (h : k < l.length) : Lib.join (l.take (k + 1)) s = (if k = 0 then [] else Lib.join (l.take k) s ++ s) ++ l[k] := by
  cases l with
  | nil => simp at h
  | cons x r =>
    by_cases hk : k = 0
    · subst hk; simp [Lib.join_one]
    · rw [if_neg hk]
      obtain ⟨j, rfl⟩ : ∃ j, k = j + 1 := ⟨k - 1, by omega⟩
      have hj : j < r.length := by simpa using h
      rw [List.take_succ_cons, List.take_succ_cons, Lib.join_cons, Lib.join_cons, Lib.joinTail_take_succ s r j r[j] (List.getElem?_eq_getElem hj)]
      simp [List.append_assoc]
theorem join_take_le (l : List (List UInt8)) (s : List UInt8) (k : Nat) : (Lib.join (l.take k) s).length ≤ (Lib.join l s).length := by
  cases l with
  | nil => simp
  | cons x r =>
    cases k with
    | zero => simp [Lib.join_nil]
    | succ k =>
      rw [List.take_succ_cons, Lib.join_cons, Lib.join_cons, List.length_append, List.length_append]
      have := Lib.joinTail_take_le s r k
      omega

set_option maxHeartbeats 1000000 in
theorem specJoin_any (A : Option Addr) (n c : Nat) (l : List (List UInt8)) (s : ByteArray) (w : World) (hn : l.length = n) (hr : Row w A (strs l)) (hle : n ≤ 4194304) (hlen : (Lib.join l s.data.toList).length ≤ 140737488355328) :
    Calls Tryz.prog 30 #[.slice A n c, .string s] w fun e w' => e = .returned (.string (txt (Lib.join l s.data.toList))) ∧ Ext w w' := by
  have hs : s = txt s.data.toList := by
    unfold txt
    apply ByteArray.ext
    simp
  obtain ⟨sl, hsl⟩ : ∃ x, s.data.toList = x := ⟨_, rfl⟩
  rw [hsl] at hs hlen ⊢
  subst hs
  clear hsl
  have HL := Lib.hid (fun k => Nat.le_trans (join_take_le l sl k) hlen)
  go_enter Tryz.func30, Tryz.ntmps30
  go_wp2
  go_loop [5, 10] (fun v i => ∃ k : Nat, k ≤ n ∧ i = .int .i64 k ∧ v = .string (txt (Lib.join (l.take k) sl))) (fun _ i => n - (intOf i).toNat)
  case atStart => exact ⟨0, Nat.zero_le _, rfl, rfl⟩
  case round =>
    obtain ⟨k, hk, rfl, rfl⟩ := hrel
    by_cases hlt : k < n
    · obtain ⟨b, off, rfl, hb, hc⟩ := hr.str (k := k) (by omega)
      have HJ := Lib.hid (join_take_succ l sl k (by omega))
      have h1 := HL.out (k + 1)
      rw [HJ.out, List.length_append] at h1
      have hz1 : (txt (l[k]'(by omega))).size ≤ 140737488355328 := by rw [txt_size]; omega
      by_cases hk0 : k = 0
      · subst hk0
        have hk2 : ¬ (0 : Int) < ((0 : Nat) : Int) := by omega
        have hE : txt (Lib.join (l.take 0) sl) = ⟨#[]⟩ := rfl
        rw [hE]
        obtain ⟨t, ht⟩ : ∃ t, txt (l[0]'(by omega)) = t := ⟨_, rfl⟩
        rw [ht] at hc hz1
        have HT := Lib.hid ht
        have p0 : (⟨#[]⟩ : ByteArray).size = 0 := rfl
        rw [Nat.add_zero] at hc
        clear ht h1 hE
        go_wp2
        go_round
        case rel => exact ⟨0 + 1, by omega, by go_num, by rw [HJ.out, if_pos rfl, List.nil_append, HT.out]; first | rfl | simp⟩
        case measure => simp [intOf]; omega
      · have hk2 : (0 : Int) < (k : Int) := by omega
        rw [if_neg hk0, List.length_append] at h1
        have HJ2 : Hid (Lib.join (l.take (k + 1)) sl = (Lib.join (l.take k) sl ++ sl) ++ l[k]'(by omega)) := by rw [Hid, HJ.out, if_neg hk0]
        have hz2 : (txt (Lib.join (l.take k) sl)).size ≤ 140737488355328 := by rw [txt_size]; omega
        have hz3 : (txt sl).size ≤ 140737488355328 := by rw [txt_size]; omega
        obtain ⟨j, hj⟩ : ∃ j, Lib.join (l.take k) sl = j := ⟨_, rfl⟩
        obtain ⟨x, hx⟩ : ∃ x, l[k]'(by omega) = x := ⟨_, rfl⟩
        rw [hj] at HJ2 hz2 ⊢
        rw [hx] at HJ2 hc hz1
        clear hj hx h1 HJ
        have hz4 : (txt j ++ txt sl).size ≤ 281474976710656 := by rw [ByteArray.size_append]; omega
        go_wp2
        go_round
        case rel => exact ⟨k + 1, by omega, by go_num, by rw [HJ2.out, ← txt_append, ← txt_append]⟩
        case measure => simp [intOf]; omega
    · obtain rfl : k = n := by omega
      go_wp2
      go_ret
      exact ⟨ret_txt (by rw [List.take_of_length_le (by omega)]), Ext.refl _⟩
end Go.Proofs.YtlgkfjhbimffiaaGreatDoor
