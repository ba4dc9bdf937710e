/- ParseInt of the program, by the shelf's contracts of Atoi and Itoa. -/
import Derived.Test.YtlgkfjhbimffiaaGreatDoorDg
import Derived.Lib.SmallJoins
namespace Go.Proofs.YtlgkfjhbimffiaaGreatDoor
open Go.ChangeShapes Go.WideShapes Go.ChangeAt Go.RowKit
set_option linter.unusedVariables false
set_option maxRecDepth 100000

/-- The two variables of errors that Atoi reads. -/
def Ers (w : World) : Prop := (∃ tp p, w.cell? ⟨1, 0, none⟩ = some (.iface tp p)) ∧ (∃ tp p, w.cell? ⟨2, 0, none⟩ = some (.iface tp p))
theorem Ers.ext {w w' : World} (h : Ers w) (hx : Ext w w') : Ers w' := by
  obtain ⟨⟨t, p, h1⟩, t', p', h2⟩ := h
  exact ⟨⟨t, p, hx.cellOf h1⟩, t', p', hx.cellOf h2⟩

/-- HOW Atoi ENDS, in one word: the number and no error, or an error that is not nil. -/
theorem atoi_any (s : ByteArray) (hs : s.size ≤ 1048576) (w : World) (he : Ers w) :
    Calls Tryz.prog 102 #[.string s] w fun e w' => Ext w w' ∧ ((∃ v, Lib.atoiAll s.data.toList = .ok v ∧ e = .returned (.tuple #[.int .i64 v, .nilIface])) ∨
      ((∀ v, Lib.atoiAll s.data.toList ≠ .ok v) ∧ ∃ (z : Int) (t : TypeId) (p : Value), e = .returned (.tuple #[.int .i64 z, .iface t p]))) := by
  obtain ⟨⟨t, p, h1⟩, t', p', h2⟩ := he
  rcases hA : Lib.atoiAll s.data.toList with v | _ | _
  · refine (Tryz.strconv_Atoi_ok s (by omega) v hA w).mono ?_
    rintro e w' ⟨rfl, h⟩
    refine ⟨?_, Or.inl ⟨v, rfl, rfl⟩⟩
    rcases h with rfl | ⟨t, rfl⟩
    · exact Ext.refl _
    · exact Go.Joins.below_bytesWorld _ _ _ _ (Nat.le_refl _)
  · refine (Tryz.strconv_Atoi_syntax s (by omega) hA _ w h1 (Or.inr ⟨_, _, rfl⟩)).mono ?_
    rintro e w' ⟨N, rfl, _, _, hb⟩
    exact ⟨hb, Or.inr ⟨fun v h => (by cases h), _, _, _, rfl⟩⟩
  · refine (Tryz.strconv_Atoi_range s (by omega) hA _ w h2 (Or.inr ⟨_, _, rfl⟩)).mono ?_
    rintro e w' ⟨N, rfl, _, _, hb⟩
    exact ⟨hb, Or.inr ⟨fun v h => (by cases h), _, _, _, rfl⟩⟩

set_option maxHeartbeats 4000000 in
theorem implParseInt_any (s : ByteArray) (hs : s.size ≤ 1048576) (w : World) (ht : Tab w) (he : Ers w) :
    Calls Tryz.prog 81 #[.string s] w fun e w' => e = .returned (.tuple #[.int .i64 (pV s.data.toList), .bool (pB s.data.toList)]) ∧ Ext w w' := by
  obtain ⟨L, hL⟩ : ∃ L, s.data.toList = L := ⟨_, rfl⟩
  have HL := Lib.hid hL
  rw [hL]
  have HB : Hid (∀ h : pI L = none, pV L = 0 ∧ pB L = false) := fun h => by simp [pV, pB, h]
  have HG : Hid (∀ n : Int, ∀ h : pI L = some n, pV L = n ∧ pB L = true) := fun n h => by simp [pV, pB, h]
  obtain ⟨pv, hpv⟩ : ∃ x, pV L = x := ⟨_, rfl⟩
  obtain ⟨pb, hpb⟩ : ∃ x, pB L = x := ⟨_, rfl⟩
  rw [hpv] at HB HG ⊢
  rw [hpb] at HB HG ⊢
  clear hpv hpb
  have HT0 := Lib.hid ht
  have HE0 := Lib.hid he
  clear ht he
  go_enter Tryz.func81, Tryz.ntmps81
  have hE := HE0.out
  go_wp2_with fail
  refine (atoi_any s hs _ hE).mono ?_
  clear hE
  rintro e w1 ⟨hx1, ⟨v, hv, rfl⟩ | ⟨hv, z, t, p, rfl⟩⟩
  · rw [HL.out] at hv
    have Hv := Lib.hid hv
    clear hv
    clear hL
    have hvb := Lib.atoiAll_bounds Hv.out
    have hI : I64 v := hvb
    have HT := HT0.out.ext hx1
    have Hp : Hid (pI L = if numT v = L then some v else none) := by unfold Hid pI; rw [Hv.out]
    go_wp2_with fail
    refine (implFormatInt_any _ _ hI HT).mono ?_
    rintro e w2 ⟨rfl, hx2⟩
    by_cases hc : numT v = L
    · have hcm : ((txt (numT v)).toList == s.toList) = true := by rw [txt_same, HL.out, decide_eq_true_eq]; exact hc
      obtain ⟨q1, q2⟩ := HG.out v (by rw [Hp.out, if_pos hc])
      clear hc
      go_wp2
      go_ret2
      exact ⟨by rw [q1, q2]; rfl, hx1.trans hx2⟩
    · have hcm : ((txt (numT v)).toList == s.toList) = false := by rw [txt_same, HL.out, decide_eq_false_iff_not]; exact hc
      obtain ⟨q1, q2⟩ := HB.out (by rw [Hp.out, if_neg hc])
      clear hc
      go_wp2
      go_ret2
      exact ⟨by rw [q1, q2]; rfl, hx1.trans hx2⟩
  · obtain ⟨q1, q2⟩ := HB.out (by
      unfold pI
      split
      · rename_i v h; rw [← hL] at h; exact absurd h (hv v)
      · rfl)
    clear hv hL
    go_wp2
    go_ret2
    exact ⟨by rw [q1, q2]; rfl, hx1⟩
end Go.Proofs.YtlgkfjhbimffiaaGreatDoor
