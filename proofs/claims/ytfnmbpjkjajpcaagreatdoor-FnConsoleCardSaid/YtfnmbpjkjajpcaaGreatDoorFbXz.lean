/- Contracts of RunRounds at any number and of LossOf of the program. (written by tools/mkLs.py) -/
import Derived.Test.YtfnmbpjkjajpcaaGreatDoorFbKz
import Derived.Test.YtfnmbpjkjajpcaaGreatDoorFbCz
import Derived.Test.YtfnmbpjkjajpcaaGreatDoorFbAz
import Derived.Lib.SplitLaws
import Derived.Test.YtfnmbpjkjajpcaaGreatDoorFbUz
import Derived.Lib.OthersKept
import Derived.Lib.FrozenHead
import Derived.Test.YtfnmbpjkjajpcaaGreatDoorShelf
import Derived.Test.YtfnmbpjkjajpcaaGreatDoorFbHz
namespace Go.Proofs.YtfnmbpjkjajpcaaGreatDoor
open Go.ChangeShapes Go.WideShapes Go.ChangeAt Go.RowKit
set_option linter.unusedVariables false
set_option maxRecDepth 100000
def runQ (r : Room) (k : Int) : KeptV := if inR k 0 12 = true then runR r k.toNat else ⟨[], 0, false, false⟩
theorem runQ_ok (r : Room) (k : Int) : regOk (runQ r k).reg = true := by
  unfold runQ
  split
  · exact runR_ok r _
  · rfl
theorem runQ_room {r : Room} {k : Int} (h : (runQ r k).ok = true) : roomOk r = true := by
  unfold runQ at h
  split at h
  · cases q : roomOk r with
    | true => rfl
    | false => rw [runR_bad q] at h; cases h
  · cases h
set_option maxHeartbeats 4000000 in
theorem implRunRounds_bad (r : Room) (A0 A6 A7 : Option Addr) (c0 c6 c7 : Nat) (k : Int) (w : World) (hk : inR k 0 12 = false) :
    Calls Tryz.prog 183 #[.agg #[.slice A0 r.Map.length c0, .int .i64 r.Div, .int .i64 r.Bx, .int .i64 r.By, .int .i64 r.Low, .int .i64 r.High, .slice A6 r.Noise.length c6, .slice A7 r.Limits.length c7], .int .i64 k] w (KeptMade ⟨[], 0, false, false⟩ w) := by
  have HIn := Lib.hid (fun w => inRange_any k 0 12 w)
  rw [hk] at HIn
  clear hk
  have hx : Ext w ((w.alloc (.cells #[.slice A0 r.Map.length c0, .int .i64 r.Div, .int .i64 r.Bx, .int .i64 r.By, .int .i64 r.Low, .int .i64 r.High, .slice A6 r.Noise.length c6, .slice A7 r.Limits.length c7] 36)).alloc (.cells #[.slice none 0 0, .int .i64 0, .bool false] 134)) := (((Ext.refl w).alloc _).alloc _)
  have bM := ((Blk.new w 36 #[.slice A0 r.Map.length c0, .int .i64 r.Div, .int .i64 r.Bx, .int .i64 r.By, .int .i64 r.Low, .int .i64 r.High, .slice A6 r.Noise.length c6, .slice A7 r.Limits.length c7]).alloc (.cells #[.slice none 0 0, .int .i64 0, .bool false] 134))
  have bR := (Blk.new (w.alloc (.cells #[.slice A0 r.Map.length c0, .int .i64 r.Div, .int .i64 r.Bx, .int .i64 r.By, .int .i64 r.Low, .int .i64 r.High, .slice A6 r.Noise.length c6, .slice A7 r.Limits.length c7] 36)) 134 #[.slice none 0 0, .int .i64 0, .bool false])
  simp only [World.size_alloc] at bR
  have cbM_1 := fun o => bM.cell o
  have cbR_2 := fun o => bR.cell o
  have fbR_2 := fun o => bR.frozen o
  go_enter Tryz.func183, Tryz.ntmps183
  go_wp2_with fail
  refine (HIn.out _).mono ?_
  rintro e w' ⟨rfl, rfl⟩
  go_wp2
  have bF := ((bR.set_ 0 (.slice none 0 0)).set_ 1 (.int .i64 0)).set_ 2 (.bool false)
  have cF := fun o => bF.cell o
  refine bodyPost_ret (v := .tuple #[.agg #[.slice none 0 0, .int .i64 0, .bool false], .bool false]) (by simp [results, Tryz.results183, go_sem]) rfl ?_
  exact KeptMade.nil rfl rfl (by repeat (first | (with_reducible exact Ext.refl _) | refine Ext.alloc ?_ _ | refine Ext.setCell ?_ (by simp <;> omega) _))
theorem implRunRounds_all (r : Room) (A0 A6 A7 : Option Addr) (c0 c6 c7 : Nat) (k : Int) (w : World) (ha : RoomHere w r A0 A6 A7 c0 c6 c7) (hFI : roomFI r) (hRL : RoomL r) :
    Calls Tryz.prog 183 #[.agg #[.slice A0 r.Map.length c0, .int .i64 r.Div, .int .i64 r.Bx, .int .i64 r.By, .int .i64 r.Low, .int .i64 r.High, .slice A6 r.Noise.length c6, .slice A7 r.Limits.length c7], .int .i64 k] w (KeptMade (runQ r k) w) := by
  unfold runQ
  by_cases h : inR k 0 12 = true
  · rw [if_pos h]
    have h2 := h
    unfold inR at h2
    simp only [Bool.and_eq_true, decide_eq_true_eq] at h2
    obtain ⟨m, rfl⟩ : ∃ m : Nat, k = (m : Int) := ⟨k.toNat, by omega⟩
    exact implRunRounds_any r A0 A6 A7 c0 c6 c7 m w (by omega) ha hFI hRL
  · rw [if_neg h]
    exact implRunRounds_bad r A0 A6 A7 c0 c6 c7 k w (by simpa using h)
def lossV (r : Room) (k : Int) : Ratio × Bool := if inR k 0 12 = true then lossR r k.toNat else (⟨0, 0⟩, false)
def lossW (r : Room) (K : KeptV) : Ratio × Bool :=
  if K.ok = true ∧ (keepR r K.reg).2 = true ∧ K.reg ≠ [] ∧ (keepR r K.reg).1 ≠ [] then (lossTo K.reg (keepR r K.reg).1 (keepR r K.reg).1.length, ratioOk (lossTo K.reg (keepR r K.reg).1 (keepR r K.reg).1.length)) else (⟨0, 0⟩, false)
theorem loss_eq (r : Room) (k : Int) : lossV r k = lossW r (runQ r k) := by
  unfold lossV runQ
  split
  · rfl
  · unfold lossW; rw [if_neg (fun q => by cases q.1)]
theorem lossW_no {r : Room} {K : KeptV} (h : K.ok = false ∨ (keepR r K.reg).2 = false ∨ K.reg.length = 0 ∨ (keepR r K.reg).1.length = 0) : lossW r K = (⟨0, 0⟩, false) := by
  unfold lossW
  rw [if_neg]
  rintro ⟨a, b, c, d⟩
  rcases h with h | h | h | h
  · rw [h] at a; cases a
  · rw [h] at b; cases b
  · exact c (List.length_eq_zero_iff.1 h)
  · exact d (List.length_eq_zero_iff.1 h)
theorem lossW_yes {r : Room} {K : KeptV} (h1 : K.ok = true) (h2 : (keepR r K.reg).2 = true) (h3 : K.reg.length ≠ 0) (h4 : (keepR r K.reg).1.length ≠ 0) : lossW r K = (lossTo K.reg (keepR r K.reg).1 (keepR r K.reg).1.length, ratioOk (lossTo K.reg (keepR r K.reg).1 (keepR r K.reg).1.length)) := by
  unfold lossW
  rw [if_pos ⟨h1, h2, fun e => h3 (by rw [e]; rfl), fun e => h4 (by rw [e]; rfl)⟩]
theorem loss_bd {p : List Half} (hs : Shape p) {h : Half} (hh : halfOk h = true) :
    (-1000000000000000000 ≤ (suppR p h.A h.B).N ∧ (suppR p h.A h.B).N ≤ 1000000000000000000) ∧ (-1000000000000000000 ≤ h.C * (suppR p h.A h.B).D ∧ h.C * (suppR p h.A h.B).D ≤ 1000000000000000000) ∧ (-1000000000000000000 ≤ (suppR p h.A h.B).D * (max h.A (-h.A) + max h.B (-h.B)) ∧ (suppR p h.A h.B).D * (max h.A (-h.A) + max h.B (-h.B)) ≤ 1000000000000000000) := by
  obtain ⟨b1, b2, b3, b4, b5, b6, _⟩ := halfOk_bd hh
  obtain ⟨_, q1, q2, _⟩ := supp_ok (a := h.A) (b := h.B) (by omega) (by omega) hs
  have g := supp_bd (a := h.A) (b := h.B) (M := 50000) (by omega) (by omega) (by omega) hs
  have k1 := mul_bd (a := h.C) (b := (suppR p h.A h.B).D) (A := 100000000) (B := 5000000000) (by omega) (by omega)
  have k2 := mul_bd (a := (suppR p h.A h.B).D) (b := max h.A (-h.A) + max h.B (-h.B)) (A := 5000000000) (B := 100000) (by omega) (by omega)
  omega
theorem lossTo_I (p n : List Half) (k : Nat) : I64 (lossTo p n k).N ∧ I64 (lossTo p n k).D := by
  induction k with
  | zero => unfold lossTo I64; simp
  | succ k ih =>
    unfold lossTo
    split
    · exact ratioOf_in _ _
    · exact ih
theorem lossTo_yes {p n : List Half} {k : Nat} (h : k = 0 ∨ 0 < ratioCmp (lossAt p (halfAt n k)) (lossTo p n k)) : lossTo p n (k + 1) = lossAt p (halfAt n k) := by
  rw [lossTo, if_pos h]
theorem lossTo_no {p n : List Half} {k : Nat} (h1 : k ≠ 0) (h2 : ¬ 0 < ratioCmp (lossAt p (halfAt n k)) (lossTo p n k)) : lossTo p n (k + 1) = lossTo p n k := by
  rw [lossTo, if_neg (fun q => q.elim h1 h2)]
def LossMade (x : Ratio × Bool) (w : World) (e : Ending) (w' : World) : Prop := e = .returned (.tuple #[.agg #[.int .i64 x.1.N, .int .i64 x.1.D], .bool x.2]) ∧ Ext w w'
set_option maxHeartbeats 16000000 in
theorem implLossOf_any (r : Room) (A0 A6 A7 : Option Addr) (c0 c6 c7 : Nat) (k : Int) (w : World) (ha : RoomHere w r A0 A6 A7 c0 c6 c7) (hFI : roomFI r) (hRL : RoomL r) :
    Calls Tryz.prog 187 #[.agg #[.slice A0 r.Map.length c0, .int .i64 r.Div, .int .i64 r.Bx, .int .i64 r.By, .int .i64 r.Low, .int .i64 r.High, .slice A6 r.Noise.length c6, .slice A7 r.Limits.length c7], .int .i64 k] w (LossMade (lossV r k) w) := by
  have HRun := Lib.hid (fun w ha => implRunRounds_all r A0 A6 A7 c0 c6 c7 k w ha hFI hRL)
  have HKe := Lib.hid (fun A n c ps w hv ha hn hr hA hpk => implKeep_ok r A0 A6 A7 c0 c6 c7 A n c ps w hv ha hn hr hA hpk)
  have HE := Lib.hid (loss_eq r k)
  have HVo := Lib.hid (fun h => room_valid (runQ_room (r := r) (k := k) h))
  have HRk : Hid (regOk (runQ r k).reg = true) := runQ_ok r k
  have HKk := Lib.hid (fun p (h : regOk p = true) => keepR_ok (r := r) h)
  have HNo := Lib.hid (fun K h => lossW_no (r := r) (K := K) h)
  have HYes := Lib.hid (fun K h1 h2 h3 h4 => lossW_yes (r := r) (K := K) h1 h2 h3 h4)
  have HA := Lib.hid ha
  have hx : Ext w ((w.alloc (.cells #[.slice A0 r.Map.length c0, .int .i64 r.Div, .int .i64 r.Bx, .int .i64 r.By, .int .i64 r.Low, .int .i64 r.High, .slice A6 r.Noise.length c6, .slice A7 r.Limits.length c7] 36)).alloc (.cells #[.int .i64 0, .int .i64 0] 139)) := (((Ext.refl w).alloc _).alloc _)
  have bM := ((Blk.new w 36 #[.slice A0 r.Map.length c0, .int .i64 r.Div, .int .i64 r.Bx, .int .i64 r.By, .int .i64 r.Low, .int .i64 r.High, .slice A6 r.Noise.length c6, .slice A7 r.Limits.length c7]).alloc (.cells #[.int .i64 0, .int .i64 0] 139))
  have bR := (Blk.new (w.alloc (.cells #[.slice A0 r.Map.length c0, .int .i64 r.Div, .int .i64 r.Bx, .int .i64 r.By, .int .i64 r.Low, .int .i64 r.High, .slice A6 r.Noise.length c6, .slice A7 r.Limits.length c7] 36)) 139 #[.int .i64 0, .int .i64 0])
  simp only [World.size_alloc] at bR
  clear ha hFI hRL
  generalize lossV r k = LV at *
  generalize runQ r k = K at *
  have cbM_3 := fun o => bM.cell o
  have cbR_4 := fun o => bR.cell o
  have fbR_4 := fun o => bR.frozen o
  go_enter Tryz.func187, Tryz.ntmps187
  go_wp2_with fail
  refine (HRun.out _ (HA.out.ext hx)).mono ?_
  rintro e w1 ⟨A1, c1, n1, rfl, hn1, hx1, hown1⟩
  replace hx := hx.trans hx1
  replace bM := bM.ext hx1
  replace bR := bR.ext hx1
  have cbM_5 := fun o => bM.cell o
  have cbR_6 := fun o => bR.cell o
  have fbR_6 := fun o => bR.frozen o
  have hs1 := bR.lt
  obtain ⟨reg, kn, st, ok⟩ := K
  dsimp only at *
  subst hn1
  have bK := Blk.new w1 134 #[.slice A1 reg.length c1, .int .i64 (kn : Int), .bool st]
  have hx0 := hx
  have bR0 := bR
  have ha1 := (Ext.refl w1).alloc (.cells #[.slice A1 reg.length c1, .int .i64 (kn : Int), .bool st] 134)
  replace hx := hx.trans ha1
  replace bM := bM.ext ha1
  replace bR := bR.ext ha1
  have cbM_7 := fun o => bM.cell o
  have cbR_8 := fun o => bR.cell o
  have fbR_8 := fun o => bR.frozen o
  have cK := fun o => bK.cell o
  cases ok
  · have H := Lib.hid (HE.out.trans (HNo.out _ (.inl rfl)))
    go_wp2
    have bF := ((bR0.set_ 0 (.int .i64 0)).set_ 1 (.int .i64 0)).alloc (.cells #[.slice A1 reg.length c1, .int .i64 (kn : Int), .bool st] 134)
    have cF := fun o => bF.cell o
    refine bodyPost_ret (v := .tuple #[.agg #[.int .i64 0, .int .i64 0], .bool false]) (by simp [results, Tryz.results187, go_sem, cF]) rfl ?_
    exact ⟨by rw [H.out], (ext_put2 hx0 (by omega) _ _).alloc _⟩
  have HV := Lib.hid (HVo.out rfl)
  have m1 := Mine.of_own (own_ext hown1 ha1)
  have HM1 := Lib.hid m1
  clear hown1 m1
  have hal := hx
  go_wp2_with fail
  generalize w1.alloc (.cells #[.slice A1 reg.length c1, .int .i64 (kn : Int), .bool st] 134) = wa at *
  refine (HKe.out A1 reg.length c1 reg _ HV.out (HA.out.ext hx) rfl HM1.out.row HM1.out.none HRk.out).mono ?_
  rintro e w2 ⟨A2, c2, n2, rfl, hn2, hx2, hown2⟩
  replace hx := hx.trans hx2
  replace bM := bM.ext hx2
  replace bR := bR.ext hx2
  replace bK := bK.ext hx2
  have cbM_9 := fun o => bM.cell o
  have cbR_10 := fun o => bR.cell o
  have fbR_10 := fun o => bR.frozen o
  have cbK_11 := fun o => bK.cell o
  have hs2 := bR.lt
  have hs2k := bK.lt
  have HKn := Lib.hid (HKk.out reg HRk.out)
  obtain ⟨KR, hKR⟩ : ∃ KR, keepR r reg = KR := ⟨_, rfl⟩
  rw [hKR] at hown2 hn2 HKn ⊢
  have HKR := Lib.hid hKR
  clear hKR
  obtain ⟨nx, ok2⟩ := KR
  dsimp only at *
  subst hn2
  have bN := Blk.new w2 34 #[.slice A2 nx.length c2]
  have hx02 := hx
  have bR02 := bR
  have ha2 := (Ext.refl w2).alloc (.cells #[.slice A2 nx.length c2] 34)
  replace hx := hx.trans ha2
  replace bM := bM.ext ha2
  replace bR := bR.ext ha2
  replace bK := bK.ext ha2
  have cbM_12 := fun o => bM.cell o
  have cbR_13 := fun o => bR.cell o
  have fbR_13 := fun o => bR.frozen o
  have cbK_14 := fun o => bK.cell o
  have cN := fun o => bN.cell o
  cases ok2
  · have H := Lib.hid (HE.out.trans (HNo.out _ (.inr (.inl (by simp only [HKR.out])))))
    go_wp2
    have bF := ((bR02.set_ 0 (.int .i64 0)).set_ 1 (.int .i64 0)).alloc (.cells #[.slice A2 nx.length c2] 34)
    have cF := fun o => bF.cell o
    refine bodyPost_ret (v := .tuple #[.agg #[.int .i64 0, .int .i64 0], .bool false]) (by simp [results, Tryz.results187, go_sem, cF]) rfl ?_
    exact ⟨by rw [H.out], (ext_put2 hx02 (by omega) _ _).alloc _⟩
  have m2 := Mine.of_own (own_ext hown2 ha2)
  have HM2 := Lib.hid m2
  clear hown2 m2
  have hle1 : reg.length ≤ 40 := regOk_len HRk.out
  have hle2 : nx.length ≤ 40 := regOk_len HKn.out
  have HV1 := Lib.hid (fun w => implIsVoid_any A1 reg.length c1 w (by unfold maxLen; omega))
  have HV2 := Lib.hid (fun w => implIsVoid_any A2 nx.length c2 w (by unfold maxLen; omega))
  go_wp2_with fail
  refine (HV1.out _).mono ?_
  rintro e w3 ⟨rfl, hx3⟩
  replace hx := hx.trans hx3
  replace bM := bM.ext hx3
  replace bR := bR.ext hx3
  replace bK := bK.ext hx3
  replace bN := bN.ext hx3
  have cbM_15 := fun o => bM.cell o
  have cbR_16 := fun o => bR.cell o
  have fbR_16 := fun o => bR.frozen o
  have cbK_17 := fun o => bK.cell o
  have cbN_18 := fun o => bN.cell o
  have hs3 := bR.lt
  by_cases q1 : reg.length = 0
  · have q1' : decide (reg.length = 0) = true := decide_eq_true q1
    have H := Lib.hid (HE.out.trans (HNo.out _ (.inr (.inr (.inl q1)))))
    rw [q1']
    clear q1 q1'
    go_wp2
    have bF := ((bR.set_ 0 (.int .i64 0)).set_ 1 (.int .i64 0))
    have cF := fun o => bF.cell o
    refine bodyPost_ret (v := .tuple #[.agg #[.int .i64 0, .int .i64 0], .bool false]) (by simp [results, Tryz.results187, go_sem, cF]) rfl ?_
    exact ⟨by rw [H.out], (ext_put2 hx (by omega) _ _)⟩
  have q1' : decide (reg.length = 0) = false := decide_eq_false q1
  rw [q1']
  go_wp2_with fail
  refine (HV2.out _).mono ?_
  rintro e w4 ⟨rfl, hx4⟩
  replace hx := hx.trans hx4
  replace bM := bM.ext hx4
  replace bR := bR.ext hx4
  replace bK := bK.ext hx4
  replace bN := bN.ext hx4
  have cbM_19 := fun o => bM.cell o
  have cbR_20 := fun o => bR.cell o
  have fbR_20 := fun o => bR.frozen o
  have cbK_21 := fun o => bK.cell o
  have cbN_22 := fun o => bN.cell o
  have hs4 := bR.lt
  by_cases q2 : nx.length = 0
  · have q2' : decide (nx.length = 0) = true := decide_eq_true q2
    have H := Lib.hid (HE.out.trans (HNo.out _ (.inr (.inr (.inr (by simp only [HKR.out]; exact q2))))))
    rw [q2']
    clear q2 q2'
    go_wp2
    have bF := ((bR.set_ 0 (.int .i64 0)).set_ 1 (.int .i64 0))
    have cF := fun o => bF.cell o
    refine bodyPost_ret (v := .tuple #[.agg #[.int .i64 0, .int .i64 0], .bool false]) (by simp [results, Tryz.results187, go_sem, cF]) rfl ?_
    exact ⟨by rw [H.out], (ext_put2 hx (by omega) _ _)⟩
  have q2' : decide (nx.length = 0) = false := decide_eq_false q2
  rw [q2']
  have H := Lib.hid (HE.out.trans (HYes.out _ rfl (by simp only [HKR.out]) q1 (by simp only [HKR.out]; exact q2)))
  simp only [HKR.out] at H
  have HSh := Lib.hid (shape_of HRk.out (fun e => q1 (by rw [e]; rfl)))
  have HRn := Lib.hid (HM1.out.row.ext (hx2.trans (ha2.trans (hx3.trans hx4))))
  have HRx := Lib.hid (HM2.out.row.ext (hx3.trans hx4))
  have HSu := Lib.hid (fun a b w ha hb hr => implSupport_any A1 reg.length c1 a b reg w rfl HRk.out (fun e => q1 (by rw [e]; rfl)) ha hb hr)
  clear q1 q1' q2 q2' HM1 HM2 HV1 HV2 HNo HYes HE HVo HRun HKe HKk HKR hx0 bR0 hx02 bR02
  have hw4 := hx.size
  have lK := bK.lt
  have lN := bN.lt
  have lR := bR.lt
  have lM := bM.lt
  have bT := Blk.new w4 139 #[.int .i64 0, .int .i64 0]
  go_wp2
  have hT0 := (Ext.refl w4).alloc (.cells #[.int .i64 0, .int .i64 0] 139)
  have HI := Lib.hid (fun k => lossTo_I reg nx k)
  have HBd := Lib.hid (fun h hh => loss_bd HSh.out (h := h) hh)
  have HAll := Lib.hid (fun i (hi : i < nx.length) => all_ok (regOk_all HKn.out) _ (List.getElem_mem hi))
  go_loopw [46] (fun i wr => ∃ j : Nat, j ≤ nx.length ∧ i = .int .i64 j ∧ Ext w4 wr ∧ Blk wr w4.heap.size 139 #[.int .i64 (lossTo reg nx j).N, .int .i64 (lossTo reg nx j).D]) (fun i _ => nx.length - (intOf i).toNat)
  case atStart => exact ⟨0, Nat.zero_le _, rfl, hT0, bT⟩
  case round =>
  obtain ⟨j, hj, rfl, hxr, bTr⟩ := hrel
  have bKr := bK.ext hxr
  have bNr := bN.ext hxr
  have bRr := bR.ext hxr
  have cTr := fun o => bTr.cell o
  have cKr := fun o => bKr.cell o
  have cNr := fun o => bNr.cell o
  have fTr := fun o => bTr.frozen o
  have lTr := bTr.lt
  have lKr := bKr.lt
  by_cases hlt : j < nx.length
  rotate_left
  · obtain rfl : j = nx.length := by omega
    obtain ⟨i1, i2⟩ := HI.out nx.length
    generalize lossTo reg nx nx.length = Y at *
    have HOk := Lib.hid (fun w => implRatioOk_any Y.N Y.D w i1 i2)
    have fRr := fun o => bRr.frozen o
    have cRr := fun o => bRr.cell o
    clear hlt cKr cNr fTr
    have n1 : ¬ w4.heap.size = w.heap.size + 1 := by omega
    have n2 : ¬ w.heap.size + 1 = w4.heap.size := by omega
    go_wp2_with fail
    have hcur := Ext.refl (wr)
    go_region_held3 (fun w' => w'.cell? ⟨w4.heap.size, 0, none⟩ = some (.int .i64 Y.N) ∧ w'.cell? ⟨w4.heap.size, 1, none⟩ = some (.int .i64 Y.D))
      (go_keep)
      (first
        | (go_at_call 192; (with_reducible refine (HOk.out _).mono ?_); rintro e w9 ⟨rfl, hx9⟩; replace hcur := Ext.trans (by first | exact hcur | exact hcur.drew | exact hcur.alloc _ | exact (hcur.alloc _).drew) hx9; have c9bTr := fun o => (bTr.ext hcur).cell o; (have l9 := fun o => (bRr.ext hcur).cell o; have m9 := fun o => (bRr.ext hcur).frozen o)))
    all_goals
      have bF := ((bRr.ext hcur).set_ 0 (.int .i64 Y.N)).set_ 1 (.int .i64 Y.D)
      have cF := fun o => bF.cell o
      have hxe := (hx.trans hxr).trans hcur
      clear cRr fRr l9 m9
      go_wp2
      refine bodyPost_ret (v := .tuple #[.agg #[.int .i64 Y.N, .int .i64 Y.D], .bool (ratioOk ⟨Y.N, Y.D⟩)]) (by simp [results, Tryz.results187, go_sem, cF]) rfl ?_
      rw [H.out]
      refine ⟨rfl, ?_⟩
      first
        | (with_reducible exact ext_put2 hxe (by omega) _ _)
        | (with_reducible exact (ext_put2 hxe (by omega) _ _).drew)
        | (repeat (first | (with_reducible exact hxe) | refine Ext.drew ?_ | refine Ext.setCell ?_ (by simp only; omega) _))
  have hlt2 : (j : Int) < (nx.length : Int) := by omega
  obtain ⟨g, off, e2, hg, z0, z1, z2⟩ := (HRx.out.ext hxr).Half (k := j) hlt
  subst e2
  have hhk := HAll.out j hlt
  have HAt : Hid (halfAt nx j = nx[j]'hlt) := halfAt_at hlt
  obtain ⟨h, hh⟩ : ∃ h, nx[j]'hlt = h := ⟨_, rfl⟩
  rw [hh] at z0 z1 z2 hhk HAt
  clear hh
  have HHk := Lib.hid hhk
  obtain ⟨b1, b2, b3, b4, b5, b6, _⟩ := halfOk_bd hhk
  obtain ⟨y1, y2, y3⟩ := HBd.out h hhk
  clear hhk
  have HLa : Hid (lossAt reg h = ratioOf ((suppR reg h.A h.B).N - h.C * (suppR reg h.A h.B).D) ((suppR reg h.A h.B).D * (max h.A (-h.A) + max h.B (-h.B)))) := rfl
  have HSx := Lib.hid (HSu.out h.A h.B)
  generalize suppR reg h.A h.B = S at *
  obtain ⟨sn, sd⟩ := S
  dsimp only at y1 y2 y3
  obtain ⟨p, hp⟩ : ∃ p, h.C * sd = p := ⟨_, rfl⟩
  rw [hp] at y2
  have e1 : IntKind.i64.wrap (h.C * sd) = p := by rw [hp]; exact IntWalk.i64_in _ (by omega)
  have e2 : IntKind.i64.wrap (sn - p) = sn - p := IntWalk.i64_in _ (by omega)
  have e3 : IntKind.i64.wrap (-h.A) = -h.A := IntWalk.i64_in _ (by omega)
  have e4 : IntKind.i64.wrap (-h.B) = -h.B := IntWalk.i64_in _ (by omega)
  obtain ⟨M, hM⟩ : ∃ M, max h.A (-h.A) + max h.B (-h.B) = M := ⟨_, rfl⟩
  have e5 : IntKind.i64.wrap (max h.A (-h.A) + max h.B (-h.B)) = M := by rw [hM]; exact IntWalk.i64_in _ (by omega)
  rw [hM] at y3
  obtain ⟨q, hq⟩ : ∃ q, sd * M = q := ⟨_, rfl⟩
  rw [hq] at y3
  have e6 : IntKind.i64.wrap (sd * M) = q := by rw [hq]; exact IntWalk.i64_in _ (by omega)
  have HL : Hid (lossAt reg (halfAt nx j) = ratioOf (sn - p) q) := by rw [Hid, HAt.out, HLa.out]; dsimp only; rw [hp, hM, hq]
  have HYs := Lib.hid (fun h => lossTo_yes (p := reg) (n := nx) (k := j) h)
  have HNn := Lib.hid (fun h1 h2 => lossTo_no (p := reg) (n := nx) (k := j) h1 h2)
  rw [HL.out] at HYs HNn
  obtain ⟨i1, i2⟩ := HI.out j
  have HRo := Lib.hid (fun w => implRatioOf_any (sn - p) q w (by unfold I64; omega) (by unfold I64; omega))
  obtain ⟨o1, o2⟩ := ratioOf_in (sn - p) q
  generalize ratioOf (sn - p) q = X at *
  generalize hY : lossTo reg nx j = Y at *
  clear hp hM hq HLa HL HAt
  have HCm := Lib.hid (fun w => implRatioCmp_any X.N X.D Y.N Y.D w o1 o2 i1 i2)
  have bH := Blk.new wr 116 #[.int .i64 h.A, .int .i64 h.B, .int .i64 h.C]
  have hxh := (Ext.refl wr).alloc (.cells #[.int .i64 h.A, .int .i64 h.B, .int .i64 h.C] 116)
  replace bKr := bKr.alloc (.cells #[.int .i64 h.A, .int .i64 h.B, .int .i64 h.C] 116)
  replace bTr := bTr.alloc (.cells #[.int .i64 h.A, .int .i64 h.B, .int .i64 h.C] 116)
  go_wp2_with fail
  refine (HSx.out _ (by omega) (by omega) (HRn.out.ext (hxr.trans hxh))).mono ?_
  rintro e w6 ⟨rfl, hx6⟩
  dsimp only
  replace hxh := hxh.trans hx6
  replace bH := bH.ext hx6
  replace bKr := bKr.ext hx6
  replace bTr := bTr.ext hx6
  have cbH_23 := fun o => bH.cell o
  have cbKr_24 := fun o => bKr.cell o
  have cbTr_25 := fun o => bTr.cell o
  have fbTr_25 := fun o => bTr.frozen o
  have lT6 := bTr.lt
  have bS := Blk.new w6 139 #[.int .i64 sn, .int .i64 sd]
  have ha6 := (Ext.refl w6).alloc (.cells #[.int .i64 sn, .int .i64 sd] 139)
  replace hxh := hxh.trans ha6
  replace bH := bH.ext ha6
  replace bKr := bKr.ext ha6
  replace bTr := bTr.ext ha6
  have cbH_26 := fun o => bH.cell o
  have cbKr_27 := fun o => bKr.cell o
  have cbTr_28 := fun o => bTr.cell o
  have fbTr_28 := fun o => bTr.frozen o
  have cS6 := fun o => bS.cell o
  have l6 := bTr.lt
  have l6h := bH.lt
  go_wp2_with fail
  refine (HRo.out _).mono ?_
  rintro e w7 ⟨rfl, hx7⟩
  replace hxh := hxh.trans hx7
  replace bH := bH.ext hx7
  replace bKr := bKr.ext hx7
  replace bTr := bTr.ext hx7
  replace bS := bS.ext hx7
  have cbH_29 := fun o => bH.cell o
  have cbKr_30 := fun o => bKr.cell o
  have cbTr_31 := fun o => bTr.cell o
  have fbTr_31 := fun o => bTr.frozen o
  have cbS_32 := fun o => bS.cell o
  have bX := Blk.new w7 139 #[.int .i64 X.N, .int .i64 X.D]
  have l7 := bTr.lt
  have hxh7 := hxh
  have bTr7 := bTr
  have ha7 := (Ext.refl w7).alloc (.cells #[.int .i64 X.N, .int .i64 X.D] 139)
  replace hxh := hxh.trans ha7
  replace bH := bH.ext ha7
  replace bKr := bKr.ext ha7
  replace bTr := bTr.ext ha7
  replace bS := bS.ext ha7
  have cbH_33 := fun o => bH.cell o
  have cbKr_34 := fun o => bKr.cell o
  have cbTr_35 := fun o => bTr.cell o
  have fbTr_35 := fun o => bTr.frozen o
  have cbS_36 := fun o => bS.cell o
  have cX7 := fun o => bX.cell o
  by_cases hj0 : j = 0
  · have HX := Lib.hid (HYs.out (.inl hj0))
    have hj1 : (j : Int) = 0 := by omega
    have hj2 : ((j : Int) == 0) = true := by rw [hj1]; rfl
    clear hj0
    have hxe := (ext_put2 (hxr.trans hxh7) (Nat.le_refl _) (.int .i64 X.N) (.int .i64 X.D)).alloc (.cells #[.int .i64 X.N, .int .i64 X.D] 139)
    have bE := ((bTr7.set_ 0 (.int .i64 X.N)).set_ 1 (.int .i64 X.D)).alloc (.cells #[.int .i64 X.N, .int .i64 X.D] 139)
    go_wp2
    go_roundw
    case rel => exact ⟨j + 1, by omega, by go_num, hxe, by rw [HX.out]; exact bE⟩
    case measure => simp [intOf]; omega
  have hj1 : ¬ (j : Int) = 0 := by omega
  have hj2 : ((j : Int) == 0) = false := by rw [beq_eq_false_iff_ne]; exact hj1
  go_wp2_with fail
  refine (HCm.out _).mono ?_
  rintro e w8 ⟨rfl, hx8⟩
  replace hxh := hxh.trans hx8
  replace bH := bH.ext hx8
  replace bKr := bKr.ext hx8
  replace bTr := bTr.ext hx8
  replace bS := bS.ext hx8
  replace bX := bX.ext hx8
  have cbH_37 := fun o => bH.cell o
  have cbKr_38 := fun o => bKr.cell o
  have cbTr_39 := fun o => bTr.cell o
  have fbTr_39 := fun o => bTr.frozen o
  have cbS_40 := fun o => bS.cell o
  have cbX_41 := fun o => bX.cell o
  have l8 := bTr.lt
  by_cases hz : 0 < ratioCmp X Y
  · have HX := Lib.hid (HYs.out (.inr hz))
    obtain ⟨z, hzz⟩ : ∃ z, ratioCmp ⟨X.N, X.D⟩ ⟨Y.N, Y.D⟩ = z := ⟨_, rfl⟩
    have hz' : 0 < z := by rw [← hzz]; exact hz
    have hz2 : decide (0 < z) = true := decide_eq_true hz'
    rw [hzz]
    clear hzz hz
    have hxe := ext_put2 (hxr.trans hxh) (Nat.le_refl _) (.int .i64 X.N) (.int .i64 X.D)
    have bE := (bTr.set_ 0 (.int .i64 X.N)).set_ 1 (.int .i64 X.D)
    go_wp2
    go_roundw
    case rel => exact ⟨j + 1, by omega, by go_num, hxe, by rw [HX.out]; exact bE⟩
    case measure => simp [intOf]; omega
  have HX := Lib.hid (HNn.out (fun e => hj1 (by omega)) (by first | exact hz | exact Int.not_lt.1 hz))
  obtain ⟨z, hzz⟩ : ∃ z, ratioCmp ⟨X.N, X.D⟩ ⟨Y.N, Y.D⟩ = z := ⟨_, rfl⟩
  have hz' : ¬ 0 < z := by rw [← hzz]; exact hz
  have hz2 : decide (0 < z) = false := decide_eq_false hz'
  rw [hzz]
  clear hzz hz
  have hxe := hxr.trans hxh
  go_wp2
  go_roundw
  case rel => exact ⟨j + 1, by omega, by go_num, hxe, by rw [HX.out]; exact bTr⟩
  case measure => simp [intOf]; omega
end Go.Proofs.YtfnmbpjkjajpcaaGreatDoor
namespace Go.Proofs.YtfnmbpjkjajpcaaGreatDoor
open Go.ChangeShapes Go.WideShapes Go.ChangeAt Go.RowKit
set_option linter.unusedVariables false
theorem index_free {q : UInt8} : ∀ {l : List UInt8}, q ∉ l → Lib.index l [q] = -1
  | [], _ => rfl
  | b :: l, h => by
    have ih := index_free (l := l) (fun k => h (List.mem_cons_of_mem _ k))
    have hb : (q == b) = false := by
      rw [beq_eq_false_iff_ne]
      intro e
      exact h (e ▸ List.mem_cons_self ..)
    simp [Lib.index, List.isPrefixOf, hb, ih]
theorem index_at {q : UInt8} : ∀ {a b : List UInt8}, q ∉ a → Lib.index (a ++ q :: b) [q] = (a.length : Int)
  | [], b, _ => by simp [Lib.index, List.isPrefixOf]
  | c :: a, b, h => by
    have ih := index_at (a := a) (b := b) (fun k => h (List.mem_cons_of_mem _ k))
    have hb : (q == c) = false := by
      rw [beq_eq_false_iff_ne]
      intro e
      exact h (e ▸ List.mem_cons_self ..)
    have h1 : ¬ ((a.length : Int) == -1) = true := by rw [beq_iff_eq]; omega
    rw [List.cons_append, Lib.index, ih]
    simp [List.isPrefixOf, hb]
    try omega
theorem bytes_txt (s : ByteArray) : txt s.data.toList = s := by
  apply ByteArray.ext
  simp [txt]
theorem split_all (q : UInt8) : ∀ (n : Nat) (s : ByteArray), s.data.toList.length ≤ n → Lib.splitB ⟨#[q]⟩ 0 (Lib.countB s ⟨#[q]⟩) s = (splitC q s.data.toList).map txt := by
  intro n
  induction n with
  | zero =>
    intro s hs
    have e : s.data.toList = [] := List.length_eq_zero_iff.1 (by omega)
    have hi : Lib.indexB s ⟨#[q]⟩ = -1 := by
      unfold Lib.indexB
      rw [e]
      rfl
    rw [Lib.countB_miss _ _ hi, Lib.splitB_zero, e, splitC_last (by simp), List.map_singleton]
    rw [show txt [] = s by rw [← e]; exact bytes_txt s]
  | succ n ih =>
    intro s hs
    by_cases h : q ∈ s.data.toList
    · obtain ⟨a, b, e, ha⟩ := List.eq_append_cons_of_mem h
      have hi : Lib.indexB s ⟨#[q]⟩ = (a.length : Int) := by
        unfold Lib.indexB
        rw [e]
        exact index_at ha
      have hsz : s.size = a.length + 1 + b.length := by
        have : s.size = s.data.toList.length := (Array.length_toList ..).symm
        rw [this, e]; simp; omega
      have h1 : (⟨#[q]⟩ : ByteArray).size = 1 := rfl
      have e1 : s.extract 0 (a.length + 0) = txt a := by
        rw [cut_txt, e]
        simp
      have e2 : s.extract (a.length + 1) s.size = txt b := by
        rw [cut_txt_end s _ s.size (Array.length_toList ..), e]
        simp
      have hd : (txt b).data.toList = b := by simp [txt]
      rw [Lib.countB_hit s ⟨#[q]⟩ a.length (by rw [h1]; omega) hi, h1, Nat.add_comm 1, Lib.splitB_hit _ _ _ _ _ hi, e1, h1, e2]
      rw [ih (txt b) (by rw [hd]; rw [e] at hs; simp at hs; omega), hd, e, splitC_cons ha, List.map_cons]
    · have hi : Lib.indexB s ⟨#[q]⟩ = -1 := by
        unfold Lib.indexB
        exact index_free h
      rw [Lib.countB_miss _ _ hi, Lib.splitB_zero, splitC_last h, List.map_singleton, bytes_txt]
theorem count_all (q : UInt8) (s : ByteArray) : Lib.countB s ⟨#[q]⟩ + 1 = (splitC q s.data.toList).length := by
  have h := congrArg List.length (split_all q _ s (Nat.le_refl _))
  rw [Lib.splitB_all _ (show 1 ≤ (⟨#[q]⟩ : ByteArray).size from Nat.le_refl 1) 0 _ s rfl, List.length_map] at h
  exact h
def Spl (w : World) : Prop := ∃ m, w.cell? ⟨1, 0, none⟩ = some (.int .i64 m)
theorem Spl.ext {w w' : World} (h : Spl w) (hx : Ext w w') : Spl w' := by
  obtain ⟨m, h⟩ := h
  exact ⟨m, hx.cellOf h⟩
theorem strs_cell {P : List (List UInt8)} {k : Nat} (h : k < P.length) : (strs P)[k]? = some (.string (txt P[k])) := by
  unfold strs
  rw [List.getElem?_map, List.getElem?_eq_getElem h]
  rfl
theorem lines_cut {L : List UInt8} {P : List (List UInt8)} {k : Nat} (hP : splitC 10 L = P) (hk : k + 1 = P.length) (h : P[k]'(by omega) = []) : linesOf L = P.take k ∧ (linesOf L).length = k := by
  have hg : P.getLast? = some [] := by rw [List.getLast?_eq_getElem?, ← hk, Nat.add_sub_cancel, List.getElem?_eq_getElem (by omega), h]
  have e : linesOf L = P.dropLast := by
    unfold linesOf
    rw [hP, if_pos hg]
  rw [e, List.dropLast_eq_take, ← hk, Nat.add_sub_cancel]
  refine ⟨rfl, ?_⟩
  rw [List.length_take, ← hk]
  omega
theorem lines_whole {L : List UInt8} {P : List (List UInt8)} {k : Nat} (hP : splitC 10 L = P) (hk : k + 1 = P.length) (h : P[k]'(by omega) ≠ []) : linesOf L = P := by
  unfold linesOf
  rw [hP, if_neg]
  rw [List.getLast?_eq_getElem?, ← hk, Nat.add_sub_cancel, List.getElem?_eq_getElem (by omega)]
  intro e
  exact h (Option.some.inj e)
def LinesAt (l : List (List UInt8)) (w : World) (e : Ending) (w' : World) : Prop := ∃ A c, e = .returned (.slice A l.length c) ∧ Row w' A (strs l) ∧ Ext w w'
set_option maxHeartbeats 2000000 in
theorem implSplitLines_any (s : ByteArray) (hs : s.size ≤ 1048576) (w : World) (hm : Spl w) : Calls Tryz.prog 10 #[.string s] w (LinesAt (linesOf s.data.toList) w) := by
  obtain ⟨m, hm⟩ := hm
  have HSp := Lib.hid (fun w h => Tryz.strings_Split s ⟨#[10]⟩ m w (by omega) h (by decide))
  have hall := split_all 10 _ s (Nat.le_refl _)
  have hcnt := count_all 10 s
  rw [hall] at HSp
  have hcells : ((splitC 10 s.data.toList).map txt).map Value.string = strs (splitC 10 s.data.toList) := by unfold strs; rw [List.map_map]; rfl
  rw [hcells] at HSp
  have hsm := splitC_len 10 s.data.toList
  have hsz : s.data.toList.length = s.size := Array.length_toList ..
  obtain ⟨k, hk⟩ : ∃ k, Lib.countB s ⟨#[10]⟩ = k := ⟨_, rfl⟩
  rw [hk] at HSp hcnt
  obtain ⟨P, hP⟩ : ∃ P, splitC 10 s.data.toList = P := ⟨_, rfl⟩
  rw [hP] at hall hcnt HSp hcells hsm
  have hkl : k < P.length := by omega
  have hx : Ext w (w.alloc (.cells (strs P).toArray 9)) := (Ext.refl w).alloc _
  have hrow : ∀ j v, (strs P)[j]? = some v → (w.alloc (.cells (strs P).toArray 9)).cell? ⟨w.heap.size, j, none⟩ = some v := by
    intro j v hj
    rw [(Blk.new w 9 (strs P).toArray).cell, List.getElem?_toArray]
    exact hj
  have hlast := hrow k _ (strs_cell hkl)
  have HRow := Lib.hid hrow
  obtain ⟨t, ht⟩ : ∃ t, P[k] = t := ⟨_, rfl⟩
  rw [ht] at hlast
  have HCut : Hid (t = [] → linesOf s.data.toList = P.take k ∧ (linesOf s.data.toList).length = k) := fun e => lines_cut hP hcnt (ht.trans e)
  have HWh : Hid (t ≠ [] → linesOf s.data.toList = P) := fun e => lines_whole hP hcnt (fun q => e (ht.symm.trans q))
  generalize linesOf s.data.toList = LS at *
  have hkb : (k : Int) ≤ 2000000 := by omega
  have hk1 : (k : Int) < (k : Int) + 1 := by omega
  have hk0 : (0 : Int) ≤ (k : Int) := by omega
  have HL := Lib.hid hcnt
  clear hP hall hcnt hcells hsm hsz hk hrow ht
  by_cases he : t = []
  · subst he
    have q1 : (txt []).toList = [] := by rw [ByteArray.toList_eq, txt_list]
    go_enter Tryz.func10, Tryz.ntmps10
    go_wp2_with fail
    refine (HSp.out _ hm).mono ?_
    rintro e w' ⟨rfl, rfl⟩
    go_wp2
    go_ret
    obtain ⟨e1, e2⟩ := HCut.out (by first | rfl | trivial)
    refine ⟨some ⟨w.heap.size, 0, none⟩, k + 1, by rw [e2]; rfl, .inr ⟨w.heap.size, 0, rfl, fun j v hj => ?_⟩, hx⟩
    rw [Nat.zero_add]
    refine HRow.out j v ?_
    rw [e1] at hj
    unfold strs at hj ⊢
    rw [List.map_take, List.getElem?_take] at hj
    split at hj
    · exact hj
    · cases hj
  · have q2 : (txt t).toList.isEmpty = false := by
      rw [ByteArray.toList_eq, txt_list]
      cases t
      · exact absurd rfl he
      · rfl
    have q1 : ¬ (txt t).toList = [] := by rw [ByteArray.toList_eq, txt_list]; exact he
    go_enter Tryz.func10, Tryz.ntmps10
    go_wp2_with fail
    refine (HSp.out _ hm).mono ?_
    rintro e w' ⟨rfl, rfl⟩
    go_wp2
    go_ret
    have e1 := HWh.out he
    refine ⟨some ⟨w.heap.size, 0, none⟩, k + 1, by rw [e1, ← HL.out]; rfl, .inr ⟨w.heap.size, 0, rfl, fun j v hj => ?_⟩, hx⟩
    rw [Nat.zero_add]
    refine HRow.out j v ?_
    rw [← e1]
    exact hj
end Go.Proofs.YtfnmbpjkjajpcaaGreatDoor
namespace Go.Proofs.YtfnmbpjkjajpcaaGreatDoor
open Go.ChangeShapes Go.WideShapes Go.ChangeAt Go.RowKit
set_option linter.unusedVariables false
set_option maxRecDepth 100000
theorem cut_no {p : List Half} {h : Half} (q : regOk p = false ∨ halfOk h = false ∨ 40 ≤ p.length) : cutR p h = ([], false) := by
  unfold cutR
  rw [if_neg]
  rintro ⟨a, b, c⟩
  rcases q with q | q | q
  · rw [q] at a; cases a
  · rw [q] at b; cases b
  · omega
theorem cut_void {p : List Half} {h : Half} (a : regOk p = true) (b : halfOk h = true) (d : p.length = 0) : cutR p h = ([], true) := by
  have e : p = [] := List.length_eq_zero_iff.1 d
  unfold cutR
  rw [if_pos ⟨a, b, by omega⟩, if_pos e]
theorem cut_yes {p : List Half} {h : Half} (a : regOk p = true) (b : halfOk h = true) (c : p.length < 40) (d : p.length ≠ 0) : cutR p h = fitR (madeOf (p ++ [h])) := by
  have e : p ≠ [] := fun e => d (by rw [e]; rfl)
  unfold cutR
  rw [if_pos ⟨a, b, c⟩, if_neg e, made_cut_fit a e (by simp [b]) (by simp; omega)]
theorem own_eq2 {w : World} {base : Nat} {e : TypeId} {s n : Nat} {v : Value} {xs ys : List Value} (h : w.ownsRow base e s v n xs) (e' : xs = ys) : w.ownsRow base e s v n ys := e' ▸ h
set_option maxHeartbeats 16000000 in
theorem implCutRegion_any (A : Option Addr) (n c : Nat) (ps : List Half) (h : Half) (w : World) (hn : ps.length = n) (hr : Row w A (ints (flat Half.ints ps))) (hA : A = none → n = 0 ∧ c = 0) (hI : HalvesI ps) (hle : n ≤ maxLen) (h1 : I64 h.A) (h2 : I64 h.B) (h3 : I64 h.C) :
    Calls Tryz.prog 116 #[.agg #[.slice A n c], .agg #[.int .i64 h.A, .int .i64 h.B, .int .i64 h.C]] w (RegMade (cutR ps h) w) := by
  obtain ⟨i0, hi0, hz0, hz1, hz2⟩ := info_parts half_info
  have HO := Lib.hid (fun w hr => implRegionOk_any A n c ps w hn hr hI hle)
  have HH := Lib.hid (fun w => implHalfOk_any h.A h.B h.C w h1 h2 h3)
  have HV := Lib.hid (fun w => implIsVoid_any A n c w hle)
  have HCl := Lib.hid (fun w hr (hle : n ≤ 1048576) => clone_any A n c ps w hn hr hA hle)
  have HMe := Lib.hid (fun A k c hs w hk hr h1 h2 hall => meetAll_any A k c hs w hk hr h1 h2 hall)
  have HNo := Lib.hid (fun q => cut_no (p := ps) (h := h) q)
  have HVo := Lib.hid (fun a b d => cut_void (p := ps) (h := h) a b d)
  have HYe := Lib.hid (fun a b c d => cut_yes (p := ps) (h := h) a b c d)
  have HLen : Hid ((ps ++ [h]).length = n + 1) := by rw [Hid, List.length_append, hn]; rfl
  have HF1 : Hid ((ints (flat Half.ints ps)).length = n * 3) := by rw [Hid, ints_length, flat_length Half.ints_len, hn]
  have HCat : Hid (∀ l, l = ints (flat Half.ints ps) ++ #[.int .i64 h.A, .int .i64 h.B, .int .i64 h.C].toList → l = ints (flat Half.ints (ps ++ [h]))) := by
    intro l e
    rw [e, halves_add]
  have HR := Lib.hid hr
  have HN := Lib.hid hn
  rw [hn] at HNo HVo HYe
  have hx : Ext w (((w.alloc (.cells #[.slice A n c] 34)).alloc (.cells #[.int .i64 h.A, .int .i64 h.B, .int .i64 h.C] 116)).alloc (.cells #[.slice none 0 0] 34)) := ((((Ext.refl w).alloc _).alloc _).alloc _)
  have bP := (((Blk.new w 34 #[.slice A n c]).alloc (.cells #[.int .i64 h.A, .int .i64 h.B, .int .i64 h.C] 116)).alloc (.cells #[.slice none 0 0] 34))
  have bQ := ((Blk.new (w.alloc (.cells #[.slice A n c] 34)) 116 #[.int .i64 h.A, .int .i64 h.B, .int .i64 h.C]).alloc (.cells #[.slice none 0 0] 34))
  have bR := (Blk.new ((w.alloc (.cells #[.slice A n c] 34)).alloc (.cells #[.int .i64 h.A, .int .i64 h.B, .int .i64 h.C] 116)) 34 #[.slice none 0 0])
  simp only [World.size_alloc] at bQ bR
  have hh' : halfOk ⟨h.A, h.B, h.C⟩ = halfOk h := rfl
  rw [hh'] at HH
  clear hr hn hA hI h1 h2 h3 hh'
  generalize cutR ps h = CR at *
  have cbP_42 := fun o => bP.cell o
  have cbQ_43 := fun o => bQ.cell o
  have cbR_44 := fun o => bR.cell o
  have fbR_44 := fun o => bR.frozen o
  go_enter Tryz.func116, Tryz.ntmps116
  go_wp2_with fail
  refine (HH.out _).mono ?_
  rintro e w1 ⟨rfl, hx1⟩
  replace hx := hx.trans hx1
  replace bP := bP.ext hx1
  replace bQ := bQ.ext hx1
  replace bR := bR.ext hx1
  have cbP_45 := fun o => bP.cell o
  have cbQ_46 := fun o => bQ.cell o
  have cbR_47 := fun o => bR.cell o
  have fbR_47 := fun o => bR.frozen o
  have hs1 := bR.lt
  by_cases k1 : halfOk h = true
  rotate_left
  · have k1' : halfOk h = false := by simpa using k1
    have H := Lib.hid (HNo.out (.inr (.inl k1')))
    rw [k1']
    clear k1 k1'
    go_wp2
    have bF := bR.set_ 0 (.slice none 0 0)
    have cF := fun o => bF.cell o
    refine bodyPost_ret (v := .tuple #[.agg #[.slice none 0 0], .bool false]) (by simp [results, Tryz.results116, go_sem, cF]) rfl ?_
    exact RegMade.nil false H.out rfl (hx.setCell (p := ⟨w.heap.size + 1 + 1, 0, none⟩) (by simp only; omega) _)
  have K1 := Lib.hid k1
  rw [k1]
  clear k1
  go_wp2_with fail
  refine (HO.out _ (HR.out.ext hx)).mono ?_
  rintro e w2 ⟨rfl, hx2⟩
  replace hx := hx.trans hx2
  replace bP := bP.ext hx2
  replace bQ := bQ.ext hx2
  replace bR := bR.ext hx2
  have cbP_48 := fun o => bP.cell o
  have cbQ_49 := fun o => bQ.cell o
  have cbR_50 := fun o => bR.cell o
  have fbR_50 := fun o => bR.frozen o
  have hs2 := bR.lt
  by_cases k2 : regOk ps = true
  rotate_left
  · have k2' : regOk ps = false := by simpa using k2
    have H := Lib.hid (HNo.out (.inl k2'))
    rw [k2']
    clear k2 k2'
    go_wp2
    have bF := bR.set_ 0 (.slice none 0 0)
    have cF := fun o => bF.cell o
    refine bodyPost_ret (v := .tuple #[.agg #[.slice none 0 0], .bool false]) (by simp [results, Tryz.results116, go_sem, cF]) rfl ?_
    exact RegMade.nil false H.out rfl (hx.setCell (p := ⟨w.heap.size + 1 + 1, 0, none⟩) (by simp only; omega) _)
  have K2 := Lib.hid k2
  rw [k2]
  clear k2
  by_cases k3 : 40 ≤ n
  · have H := Lib.hid (HNo.out (.inr (.inr k3)))
    have k3' : (40 : Int) ≤ (n : Int) := by omega
    have k3'' : decide ((40 : Int) ≤ (n : Int)) = true := decide_eq_true k3'
    clear k3
    go_wp2
    have bF := bR.set_ 0 (.slice none 0 0)
    have cF := fun o => bF.cell o
    refine bodyPost_ret (v := .tuple #[.agg #[.slice none 0 0], .bool false]) (by simp [results, Tryz.results116, go_sem, cF]) rfl ?_
    exact RegMade.nil false H.out rfl (hx.setCell (p := ⟨w.heap.size + 1 + 1, 0, none⟩) (by simp only; omega) _)
  have k3' : ¬ (40 : Int) ≤ (n : Int) := by omega
  have k3'' : decide ((40 : Int) ≤ (n : Int)) = false := decide_eq_false k3'
  have hl : n < 40 := by omega
  clear k3
  go_wp2_with fail
  refine (HV.out _).mono ?_
  rintro e w3 ⟨rfl, hx3⟩
  replace hx := hx.trans hx3
  replace bP := bP.ext hx3
  replace bQ := bQ.ext hx3
  replace bR := bR.ext hx3
  have cbP_51 := fun o => bP.cell o
  have cbQ_52 := fun o => bQ.cell o
  have cbR_53 := fun o => bR.cell o
  have fbR_53 := fun o => bR.frozen o
  have hs3 := bR.lt
  by_cases k4 : n = 0
  · have H := Lib.hid (HVo.out K2.out K1.out k4)
    have k4' : decide (n = 0) = true := decide_eq_true k4
    rw [k4']
    clear k4 k4'
    go_wp2
    have bF := bR.set_ 0 (.slice none 0 0)
    have cF := fun o => bF.cell o
    refine bodyPost_ret (v := .tuple #[.agg #[.slice none 0 0], .bool true]) (by simp [results, Tryz.results116, go_sem, cF]) rfl ?_
    exact RegMade.nil true H.out rfl (hx.setCell (p := ⟨w.heap.size + 1 + 1, 0, none⟩) (by simp only; omega) _)
  have H := Lib.hid (HYe.out K2.out K1.out hl k4)
  have k4' : decide (n = 0) = false := decide_eq_false k4
  have hn0 : 0 < n := by omega
  rw [k4']
  clear k4 k4'
  have hcur := Ext.refl w3
  have lP := bP.lt
  have lQ := bQ.lt
  have KH := Blk.new w3 116 #[.int .i64 h.A, .int .i64 h.B, .int .i64 h.C]
  have HAll : Hid ((ps ++ [h]).all halfOk = true) := by rw [Hid, List.all_append, regOk_all K2.out]; simp [K1.out]
  have HMe2 := Lib.hid (fun A c w hr h1 h2 => HMe.out A (n + 1) c (ps ++ [h]) w HLen.out hr h1 h2 HAll.out)
  clear HMe HNo HVo HYe
  generalize fitR (madeOf (ps ++ [h])) = F at *
  have ne1 : ¬ w.heap.size = w.heap.size + 1 + 1 := by omega
  have ne2 : ¬ w.heap.size + 1 + 1 = w.heap.size := by omega
  go_wp2_with fail
  go_region_held3 (fun w' => w'.cell? ⟨w.heap.size, 0, none⟩ = some (.slice A n c) ∧ w'.cell? ⟨w.heap.size + 1, 0, none⟩ = some (.int .i64 h.A) ∧ w'.cell? ⟨w.heap.size + 1, 1, none⟩ = some (.int .i64 h.B) ∧ w'.cell? ⟨w.heap.size + 1, 2, none⟩ = some (.int .i64 h.C))
    (go_keep)
    (first
      | (go_at_call 180; (with_reducible refine (HCl.out _ (by exact HR.out.ext (hx.trans (by first | exact hcur | exact hcur.drew | exact hcur.alloc _ | exact (hcur.alloc _).drew))) (by omega)).mono ?_); rintro e w9 ⟨A1, c1, n1, rfl, hn1, hx9, hown1⟩; rw [HN.out] at hn1; subst n1; (first | have hx8 := (Ext.refl _).drew.trans hx9 | have hx8 := hx9); replace hcur := Ext.trans (by first | exact hcur | exact hcur.drew | exact hcur.alloc _ | exact (hcur.alloc _).drew) hx9; replace hown1 := own_base hown1 (base' := w3.heap.size) (by simp <;> omega); have d1 := fun o => (bP.ext hcur).cell o; have d2 := fun o => (bQ.ext hcur).cell o; have l9 := (bP.ext hcur).lt; have l9' := (bQ.ext hcur).lt; (first | (have gH : Blk w9 w3.heap.size 116 #[.int .i64 h.A, .int .i64 h.B, .int .i64 h.C] := KH.ext hx8; have gHc := fun o => gH.cell o; have gHl := gH.lt) | skip))
      | (have gHx := gH; refine step_append_lies _ (by rfl) (.tmp 26) (.tmp 28) 32 (by rfl) w3.heap.size 116 i0 (.agg #[.int .i64 0, .int .i64 0, .int .i64 0]) 3 24 Tryz.underlying32 hi0 hz0 hz1 hz2 rfl (by decide) (.slice A1 n c1) n (ints (flat Half.ints ps)) (by first | rfl | simp [Act.eval]) (hown1) ⟨w3.heap.size, 0, none⟩ 1 1 #[.int .i64 h.A, .int .i64 h.B, .int .i64 h.C].toList (by rfl) (by rfl) (row_add (fun j v hj => by rw [(gH : Blk _ _ 116 #[.int .i64 h.A, .int .i64 h.B, .int .i64 h.C]).cell, Nat.zero_add]; simpa using hj)) (by simp [Value.oneCell']) (by omega) (by unfold maxLen; omega) (by omega) (by first | exact hcur.size | exact (hcur.alloc _).size) _ rfl ?_; intro gg2 cap2 w10 hown2 hgrow2 hat2 hlt2; have hcur2 : Ext w3 w10 := Ext.grown (by first | exact hcur | exact hcur.alloc _) hgrow2 (fun q hq => (World.ownsRow.lt hown1 q hq).1); replace hown2 := own_eq2 hown2 (HCat.out _ rfl); have d3 := fun o => (bP.ext hcur2).cell o; have d4 := fun o => (bQ.ext hcur2).cell o)
      | (refine step_append_lies _ (by rfl) (.tmp 26) (.tmp 28) 32 (by rfl) w3.heap.size 116 i0 (.agg #[.int .i64 0, .int .i64 0, .int .i64 0]) 3 24 Tryz.underlying32 hi0 hz0 hz1 hz2 rfl (by decide) (.slice A1 n c1) n (ints (flat Half.ints ps)) (by first | rfl | simp [Act.eval]) (hown1.alloc _) ⟨w9.heap.size, 0, none⟩ 1 1 #[.int .i64 h.A, .int .i64 h.B, .int .i64 h.C].toList (by rfl) (by rfl) (row_add (fun j v hj => by rw [(Blk.new w9 _ _ : Blk _ _ 116 #[.int .i64 h.A, .int .i64 h.B, .int .i64 h.C]).cell, Nat.zero_add]; simpa using hj)) (by simp [Value.oneCell']) (by omega) (by unfold maxLen; omega) (by omega) (by first | exact hcur.size | exact (hcur.alloc _).size) _ rfl ?_; intro gg2 cap2 w10 hown2 hgrow2 hat2 hlt2; have hcur2 : Ext w3 w10 := Ext.grown (by first | exact hcur | exact hcur.alloc _) hgrow2 (fun q hq => (World.ownsRow.lt hown1 q hq).1); replace hown2 := own_eq2 hown2 (HCat.out _ rfl); have d3 := fun o => (bP.ext hcur2).cell o; have d4 := fun o => (bQ.ext hcur2).cell o)
      | (go_at_call 135; (with_reducible refine (HMe2.out _ _ _ (Row.of_own hown2) (by omega) (by omega)).mono ?_); rintro e w11 ⟨A9, c9, n9, rfl, hn9, hx9, hown9⟩; have hcur3 := hcur2.trans hx9; have d5 := fun o => (bP.ext hcur3).cell o; have d6 := fun o => (bQ.ext hcur3).cell o; have d7 := fun o => (bR.ext hcur3).cell o; have d8 := fun o => (bR.ext hcur3).frozen o))
  all_goals
    have hs10 := hcur2.size
    subst n9
    have bF := (bR.ext hcur3).set_ 0 (.slice A9 F.1.length c9)
    have cF := fun o => bF.cell o
    have hEf := hx.trans hcur3
    clear d7 d8
    go_wp2
    refine bodyPost_ret (v := .tuple #[.agg #[.slice A9 F.1.length c9], .bool F.2]) (by simp [results, Tryz.results116, go_sem, cF]) rfl ?_
    rw [H.out]
    refine ⟨A9, c9, _, rfl, rfl, ?_, ?_⟩
    · first
        | (with_reducible exact hEf.setCell (by simp only; omega) _)
        | (with_reducible exact (hEf.setCell (by simp only; omega) _).drew)
    · first
        | (with_reducible exact own_base (own_far hown9 (by simp only; omega) _) (by omega))
        | exact own_base (own_far hown9 (p := ⟨w.heap.size + 1 + 1, 0, none⟩) (by simp only; omega) (.slice A9 F.1.length c9)) (by omega)
end Go.Proofs.YtfnmbpjkjajpcaaGreatDoor
namespace Go.Proofs.YtfnmbpjkjajpcaaGreatDoor
open Go.ChangeShapes Go.WideShapes Go.ChangeAt Go.RowKit
set_option linter.unusedVariables false
set_option maxRecDepth 100000
def Bld (B b : Nat) (bs : List Value) (w : World) : Prop := Lib.IsBuilder 70 5 B b bs w
def BKept (B b : Nat) (w w' : World) : Prop := Below B w w' ∧ Lib.OthersKept 5 (some b) w w'
theorem builder_size : ∃ j, Tryz.prog.info? 70 = some j ∧ j.size = 2 := Option.map_eq_some_iff.1 (Tryz.Builder_Extra_169.sizeBuilder)
theorem byte_info : ∃ i0 : TypeInfo, Tryz.prog.info? 5 = some i0 ∧ i0.zero = some (.int .u8 0) ∧ i0.size = 1 ∧ i0.bytes = 1 := info_parts Tryz.Builder_Extra_169.infoByte
set_option maxHeartbeats 1000000 in
theorem copyCheck_used (b : Nat) (w : World) (h0 : w.cell? ⟨b, 0, none⟩ = some (.pointer (some ⟨b, 0, none⟩))) :
    Calls Tryz.prog 64 #[.pointer (some ⟨b, 0, none⟩)] w fun e w' => e = .returned (.tuple #[]) ∧ w' = w := by
  obtain ⟨j, hj, _⟩ := builder_size
  go_enter Tryz.func64, Tryz.ntmps64
  go_wp2
  rw [Lib.run_neq_ptr_same w _ Tryz.underlying68 hj]
  go_wp2
  go_end0
  exact ⟨rfl, rfl⟩
set_option maxHeartbeats 1000000 in
theorem copyCheck_fresh (b : Nat) (w : World) (h0 : w.cell? ⟨b, 0, none⟩ = some (.pointer none)) (hsh : w.shape? b = some (70, 2)) (hfz : w.frozen? ⟨b, 0, none⟩ = false) :
    Calls Tryz.prog 64 #[.pointer (some ⟨b, 0, none⟩)] w fun e w' => e = .returned (.tuple #[]) ∧ w' = w.setCell ⟨b, 0, none⟩ (.pointer (some ⟨b, 0, none⟩)) := by
  obtain ⟨j, hj, hjs⟩ := builder_size
  have hl := Tryz.Builder_Extra_169.liesBuilder
  go_enter Tryz.func64, Tryz.ntmps64
  go_wp2
  rw [Lib.run_to_unsafe w ⟨b, 0, none⟩ Tryz.underlying68 Tryz.underlying164 hj (by rw [hjs]; decide) hsh (Nat.zero_lt_succ 1)]
  simp only [Result.andThen]
  rw [Oper.upon_value]
  go_wp2
  rw [run_callFunc_extern Tryz.func129 (by kernel_rfl) (by kernel_rfl) (by kernel_rfl) (e := Extern.AbiNoEscape.same) (by kernel_rfl)]
  rw [Lib.run_noEscape]
  simp only [Result.andThen]
  rw [Oper.upon_value]
  go_wp2
  rw [Lib.run_from_unsafe w ⟨b, 0, none⟩ Tryz.underlying164 Tryz.underlying68 hj hsh hl]
  simp only [Result.andThen]
  rw [Oper.upon_value]
  go_wp2
  go_end0
  exact ⟨rfl, rfl⟩
theorem copyCheck_any (B b : Nat) (bs : List Value) (w : World) (h : Bld B b bs w) :
    Calls Tryz.prog 64 #[.pointer (some ⟨b, 0, none⟩)] w fun e w' => e = .returned (.tuple #[]) ∧ Lib.BuilderAt 70 5 B b (.pointer (some ⟨b, 0, none⟩)) bs w' ∧ BKept B b w w' := by
  rcases h with h | h
  · refine (copyCheck_fresh b w h.cell0 h.shape h.frozen0).mono ?_
    rintro e w' ⟨rfl, rfl⟩
    exact ⟨rfl, h.used _, (Below.refl B w).setCell (p := ⟨b, 0, none⟩) h.1 _, (Lib.OthersKept.refl _ _ w).setCell ⟨b, 0, none⟩ rfl _⟩
  · refine (copyCheck_used b w h.cell0).mono ?_
    rintro e w' ⟨rfl, rfl⟩
    exact ⟨rfl, h, Below.refl B _, Lib.OthersKept.refl _ _ _⟩
theorem own_kind {w : World} {B : Nat} {e : TypeId} {n : Nat} {v : Value} {xs : List Value} (h : w.ownsRow B e 1 v n xs) : ∀ g, v.ownBlock = some g → ∃ c fz, w.heap[g]? = some (.cells c e fz) := by
  intro g hg
  rcases h.2 with ⟨rfl, _⟩ | ⟨k, cap, cur, rfl, _, hh, _⟩
  · cases hg
  · cases hg
    exact ⟨_, _, hh⟩
set_option maxHeartbeats 2000000 in
theorem writeString_any (B b : Nat) (bs : List Value) (s : ByteArray) (w : World) (h : Bld B b bs w) (hlen : bs.length + s.size ≤ 140737488355328) (hBw : B ≤ w.heap.size) :
    Calls Tryz.prog 26 #[.pointer (some ⟨b, 0, none⟩), .string s] w fun e w' => e = .returned (.tuple #[.int .i64 s.size, .nilIface]) ∧ Bld B b (bs ++ Lib.strCells s) w' ∧ BKept B b w w' := by
  obtain ⟨i0, hi, hz0, hz1, hz2⟩ := byte_info
  have HC := Lib.hid (fun w h => copyCheck_any B b bs w h)
  go_enter Tryz.func26, Tryz.ntmps26
  go_wp2_with fail
  refine (HC.out _ h).mono ?_
  rintro e w1 ⟨rfl, h1, hb1, hk1⟩
  obtain ⟨hB, v, hbk, hown, hne⟩ := h1
  have c0 : w1.cell? ⟨b, 0, none⟩ = some (.pointer (some ⟨b, 0, none⟩)) := by rw [Lib.cell_of_heap hbk]; rfl
  have c1 : w1.cell? ⟨b, 1, none⟩ = some v := by rw [Lib.cell_of_heap hbk]; rfl
  go_wp2_with (at_builtin; go_must (refine Lib.wpList_append_own_string (P := Tryz.prog) _ rfl _ _ 22 9 rfl B 5 i0 Tryz.underlying22 Tryz.underlying9 hi hz0 hz1 hz2 _ _ _ rfl hown s rfl ?c3 ?c4 ?c5 ?_))
  case c3 => unfold maxLen; omega
  case c4 => omega
  case c5 => have := hb1.size; omega
  intro v' w2 hown' hgrow _
  have hlt : b < w1.heap.size := by
    rcases Nat.lt_or_ge b w1.heap.size with h' | h'
    · exact h'
    · simp [Array.getElem?_eq_none h'] at hbk
  have hb2 : w2.heap[b]? = some (.cells #[.pointer (some ⟨b, 0, none⟩), v] 70 (0, 0)) := by
    rw [hgrow.block b hlt (fun e => hne e.symm)]
    exact hbk
  have d0 : w2.cell? ⟨b, 0, none⟩ = some (.pointer (some ⟨b, 0, none⟩)) := by rw [Lib.cell_of_heap hb2]; rfl
  have d1 : w2.cell? ⟨b, 1, none⟩ = some v := by rw [Lib.cell_of_heap hb2]; rfl
  have f1 : w2.frozen? ⟨b, 1, none⟩ = false := Lib.frozen_of_heap hb2 1
  obtain ⟨ao, n', cap, rfl⟩ : ∃ ao n' cap, v' = .slice ao n' cap := by
    rcases hown'.2 with ⟨hv, _⟩ | ⟨g, cap, cur, hv, _⟩
    · exact ⟨_, _, _, hv⟩
    · exact ⟨_, _, _, hv⟩
  go_wp2
  go_ret2
  refine ⟨rfl, .inr ?_, ?_, (hk1.grown hgrow (own_kind hown)).setCell ⟨b, 1, none⟩ rfl _⟩
  · exact Lib.BuilderAt.put (T := 70) (e := 5) hB hb2 (bs' := bs ++ Lib.strCells s) (by simpa [Lib.strCells_length] using hown') (by decide)
  · exact (hb1.grown hgrow (by have := hb1.size; omega) (fun k hk => (hown.lt k hk).1)).setCell (p := ⟨b, 1, none⟩) hB _
end Go.Proofs.YtfnmbpjkjajpcaaGreatDoor
namespace Go.Proofs.YtfnmbpjkjajpcaaGreatDoor
open Go.ChangeShapes Go.WideShapes Go.ChangeAt Go.RowKit
set_option linter.unusedVariables false
set_option maxRecDepth 100000
section
variable {w w' : World} {B b B0 lo : Nat} {c : Console} {bs : List Value}
theorem own_touch {base : Nat} {e : TypeId} {s n : Nat} {v : Value} {xs : List Value} (h : w.ownsRow base e s v n xs) (k : Touch B (B + 1) w w') (hb : ∀ g, v.ownBlock = some g → g ≠ B) : w'.ownsRow base e s v n xs := by
  obtain ⟨h1, h2⟩ := h
  refine ⟨h1, ?_⟩
  rcases h2 with h2 | ⟨g, cap, cur, hv, hg, hh, r⟩
  · exact .inl h2
  · have hlt := (Array.getElem?_eq_some_iff.1 hh).1
    have := hb g (by rw [hv]; rfl)
    exact .inr ⟨g, cap, cur, hv, hg, by rw [k.block g hlt (by omega)]; exact hh, r⟩
theorem BuilderAt.touch {p : Value} (h : Lib.BuilderAt 70 5 B0 b p bs w) {cs : Array Value} (hB : Blk w B 43 cs) (k : Touch B (B + 1) w w') : Lib.BuilderAt 70 5 B0 b p bs w' := by
  obtain ⟨h0, v, hb, ho, hne⟩ := h
  have hB' : w.heap[B]? = some (.cells cs 43 (0, 0)) := hB
  have n1 : b ≠ B := by
    rintro rfl
    rw [hB'] at hb
    injection hb with hb
    injection hb with _ hb _
    exact absurd hb (by decide)
  have hlt := (Array.getElem?_eq_some_iff.1 hb).1
  refine ⟨h0, v, by rw [k.block b hlt (by omega)]; exact hb, own_touch ho k fun g hg => ?_, hne⟩
  rintro rfl
  obtain ⟨cc, fz, hh⟩ := own_kind ho g hg
  rw [hB'] at hh
  injection hh with hh
  injection hh with _ hh _
  exact absurd hh (by decide)
theorem Bld.touch (h : Bld B0 b bs w) {cs : Array Value} (hB : Blk w B 43 cs) (k : Touch B (B + 1) w w') : Bld B0 b bs w' :=
  h.elim (fun q => .inl (BuilderAt.touch q hB k)) (fun q => .inr (BuilderAt.touch q hB k))
theorem Bld.lt (h : Bld B0 b bs w) : b < w.heap.size := by
  rcases h with ⟨_, v, hb, _⟩ | ⟨_, v, hb, _⟩ <;> exact (Array.getElem?_eq_some_iff.1 hb).1
theorem Bld.ne (h : Bld B0 b bs w) {cs : Array Value} (hB : Blk w B 43 cs) : B ≠ b := by
  have hB' : w.heap[B]? = some (.cells cs 43 (0, 0)) := hB
  rintro rfl
  rcases h with ⟨_, v, hb, _⟩ | ⟨_, v, hb, _⟩ <;> (rw [hB'] at hb; injection hb with hb; injection hb with _ hb _; exact absurd hb (by decide))
theorem Mine.kept {lo hi : Nat} {e : TypeId} {s n : Nat} {v : Value} {cs : List Value} (h : Mine w lo hi e s v n cs) (k : BKept B0 b w w') (he : e ≠ 5) (hT : e ≠ 70) (hb : ∃ p q, w.heap[b]? = some (.cells #[p, q] 70 (0, 0))) : Mine w' lo hi e s v n cs := by
  refine ⟨?_, h.2⟩
  obtain ⟨h1, h2⟩ := h.1
  refine ⟨h1, ?_⟩
  rcases h2 with h2 | ⟨g, cap, cur, hv, hg, hh, r⟩
  · exact .inl h2
  · refine .inr ⟨g, cap, cur, hv, hg, k.2 g _ hh ?_ ?_, r⟩
    · rintro ⟨⟩
      obtain ⟨p, q, hb⟩ := hb
      rw [hh] at hb
      injection hb with hb
      injection hb with _ hb _
      exact hT hb
    · intro c fz e2
      injection e2 with _ e2 _
      exact he e2
def okFd : Fd → Prop
  | .i _ => True
  | .s e _ _ _ => e ≠ 5 ∧ e ≠ 70
theorem AggSep.kept (k : BKept B0 b w w') (hb : ∃ p q, w.heap[b]? = some (.cells #[p, q] 70 (0, 0))) : ∀ {fs : List Fd} {vs : List Value} {rs : List (Nat × Nat)}, (∀ f ∈ fs, okFd f) → AggSep w fs vs rs → AggSep w' fs vs rs
  | [], _, _, _, h => h
  | .i z :: fs, _, _, hf, h => by
    obtain ⟨r, hv, h⟩ := h
    exact ⟨r, hv, AggSep.kept k hb (fun f h => hf f (List.mem_cons_of_mem _ h)) h⟩
  | .s e s n cs :: fs, _, _, hf, h => by
    obtain ⟨A, c, r, x, y, rr, hv, hr, hm, h1, h⟩ := h
    have q := hf _ (List.mem_cons_self ..)
    exact ⟨A, c, r, x, y, rr, hv, hr, hm.kept k q.1 q.2 hb, h1, AggSep.kept k hb (fun f h => hf f (List.mem_cons_of_mem _ h)) h⟩
theorem room_fd (r : Room) : ∀ f ∈ roomF r, okFd f := by
  intro f hf
  simp only [roomF, intF, halfF, List.mem_cons, List.not_mem_nil, or_false] at hf
  rcases hf with rfl | rfl | rfl | rfl | rfl | rfl | rfl | rfl <;> first | exact True.intro | exact ⟨by decide, by decide⟩
theorem watch_fd (x : Watch) : ∀ f ∈ watchF x, okFd f := by
  intro f hf
  simp only [watchF, intF, halfF, List.mem_cons, List.not_mem_nil, or_false] at hf
  rcases hf with rfl | rfl | rfl | rfl | rfl | rfl | rfl | rfl | rfl | rfl <;> first | exact True.intro | exact ⟨by decide, by decide⟩
theorem ask_fd (l : List Ask) : ∀ f ∈ [askF l], okFd f := by
  intro f hf
  rw [List.mem_singleton] at hf
  subst hf
  exact ⟨by decide, by decide⟩
theorem Bld.two (h : Bld B0 b bs w) : ∃ p q, w.heap[b]? = some (.cells #[p, q] 70 (0, 0)) := by
  rcases h with ⟨_, v, hb, _⟩ | ⟨_, v, hb, _⟩ <;> exact ⟨_, _, hb⟩
theorem ConAt.kept (h : ConAt w B c lo) (hb : Bld B0 b bs w) (k : BKept B0 b w w') : ConAt w' B c lo := by
  obtain ⟨R, W, a, rs, ps, qs, h⟩ := h
  have h2 := hb.two
  have hne := hb.ne h.blk
  refine ⟨R, W, a, rs, ps, qs, ?_, AggSep.kept k h2 (room_fd _) h.room, AggSep.kept k h2 (watch_fd _) h.watch, AggSep.kept k h2 (ask_fd _) h.asks, h.ap, fun p hp => ?_, h.low⟩
  · refine k.2 B _ h.blk (fun e => hne (Option.some.inj e)) fun c fz e => ?_
    injection e with _ e _
    exact absurd e (by decide)
  · have := h.bd p hp
    have := k.1.size
    omega
theorem BKept.ext {w0 : World} (h : Ext w0 w) (k : BKept w0.heap.size b w w') : Ext w0 w' :=
  ⟨k.1.os.trans h.os, k.1.tape.trans h.tape, k.1.output.trans h.output, Nat.le_trans h.size k.1.size, fun i hi => (k.1.block i hi).trans (h.block i hi)⟩
end
end Go.Proofs.YtfnmbpjkjajpcaaGreatDoor
