/- The law FnReports returns true for all arguments: reports name the corners of the kept region and the inputs at a state. No condition beyond the row's own: the library's tables lie as the program's text lays them (the card tie of this claim). (written by tools/mkRp.py) -/
import Derived.Test.YtigkgnplgehmhaaGreatDoorHz
import Derived.Test.YtigkgnplgehmhaaGreatDoorNz
import Derived.Test.YtigkgnplgehmhaaGreatDoorAz
import Derived.Test.YtigkgnplgehmhaaGreatDoorWl
import Derived.Test.YtigkgnplgehmhaaGreatDoorDz
import Derived.Test.YtigkgnplgehmhaaGreatDoorCards
import Derived.Test.YtigkgnplgehmhaaGreatDoorTie
import Derived.Deep.DeepHandedRow
import Derived.Lib.LaidTab
import Derived.LaidMore
import Derived.SevenTiedAt
import Derived.Deep.RegionHeld3
namespace Go.Proofs.YtigkgnplgehmhaaGreatDoor
open Go.ChangeShapes Go.WideShapes Go.ChangeAt Go.RowKit
set_option linter.unusedVariables false
set_option maxRecDepth 100000

theorem watch_113 : watchB [1, 1, 3] = ⟨#[103, 111, 111, 100, 32, 50, 32, 111, 118, 101, 114, 32, 48, 32, 108, 111, 115, 116, 32, 49]⟩ := by decide +kernel
theorem span_dots {w : Span} (h : spanOk w = true) : (46 : UInt8) ∈ spanT w := by
  unfold spanT
  rw [if_pos h]
  simp
theorem hcl_parts {p : List Half} (h : regOk p = true) : HalvesI p ∧ p.length ≤ maxLen := by
  refine ⟨halves_I (regOk_all h), ?_⟩
  have := regOk_len h
  unfold maxLen
  omega
theorem wrow (w : World) : AggRow (w.alloc (.cells #[.int .i64 1, .int .i64 1, .int .i64 3] 3)) (watchF ⟨⟨[], 0, 0, 0, 0, 0, [], []⟩, [], [1, 1, 3]⟩) [.slice none 0 0, .int .i64 0, .int .i64 0, .int .i64 0, .int .i64 0, .int .i64 0, .slice none 0 0, .slice none 0 0, .slice none 0 0, .slice (some ⟨w.heap.size, 0, none⟩) 3 3] :=
  ⟨_, _, _, rfl, .nil _ _, by decide, by decide, _, rfl, _, rfl, _, rfl, _, rfl, _, rfl, _, _, _, rfl, .nil _ _, by decide, by decide, _, _, _, rfl, .nil _ _, by decide, by decide, _, _, _, rfl, .nil _ _, by decide, by decide, _, _, _, rfl, .inr ⟨_, 0, rfl, fun j v hj => by rw [Nat.zero_add, (Blk.new w _ _).cell j]; simpa [ints] using hj⟩, by decide, by decide, rfl⟩
theorem txt_inj {a b : List UInt8} (h : txt a = txt b) : a = b := by
  unfold txt at h
  injection h with h
  simpa using congrArg Array.toList h
theorem line_parts {r : Room} {s : Spot} (hr : roomOk r = true) (hs : spotOk s = true) : (spanLineT r r.Limits s ≠ []) ∧ ((spanLineT r r.Limits s = spotT s ++ [32, 108, 111, 115, 116]) ↔ (admAtR r r.Limits s).2 = false) := by
  have hv := room_valid hr
  by_cases h : (admAtR r r.Limits s).2 = true
  · have e := spanLine_yes ⟨hr, hv.limits, hs⟩ h
    rw [e]
    refine ⟨by simp, fun h2 => ?_, fun h2 => by rw [h] at h2; cases h2⟩
    rw [List.append_assoc] at h2
    have h3 := List.append_cancel_left h2
    have h4 := span_dots (admAt_span h)
    have h5 : (46 : UInt8) ∈ [32] ++ spanT (admAtR r r.Limits s).1 := List.mem_append_right _ h4
    rw [h3] at h5
    exact absurd h5 (by decide)
  · have h' : (admAtR r r.Limits s).2 = false := by simpa using h
    have e := spanLine_lost ⟨hr, hv.limits, hs⟩ h'
    rw [e]
    exact ⟨by simp, fun _ => h', fun _ => rfl⟩
set_option maxHeartbeats 32000000 in
theorem lawReports (A : Option Addr) (n c : Nat) (bs : List Int) (w : World) (hn : bs.length = n) (hr : Row w A (u8s bs)) (hlc : n ≤ 9223372036854775807) (ht : Tab w) :
    Calls Tryz.prog 5 #[.slice A n c] w fun e w' => e = .returned (.bool true) ∧ Ext w w' := by
  by_cases hbig : 1048576 < n
  · have hb : (1048576 : Int) < (n : Int) := by omega
    go_enter Tryz.func5, Tryz.ntmps5
    go_wp2
    go_ret
    exact ⟨rfl, Ext.refl w⟩
  have hb : ¬ (1048576 : Int) < (n : Int) := by omega
  have HMk := Lib.hid (makeState_any A n c bs w hn hr (by omega))
  have HT0 := Lib.hid ht
  clear ht hr hn
  go_enter Tryz.func5, Tryz.ntmps5
  go_wp2_with fail
  refine (HMk.out).mono ?_
  rintro e w1 ⟨r, s, A0, A6, A7, c0, c6, c7, rfl, hok, hsk, hRH, hx⟩
  have hv := room_valid hok
  obtain ⟨hFI, hRL⟩ := hv.fi
  obtain ⟨s1, s2, s3, _⟩ := spot_I64 hsk
  have hl7 := hRL.q
  have HKl := Lib.hid (fun w ha ht => implKeptLines_any r A0 A6 A7 c0 c6 c7 w ha hFI hRL ht)
  have HSl := Lib.hid (fun w ha hr ht => implSpanLine_any r A0 A6 A7 c0 c6 c7 A7 r.Limits.length c7 r.Limits s w ha hFI hRL rfl hr hRH.n7 (halves_I (regOk_all hv.limits)) hl7 ⟨s1, s2, s3⟩ ht)
  have HAd := Lib.hid (fun w ha hr => implAdmitAt_ok r A0 A6 A7 c0 c6 c7 A7 r.Limits.length c7 r.Limits s w hv ha rfl hr hRH.n7 hv.limits hsk)
  have HRu := Lib.hid (fun w ha => implRunRounds_any r A0 A6 A7 c0 c6 c7 12 w (by omega) ha hFI hRL)
  have HFs := Lib.hid (fun w ht => implFormatSpot_any s.X s.Y s.D w s1 s2 s3 ht)
  have es : (⟨s.X, s.Y, s.D⟩ : Spot) = s := rfl
  rw [es] at HFs
  have HLp := Lib.hid (line_parts hok hsk)
  have HKtN : Hid ((runR r 12).ok = false → keptT r = []) := fun h => by unfold keptT; rw [h]; rfl
  have HKtY : Hid ((runR r 12).ok = true → keptT r = [roundsT (runR r 12).n, wordT (runR r 12).stop, cornerT (runR r 12).reg]) := fun h => if_pos h
  have HRk : Hid (regOk (runR r 12).reg = true) := runR_ok r 12
  have HRn : Hid ((runR r 12).n ≤ 12) := runR_n r 12
  have HRHx : Hid (∀ V, Ext w1 V → RoomHere V r A0 A6 A7 c0 c6 c7) := fun V hV => hRH.ext hV
  have HTx : Hid (∀ V, Ext w V → Tab V) := fun V hV => HT0.out.ext hV
  have sz : (txt (spotT s)).size ≤ 259 := by rw [txt_size]; exact spotT_len s
  generalize keptT r = KT at *
  generalize runR r 12 = X at *
  generalize spanLineT r r.Limits s = LT at *
  generalize admAtR r r.Limits s = AR at *
  obtain ⟨ts, hts⟩ : ∃ t, txt (spotT s) = t := ⟨_, rfl⟩
  rw [hts] at HFs sz
  have hw1 := hx.size
  have bM := (Blk.new w1 37 #[.slice A0 r.Map.length c0, .int .i64 r.Div, .int .i64 r.Bx, .int .i64 r.By, .int .i64 r.Low, .int .i64 r.High, .slice A6 r.Noise.length c6, .slice A7 r.Limits.length c7]).alloc (.cells #[.int .i64 s.X, .int .i64 s.Y, .int .i64 s.D] 40)
  have bS := Blk.new1 w1 (.cells #[.slice A0 r.Map.length c0, .int .i64 r.Div, .int .i64 r.Bx, .int .i64 r.By, .int .i64 r.Low, .int .i64 r.High, .slice A6 r.Noise.length c6, .slice A7 r.Limits.length c7] 37) 40 #[.int .i64 s.X, .int .i64 s.Y, .int .i64 s.D]
  have hE := ((Ext.refl w1).alloc (.cells #[.slice A0 r.Map.length c0, .int .i64 r.Div, .int .i64 r.Bx, .int .i64 r.By, .int .i64 r.Low, .int .i64 r.High, .slice A6 r.Noise.length c6, .slice A7 r.Limits.length c7] 37)).alloc (.cells #[.int .i64 s.X, .int .i64 s.Y, .int .i64 s.D] 40)
  have hy := hx.trans hE
  obtain ⟨t1, ht1⟩ : ∃ t, ts ++ (⟨#[32, 108, 111, 115, 116]⟩ : ByteArray) = t := ⟨_, rfl⟩
  have a1 := add_txt (a := ts) (b := ⟨#[32, 108, 111, 115, 116]⟩) (c := t1) ht1 (by have : (⟨#[32, 108, 111, 115, 116]⟩ : ByteArray).size = 5 := rfl; omega)
  have hq1 : t1 = txt (spotT s ++ [32, 108, 111, 115, 116]) := by rw [← txt_append, hts, ← ht1]; rfl
  have hne0 : ¬ txt LT = ⟨#[]⟩ := fun e => HLp.out.1 (txt_inj (b := []) e)
  have hcmp : (txt LT = t1) ↔ AR.2 = false := by
    rw [hq1, ← HLp.out.2]
    exact ⟨txt_inj, fun e => by rw [e]⟩
  obtain ⟨tl, htl⟩ : ∃ t, txt LT = t := ⟨_, rfl⟩
  rw [htl] at HSl hne0 hcmp
  have hne0b : decide (tl = ⟨#[]⟩) = false := decide_eq_false hne0
  clear hts ht1 hq1 htl hok hsk hRH hv hFI hRL s1 s2 s3 es HLp
  have hE1 : ¬ tl.toList = [] := by
    rw [ByteArray.toList_eq]
    intro e
    apply hne0
    rcases tl with ⟨⟨l⟩⟩
    simp at e
    subst e
    rfl
  have hE2 : tl.toList.isEmpty = false := by
    cases h : tl.toList with
    | nil => exact absurd h hE1
    | cons => rfl
  have hq2 : tl.toList = t1.toList ↔ tl = t1 := by
    rw [ByteArray.toList_eq, ByteArray.toList_eq]
    constructor
    · rcases tl with ⟨⟨l⟩⟩
      rcases t1 with ⟨⟨k⟩⟩
      intro e
      simp at e
      subst e
      rfl
    · rintro rfl
      rfl
  have hcmp2 : tl.toList = t1.toList ↔ AR.2 = false := hq2.trans hcmp
  have cbM_1 := fun o => bM.cell o
  have cbS_2 := fun o => bS.cell o
  go_wp2_with fail
  refine (HKl.out _ (HRHx.out _ hE) (HTx.out _ hy)).mono ?_
  rintro e w2 ⟨Al, cl, rfl, hMl, hx2⟩
  have hRl := Lib.hid hMl.row
  have hx2' := hx2
  replace hy := hy.trans hx2
  replace hE := hE.trans hx2
  replace bM := bM.ext hx2
  replace bS := bS.ext hx2
  have cbM_3 := fun o => bM.cell o
  have cbS_4 := fun o => bS.cell o
  go_wp2_with fail
  refine (HSl.out _ (HRHx.out _ hE) (HRHx.out _ hE).at_.q (HTx.out _ hy)).mono ?_
  rintro e w3 ⟨rfl, hx3⟩
  replace hy := hy.trans hx3
  replace hE := hE.trans hx3
  replace bM := bM.ext hx3
  replace bS := bS.ext hx3
  have cbM_5 := fun o => bM.cell o
  have cbS_6 := fun o => bS.cell o
  go_wp2_with fail
  refine (HAd.out _ (HRHx.out _ hE) (HRHx.out _ hE).at_.q).mono ?_
  rintro e w4 ⟨rfl, hx4⟩
  replace hy := hy.trans hx4
  replace hE := hE.trans hx4
  replace bM := bM.ext hx4
  replace bS := bS.ext hx4
  have cbM_7 := fun o => bM.cell o
  have cbS_8 := fun o => bS.cell o
  obtain ⟨⟨⟨ln, ld⟩, ⟨hn_, hd_⟩⟩, ok⟩ := AR
  dsimp only at *
  have hP : (tl.toList == t1.toList) = !ok := by
    cases ok
    · exact beq_iff_eq.2 (hcmp2.2 rfl)
    · cases h : (tl.toList == t1.toList) with
      | false => rfl
      | true => exact absurd (hcmp2.1 (beq_iff_eq.1 h)) (by simp)
  clear hcmp2 hcmp hq2
  have ha4 := (Ext.refl w4).alloc (.cells #[.int .i64 ln, .int .i64 ld, .int .i64 hn_, .int .i64 hd_] 57)
  replace hy := hy.trans ha4
  replace hE := hE.trans ha4
  replace bM := bM.ext ha4
  replace bS := bS.ext ha4
  have cbM_9 := fun o => bM.cell o
  have cbS_10 := fun o => bS.cell o
  go_wp2_with fail
  refine (HRu.out _ (HRHx.out _ hE)).mono ?_
  rintro e w5 ⟨Ak, ck, nk, rfl, hnk, hx5, hownk⟩
  replace hy := hy.trans hx5
  replace hE := hE.trans hx5
  replace bM := bM.ext hx5
  replace bS := bS.ext hx5
  have cbM_11 := fun o => bM.cell o
  have cbS_12 := fun o => bS.cell o
  subst hnk
  obtain ⟨p, j, st, ran⟩ := X
  dsimp only at *
  have bK := Blk.new w5 61 #[.slice Ak p.length ck, .int .i64 (j : Int), .bool st]
  have ha5 := (Ext.refl w5).alloc (.cells #[.slice Ak p.length ck, .int .i64 (j : Int), .bool st] 61)
  replace hy := hy.trans ha5
  replace hE := hE.trans ha5
  replace bM := bM.ext ha5
  replace bS := bS.ext ha5
  have cbM_13 := fun o => bM.cell o
  have cbS_14 := fun o => bS.cell o
  have cK := fun o => bK.cell o
  replace hownk := own_ext hownk ha5
  have hRk2 := Lib.hid (Row.of_own hownk)
  have h25 : Ext w2 w5 := ((hx3.trans hx4).trans ha4).trans hx5
  have hRl2 := Lib.hid ((hRl.out.ext h25).ext ha5)
  have hP2 : ((!ok) == ok) = false := by cases ok <;> rfl
  go_wp2_with fail
  go_wp2_with fail
  refine (HFs.out _ (HTx.out _ hy)).mono ?_
  rintro e w6 ⟨rfl, hx6⟩
  replace hy := hy.trans hx6
  replace hE := hE.trans hx6
  replace bM := bM.ext hx6
  replace bS := bS.ext hx6
  replace bK := bK.ext hx6
  have cbM_15 := fun o => bM.cell o
  have cbS_16 := fun o => bS.cell o
  have cbK_17 := fun o => bK.cell o
  cases ran
  · have eK := HKtN.out rfl
    subst eK
    go_wp2_with fail
    go_ret
    exact ⟨rfl, hy⟩
  have eK := HKtY.out rfl
  subst eK
  have hRa := Lib.hid (hRl2.out.ext hx6)
  have hRr := Lib.hid (hRk2.out.ext hx6)
  have HT6 := Lib.hid (HTx.out _ hy)
  have HCx := Lib.hid (hcl_parts HRk.out)
  have HFi := Lib.hid (implFormatInt_any (j : Int))
  have hj64 : I64 (j : Int) := by have := HRn.out; unfold I64; omega
  have HCl := Lib.hid (fun w => implCornerLine_any Ak p.length ck p w rfl)
  obtain ⟨fi, hfi⟩ : ∃ t, txt (numT (j : Int)) = t := ⟨_, rfl⟩
  have hfz : fi.size ≤ 64 := by rw [← hfi, txt_size]; unfold I64 at hj64; exact numT_len hj64.1 hj64.2
  obtain ⟨q0, hq0⟩ : ∃ t, txt (roundsT j) = t := ⟨_, rfl⟩
  have hs0 : (⟨#[114, 111, 117, 110, 100, 115, 32]⟩ : ByteArray) ++ fi = q0 := by rw [← hq0, ← hfi]; unfold roundsT; rw [← txt_append]; rfl
  have a2 := add_txt (a := ⟨#[114, 111, 117, 110, 100, 115, 32]⟩) (b := fi) (c := q0) hs0 (by have : (⟨#[114, 111, 117, 110, 100, 115, 32]⟩ : ByteArray).size = 7 := rfl; omega)
  obtain ⟨q1, hq1⟩ : ∃ t, txt (wordT st) = t := ⟨_, rfl⟩
  have hW : (q1.toList == (⟨#[115, 116, 111, 112, 112, 101, 100]⟩ : ByteArray).toList) = st := by rw [← hq1]; cases st <;> decide +kernel
  have hW2 : (q1.toList == [115, 116, 111, 112, 112, 101, 100]) = st := by rw [← hq1]; cases st <;> decide +kernel
  obtain ⟨q2, hq2⟩ : ∃ t, txt (cornerT p) = t := ⟨_, rfl⟩
  obtain ⟨q3, hq3⟩ : ∃ t, watchB [1, 1, 3] = t := ⟨_, rfl⟩
  have hG : (q3.toList == (⟨#[103, 111, 111, 100, 32, 50, 32, 111, 118, 101, 114, 32, 48, 32, 108, 111, 115, 116, 32, 49]⟩ : ByteArray).toList) = true := by rw [← hq3, watch_113]; exact beq_self_eq_true _
  have hG2 : (q3.toList == [103, 111, 111, 100, 32, 50, 32, 111, 118, 101, 114, 32, 48, 32, 108, 111, 115, 116, 32, 49]) = true := by rw [← hq3, watch_113]; decide +kernel
  have HWa : Hid (∀ vs w, AggRow w (watchF ⟨⟨[], 0, 0, 0, 0, 0, [], []⟩, [], [1, 1, 3]⟩) vs → Tab w → Calls Tryz.prog 27 #[.agg vs.toArray] w fun e w' => e = .returned (.string q3) ∧ Ext w w') := by
    rw [← hq3]
    exact fun vs w h ht => implWatchLine_any ⟨⟨[], 0, 0, 0, 0, 0, [], []⟩, [], [1, 1, 3]⟩ vs w h (by decide) ht
  rw [hfi] at HFi
  rw [hq2] at HCl
  obtain ⟨lb, lo, rfl, hlb, hlc⟩ := hRa.out.at_ (by simp [strs])
  have l0 : w6.cell? ⟨lb, lo + 0, none⟩ = some (.string (txt (roundsT j))) := hlc 0 _ rfl
  have l1 : w6.cell? ⟨lb, lo + 1, none⟩ = some (.string (txt (wordT st))) := hlc 1 _ rfl
  have l2 : w6.cell? ⟨lb, lo + 2, none⟩ = some (.string (txt (cornerT p))) := hlc 2 _ rfl
  rw [hq0] at l0
  rw [hq1] at l1
  rw [hq2] at l2
  rw [Nat.add_zero] at l0
  generalize roundsT j = z0 at *
  clear hlc hs0 hfi hq0 hq1
  go_wp2_with fail
  have hcur := Ext.refl w6
  go_region_held3 (fun w' => w'.cell? ⟨lb, lo, none⟩ = some (.string q0) ∧ w'.cell? ⟨lb, lo + 1, none⟩ = some (.string q1) ∧ w'.cell? ⟨lb, lo + 2, none⟩ = some (.string q2) ∧ w'.cell? ⟨w5.heap.size, 0, none⟩ = some (.slice Ak p.length ck) ∧ w'.cell? ⟨w5.heap.size, 1, none⟩ = some (.int .i64 (j : Int)) ∧ w'.cell? ⟨w5.heap.size, 2, none⟩ = some (.bool st))
    (go_keep)
    (first
      | (go_at_call 25; (with_reducible refine (HFi.out _ hj64 (HT6.out.ext (by first | exact hcur | exact hcur.drew | exact hcur.alloc _ | exact (hcur.alloc _).drew))).mono ?_); rintro e w9 ⟨rfl, hx9⟩; replace hcur := Ext.trans (by first | exact hcur | exact hcur.drew | exact hcur.alloc _ | exact (hcur.alloc _).drew) hx9; have k0 := hcur.cellOf l0; have k1 := hcur.cellOf l1; have k2 := hcur.cellOf l2; have k3 := fun o => (bK.ext hcur).cell o)
      | (go_at_call 26; (with_reducible refine (HCl.out _ (hRr.out.ext (by first | exact hcur | exact hcur.drew | exact hcur.alloc _ | exact (hcur.alloc _).drew)) HCx.out.1 HCx.out.2 (HT6.out.ext (by first | exact hcur | exact hcur.drew | exact hcur.alloc _ | exact (hcur.alloc _).drew))).mono ?_); rintro e w9 ⟨rfl, hx9⟩; replace hcur := Ext.trans (by first | exact hcur | exact hcur.drew | exact hcur.alloc _ | exact (hcur.alloc _).drew) hx9; have k0 := hcur.cellOf l0; have k1 := hcur.cellOf l1; have k2 := hcur.cellOf l2; have k3 := fun o => (bK.ext hcur).cell o)
      | (go_at_call 27; (with_reducible refine (HWa.out _ _ (wrow _) (HT6.out.ext (by first | exact hcur | exact hcur.drew | exact hcur.alloc _ | exact (hcur.alloc _).drew))).mono ?_); rintro e w9 ⟨rfl, hx9⟩; replace hcur := Ext.trans (by first | exact hcur | exact hcur.drew | exact hcur.alloc _ | exact (hcur.alloc _).drew) hx9; have k0 := hcur.cellOf l0; have k1 := hcur.cellOf l1; have k2 := hcur.cellOf l2; have k3 := fun o => (bK.ext hcur).cell o))
  all_goals (go_wp2_with fail; go_ret; exact ⟨rfl, hy.trans hcur⟩)
namespace lFnReports
set_option maxRecDepth 100000
theorem own : ownKnob Tryz.prog.godebug = none := by kernel_rfl
theorem pTab : (Tryz.prog.globals[0]?).map (·.type) = some 198 := by kernel_rfl
theorem table {W : World} (h : laidMetH Tryz.prog Rows.fnReportsRow.laid W) : Tab W := by
  change laidMet Tryz.prog _ W at h
  obtain ⟨ps, ⟨g0, t0, cs0, f0, p0, q0, hg0, ht0, hv0, hd0, ⟨g1, t1, cs1, f1, p1, q1, hg1, ht1, hv1, hd1, ⟨g2, t2, cs2, f2, p2, q2, hg2, ht2, hv2, hd2, _, _⟩, _⟩, _⟩, _⟩ := h
  obtain rfl := Option.some.inj (gTab.symm.trans hg2)
  obtain rfl := Option.some.inj (pTab.symm.trans ht2)
  unfold Tab Lib.TabIs
  rw [hv2, ← Lib.cells_of_tab (k := .u64) (zs := Lib.pow10Tab) Tryz.underlying198 Tryz.underlying104 (by kernel_rfl) (by kernel_rfl) hd2]
theorem laid_met (os : Os) : laidMet Tryz.prog Rows.fnReportsRow.laid ((World.doorLaid Tryz.prog 400 os).forCall (fun _ _ => 0) ⟨#[], #[.slice none 0 0], []⟩).memory :=
  laidMet_of_run' 8 (by kernel_rfl) (by kernel_rfl)
theorem reads (os : Os) {H : Type} (enc : TypeId × Value → H) : ∃ places, DataW.whole enc Tryz.prog ((World.doorLaid Tryz.prog 400 os).forCall (fun _ _ => 0) ⟨#[], #[.slice none 0 0], []⟩).memory Tryz.f5.params.toList Rows.fnReportsSpec.vars false (#[.slice none 0 0] : Array Value).toList 8 = some ([.nil], [], places) :=
  ⟨[], by kernel_rfl⟩
theorem lifted (os : Os) (started : os.Started) (H : Type) (enc : TypeId × Value → H) (F : Stop.Interp) :
    ReturnsInHanded {} Tryz.checked os 5 .any ((OpenSpec.ofChange Rows.fnReportsSpec).preRow enc Tryz.prog Tryz.f5 Rows.fnReportsRow.domain false Rows.fnReportsRow.laid) (((OpenSpec.ofChange Rows.fnReportsSpec).at F).post enc Tryz.prog Tryz.f5 false true false false) := by
  obtain ⟨places, hx⟩ := reads os enc
  refine returnsInHanded_of_row (C := Tryz.checked) (s := OpenSpec.ofChange Rows.fnReportsSpec) own started (by kernel_rfl) Tryz.func5
    (witness_row_at (enc := enc) (C := Tryz.checked) false (World.doorLaid Tryz.prog 400 os) #[.slice none 0 0] rfl (by kernel_rfl) (by kernel_rfl) (by kernel_rfl)
      (OpenSpec.preRow_of_cond 8 hx (by kernel_rfl) (fun k hk => by cases hk) (by kernel_rfl) (laid_met os))) ?_
  intro W base args ds gs before hval0 hW _ _ _ hL hShaped _
  have hTab := table hL
  have hval : ∀ (j : Nat) t v, Tryz.f5.params[j]? = some t → args[j]? = some v → Value.okWide Tryz.prog W .any base t v := hval0
  have hW' := hW
  obtain ⟨p, q, hA0, hV, rfl, _, _⟩ := hW
  have hA : DataW.TrodAll enc Tryz.prog W 0 (fun _ => true) true Tryz.f5.params.toList args.toList ds p := hA0
  rw [Tryz.params5] at hA hval
  obtain ⟨v0, vs0, d0, ds0, p0, q0, hargs, rfl, rfl, h0, r0⟩ := trodAll_cons hA
  obtain ⟨rfl, rfl, rfl⟩ := trodAll_nil r0
  obtain rfl : args = #[v0] := by cases args; simp_all
  obtain ⟨rfl, rfl⟩ := trodVars_none hV
  have hv0 := hval 0 51 v0 rfl rfl
  clear hA0 hval hval0
  obtain ⟨A0, n0, c0, bs0, rfl, hl0, hr0, hlc0, hm0⟩ := openArg_bytes Tryz.underlying51 Tryz.underlying5 (by kernel_rfl) hv0 h0
  refine (lawReports A0 n0 c0 bs0 W hl0 hr0 (by unfold maxLen at hm0; omega) hTab).mono fun e W' ⟨he, hx⟩ => ?_
  subst he
  exact ⟨_, rfl, law_post (tb := 4) laidOut (by kernel_rfl) rfl Tryz.underlying4 rfl hW' rfl rfl rfl hx⟩
theorem said : Rows.FnReportsSaid :=
  OpenClaim.holds_of_cond 5 Tryz.f5 rfl rfl rfl rfl rfl rfl rfl ⟨rfl, rfl, rfl, rfl, rfl⟩ rfl rfl rfl rfl rfl (by kernel_rfl) Tryz.func5 (by kernel_rfl)
    (of_decide_eq_true (by kernel_rfl)) (by unfold Func.isWrapper; first | (rw [if_pos (by decide +kernel)]; kernel_rfl) | (rw [if_neg (by decide +kernel)]; exact ⟨rfl, rfl⟩))
    (fun os started H enc _ F => by rw [OpenClaim.pre_eq_preRow]; exact lifted os started H enc F)
theorem plain (f : FuncId) (fn : Func) (hf : Tryz.pinned.checked.prog.funcNamed "loop.example/g00832/laws.FnReports" = some f) (hfn : Tryz.pinned.checked.prog.funcs[f]? = some fn) :
    false = Tryz.pinned.checked.prog.looks [] ∧ ∀ (j : Nat) t, fn.params[j]? = some t → Tryz.pinned.checked.prog.wantsStandIn t = false := by
  obtain rfl : f = 5 := Option.some.inj ((show Tryz.prog.funcNamed "loop.example/g00832/laws.FnReports" = some 5 by kernel_rfl).symm.trans hf) |>.symm
  obtain rfl : fn = Tryz.f5 := (Option.some.inj (Tryz.func5.symm.trans hfn)).symm
  refine ⟨by kernel_rfl, fun j t ht => ?_⟩
  rw [Tryz.params5] at ht
  have hm : t ∈ [51] := by simpa using Array.mem_of_getElem? ht
  have hall : ([51].all fun u => !Tryz.prog.wantsStandIn u) = true := by kernel_rfl
  exact (show Tryz.prog.wantsStandIn t = false by simpa using List.all_eq_true.1 hall t hm)
theorem proved : Rows.FnReportsCardSaid :=
  Claim7.holds_tied_plain_at .later [] _ _ _ _ said (fun _ h => by cases h) (by kernel_rfl) (fun _ h => by cases h) fnReports_row_tie rfl ⟨rfl, rfl⟩ (by kernel_rfl) rfl plain (by kernel_rfl)
end lFnReports
end Go.Proofs.YtigkgnplgehmhaaGreatDoor
