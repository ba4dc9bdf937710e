/- The law FnTexts returns true for all arguments: half planes, regions, spans and rooms are recovered from their text. No condition beyond the row's own: the library's tables lie as the program's text lays them (the card tie of this claim). (written by tools/mkTx.py) -/
import Derived.Test.YtlfepobnmmkcmaaGreatDoorHz
import Derived.Test.YtlfepobnmmkcmaaGreatDoorRcr
import Derived.Test.YtlfepobnmmkcmaaGreatDoorEqi
import Derived.Test.YtlfepobnmmkcmaaGreatDoorDt
import Derived.Test.YtlfepobnmmkcmaaGreatDoorDm
import Derived.Test.YtlfepobnmmkcmaaGreatDoorCards
import Derived.Test.YtlfepobnmmkcmaaGreatDoorTie
import Derived.Deep.DeepHandedRow
import Derived.Lib.LaidTab
import Derived.LaidMore
import Derived.SevenTiedAt
import Derived.Stop.LaidErr
import Derived.Shelf.Vars
namespace Go.Proofs.YtlfepobnmmkcmaaGreatDoor
open Go.ChangeShapes Go.WideShapes Go.ChangeAt Go.RowKit
set_option linter.unusedVariables false
set_option maxRecDepth 100000

theorem spanT_len' (w : Span) : (spanT w).length ≤ 260 := by
  unfold spanT
  split
  · have a := ratioT_len w.Low
    have b := ratioT_len w.High
    simp only [List.length_append, List.length_cons, List.length_nil]
    omega
  · simp
theorem roomT_len {r : Room} (hk : roomOk r = true) : (roomT r).length ≤ 20000 := by
  obtain ⟨hFI, hRL⟩ := (room_valid hk).fi
  obtain ⟨a, b, c, d, hM⟩ := roomOk_map hk
  have h1 := joinT_len (xs := numsR r) (fun i hi => numsR_I hFI _ (List.getElem_mem hi))
  have h2 : (numsR r).length = 9 := by unfold numsR; rw [hM]; rfl
  have h3 := regionT_len r.Noise
  have h4 := regionT_len r.Limits
  unfold roomT
  rw [if_pos hk]
  simp only [List.length_append, List.length_cons, List.length_nil]
  omega
theorem flds2 {α : Type} {l : List α} (h : l.length = 2) : ∃ a b, l = [a, b] := by
  match l, h with
  | [a, b], _ => exact ⟨a, b, rfl⟩
theorem eq_half_same (h : Half) (w : World) : (binOp .eql 78 (.agg #[.int .i64 h.A, .int .i64 h.B, .int .i64 h.C]) (.agg #[.int .i64 h.A, .int .i64 h.B, .int .i64 h.C])).run Tryz.prog w = .ok (.bool true) w := by
  have hf : (Tryz.prog.fieldsOf 78).toList.map (fun f => (decide (f.name ≠ "_"), f.type, f.offset)) = [(true, 3, 0), (true, 3, 1), (true, 3, 2)] := by kernel_rfl
  have hu : Tryz.prog.underlying 78 = some (.struct (Tryz.prog.fieldsOf 78)) := by kernel_rfl
  rw [run_eql_struct, run_equalIn_agg _ _ _ _ _ hu (by kernel_rfl)]
  generalize (Tryz.prog.fieldsOf 78).toList = fs at hf
  have hl : fs.length = 3 := by have := congrArg List.length hf; simpa using this
  obtain ⟨f0, f1, f2, rfl⟩ := fields3 hl
  simp only [List.map_cons, List.map_nil, List.cons.injEq, Prod.mk.injEq, and_true, decide_eq_true_eq] at hf
  obtain ⟨⟨n0, t0, o0⟩, ⟨n1, t1, o1⟩, n2, t2, o2⟩ := hf
  have hI := Tryz.underlying3
  simp [Op.eqFields, n0, t0, o0, n1, t1, o1, n2, t2, o2, go_sem]
theorem eq_span_same (a b c d : Int) (w : World) : (binOp .eql 46 (.agg #[.int .i64 a, .int .i64 b, .int .i64 c, .int .i64 d]) (.agg #[.int .i64 a, .int .i64 b, .int .i64 c, .int .i64 d])).run Tryz.prog w = .ok (.bool true) w := by
  have hf : (Tryz.prog.fieldsOf 46).toList.map (fun f => (decide (f.name ≠ "_"), f.type, f.offset)) = [(true, 44, 0), (true, 44, 2)] := by kernel_rfl
  have hu : Tryz.prog.underlying 46 = some (.struct (Tryz.prog.fieldsOf 46)) := by kernel_rfl
  have hf2 : (Tryz.prog.fieldsOf 44).toList.map (fun f => (decide (f.name ≠ "_"), f.type, f.offset)) = [(true, 3, 0), (true, 3, 1)] := by kernel_rfl
  have hu2 : Tryz.prog.underlying 44 = some (.struct (Tryz.prog.fieldsOf 44)) := by kernel_rfl
  have hc : Tryz.prog.cellsOf 44 = 2 := by kernel_rfl
  rw [run_eql_struct, run_equalIn_agg _ _ _ _ _ hu (by kernel_rfl)]
  generalize (Tryz.prog.fieldsOf 46).toList = fs at hf
  have hl : fs.length = 2 := by have := congrArg List.length hf; simpa using this
  obtain ⟨f0, f1, rfl⟩ := flds2 hl
  simp only [List.map_cons, List.map_nil, List.cons.injEq, Prod.mk.injEq, and_true, decide_eq_true_eq] at hf
  obtain ⟨⟨n0, t0, o0⟩, n1, t1, o1⟩ := hf
  have hI := Tryz.underlying3
  have hR : ∀ (d : Nat) (x y : Int) (w : World), (Op.equalIn (d + 2) 44 (.agg #[.int .i64 x, .int .i64 y]) (.agg #[.int .i64 x, .int .i64 y])).run Tryz.prog w = .ok true w := by
    intro d x y w
    rw [run_equalIn_agg _ _ _ _ _ hu2 (by kernel_rfl)]
    generalize (Tryz.prog.fieldsOf 44).toList = fs at hf2
    have hl : fs.length = 2 := by have := congrArg List.length hf2; simpa using this
    obtain ⟨g0, g1, rfl⟩ := flds2 hl
    simp only [List.map_cons, List.map_nil, List.cons.injEq, Prod.mk.injEq, and_true, decide_eq_true_eq] at hf2
    obtain ⟨⟨m0, s0, p0⟩, m1, s1, p1⟩ := hf2
    simp [Op.eqFields, m0, s0, p0, m1, s1, p1, go_sem]
  simp [Op.eqFields, n0, t0, o0, n1, t1, o1, go_sem, hR]
set_option maxHeartbeats 16000000 in
theorem lawTexts (A : Option Addr) (n c : Nat) (bs : List Int) (w : World) (hn : bs.length = n) (hr : Row w A (u8s bs)) (hlc : n ≤ 9223372036854775807) (hm : ∃ m, w.cell? ⟨0, 0, none⟩ = some (.int .i64 m)) (ht : Tab w) (he : Ers w) :
    Calls Tryz.prog 5 #[.slice A n c] w fun e w' => e = .returned (.bool true) ∧ Ext w w' := by
  by_cases hbig : 1048576 < n
  · have hb : (1048576 : Int) < (n : Int) := by omega
    go_enter Tryz.func5, Tryz.ntmps5
    go_wp2
    go_ret
    exact ⟨rfl, Ext.refl w⟩
  have hb : ¬ (1048576 : Int) < (n : Int) := by omega
  have hle : n ≤ 1048576 := by omega
  have HMh := Lib.hid (fun V (hV : Ext w V) => makeHalf_any A n c bs 1 V hn (hr.ext hV) hle (by unfold I64; omega))
  have HMa := Lib.hid (fun V (hV : Ext w V) => makeArea_any A n c bs 40 V hn (hr.ext hV) hle (by unfold I64; omega))
  have HMs := Lib.hid (fun V (hV : Ext w V) => makeSpan_any A n c bs 60 V hn (hr.ext hV) hle (by unfold I64; omega))
  have HMr := Lib.hid (fun V (hV : Ext w V) => makeRoom_any A n c bs V hn (hr.ext hV) hle)
  have HT : Hid (∀ V, Ext w V → Tab V) := fun V hV => ht.ext hV
  have HE : Hid (∀ V, Ext w V → Ers V) := fun V hV => he.ext hV
  have HM : Hid (∀ V, Ext w V → ∃ m, V.cell? ⟨0, 0, none⟩ = some (.int .i64 m)) := fun V hV => by
    obtain ⟨m, hm⟩ := hm
    exact ⟨m, max_ext hm hV⟩
  clear hn hr ht he hm
  have hy := Ext.refl w
  go_enter Tryz.func5, Tryz.ntmps5
  go_wp2_with fail
  refine (HMh.out _ hy).mono ?_
  rintro e w1 ⟨⟨h, rfl, hhk⟩, hx1⟩
  replace hy := hy.trans hx1
  have bH := Blk.new w1 78 #[.int .i64 h.A, .int .i64 h.B, .int .i64 h.C]
  have ha1 := (Ext.refl w1).alloc (.cells #[.int .i64 h.A, .int .i64 h.B, .int .i64 h.C] 78)
  replace hy := hy.trans ha1
  have cbH_1 := fun o => bH.cell o
  go_wp2_with fail
  refine (HMa.out _ hy).mono ?_
  rintro e w2 ⟨⟨p, Ap, cp, rfl, hpk, hpo⟩, hx2⟩
  replace hy := hy.trans hx2
  replace bH := bH.ext hx2
  have cbH_2 := fun o => bH.cell o
  have bP := Blk.new w2 26 #[.slice Ap p.length cp]
  have ha2 := (Ext.refl w2).alloc (.cells #[.slice Ap p.length cp] 26)
  replace hy := hy.trans ha2
  replace bH := bH.ext ha2
  have cbH_3 := fun o => bH.cell o
  replace hpo := own_ext hpo ha2
  have HPr := Lib.hid (Row.of_own hpo)
  have hy2 := Ext.refl (w2.alloc (.cells #[.slice Ap p.length cp] 26))
  have cbH_4 := fun o => bH.cell o
  have cbP_5 := fun o => bP.cell o
  go_wp2_with fail
  refine (HMs.out _ hy).mono ?_
  rintro e w3 ⟨⟨s_, t_, u_, v_, rfl, hsk, b1, b2, b3, b4, b5, b6, b7, b8⟩, hx3⟩
  replace hy := hy.trans hx3
  replace bH := bH.ext hx3
  replace hy2 := hy2.trans hx3
  replace bP := bP.ext hx3
  have cbH_6 := fun o => bH.cell o
  have cbP_7 := fun o => bP.cell o
  have bW := Blk.new w3 46 #[.int .i64 s_, .int .i64 t_, .int .i64 u_, .int .i64 v_]
  have ha3 := (Ext.refl w3).alloc (.cells #[.int .i64 s_, .int .i64 t_, .int .i64 u_, .int .i64 v_] 46)
  replace hy := hy.trans ha3
  replace bH := bH.ext ha3
  replace hy2 := hy2.trans ha3
  replace bP := bP.ext ha3
  have cbH_8 := fun o => bH.cell o
  have cbP_9 := fun o => bP.cell o
  have cbH_10 := fun o => bH.cell o
  have cbP_11 := fun o => bP.cell o
  have cbW_12 := fun o => bW.cell o
  go_wp2_with fail
  refine (HMr.out _ hy).mono ?_
  rintro e w4 ⟨r, A0, A6, A7, c0, c6, c7, rfl, hok, hRH, hx4⟩
  replace hy := hy.trans hx4
  replace bH := bH.ext hx4
  replace hy2 := hy2.trans hx4
  replace bP := bP.ext hx4
  replace bW := bW.ext hx4
  have cbH_13 := fun o => bH.cell o
  have cbP_14 := fun o => bP.cell o
  have cbW_15 := fun o => bW.cell o
  have bR := Blk.new w4 28 #[.slice A0 r.Map.length c0, .int .i64 r.Div, .int .i64 r.Bx, .int .i64 r.By, .int .i64 r.Low, .int .i64 r.High, .slice A6 r.Noise.length c6, .slice A7 r.Limits.length c7]
  have ha4 := (Ext.refl w4).alloc (.cells #[.slice A0 r.Map.length c0, .int .i64 r.Div, .int .i64 r.Bx, .int .i64 r.By, .int .i64 r.Low, .int .i64 r.High, .slice A6 r.Noise.length c6, .slice A7 r.Limits.length c7] 28)
  replace hy := hy.trans ha4
  replace bH := bH.ext ha4
  replace hy2 := hy2.trans ha4
  replace bP := bP.ext ha4
  replace bW := bW.ext ha4
  have cbH_16 := fun o => bH.cell o
  have cbP_17 := fun o => bP.cell o
  have cbW_18 := fun o => bW.cell o
  have HRH := Lib.hid (hRH.ext ha4)
  have hy4 := Ext.refl (w4.alloc (.cells #[.slice A0 r.Map.length c0, .int .i64 r.Div, .int .i64 r.Bx, .int .i64 r.By, .int .i64 r.Low, .int .i64 r.High, .slice A6 r.Noise.length c6, .slice A7 r.Limits.length c7] 28))
  have cbH_19 := fun o => bH.cell o
  have cbP_20 := fun o => bP.cell o
  have cbW_21 := fun o => bW.cell o
  have cbR_22 := fun o => bR.cell o
  have hv := room_valid hok
  obtain ⟨hFI, hRL⟩ := hv.fi
  obtain ⟨i1, i2, i3⟩ := halfOk_I64 hhk
  have HFh := Lib.hid (fun w ht => implFormatHalf_any h.A h.B h.C w i1 i2 i3 ht)
  have HPh := Lib.hid (fun w ht he => implParseHalf_any (txt (halfT h)) (by rw [txt_size]; have := halfT_len h; omega) w ht he)
  have HFp := Lib.hid (fun w hr ht => implFormatRegion_any Ap p.length cp p w rfl hr (halves_I (regOk_all hpk)) (by have := regOk_len hpk; unfold maxLen; omega) ht)
  have HPp := Lib.hid (fun w ht he => implParseRegion_any (txt (regionT p)) (by rw [txt_size]; have := regionT_len p; omega) w ht he)
  have HFs := Lib.hid (fun w ht => implFormatSpan_any s_ t_ u_ v_ w (by unfold I64; omega) (by unfold I64; omega) (by unfold I64; omega) (by unfold I64; omega) ht)
  have HPs := Lib.hid (fun w hm ht he => implParseSpan_any (txt (spanT ⟨⟨s_, t_⟩, ⟨u_, v_⟩⟩)) (by rw [txt_size]; have := spanT_len' ⟨⟨s_, t_⟩, ⟨u_, v_⟩⟩; omega) w hm ht he)
  have HFr := Lib.hid (fun w ha ht => implFormatRoom_any r A0 A6 A7 c0 c6 c7 w ha hFI hRL ht)
  have HPr2 := Lib.hid (fun w ht he => implParseRoom_any (txt (roomT r)) (by rw [txt_size]; have := roomT_len hok; omega) w ht he)
  rw [txt_list, half_again hhk] at HPh
  rw [txt_list, region_again hpk] at HPp
  rw [txt_list, span_again hsk] at HPs
  rw [txt_list, room_again hok] at HPr2
  have HPk := Lib.hid hpk
  have HL := Lib.hid hRL
  clear hhk hsk hok hpk hv hFI hRL i1 i2 i3 b1 b2 b3 b4 b5 b6 b7 b8
  go_wp2_with fail
  refine (HFh.out _ (HT.out _ hy)).mono ?_
  rintro e w5 ⟨rfl, hx5⟩
  replace hy := hy.trans hx5
  replace bH := bH.ext hx5
  replace hy2 := hy2.trans hx5
  replace bP := bP.ext hx5
  replace bW := bW.ext hx5
  replace hy4 := hy4.trans hx5
  replace bR := bR.ext hx5
  have cbH_23 := fun o => bH.cell o
  have cbP_24 := fun o => bP.cell o
  have cbW_25 := fun o => bW.cell o
  have cbR_26 := fun o => bR.cell o
  go_wp2_with fail
  refine (HPh.out _ (HT.out _ hy) (HE.out _ hy)).mono ?_
  rintro e w6 ⟨rfl, hx6⟩
  replace hy := hy.trans hx6
  replace bH := bH.ext hx6
  replace hy2 := hy2.trans hx6
  replace bP := bP.ext hx6
  replace bW := bW.ext hx6
  replace hy4 := hy4.trans hx6
  replace bR := bR.ext hx6
  have cbH_27 := fun o => bH.cell o
  have cbP_28 := fun o => bP.cell o
  have cbW_29 := fun o => bW.cell o
  have cbR_30 := fun o => bR.cell o
  have bH2 := Blk.new w6 78 #[.int .i64 h.A, .int .i64 h.B, .int .i64 h.C]
  have ha6 := (Ext.refl w6).alloc (.cells #[.int .i64 h.A, .int .i64 h.B, .int .i64 h.C] 78)
  replace hy := hy.trans ha6
  replace bH := bH.ext ha6
  replace hy2 := hy2.trans ha6
  replace bP := bP.ext ha6
  replace bW := bW.ext ha6
  replace hy4 := hy4.trans ha6
  replace bR := bR.ext ha6
  have cbH_31 := fun o => bH.cell o
  have cbP_32 := fun o => bP.cell o
  have cbW_33 := fun o => bW.cell o
  have cbR_34 := fun o => bR.cell o
  have cbH_35 := fun o => bH.cell o
  have cbP_36 := fun o => bP.cell o
  have cbW_37 := fun o => bW.cell o
  have cbR_38 := fun o => bR.cell o
  have cbH2_39 := fun o => bH2.cell o
  go_wp2_with fail
  refine (HFp.out _ (HPr.out.ext hy2) (HT.out _ hy)).mono ?_
  rintro e w7 ⟨rfl, hx7⟩
  replace hy := hy.trans hx7
  replace bH := bH.ext hx7
  replace hy2 := hy2.trans hx7
  replace bP := bP.ext hx7
  replace bW := bW.ext hx7
  replace hy4 := hy4.trans hx7
  replace bR := bR.ext hx7
  replace bH2 := bH2.ext hx7
  have cbH_40 := fun o => bH.cell o
  have cbP_41 := fun o => bP.cell o
  have cbW_42 := fun o => bW.cell o
  have cbR_43 := fun o => bR.cell o
  have cbH2_44 := fun o => bH2.cell o
  go_wp2_with fail
  refine (HPp.out _ (HT.out _ hy) (HE.out _ hy)).mono ?_
  rintro e w8 ⟨Aq, cq, nq_, rfl, hnq, hx8, hqo⟩
  dsimp only at hnq hqo
  subst hnq
  replace hy := hy.trans hx8
  replace bH := bH.ext hx8
  replace hy2 := hy2.trans hx8
  replace bP := bP.ext hx8
  replace bW := bW.ext hx8
  replace hy4 := hy4.trans hx8
  replace bR := bR.ext hx8
  replace bH2 := bH2.ext hx8
  have cbH_45 := fun o => bH.cell o
  have cbP_46 := fun o => bP.cell o
  have cbW_47 := fun o => bW.cell o
  have cbR_48 := fun o => bR.cell o
  have cbH2_49 := fun o => bH2.cell o
  have bQ := Blk.new w8 26 #[.slice Aq p.length cq]
  have ha8 := (Ext.refl w8).alloc (.cells #[.slice Aq p.length cq] 26)
  replace hy := hy.trans ha8
  replace bH := bH.ext ha8
  replace hy2 := hy2.trans ha8
  replace bP := bP.ext ha8
  replace bW := bW.ext ha8
  replace hy4 := hy4.trans ha8
  replace bR := bR.ext ha8
  replace bH2 := bH2.ext ha8
  have cbH_50 := fun o => bH.cell o
  have cbP_51 := fun o => bP.cell o
  have cbW_52 := fun o => bW.cell o
  have cbR_53 := fun o => bR.cell o
  have cbH2_54 := fun o => bH2.cell o
  have HQr := Lib.hid (Row.of_own (own_ext hqo ha8))
  have hy8 := Ext.refl (w8.alloc (.cells #[.slice Aq p.length cq] 26))
  have cbH_55 := fun o => bH.cell o
  have cbP_56 := fun o => bP.cell o
  have cbW_57 := fun o => bW.cell o
  have cbR_58 := fun o => bR.cell o
  have cbH2_59 := fun o => bH2.cell o
  have cbQ_60 := fun o => bQ.cell o
  go_wp2_with fail
  refine (HFs.out _ (HT.out _ hy)).mono ?_
  rintro e w9 ⟨rfl, hx9⟩
  replace hy := hy.trans hx9
  replace bH := bH.ext hx9
  replace hy2 := hy2.trans hx9
  replace bP := bP.ext hx9
  replace bW := bW.ext hx9
  replace hy4 := hy4.trans hx9
  replace bR := bR.ext hx9
  replace bH2 := bH2.ext hx9
  replace hy8 := hy8.trans hx9
  replace bQ := bQ.ext hx9
  have cbH_61 := fun o => bH.cell o
  have cbP_62 := fun o => bP.cell o
  have cbW_63 := fun o => bW.cell o
  have cbR_64 := fun o => bR.cell o
  have cbH2_65 := fun o => bH2.cell o
  have cbQ_66 := fun o => bQ.cell o
  go_wp2_with fail
  refine (HPs.out _ (HM.out _ hy) (HT.out _ hy) (HE.out _ hy)).mono ?_
  rintro e w10 ⟨rfl, hx10⟩
  replace hy := hy.trans hx10
  replace bH := bH.ext hx10
  replace hy2 := hy2.trans hx10
  replace bP := bP.ext hx10
  replace bW := bW.ext hx10
  replace hy4 := hy4.trans hx10
  replace bR := bR.ext hx10
  replace bH2 := bH2.ext hx10
  replace hy8 := hy8.trans hx10
  replace bQ := bQ.ext hx10
  have cbH_67 := fun o => bH.cell o
  have cbP_68 := fun o => bP.cell o
  have cbW_69 := fun o => bW.cell o
  have cbR_70 := fun o => bR.cell o
  have cbH2_71 := fun o => bH2.cell o
  have cbQ_72 := fun o => bQ.cell o
  have bW2 := Blk.new w10 46 #[.int .i64 s_, .int .i64 t_, .int .i64 u_, .int .i64 v_]
  have ha10 := (Ext.refl w10).alloc (.cells #[.int .i64 s_, .int .i64 t_, .int .i64 u_, .int .i64 v_] 46)
  replace hy := hy.trans ha10
  replace bH := bH.ext ha10
  replace hy2 := hy2.trans ha10
  replace bP := bP.ext ha10
  replace bW := bW.ext ha10
  replace hy4 := hy4.trans ha10
  replace bR := bR.ext ha10
  replace bH2 := bH2.ext ha10
  replace hy8 := hy8.trans ha10
  replace bQ := bQ.ext ha10
  have cbH_73 := fun o => bH.cell o
  have cbP_74 := fun o => bP.cell o
  have cbW_75 := fun o => bW.cell o
  have cbR_76 := fun o => bR.cell o
  have cbH2_77 := fun o => bH2.cell o
  have cbQ_78 := fun o => bQ.cell o
  have cbH_79 := fun o => bH.cell o
  have cbP_80 := fun o => bP.cell o
  have cbW_81 := fun o => bW.cell o
  have cbR_82 := fun o => bR.cell o
  have cbH2_83 := fun o => bH2.cell o
  have cbQ_84 := fun o => bQ.cell o
  have cbW2_85 := fun o => bW2.cell o
  go_wp2_with fail
  refine (HFr.out _ (HRH.out.at_.ext hy4) (HT.out _ hy)).mono ?_
  rintro e w11 ⟨rfl, hx11⟩
  replace hy := hy.trans hx11
  replace bH := bH.ext hx11
  replace hy2 := hy2.trans hx11
  replace bP := bP.ext hx11
  replace bW := bW.ext hx11
  replace hy4 := hy4.trans hx11
  replace bR := bR.ext hx11
  replace bH2 := bH2.ext hx11
  replace hy8 := hy8.trans hx11
  replace bQ := bQ.ext hx11
  replace bW2 := bW2.ext hx11
  have cbH_86 := fun o => bH.cell o
  have cbP_87 := fun o => bP.cell o
  have cbW_88 := fun o => bW.cell o
  have cbR_89 := fun o => bR.cell o
  have cbH2_90 := fun o => bH2.cell o
  have cbQ_91 := fun o => bQ.cell o
  have cbW2_92 := fun o => bW2.cell o
  go_wp2_with fail
  refine (HPr2.out _ (HT.out _ hy) (HE.out _ hy)).mono ?_
  rintro e w12 ⟨us, rfl, hRM, hx12⟩
  replace hy := hy.trans hx12
  replace bH := bH.ext hx12
  replace hy2 := hy2.trans hx12
  replace bP := bP.ext hx12
  replace bW := bW.ext hx12
  replace hy4 := hy4.trans hx12
  replace bR := bR.ext hx12
  replace bH2 := bH2.ext hx12
  replace hy8 := hy8.trans hx12
  replace bQ := bQ.ext hx12
  replace bW2 := bW2.ext hx12
  have cbH_93 := fun o => bH.cell o
  have cbP_94 := fun o => bP.cell o
  have cbW_95 := fun o => bW.cell o
  have cbR_96 := fun o => bR.cell o
  have cbH2_97 := fun o => bH2.cell o
  have cbQ_98 := fun o => bQ.cell o
  have cbW2_99 := fun o => bW2.cell o
  obtain ⟨B0, d0, _, rfl, m0, n0, e0, _, rfl, _, rfl, _, rfl, _, rfl, _, rfl, B6, d6, _, rfl, m6, n6, e6, B7, d7, _, rfl, m7, n7, e7, rfl⟩ := hRM.rows
  have bR2 := Blk.new w12 28 #[.slice B0 r.Map.length d0, .int .i64 r.Div, .int .i64 r.Bx, .int .i64 r.By, .int .i64 r.Low, .int .i64 r.High, .slice B6 r.Noise.length d6, .slice B7 r.Limits.length d7]
  have HSg := Lib.hid (fun w a b => implSameRegion_any Aq Ap p.length p.length cq cp p p w rfl rfl a b (by have := regOk_len HPk.out; unfold maxLen; omega) (by have := regOk_len HPk.out; unfold maxLen; omega))
  simp only [decide_true] at HSg
  have HSr := Lib.hid (fun w p0 p6 p7 q0 q6 q7 => implSameRooms_eq r B0 B6 B7 A0 A6 A7 d0 d6 d7 c0 c6 c7 w p0 p6 p7 q0 q6 q7 HL.out.m HL.out.p HL.out.q)
  have M0 := Lib.hid m0
  have M6 := Lib.hid m6
  have M7 := Lib.hid m7
  clear m0 m6 m7 hRM
  have ha12 := (Ext.refl w12).alloc (.cells #[.slice B0 r.Map.length d0, .int .i64 r.Div, .int .i64 r.Bx, .int .i64 r.By, .int .i64 r.Low, .int .i64 r.High, .slice B6 r.Noise.length d6, .slice B7 r.Limits.length d7] 28)
  replace hy := hy.trans ha12
  replace bH := bH.ext ha12
  replace hy2 := hy2.trans ha12
  replace bP := bP.ext ha12
  replace bW := bW.ext ha12
  replace hy4 := hy4.trans ha12
  replace bR := bR.ext ha12
  replace bH2 := bH2.ext ha12
  replace hy8 := hy8.trans ha12
  replace bQ := bQ.ext ha12
  replace bW2 := bW2.ext ha12
  have cbH_100 := fun o => bH.cell o
  have cbP_101 := fun o => bP.cell o
  have cbW_102 := fun o => bW.cell o
  have cbR_103 := fun o => bR.cell o
  have cbH2_104 := fun o => bH2.cell o
  have cbQ_105 := fun o => bQ.cell o
  have cbW2_106 := fun o => bW2.cell o
  have hy12 := Ext.refl (w12.alloc (.cells #[.slice B0 r.Map.length d0, .int .i64 r.Div, .int .i64 r.Bx, .int .i64 r.By, .int .i64 r.Low, .int .i64 r.High, .slice B6 r.Noise.length d6, .slice B7 r.Limits.length d7] 28))
  replace M0 := Lib.hid (M0.out.ext ha12)
  replace M6 := Lib.hid (M6.out.ext ha12)
  replace M7 := Lib.hid (M7.out.ext ha12)
  have cbH_107 := fun o => bH.cell o
  have cbP_108 := fun o => bP.cell o
  have cbW_109 := fun o => bW.cell o
  have cbR_110 := fun o => bR.cell o
  have cbH2_111 := fun o => bH2.cell o
  have cbQ_112 := fun o => bQ.cell o
  have cbW2_113 := fun o => bW2.cell o
  have cbR2_114 := fun o => bR2.cell o
  have eh := eq_half_same h
  have es := eq_span_same s_ t_ u_ v_
  go_wp2_with fail
  refine (HSg.out _ (HQr.out.ext hy8) (HPr.out.ext hy2)).mono ?_
  rintro e w13 ⟨rfl, hx13⟩
  replace hy := hy.trans hx13
  replace bH := bH.ext hx13
  replace hy2 := hy2.trans hx13
  replace bP := bP.ext hx13
  replace bW := bW.ext hx13
  replace hy4 := hy4.trans hx13
  replace bR := bR.ext hx13
  replace bH2 := bH2.ext hx13
  replace hy8 := hy8.trans hx13
  replace bQ := bQ.ext hx13
  replace bW2 := bW2.ext hx13
  replace hy12 := hy12.trans hx13
  replace bR2 := bR2.ext hx13
  have cbH_115 := fun o => bH.cell o
  have cbP_116 := fun o => bP.cell o
  have cbW_117 := fun o => bW.cell o
  have cbR_118 := fun o => bR.cell o
  have cbH2_119 := fun o => bH2.cell o
  have cbQ_120 := fun o => bQ.cell o
  have cbW2_121 := fun o => bW2.cell o
  have cbR2_122 := fun o => bR2.cell o
  go_wp2_with fail
  refine (HSr.out _ (M0.out.ext hy12) (M6.out.ext hy12) (M7.out.ext hy12) (HRH.out.at_.ext hy4).m (HRH.out.at_.ext hy4).p (HRH.out.at_.ext hy4).q).mono ?_
  rintro e w14 ⟨rfl, hx14⟩
  replace hy := hy.trans hx14
  replace bH := bH.ext hx14
  replace hy2 := hy2.trans hx14
  replace bP := bP.ext hx14
  replace bW := bW.ext hx14
  replace hy4 := hy4.trans hx14
  replace bR := bR.ext hx14
  replace bH2 := bH2.ext hx14
  replace hy8 := hy8.trans hx14
  replace bQ := bQ.ext hx14
  replace bW2 := bW2.ext hx14
  replace hy12 := hy12.trans hx14
  replace bR2 := bR2.ext hx14
  have cbH_123 := fun o => bH.cell o
  have cbP_124 := fun o => bP.cell o
  have cbW_125 := fun o => bW.cell o
  have cbR_126 := fun o => bR.cell o
  have cbH2_127 := fun o => bH2.cell o
  have cbQ_128 := fun o => bQ.cell o
  have cbW2_129 := fun o => bW2.cell o
  have cbR2_130 := fun o => bR2.cell o
  go_wp2
  go_ret
  exact ⟨rfl, hy⟩
namespace lFnTexts
set_option maxRecDepth 100000
theorem own : ownKnob Tryz.prog.godebug = none := by kernel_rfl
theorem pTab : (Tryz.prog.globals[1]?).map (·.type) = some 245 := by kernel_rfl
theorem table {W : World} (h : laidMetH Tryz.prog Rows.fnTextsRow.laid W) : Tab W := by
  change laidMet Tryz.prog _ W at h
  obtain ⟨ps, ⟨g0, t0, cs0, f0, p0, q0, hg0, ht0, hv0, hd0, ⟨g1, t1, cs1, f1, p1, q1, hg1, ht1, hv1, hd1, ⟨g2, t2, cs2, f2, p2, q2, hg2, ht2, hv2, hd2, _, _⟩, _⟩, _⟩, _⟩ := h
  obtain rfl := Option.some.inj (gTab.symm.trans hg2)
  obtain rfl := Option.some.inj (pTab.symm.trans ht2)
  unfold Tab Lib.TabIs
  rw [hv2, ← Lib.cells_of_tab (k := .u64) (zs := Lib.pow10Tab) Tryz.underlying245 Tryz.underlying114 (by kernel_rfl) (by kernel_rfl) hd2]
theorem gER : Tryz.prog.globalNamed "strconv.ErrRange" = some 3 := by kernel_rfl
theorem gTR : (Tryz.prog.globals[3]?).map (·.type) = some 179 := by kernel_rfl
theorem gES : Tryz.prog.globalNamed "strconv.ErrSyntax" = some 2 := by kernel_rfl
theorem gTS : (Tryz.prog.globals[2]?).map (·.type) = some 179 := by kernel_rfl
theorem cellsES : Tryz.prog.cellsOf 259 = 1 := by kernel_rfl
theorem cellsST : Tryz.prog.cellsOf 9 = 1 := by kernel_rfl
theorem star : "*" ++ "errors.errorString" = "*errors.errorString" := by decide
theorem rowTP (u : TypeId) (h : Tryz.prog.typeName? 3 u = some "*errors.errorString") : u = 257 :=
  typeName_ptr_named (nm := "errors.errorString") (by rw [star]; kernel_rfl) (by kernel_rfl) (by decide) u (by rw [star]; exact h)
theorem ersT {W : World} (h : laidMetH Tryz.prog Rows.fnTextsRow.laid W) : Ers W := by
  change laidMet Tryz.prog _ W at h
  obtain ⟨aR, sR, hvR, _⟩ := laid_sentinel h.tail.tail.tail gER gTR Tryz.underlying179 rowTP Tryz.underlying257 Tryz.underlying259 rfl rfl Tryz.underlying9 cellsES cellsST
  obtain ⟨aS, sS, hvS, _⟩ := laid_sentinel h.tail.tail.tail.tail gES gTS Tryz.underlying179 rowTP Tryz.underlying257 Tryz.underlying259 rfl rfl Tryz.underlying9 cellsES cellsST
  exact ⟨⟨_, _, by simpa using World.var?_cell gES hvS 0⟩, _, _, by simpa using World.var?_cell gER hvR 0⟩
theorem laid_met (os : Os) : laidMet Tryz.prog Rows.fnTextsRow.laid ((World.doorLaid Tryz.prog 400 os).forCall (fun _ _ => 0) ⟨#[], #[.slice none 0 0], []⟩).memory :=
  laidMet_of_run' 8 (by kernel_rfl) (by kernel_rfl)
theorem reads (os : Os) {H : Type} (enc : TypeId × Value → H) : ∃ places, DataW.whole enc Tryz.prog ((World.doorLaid Tryz.prog 400 os).forCall (fun _ _ => 0) ⟨#[], #[.slice none 0 0], []⟩).memory Tryz.f5.params.toList Rows.fnTextsSpec.vars false (#[.slice none 0 0] : Array Value).toList 8 = some ([.nil], [], places) :=
  ⟨[], by kernel_rfl⟩
theorem lifted (os : Os) (started : os.Started) (H : Type) (enc : TypeId × Value → H) (F : Stop.Interp) :
    ReturnsInHanded {} Tryz.checked os 5 .any ((OpenSpec.ofChange Rows.fnTextsSpec).preRow enc Tryz.prog Tryz.f5 Rows.fnTextsRow.domain false Rows.fnTextsRow.laid) (((OpenSpec.ofChange Rows.fnTextsSpec).at F).post enc Tryz.prog Tryz.f5 false true false false) := by
  obtain ⟨places, hx⟩ := reads os enc
  refine returnsInHanded_of_row (C := Tryz.checked) (s := OpenSpec.ofChange Rows.fnTextsSpec) own started (by kernel_rfl) Tryz.func5
    (witness_row_at (enc := enc) (C := Tryz.checked) false (World.doorLaid Tryz.prog 400 os) #[.slice none 0 0] rfl (by kernel_rfl) (by kernel_rfl) (by kernel_rfl)
      (OpenSpec.preRow_of_cond 8 hx (by kernel_rfl) (fun k hk => by cases hk) (by kernel_rfl) (laid_met os))) ?_
  intro W base args ds gs before hval0 hW _ _ _ hL hShaped _
  have hTab := table hL
  have hErs := ersT hL
  have hval : ∀ (j : Nat) t v, Tryz.f5.params[j]? = some t → args[j]? = some v → Value.okWide Tryz.prog W .any base t v := hval0
  have hW' := hW
  obtain ⟨p, q, hA0, hV, rfl, _, _⟩ := hW
  have hA : DataW.TrodAll enc Tryz.prog W 0 (fun _ => true) true Tryz.f5.params.toList args.toList ds p := hA0
  rw [Tryz.params5] at hA hval
  obtain ⟨v0, vs0, d0, ds0, p0, q0, hargs, rfl, rfl, h0, r0⟩ := trodAll_cons hA
  obtain ⟨rfl, rfl, rfl⟩ := trodAll_nil r0
  obtain rfl : args = #[v0] := by cases args; simp_all
  obtain ⟨rfl, rfl⟩ := trodVars_none hV
  have hv0 := hval 0 22 v0 rfl rfl
  clear hA0 hval hval0
  obtain ⟨A0, n0, c0, bs0, rfl, hl0, hr0, hlc0, hm0⟩ := openArg_bytes Tryz.underlying22 Tryz.underlying5 (by kernel_rfl) hv0 h0
  have hMax : ∃ m, W.cell? ⟨0, 0, none⟩ = some (.int .i64 m) :=
    Go.Proofs.cell_of_shapedOpen_int (zero := #[.int .i64 0]) (t := 3) hShaped (of_decide_eq_true (by kernel_rfl)) (by kernel_rfl) rfl (by kernel_rfl) (by kernel_rfl) Tryz.underlying3
  refine (lawTexts A0 n0 c0 bs0 W hl0 hr0 (by unfold maxLen at hm0; omega) hMax hTab hErs).mono fun e W' ⟨he, hx⟩ => ?_
  subst he
  exact ⟨_, rfl, law_post (tb := 4) laidOut (by kernel_rfl) rfl Tryz.underlying4 rfl hW' rfl rfl rfl hx⟩
theorem said : Rows.FnTextsSaid :=
  OpenClaim.holds_of_cond 5 Tryz.f5 rfl rfl rfl rfl rfl rfl rfl ⟨rfl, rfl, rfl, rfl, rfl⟩ rfl rfl rfl rfl rfl (by kernel_rfl) Tryz.func5 (by kernel_rfl)
    (of_decide_eq_true (by kernel_rfl)) (by unfold Func.isWrapper; first | (rw [if_pos (by decide +kernel)]; kernel_rfl) | (rw [if_neg (by decide +kernel)]; exact ⟨rfl, rfl⟩))
    (fun os started H enc _ F => by rw [OpenClaim.pre_eq_preRow]; exact lifted os started H enc F)
theorem plain (f : FuncId) (fn : Func) (hf : Tryz.pinned.checked.prog.funcNamed "loop.example/g00832/laws.FnTexts" = some f) (hfn : Tryz.pinned.checked.prog.funcs[f]? = some fn) :
    true = Tryz.pinned.checked.prog.looks [] ∧ ∀ (j : Nat) t, fn.params[j]? = some t → Tryz.pinned.checked.prog.wantsStandIn t = false := by
  obtain rfl : f = 5 := Option.some.inj ((show Tryz.prog.funcNamed "loop.example/g00832/laws.FnTexts" = some 5 by kernel_rfl).symm.trans hf) |>.symm
  obtain rfl : fn = Tryz.f5 := (Option.some.inj (Tryz.func5.symm.trans hfn)).symm
  refine ⟨by kernel_rfl, fun j t ht => ?_⟩
  rw [Tryz.params5] at ht
  have hm : t ∈ [22] := by simpa using Array.mem_of_getElem? ht
  have hall : ([22].all fun u => !Tryz.prog.wantsStandIn u) = true := by kernel_rfl
  exact (show Tryz.prog.wantsStandIn t = false by simpa using List.all_eq_true.1 hall t hm)
theorem proved : Rows.FnTextsCardSaid :=
  Claim7.holds_tied_plain_at .later [] _ _ _ _ said (fun _ h => by cases h) (by kernel_rfl) (fun _ h => by cases h) fnTexts_row_tie rfl ⟨rfl, rfl⟩ (by kernel_rfl) rfl plain (by kernel_rfl)
end lFnTexts
end Go.Proofs.YtlfepobnmmkcmaaGreatDoor
