/- The law FnAllots returns true for every code: each room gets what it needs, and is short only if the whole total is used. No condition beyond the row's own: the library's tables lie as the program's text lays them (the card ties that). -/
import Derived.Test.YtbbkahnfnjlajaaDoorHz
import Derived.Test.YtbbkahnfnjlajaaDoorOps
import Derived.Test.YtbbkahnfnjlajaaDoorAd
import Derived.Test.YtbbkahnfnjlajaaDoorAlt
import Derived.Test.YtbbkahnfnjlajaaDoorI
import Derived.Test.YtbbkahnfnjlajaaDoorJ
import Derived.Test.YtbbkahnfnjlajaaDoorPlT
import Derived.Test.YtbbkahnfnjlajaaDoorCards
import Derived.Test.YtbbkahnfnjlajaaDoorTie
import Derived.Deep.DeepHandedRow
import Derived.Lib.LaidTab
import Derived.LaidMore
import Derived.SevenTiedAt
namespace Go.Proofs.YtbbkahnfnjlajaaDoor
open Go.ChangeShapes Go.WideShapes Go.ChangeAt Go.RowKit
set_option linter.unusedVariables false
set_option maxRecDepth 100000

theorem numT_ne (n : Int) : numT n ≠ [] := by
  intro h
  by_cases hn : n < 0
  · obtain ⟨u, rfl⟩ : ∃ u : Nat, n = -(u : Int) := ⟨n.natAbs, by omega⟩
    rw [numT_neg (by omega)] at h; cases h
  · obtain ⟨u, rfl⟩ : ∃ u : Nat, n = (u : Int) := ⟨n.toNat, by omega⟩
    rw [numT_pos] at h
    by_cases hu : u < 10
    · rw [dec_small hu] at h; cases h
    · rw [dec_big hu] at h; simp at h
theorem joinT_nil {xs : List Int} : joinT xs = [] ↔ xs = [] := by
  cases xs with
  | nil => exact ⟨fun _ => rfl, fun _ => rfl⟩
  | cons x r =>
    refine ⟨fun h => ?_, fun h => by cases h⟩
    unfold joinT at h
    rw [List.map_cons, Lib.join_cons] at h
    exact absurd (List.append_eq_nil_iff.1 h).1 (numT_ne x)
/-- the line of an allotment is empty just where nothing is given to nobody -/
theorem allotT_nil {xs : List Ask} {total : Int} (h : asksOk xs = true) : decide (allotT xs total = []) = (decide (leastCap xs ≤ total) && decide (xs.length = 0)) := by
  unfold allotT
  rw [if_pos h]
  by_cases hc : leastCap xs ≤ total
  · obtain ⟨g1, g2⟩ := allotOf_good h hc
    rw [if_pos g1]
    have hl := allotN_length xs (left0 xs total) xs.length
    rw [← g2] at hl
    rw [Bool.eq_iff_iff]
    simp only [decide_eq_true_eq, Bool.and_eq_true, joinT_nil]
    constructor
    · intro e; exact ⟨hc, by rw [← hl, e]; rfl⟩
    · intro e; exact List.eq_nil_of_length_eq_zero (by rw [hl]; exact e.2)
  · have := (allotOf_bad (xs := xs) (total := total) (fun e => hc e.2)).1
    rw [if_neg (by rw [this]; simp)]
    simp [hc]
theorem rank_len {xs : List Ask} (h : asksOk xs = true) : (rankOrder xs).length = xs.length := by
  unfold rankOrder; rw [if_pos h]
  have := ord_length h
  unfold nats
  rw [List.length_map, this]
theorem keepN_mem {p : Nat → Bool} : ∀ {n : Nat} {z : Int}, z ∈ keepN p n → ∃ i, i < n ∧ z = (i : Int) ∧ p i = true := by
  intro n
  induction n with
  | zero => intro z h; cases h
  | succ n ih =>
    intro z h
    unfold keepN at h
    split at h
    · rename_i hp
      rcases List.mem_append.1 h with h | h
      · obtain ⟨i, a, b, c⟩ := ih h; exact ⟨i, by omega, b, c⟩
      · rw [List.mem_singleton] at h; exact ⟨n, by omega, h, hp⟩
    · obtain ⟨i, a, b, c⟩ := ih h; exact ⟨i, by omega, b, c⟩
theorem keepN_has {p : Nat → Bool} {n i : Nat} (hi : i < n) (hp : p i = true) : 0 < (keepN p n).length := by
  induction n with
  | zero => omega
  | succ n ih =>
    unfold keepN
    by_cases e : i = n
    · subst e; rw [if_pos hp]; simp
    · have := ih (by omega)
      split
      · simp
      · exact this
/-- what the last loops of the law want -/
structure ShortGood (xs : List Ask) (total : Int) : Prop where
  isA : isAllot xs total (allotOf xs total) = true
  len : (allotOf xs total).length = xs.length
  short : ∀ k (hk : k < (shortOf xs (allotOf xs total)).length), ∃ p, p < xs.length ∧ (shortOf xs (allotOf xs total))[k] = ((ordAt xs p : Nat) : Int) ∧ ∀ q, p < q → q < xs.length → num (allotOf xs total) (ordAt xs q) = askLow xs (ordAt xs q)
  unused : 0 ≤ unusedOf xs total (allotOf xs total)
  some_ : (shortOf xs (allotOf xs total)).length ≠ 0 → unusedOf xs total (allotOf xs total) = 0 ∧ total < fullCap xs
  none_ : (shortOf xs (allotOf xs total)).length = 0 → fullCap xs ≤ total
theorem short_good {xs : List Ask} {total : Int} (h : asksOk xs = true) (hc : leastCap xs ≤ total) (ht : total ≤ 1000000) : ShortGood xs total := by
  have G := allot_good h hc ht
  have e := shortOf_pos h G.len
  have hl := G.len
  have mem : ∀ k (hk : k < (shortOf xs (allotOf xs total)).length), ∃ i, i < xs.length ∧ (shortOf xs (allotOf xs total))[k] = (i : Int) ∧ num (allotOf xs total) i < askWish xs i := by
    intro k hk
    have hm := List.getElem_mem hk
    obtain ⟨i, h1, h2, h3⟩ := keepN_mem (p := shortAt xs (allotOf xs total)) (n := (allotOf xs total).length) (by rw [← e]; exact hm)
    exact ⟨i, by omega, h2, by simpa [shortAt] using h3⟩
  refine ⟨G.isA, G.len, fun k hk => ?_, G.unused, fun h0 => ?_, fun h0 => ?_⟩
  · obtain ⟨i, h1, h2, h3⟩ := mem k hk
    obtain ⟨p, hp, hpi⟩ := ordAt_all h h1
    subst hpi
    exact ⟨p, hp, h2, fun q hq hqn => G.after p q hq hqn h3⟩
  · obtain ⟨i, h1, h2, h3⟩ := mem 0 (by omega)
    refine ⟨G.short i h1 h3, ?_⟩
    apply Int.not_le.1
    intro hf
    exact G.full.2 hf i h1 h3
  · refine G.full.1 fun i hi hlt => ?_
    have := keepN_has (p := shortAt xs (allotOf xs total)) (n := (allotOf xs total).length) (i := i) (by omega) (by simpa [shortAt] using hlt)
    rw [← e] at this
    omega
theorem txt_nil (T : List UInt8) : (txt T).toList.isEmpty = decide (T = []) := by
  have e : (txt T).toList = T := by rw [ByteArray.toList_eq, txt_list]
  rw [e]
  cases T <;> rfl
theorem lex_ways {f : Nat → Int} {a b : Nat} (h : lex f a b) : f a < f b ∨ (f a = f b ∧ a < b) := h

set_option maxHeartbeats 8000000 in
theorem lawAllots (A : Option Addr) (n c : Nat) (bs : List Int) (w : World) (hn : bs.length = n) (hr : Row w A (u8s bs)) (hm : n ≤ maxLen) (ht : Tab w) :
    Calls Tryd.prog 4 #[.slice A n c] w fun e w' => e = .returned (.bool true) ∧ Ext w w' := by
  unfold maxLen at hm
  by_cases hbig : (1048576 : Int) < (n : Int)
  · go_enter Tryd.func4, Tryd.ntmps4
    go_wp2
    go_ret
    exact ⟨rfl, Ext.refl _⟩
  have hle : n ≤ 1048576 := by omega
  have HT0 := Lib.hid ht
  clear ht
  go_enter Tryd.func4, Tryd.ntmps4
  go_wp2_with fail
  refine (makeAsks_any _ _ _ bs _ hn hr hle).mono ?_
  rintro e w1 ⟨B, d, xs, total, rfl, hok, htot, hrow, hy⟩
  have h6 := asksOk_len hok
  have Hok := Lib.hid hok
  have HR := Lib.hid hrow
  have hI : I64 total := by unfold I64; omega
  have Hord := Lib.hid (rank_len hok)
  have HNil := Lib.hid (allotT_nil (total := total) hok)
  obtain ⟨m, hm⟩ : ∃ m, xs.length = m := ⟨_, rfl⟩
  rw [hm] at h6 Hord HNil
  have HM := Lib.hid hm
  rw [hm]
  have HC := Lib.hid (fun w h => implAllot_any B m d xs total w hm h (by unfold maxLen; omega) hI)
  clear hok hrow hm hn hr
  go_wp2_with fail
  refine (HC.out _ HR.out).mono ?_
  rintro e w2 ⟨A2, c2, rfl, ho2, hx2⟩
  have HB := Lib.hid (leastCap_bd xs)
  have hAok : Hid (allotOk xs total = decide (leastCap xs ≤ total)) := by unfold Hid allotOk; rw [Hok.out]; rfl
  obtain ⟨lc, hlc⟩ : ∃ x, leastCap xs = x := ⟨_, rfl⟩
  have hlb := HB.out
  rw [hlc] at hlb hAok HNil
  rw [hAok.out]
  have Hlc := Lib.hid hlc
  have HCl := Lib.hid (fun w h => implLeastCap_any B m d xs w HM.out h (by unfold maxLen; omega))
  rw [hlc] at HCl
  have HCo := Lib.hid (fun w h => implRankOrder_any B m d xs w HM.out h (by unfold maxLen; omega))
  have HCk := Lib.hid (fun w h => implAsksOk_any B m d xs w HM.out h (by unfold maxLen; omega))
  rw [Hok.out] at HCk
  have HCt := Lib.hid (fun w h ht => implAllotLine_any B m d xs total w HM.out h (by unfold maxLen; omega) hI ht)
  obtain ⟨T, hT⟩ : ∃ T, allotT xs total = T := ⟨_, rfl⟩
  rw [hT] at HCt HNil
  clear hlc hT HB
  have HRo := Lib.hid (show ∀ k (hk : k < m) (hk' : k < (rankOrder xs).length), (rankOrder xs)[k] = ((ordAt xs k : Nat) : Int) from fun k hk hk' => rankOrder_at Hok.out (by rw [HM.out]; exact hk) hk')
  obtain ⟨R, hR⟩ : ∃ R, rankOrder xs = R := ⟨_, rfl⟩
  rw [hR] at HCo Hord HRo
  clear hR
  have HRw2 := Lib.hid (HR.out.ext hx2)
  go_wp2_with fail
  refine (HCo.out _ HRw2.out).mono ?_
  rintro e w3 ⟨A3, c3, rfl, ho3, hx3⟩
  rw [Hord.out]
  have hoR := Lib.hid (Row.of_own ho3)
  rw [Hord.out] at ho3
  replace hy := (hy.trans hx2).trans hx3
  have HRw3 := Lib.hid (HRw2.out.ext hx3)
  go_wp2_with fail
  refine (HCk.out _ HRw3.out).mono ?_
  rintro e w4 ⟨rfl, hx4⟩
  go_wp2_with fail
  refine (HCl.out _ (HRw3.out.ext hx4)).mono ?_
  rintro e w5 ⟨rfl, hx5⟩
  go_wp2_with fail
  refine (HCt.out _ ((HRw3.out.ext hx4).ext hx5) (HT0.out.ext ((hy.trans hx4).trans hx5))).mono ?_
  rintro e w6 ⟨rfl, hx6⟩
  replace hy := ((hy.trans hx4).trans hx5).trans hx6
  have HRw6 := Lib.hid (((HRw3.out.ext hx4).ext hx5).ext hx6)
  have hz1 : lc ≤ total → (!(txt T).toList.isEmpty == ((m : Int) == 0)) = false := fun hc => by
    rw [txt_nil, HNil.out, decide_eq_true hc, Bool.true_and]
    by_cases h0 : m = 0
    · subst h0; rfl
    · rw [decide_eq_false h0]
      have : ((m : Int) == 0) = false := by rw [beq_eq_false_iff_ne]; omega
      rw [this]; rfl
  have hz2 : total < lc → (txt T).toList.isEmpty = false := fun hc => by
    rw [txt_nil, HNil.out, decide_eq_false (by omega)]; rfl
  have HZ1 := Lib.hid hz1
  have HZ2 := Lib.hid hz2
  clear hz1 hz2 HNil
  by_cases hcap : lc ≤ total
  · have hz := HZ1.out hcap
    go_wp2_with fail
    clear hz
    have hxL := Ext.refl w6
    go_loopw [8] (fun i wr => ∃ (k : Nat), 1 ≤ k ∧ i = .int .i64 k ∧ Ext w6 wr) (fun i _ => m - (intOf i).toNat)
    case atStart => exact ⟨1, Nat.le_refl _, rfl, hxL⟩
    case round =>
    obtain ⟨k, hk1, rfl, hxr⟩ := hrel
    clear hxL
    by_cases hlt : k < m
    · obtain ⟨q, rfl⟩ : ∃ q, k = q + 1 := ⟨k - 1, by omega⟩
      have hq0 : q < R.length := by rw [Hord.out]; omega
      have hq1 : q + 1 < R.length := by rw [Hord.out]; omega
      have e0 := HRo.out q (by omega) hq0
      have e1 := HRo.out (q + 1) (by omega) hq1
      have hA := ordAt_lt Hok.out (k := q) (by rw [HM.out]; omega)
      have hB := ordAt_lt Hok.out (k := q + 1) (by rw [HM.out]; omega)
      have hL := ordAt_lex Hok.out (a := q) (b := q + 1) (by omega) (by rw [HM.out]; omega)
      have hRx := Lib.hid ((HRw6.out).ext hxr)
      have hOx := Lib.hid (((((hoR.out).ext hx4).ext hx5).ext hx6).ext hxr)
      obtain ⟨b3, f3, hA3, hb3, hc3⟩ := hOx.out.int (k := q) hq0
      obtain ⟨b4, f4, hA4, hb4, hc4⟩ := hOx.out.int (k := q + 1) hq1
      rw [hA3] at hA4
      injection hA4 with hA4
      injection hA4 with q1 q2
      subst q1 q2
      rw [e0] at hc3
      rw [e1] at hc4
      obtain ⟨b5, f5, hA5, hb5, _, _, _, hr5⟩ := hRx.out.Ask hA
      obtain ⟨b6, f6, hA6, hb6, _, _, _, hr6⟩ := hRx.out.Ask hB
      rw [hA5] at hA6
      injection hA6 with hA6
      injection hA6 with q3 q4
      subst q3 q4
      have l5 : askRank xs (ordAt xs q) = xs[ordAt xs q].Rank := by simp [askRank, hA]
      have l6 : askRank xs (ordAt xs (q + 1)) = xs[ordAt xs (q + 1)].Rank := by simp [askRank, hB]
      have hlex := lex_ways hL
      rw [l5, l6] at hlex
      rw [HM.out] at hA hB
      obtain ⟨a, ha⟩ : ∃ a, ordAt xs q = a := ⟨_, rfl⟩
      obtain ⟨b, hb⟩ : ∃ b, ordAt xs (q + 1) = b := ⟨_, rfl⟩
      obtain ⟨ra, hra⟩ : ∃ r, xs[ordAt xs q].Rank = r := ⟨_, rfl⟩
      obtain ⟨rb, hrb⟩ : ∃ r, xs[ordAt xs (q + 1)].Rank = r := ⟨_, rfl⟩
      rw [hra, hrb] at hlex
      rw [hra] at hr5
      rw [hrb] at hr6
      rw [ha] at hA hc3 hr5 hlex
      rw [hb] at hB hc4 hr6 hlex
      clear l5 l6 hL e0 e1 ha hb hra hrb hq0 hq1
      subst hA3
      subst hA5
      have g1 : decide ((a : Int) < 0) = false := by simp
      have g2 : decide ((b : Int) < 0) = false := by simp
      have g3 : decide (m ≤ a) = false := by simp; omega
      have g4 : decide (m ≤ b) = false := by simp; omega
      have g5 : decide (rb < ra) = false := by simp; omega
      have i1 : (a : Int) < (m : Int) := by omega
      have i2 : (b : Int) < (m : Int) := by omega
      have i3 : (q : Int) < (m : Int) := by omega
      have i4 : (q : Int) + 1 < (m : Int) := by omega
      have i5 : (0 : Int) ≤ (a : Int) := by omega
      have i6 : (0 : Int) ≤ (b : Int) := by omega
      have hw1 : ((q + 1 : Nat) : Int) - 1 = (q : Int) := by omega
      rcases hlex with hlex | ⟨hlex, hab⟩
      · have g6 : (ra == rb) = false := by rw [beq_eq_false_iff_ne]; omega
        clear hlex
        go_wp2_with fail
        go_quiet (fail)
        go_wp2
        go_roundw
        case rel => exact ⟨q + 1 + 1, by omega, by go_num, hxr.drewN _⟩
        case measure => simp [intOf]; omega
      · have g6 : (ra == rb) = true := by rw [beq_iff_eq]; exact hlex
        have g7 : decide (b ≤ a) = false := by simp; omega
        clear hlex
        go_wp2_with fail
        go_quiet (fail)
        go_wp2
        go_roundw
        case rel => exact ⟨q + 1 + 1, by omega, by go_num, hxr.drewN _⟩
        case measure => simp [intOf]; omega
    have hkm : m ≤ k := by omega
    have G := Lib.hid (short_good Hok.out (by rw [Hlc.out]; exact hcap) (by omega))
    have hal : (allotOf xs total).length = m := by rw [G.out.len, HM.out]
    have hAr := Lib.hid (Row.of_own ho2)
    have HCi := Lib.hid (fun w h h2 => implIsAllot_any B A2 m d m c2 xs total (allotOf xs total) w HM.out hal h h2 (by unfold maxLen; omega) (by unfold maxLen; omega))
    have HCs := Lib.hid (fun w h h2 => implShortOf_any B A2 m d m c2 xs (allotOf xs total) w HM.out hal h h2 (by unfold maxLen; omega) (by unfold maxLen; omega))
    have HCu := Lib.hid (fun w h h2 => implUnused_any B A2 m d m c2 xs total (allotOf xs total) w HM.out hal h h2 (by unfold maxLen; omega) (by unfold maxLen; omega))
    have HCf := Lib.hid (fun w h => implFullCap_any B m d xs w HM.out h (by unfold maxLen; omega))
    rw [G.out.isA] at HCi
    have gu := G.out.unused
    have gS := Lib.hid G.out.some_
    have gN := Lib.hid G.out.none_
    have gK := Lib.hid G.out.short
    have hnum := Lib.hid (fun j (hj : j < (allotOf xs total).length) => num_at hj)
    clear G
    rw [hal]
    obtain ⟨al, hAl⟩ : ∃ al, allotOf xs total = al := ⟨_, rfl⟩
    rw [hAl] at HCi HCs HCu hAr hal gu gS gN gK hnum
    have Hal := Lib.hid hal
    clear hAl ho2 hal
    obtain ⟨sh, hsh⟩ : ∃ l, shortOf xs al = l := ⟨_, rfl⟩
    rw [hsh] at HCs gS gN gK
    obtain ⟨u, hu⟩ : ∃ u, unusedOf xs total al = u := ⟨_, rfl⟩
    rw [hu] at HCu gu gS
    obtain ⟨fc, hfc⟩ : ∃ f, fullCap xs = f := ⟨_, rfl⟩
    rw [hfc] at HCf gS gN
    have hsl : sh.length ≤ 1000 := by rw [← hsh]; have := shortOf_len xs al; rw [Hal.out] at this; omega
    clear hsh hu hfc
    replace hy := hy.trans hxr
    have HRa := Lib.hid (HRw6.out.ext hxr)
    have HAa := Lib.hid ((((((hAr.out).ext hx3).ext hx4).ext hx5).ext hx6).ext hxr)
    have HOa := Lib.hid (((((hoR.out).ext hx4).ext hx5).ext hx6).ext hxr)
    go_wp2_with fail
    refine (HCi.out _ HRa.out HAa.out).mono ?_
    rintro e w7 ⟨rfl, hx7⟩
    go_wp2_with fail
    refine (HCs.out _ (HRa.out.ext hx7) (HAa.out.ext hx7)).mono ?_
    rintro e w8 ⟨A8, c8, rfl, ho8, hx8⟩
    have hS8 := Lib.hid (Row.of_own ho8)
    go_wp2_with fail
    refine (HCu.out _ ((HRa.out.ext hx7).ext hx8) ((HAa.out.ext hx7).ext hx8)).mono ?_
    rintro e w9 ⟨rfl, hx9⟩
    have HRb := Lib.hid (((HRa.out.ext hx7).ext hx8).ext hx9)
    have HAb := Lib.hid (((HAa.out.ext hx7).ext hx8).ext hx9)
    have HOb := Lib.hid (((HOa.out.ext hx7).ext hx8).ext hx9)
    have HSb := Lib.hid (hS8.out.ext hx9)
    replace hy := ((hy.trans hx7).trans hx8).trans hx9
    obtain ⟨S, hS⟩ : ∃ S, sh.length = S := ⟨_, rfl⟩
    rw [hS] at gS gN hsl
    rw [hS]
    have HSl := Lib.hid hS
    clear hS ho8
    have hx10 := Ext.refl w9
    go_wp2
    go_loopw [148] (fun i wr => ∃ (p : Nat), p ≤ S ∧ i = .int .i64 p ∧ Ext w9 wr) (fun i _ => S - (intOf i).toNat)
    case atStart => exact ⟨0, Nat.zero_le _, rfl, hx10⟩
    case round =>
    obtain ⟨p, hp, rfl, hxs⟩ := hrel
    clear hx10
    by_cases hlt : p < S
    · have hpl : p < sh.length := by rw [HSl.out]; exact hlt
      obtain ⟨P0, hP0, hPe, hPa⟩ := gK.out p hpl
      rw [HM.out] at hP0
      have hPl := ordAt_lt Hok.out (k := P0) (by rw [HM.out]; exact hP0)
      rw [HM.out] at hPl
      have HPa := Lib.hid hPa
      obtain ⟨b3, f3, hA3, hb3, hc3⟩ := (HSb.out.ext hxs).int (k := p) hpl
      rw [hPe] at hc3
      have HPi := Lib.hid (show ∀ q, q < m → ordAt xs q = ordAt xs P0 → q = P0 from fun q hq e => ordAt_inj Hok.out (by rw [HM.out]; exact hq) (by rw [HM.out]; exact hP0) e)
      obtain ⟨b0, hb0⟩ : ∃ b, ordAt xs P0 = b := ⟨_, rfl⟩
      rw [hb0] at hc3 hPl HPi
      have Hb0 := Lib.hid hb0
      clear hb0 hPe hPa hpl
      subst hA3
      have i1 : (p : Int) < (S : Int) := by omega
      have i2 : (0 : Int) ≤ (p : Int) := by omega
      have hxt := Ext.refl wr
      go_wp2
      go_loopw [15, 154] (fun a i wr' => ∃ (q : Nat), q ≤ m ∧ i = .int .i64 q ∧ a = .bool (decide (P0 < q)) ∧ Ext wr wr') (fun _ i _ => m - (intOf i).toNat)
      case atStart => exact ⟨0, Nat.zero_le _, rfl, by simp, hxt⟩
      case round =>
      obtain ⟨q, hq, rfl, rfl, hxq⟩ := hrel
      clear hxt
      by_cases hlq : q < m
      · have hql : q < R.length := by rw [Hord.out]; exact hlq
        obtain ⟨b4, f4, hA4, hb4, hc4⟩ := ((HOb.out.ext hxs).ext hxq).int (k := q) hql
        rw [HRo.out q hlq hql] at hc4
        have hA := ordAt_lt Hok.out (k := q) (by rw [HM.out]; exact hlq)
        have j1 : (q : Int) < (m : Int) := by omega
        have j2 : (0 : Int) ≤ (q : Int) := by omega
        subst hA4
        by_cases hqP : q = P0
        · have hqe : ordAt xs q = b0 := by rw [hqP]; exact Hb0.out
          rw [hqe] at hc4
          have hdec : decide (P0 < q + 1) = true := by simp; omega
          clear hA hqe hqP
          have k1 : ((b0 : Int) == (b0 : Int)) = true := by simp
          go_wp2
          go_roundw
          case rel => exact ⟨q + 1, by omega, by go_num, by rw [hdec], hxq⟩
          case measure => simp [intOf]; omega
        · have hne : ordAt xs q ≠ b0 := fun e => hqP (HPi.out q hlq e)
          have hLa := Lib.hid (fun (h : P0 < q) => HPa.out q h (by rw [HM.out]; exact hlq))
          obtain ⟨b5, f5, hA5, hb5, hlo, _⟩ := ((HRb.out.ext hxs).ext hxq).Ask hA
          have e5 := askLow_at hA
          have hAl2 : ordAt xs q < al.length := by rw [Hal.out]; rw [HM.out] at hA; exact hA
          obtain ⟨b6, f6, hA6, hb6, hc6⟩ := ((HAb.out.ext hxs).ext hxq).int (k := ordAt xs q) hAl2
          have e6 := hnum.out _ hAl2
          obtain ⟨lo, hlo2⟩ : ∃ z, xs[ordAt xs q].Low = z := ⟨_, rfl⟩
          obtain ⟨x, hx2⟩ : ∃ z, al[ordAt xs q] = z := ⟨_, rfl⟩
          rw [hlo2] at hlo e5
          rw [hx2] at hc6 e6
          rw [e5, e6] at hLa
          rw [HM.out] at hA
          obtain ⟨a, ha⟩ : ∃ a, ordAt xs q = a := ⟨_, rfl⟩
          rw [ha] at hc4 hne hlo hc6 hA
          clear hlo2 hx2 e5 e6 ha hAl2
          subst hA5
          subst hA6
          have k1 : ((a : Int) == (b0 : Int)) = false := by rw [beq_eq_false_iff_ne]; omega
          have k2 : ¬ (a : Int) = (b0 : Int) := by omega
          have k3 : (a == b0) = false := by rw [beq_eq_false_iff_ne]; exact hne
          have k4 : (a : Int) < (m : Int) := by omega
          have k5 : (0 : Int) ≤ (a : Int) := by omega
          have hdec : decide (P0 < q + 1) = decide (P0 < q) := by
            by_cases h : P0 < q
            · rw [decide_eq_true h, decide_eq_true (by omega)]
            · rw [decide_eq_false h, decide_eq_false (by omega)]
          have Hdec := Lib.hid hdec
          clear hdec
          have HLx := Lib.hid (show decide (P0 < q) = true → x = lo from fun e => hLa.out (by simpa using e))
          obtain ⟨f, hf⟩ : ∃ f, decide (P0 < q) = f := ⟨_, rfl⟩
          rw [hf] at HLx Hdec ⊢
          clear hf hLa hqP
          cases f
          · go_wp2_with fail
            go_quiet (fail)
            go_wp2
            go_roundw
            case rel => exact ⟨q + 1, by omega, by go_num, by rw [Hdec.out], hxq.drewN _⟩
            case measure => simp [intOf]; omega
          · have hxl := HLx.out rfl
            subst hxl
            have k7 : decide (x < x) = false := by simp
            go_wp2_with fail
            go_quiet (fail)
            go_wp2
            go_roundw
            case rel => exact ⟨q + 1, by omega, by go_num, by rw [Hdec.out], hxq.drewN _⟩
            case measure => simp [intOf]; omega
      · have hqm : m ≤ q := by omega
        go_wp2
        go_roundw
        case rel => exact ⟨p + 1, by omega, by go_num, hxs.trans hxq⟩
        case measure => simp [intOf]; omega
    · have hpS : S ≤ p := by omega
      have HRc := Lib.hid (HRb.out.ext hxs)
      by_cases h0 : S = 0
      · have hf := gN.out h0
        have z1 : ((S : Int) == 0) = true := by rw [h0]; rfl
        go_wp2_with fail
        refine (HCf.out _ HRc.out).mono ?_
        rintro e w11 ⟨rfl, hx11⟩
        go_wp2
        go_ret
        exact ⟨rfl, (hy.trans hxs).trans hx11⟩
      · obtain ⟨hf, hg⟩ := gS.out h0
        subst hf
        have z1 : ((S : Int) == 0) = false := by rw [beq_eq_false_iff_ne]; omega
        have z2 : ¬ S = 0 := h0
        clear h0
        go_wp2_with fail
        refine (HCf.out _ HRc.out).mono ?_
        rintro e w11 ⟨rfl, hx11⟩
        go_wp2
        go_ret
        exact ⟨ret_bool (show (!decide (fc ≤ total)) = true by rw [decide_eq_false (by omega)]; rfl), (hy.trans hxs).trans hx11⟩
  · have hcap' : total < lc := by omega
    have hz := HZ2.out hcap'
    go_wp2_with fail
    clear hz
    have hA0 : (allotOf xs total).length = 0 := by rw [(allotOf_bad (xs := xs) (total := total) (fun e => by have := e.2; rw [Hlc.out] at this; omega)).2]; rfl
    rw [hA0]
    clear hA0
    have hxL := Ext.refl w6
    go_loopw [8] (fun i wr => ∃ (k : Nat), 1 ≤ k ∧ i = .int .i64 k ∧ Ext w6 wr) (fun i _ => m - (intOf i).toNat)
    case atStart => exact ⟨1, Nat.le_refl _, rfl, hxL⟩
    case round =>
    obtain ⟨k, hk1, rfl, hxr⟩ := hrel
    clear hxL
    by_cases hlt : k < m
    · obtain ⟨q, rfl⟩ : ∃ q, k = q + 1 := ⟨k - 1, by omega⟩
      have hq0 : q < R.length := by rw [Hord.out]; omega
      have hq1 : q + 1 < R.length := by rw [Hord.out]; omega
      have e0 := HRo.out q (by omega) hq0
      have e1 := HRo.out (q + 1) (by omega) hq1
      have hA := ordAt_lt Hok.out (k := q) (by rw [HM.out]; omega)
      have hB := ordAt_lt Hok.out (k := q + 1) (by rw [HM.out]; omega)
      have hL := ordAt_lex Hok.out (a := q) (b := q + 1) (by omega) (by rw [HM.out]; omega)
      have hRx := Lib.hid ((HRw6.out).ext hxr)
      have hOx := Lib.hid (((((hoR.out).ext hx4).ext hx5).ext hx6).ext hxr)
      obtain ⟨b3, f3, hA3, hb3, hc3⟩ := hOx.out.int (k := q) hq0
      obtain ⟨b4, f4, hA4, hb4, hc4⟩ := hOx.out.int (k := q + 1) hq1
      rw [hA3] at hA4
      injection hA4 with hA4
      injection hA4 with q1 q2
      subst q1 q2
      rw [e0] at hc3
      rw [e1] at hc4
      obtain ⟨b5, f5, hA5, hb5, _, _, _, hr5⟩ := hRx.out.Ask hA
      obtain ⟨b6, f6, hA6, hb6, _, _, _, hr6⟩ := hRx.out.Ask hB
      rw [hA5] at hA6
      injection hA6 with hA6
      injection hA6 with q3 q4
      subst q3 q4
      have l5 : askRank xs (ordAt xs q) = xs[ordAt xs q].Rank := by simp [askRank, hA]
      have l6 : askRank xs (ordAt xs (q + 1)) = xs[ordAt xs (q + 1)].Rank := by simp [askRank, hB]
      have hlex := lex_ways hL
      rw [l5, l6] at hlex
      rw [HM.out] at hA hB
      obtain ⟨a, ha⟩ : ∃ a, ordAt xs q = a := ⟨_, rfl⟩
      obtain ⟨b, hb⟩ : ∃ b, ordAt xs (q + 1) = b := ⟨_, rfl⟩
      obtain ⟨ra, hra⟩ : ∃ r, xs[ordAt xs q].Rank = r := ⟨_, rfl⟩
      obtain ⟨rb, hrb⟩ : ∃ r, xs[ordAt xs (q + 1)].Rank = r := ⟨_, rfl⟩
      rw [hra, hrb] at hlex
      rw [hra] at hr5
      rw [hrb] at hr6
      rw [ha] at hA hc3 hr5 hlex
      rw [hb] at hB hc4 hr6 hlex
      clear l5 l6 hL e0 e1 ha hb hra hrb hq0 hq1
      subst hA3
      subst hA5
      have g1 : decide ((a : Int) < 0) = false := by simp
      have g2 : decide ((b : Int) < 0) = false := by simp
      have g3 : decide (m ≤ a) = false := by simp; omega
      have g4 : decide (m ≤ b) = false := by simp; omega
      have g5 : decide (rb < ra) = false := by simp; omega
      have i1 : (a : Int) < (m : Int) := by omega
      have i2 : (b : Int) < (m : Int) := by omega
      have i3 : (q : Int) < (m : Int) := by omega
      have i4 : (q : Int) + 1 < (m : Int) := by omega
      have i5 : (0 : Int) ≤ (a : Int) := by omega
      have i6 : (0 : Int) ≤ (b : Int) := by omega
      have hw1 : ((q + 1 : Nat) : Int) - 1 = (q : Int) := by omega
      rcases hlex with hlex | ⟨hlex, hab⟩
      · have g6 : (ra == rb) = false := by rw [beq_eq_false_iff_ne]; omega
        clear hlex
        go_wp2_with fail
        go_quiet (fail)
        go_wp2
        go_roundw
        case rel => exact ⟨q + 1 + 1, by omega, by go_num, hxr.drewN _⟩
        case measure => simp [intOf]; omega
      · have g6 : (ra == rb) = true := by rw [beq_iff_eq]; exact hlex
        have g7 : decide (b ≤ a) = false := by simp; omega
        clear hlex
        go_wp2_with fail
        go_quiet (fail)
        go_wp2
        go_roundw
        case rel => exact ⟨q + 1 + 1, by omega, by go_num, hxr.drewN _⟩
        case measure => simp [intOf]; omega
    have hkm : m ≤ k := by omega
    go_wp2
    go_ret
    exact ⟨rfl, hy.trans hxr⟩

namespace lFnAllots
set_option maxRecDepth 100000
theorem own : ownKnob Tryd.prog.godebug = none := by kernel_rfl
theorem pTab : (Tryd.prog.globals[0]?).map (·.type) = some 164 := by kernel_rfl
theorem table {W : World} (h : laidMetH Tryd.prog Rows.fnAllotsRow.laid W) : Tab W := by
  change laidMet Tryd.prog _ W at h
  obtain ⟨ps, ⟨g0, t0, cs0, f0, p0, q0, hg0, ht0, hv0, hd0, ⟨g1, t1, cs1, f1, p1, q1, hg1, ht1, hv1, hd1, ⟨g2, t2, cs2, f2, p2, q2, hg2, ht2, hv2, hd2, _, _⟩, _⟩, _⟩, _⟩ := h
  obtain rfl := Option.some.inj (gTab.symm.trans hg2)
  obtain rfl := Option.some.inj (pTab.symm.trans ht2)
  unfold Tab Lib.TabIs
  rw [hv2, ← Lib.cells_of_tab (k := .u64) (zs := Lib.pow10Tab) Tryd.underlying164 Tryd.underlying130 (by kernel_rfl) (by kernel_rfl) hd2]
theorem laid_met (os : Os) : laidMet Tryd.prog Rows.fnAllotsRow.laid ((World.doorLaid Tryd.prog 400 os).forCall (fun _ _ => 0) ⟨#[], #[.slice none 0 0], []⟩).memory :=
  laidMet_of_run' 8 (by kernel_rfl) (by kernel_rfl)
theorem reads (os : Os) {H : Type} (enc : TypeId × Value → H) : ∃ places, DataW.whole enc Tryd.prog ((World.doorLaid Tryd.prog 400 os).forCall (fun _ _ => 0) ⟨#[], #[.slice none 0 0], []⟩).memory Tryd.f4.params.toList Rows.fnAllotsSpec.vars false (#[.slice none 0 0] : Array Value).toList 8 = some ([.nil], [], places) :=
  ⟨[], by kernel_rfl⟩
theorem lifted (os : Os) (started : os.Started) (H : Type) (enc : TypeId × Value → H) (F : Stop.Interp) :
    ReturnsInHanded {} Tryd.checked os 4 .any ((OpenSpec.ofChange Rows.fnAllotsSpec).preRow enc Tryd.prog Tryd.f4 Rows.fnAllotsRow.domain false Rows.fnAllotsRow.laid) (((OpenSpec.ofChange Rows.fnAllotsSpec).at F).post enc Tryd.prog Tryd.f4 false true false false) := by
  obtain ⟨places, hx⟩ := reads os enc
  refine returnsInHanded_of_row (C := Tryd.checked) (s := OpenSpec.ofChange Rows.fnAllotsSpec) own started (by kernel_rfl) Tryd.func4
    (witness_row_at (enc := enc) (C := Tryd.checked) false (World.doorLaid Tryd.prog 400 os) #[.slice none 0 0] rfl (by kernel_rfl) (by kernel_rfl) (by kernel_rfl)
      (OpenSpec.preRow_of_cond 8 hx (by kernel_rfl) (fun k hk => by cases hk) (by kernel_rfl) (laid_met os))) ?_
  intro W base args ds gs before hval0 hW _ _ _ hL hShaped _
  have hTab := table hL
  have hval : ∀ (j : Nat) t v, Tryd.f4.params[j]? = some t → args[j]? = some v → Value.okWide Tryd.prog W .any base t v := hval0
  have hW' := hW
  obtain ⟨p, q, hA0, hV, rfl, _, _⟩ := hW
  have hA : DataW.TrodAll enc Tryd.prog W 0 (fun _ => true) true Tryd.f4.params.toList args.toList ds p := hA0
  rw [Tryd.params4] at hA hval
  obtain ⟨v0, vs0, d0, ds0, p0, q0, hargs, rfl, rfl, h0, r0⟩ := trodAll_cons hA
  obtain ⟨rfl, rfl, rfl⟩ := trodAll_nil r0
  obtain rfl : args = #[v0] := by cases args; simp_all
  obtain ⟨rfl, rfl⟩ := trodVars_none hV
  have hv0 := hval 0 22 v0 rfl rfl
  clear hA0 hval hval0
  obtain ⟨A0, n0, c0, bs0, rfl, hl0, hr0, hlc0, hm0⟩ := openArg_bytes Tryd.underlying22 Tryd.underlying5 (by kernel_rfl) hv0 h0
  refine (lawAllots A0 n0 c0 bs0 W hl0 hr0 (by omega) hTab).mono fun e W' ⟨he, hx⟩ => ?_
  subst he
  exact ⟨_, rfl, law_post (tb := 4) laidOut (by kernel_rfl) rfl Tryd.underlying4 rfl hW' rfl rfl rfl hx⟩
theorem said : Rows.FnAllotsSaid :=
  OpenClaim.holds_of_cond 4 Tryd.f4 rfl rfl rfl rfl rfl rfl rfl ⟨rfl, rfl, rfl, rfl, rfl⟩ rfl rfl rfl rfl rfl (by kernel_rfl) Tryd.func4 (by kernel_rfl)
    (of_decide_eq_true (by kernel_rfl)) (by unfold Func.isWrapper; first | (rw [if_pos (by decide +kernel)]; kernel_rfl) | (rw [if_neg (by decide +kernel)]; exact ⟨rfl, rfl⟩))
    (fun os started H enc _ F => by rw [OpenClaim.pre_eq_preRow]; exact lifted os started H enc F)
theorem plain (f : FuncId) (fn : Func) (hf : Tryd.pinned.checked.prog.funcNamed "loop.example/g00832/laws.FnAllots" = some f) (hfn : Tryd.pinned.checked.prog.funcs[f]? = some fn) :
    false = Tryd.pinned.checked.prog.looks [] ∧ ∀ (j : Nat) t, fn.params[j]? = some t → Tryd.pinned.checked.prog.wantsStandIn t = false := by
  obtain rfl : f = 4 := Option.some.inj ((show Tryd.prog.funcNamed "loop.example/g00832/laws.FnAllots" = some 4 by kernel_rfl).symm.trans hf) |>.symm
  obtain rfl : fn = Tryd.f4 := (Option.some.inj (Tryd.func4.symm.trans hfn)).symm
  refine ⟨by kernel_rfl, fun j t ht => ?_⟩
  rw [Tryd.params4] at ht
  have hm : t ∈ [22] := by simpa using Array.mem_of_getElem? ht
  have hall : ([22].all fun u => !Tryd.prog.wantsStandIn u) = true := by kernel_rfl
  exact (show Tryd.prog.wantsStandIn t = false by simpa using List.all_eq_true.1 hall t hm)
theorem proved : Rows.FnAllotsCardSaid :=
  Claim7.holds_tied_plain_at .later [] _ _ _ _ said (fun _ h => by cases h) (by kernel_rfl) (fun _ h => by cases h) fnAllots_row_tie rfl ⟨rfl, rfl⟩ (by kernel_rfl) rfl plain (by kernel_rfl)
end lFnAllots
end Go.Proofs.YtbbkahnfnjlajaaDoor
