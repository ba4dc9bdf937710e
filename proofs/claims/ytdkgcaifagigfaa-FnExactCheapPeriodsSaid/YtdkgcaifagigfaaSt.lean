/- Contract of the library's stable sort (slices.SortStableFunc) at a row of at most 24 numbers of places. -/
import Derived.Test.YtdkgcaifagigfaaSy
import Derived.Test.YtdkgcaifagigfaaCpl
import Derived.Test.YtdkgcaifagigfaaShelf
namespace Go.Proofs.Ytdkgcaifagigfaa
open Go.ChangeShapes Go.WideShapes Go.ChangeAt Go.RowKit
open Go.Sort
set_option linter.unusedVariables false
set_option maxRecDepth 100000

def cfK (m : Nat) (key : Nat → Int) (x y : Fin (m + 1)) : Int := key x.val - key y.val
theorem ltOf_cfK (m : Nat) (key : Nat → Int) : ltOf (cfK m key) = ltK m key := rfl
theorem rowOf_self {m : Nat} {w : World} {g : Nat} {d : Array (Fin (m + 1))} (h : Holds (encF m) w g 0 d) : RowOf m w g d 0 = w := by
  unfold RowOf
  rw [putRow_self _ _ _ _ _ h]
  rfl
theorem rowOf_ahead (m : Nat) (w : World) (g : Nat) (dk : Array (Fin (m + 1))) (q : Nat) : RowOf m w g dk q = putRow (encF m) (Sort.ahead w q) g 0 dk := by
  have := putRow_drewN (encF m) w 0 q g 0 dk
  rw [Sort.ahead_zero, Nat.zero_add] at this
  exact this
theorem rowOf_put {m : Nat} {w : World} {g : Nat} {dk d2 : Array (Fin (m + 1))} (q n : Nat) (h : d2.size = dk.size) : (putRow (encF m) (RowOf m w g dk q) g 0 d2).drewN n = RowOf m w g d2 (q + n) := by
  rw [rowOf_ahead m w g dk q, putRow_putRow _ _ _ _ _ _ h, putRow_drewN, rowOf_ahead]
theorem rowOf_size (m : Nat) (w : World) (g : Nat) (dk : Array (Fin (m + 1))) (q : Nat) : (RowOf m w g dk q).heap.size = w.heap.size := by
  rw [rowOf_ahead, size_putRow]
  rfl
theorem rowOf_other (m : Nat) (w : World) (g : Nat) (dk : Array (Fin (m + 1))) (q : Nat) (a : Addr) (h : a.block ≠ g) : (RowOf m w g dk q).cell? a = w.cell? a := by
  rw [rowOf_ahead, Sort.cell?_putRow_other _ _ _ _ _ _ (.inl h), Sort.cell?_ahead]
theorem rowOf_holds {m : Nat} {w : World} {g : Nat} {d dk : Array (Fin (m + 1))} (h : Holds (encF m) w g 0 d) (hs : dk.size = d.size) (q : Nat) : Holds (encF m) (RowOf m w g dk q) g 0 dk := by
  rw [rowOf_ahead]
  exact holds_putRow _ _ _ _ _ _ (holds_ahead _ _ _ _ _ _ h) hs
theorem sortWorld_other {α : Type} [Inhabited α] (enc : α → Value) (w : World) (blk off m : Nat) (dk : Array α) (os : Array Obj) (a : Addr) (h1 : a.block < w.heap.size) (h2 : a.block ≠ blk) :
    (sortWorld enc w blk off m dk os).cell? a = w.cell? a := by
  unfold sortWorld
  rw [Sort.cell?_grow _ _ _ (by simpa using h1), Sort.cell?_putRow_other _ _ _ _ _ _ (.inl h2), Sort.cell?_ahead]
/-- what is asked of the comparison: it reads what lies outside the row -/
def CmpAll (m : Nat) (key : Nat → Int) (f : Nat) (cb : Array Value) (w : World) (g : Nat) : Prop :=
  ∀ W : World, (∀ a : Addr, a.block < w.heap.size → a.block ≠ g → W.cell? a = w.cell? a) → ∀ x y : Fin (m + 1), Calls Try.prog f (#[encF m x, encF m y] ++ cb) W fun e w' => e = .returned (.int .i64 (key x.val - key y.val)) ∧ ∃ n, w' = W.drewN n
theorem CmpAll.at_ {m : Nat} {key : Nat → Int} {f : Nat} {cb : Array Value} {w : World} {g : Nat} (h : CmpAll m key f cb w g) (d : Array (Fin (m + 1))) : CmpAt m key f cb w g d :=
  fun dj q x y _ => h _ (fun a _ h2 => rowOf_other m w g dj q a h2) x y
theorem CmpAll.reads {m : Nat} {key : Nat → Int} {f : Nat} {cb : Array Value} {w : World} {g : Nat} (h : CmpAll m key f cb w g) (dk : Array (Fin (m + 1))) (q s : Nat) : CmpReads Try.prog f cb (encF m) (cfK m key) g 0 s (RowOf m w g dk q) :=
  fun mm os dj _ x y => h _ (fun a h1 h2 => by rw [sortWorld_other _ _ _ _ _ _ _ _ (by rw [rowOf_size]; exact h1) h2, rowOf_other m w g dk q a h2]) x y
def InsPost (m : Nat) (key : Nat → Int) (w : World) (g a b : Nat) (dk : Array (Fin (m + 1))) (e : Ending) (w' : World) : Prop := e = .returned (.tuple #[]) ∧ ∃ q', w' = RowOf m w g (insertionSort (ltK m key) dk a b) q'
theorem ins_any (m : Nat) (key : Nat → Int) (f : Nat) (cb : Array Value) (g cap sz a b : Nat) (d dk : Array (Fin (m + 1))) (q : Nat) (w : World) (eg : ∀ args w, (callFunc f args).run Try.prog w = .ok (.enter f args) w) (hcmp : CmpAll m key f cb w g) (hH : Holds (encF m) w g 0 d) (hs : d.size = sz) (hk : dk.size = d.size) (hz : (insertionSort (ltK m key) dk a b).size = dk.size) (h1 : a ≤ b) (h2 : b ≤ sz) (hsz : sz ≤ 1000) :
    Calls Try.prog 26 #[.slice (some ⟨g, 0, none⟩) sz cap, .int .i64 a, .int .i64 b, .func (.func f) #[] cb] (RowOf m w g dk q) (InsPost m key w g a b dk) := by
  have h := Try.insertionSortCmpFunc_one (encF m) (fun _ => rfl) (cfK m key) f cb g 0 cap a b dk (RowOf m w g dk q) eg (hcmp.reads dk q dk.size) (rowOf_holds hH hk q) h1 (by omega) (by omega)
  rw [show dk.size = sz by omega, ltOf_cfK] at h
  refine h.mono ?_
  rintro e w1 ⟨rfl, n, rfl⟩
  exact ⟨rfl, q + n, rowOf_put q n hz⟩
/-- two blocks sorted by insertion: what the merge starts from -/
theorem blocks_of (m : Nat) (key : Nat → Int) (h20 : 20 ≤ m + 1) :
    (insertionSort (ltK m key) (places m) 0 20).size = m + 1 ∧ (insertionSort (ltK m key) (insertionSort (ltK m key) (places m) 0 20) 20 (m + 1)).size = m + 1 ∧
    PermIn 0 (m + 1) (places m) (insertionSort (ltK m key) (insertionSort (ltK m key) (places m) 0 20) 20 (m + 1)) ∧
    MPre (ltL m key) (ltK m key) 0 20 (m + 1) (insertionSort (ltK m key) (insertionSort (ltK m key) (places m) 0 20) 20 (m + 1)) := by
  have hS := swo_ltL m key
  have e1 : insertionSort (ltK m key) (places m) 0 20 = insertionSort (ltL m key) (places m) 0 20 := by
    unfold insertionSort
    refine insOuter_lt m key 0 20 (0 + 1) _ (by rw [places_size]; omega) (fun k _ hk => places_at m k (by omega)) (fun k _ hk => ?_) (by omega)
    obtain rfl : k = 0 := by omega
    rw [places_at m 0 (by omega)]; omega
  obtain ⟨p1, s1⟩ := insertionSort_holds hS (places m) 0 20 (Nat.zero_le _) (by rw [places_size]; omega)
  rw [← e1] at p1 s1
  obtain ⟨d1, hd1⟩ : ∃ d1, insertionSort (ltK m key) (places m) 0 20 = d1 := ⟨_, rfl⟩
  rw [hd1] at p1 s1 ⊢
  have z1 : d1.size = m + 1 := p1.1.trans (places_size m)
  have k1 : ∀ k, 20 ≤ k → k < m + 1 → (d1[k]!).val = k := fun k h1 h2 => by rw [p1.2.1 k (.inr h1), places_at m k h2]
  have l1 : ∀ k, 0 ≤ k → k < 20 → (d1[k]!).val < 20 := permIn_all (places m) d1 0 20 (fun x => x.val < 20) (by rw [places_size]; omega) p1 (fun k _ h2 => by rw [places_at m k (by omega)]; exact h2)
  have q2 : PermIn 20 (m + 1) d1 (insertionSort (ltK m key) d1 20 (m + 1)) ∧ SortedIn (ltL m key) 20 (m + 1) (insertionSort (ltK m key) d1 20 (m + 1)) := by
    rcases Nat.lt_or_ge 20 (m + 1) with c | c
    · have e2 : insertionSort (ltK m key) d1 20 (m + 1) = insertionSort (ltL m key) d1 20 (m + 1) := by
        unfold insertionSort
        refine insOuter_lt m key 20 (m + 1) (20 + 1) _ (by omega) (fun k h1 hk => k1 k (by omega) hk) (fun k h1 hk => ?_) (by omega)
        obtain rfl : k = 20 := by omega
        rw [k1 20 (by omega) c]; omega
      rw [e2]
      exact insertionSort_holds hS d1 20 (m + 1) (by omega) (by omega)
    · have e2 : insertionSort (ltK m key) d1 20 (m + 1) = d1 := by
        unfold insertionSort
        exact insOuter_stop _ _ _ _ _ (by omega)
      rw [e2]
      exact ⟨permIn_refl _ _ _, fun i j h1 h2 h3 => by omega⟩
  obtain ⟨p2, s2⟩ := q2
  obtain ⟨d2, hd2⟩ : ∃ d2, insertionSort (ltK m key) d1 20 (m + 1) = d2 := ⟨_, rfl⟩
  rw [hd2] at p2 s2 ⊢
  have z2 : d2.size = m + 1 := p2.1.trans z1
  have k2 : ∀ k, k < 20 → d2[k]! = d1[k]! := fun k h1 => p2.2.1 k (.inl h1)
  have g2 : ∀ k, 20 ≤ k → k < m + 1 → 20 ≤ (d2[k]!).val := permIn_all d1 d2 20 (m + 1) (fun x => 20 ≤ x.val) (by omega) p2 (fun k h1 h2 => by rw [k1 k h1 h2]; exact h1)
  refine ⟨z1, z2, permIn_trans _ _ _ _ _ (permIn_mono _ _ 0 20 0 (m + 1) (Nat.le_refl _) h20 (by rw [places_size]; omega) p1) (permIn_mono _ _ 20 (m + 1) 0 (m + 1) (by omega) (Nat.le_refl _) (by omega) p2), ?_, s2, fun i j h1 h2 h3 h4 => ?_⟩
  · exact sorted_keep s1 fun k _ h2 => k2 k h2
  · have a1 := l1 i h1 h2
    have a2 := g2 j h3 h4
    rw [k2 i h2]
    unfold ltK ltL
    rw [Bool.eq_iff_iff]
    simp only [decide_eq_true_eq]
    omega
def StabPost (m : Nat) (key : Nat → Int) (w : World) (g : Nat) (e : Ending) (w' : World) : Prop := e = .returned (.tuple #[]) ∧ ∃ (d' : Array (Fin (m + 1))) (q : Nat), w' = RowOf m w g d' q ∧ d'.size = m + 1 ∧ d'.toList.map Fin.val = ordP key (m + 1)
set_option maxHeartbeats 4000000 in
theorem stableCmp_few (m : Nat) (key : Nat → Int) (f : Nat) (cb : Array Value) (n g cap : Nat) (w : World) (hn : n = m + 1) (hn20 : n < 20)
    (eg : ∀ args w, (callFunc f args).run Try.prog w = .ok (.enter f args) w) (hcmp : CmpAll m key f cb w g) (hH : Holds (encF m) w g 0 (places m)) :
    Calls Try.prog 23 #[.slice (some ⟨g, 0, none⟩) n cap, .int .i64 (n : Int), .func (.func f) #[] cb] w (StabPost m key w g) := by
  obtain ⟨p1, s1⟩ := insertionSort_holds (swo_ltL m key) (places m) 0 (m + 1) (Nat.zero_le _) (by rw [places_size]; exact Nat.le_refl _)
  rw [← ins_lt] at p1 s1
  have hcon := ins_any m key f cb g cap n 0 n (places m) (places m) 0 w eg hcmp hH ((places_size m).trans hn.symm) rfl (by rw [hn]; exact p1.1) (Nat.zero_le _) (Nat.le_refl _) (by omega)
  rw [rowOf_self hH, hn] at hcon
  have HE := Lib.hid (sorted_eqP key p1 s1)
  have HZ := Lib.hid (p1.1.trans (places_size m))
  unfold InsPost at hcon
  obtain ⟨d', hd⟩ : ∃ d', insertionSort (ltK m key) (places m) 0 (m + 1) = d' := ⟨_, rfl⟩
  rw [hd] at hcon HE HZ
  rw [← hn] at hcon
  have HC := Lib.hid hcon
  clear hcon hcmp hH eg p1 s1 hd
  have h20 : ¬ (20 : Int) ≤ (n : Int) := by omega
  have h20' : ¬ (20 : Int) < (n : Int) := by omega
  clear hn
  go_enter Try.func23, Try.ntmps23
  go_wp2
  go_loop [7, 8] (fun a b => a = .int .i64 0 ∧ b = .int .i64 20) (fun _ _ => 0)
  case atStart => exact ⟨rfl, rfl⟩
  case round =>
    obtain ⟨rfl, rfl⟩ := hrel
    go_wp2_with fail
    refine (HC.out).mono ?_
    rintro e w1 ⟨rfl, q, rfl⟩
    go_wp2
    go_loop [6] (fun s => s = .int .i64 20) (fun _ => 0)
    case atStart => rfl
    case round =>
      obtain rfl := hrel
      go_wp2
      go_end0
      exact ⟨rfl, d', q, rfl, HZ.out, HE.out⟩
set_option maxHeartbeats 8000000 in
theorem stableCmp_more (m : Nat) (key : Nat → Int) (f : Nat) (cb : Array Value) (n g cap : Nat) (w : World) (hn : n = m + 1) (hn20 : 20 ≤ n) (hn24 : n ≤ 24)
    (eg : ∀ args w, (callFunc f args).run Try.prog w = .ok (.enter f args) w) (hcmp : CmpAll m key f cb w g) (hH : Holds (encF m) w g 0 (places m)) :
    Calls Try.prog 23 #[.slice (some ⟨g, 0, none⟩) n cap, .int .i64 (n : Int), .func (.func f) #[] cb] w (StabPost m key w g) := by
  obtain ⟨z1, z2, pA, pM⟩ := blocks_of m key (by omega)
  have hc1 := ins_any m key f cb g cap n 0 20 (places m) (places m) 0 w eg hcmp hH ((places_size m).trans hn.symm) rfl (by rw [z1, places_size]) (by omega) (by omega) (by omega)
  rw [rowOf_self hH] at hc1
  unfold InsPost at hc1
  obtain ⟨d1, hd1⟩ : ∃ d1, insertionSort (ltK m key) (places m) 0 20 = d1 := ⟨_, rfl⟩
  rw [hd1] at hc1 z1 z2 pA pM
  have hc2 : ∀ q, Calls Try.prog 26 #[.slice (some ⟨g, 0, none⟩) n cap, .int .i64 20, .int .i64 n, .func (.func f) #[] cb] (RowOf m w g d1 q) (fun e w' => e = .returned (.tuple #[]) ∧ ∃ q', w' = RowOf m w g (insertionSort (ltK m key) d1 20 (m + 1)) q') := fun q => by
    have := ins_any m key f cb g cap n 20 n (places m) d1 q w eg hcmp hH ((places_size m).trans hn.symm) (by rw [z1, places_size]) (by rw [hn, z2, z1]) (by omega) (Nat.le_refl _) (by omega)
    unfold InsPost at this
    subst hn
    exact this
  obtain ⟨d2, hd2⟩ : ∃ d2, insertionSort (ltK m key) d1 20 (m + 1) = d2 := ⟨_, rfl⟩
  rw [hd2] at hc2 z2 pA pM
  have hc3 : 20 < n → ∀ q, Calls Try.prog 27 #[.slice (some ⟨g, 0, none⟩) n cap, .int .i64 0, .int .i64 20, .int .i64 n, .func (.func f) #[] cb] (RowOf m w g d2 q) (SymPost m key w g 0 n d2) := fun h q =>
    symMerge_any m key f cb g cap n (places m) w eg (hcmp.at_ _) hH ((places_size m).trans hn.symm) (by omega) (n - 0) 0 20 n d2 q (Nat.le_refl _) (by rw [z2, places_size]) (by rw [hn]; exact pM) (by omega) h (Nat.le_refl _)
  have HC1 := Lib.hid hc1
  have HC2 := Lib.hid hc2
  have HC3 := Lib.hid hc3
  have HA := Lib.hid pA
  have HM := Lib.hid pM
  have HZ := Lib.hid z2
  have HN := Lib.hid hn
  clear hc1 hc2 hc3 hcmp hH eg pA pM z1 z2 hd1 hd2 hn
  have h20 : (20 : Int) ≤ (n : Int) := by omega
  have h40 : ¬ (40 : Int) ≤ (n : Int) := by omega
  have h40' : ¬ (40 : Int) < (n : Int) := by omega
  go_enter Try.func23, Try.ntmps23
  go_wp2
  go_loopg [7, 8] 1 (fun g1 va vb wr => (va = .int .i64 0 ∧ vb = .int .i64 20 ∧ 1 ≤ g1 ∧ wr = w) ∨ (va = .int .i64 20 ∧ vb = .int .i64 40 ∧ ∃ q1, wr = RowOf m w g d1 q1))
  case atStart => exact .inl ⟨rfl, rfl, Nat.le_refl _, rfl⟩
  case round =>
    rcases hrel with ⟨rfl, rfl, hg1, rfl⟩ | ⟨rfl, rfl, q1, rfl⟩
    · go_wp2_with fail
      refine (HC1.out).mono ?_
      rintro e w1 ⟨rfl, q, rfl⟩
      go_wp2
      go_roundg 0
      case measure => omega
      case rel => exact .inr ⟨rfl, rfl, q, rfl⟩
    · go_wp2_with fail
      refine (HC2.out _).mono ?_
      rintro e w1 ⟨rfl, q2, rfl⟩
      go_wp2
      go_loopg [6] 1 (fun g1 vs wr => (vs = .int .i64 20 ∧ 1 ≤ g1 ∧ wr = RowOf m w g d2 q2) ∨ (vs = .int .i64 40 ∧ ∃ d3 q3, wr = RowOf m w g d3 q3 ∧ Hid (PermIn 0 n d2 d3) ∧ Hid (SortedIn (ltL m key) 0 n d3)))
      case atStart => exact .inl ⟨rfl, Nat.le_refl _, rfl⟩
      case round =>
        rcases hrel with ⟨rfl, hg1, rfl⟩ | ⟨rfl, d3, q3, rfl, HP3, HS3⟩
        · by_cases hlt : 20 < n
          · have hltz : (20 : Int) < (n : Int) := by omega
            have HC4 := Lib.hid (HC3.out hlt q2)
            go_wp2
            go_loop [7, 8] (fun a b => a = .int .i64 0 ∧ b = .int .i64 40) (fun _ _ => 0)
            case atStart => exact ⟨rfl, rfl⟩
            case round =>
              obtain ⟨rfl, rfl⟩ := hrel
              go_wp2_with fail
              refine (HC4.out).mono ?_
              rintro e w1 ⟨rfl, d3, q3, rfl, hp3, hs3⟩
              have HP3 := Lib.hid hp3
              have HS3 := Lib.hid hs3
              clear hp3 hs3
              go_wp2
              go_roundg 0
              case measure => omega
              case rel => exact .inr ⟨rfl, d3, q3, rfl, HP3, HS3⟩
          · have hltz : ¬ (20 : Int) < (n : Int) := by omega
            have hF : d2.toList.map Fin.val = ordP key (m + 1) := sorted_eqP key HA.out (fun i j h1 h2 h3 => HM.out.left i j h1 h2 (by have := HN.out; omega))
            have HF := Lib.hid hF
            clear hF
            go_wp2
            go_end0
            exact ⟨rfl, d2, q2, rfl, HZ.out, HF.out⟩
        · have hF : d3.toList.map Fin.val = ordP key (m + 1) := sorted_eqP key (permIn_trans _ _ _ _ _ HA.out (by have h := HP3.out; rw [HN.out] at h; exact h)) (by have h := HS3.out; rw [HN.out] at h; exact h)
          have HF := Lib.hid hF
          have HZ3 := Lib.hid (HP3.out.1.trans HZ.out)
          clear hF
          go_wp2
          go_end0
          exact ⟨rfl, d3, q3, rfl, HZ3.out, HF.out⟩
set_option maxHeartbeats 1000000 in
theorem sortStable_any (m : Nat) (key : Nat → Int) (f : Nat) (cb : Array Value) (n g cap : Nat) (w : World) (hn : n = m + 1) (hn24 : n ≤ 24)
    (eg : ∀ args w, (callFunc f args).run Try.prog w = .ok (.enter f args) w) (hcmp : CmpAll m key f cb w g) (hH : Holds (encF m) w g 0 (places m)) :
    Calls Try.prog 19 #[.slice (some ⟨g, 0, none⟩) n cap, .func (.func f) #[] cb] w (StabPost m key w g) := by
  have hcon : Calls Try.prog 23 #[.slice (some ⟨g, 0, none⟩) n cap, .int .i64 (n : Int), .func (.func f) #[] cb] w (StabPost m key w g) := by
    rcases Nat.lt_or_ge n 20 with c | c
    · exact stableCmp_few m key f cb n g cap w hn c eg hcmp hH
    · exact stableCmp_more m key f cb n g cap w hn c hn24 eg hcmp hH
  clear hcmp hH eg
  have HC := Lib.hid hcon
  clear hcon hn
  go_enter Try.func19, Try.ntmps19
  go_wp2_with fail
  refine (HC.out).mono ?_
  rintro e w1 ⟨rfl, d', q, rfl, h1, h2⟩
  have H1 := Lib.hid h1
  have H2 := Lib.hid h2
  clear h1 h2
  go_wp2
  go_end0
  exact ⟨rfl, d', q, rfl, H1.out, H2.out⟩
end Go.Proofs.Ytdkgcaifagigfaa
