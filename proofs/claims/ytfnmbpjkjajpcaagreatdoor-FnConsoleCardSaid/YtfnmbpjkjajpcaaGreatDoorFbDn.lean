/- The lines of a drawn session in plain words: the session of their join answers what its lines answer. -/
import Derived.Test.YtfnmbpjkjajpcaaGreatDoorFbKz
import Derived.Test.YtfnmbpjkjajpcaaGreatDoorFbUz
import Derived.Test.YtfnmbpjkjajpcaaGreatDoorFbTz
import Derived.Test.YtfnmbpjkjajpcaaGreatDoorFbDz
namespace Go.Proofs.YtfnmbpjkjajpcaaGreatDoor
open Go.ChangeShapes Go.WideShapes Go.ChangeAt Go.RowKit
set_option linter.unusedVariables false
set_option maxRecDepth 100000
def LineOk (L : List UInt8) : Prop := (10 : UInt8) ∉ L ∧ L.length ≤ 30
instance (L : List UInt8) : Decidable (LineOk L) := inferInstanceAs (Decidable (_ ∧ _))
def keptW : List UInt8 := [107, 101, 112, 116]
def DrawnL (l : List (List UInt8)) : Prop := ∃ t, l = keptW :: t ∧ 1 ≤ t.length ∧ t.length ≤ 8 ∧ ∀ x ∈ t, LineOk x
theorem keptW_ok : LineOk keptW := by decide
theorem DrawnL.all {l : List (List UInt8)} (h : DrawnL l) : ∀ x ∈ l, LineOk x := by
  obtain ⟨t, rfl, _, _, h⟩ := h
  intro x hx
  rcases List.mem_cons.1 hx with rfl | hx
  · exact keptW_ok
  · exact h x hx
theorem DrawnL.len {l : List (List UInt8)} (h : DrawnL l) : 2 ≤ l.length ∧ l.length ≤ 9 := by
  obtain ⟨t, rfl, h1, h2, _⟩ := h
  simp only [List.length_cons]
  omega
theorem DrawnL.ne {l : List (List UInt8)} (h : DrawnL l) : l ≠ [] := by
  obtain ⟨t, rfl, _⟩ := h
  exact List.cons_ne_nil _ _
theorem join_small {q : UInt8} {k : Nat} : ∀ {l : List (List UInt8)}, (∀ x ∈ l, x.length ≤ k) → (Lib.join l [q]).length ≤ l.length * (k + 1)
  | [], _ => by simp [Lib.join]
  | [x], h => by
    have := h x (List.mem_cons_self ..)
    simp [Lib.join]
    omega
  | x :: y :: r, h => by
    have h1 := h x (List.mem_cons_self ..)
    have h2 := join_small (q := q) (k := k) (l := y :: r) fun z hz => h z (List.mem_cons_of_mem _ hz)
    have e : (x :: y :: r).length * (k + 1) = (y :: r).length * (k + 1) + (k + 1) := by rw [List.length_cons, Nat.succ_mul]
    have e2 : (Lib.join (x :: y :: r) [q]).length = x.length + 1 + (Lib.join (y :: r) [q]).length := by simp [Lib.join]; omega
    rw [e, e2]
    generalize (y :: r).length * (k + 1) = P at *
    omega
theorem DrawnL.join_len {l : List (List UInt8)} (h : DrawnL l) : (Lib.join l [10]).length ≤ 279 := by
  have h1 := join_small (q := 10) (k := 30) (l := l) fun x hx => (h.all x hx).2
  have h2 := h.len
  have h3 := Nat.mul_le_mul_right 31 h2.2
  omega
theorem snoc_last {l : List (List UInt8)} (h : l ≠ []) : ∃ i x, l = i ++ [x] := ⟨l.dropLast, l.getLast h, (List.dropLast_concat_getLast h).symm⟩
theorem sess_lines {l : List (List UInt8)} (h : DrawnL l) : (sessR (Lib.join l [10])).1 = (linesR newConsole l).2 ∧ (l.length : Int) - 1 ≤ (sessR (Lib.join l [10])).2 ∧ (sessR (Lib.join l [10])).2 ≤ (l.length : Int) := by
  have hs : splitC 10 (Lib.join l [10]) = l := split_join h.ne fun x hx => (h.all x hx).1
  have hn := h.len
  obtain ⟨i, x, hi⟩ := snoc_last h.ne
  have hl : linesOf (Lib.join l [10]) = if x = [] then i else l := by
    unfold linesOf
    rw [hs, hi, List.getLast?_concat, List.dropLast_concat]
    by_cases hx : x = [] <;> simp [hx]
  have hlen : l.length = i.length + 1 := by rw [hi, List.length_append]; rfl
  unfold sessR
  rw [hl]
  by_cases hx : x = []
  · rw [if_pos hx, if_neg (by omega)]
    refine ⟨?_, by simp only; omega, by simp only; omega⟩
    show (linesR newConsole i).2 = _
    rw [hi, linesR_snoc, hx]
    have e : (lineR (linesR newConsole i).1 []).2 = [] := rfl
    rw [e, if_pos rfl, List.append_nil]
  · rw [if_neg hx, if_neg (by omega)]
    exact ⟨rfl, by simp only; omega, by simp only; omega⟩
theorem kept_says : (lineR newConsole keptW).2 ≠ [] := by decide +kernel
theorem lines_say {l : List (List UInt8)} (h : DrawnL l) : (linesR newConsole l).2 ≠ [] := by
  obtain ⟨t, rfl, _⟩ := h
  rw [linesR]
  simp only
  rw [if_neg kept_says]
  simp
end Go.Proofs.YtfnmbpjkjajpcaaGreatDoor
namespace Go.Proofs.YtfnmbpjkjajpcaaGreatDoor
open Go.ChangeShapes Go.WideShapes Go.ChangeAt Go.RowKit
set_option linter.unusedVariables false
set_option maxRecDepth 100000
theorem Only.grownNew {g : Nat} {row : Option Nat} {a b c : World} (h : Only (some g) a b) (k : b.grownBy c row) (hr : ∀ q, row = some q → a.heap.size ≤ q) : Only (some g) a c :=
  ⟨k.os.trans h.os, k.tape.trans h.tape, k.output.trans h.output, Nat.le_trans h.size k.size, fun i hi hn => (k.block i (Nat.lt_of_lt_of_le hi h.size) (fun e => by have := hr i e.symm; omega)).trans (h.block i hi hn)⟩
theorem Cur.grown2 {w0 w w' : World} {g : Nat} {A : Option Addr} {n c : Nat} {row : Option Nat} (h : Cur w0 w g A n c) (hg : w.grownBy w' row) (hr : ∀ k, row = some k → w0.heap.size ≤ k ∧ k ≠ g) : Cur w0 w' g A n c := by
  obtain ⟨i, k, hi, hn, hb⟩ := h.blk
  exact ⟨h.ext.grown hg (fun q hq => (hr q hq).1), h.le, i, k, hi, hn, (hg.block g hb.lt (fun e => (hr g e.symm).2 rfl)).trans hb⟩
theorem strK_info : (Tryz.prog.info? 9).map (fun i => (i.zero, i.size, i.bytes)) = some (some (.string ⟨#[]⟩), 1, 16) := by kernel_rfl
set_option maxHeartbeats 1000000 in
theorem l01Str_any (w0 : World) (g : Nat) (A : Option Addr) (n c : Nat) (bs : List Int) (B : Option Addr) (m k : Nat) (zs : List (List UInt8)) (w : World) (hn : bs.length = n) (hr : Row w0 A (u8s bs)) (hle : n ≤ 1048576) (hc : Cur w0 w g A n c)
    (hm : zs.length = m) (hm0 : 0 < m) (hml : m ≤ 1000) (hz : ∀ V, Only (some g) w V → Row V B (strs zs)) :
    Calls Tryz.prog 133 #[.pointer (some ⟨g, 0, none⟩), .slice B m k] w fun e w' => (∃ x : List UInt8, e = .returned (.string (txt x)) ∧ x ∈ zs) ∧ Cur w0 w' g A n c ∧ Only (some g) w w' := by
  have HZ := Lib.hid hz
  have HM := Lib.hid hm
  go_enter Tryz.func133, Tryz.ntmps133
  go_wp2_with fail
  refine (l01Below_any _ _ _ _ _ bs _ _ hn hr hle hc (by unfold I64; omega)).mono ?_
  rintro e w1 ⟨⟨x, rfl, hx0, hx1, _⟩, hc1, ho1⟩
  have hx2 := hx1 (by omega)
  obtain ⟨t, rfl⟩ : ∃ t : Nat, x = (t : Int) := ⟨x.toNat, by omega⟩
  have htl : t < zs.length := by rw [HM.out]; omega
  obtain ⟨b, off, rfl, hb, hcell⟩ := (HZ.out _ ho1).str (k := t) htl
  have hmem : Hid (zs[t]'htl ∈ zs) := List.getElem_mem htl
  generalize zs[t]'htl = z at *
  clear htl hx1 hm hz
  go_wp2
  go_ret
  exact ⟨⟨_, rfl, hmem.out⟩, hc1, ho1⟩
theorem strs_new {g : Nat} {w : World} (zs : List (List UInt8)) (cs : Array Value) (t : TypeId) (h : cs.toList = strs zs) (hg : g < w.heap.size) : ∀ V, Only (some g) (w.alloc (.cells cs t)) V → Row V (some ⟨w.heap.size, 0, none⟩) (strs zs) := fun V hV => by
  refine .inr ⟨w.heap.size, 0, rfl, fun j v hj => ?_⟩
  rw [((Blk.new w t cs).only hV (by omega)).cell, Nat.zero_add]
  rw [← h] at hj
  simpa using hj
def linesD0 : List (List UInt8) := [[109, 97, 112, 32, 52, 32, 49, 32, 48, 32, 52, 32, 53], [100, 114, 105, 118, 101, 32, 50, 32, 49], [114, 97, 110, 103, 101, 32, 45, 56, 32, 56], [114, 97, 110, 103, 101, 32, 51, 32, 51], [110, 111, 105, 115, 101, 32, 45, 50, 32, 45, 49, 32, 50, 32, 49], [108, 105, 109, 105, 116, 115, 32, 45, 50, 48, 32, 45, 49, 53, 32, 50, 48, 32, 49, 53], [99, 117, 116, 32, 49, 32, 49, 32, 49, 50], [97, 116, 32, 51, 32, 52, 32, 49], [97, 116, 32, 49, 32, 50, 32, 51], [108, 105, 109, 105, 116, 115, 32, 45, 49, 48, 32, 45, 49, 48, 32, 49, 48, 32, 49, 48]]
theorem linesD0_ok : ∀ x ∈ linesD0, LineOk x := by decide +kernel
def linesD1 : List (List UInt8) := [[107, 101, 112, 116], [115, 112, 97, 110], [114, 111, 117, 110, 100, 115, 32, 49], [114, 111, 117, 110, 100, 115, 32, 48], [108, 111, 115, 115, 32, 48], [108, 111, 115, 115, 32, 49], [119, 97, 116, 99, 104], [108, 111, 103]]
theorem linesD1_ok : ∀ x ∈ linesD1, LineOk x := by decide +kernel
def linesD2 : List (List UInt8) := [[119, 97, 116, 99, 104], [106, 117, 100, 103, 101, 32, 49, 32, 50], [106, 117, 100, 103, 101, 32, 57, 32, 49], [106, 117, 100, 103, 101, 32, 45, 57, 32, 50], [106, 117, 100, 103, 101, 32, 49, 32, 48], [97, 115, 107, 32, 45, 50, 32, 51, 32, 53, 32, 49], [97, 115, 107, 32, 48, 32, 50, 32, 50, 32, 48], [97, 108, 108, 111, 116, 32, 52], [97, 108, 108, 111, 116, 32, 45, 57]]
theorem linesD2_ok : ∀ x ∈ linesD2, LineOk x := by decide +kernel
def linesD3 : List (List UInt8) := [[], [35, 32, 110, 111, 116, 101], [119, 104, 97, 116], [109, 97, 112, 32, 49, 32, 48, 32, 48, 32, 49], [109, 97, 112, 32, 49, 32, 49, 32, 49, 32, 49, 32, 49], [114, 97, 110, 103, 101, 32, 53, 32, 45, 53], [114, 97, 110, 103, 101, 32, 53], [110, 111, 105, 115, 101, 32, 48, 32, 48, 32, 48, 32, 49], [99, 117, 116, 32, 48, 32, 48, 32, 53], [99, 117, 116, 32, 49, 32, 48, 32, 45, 57, 48], [97, 116, 32, 49, 32, 50, 32, 48], [97, 116, 32, 49, 32, 120, 32, 49], [114, 111, 117, 110, 100, 115, 32, 49, 51], [114, 111, 117, 110, 100, 115, 32, 120], [97, 115, 107, 32, 53, 32, 50, 32, 51, 32, 48], [108, 111, 115, 115, 32, 57, 57]]
theorem linesD3_ok : ∀ x ∈ linesD3, LineOk x := by decide +kernel
def LineDrawn (w0 : World) (g : Nat) (A : Option Addr) (n c : Nat) (w : World) (e : Ending) (w' : World) : Prop := (∃ x : List UInt8, e = .returned (.string (txt x)) ∧ LineOk x) ∧ Cur w0 w' g A n c ∧ Only (some g) w w'
set_option maxHeartbeats 4000000 in
theorem l25Line_any (w0 : World) (g : Nat) (A : Option Addr) (n c : Nat) (bs : List Int) (w : World) (hn : bs.length = n) (hr : Row w0 A (u8s bs)) (hle : n ≤ 1048576) (hc : Cur w0 w g A n c) :
    Calls Tryz.prog 67 #[.pointer (some ⟨g, 0, none⟩)] w (LineDrawn w0 g A n c w) := by
  have HS := Lib.hid (fun B m k zs w hc hm hm0 hml hz => l01Str_any w0 g A n c bs B m k zs w hn hr hle hc hm hm0 hml hz)
  have HB := Lib.hid (fun (m : Int) (hm : I64 m) w hc => l01Below_any w0 g A n c bs m w hn hr hle hc hm)
  clear hn hr
  go_enter Tryz.func67, Tryz.ntmps67
  go_wp2_with fail
  refine (HB.out 4 (by unfold I64; omega) _ hc).mono ?_
  rintro e w1 ⟨⟨x, rfl, hx0, hx1, _⟩, hc1, ho1⟩
  have hx2 := hx1 (by omega)
  have hg1 := hc1.lt
  have hq : x = 0 ∨ x = 1 ∨ x = 2 ∨ x = 3 := by omega
  clear hx0 hx1 hx2 HB
  rcases hq with rfl | rfl | rfl | rfl
  · go_wp2_with fail
    have hx9 := (Ext.refl w1).alloc (.cells #[.string ⟨#[109, 97, 112, 32, 52, 32, 49, 32, 48, 32, 52, 32, 53]⟩, .string ⟨#[100, 114, 105, 118, 101, 32, 50, 32, 49]⟩, .string ⟨#[114, 97, 110, 103, 101, 32, 45, 56, 32, 56]⟩, .string ⟨#[114, 97, 110, 103, 101, 32, 51, 32, 51]⟩, .string ⟨#[110, 111, 105, 115, 101, 32, 45, 50, 32, 45, 49, 32, 50, 32, 49]⟩, .string ⟨#[108, 105, 109, 105, 116, 115, 32, 45, 50, 48, 32, 45, 49, 53, 32, 50, 48, 32, 49, 53]⟩, .string ⟨#[99, 117, 116, 32, 49, 32, 49, 32, 49, 50]⟩, .string ⟨#[97, 116, 32, 51, 32, 52, 32, 49]⟩, .string ⟨#[97, 116, 32, 49, 32, 50, 32, 51]⟩, .string ⟨#[108, 105, 109, 105, 116, 115, 32, 45, 49, 48, 32, 45, 49, 48, 32, 49, 48, 32, 49, 48]⟩] 9)
    refine (HS.out _ 10 10 linesD0 _ (hc1.fwd hx9) rfl (by omega) (by omega) (strs_new linesD0 _ 9 rfl hg1)).mono ?_
    rintro e w2 ⟨⟨z, rfl, hz⟩, hc2, ho2⟩
    have hzo := Lib.hid (linesD0_ok z hz)
    clear hz
    go_wp2
    go_ret
    exact ⟨⟨_, rfl, hzo.out⟩, hc2, ho1.trans ((Only.of_ext hx9).trans ho2)⟩
  · go_wp2_with fail
    have hx9 := (Ext.refl w1).alloc (.cells #[.string ⟨#[107, 101, 112, 116]⟩, .string ⟨#[115, 112, 97, 110]⟩, .string ⟨#[114, 111, 117, 110, 100, 115, 32, 49]⟩, .string ⟨#[114, 111, 117, 110, 100, 115, 32, 48]⟩, .string ⟨#[108, 111, 115, 115, 32, 48]⟩, .string ⟨#[108, 111, 115, 115, 32, 49]⟩, .string ⟨#[119, 97, 116, 99, 104]⟩, .string ⟨#[108, 111, 103]⟩] 9)
    refine (HS.out _ 8 8 linesD1 _ (hc1.fwd hx9) rfl (by omega) (by omega) (strs_new linesD1 _ 9 rfl hg1)).mono ?_
    rintro e w2 ⟨⟨z, rfl, hz⟩, hc2, ho2⟩
    have hzo := Lib.hid (linesD1_ok z hz)
    clear hz
    go_wp2
    go_ret
    exact ⟨⟨_, rfl, hzo.out⟩, hc2, ho1.trans ((Only.of_ext hx9).trans ho2)⟩
  · go_wp2_with fail
    have hx9 := (Ext.refl w1).alloc (.cells #[.string ⟨#[119, 97, 116, 99, 104]⟩, .string ⟨#[106, 117, 100, 103, 101, 32, 49, 32, 50]⟩, .string ⟨#[106, 117, 100, 103, 101, 32, 57, 32, 49]⟩, .string ⟨#[106, 117, 100, 103, 101, 32, 45, 57, 32, 50]⟩, .string ⟨#[106, 117, 100, 103, 101, 32, 49, 32, 48]⟩, .string ⟨#[97, 115, 107, 32, 45, 50, 32, 51, 32, 53, 32, 49]⟩, .string ⟨#[97, 115, 107, 32, 48, 32, 50, 32, 50, 32, 48]⟩, .string ⟨#[97, 108, 108, 111, 116, 32, 52]⟩, .string ⟨#[97, 108, 108, 111, 116, 32, 45, 57]⟩] 9)
    refine (HS.out _ 9 9 linesD2 _ (hc1.fwd hx9) rfl (by omega) (by omega) (strs_new linesD2 _ 9 rfl hg1)).mono ?_
    rintro e w2 ⟨⟨z, rfl, hz⟩, hc2, ho2⟩
    have hzo := Lib.hid (linesD2_ok z hz)
    clear hz
    go_wp2
    go_ret
    exact ⟨⟨_, rfl, hzo.out⟩, hc2, ho1.trans ((Only.of_ext hx9).trans ho2)⟩
  · go_wp2_with fail
    have hx9 := (Ext.refl w1).alloc (.cells #[.string ⟨#[]⟩, .string ⟨#[35, 32, 110, 111, 116, 101]⟩, .string ⟨#[119, 104, 97, 116]⟩, .string ⟨#[109, 97, 112, 32, 49, 32, 48, 32, 48, 32, 49]⟩, .string ⟨#[109, 97, 112, 32, 49, 32, 49, 32, 49, 32, 49, 32, 49]⟩, .string ⟨#[114, 97, 110, 103, 101, 32, 53, 32, 45, 53]⟩, .string ⟨#[114, 97, 110, 103, 101, 32, 53]⟩, .string ⟨#[110, 111, 105, 115, 101, 32, 48, 32, 48, 32, 48, 32, 49]⟩, .string ⟨#[99, 117, 116, 32, 48, 32, 48, 32, 53]⟩, .string ⟨#[99, 117, 116, 32, 49, 32, 48, 32, 45, 57, 48]⟩, .string ⟨#[97, 116, 32, 49, 32, 50, 32, 48]⟩, .string ⟨#[97, 116, 32, 49, 32, 120, 32, 49]⟩, .string ⟨#[114, 111, 117, 110, 100, 115, 32, 49, 51]⟩, .string ⟨#[114, 111, 117, 110, 100, 115, 32, 120]⟩, .string ⟨#[97, 115, 107, 32, 53, 32, 50, 32, 51, 32, 48]⟩, .string ⟨#[108, 111, 115, 115, 32, 57, 57]⟩] 9)
    refine (HS.out _ 16 16 linesD3 _ (hc1.fwd hx9) rfl (by omega) (by omega) (strs_new linesD3 _ 9 rfl hg1)).mono ?_
    rintro e w2 ⟨⟨z, rfl, hz⟩, hc2, ho2⟩
    have hzo := Lib.hid (linesD3_ok z hz)
    clear hz
    go_wp2
    go_ret
    exact ⟨⟨_, rfl, hzo.out⟩, hc2, ho1.trans ((Only.of_ext hx9).trans ho2)⟩
set_option maxHeartbeats 4000000 in
theorem l25Some_any (w0 : World) (g : Nat) (A : Option Addr) (n c : Nat) (bs : List Int) (w : World) (hn : bs.length = n) (hr : Row w0 A (u8s bs)) (hle : n ≤ 1048576) (hc : Cur w0 w g A n c) :
    Calls Tryz.prog 29 #[.pointer (some ⟨g, 0, none⟩), .int .i64 8] w fun e w' => ∃ (B : Option Addr) (m d : Nat) (xs : List (List UInt8)), e = .returned (.slice B m d) ∧ xs.length = m ∧ 1 ≤ m ∧ m ≤ 8 ∧ (∀ x ∈ xs, LineOk x) ∧ w'.ownsRow w.heap.size 9 1 (.slice B m d) m (strs xs) ∧ Cur w0 w' g A n c ∧ Only (some g) w w' := by
  obtain ⟨i0, hi0, hz0, hz1, hz2⟩ := info_parts strK_info
  have hgl := hc.lt
  have hw0 := hc.ext.size
  have HB := Lib.hid (fun (m : Int) (hm : I64 m) w hc => l01Below_any w0 g A n c bs m w hn hr hle hc hm)
  have HL := Lib.hid (fun w hc => l25Line_any w0 g A n c bs w hn hr hle hc)
  clear hn hr
  have hxa : Ext w (w.alloc (.cells #[] 9)) := (Ext.refl w).alloc _
  have hlit : (w.alloc (.cells #[] 9)).ownsRow w.heap.size 9 1 (.slice (some ⟨w.heap.size, 0, none⟩) 0 0) 0 [] := by
    simpa using World.ownsRow_lit (base := w.heap.size) (e := 9) (size := 1) w #[] 0 (Nat.le_refl _) (by unfold maxLen; omega) rfl
  have hc0 := hc.fwd hxa
  go_enter Tryz.func29, Tryz.ntmps29
  go_wp2_with fail
  refine (HB.out 8 (by unfold I64; omega) _ hc0).mono ?_
  rintro e w1 ⟨⟨x, rfl, hx0, hx1, _⟩, hc1, ho1⟩
  have hx2 := hx1 (by omega)
  obtain ⟨t, rfl⟩ : ∃ t : Nat, x = (t : Int) := ⟨x.toNat, by omega⟩
  have ht : t < 8 := by omega
  have hown1 := own_only hlit ho1 (fun q hq e => by injection hq with hq; subst hq; have := (hlit.lt _ e).1; omega)
  have hoA : Only (some g) w w1 := (Only.of_ext hxa).trans ho1
  have hsA : w.heap.size ≤ w1.heap.size := by have := ho1.size; simp at this; omega
  clear hx0 hx1 hx2 hc hc0 hlit hxa ho1 HB
  go_wp2_with fail
  go_loopw [5, 6] (fun v i wr => ∃ (k : Nat) (xs : List (List UInt8)), i = .int .i64 k ∧ xs.length + k = t + 1 ∧ (∀ x ∈ xs, LineOk x) ∧ w.heap.size ≤ wr.heap.size ∧ Cur w0 wr g A n c ∧ Only (some g) w wr ∧ wr.ownsRow w.heap.size 9 1 v xs.length (strs xs)) (fun _ i _ => (intOf i).toNat)
  case atStart => exact ⟨t + 1, [], by first | rfl | (congr 1; omega), by simp, (fun _ h => by cases h), hsA, hc1, hoA, hown1⟩
  case round =>
  clear hown1 hc1 hoA hsA
  obtain ⟨k, xs, rfl, hkx, hall, hws, hcr, hor, hown⟩ := hrel
  obtain ⟨A', c', rfl⟩ := own_form hown
  have Hall := Lib.hid hall
  clear hall
  by_cases h0 : k = 0
  · subst h0
    have hm1 : xs.length = t + 1 := by omega
    go_wp2
    go_ret
    exact ⟨_, _, _, xs, rfl, rfl, by omega, by omega, Hall.out, hown, hcr, hor⟩
  have hk1 : (0 : Int) < (k : Int) := by omega
  obtain ⟨m, hm⟩ : ∃ m, xs.length = m := ⟨_, rfl⟩
  rw [hm] at hown hkx ⊢
  have Hm := Lib.hid hm
  clear hm
  go_wp2_with fail
  refine (HL.out _ hcr).mono ?_
  rintro e w2 ⟨⟨z, rfl, hz⟩, hc2, ho2⟩
  replace hown := own_only hown ho2 (fun q hq e => by injection hq with hq; subst hq; have := (hown.lt _ e).1; omega)
  replace hws := Nat.le_trans hws ho2.size
  have hown0 := fun q hq => (hown.lt q hq).1
  have HownL := Lib.hid hown0
  clear hown0
  have hok : Hid (∀ x ∈ xs ++ [z], LineOk x) := fun x hx => by
    rcases List.mem_append.1 hx with hx | hx
    · exact Hall.out x hx
    · rw [List.mem_singleton] at hx
      rw [hx]
      exact hz
  have Hadd : Hid (strs (xs ++ [z]) = strs xs ++ [.string (txt z)]) := by simp [Hid, strs]
  go_wp2_with (at_builtin; go_must (refine wpList_append_own _ rfl _ _ 27 rfl w.heap.size 9 i0 (.string ⟨#[]⟩) 1 16 Tryz.underlying27 hi0 hz0 hz1 hz2 rfl (by decide) _ _ _ rfl (hown.alloc _) ⟨w2.heap.size, 0, none⟩ 1 1 [.string (txt z)] rfl rfl (cell_one_new _ _ _) (by simp [Value.oneCell']) (by unfold maxLen; omega) (by omega) (by simp; omega) ?_); intro v' w6 hown' hgrow _)
  have hc6 : Cur w0 w6 g A n c := (hc2.fwd ((Ext.refl w2).alloc (.cells #[.string (txt z)] 9))).grown2 hgrow (fun q hq => by have := HownL.out q hq; omega)
  have hws6 : w.heap.size ≤ w6.heap.size := by have := hgrow.size; simp at this; omega
  have ho6 : Only (some g) w w6 := ((hor.trans ho2).trans (Only.of_ext ((Ext.refl w2).alloc (.cells #[.string (txt z)] 9)))).grownNew hgrow (fun q hq => HownL.out q hq)
  go_roundw
  case rel =>
    refine ⟨k - 1, xs ++ [z], ?_, by rw [List.length_append, Hm.out]; simp; omega, hok.out, hws6, hc6, ho6, ?_⟩
    · rw [show ((k - 1 : Nat) : Int) = (k : Int) - 1 by omega]
    · rw [Hadd.out, List.length_append, Hm.out]
      exact hown'
  case measure => simp [intOf]; omega
set_option maxHeartbeats 4000000 in
theorem makeLines_any (A : Option Addr) (n c : Nat) (bs : List Int) (w : World) (hn : bs.length = n) (hr : Row w A (u8s bs)) (hle : n ≤ 1048576) :
    Calls Tryz.prog 11 #[.slice A n c] w fun e w' => ∃ l, DrawnL l ∧ StrsMade l w e w' := by
  obtain ⟨i0, hi0, hz0, hz1, hz2⟩ := info_parts strK_info
  go_enter Tryz.func11, Tryz.ntmps11
  have hx0 := (Ext.refl w).alloc (.cells #[.string ⟨#[107, 101, 112, 116]⟩] 9)
  have hlit : (w.alloc (.cells #[.string ⟨#[107, 101, 112, 116]⟩] 9)).ownsRow w.heap.size 9 1 (.slice (some ⟨w.heap.size, 0, none⟩) 1 1) 1 [.string ⟨#[107, 101, 112, 116]⟩] := by
    simpa using World.ownsRow_lit (base := w.heap.size) (e := 9) (size := 1) w #[.string ⟨#[107, 101, 112, 116]⟩] 1 (Nat.le_refl _) (by unfold maxLen; omega) rfl
  go_wp2_with fail
  refine (l01New_any _ _ _ bs _ hn (hr.ext hx0) hle).mono ?_
  rintro e w1 ⟨g, rfl, hc1⟩
  go_wp2_with fail
  refine (l25Some_any _ _ _ _ _ bs _ hn (hr.ext hx0) hle hc1).mono ?_
  rintro e w2 ⟨B, m, d, xs, rfl, hm, hm1, hm8, hall, hown, hc2, ho2⟩
  have hrow := Row.of_own hown
  have hlit2 := own_only (own_ext hlit hc1.ext) ho2 (fun q hq e => by injection hq with hq; subst hq; have h1 := (hlit.lt _ e).2; have h2 := hc1.le; omega)
  have hfl : (strs xs).length = m * 1 := by unfold strs; rw [List.length_map, hm, Nat.mul_one]
  have hone : ∀ u ∈ strs xs, u.oneCell' = true := fun u hu => by
    unfold strs at hu
    obtain ⟨l, _, rfl⟩ := List.mem_map.1 hu
    rfl
  have hdl : DrawnL (keptW :: xs) := ⟨xs, rfl, by omega, by omega, hall⟩
  have hAn : B = none → m = 0 ∧ d = 0 := (Mine.of_own hown).none
  have hxw := hc2.ext
  have hHD := Lib.hid hdl
  have hHM := Lib.hid hm
  have hlw := hlit.lt
  clear hdl hm hall hown
  go_wp2_with (at_builtin; go_must (refine wpList_append_src rfl _ _ 27 rfl (w.heap.size) 9 i0 (.string ⟨#[]⟩) 1 16 Tryz.underlying27 hi0 hz0 hz1 hz2 rfl (by decide) _ _ _ rfl hlit2 B m d (strs xs) rfl hAn hfl hrow hone (by unfold maxLen; omega) (by omega) (by have := hxw.size; simp at this; omega) ?_); intro v3 w3 hown3 hgrow3; obtain ⟨A3, c3, rfl⟩ := own_form hown3; have hx3 : Ext w w3 := (hx0.trans hxw).grown hgrow3 (fun q hq => by have := (hlw q hq).1; omega))
  go_wp2
  go_ret
  refine ⟨keptW :: xs, hHD.out, ?_⟩
  have e1 : (keptW :: xs).length = 1 + m := by rw [List.length_cons, hHM.out]; omega
  refine StrsMade.mk (A := A3) (c := c3) (n := 1 + m) e1.symm rfl hx3 ?_
  exact hown3
end Go.Proofs.YtfnmbpjkjajpcaaGreatDoor
