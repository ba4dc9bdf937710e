/- Contracts of equality of regions, of the program: slices.Equal at half planes, SameRegion. -/
import Derived.Test.YtjghabbcjpfjeaaGreatDoorHz
import Derived.Laws.StructEq
namespace Go.Proofs.YtjghabbcjpfjeaaGreatDoor
open Go.ChangeShapes Go.WideShapes Go.ChangeAt Go.RowKit
set_option linter.unusedVariables false
set_option maxRecDepth 100000

theorem half_ext {g h : Half} (h1 : g.A = h.A) (h2 : g.B = h.B) (h3 : g.C = h.C) : g = h := by cases g; cases h; simp_all
theorem fields3 {α : Type} {l : List α} (h : l.length = 3) : ∃ a b c, l = [a, b, c] := by
  match l, h with
  | [a, b, c], _ => exact ⟨a, b, c, rfl⟩
theorem neq_half (g h : Half) (w : World) : (binOp .neq 120 (.agg #[.int .i64 g.A, .int .i64 g.B, .int .i64 g.C]) (.agg #[.int .i64 h.A, .int .i64 h.B, .int .i64 h.C])).run Tryz.prog w = .ok (.bool (decide (g ≠ h))) w := by
  have hf : (Tryz.prog.fieldsOf 120).toList.map (fun f => (decide (f.name ≠ "_"), f.type, f.offset)) = [(true, 3, 0), (true, 3, 1), (true, 3, 2)] := by kernel_rfl
  have hu : Tryz.prog.underlying 120 = some (.struct (Tryz.prog.fieldsOf 120)) := by kernel_rfl
  rw [run_neq_struct, run_equalIn_agg _ _ _ _ _ hu (by kernel_rfl)]
  generalize (Tryz.prog.fieldsOf 120).toList = fs at hf
  have hl : fs.length = 3 := by have := congrArg List.length hf; simpa using this
  obtain ⟨f0, f1, f2, rfl⟩ := fields3 hl
  · simp only [List.map_cons, List.map_nil, List.cons.injEq, Prod.mk.injEq, and_true, decide_eq_true_eq] at hf
    obtain ⟨⟨n0, t0, o0⟩, ⟨n1, t1, o1⟩, n2, t2, o2⟩ := hf
    have hI := Tryz.underlying3
    by_cases h0 : g.A = h.A
    · by_cases h1 : g.B = h.B
      · by_cases h2 : g.C = h.C
        · have e := half_ext h0 h1 h2
          simp [Op.eqFields, n0, t0, o0, n1, t1, o1, n2, t2, o2, go_sem, e]
        · have e : g ≠ h := fun e => h2 (by rw [e])
          simp [Op.eqFields, n0, t0, o0, n1, t1, o1, n2, t2, o2, go_sem, h0, h1, h2, e]
      · have e : g ≠ h := fun e => h1 (by rw [e])
        simp [Op.eqFields, n0, t0, o0, n1, t1, o1, n2, t2, o2, go_sem, h0, h1, e]
    · have e : g ≠ h := fun e => h0 (by rw [e])
      simp [Op.eqFields, n0, t0, o0, n1, t1, o1, n2, t2, o2, go_sem, h0, e]

set_option maxHeartbeats 1000000 in
theorem equalHalves_any (A B : Option Addr) (n m c d : Nat) (xs ys : List Half) (w : World) (hn : xs.length = n) (hm : ys.length = m) (hr : Row w A (ints (flat Half.ints xs))) (hs : Row w B (ints (flat Half.ints ys))) (hle : n ≤ maxLen) (hle' : m ≤ maxLen) :
    Calls Tryz.prog 105 #[.slice A n c, .slice B m d] w fun e w' => e = .returned (.bool (decide (xs = ys))) ∧ Ext w w' := by
  unfold maxLen at hle hle'
  by_cases hnm : n = m
  · subst hnm
    go_enter Tryz.func105, Tryz.ntmps105
    go_wp2
    go_loopw [13] (fun i wr => ∃ (k : Nat), k ≤ n ∧ i = .int .i64 k ∧ Ext w wr ∧ xs.take k = ys.take k) (fun i _ => n - (intOf i).toNat)
    case atStart => exact ⟨0, Nat.zero_le _, rfl, Ext.refl _, rfl⟩
    case round =>
      obtain ⟨k, hk, rfl, hx, hp⟩ := hrel
      have Hp := Lib.hid hp
      clear hp
      by_cases hlt : k < n
      · obtain ⟨b, off, rfl, hb, hc0, hc1, hc2⟩ := (hr.ext hx).Half (k := k) (by omega)
        obtain ⟨b', off', rfl, hb', hd0, hd1, hd2⟩ := (hs.ext hx).Half (k := k) (by omega)
        have hlt2 : (k : Int) < (n : Int) := by omega
        have he0 := neq_half (xs[k]'(by omega)) (ys[k]'(by omega))
        by_cases he : xs[k]'(by omega) = ys[k]'(by omega)
        · rw [show decide (xs[k]'(by omega) ≠ ys[k]'(by omega)) = false from by simpa using he] at he0
          have He := Lib.hid he
          clear he
          go_wp2_with fail
          go_quiet (fail)
          go_wp2
          go_roundw
          case rel => exact ⟨k + 1, by omega, by go_num, hx.drewN _, take_eq_succ (by omega) (by omega) Hp.out He.out⟩
          case measure => simp [intOf]; omega
        · rw [show decide (xs[k]'(by omega) ≠ ys[k]'(by omega)) = true from by simpa using he] at he0
          have He := Lib.hid he
          clear he
          go_wp2_with fail
          go_quiet (fail)
          go_wp2
          go_ret
          exact ⟨ret_bool (by rw [decide_eq_false (ne_of_get (by omega) (by omega) He.out)]), hx.drewN _⟩
      · go_wp2
        go_ret
        refine ⟨ret_bool ?_, hx⟩
        have h := Hp.out
        rw [List.take_of_length_le (by omega), List.take_of_length_le (by omega)] at h
        rw [decide_eq_true h]
  · have h' : ((n : Int) != (m : Int)) = true := by simp; omega
    go_enter Tryz.func105, Tryz.ntmps105
    go_wp2
    go_ret
    exact ⟨ret_bool (by rw [decide_eq_false]; rintro rfl; omega), Ext.refl _⟩

theorem implSameRegion_any (A B : Option Addr) (n m c d : Nat) (xs ys : List Half) (w : World) (hn : xs.length = n) (hm : ys.length = m) (hr : Row w A (ints (flat Half.ints xs))) (hs : Row w B (ints (flat Half.ints ys))) (hle : n ≤ maxLen) (hle' : m ≤ maxLen) :
    Calls Tryz.prog 79 #[.agg #[.slice A n c], .agg #[.slice B m d]] w fun e w' => e = .returned (.bool (decide (xs = ys))) ∧ Ext w w' := by
  have hx : Ext w ((w.alloc (.cells #[.slice A n c] 26)).alloc (.cells #[.slice B m d] 26)) := ((Ext.refl w).alloc _).alloc _
  have HQ := Lib.hid (equalHalves_any A B n m c d xs ys _ hn hm (hr.ext hx) (hs.ext hx) hle hle')
  go_enter Tryz.func79, Tryz.ntmps79
  go_wp2_with fail
  refine HQ.out.mono ?_
  rintro e w1 ⟨rfl, hx1⟩
  go_wp2
  go_ret
  exact ⟨rfl, hx.trans hx1⟩
end Go.Proofs.YtjghabbcjpfjeaaGreatDoor
