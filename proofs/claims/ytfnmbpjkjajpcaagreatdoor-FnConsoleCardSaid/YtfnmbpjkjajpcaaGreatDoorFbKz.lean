/- The console in plain words: what a line does to it, and what it answers. -/
import Derived.Test.YtfnmbpjkjajpcaaGreatDoorFbCz
import Derived.Test.YtfnmbpjkjajpcaaGreatDoorFbNz
import Derived.Test.YtfnmbpjkjajpcaaGreatDoorFbAz
import Derived.Test.YtfnmbpjkjajpcaaGreatDoorFbWl
import Derived.Test.YtfnmbpjkjajpcaaGreatDoorFbOz
import Derived.Test.YtfnmbpjkjajpcaaGreatDoorFbUz
import Derived.Test.YtfnmbpjkjajpcaaGreatDoorFbWi
namespace Go.Proofs.YtfnmbpjkjajpcaaGreatDoor
open Go.ChangeShapes Go.WideShapes Go.ChangeAt Go.RowKit
set_option linter.unusedVariables false
set_option maxRecDepth 100000
def isKeptR (r : Room) (p : List Half) : Bool := roomOk r && regOk p && withinR p r.Limits && (preR r p).2 && withinR p (preR r p).1
def watchOkR (w : Watch) : Bool := decide (w.Log.length ≤ 40) && w.Log.all (fun v => inR v 1 3) && !decide (w.Region = []) && isKeptR w.Room w.Region
def admW (r : Room) (p : List Half) (s : Spot) : Span × Bool := if spotOk s = true then admAtR r p s else (zeroSpan, false)
def judgeW (w : Watch) (s : Spot) (u : Ratio) : Ratio × Int :=
  if watchOkR w = true ∧ (admW w.Room w.Region s).2 = true then
    if inSpan (admW w.Room w.Region s).1 u = true then (u, 1)
    else if ratioOk u = false ∨ ratioCmp u (admW w.Room w.Region s).1.Low < 0 then ((admW w.Room w.Region s).1.Low, 2) else ((admW w.Room w.Region s).1.High, 2)
  else (⟨0, 0⟩, 3)
def stepW (w : Watch) (s : Spot) (u : Ratio) : Watch × Ratio := (if w.Log.length < 40 then ⟨w.Room, w.Region, w.Log ++ [(judgeW w s u).2]⟩ else w, (judgeW w s u).1)
def noWatch : Watch := ⟨noRoom, [], []⟩
def freshW (r : Room) (p : List Half) : Watch × Bool := if p ≠ [] ∧ isKeptR r p = true then (⟨r, p, []⟩, true) else (noWatch, false)
def lossAt (p : List Half) (h : Half) : Ratio := ratioOf ((suppR p h.A h.B).N - h.C * (suppR p h.A h.B).D) ((suppR p h.A h.B).D * (max h.A (-h.A) + max h.B (-h.B)))
def lossTo (p n : List Half) : Nat → Ratio
  | 0 => ⟨0, 0⟩
  | k + 1 => if k = 0 ∨ 0 < ratioCmp (lossAt p (halfAt n k)) (lossTo p n k) then lossAt p (halfAt n k) else lossTo p n k
def lossR (r : Room) (k : Nat) : Ratio × Bool :=
  if (runR r k).ok = true ∧ (keepR r (runR r k).reg).2 = true ∧ (runR r k).reg ≠ [] ∧ (keepR r (runR r k).reg).1 ≠ [] then
    (lossTo (runR r k).reg (keepR r (runR r k).reg).1 (keepR r (runR r k).reg).1.length, ratioOk (lossTo (runR r k).reg (keepR r (runR r k).reg).1 (keepR r (runR r k).reg).1.length))
  else (⟨0, 0⟩, false)
def noneT : List UInt8 := [110, 111, 110, 101]
def okT : List UInt8 := [111, 107]
def unkT : List UInt8 := [117, 110, 107, 110, 111, 119, 110, 32, 99, 111, 109, 109, 97, 110, 100]
def lostT : List UInt8 := [108, 111, 115, 116]
def wMap : List UInt8 := [109, 97, 112]
def wDrive : List UInt8 := [100, 114, 105, 118, 101]
def wRange : List UInt8 := [114, 97, 110, 103, 101]
def wNoise : List UInt8 := [110, 111, 105, 115, 101]
def wLimits : List UInt8 := [108, 105, 109, 105, 116, 115]
def wCut : List UInt8 := [99, 117, 116]
def wAt : List UInt8 := [97, 116]
def wKept : List UInt8 := [107, 101, 112, 116]
def wSpan : List UInt8 := [115, 112, 97, 110]
def wRounds : List UInt8 := [114, 111, 117, 110, 100, 115]
def wLoss : List UInt8 := [108, 111, 115, 115]
def wWatch : List UInt8 := [119, 97, 116, 99, 104]
def wJudge : List UInt8 := [106, 117, 100, 103, 101]
def wLog : List UInt8 := [108, 111, 103]
def wAsk : List UInt8 := [97, 115, 107]
def wAllot : List UInt8 := [97, 108, 108, 111, 116]
def orN (t : List UInt8) : List UInt8 := if t = [] then noneT else t
def at0 (n : List Int) (i : Nat) : Int := n.getD i 0
def setR (c : Console) (r : Room) (ok : Bool) : Console × List UInt8 := if ok = true ∧ roomOk r = true then (⟨r, c.State, noWatch, c.Asks⟩, okT) else (c, noneT)
def changeR (c : Console) (w : List UInt8) (n : List Int) : Option (Console × List UInt8) :=
  if w = wMap ∧ n.length = 5 then some (setR c ⟨n.take 4, at0 n 4, c.Room.Bx, c.Room.By, c.Room.Low, c.Room.High, c.Room.Noise, c.Room.Limits⟩ true)
  else if w = wDrive ∧ n.length = 2 then some (setR c ⟨c.Room.Map, c.Room.Div, at0 n 0, at0 n 1, c.Room.Low, c.Room.High, c.Room.Noise, c.Room.Limits⟩ true)
  else if w = wRange ∧ n.length = 2 then some (setR c ⟨c.Room.Map, c.Room.Div, c.Room.Bx, c.Room.By, at0 n 0, at0 n 1, c.Room.Noise, c.Room.Limits⟩ true)
  else if w = wNoise ∧ n.length = 4 then some (setR c ⟨c.Room.Map, c.Room.Div, c.Room.Bx, c.Room.By, c.Room.Low, c.Room.High, (boxR (at0 n 0) (at0 n 1) (at0 n 2) (at0 n 3)).1, c.Room.Limits⟩ (boxR (at0 n 0) (at0 n 1) (at0 n 2) (at0 n 3)).2)
  else if w = wLimits ∧ n.length = 4 then some (setR c ⟨c.Room.Map, c.Room.Div, c.Room.Bx, c.Room.By, c.Room.Low, c.Room.High, c.Room.Noise, (boxR (at0 n 0) (at0 n 1) (at0 n 2) (at0 n 3)).1⟩ (boxR (at0 n 0) (at0 n 1) (at0 n 2) (at0 n 3)).2)
  else if w = wCut ∧ n.length = 3 then some (setR c ⟨c.Room.Map, c.Room.Div, c.Room.Bx, c.Room.By, c.Room.Low, c.Room.High, c.Room.Noise, (cutR c.Room.Limits (halfOfZ (at0 n 0) (at0 n 1) (at0 n 2)).1).1⟩ ((cutR c.Room.Limits (halfOfZ (at0 n 0) (at0 n 1) (at0 n 2)).1).2 && (halfOfZ (at0 n 0) (at0 n 1) (at0 n 2)).2))
  else none
def watchC (c : Console) : Console × List UInt8 := if (keptReg c.Room).2 = true ∧ (freshW c.Room (keptReg c.Room).1).2 = true then (⟨c.Room, c.State, (freshW c.Room (keptReg c.Room).1).1, c.Asks⟩, okT) else (c, noneT)
def judgeC (c : Console) (a b : Int) : Console × List UInt8 := (⟨c.Room, c.State, (stepW c.Watch c.State (ratioOf a b)).1, c.Asks⟩, if ratioOk (stepW c.Watch c.State (ratioOf a b)).2 = true then ratioT (stepW c.Watch c.State (ratioOf a b)).2 else lostT)
def askC (c : Console) (a : Ask) : Console × List UInt8 := if asksOk (c.Asks ++ [a]) = true then (⟨c.Room, c.State, c.Watch, c.Asks ++ [a]⟩, okT) else (c, noneT)
def stateC (c : Console) (s : Spot × Bool) : Console × List UInt8 := if s.2 = true then (⟨c.Room, s.1, c.Watch, c.Asks⟩, okT) else (c, noneT)
def spanC (c : Console) : List UInt8 := if (keptReg c.Room).2 = true then orN (spanLineT c.Room (keptReg c.Room).1 c.State) else noneT
def roundsC (r : Room) (k : Int) : List UInt8 := if inR k 0 12 = true ∧ (runR r k.toNat).ok = true then orN (cornerT (runR r k.toNat).reg) else noneT
def lossC (r : Room) (k : Int) : List UInt8 := if inR k 0 12 = true then orN (ratioT (lossR r k.toNat).1) else noneT
def logT (l : List Int) : List UInt8 := (watchB l).data.toList
def answerR (c : Console) (w : List UInt8) (n : List Int) : Console × List UInt8 :=
  if w = wAt ∧ n.length = 3 then stateC c (spotOf (at0 n 0) (at0 n 1) (at0 n 2))
  else if w = wKept ∧ n.length = 0 then (c, orN (Lib.join (keptT c.Room) [59]))
  else if w = wSpan ∧ n.length = 0 then (c, spanC c)
  else if w = wRounds ∧ n.length = 1 then (c, roundsC c.Room (at0 n 0))
  else if w = wLoss ∧ n.length = 1 then (c, lossC c.Room (at0 n 0))
  else if w = wWatch ∧ n.length = 0 then watchC c
  else if w = wJudge ∧ n.length = 2 then judgeC c (at0 n 0) (at0 n 1)
  else if w = wLog ∧ n.length = 0 then (c, logT c.Watch.Log)
  else if w = wAsk ∧ n.length = 4 then askC c ⟨at0 n 0, at0 n 2, at0 n 1, at0 n 3⟩
  else if w = wAllot ∧ n.length = 1 then (c, orN (allotT c.Asks (at0 n 0)))
  else (c, unkT)
def cmdR (c : Console) (w : List UInt8) (n : List Int) : Console × List UInt8 := (changeR c w n).getD (answerR c w n)
def lineR (c : Console) (L : List UInt8) : Console × List UInt8 :=
  if L = [] ∨ L.head? = some 35 then (c, [])
  else if ((splitC 32 L).drop 1).all pB = true then cmdR c ((splitC 32 L).headD []) (((splitC 32 L).drop 1).map pV)
  else (c, unkT)
def linesR (c : Console) : List (List UInt8) → Console × List UInt8
  | [] => (c, [])
  | l :: t => ((linesR (lineR c l).1 t).1, (if (lineR c l).2 = [] then [] else (lineR c l).2 ++ [10]) ++ (linesR (lineR c l).1 t).2)
def linesOf (L : List UInt8) : List (List UInt8) := if (splitC 10 L).getLast? = some [] then (splitC 10 L).dropLast else splitC 10 L
def sessR (L : List UInt8) : List UInt8 × Int := if 40 < (linesOf L).length then ([], -1) else ((linesR newConsole (linesOf L)).2, ((linesOf L).length : Int))
end Go.Proofs.YtfnmbpjkjajpcaaGreatDoor
namespace Go.Proofs.YtfnmbpjkjajpcaaGreatDoor
open Go.ChangeShapes Go.WideShapes Go.ChangeAt Go.RowKit
set_option linter.unusedVariables false
def Big (n : Nat) : Prop := n ≤ 1048576
structure ConOk (c : Console) : Prop where
  room : roomFI c.Room
  roomL : Big c.Room.Map.length ∧ Big c.Room.Noise.length ∧ Big c.Room.Limits.length
  state : I64 c.State.X ∧ I64 c.State.Y ∧ I64 c.State.D
  watch : watchFI c.Watch
  watchL : Big c.Watch.Room.Map.length ∧ Big c.Watch.Room.Noise.length ∧ Big c.Watch.Room.Limits.length ∧ Big c.Watch.Region.length ∧ Big c.Watch.Log.length
  asks : ∀ x ∈ c.Asks, ∀ z ∈ Ask.ints x, I64 z
  asksL : Big c.Asks.length
theorem ConOk.of {c : Console} (h : consoleFI c) (hl : ∀ n ∈ lenF (consoleF c), n ≤ 1048576) : ConOk c := by
  rw [consoleF_len] at hl
  obtain ⟨a0, a1, a2, a3, a4, a5, a6, a7, s0, s1, s2, w0, w1, w2, w3, w4, w5, w6, w7, w8, w9, k⟩ := h
  exact ⟨⟨a0, a1, a2, a3, a4, a5, a6, a7⟩, ⟨hl _ (by simp), hl _ (by simp), hl _ (by simp)⟩, ⟨s0, s1, s2⟩, ⟨w0, w1, w2, w3, w4, w5, w6, w7, w8, w9⟩, ⟨hl _ (by simp), hl _ (by simp), hl _ (by simp), hl _ (by simp), hl _ (by simp)⟩, k, hl _ (by simp)⟩
theorem room_big {r : Room} (h : roomOk r = true) : roomFI r ∧ Big r.Map.length ∧ Big r.Noise.length ∧ Big r.Limits.length := by
  have hv := room_valid h
  obtain ⟨a, b, c, d, hm, _⟩ := hv.map
  have l1 := regOk_len hv.noise
  have l2 := regOk_len hv.limits
  refine ⟨hv.fi.1, ?_, ?_, ?_⟩ <;> unfold Big
  · rw [hm]; simp
  · omega
  · omega
theorem noWatch_fi : watchFI noWatch := by
  unfold watchFI noWatch noRoom
  simp [I64]
theorem noWatch_big : Big noWatch.Room.Map.length ∧ Big noWatch.Room.Noise.length ∧ Big noWatch.Room.Limits.length ∧ Big noWatch.Region.length ∧ Big noWatch.Log.length := by
  unfold noWatch noRoom Big; simp
theorem setR_ok {c : Console} (h : ConOk c) (r : Room) (ok : Bool) : ConOk (setR c r ok).1 := by
  unfold setR
  split
  · rename_i q
    have hb := room_big q.2
    exact ⟨hb.1, hb.2, h.state, noWatch_fi, noWatch_big, h.asks, h.asksL⟩
  · exact h
theorem changeR_ok {c : Console} (h : ConOk c) (w : List UInt8) (n : List Int) {x : Console × List UInt8} (hx : changeR c w n = some x) : ConOk x.1 := by
  unfold changeR at hx
  repeat (split at hx; (injection hx with hx; subst hx; exact setR_ok h _ _))
  cases hx
theorem keptReg_ok (r : Room) : regOk (keptReg r).1 = true := by
  unfold keptReg
  split
  · exact runR_ok r 12
  · rfl
theorem stateC_ok {c : Console} (h : ConOk c) (x y d : Int) (hx : I64 x) (hy : I64 y) (hd : I64 d) : ConOk (stateC c (spotOf x y d)).1 := by
  unfold stateC
  split
  · exact ⟨h.room, h.roomL, spotOf_I64 hx hy hd, h.watch, h.watchL, h.asks, h.asksL⟩
  · exact h
theorem watchC_ok {c : Console} (h : ConOk c) : ConOk (watchC c).1 := by
  unfold watchC
  split
  · rename_i q
    have hk := keptReg_ok c.Room
    have hl := regOk_len hk
    have hi := halves_I (regOk_all hk)
    have q2 := q.2
    unfold freshW at q2 ⊢
    split at q2
    · rename_i q3
      rw [if_pos q3]
      obtain ⟨a0, a1, a2, a3, a4, a5, a6, a7⟩ := h.room
      exact ⟨h.room, h.roomL, h.state, ⟨a0, a1, a2, a3, a4, a5, a6, a7, hi, fun z hz => by cases hz⟩, ⟨h.roomL.1, h.roomL.2.1, h.roomL.2.2, (show Big (keptReg c.Room).1.length by unfold Big; omega), (show Big ([] : List Int).length by unfold Big; simp)⟩, h.asks, h.asksL⟩
    · cases q2
  · exact h
theorem judge_bd (w : Watch) (s : Spot) (u : Ratio) : 1 ≤ (judgeW w s u).2 ∧ (judgeW w s u).2 ≤ 3 := by
  unfold judgeW
  repeat (first | split | (constructor <;> (simp; done)))
theorem judgeC_ok {c : Console} (h : ConOk c) (a b : Int) : ConOk (judgeC c a b).1 := by
  unfold judgeC
  refine ⟨h.room, h.roomL, h.state, ?_, ?_, h.asks, h.asksL⟩
  · show watchFI (stepW c.Watch c.State (ratioOf a b)).1
    unfold stepW
    simp only
    split
    · obtain ⟨a0, a1, a2, a3, a4, a5, a6, a7, a8, a9⟩ := h.watch
      refine ⟨a0, a1, a2, a3, a4, a5, a6, a7, a8, fun z hz => ?_⟩
      rcases List.mem_append.1 hz with hz | hz
      · exact a9 z hz
      · rw [List.mem_singleton] at hz
        subst hz
        have := judge_bd c.Watch c.State (ratioOf a b)
        unfold I64; omega
    · exact h.watch
  · show Big (stepW c.Watch c.State (ratioOf a b)).1.Room.Map.length ∧ _
    unfold stepW
    simp only
    split
    · rename_i q
      refine ⟨h.watchL.1, h.watchL.2.1, h.watchL.2.2.1, h.watchL.2.2.2.1, ?_⟩
      unfold Big
      simp only [List.length_append, List.length_singleton]
      omega
    · exact h.watchL
theorem askC_ok {c : Console} (h : ConOk c) (a : Ask) (ha : ∀ z ∈ Ask.ints a, I64 z) : ConOk (askC c a).1 := by
  unfold askC
  split
  · rename_i q
    have hl := asksOk_len q
    refine ⟨h.room, h.roomL, h.state, h.watch, h.watchL, fun x hx => ?_, ?_⟩
    · rcases List.mem_append.1 hx with hx | hx
      · exact h.asks x hx
      · rw [List.mem_singleton] at hx
        subst hx
        exact ha
    · show Big (c.Asks ++ [a]).length
      unfold Big; omega
  · exact h
theorem at0_I64 {n : List Int} (h : ∀ z ∈ n, I64 z) (i : Nat) : I64 (at0 n i) := by
  unfold at0
  rw [List.getD_eq_getElem?_getD]
  by_cases hi : i < n.length
  · rw [List.getElem?_eq_getElem hi]
    exact h _ (List.getElem_mem hi)
  · rw [List.getElem?_eq_none (by omega)]
    unfold I64; simp
theorem answerR_ok {c : Console} (h : ConOk c) (w : List UInt8) (n : List Int) (hn : ∀ z ∈ n, I64 z) : ConOk (answerR c w n).1 := by
  unfold answerR
  split
  · exact stateC_ok h _ _ _ (at0_I64 hn 0) (at0_I64 hn 1) (at0_I64 hn 2)
  split
  · exact h
  split
  · exact h
  split
  · exact h
  split
  · exact h
  split
  · exact watchC_ok h
  split
  · exact judgeC_ok h _ _
  split
  · exact h
  split
  · refine askC_ok h _ fun z hz => ?_
    simp only [Ask.ints, List.mem_cons, List.not_mem_nil, or_false] at hz
    rcases hz with rfl | rfl | rfl | rfl <;> exact at0_I64 hn _
  split
  · exact h
  · exact h
theorem cmdR_ok {c : Console} (h : ConOk c) (w : List UInt8) (n : List Int) (hn : ∀ z ∈ n, I64 z) : ConOk (cmdR c w n).1 := by
  unfold cmdR
  cases hx : changeR c w n with
  | none => exact answerR_ok h w n hn
  | some x => exact changeR_ok h w n hx
theorem lineR_ok {c : Console} (h : ConOk c) (L : List UInt8) : ConOk (lineR c L).1 := by
  unfold lineR
  split
  · exact h
  split
  · refine cmdR_ok h _ _ fun z hz => ?_
    obtain ⟨l, _, rfl⟩ := List.mem_map.1 hz
    exact pV_bd l
  · exact h
theorem newConsole_ok : ConOk newConsole := by
  have h1 : regOk (boxR (-1) (-1) 1 1).1 = true := boxR_ok _ _ _ _
  have h2 : regOk (boxR (-10) (-10) 10 10).1 = true := boxR_ok _ _ _ _
  have l1 := regOk_len h1
  have l2 := regOk_len h2
  refine ⟨⟨?_, ?_, ?_, ?_, ?_, ?_, halves_I (regOk_all h1), halves_I (regOk_all h2)⟩, ⟨?_, ?_, ?_⟩, ?_, noWatch_fi, noWatch_big, (fun x hx => by cases hx), ?_⟩
  all_goals (first | (unfold Big newConsole newRoom; simp only; omega) | (unfold newConsole newRoom I64; simp; done) | (unfold Big newConsole; simp; done) | (unfold Big newConsole newRoom; simp; done) | (intro z hz; simp [newConsole, newRoom] at hz; unfold I64; omega))
end Go.Proofs.YtfnmbpjkjajpcaaGreatDoor
namespace Go.Proofs.YtfnmbpjkjajpcaaGreatDoor
open Go.ChangeShapes Go.WideShapes Go.ChangeAt Go.RowKit
set_option linter.unusedVariables false
set_option maxRecDepth 100000
theorem okT_len : okT.length ≤ 90000 := by decide
theorem noneT_len : noneT.length ≤ 90000 := by decide
theorem orN_len {t : List UInt8} (h : t.length ≤ 90000) : (orN t).length ≤ 90000 := by
  unfold orN
  split
  · show noneT.length ≤ 90000
    decide
  · exact h
theorem cornerT_len (hs : List Half) : (cornerT hs).length ≤ 20000 := by
  unfold cornerT
  split
  · decide
  · split
    · rename_i h
      have h1 := join_len_le (spotTs (cornersL hs)) [32] 259 (fun t ht => by
        unfold spotTs at ht
        obtain ⟨s, _, rfl⟩ := List.mem_map.1 ht
        exact spotT_len s)
      have h2 := regOk_len h
      have h3 : (spotTs (cornersL hs)).length = hs.length := by unfold spotTs; rw [List.length_map, cornersL_len]
      rw [h3] at h1
      have h4 : hs.length * (259 + [(32 : UInt8)].length) ≤ 40 * 260 := Nat.mul_le_mul h2 (by simp)
      omega
    · simp
theorem roundsT_len {n : Nat} (h : n ≤ 1000) : (roundsT n).length ≤ 71 := by
  unfold roundsT
  have := numT_len (n := (n : Int)) (by omega) (by omega)
  simp only [List.length_append, List.length_cons, List.length_nil]
  omega
theorem wordT_len (b : Bool) : (wordT b).length ≤ 7 := by cases b <;> decide
theorem keptJ_len (r : Room) : (Lib.join (keptT r) [59]).length ≤ 80000 := by
  have h1 := join_len_le (keptT r) [59] 20000 (fun t ht => by
    unfold keptT at ht
    split at ht
    · simp only [List.mem_cons, List.not_mem_nil, or_false] at ht
      rcases ht with rfl | rfl | rfl
      · have := roundsT_len (n := (runR r 12).n) (by have := runR_n r 12; omega)
        omega
      · have := wordT_len (runR r 12).stop; omega
      · exact cornerT_len _
    · cases ht)
  have h2 : (keptT r).length ≤ 3 := by
    unfold keptT
    split <;> simp
  have h3 : (keptT r).length * (20000 + [(59 : UInt8)].length) ≤ 3 * 20001 := Nat.mul_le_mul h2 (by simp)
  omega
theorem spanT_len2 (w : Span) : (spanT w).length ≤ 260 := by
  unfold spanT
  split
  · have h1 := ratioT_len w.Low
    have h2 := ratioT_len w.High
    simp only [List.length_append, List.length_cons, List.length_nil]
    omega
  · simp
theorem spanLineT_len (r : Room) (ps : List Half) (s : Spot) : (spanLineT r ps s).length ≤ 600 := by
  unfold spanLineT
  have h1 := spotT_len s
  split
  · split
    · have h2 := spanT_len2 (admAtR r ps s).1
      simp only [List.length_append, List.length_cons, List.length_nil]
      omega
    · simp only [List.length_append, List.length_cons, List.length_nil]
      omega
  · simp
theorem cntV_bd {l : List Int} (h : l.length ≤ 1048576) (v : Int) : (numT (cntV l v)).length ≤ 64 := by
  have := cntTo_le l v l.length
  unfold cntV
  exact numT_len (by omega) (by omega)
theorem logT_len {l : List Int} (h : l.length ≤ 1048576) : (logT l).length ≤ 300 := by
  have h1 := cntV_bd h 1
  have h2 := cntV_bd h 2
  have h3 := cntV_bd h 3
  have e : (logT l).length = (watchB l).size := Array.length_toList ..
  rw [e]
  unfold watchB
  simp only [ByteArray.size_append, txt_size, List.length_cons, List.length_nil]
  omega
theorem allotT_len (xs : List Ask) (t : Int) : (allotT xs t).length ≤ 500 := by
  unfold allotT
  split
  · split
    · have h1 := joinT_len (xs := allotOf xs t) (fun i hi => allotOf_I64 i hi)
      have h2 := allotOf_len6 xs t
      omega
    · decide
  · simp
theorem roundsC_len (r : Room) (k : Int) : (roundsC r k).length ≤ 90000 := by
  unfold roundsC
  split
  · exact orN_len (Nat.le_trans (cornerT_len _) (by omega))
  · decide
theorem lossC_len (r : Room) (k : Int) : (lossC r k).length ≤ 90000 := by
  unfold lossC
  split
  · exact orN_len (Nat.le_trans (ratioT_len _) (by omega))
  · decide
theorem setR_len (c : Console) (r : Room) (ok : Bool) : (setR c r ok).2.length ≤ 90000 := by
  unfold setR
  split <;> first | exact okT_len | exact noneT_len
theorem changeR_len {c : Console} {w : List UInt8} {n : List Int} {x : Console × List UInt8} (hx : changeR c w n = some x) : x.2.length ≤ 90000 := by
  unfold changeR at hx
  repeat (split at hx; (injection hx with hx; subst hx; exact setR_len _ _ _))
  cases hx
theorem answerR_len {c : Console} (h : ConOk c) (w : List UInt8) (n : List Int) : (answerR c w n).2.length ≤ 90000 := by
  unfold answerR
  split
  · unfold stateC; split <;> first | exact okT_len | exact noneT_len
  split
  · exact orN_len (Nat.le_trans (keptJ_len _) (by omega))
  split
  · show (spanC c).length ≤ 90000
    unfold spanC
    split
    · exact orN_len (Nat.le_trans (spanLineT_len _ _ _) (by omega))
    · decide
  split
  · exact roundsC_len _ _
  split
  · exact lossC_len _ _
  split
  · unfold watchC; split <;> first | exact okT_len | exact noneT_len
  split
  · unfold judgeC
    simp only
    split
    · exact Nat.le_trans (ratioT_len _) (by omega)
    · decide
  split
  · exact Nat.le_trans (logT_len h.watchL.2.2.2.2) (by omega)
  split
  · unfold askC; split <;> first | exact okT_len | exact noneT_len
  split
  · exact orN_len (Nat.le_trans (allotT_len _ _) (by omega))
  · show unkT.length ≤ 90000
    decide
theorem lineR_len {c : Console} (h : ConOk c) (L : List UInt8) : (lineR c L).2.length ≤ 90000 := by
  unfold lineR
  split
  · show ([] : List UInt8).length ≤ 90000
    decide
  split
  · unfold cmdR
    cases hx : changeR c ((splitC 32 L).headD []) (((splitC 32 L).drop 1).map pV) with
    | none => exact answerR_len h _ _
    | some x => exact changeR_len hx
  · show unkT.length ≤ 90000
    decide
theorem linesR_snoc (c : Console) (x : List UInt8) : ∀ l : List (List UInt8), linesR c (l ++ [x]) = ((lineR (linesR c l).1 x).1, (linesR c l).2 ++ (if (lineR (linesR c l).1 x).2 = [] then [] else (lineR (linesR c l).1 x).2 ++ [10])) := by
  intro l
  induction l generalizing c with
  | nil => by_cases hq : (lineR c x).2 = [] <;> simp [linesR, hq]
  | cons y l ih =>
    rw [List.cons_append, linesR, ih, linesR]
    simp
theorem linesR_ok {c : Console} (h : ConOk c) : ∀ l : List (List UInt8), ConOk (linesR c l).1 := by
  intro l
  induction l generalizing c with
  | nil => exact h
  | cons y l ih => exact ih (lineR_ok h y)
theorem linesR_len {c : Console} (h : ConOk c) : ∀ l : List (List UInt8), (linesR c l).2.length ≤ l.length * 90001 := by
  intro l
  induction l generalizing c with
  | nil => simp [linesR]
  | cons y l ih =>
    have h1 := ih (lineR_ok h y)
    have h2 := lineR_len h y
    rw [linesR]
    simp only [List.length_append, List.length_cons]
    split
    · simp only [List.length_nil]; omega
    · simp only [List.length_append, List.length_cons, List.length_nil]; omega
end Go.Proofs.YtfnmbpjkjajpcaaGreatDoor
namespace Go.Proofs.YtfnmbpjkjajpcaaGreatDoor
open Go.ChangeShapes Go.WideShapes Go.ChangeAt Go.RowKit
set_option linter.unusedVariables false
theorem space_cut : ∀ {w v x y : List UInt8}, (32 : UInt8) ∉ w → (32 : UInt8) ∉ v → (w ++ 32 :: x = v ++ 32 :: y ↔ w = v ∧ x = y)
  | [], [], x, y, _, _ => by simp
  | [], c :: v, x, y, _, hv => by
    constructor
    · intro h
      simp only [List.nil_append, List.cons_append, List.cons.injEq] at h
      exact absurd (by rw [h.1]; exact List.mem_cons_self ..) hv
    · intro h; cases h.1
  | c :: w, [], x, y, hw, _ => by
    constructor
    · intro h
      simp only [List.nil_append, List.cons_append, List.cons.injEq] at h
      exact absurd (by rw [← h.1]; exact List.mem_cons_self ..) hw
    · intro h; cases h.1
  | c :: w, d :: v, x, y, hw, hv => by
    have ih := space_cut (w := w) (v := v) (x := x) (y := y) (fun h => hw (List.mem_cons_of_mem _ h)) (fun h => hv (List.mem_cons_of_mem _ h))
    simp only [List.cons_append, List.cons.injEq, ih, and_assoc]
theorem numT_inj {a b : Int} (ha : I64 a) (hb : I64 b) (h : numT a = numT b) : a = b := by
  have h1 := pI_num a ha.1 ha.2
  have h2 := pI_num b hb.1 hb.2
  rw [h, h2] at h1
  injection h1 with h1
  exact h1.symm
def formT (w : List UInt8) (m : Nat) : List UInt8 := w ++ 32 :: numT (m : Int)
theorem form_iff {w v : List UInt8} {m d : Nat} (hw : (32 : UInt8) ∉ w) (hv : (32 : UInt8) ∉ v) (hm : m ≤ 2000000) (hd : d ≤ 2000000) : formT w m = formT v d ↔ w = v ∧ m = d := by
  unfold formT
  rw [space_cut hw hv]
  constructor
  · rintro ⟨h1, h2⟩
    have := numT_inj (by unfold I64; omega) (by unfold I64; omega) h2
    exact ⟨h1, by omega⟩
  · rintro ⟨rfl, rfl⟩
    exact ⟨rfl, rfl⟩
theorem words_free {q : UInt8} : ∀ (n : Nat) (l : List UInt8), l.length ≤ n → ∀ x ∈ splitC q l, q ∉ x := by
  intro n
  induction n with
  | zero =>
    intro l hl x hx hq
    have e : l = [] := List.length_eq_zero_iff.1 (by omega)
    subst e
    rw [splitC_last (by simp)] at hx
    rw [List.mem_singleton] at hx
    subst hx
    cases hq
  | succ n ih =>
    intro l hl x hx hq
    by_cases h : q ∈ l
    · obtain ⟨a, b, rfl, ha⟩ := List.eq_append_cons_of_mem h
      rw [splitC_cons ha] at hx
      rcases List.mem_cons.1 hx with rfl | hx
      · exact ha hq
      · refine ih b ?_ x hx hq
        simp only [List.length_append, List.length_cons] at hl
        omega
    · rw [splitC_last h] at hx
      rw [List.mem_singleton] at hx
      subst hx
      exact h hq
end Go.Proofs.YtfnmbpjkjajpcaaGreatDoor
namespace Go.Proofs.YtfnmbpjkjajpcaaGreatDoor
open Go.ChangeShapes Go.WideShapes Go.ChangeAt Go.RowKit
set_option linter.unusedVariables false
set_option maxRecDepth 100000
def spotL (s : Spot) : List Value := [.int .i64 s.X, .int .i64 s.Y, .int .i64 s.D]
def spotFd (s : Spot) : List Fd := [.i s.X, .i s.Y, .i s.D]
def conL (R : List Value) (s : Spot) (W : List Value) (a : Value) : List Value := R ++ (spotL s ++ (W ++ [a]))
theorem consoleF_parts (c : Console) : consoleF c = roomF c.Room ++ (spotFd c.State ++ (watchF c.Watch ++ [askF c.Asks])) := rfl
structure Con (w : World) (B : Nat) (c : Console) (lo : Nat) (R W : List Value) (a : Value) (rs ps qs : List (Nat × Nat)) : Prop where
  blk : Blk w B 43 (conL R c.State W a).toArray
  room : AggSep w (roomF c.Room) R rs
  watch : AggSep w (watchF c.Watch) W ps
  asks : AggSep w [askF c.Asks] [a] qs
  ap : Apart (rs ++ (ps ++ qs))
  bd : ∀ p ∈ rs ++ (ps ++ qs), lo ≤ p.1 ∧ p.2 ≤ w.heap.size ∧ (B < p.1 ∨ p.2 ≤ B)
  low : lo ≤ B
def ConAt (w : World) (B : Nat) (c : Console) (lo : Nat) : Prop := ∃ R W a rs ps qs, Con w B c lo R W a rs ps qs
section
variable {w w' : World} {B lo : Nat} {c : Console} {R W R' W' : List Value} {a a' : Value} {rs ps qs rs' : List (Nat × Nat)} {s : Spot}
theorem spotSep (w : World) (s : Spot) : AggSep w (spotFd s) (spotL s) [] := ⟨_, rfl, _, rfl, _, rfl, rfl, rfl⟩
theorem spotSep_inv {vs : List Value} (h : AggSep w (spotFd s) vs rs) : vs = spotL s ∧ rs = [] := by
  obtain ⟨_, rfl, _, rfl, _, rfl, rfl, rfl⟩ := h
  exact ⟨rfl, rfl⟩
theorem askSep_inv {vs : List Value} {xs : List Ask} (h : AggSep w [askF xs] vs rs) : ∃ A k, vs = [.slice A xs.length k] := by
  obtain ⟨A, k, r, x, y, rr, rfl, rfl, hm, h1, rfl, rfl⟩ := h
  exact ⟨A, k, rfl⟩
theorem Con.of {us : List Value} (h : AggSep w (consoleF c) us rs) (ap : Apart rs) (bd : ∀ p ∈ rs, lo ≤ p.1 ∧ p.2 ≤ w.heap.size ∧ (B < p.1 ∨ p.2 ≤ B)) (b : Blk w B 43 us.toArray) (low : lo ≤ B) : ConAt w B c lo := by
  rw [consoleF_parts] at h
  obtain ⟨R, v2, rs, r2, rfl, rfl, hr, h1⟩ := AggSep.split (fs := roomF c.Room) (gs := spotFd c.State ++ (watchF c.Watch ++ [askF c.Asks])) h
  obtain ⟨v3, v4, r3, r4, rfl, rfl, hs, h2⟩ := AggSep.split (fs := spotFd c.State) (gs := watchF c.Watch ++ [askF c.Asks]) h1
  obtain ⟨rfl, rfl⟩ := spotSep_inv hs
  obtain ⟨W, v5, ps, qs, rfl, rfl, hw, h3⟩ := AggSep.split (fs := watchF c.Watch) (gs := [askF c.Asks]) h2
  obtain ⟨A, k, rfl⟩ := askSep_inv h3
  exact ⟨R, W, _, rs, ps, qs, b, hr, hw, h3, ap, bd, low⟩
theorem Con.sep (h : Con w B c lo R W a rs ps qs) : AggSep w (consoleF c) (conL R c.State W a) (rs ++ (ps ++ qs)) := by
  rw [consoleF_parts]
  exact h.room.append ((spotSep w c.State).append (h.watch.append h.asks))
theorem Con.ext (h : Con w B c lo R W a rs ps qs) (hx : Ext w w') : Con w' B c lo R W a rs ps qs :=
  ⟨h.blk.ext hx, h.room.ext hx, h.watch.ext hx, h.asks.ext hx, h.ap, fun p hp => (by have := h.bd p hp; have := hx.size; omega), h.low⟩
theorem Con.lenR (h : Con w B c lo R W a rs ps qs) : R.length = 8 := h.room.len
theorem Con.lenW (h : Con w B c lo R W a rs ps qs) : W.length = 10 := h.watch.len
theorem Con.b0 (h : Con w B c lo R W a rs ps qs) : w.heap[B]? = some (.cells ([] ++ R ++ (spotL c.State ++ (W ++ [a]))).toArray 43 (0, 0)) := h.blk
theorem Con.b8 (h : Con w B c lo R W a rs ps qs) : w.heap[B]? = some (.cells (R ++ spotL c.State ++ (W ++ [a])).toArray 43 (0, 0)) := by rw [List.append_assoc]; exact h.blk
theorem Con.b11 (h : Con w B c lo R W a rs ps qs) : w.heap[B]? = some (.cells ((R ++ spotL c.State) ++ W ++ [a]).toArray 43 (0, 0)) := by rw [List.append_assoc, List.append_assoc]; exact h.blk
theorem Con.b21 (h : Con w B c lo R W a rs ps qs) : w.heap[B]? = some (.cells ((R ++ spotL c.State ++ W) ++ [a] ++ []).toArray 43 (0, 0)) := by rw [List.append_nil, List.append_assoc, List.append_assoc]; exact h.blk
theorem Con.p8 (h : Con w B c lo R W a rs ps qs) : R.length = 8 := h.lenR
theorem Con.p11 (h : Con w B c lo R W a rs ps qs) : (R ++ spotL c.State).length = 11 := by rw [List.length_append, h.lenR]; rfl
theorem Con.p21 (h : Con w B c lo R W a rs ps qs) : (R ++ spotL c.State ++ W).length = 21 := by rw [List.length_append, List.length_append, h.lenR, h.lenW]; rfl
theorem Con.cell21 (h : Con w B c lo R W a rs ps qs) : w.cell? ⟨B, 21, none⟩ = some a := cell_seg w B 21 _ _ [a] [] h.b21 h.p21 0 a rfl
theorem Con.cell8 (h : Con w B c lo R W a rs ps qs) : w.cell? ⟨B, 8, none⟩ = some (.int .i64 c.State.X) ∧ w.cell? ⟨B, 9, none⟩ = some (.int .i64 c.State.Y) ∧ w.cell? ⟨B, 10, none⟩ = some (.int .i64 c.State.D) :=
  ⟨cell_seg w B 8 _ _ (spotL c.State) _ h.b8 h.p8 0 _ rfl, cell_seg w B 8 _ _ (spotL c.State) _ h.b8 h.p8 1 _ rfl, cell_seg w B 8 _ _ (spotL c.State) _ h.b8 h.p8 2 _ rfl⟩
theorem Con.watchIn (h : Con w B c lo R W a rs ps qs) : ∃ x y, AggIn w (watchF c.Watch) W x y := ⟨lo, w.heap.size, ps, h.watch, h.ap.right.left, fun p hp => by have := h.bd p (List.mem_append_right _ (List.mem_append_left _ hp)); omega⟩
theorem Con.off (h : Con w B c lo R W a rs ps qs) : ∀ p ∈ rs ++ (ps ++ qs), p.2 ≤ B ∨ B + 1 ≤ p.1 := fun p hp => by have := h.bd p hp; omega
theorem Con.room_t (h : Con w B c lo R W a rs ps qs) (k : Touch B (B + 1) w w') : AggSep w' (roomF c.Room) R rs := h.room.touch k fun q hq => h.off q (List.mem_append_left _ hq)
theorem Con.watch_t (h : Con w B c lo R W a rs ps qs) (k : Touch B (B + 1) w w') : AggSep w' (watchF c.Watch) W ps := h.watch.touch k fun q hq => h.off q (List.mem_append_right _ (List.mem_append_left _ hq))
theorem Con.asks_t (h : Con w B c lo R W a rs ps qs) (k : Touch B (B + 1) w w') : AggSep w' [askF c.Asks] [a] qs := h.asks.touch k fun q hq => h.off q (List.mem_append_right _ (List.mem_append_right _ hq))
theorem Con.bd_t (h : Con w B c lo R W a rs ps qs) (k : Touch B (B + 1) w w') : ∀ p ∈ rs ++ (ps ++ qs), lo ≤ p.1 ∧ p.2 ≤ w'.heap.size ∧ (B < p.1 ∨ p.2 ≤ B) := fun p hp => by have := h.bd p hp; have := k.size; omega
def noL : List Value := [.slice none 0 0, .int .i64 0, .int .i64 0, .int .i64 0, .int .i64 0, .int .i64 0, .slice none 0 0, .slice none 0 0, .slice none 0 0, .slice none 0 0]
theorem noSep (w : World) (g : Nat) : AggSep w (watchF noWatch) noL [(g, g), (g, g), (g, g), (g, g), (g, g)] := by
  refine ⟨_, _, _, _, _, _, rfl, rfl, Mine.nil _ _ _ _ _, Nat.le_refl _, _, rfl, _, rfl, _, rfl, _, rfl, _, rfl, _, _, _, _, _, _, rfl, rfl, Mine.nil _ _ _ _ _, Nat.le_refl _, _, _, _, _, _, _, rfl, rfl, Mine.nil _ _ _ _ _, Nat.le_refl _, _, _, _, _, _, _, rfl, rfl, Mine.nil _ _ _ _ _, Nat.le_refl _, _, _, _, _, _, _, rfl, rfl, Mine.nil _ _ _ _ _, Nat.le_refl _, rfl, rfl⟩
theorem gg_apart (g : Nat) : Apart [(g, g), (g, g), (g, g), (g, g), (g, g)] := by
  refine ⟨?_, ?_, ?_, ?_, ?_, True.intro⟩ <;> (intro q hq; simp at hq; try (subst hq; left; exact Nat.le_refl _))
theorem Apart.mid {xs ys zs : List (Nat × Nat)} (h : Apart (xs ++ (ys ++ zs))) : Apart (xs ++ zs) := by
  refine h.left.append h.right.right fun p hp q hq => ?_
  induction xs with
  | nil => cases hp
  | cons x xs ih =>
    rcases List.mem_cons.1 hp with rfl | hp
    · exact h.1 q (List.mem_append_right _ (List.mem_append_right _ hq))
    · exact ih h.2 hp
theorem Con.newRoom (h : Con w B c lo R W a rs ps qs) (k : Touch B (B + 1) w w') {r : Room} {x y : Nat} (hr : AggIn w' (roomF r) R' x y) (hg : ∀ p ∈ rs ++ (ps ++ qs), p.2 ≤ x) (hB : B < x) (hy : y ≤ w'.heap.size)
    (b : Blk w' B 43 (conL R' c.State noL a).toArray) : ConAt w' B ⟨r, c.State, noWatch, c.Asks⟩ lo := by
  have hlt := b.lt
  have low := h.low
  obtain ⟨rs', hr, har, hb⟩ := hr
  have hq : ∀ p ∈ qs, p.2 ≤ x := fun p hp => hg p (List.mem_append_right _ (List.mem_append_right _ hp))
  refine ⟨R', noL, a, rs', [(w'.heap.size, w'.heap.size), (w'.heap.size, w'.heap.size), (w'.heap.size, w'.heap.size), (w'.heap.size, w'.heap.size), (w'.heap.size, w'.heap.size)], qs, b, hr, noSep _ _, h.asks_t k, ?_, ?_, low⟩
  · refine har.append ((gg_apart _).append h.ap.right.right ?_) ?_
    · intro p hp q hq'
      have := h.bd_t k q (List.mem_append_right _ (List.mem_append_right _ hq'))
      simp at hp
      subst hp
      right; simp only; omega
    · intro p hp q hq'
      have h1 := hb p hp
      rcases List.mem_append.1 hq' with hq' | hq'
      · simp at hq'
        subst hq'
        left; simp only; omega
      · have := hq q hq'; right; omega
  · intro p hp
    rcases List.mem_append.1 hp with hp | hp
    · have := hb p hp; omega
    rcases List.mem_append.1 hp with hp | hp
    · simp at hp
      subst hp
      simp only; omega
    · exact h.bd_t k p (List.mem_append_right _ (List.mem_append_right _ hp))
theorem Con.newWatch (h : Con w B c lo R W a rs ps qs) (k : Touch B (B + 1) w w') {z : Watch} {x y : Nat} (hr : AggIn w' (watchF z) W' x y) (hg : w.heap.size ≤ x) (hy : y ≤ w'.heap.size)
    (b : Blk w' B 43 (conL R c.State W' a).toArray) : ConAt w' B ⟨c.Room, c.State, z, c.Asks⟩ lo := by
  have hlt := h.blk.lt
  have low := h.low
  obtain ⟨ps', hr, har, hb⟩ := hr
  refine ⟨R, W', a, rs, ps', qs, b, h.room_t k, hr, h.asks_t k, ?_, ?_, low⟩
  · refine (h.ap.left).append (har.append h.ap.right.right fun p hp q hq => ?_) fun p hp q hq => ?_
    · have := hb p hp
      have := h.bd q (List.mem_append_right _ (List.mem_append_right _ hq))
      omega
    rcases List.mem_append.1 hq with hq | hq
    · have := hb q hq
      have := h.bd p (List.mem_append_left _ hp)
      left; omega
    · have h2 : ∀ {xs : List (Nat × Nat)}, Apart (xs ++ qs) → p ∈ xs → p.2 ≤ q.1 ∨ q.2 ≤ p.1 := by
        intro xs
        induction xs with
        | nil => intro _ hp; cases hp
        | cons x xs ih =>
          intro h hp
          rcases List.mem_cons.1 hp with rfl | hp
          · exact h.1 q (List.mem_append_right _ hq)
          · exact ih h.2 hp
      exact h2 h.ap.mid hp
  · intro p hp
    rcases List.mem_append.1 hp with hp | hp
    · exact h.bd_t k p (List.mem_append_left _ hp)
    rcases List.mem_append.1 hp with hp | hp
    · have := hb p hp; omega
    · exact h.bd_t k p (List.mem_append_right _ (List.mem_append_right _ hp))
theorem Con.newAsks (h : Con w B c lo R W a rs ps qs) (k : Touch B (B + 1) w w') {xs : List Ask} {x y : Nat} (hr : AggIn w' [askF xs] [a'] x y) (hg : w.heap.size ≤ x) (hy : y ≤ w'.heap.size)
    (b : Blk w' B 43 (conL R c.State W a').toArray) : ConAt w' B ⟨c.Room, c.State, c.Watch, xs⟩ lo := by
  have hlt := h.blk.lt
  have low := h.low
  obtain ⟨qs', hr, har, hb⟩ := hr
  have ap2 : Apart (rs ++ ps) := by
    have := h.ap
    rw [← List.append_assoc] at this
    exact this.left
  refine ⟨R, W, a', rs, ps, qs', b, h.room_t k, h.watch_t k, hr, ?_, ?_, low⟩
  · rw [← List.append_assoc]
    refine ap2.append har fun p hp q hq => ?_
    have := hb q hq
    have := h.bd p (by rw [← List.append_assoc]; exact List.mem_append_left _ hp)
    left; omega
  · intro p hp
    rw [← List.append_assoc] at hp
    rcases List.mem_append.1 hp with hp | hp
    · exact h.bd_t k p (by rw [← List.append_assoc]; exact List.mem_append_left _ hp)
    · have := hb p hp; omega
theorem Con.newState (h : Con w B c lo R W a rs ps qs) (k : Touch B (B + 1) w w') (b : Blk w' B 43 (conL R s W a).toArray) : ConAt w' B ⟨c.Room, s, c.Watch, c.Asks⟩ lo :=
  ⟨R, W, a, rs, ps, qs, b, h.room_t k, h.watch_t k, h.asks_t k, h.ap, h.bd_t k, h.low⟩
theorem Con.cells8 {v0 v1 v2 v3 v4 v5 v6 v7 : Value} (h : Con w B c lo [v0, v1, v2, v3, v4, v5, v6, v7] W a rs ps qs) : w.cell? ⟨B, 0, none⟩ = some v0 ∧ w.cell? ⟨B, 1, none⟩ = some v1 ∧ w.cell? ⟨B, 2, none⟩ = some v2 ∧ w.cell? ⟨B, 3, none⟩ = some v3 ∧ w.cell? ⟨B, 4, none⟩ = some v4 ∧ w.cell? ⟨B, 5, none⟩ = some v5 ∧ w.cell? ⟨B, 6, none⟩ = some v6 ∧ w.cell? ⟨B, 7, none⟩ = some v7 :=
  have q := cell_seg w B 0 43 [] _ _ h.b0 rfl
  ⟨q 0 _ rfl, q 1 _ rfl, q 2 _ rfl, q 3 _ rfl, q 4 _ rfl, q 5 _ rfl, q 6 _ rfl, q 7 _ rfl⟩
theorem Con.cells10 {v0 v1 v2 v3 v4 v5 v6 v7 v8 v9 : Value} (h : Con w B c lo R [v0, v1, v2, v3, v4, v5, v6, v7, v8, v9] a rs ps qs) : w.cell? ⟨B, 11, none⟩ = some v0 ∧ w.cell? ⟨B, 12, none⟩ = some v1 ∧ w.cell? ⟨B, 13, none⟩ = some v2 ∧ w.cell? ⟨B, 14, none⟩ = some v3 ∧ w.cell? ⟨B, 15, none⟩ = some v4 ∧ w.cell? ⟨B, 16, none⟩ = some v5 ∧ w.cell? ⟨B, 17, none⟩ = some v6 ∧ w.cell? ⟨B, 18, none⟩ = some v7 ∧ w.cell? ⟨B, 19, none⟩ = some v8 ∧ w.cell? ⟨B, 20, none⟩ = some v9 :=
  have q := cell_seg w B 11 43 _ _ _ h.b11 h.p11
  ⟨q 0 _ rfl, q 1 _ rfl, q 2 _ rfl, q 3 _ rfl, q 4 _ rfl, q 5 _ rfl, q 6 _ rfl, q 7 _ rfl, q 8 _ rfl, q 9 _ rfl⟩
def Did (B : Nat) (x : Console × List UInt8) (lo : Nat) (w : World) (e : Ending) (w' : World) : Prop := e = .returned (.string (txt x.2)) ∧ ConAt w' B x.1 lo ∧ Touch B (B + 1) w w'
theorem Con.at_ (h : Con w B c lo R W a rs ps qs) : ConAt w B c lo := ⟨R, W, a, rs, ps, qs, h⟩
theorem ConAt.ext (h : ConAt w B c lo) (hx : Ext w w') : ConAt w' B c lo := by
  obtain ⟨R, W, a, rs, ps, qs, h⟩ := h
  exact (h.ext hx).at_
theorem Con.le (h : Con w B c lo R W a rs ps qs) : ∀ p ∈ rs ++ (ps ++ qs), p.2 ≤ w.heap.size := fun p hp => (h.bd p hp).2.1
end
end Go.Proofs.YtfnmbpjkjajpcaaGreatDoor
