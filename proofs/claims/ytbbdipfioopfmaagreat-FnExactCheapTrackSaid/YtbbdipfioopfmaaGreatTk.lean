/- Plain words of a run of the loop: the states and the inputs, step by step; tracks in memory, their two rows in any order. -/
import Derived.Test.YtbbdipfioopfmaaGreatStp
import Derived.Test.YtbbdipfioopfmaaGreatHs
import Derived.Test.YtbbdipfioopfmaaGreatMTrack
namespace Go.Proofs.YtbbdipfioopfmaaGreat
open Go.ChangeShapes Go.WideShapes Go.ChangeAt Go.RowKit
set_option linter.unusedVariables false

def trackK (r : Room) (ps : List Half) (s : Spot) (ws : List Int) (ns : List Spot) : Nat → Option Track
  | 0 => some ⟨[s], []⟩
  | k + 1 => match trackK r ps s ws ns k with
    | none => none
    | some T => match stepR r ps (T.Spots.getLastD s) (ws.getD k 0) (ns.getD (k % ns.length) ⟨0, 0, 0⟩) with
      | none => none
      | some x => some ⟨T.Spots ++ [x.1], T.Inputs ++ [x.2]⟩
def noTrack : Track := ⟨[], []⟩
def trackAll (r : Room) (ps : List Half) (s : Spot) (ws : List Int) (ns : List Spot) : Track × Bool := match trackK r ps s ws ns ws.length with
  | some T => (T, true)
  | none => (noTrack, false)
def runOk (r : Room) (ps : List Half) (s : Spot) (ws : List Int) (ns : List Spot) : Bool := decide (ws.length ≤ 20) && !decide (ns.length = 0) && hasSpot ps s && roomOk r
/-- a run of the loop -/
def trackR (r : Room) (ps : List Half) (s : Spot) (ws : List Int) (ns : List Spot) : Track × Bool := if runOk r ps s ws ns = true then trackAll r ps s ws ns else (noTrack, false)
section
variable {r : Room} {ps : List Half} {s : Spot} {ws : List Int} {ns : List Spot}
theorem trackR_no (h : runOk r ps s ws ns = false) : trackR r ps s ws ns = (noTrack, false) := if_neg (by rw [h]; decide)
theorem trackR_yes (h : runOk r ps s ws ns = true) : trackR r ps s ws ns = trackAll r ps s ws ns := if_pos h
theorem trackK_step {k : Nat} {T : Track} (h : trackK r ps s ws ns k = some T) : trackK r ps s ws ns (k + 1) = match stepR r ps (T.Spots.getLastD s) (ws.getD k 0) (ns.getD (k % ns.length) ⟨0, 0, 0⟩) with
      | none => none
      | some x => some ⟨T.Spots ++ [x.1], T.Inputs ++ [x.2]⟩ := by
  rw [trackK, h]
theorem trackK_len : ∀ (k : Nat) (T : Track), trackK r ps s ws ns k = some T → T.Spots.length = k + 1 ∧ T.Inputs.length = k
  | 0, T, h => by injection h with h; subst h; exact ⟨rfl, rfl⟩
  | k + 1, T, h => by
    cases e : trackK r ps s ws ns k with
    | none => rw [trackK, e] at h; cases h
    | some U =>
      rw [trackK_step e] at h
      obtain ⟨h1, h2⟩ := trackK_len k U e
      cases e2 : stepR r ps (U.Spots.getLastD s) (ws.getD k 0) (ns.getD (k % ns.length) ⟨0, 0, 0⟩) with
      | none => rw [e2] at h; cases h
      | some x =>
        rw [e2] at h
        injection h with h
        subst h
        simp only [List.length_append, List.length_cons, List.length_nil]
        omega
theorem trackK_none {k : Nat} (h : trackK r ps s ws ns k = none) : ∀ j, trackK r ps s ws ns (k + j) = none
  | 0 => h
  | j + 1 => by rw [← Nat.add_assoc, trackK, trackK_none h j]
theorem trackAll_none {k : Nat} (h : trackK r ps s ws ns k = none) (hk : k ≤ ws.length) : trackAll r ps s ws ns = (noTrack, false) := by
  have e := trackK_none h (ws.length - k)
  rw [show k + (ws.length - k) = ws.length by omega] at e
  unfold trackAll
  rw [e]
theorem trackAll_some {T : Track} (h : trackK r ps s ws ns ws.length = some T) : trackAll r ps s ws ns = (T, true) := by
  unfold trackAll
  rw [h]
end
/-- a track's two rows in memory, in any order -/
def TrackPt (w : World) (n0 n1 : Nat) (x0 x1 : List Value) (us : List Value) (lo hi : Nat) : Prop :=
  ∃ A0 c0 A1 c1 l0 h0 l1 h1, us = [.slice A0 n0 c0, .slice A1 n1 c1] ∧ Mine w l0 h0 47 3 (.slice A0 n0 c0) n0 x0 ∧ Mine w l1 h1 74 2 (.slice A1 n1 c1) n1 x1 ∧ lo ≤ l0 ∧ h0 ≤ hi ∧ lo ≤ l1 ∧ h1 ≤ hi ∧ (h0 ≤ l1 ∨ h1 ≤ l0)
def TrackM (w : World) (T : Track) (us : List Value) (lo hi : Nat) : Prop := TrackPt w T.Spots.length T.Inputs.length (ints (flat Spot.ints T.Spots)) (ints (flat Ratio.ints T.Inputs)) us lo hi
def TrackMk (w : World) (T : Track) (k : Int) (us : List Value) (lo hi : Nat) : Prop := TrackPt w T.Spots.length T.Inputs.length (ints (upTo k (T.Spots.length * 3))) (ints (upTo (k + ((T.Spots.length * 3 : Nat) : Int)) (T.Inputs.length * 2))) us lo hi
section
variable {w w' : World} {n0 n1 lo hi l h' : Nat} {x0 x1 us : List Value} {T : Track} {k : Int}
theorem TrackPt.ext (h : TrackPt w n0 n1 x0 x1 us lo hi) (hx : Ext w w') : TrackPt w' n0 n1 x0 x1 us lo hi := by
  obtain ⟨A0, c0, A1, c1, l0, h0, l1, h1, e, m0, m1, q⟩ := h
  exact ⟨A0, c0, A1, c1, l0, h0, l1, h1, e, m0.ext hx, m1.ext hx, q⟩
theorem TrackPt.touch (h : TrackPt w n0 n1 x0 x1 us lo hi) (k : Touch l h' w w') (hd : hi ≤ l ∨ h' ≤ lo) : TrackPt w' n0 n1 x0 x1 us lo hi := by
  obtain ⟨A0, c0, A1, c1, l0, h0, l1, h1, e, m0, m1, q⟩ := h
  exact ⟨A0, c0, A1, c1, l0, h0, l1, h1, e, m0.touch k (by omega), m1.touch k (by omega), q⟩
theorem TrackPt.wide {lo2 hi2 : Nat} (h : TrackPt w n0 n1 x0 x1 us lo hi) (h1 : lo2 ≤ lo) (h2 : hi ≤ hi2) : TrackPt w n0 n1 x0 x1 us lo2 hi2 := by
  obtain ⟨A0, c0, A1, c1, l0, h0, l1, h1, e, m0, m1, q⟩ := h
  exact ⟨A0, c0, A1, c1, l0, h0, l1, h1, e, m0, m1, by omega⟩
theorem TrackM.rows (h : TrackM w T us lo hi) : AggRow w (trackF T) us := by
  obtain ⟨A0, c0, A1, c1, l0, h0, l1, h1, e, m0, m1, q⟩ := h
  exact ⟨A0, c0, _, e, m0.row, m0.cap, m0.capm, A1, c1, _, rfl, m1.row, m1.cap, m1.capm, rfl⟩
theorem TrackMk.rows (h : TrackMk w T k us lo hi) : AggRow w (markF (trackF T) k) us := by
  obtain ⟨A0, c0, A1, c1, l0, h0, l1, h1, e, m0, m1, q⟩ := h
  exact ⟨A0, c0, _, e, m0.row, m0.cap, m0.capm, A1, c1, _, rfl, m1.row, m1.cap, m1.capm, rfl⟩
end
theorem mine_nil {w : World} {e : TypeId} {s lo hi : Nat} {cs : List Value} (h : cs = []) : Mine w lo hi e s (.slice none 0 0) 0 cs := by
  subst h
  exact ⟨World.ownsRow_nil _ _ _ _, fun g hg => by cases hg⟩
/-- one row of the call's own: empty, or in a block of its own -/
theorem own_cases {w : World} {base n c : Nat} {A : Option Addr} {e : TypeId} {s : Nat} {cs : List Value} (h : w.ownsRow base e s (.slice A n c) n cs) :
    (A = none ∧ n = 0 ∧ c = 0 ∧ cs = []) ∨ ∃ g, A = some ⟨g, 0, none⟩ ∧ base ≤ g ∧ g < w.heap.size ∧ Mine w g (g + 1) e s (.slice A n c) n cs := by
  rcases h.2 with ⟨hv, hn⟩ | ⟨g, cap, cur, hv, hg, h3, h4, h5, h6⟩
  · injection hv with h1 _ h3
    subst hn
    refine .inl ⟨h1, rfl, h3, ?_⟩
    have := h.1
    rw [Nat.zero_mul] at this
    exact List.eq_nil_of_length_eq_zero this
  · refine .inr ⟨g, ?_, hg, ?_, ⟨h.1, .inr ⟨g, cap, cur, hv, Nat.le_refl _, h3, h4, h5, h6⟩⟩, fun g2 hg2 => ?_⟩
    · injection hv
    · exact (Array.getElem?_eq_some_iff.1 h3).1
    · injection hv with hA
      subst hA
      cases hg2
      exact Nat.lt_succ_self _
/-- two rows of the call's own, in blocks of their own -/
theorem track_made {w : World} {lo : Nat} {A0 A1 : Option Addr} {n0 n1 c0 c1 : Nat} {x0 x1 : List Value} (h0 : w.ownsRow lo 47 3 (.slice A0 n0 c0) n0 x0) (h1 : w.ownsRow lo 74 2 (.slice A1 n1 c1) n1 x1)
    (hne : ∀ g1 g2, A0 = some ⟨g1, 0, none⟩ → A1 = some ⟨g2, 0, none⟩ → g1 ≠ g2) (hlo : lo ≤ w.heap.size) : TrackPt w n0 n1 x0 x1 [.slice A0 n0 c0, .slice A1 n1 c1] lo w.heap.size := by
  rcases own_cases h0 with ⟨rfl, rfl, rfl, e0⟩ | ⟨g0, rfl, k0, l0, m0⟩ <;> rcases own_cases h1 with ⟨rfl, rfl, rfl, e1⟩ | ⟨g1, rfl, k1, l1, m1⟩
  · exact ⟨_, _, _, _, lo, lo, lo, lo, rfl, mine_nil e0, mine_nil e1, by omega, by omega, by omega, by omega, by omega⟩
  · exact ⟨_, _, _, _, lo, lo, g1, g1 + 1, rfl, mine_nil e0, m1, by omega, by omega, by omega, by omega, by omega⟩
  · exact ⟨_, _, _, _, g0, g0 + 1, lo, lo, rfl, m0, mine_nil e1, by omega, by omega, by omega, by omega, by omega⟩
  · have := hne g0 g1 rfl rfl
    exact ⟨_, _, _, _, g0, g0 + 1, g1, g1 + 1, rfl, m0, m1, by omega, by omega, by omega, by omega, by omega⟩
def TrackMade (x : Track × Bool) (w : World) (e : Ending) (w' : World) : Prop :=
  ∃ us : List Value, e = .returned (.tuple #[.agg us.toArray, .bool x.2]) ∧ TrackM w' x.1 us w.heap.size w'.heap.size ∧ Ext w w'
theorem TrackMade.no {w w' : World} {e : Ending} {x : Track × Bool} (hx0 : x = (noTrack, false)) (he : e = .returned (.tuple #[.agg #[.slice none 0 0, .slice none 0 0], .bool false])) (hx : Ext w w') : TrackMade x w e w' := by
  rw [hx0]
  have hs := hx.size
  exact ⟨[.slice none 0 0, .slice none 0 0], he, ⟨none, 0, none, 0, w.heap.size, w.heap.size, w.heap.size, w.heap.size, rfl, mine_nil rfl, mine_nil rfl, by omega, by omega, by omega, by omega, by omega⟩, hx⟩
set_option maxHeartbeats 4000000 in
theorem markTrack_p (r : Track) (us : List Value) (k0 : Int) (lo hi : Nat) (w : World) (h : TrackM w r us lo hi) (h0 : 0 ≤ k0) (h1 : k0 + (cntF (trackF r) : Int) ≤ 1000000000000) (hhi : hi ≤ w.heap.size) :
    Calls Tryz.prog 20 #[.agg us.toArray, .int .i64 k0] w fun e w' => e = .returned (.int .i64 (k0 + (cntF (trackF r) : Int))) ∧ TrackMk w' r k0 us lo hi ∧ Touch lo hi w w' := by
  have hcnt : cntF (trackF r) = r.Spots.length * 3 + r.Inputs.length * 2 := by simp only [trackF, cntF, ratioF, spotF]; omega
  rw [hcnt] at h1 ⊢
  clear hcnt
  obtain ⟨A0, c0, A1, c1, l0, g0, l1, g1, rfl, o0, o1, q1, q2, q3, q4, q5⟩ := h
  have len0 : r.Spots.length * 3 ≤ 1000000000000 := by omega
  have len1 : r.Inputs.length * 2 ≤ 1000000000000 := by omega
  have hx : Touch lo hi w (w.alloc (.cells #[.slice A0 r.Spots.length c0, .slice A1 r.Inputs.length c1] 37)) := (Touch.refl lo hi w).alloc _
  have bP := Blk.new w 37 #[.slice A0 r.Spots.length c0, .slice A1 r.Inputs.length c1]
  have cP := fun o => bP.cell o
  replace o0 := o0.alloc (.cells #[.slice A0 r.Spots.length c0, .slice A1 r.Inputs.length c1] 37)
  replace o1 := o1.alloc (.cells #[.slice A0 r.Spots.length c0, .slice A1 r.Inputs.length c1] 37)
  go_enter Tryz.func20, Tryz.ntmps20
  go_wp2_with fail
  refine (markSpotS_m _ _ _ _ _ _ _ _ o0 (by omega) (by omega) (by omega)).mono ?_
  rintro e w1 ⟨rfl, o0', t1⟩
  replace o1 := o1.touch t1 (by omega)
  replace hx := hx.trans (t1.mono (by omega) (by omega))
  have hzz1 := t1.size
  simp only [World.size_alloc] at hzz1
  replace bP := bP.touch t1 (.inr (by omega))
  have cP1 := fun o => bP.cell o
  go_wp2_with fail
  refine (markRatioS_m _ _ _ _ _ _ _ _ o1 (by omega) (by omega) (by omega)).mono ?_
  rintro e w2 ⟨rfl, o1', t2⟩
  replace o0' := o0'.touch t2 (by omega)
  replace hx := hx.trans (t2.mono (by omega) (by omega))
  go_wp2
  go_ret
  exact ⟨ret_int (by omega), ⟨A0, c0, A1, c1, l0, g0, l1, g1, rfl, o0', o1', q1, q2, q3, q4, q5⟩, hx⟩
end Go.Proofs.YtbbdipfioopfmaaGreat
