/- Contracts of copyConsole and RunLine of the program. (written by tools/mkCcn.py) -/
import Derived.Test.YtfnmbpjkjajpcaaGreatDoorFbWz
import Derived.Deep.WholeRow
import Derived.Test.YtfnmbpjkjajpcaaGreatDoorFbDn
import Derived.Test.YtfnmbpjkjajpcaaGreatDoorFbHz
namespace Go.Proofs.YtfnmbpjkjajpcaaGreatDoor
open Go.ChangeShapes Go.WideShapes Go.ChangeAt Go.RowKit
set_option linter.unusedVariables false
set_option maxRecDepth 100000
theorem row22 {w : World} {g : Nat} {t : TypeId} {u0 u1 u2 u3 u4 u5 u6 u7 u8 u9 u10 u11 u12 u13 u14 u15 u16 u17 u18 u19 u20 u21 : Value} (b : Blk w g t #[u0, u1, u2, u3, u4, u5, u6, u7, u8, u9, u10, u11, u12, u13, u14, u15, u16, u17, u18, u19, u20, u21]) : w.cell? ⟨g, 0, none⟩ = some u0 ∧ w.cell? ⟨g, 1, none⟩ = some u1 ∧ w.cell? ⟨g, 2, none⟩ = some u2 ∧ w.cell? ⟨g, 3, none⟩ = some u3 ∧ w.cell? ⟨g, 4, none⟩ = some u4 ∧ w.cell? ⟨g, 5, none⟩ = some u5 ∧ w.cell? ⟨g, 6, none⟩ = some u6 ∧ w.cell? ⟨g, 7, none⟩ = some u7 ∧ w.cell? ⟨g, 8, none⟩ = some u8 ∧ w.cell? ⟨g, 9, none⟩ = some u9 ∧ w.cell? ⟨g, 10, none⟩ = some u10 ∧ w.cell? ⟨g, 11, none⟩ = some u11 ∧ w.cell? ⟨g, 12, none⟩ = some u12 ∧ w.cell? ⟨g, 13, none⟩ = some u13 ∧ w.cell? ⟨g, 14, none⟩ = some u14 ∧ w.cell? ⟨g, 15, none⟩ = some u15 ∧ w.cell? ⟨g, 16, none⟩ = some u16 ∧ w.cell? ⟨g, 17, none⟩ = some u17 ∧ w.cell? ⟨g, 18, none⟩ = some u18 ∧ w.cell? ⟨g, 19, none⟩ = some u19 ∧ w.cell? ⟨g, 20, none⟩ = some u20 ∧ w.cell? ⟨g, 21, none⟩ = some u21 := by
  have c := fun o => b.cell o
  refine ⟨?_, ?_, ?_, ?_, ?_, ?_, ?_, ?_, ?_, ?_, ?_, ?_, ?_, ?_, ?_, ?_, ?_, ?_, ?_, ?_, ?_, ?_⟩ <;> (rw [c]; rfl)
theorem st22 {g : Nat} {t : TypeId} {zs ua : Array Value} (hz : zs.size = ua.size) (h1 : ua.all (·.oneCell') = true) (W : World) (b : Blk W g t zs) : (storeCells ⟨g, 0, none⟩ ua.toList).run Tryz.prog W = .ok () (W.setRow g ua) := by
  have h := run_storeCells_at Tryz.prog g 0 t ua.toList 0 zs W b (by rw [Array.length_toList]; omega) (by
    intro v hv
    rw [Array.all_eq_true] at h1
    obtain ⟨i, hi, rfl⟩ := List.getElem_of_mem hv
    rw [Array.length_toList] at hi
    simpa using h1 i hi)
  have e : (zs.toList.take (0 + 0) ++ ua.toList ++ zs.toList.drop (0 + 0 + ua.toList.length)).toArray = ua := by
    rw [Nat.add_zero, List.take_zero, List.nil_append, List.drop_of_length_le (by simp; omega), List.append_nil, Array.toArray_toList]
  rw [e] at h
  exact h
theorem con_in {w : World} {c : Console} {R W : List Value} {v : Value} {a b p q e f L H : Nat} (h1 : AggIn w (roomF c.Room) R a b) (h2 : AggIn w (watchF c.Watch) W p q) (h3 : AggIn w [askF c.Asks] [v] e f)
    (d1 : b ≤ p ∨ q ≤ a) (d2 : b ≤ e ∨ f ≤ a) (d3 : q ≤ e ∨ f ≤ p) (l1 : L ≤ a ∧ L ≤ p ∧ L ≤ e) (u1 : b ≤ H ∧ q ≤ H ∧ f ≤ H) : AggIn w (consoleF c) (conL R c.State W v) L H := by
  obtain ⟨rs, p1, p2, p3⟩ := h1
  obtain ⟨qs, q1, q2, q3⟩ := h2
  obtain ⟨ss, s1, s2, s3⟩ := h3
  rw [consoleF_parts]
  refine ⟨rs ++ (qs ++ ss), (p1.append ((spotSep w c.State).append (q1.append s1)) : AggSep w _ _ (rs ++ ([] ++ (qs ++ ss)))), p2.append (q2.append s2 ?_) ?_, ?_⟩
  · intro x hx y hy
    have := q3 x hx
    have := s3 y hy
    omega
  · intro x hx y hy
    have := p3 x hx
    rcases List.mem_append.1 hy with hy | hy
    · have := q3 y hy; omega
    · have := s3 y hy; omega
  · intro x hx
    rcases List.mem_append.1 hx with hx | hx
    · have := p3 x hx; omega
    rcases List.mem_append.1 hx with hx | hx
    · have := q3 x hx; omega
    · have := s3 x hx; omega
theorem con_fin {w W V V' : World} {c : Console} {R X : List Value} {v : Value} {us : Array Value} {a b p q e f g : Nat} (hu : us = (conL R c.State X v).toArray) (hx : Ext w W) (hcur : Ext W V) (h1 : AggIn V (roomF c.Room) R a b) (h2 : AggIn V (watchF c.Watch) X p q) (h3 : AggIn V [askF c.Asks] [v] e f)
    (d1 : b ≤ p ∨ q ≤ a) (d2 : b ≤ e ∨ f ≤ a) (d3 : q ≤ e ∨ f ≤ p) (l : g + 1 ≤ a ∧ g + 1 ≤ p ∧ g + 1 ≤ e) (u : b ≤ V.heap.size ∧ q ≤ V.heap.size ∧ f ≤ V.heap.size) (hg : w.heap.size ≤ g) (T : Touch g (g + 1) V V') : AggNew (consoleF c) w (.returned (.agg us)) V' := by
  subst hu
  exact ⟨_, rfl, ((con_in h1 h2 h3 d1 d2 d3 (L := g + 1) (H := V.heap.size) l u).touch T (.inr (Nat.le_refl _))).wide (by omega) T.size, (hx.trans hcur).touch T hg⟩
set_option maxHeartbeats 64000000 in
theorem copyConsole_in {w : World} {c : Console} {us : List Value} {rs : List (Nat × Nat)} (h : AggSep w (consoleF c) us rs) (hk : ConOk c) : Calls Tryz.prog 32 #[.agg us.toArray] w (AggNew (consoleF c) w) := by
  rw [consoleF_parts] at h
  obtain ⟨R, v2, rs, r2, rfl, rfl, hr, h1⟩ := AggSep.split (fs := roomF c.Room) (gs := spotFd c.State ++ (watchF c.Watch ++ [askF c.Asks])) h
  obtain ⟨v3, v4, r3, r4, rfl, rfl, hs, h2⟩ := AggSep.split (fs := spotFd c.State) (gs := watchF c.Watch ++ [askF c.Asks]) h1
  obtain ⟨rfl, rfl⟩ := spotSep_inv hs
  obtain ⟨W, v5, ps, qs, rfl, rfl, hw, h3⟩ := AggSep.split (fs := watchF c.Watch) (gs := [askF c.Asks]) h2
  obtain ⟨A9, c9, x9, y9, rr9, z9, e9, rfl, m9, _, h9, _⟩ := h3
  obtain rfl : x9 = [] := h9
  subst e9
  obtain ⟨A0, A6, A7, c0, c6, c7, rfl, H1⟩ := room_sep hr
  obtain ⟨E0, E6, E7, E8, E9, e0, e6, e7, e8, e9, rfl, H2⟩ := watch_sep hw
  have HM := Lib.hid (fun w h => implCopyRoom_any c.Room A0 A6 A7 c0 c6 c7 w h hk.roomL.1 hk.roomL.2.1 hk.roomL.2.2)
  have HP := Lib.hid (fun w h => implCopyWatch_any c.Watch E0 E6 E7 E8 E9 e0 e6 e7 e8 e9 w h ⟨hk.watchL.1, hk.watchL.2.1, hk.watchL.2.2.1⟩ hk.watchL.2.2.2.1 hk.watchL.2.2.2.2)
  have HC := Lib.hid (fun w hr => cloneA_any A9 c.Asks.length c9 c.Asks w rfl hr m9.none hk.asksL)
  have HA := Lib.hid H1
  have HW := Lib.hid H2
  have HR := Lib.hid m9.row
  clear h h1 h2 hr hs hw m9 H1 H2 hk
  change Calls Tryz.prog 32 #[.agg #[.slice A0 c.Room.Map.length c0, .int .i64 c.Room.Div, .int .i64 c.Room.Bx, .int .i64 c.Room.By, .int .i64 c.Room.Low, .int .i64 c.Room.High, .slice A6 c.Room.Noise.length c6, .slice A7 c.Room.Limits.length c7, .int .i64 c.State.X, .int .i64 c.State.Y, .int .i64 c.State.D, .slice E0 c.Watch.Room.Map.length e0, .int .i64 c.Watch.Room.Div, .int .i64 c.Watch.Room.Bx, .int .i64 c.Watch.Room.By, .int .i64 c.Watch.Room.Low, .int .i64 c.Watch.Room.High, .slice E6 c.Watch.Room.Noise.length e6, .slice E7 c.Watch.Room.Limits.length e7, .slice E8 c.Watch.Region.length e8, .slice E9 c.Watch.Log.length e9, .slice A9 c.Asks.length c9]] w _
  have hx : Ext w ((w.alloc (.cells #[.slice A0 c.Room.Map.length c0, .int .i64 c.Room.Div, .int .i64 c.Room.Bx, .int .i64 c.Room.By, .int .i64 c.Room.Low, .int .i64 c.Room.High, .slice A6 c.Room.Noise.length c6, .slice A7 c.Room.Limits.length c7, .int .i64 c.State.X, .int .i64 c.State.Y, .int .i64 c.State.D, .slice E0 c.Watch.Room.Map.length e0, .int .i64 c.Watch.Room.Div, .int .i64 c.Watch.Room.Bx, .int .i64 c.Watch.Room.By, .int .i64 c.Watch.Room.Low, .int .i64 c.Watch.Room.High, .slice E6 c.Watch.Room.Noise.length e6, .slice E7 c.Watch.Room.Limits.length e7, .slice E8 c.Watch.Region.length e8, .slice E9 c.Watch.Log.length e9, .slice A9 c.Asks.length c9] 43)).alloc (.cells #[.slice none 0 0, .int .i64 0, .int .i64 0, .int .i64 0, .int .i64 0, .int .i64 0, .slice none 0 0, .slice none 0 0, .int .i64 0, .int .i64 0, .int .i64 0, .slice none 0 0, .int .i64 0, .int .i64 0, .int .i64 0, .int .i64 0, .int .i64 0, .slice none 0 0, .slice none 0 0, .slice none 0 0, .slice none 0 0, .slice none 0 0] 43)) := ((Ext.refl w).alloc _).alloc _
  have bM := (Blk.new w 43 #[.slice A0 c.Room.Map.length c0, .int .i64 c.Room.Div, .int .i64 c.Room.Bx, .int .i64 c.Room.By, .int .i64 c.Room.Low, .int .i64 c.Room.High, .slice A6 c.Room.Noise.length c6, .slice A7 c.Room.Limits.length c7, .int .i64 c.State.X, .int .i64 c.State.Y, .int .i64 c.State.D, .slice E0 c.Watch.Room.Map.length e0, .int .i64 c.Watch.Room.Div, .int .i64 c.Watch.Room.Bx, .int .i64 c.Watch.Room.By, .int .i64 c.Watch.Room.Low, .int .i64 c.Watch.Room.High, .slice E6 c.Watch.Room.Noise.length e6, .slice E7 c.Watch.Room.Limits.length e7, .slice E8 c.Watch.Region.length e8, .slice E9 c.Watch.Log.length e9, .slice A9 c.Asks.length c9]).alloc (.cells #[.slice none 0 0, .int .i64 0, .int .i64 0, .int .i64 0, .int .i64 0, .int .i64 0, .slice none 0 0, .slice none 0 0, .int .i64 0, .int .i64 0, .int .i64 0, .slice none 0 0, .int .i64 0, .int .i64 0, .int .i64 0, .int .i64 0, .int .i64 0, .slice none 0 0, .slice none 0 0, .slice none 0 0, .slice none 0 0, .slice none 0 0] 43)
  have bO := Blk.new (w.alloc (.cells #[.slice A0 c.Room.Map.length c0, .int .i64 c.Room.Div, .int .i64 c.Room.Bx, .int .i64 c.Room.By, .int .i64 c.Room.Low, .int .i64 c.Room.High, .slice A6 c.Room.Noise.length c6, .slice A7 c.Room.Limits.length c7, .int .i64 c.State.X, .int .i64 c.State.Y, .int .i64 c.State.D, .slice E0 c.Watch.Room.Map.length e0, .int .i64 c.Watch.Room.Div, .int .i64 c.Watch.Room.Bx, .int .i64 c.Watch.Room.By, .int .i64 c.Watch.Room.Low, .int .i64 c.Watch.Room.High, .slice E6 c.Watch.Room.Noise.length e6, .slice E7 c.Watch.Room.Limits.length e7, .slice E8 c.Watch.Region.length e8, .slice E9 c.Watch.Log.length e9, .slice A9 c.Asks.length c9] 43)) 43 #[.slice none 0 0, .int .i64 0, .int .i64 0, .int .i64 0, .int .i64 0, .int .i64 0, .slice none 0 0, .slice none 0 0, .int .i64 0, .int .i64 0, .int .i64 0, .slice none 0 0, .int .i64 0, .int .i64 0, .int .i64 0, .int .i64 0, .int .i64 0, .slice none 0 0, .slice none 0 0, .slice none 0 0, .slice none 0 0, .slice none 0 0]
  simp only [World.size_alloc] at bO
  go_enter Tryz.func32, Tryz.ntmps32
  go_wp2_with fail
  generalize (w.alloc (.cells #[.slice A0 c.Room.Map.length c0, .int .i64 c.Room.Div, .int .i64 c.Room.Bx, .int .i64 c.Room.By, .int .i64 c.Room.Low, .int .i64 c.Room.High, .slice A6 c.Room.Noise.length c6, .slice A7 c.Room.Limits.length c7, .int .i64 c.State.X, .int .i64 c.State.Y, .int .i64 c.State.D, .slice E0 c.Watch.Room.Map.length e0, .int .i64 c.Watch.Room.Div, .int .i64 c.Watch.Room.Bx, .int .i64 c.Watch.Room.By, .int .i64 c.Watch.Room.Low, .int .i64 c.Watch.Room.High, .slice E6 c.Watch.Room.Noise.length e6, .slice E7 c.Watch.Room.Limits.length e7, .slice E8 c.Watch.Region.length e8, .slice E9 c.Watch.Log.length e9, .slice A9 c.Asks.length c9] 43)).alloc (.cells #[.slice none 0 0, .int .i64 0, .int .i64 0, .int .i64 0, .int .i64 0, .int .i64 0, .slice none 0 0, .slice none 0 0, .int .i64 0, .int .i64 0, .int .i64 0, .slice none 0 0, .int .i64 0, .int .i64 0, .int .i64 0, .int .i64 0, .int .i64 0, .slice none 0 0, .slice none 0 0, .slice none 0 0, .slice none 0 0, .slice none 0 0] 43) = W at *
  have hcur := Ext.refl W
  have hsW := hx.size
  have lM := bM.lt
  have lO := bO.lt
  have cM := row22 bM
  have fO := trivial
  go_region_held3 (fun w' => w'.cell? ⟨w.heap.size, 0, none⟩ = some (.slice A0 c.Room.Map.length c0) ∧ w'.cell? ⟨w.heap.size, 1, none⟩ = some (.int .i64 c.Room.Div) ∧ w'.cell? ⟨w.heap.size, 2, none⟩ = some (.int .i64 c.Room.Bx) ∧ w'.cell? ⟨w.heap.size, 3, none⟩ = some (.int .i64 c.Room.By) ∧ w'.cell? ⟨w.heap.size, 4, none⟩ = some (.int .i64 c.Room.Low) ∧ w'.cell? ⟨w.heap.size, 5, none⟩ = some (.int .i64 c.Room.High) ∧ w'.cell? ⟨w.heap.size, 6, none⟩ = some (.slice A6 c.Room.Noise.length c6) ∧ w'.cell? ⟨w.heap.size, 7, none⟩ = some (.slice A7 c.Room.Limits.length c7) ∧ w'.cell? ⟨w.heap.size, 8, none⟩ = some (.int .i64 c.State.X) ∧ w'.cell? ⟨w.heap.size, 9, none⟩ = some (.int .i64 c.State.Y) ∧ w'.cell? ⟨w.heap.size, 10, none⟩ = some (.int .i64 c.State.D) ∧ w'.cell? ⟨w.heap.size, 11, none⟩ = some (.slice E0 c.Watch.Room.Map.length e0) ∧ w'.cell? ⟨w.heap.size, 12, none⟩ = some (.int .i64 c.Watch.Room.Div) ∧ w'.cell? ⟨w.heap.size, 13, none⟩ = some (.int .i64 c.Watch.Room.Bx) ∧ w'.cell? ⟨w.heap.size, 14, none⟩ = some (.int .i64 c.Watch.Room.By) ∧ w'.cell? ⟨w.heap.size, 15, none⟩ = some (.int .i64 c.Watch.Room.Low) ∧ w'.cell? ⟨w.heap.size, 16, none⟩ = some (.int .i64 c.Watch.Room.High) ∧ w'.cell? ⟨w.heap.size, 17, none⟩ = some (.slice E6 c.Watch.Room.Noise.length e6) ∧ w'.cell? ⟨w.heap.size, 18, none⟩ = some (.slice E7 c.Watch.Room.Limits.length e7) ∧ w'.cell? ⟨w.heap.size, 19, none⟩ = some (.slice E8 c.Watch.Region.length e8) ∧ w'.cell? ⟨w.heap.size, 20, none⟩ = some (.slice E9 c.Watch.Log.length e9) ∧ w'.cell? ⟨w.heap.size, 21, none⟩ = some (.slice A9 c.Asks.length c9))
    (go_keep)
    (first
      | (go_at_call 70; (with_reducible refine (HM.out _ (by exact HA.out.ext (hx.trans (by first | exact hcur | exact hcur.drew)))).mono ?_); rintro e wR ⟨usR, rfl, mR, hxN⟩; replace hcur := Ext.trans (by first | exact hcur | exact hcur.drew) hxN; (try replace mG := mG.ext hxN); (try replace mL := mL.ext hxN); have zR := hxN.size; (try simp only [World.size_drew] at mR zR); obtain ⟨B0, B6, B7, d0, d6, d7, rfl, -⟩ := room_sep (Exists.choose_spec mR).1; have cM9 := row22 (bM.ext hcur); have bO9 := bO.ext hcur; have zcur := hcur.size; (try (have hE : ∃ ua : Array Value, #[.slice B0 c.Room.Map.length d0, .int .i64 c.Room.Div, .int .i64 c.Room.Bx, .int .i64 c.Room.By, .int .i64 c.Room.Low, .int .i64 c.Room.High, .slice B6 c.Room.Noise.length d6, .slice B7 c.Room.Limits.length d7, .int .i64 c.State.X, .int .i64 c.State.Y, .int .i64 c.State.D, .slice F0 c.Watch.Room.Map.length f0, .int .i64 c.Watch.Room.Div, .int .i64 c.Watch.Room.Bx, .int .i64 c.Watch.Room.By, .int .i64 c.Watch.Room.Low, .int .i64 c.Watch.Room.High, .slice F6 c.Watch.Room.Noise.length f6, .slice F7 c.Watch.Room.Limits.length f7, .slice F8 c.Watch.Region.length f8, .slice F9 c.Watch.Log.length f9, .slice B9 c.Asks.length d9] = ua := ⟨_, rfl⟩; obtain ⟨ua, hua⟩ := hE; have hus : ua.size = 22 := (by rw [← hua]; rfl); have huo : ua.all (·.oneCell') = true := (by rw [← hua]; kernel_rfl); have hst := fun W b => st22 (g := w.heap.size + 1) (t := 43) (zs := #[.slice none 0 0, .int .i64 0, .int .i64 0, .int .i64 0, .int .i64 0, .int .i64 0, .slice none 0 0, .slice none 0 0, .int .i64 0, .int .i64 0, .int .i64 0, .slice none 0 0, .int .i64 0, .int .i64 0, .int .i64 0, .int .i64 0, .int .i64 0, .slice none 0 0, .slice none 0 0, .slice none 0 0, .slice none 0 0, .slice none 0 0]) (ua := ua) hus.symm huo W b; have cM8 := row22 ((bM.ext hcur).setRow_far (k := w.heap.size + 1) (by omega) ua))))
      | (go_at_call 71; (with_reducible refine (HP.out _ (by exact HW.out.ext (hx.trans (by first | exact hcur | exact hcur.drew)))).mono ?_); rintro e wG ⟨usG, rfl, mG, hxN⟩; replace hcur := Ext.trans (by first | exact hcur | exact hcur.drew) hxN; (try replace mR := mR.ext hxN); (try replace mL := mL.ext hxN); have zG := hxN.size; (try simp only [World.size_drew] at mG zG); obtain ⟨F0, F6, F7, F8, F9, f0, f6, f7, f8, f9, rfl, -⟩ := watch_sep (Exists.choose_spec mG).1; have cM9 := row22 (bM.ext hcur); have bO9 := bO.ext hcur; have zcur := hcur.size; (try (have hE : ∃ ua : Array Value, #[.slice B0 c.Room.Map.length d0, .int .i64 c.Room.Div, .int .i64 c.Room.Bx, .int .i64 c.Room.By, .int .i64 c.Room.Low, .int .i64 c.Room.High, .slice B6 c.Room.Noise.length d6, .slice B7 c.Room.Limits.length d7, .int .i64 c.State.X, .int .i64 c.State.Y, .int .i64 c.State.D, .slice F0 c.Watch.Room.Map.length f0, .int .i64 c.Watch.Room.Div, .int .i64 c.Watch.Room.Bx, .int .i64 c.Watch.Room.By, .int .i64 c.Watch.Room.Low, .int .i64 c.Watch.Room.High, .slice F6 c.Watch.Room.Noise.length f6, .slice F7 c.Watch.Room.Limits.length f7, .slice F8 c.Watch.Region.length f8, .slice F9 c.Watch.Log.length f9, .slice B9 c.Asks.length d9] = ua := ⟨_, rfl⟩; obtain ⟨ua, hua⟩ := hE; have hus : ua.size = 22 := (by rw [← hua]; rfl); have huo : ua.all (·.oneCell') = true := (by rw [← hua]; kernel_rfl); have hst := fun W b => st22 (g := w.heap.size + 1) (t := 43) (zs := #[.slice none 0 0, .int .i64 0, .int .i64 0, .int .i64 0, .int .i64 0, .int .i64 0, .slice none 0 0, .slice none 0 0, .int .i64 0, .int .i64 0, .int .i64 0, .slice none 0 0, .int .i64 0, .int .i64 0, .int .i64 0, .int .i64 0, .int .i64 0, .slice none 0 0, .slice none 0 0, .slice none 0 0, .slice none 0 0, .slice none 0 0]) (ua := ua) hus.symm huo W b; have cM8 := row22 ((bM.ext hcur).setRow_far (k := w.heap.size + 1) (by omega) ua))))
      | (go_at_call 72; (with_reducible refine (HC.out _ (by exact HR.out.ext (hx.trans (by first | exact hcur | exact hcur.drew)))).mono ?_); rintro e wL ⟨B9, d9, rfl, mL0, hxN⟩; replace hcur := Ext.trans (by first | exact hcur | exact hcur.drew) hxN; have mL := AggIn.one mL0 hxN.size; clear mL0; (try replace mR := mR.ext hxN); (try replace mG := mG.ext hxN); have zL := hxN.size; (try simp only [World.size_drew] at mL zL); have cM9 := row22 (bM.ext hcur); have bO9 := bO.ext hcur; have zcur := hcur.size; (try (have hE : ∃ ua : Array Value, #[.slice B0 c.Room.Map.length d0, .int .i64 c.Room.Div, .int .i64 c.Room.Bx, .int .i64 c.Room.By, .int .i64 c.Room.Low, .int .i64 c.Room.High, .slice B6 c.Room.Noise.length d6, .slice B7 c.Room.Limits.length d7, .int .i64 c.State.X, .int .i64 c.State.Y, .int .i64 c.State.D, .slice F0 c.Watch.Room.Map.length f0, .int .i64 c.Watch.Room.Div, .int .i64 c.Watch.Room.Bx, .int .i64 c.Watch.Room.By, .int .i64 c.Watch.Room.Low, .int .i64 c.Watch.Room.High, .slice F6 c.Watch.Room.Noise.length f6, .slice F7 c.Watch.Room.Limits.length f7, .slice F8 c.Watch.Region.length f8, .slice F9 c.Watch.Log.length f9, .slice B9 c.Asks.length d9] = ua := ⟨_, rfl⟩; obtain ⟨ua, hua⟩ := hE; have hus : ua.size = 22 := (by rw [← hua]; rfl); have huo : ua.all (·.oneCell') = true := (by rw [← hua]; kernel_rfl); have hst := fun W b => st22 (g := w.heap.size + 1) (t := 43) (zs := #[.slice none 0 0, .int .i64 0, .int .i64 0, .int .i64 0, .int .i64 0, .int .i64 0, .slice none 0 0, .slice none 0 0, .int .i64 0, .int .i64 0, .int .i64 0, .slice none 0 0, .int .i64 0, .int .i64 0, .int .i64 0, .int .i64 0, .int .i64 0, .slice none 0 0, .slice none 0 0, .slice none 0 0, .slice none 0 0, .slice none 0 0]) (ua := ua) hus.symm huo W b; have cM8 := row22 ((bM.ext hcur).setRow_far (k := w.heap.size + 1) (by omega) ua)))))
  all_goals
    have bF := bO9.setRow ua
    have HL := run_loadVar_row (P := Tryz.prog) _ _ _ 43 _ _ _ bF Tryz.underlying43 rfl (by rw [hus]; kernel_rfl)
    clear cM fO cM9 cM8
    go_wp2
    refine bodyPost_ret (v := .agg ua) (by simp [results, Tryz.results32, asAddr, HL]) rfl ?_
    refine con_fin ?_ hx hcur mR mG mL (by omega) (by omega) (by omega) (g := w.heap.size + 1) (by omega) (by omega) (by omega) ?_
    · exact hua.symm
    first | exact (Touch.refl _ _ _).setRow (Nat.le_refl _) (by omega) _ | exact (Touch.of_ext (Ext.refl _).drew).setRow (Nat.le_refl _) (by omega) _
end Go.Proofs.YtfnmbpjkjajpcaaGreatDoor
namespace Go.Proofs.YtfnmbpjkjajpcaaGreatDoor
open Go.ChangeShapes Go.WideShapes Go.ChangeAt Go.RowKit
set_option linter.unusedVariables false
set_option maxRecDepth 100000
theorem con22 {us : List Value} (h : us.length = 22) : (Tryz.prog.info? 43).map (·.size) = some us.toArray.size := by
  rw [List.size_toArray, h]
  kernel_rfl
theorem all_one {us : List Value} (h : ∀ v ∈ us, v.oneCell' = true) : us.toArray.all (·.oneCell') = true := by
  rw [Array.all_eq_true]
  intro i hi
  exact h _ (by simp at hi ⊢)
theorem zsize22 {us : List Value} (h : us.length = 22) : (#[.slice none 0 0, .int .i64 0, .int .i64 0, .int .i64 0, .int .i64 0, .int .i64 0, .slice none 0 0, .slice none 0 0, .int .i64 0, .int .i64 0, .int .i64 0, .slice none 0 0, .int .i64 0, .int .i64 0, .int .i64 0, .int .i64 0, .int .i64 0, .slice none 0 0, .slice none 0 0, .slice none 0 0, .slice none 0 0, .slice none 0 0] : Array Value).size = us.toArray.size := by
  have q : us.toArray.size = 22 := by rw [List.size_toArray, h]
  rw [q]
  rfl
def LineMade (x : Console × List UInt8) (w : World) (e : Ending) (w' : World) : Prop := ∃ us, e = .returned (.tuple #[.agg us.toArray, .string (txt x.2)]) ∧ AggIn w' (consoleF x.1) us w.heap.size w'.heap.size ∧ Ext w w'
set_option maxHeartbeats 16000000 in
theorem runLine_in {w : World} {c : Console} {us : List Value} {rs : List (Nat × Nat)} (h : AggSep w (consoleF c) us rs) (hk : ConOk c) (s : ByteArray) (hs : s.size ≤ 1048576) (ht : Tab w) (he : Ers w) :
    Calls Tryz.prog 13 #[.agg us.toArray, .string s] w (LineMade (lineR c s.data.toList) w) := by
  have hgl : 0 < w.heap.size + 1 + 1 := by
    have h := ht
    unfold Tab Lib.TabIs World.var? at h
    rw [gTab] at h
    simp only [Option.bind_some] at h
    rcases Nat.lt_or_ge 0 w.heap.size with q | q
    · omega
    · rw [Array.getElem?_eq_none q] at h
      cases h
  have hl22 : us.length = 22 := h.len
  have HCp := Lib.hid (fun w h => copyConsole_in (w := w) (c := c) (us := us) (rs := rs) h hk)
  have HRun := Lib.hid (fun B w' h ht he => run_any B (w.heap.size + 1 + 1) c s w' h hk hs ht he hgl)
  have HS := Lib.hid h
  have HT := Lib.hid ht
  have HE := Lib.hid he
  have hx : Ext w ((w.alloc (.cells us.toArray 43)).alloc (.cells #[.slice none 0 0, .int .i64 0, .int .i64 0, .int .i64 0, .int .i64 0, .int .i64 0, .slice none 0 0, .slice none 0 0, .int .i64 0, .int .i64 0, .int .i64 0, .slice none 0 0, .int .i64 0, .int .i64 0, .int .i64 0, .int .i64 0, .int .i64 0, .slice none 0 0, .slice none 0 0, .slice none 0 0, .slice none 0 0, .slice none 0 0] 43)) := ((Ext.refl w).alloc _).alloc _
  have bM := (Blk.new w 43 us.toArray).alloc (.cells #[.slice none 0 0, .int .i64 0, .int .i64 0, .int .i64 0, .int .i64 0, .int .i64 0, .slice none 0 0, .slice none 0 0, .int .i64 0, .int .i64 0, .int .i64 0, .slice none 0 0, .int .i64 0, .int .i64 0, .int .i64 0, .int .i64 0, .int .i64 0, .slice none 0 0, .slice none 0 0, .slice none 0 0, .slice none 0 0, .slice none 0 0] 43)
  have bO := Blk.new (w.alloc (.cells us.toArray 43)) 43 #[.slice none 0 0, .int .i64 0, .int .i64 0, .int .i64 0, .int .i64 0, .int .i64 0, .slice none 0 0, .slice none 0 0, .int .i64 0, .int .i64 0, .int .i64 0, .slice none 0 0, .int .i64 0, .int .i64 0, .int .i64 0, .int .i64 0, .int .i64 0, .slice none 0 0, .slice none 0 0, .slice none 0 0, .slice none 0 0, .slice none 0 0]
  simp only [World.size_alloc] at bO
  have hsz := con22 hl22
  clear h hk ht he hs
  generalize lineR c s.data.toList = X at *
  go_enter Tryz.func13, Tryz.ntmps13
  go_wp2_with (refine wpList_load_row (P := Tryz.prog) rfl 43 _ rfl w.heap.size rfl 43 _ _ _ bM Tryz.underlying43 rfl hsz ?_)
  refine (HCp.out _ (HS.out.ext hx)).mono ?_
  rintro e w1 ⟨vs, rfl, hin, hx1⟩
  have hx2 := hx.trans hx1
  have hz1 := hx1.size
  simp only [World.size_alloc] at hz1 hin
  obtain ⟨rs1, hsep, hap, hbd⟩ := hin
  have hv22 : vs.length = 22 := hsep.len
  have hvz := con22 hv22
  have hone := all_one hsep.cell
  have bZ := Blk.new w1 43 #[.slice none 0 0, .int .i64 0, .int .i64 0, .int .i64 0, .int .i64 0, .int .i64 0, .slice none 0 0, .slice none 0 0, .int .i64 0, .int .i64 0, .int .i64 0, .slice none 0 0, .int .i64 0, .int .i64 0, .int .i64 0, .int .i64 0, .int .i64 0, .slice none 0 0, .slice none 0 0, .slice none 0 0, .slice none 0 0, .slice none 0 0]
  have bV := Blk.new w1 43 vs.toArray
  have hC := Con.of (B := w1.heap.size) (lo := w.heap.size + 1 + 1) (hsep.ext ((Ext.refl w1).alloc (.cells vs.toArray 43))) hap (fun p hp => by have := hbd p hp; simp only [World.size_alloc]; omega) bV (by omega)
  have hx3 := hx2.alloc (.cells vs.toArray 43)
  have bO3 := (bO.ext hx1).alloc (.cells vs.toArray 43)
  have hzv := zsize22 hv22
  go_wp2_with (refine wpList_store_row (P := Tryz.prog) rfl 43 _ _ rfl w1.heap.size vs.toArray rfl rfl 43 _ bZ hvz hzv hone ?_; rw [World.setRow_alloc_new])
  refine (HRun.out _ _ hC (HT.out.ext hx3) (HE.out.ext hx3)).mono ?_
  rintro e w4 ⟨rfl, hC4, hT4⟩
  obtain ⟨R, W, a, rs4, ps4, qs4, h4⟩ := hC4
  have hsep4 := h4.sep
  have hb4 := h4.blk
  have hbd4 := h4.bd
  have hap4 := h4.ap
  have hl4 : (conL R X.1.State W a).length = 22 := hsep4.len
  have hsz4 := con22 hl4
  have hone4 := all_one hsep4.cell
  have hz4 := hT4.size
  simp only [World.size_alloc] at hz4
  have bO4 : Blk w4 (w.heap.size + 1) 43 #[.slice none 0 0, .int .i64 0, .int .i64 0, .int .i64 0, .int .i64 0, .int .i64 0, .slice none 0 0, .slice none 0 0, .int .i64 0, .int .i64 0, .int .i64 0, .slice none 0 0, .int .i64 0, .int .i64 0, .int .i64 0, .int .i64 0, .int .i64 0, .slice none 0 0, .slice none 0 0, .slice none 0 0, .slice none 0 0, .slice none 0 0] := (hT4.block _ (by have := bO3.lt; exact this) (.inl (by omega))).trans bO3
  have hzv4 := zsize22 hl4
  clear hC hb4
  have hb4 := h4.blk
  generalize conL R X.1.State W a = ws at *
  go_wp2_with (first | (refine wpList_load_row (P := Tryz.prog) rfl 43 _ rfl w1.heap.size rfl 43 _ _ _ hb4 Tryz.underlying43 rfl hsz4 ?_) | (refine wpList_store_row (P := Tryz.prog) rfl 43 _ _ rfl (w.heap.size + 1) ws.toArray rfl rfl 43 _ bO4 hsz4 hzv4 hone4 ?_))
  have bF := bO4.setRow ws.toArray
  have HL := run_loadVar_row (P := Tryz.prog) _ _ _ 43 _ _ _ bF Tryz.underlying43 rfl hsz4
  refine bodyPost_ret (v := .tuple #[.agg ws.toArray, .string (txt X.2)]) (by simp [results, Tryz.results13, asAddr, HL]) rfl ?_
  have T5 : Touch (w.heap.size + 1) (w.heap.size + 1 + 1) w4 (w4.setRow (w.heap.size + 1) ws.toArray) := (Touch.refl _ _ _).setRow (Nat.le_refl _) (by omega) _
  have hz5 := T5.size
  refine ⟨ws, rfl, ⟨_, hsep4.touch T5 (fun q hq => .inr (hbd4 q hq).1), hap4, fun p hp => ?_⟩, (hx3.touch hT4 (by omega)).touch T5 (by omega)⟩
  have := hbd4 p hp
  omega
end Go.Proofs.YtfnmbpjkjajpcaaGreatDoor
namespace Go.Proofs.YtfnmbpjkjajpcaaGreatDoor
open Go.ChangeShapes Go.WideShapes Go.ChangeAt Go.RowKit
set_option linter.unusedVariables false
set_option maxRecDepth 100000
theorem linesR_take_le {c : Console} (h : ConOk c) {l : List (List UInt8)} (hl : l.length ≤ 9) (k : Nat) : (linesR c (l.take k)).2.length ≤ 810009 := by
  have h1 := linesR_len h (l.take k)
  have h2 : (l.take k).length ≤ 9 := by rw [List.length_take]; omega
  exact Nat.le_trans h1 (Nat.mul_le_mul h2 (Nat.le_refl 90001))
theorem txt_cat (a b : List UInt8) : txt a ++ txt b = txt (a ++ b) := by
  apply ByteArray.ext
  simp [txt]
set_option maxHeartbeats 16000000 in
theorem lawConsole (A : Option Addr) (n c : Nat) (bs : List Int) (w : World) (hn : bs.length = n) (hr : Row w A (u8s bs)) (hm : n ≤ maxLen) (ht : Tab w) (he : Ers w) (hsp : Spl w) :
    Calls Tryz.prog 4 #[.slice A n c] w fun e w' => e = .returned (.bool true) ∧ Ext w w' := by
  unfold maxLen at hm
  by_cases hbig : (1048576 : Int) < (n : Int)
  · go_enter Tryz.func4, Tryz.ntmps4
    go_wp2
    go_ret
    exact ⟨rfl, Ext.refl _⟩
  have hle : n ≤ 1048576 := by omega
  have HT := Lib.hid ht
  have HE := Lib.hid he
  have HS := Lib.hid hsp
  clear ht he hsp
  go_enter Tryz.func4, Tryz.ntmps4
  go_wp2_with fail
  refine (makeLines_any _ _ _ bs _ hn hr hle).mono ?_
  rintro e w1 ⟨l, hl, A1, c1, rfl, hmine, hx1⟩
  have hlen := hl.len
  have HRow := Lib.hid hmine.row
  have hcap := hmine.cap
  have HL := Lib.hid hl
  obtain ⟨hs1, hs2, hs3⟩ := sess_lines hl
  have HSay := Lib.hid (lines_say hl)
  have HJ : Hid (∀ w', Row w' A1 (strs l) → Calls Tryz.prog 14 #[.slice A1 l.length c1, .string ⟨#[10]⟩] w' fun e w'' => e = .returned (.string (txt (Lib.join l [10]))) ∧ Ext w' w'') := fun w' hr => implJoin_any A1 l.length c1 l ⟨#[10]⟩ w' rfl hr hcap (by omega) (by have := hl.join_len; exact Nat.le_trans this (by omega))
  obtain ⟨z, hz⟩ : ∃ z, (sessR (Lib.join l [10])).2 = z := ⟨_, rfl⟩
  have HSs : Hid (∀ w', Tab w' → Ers w' → Spl w' → Calls Tryz.prog 9 #[.string (txt (Lib.join l [10]))] w' fun e w'' => e = .returned (.tuple #[.string (txt (linesR newConsole l).2), .int .i64 z]) ∧ Ext w' w'') := fun w' ht he hm => by
    refine (runSession_of change_ok answer_ok (txt (Lib.join l [10])) w' (by have := hl.join_len; rw [txt_size]; omega) ht he hm).mono ?_
    rintro e w'' ⟨rfl, hx⟩
    rw [txt_list, hs1, hz]
    exact ⟨rfl, hx⟩
  rw [hz] at hs2 hs3
  have HTk := Lib.hid (fun k => linesR_take_le newConsole_ok (l := l) (by omega) k)
  generalize txt (Lib.join l [10]) = tJ at *
  clear hmine hn hr hl hz hs1
  go_wp2_with fail
  refine (implNewConsole_any _).mono ?_
  rintro e w2 ⟨us, rs, rfl, hsep, hap, hbd, hx2⟩
  have hl22 : us.length = 22 := hsep.len
  have hsz := con22 hl22
  have hone := all_one hsep.cell
  have hzs1 := hx1.size
  have hzs2 := hx2.size
  have bZ := Blk.new w2 43 #[.slice none 0 0, .int .i64 0, .int .i64 0, .int .i64 0, .int .i64 0, .int .i64 0, .slice none 0 0, .slice none 0 0, .int .i64 0, .int .i64 0, .int .i64 0, .slice none 0 0, .int .i64 0, .int .i64 0, .int .i64 0, .int .i64 0, .int .i64 0, .slice none 0 0, .slice none 0 0, .slice none 0 0, .slice none 0 0, .slice none 0 0]
  have hzv := zsize22 hl22
  have hC := Con.of (B := w2.heap.size) (lo := w1.heap.size) (hsep.ext ((Ext.refl w2).alloc (.cells us.toArray 43))) hap (fun p hp => by have := hbd p hp; simp only [World.size_alloc]; omega) (Blk.new w2 43 us.toArray) (by omega)
  have hx13 : Ext w1 (w2.alloc (.cells us.toArray 43)) := hx2.alloc _
  clear hsep hap hbd
  go_wp2_with (refine wpList_store_row (P := Tryz.prog) rfl 43 _ _ rfl w2.heap.size us.toArray rfl rfl 43 _ bZ hsz hzv hone ?_; rw [World.setRow_alloc_new])
  clear bZ hzv hsz hone hl22
  generalize hw3 : w2.alloc (.cells us.toArray 43) = w3 at *
  have hBs : w2.heap.size < w3.heap.size := by rw [← hw3]; simp
  clear hw3
  generalize w2.heap.size = B at *
  clear hx2
  obtain ⟨m, hm⟩ : ∃ m, l.length = m := ⟨_, rfl⟩
  rw [hm] at HJ hlen hcap hs2 hs3 ⊢
  have HM := Lib.hid hm
  clear hm
  go_loopw [5, 20] (fun t i wr => ∃ k : Nat, k ≤ m ∧ i = .int .i64 k ∧ t = .string (txt (linesR newConsole (l.take k)).2) ∧ Ext w1 wr ∧ ConAt wr B (linesR newConsole (l.take k)).1 w1.heap.size) (fun _ i _ => m - (intOf i).toNat)
  case atStart => exact ⟨0, Nat.zero_le _, rfl, rfl, hx13, hC⟩
  case round =>
  clear hC hx13 hBs
  obtain ⟨k, hk, rfl, rfl, hxr, hCr⟩ := hrel
  have hxA := hx1.trans hxr
  have hBr : B < wr.heap.size := by
    obtain ⟨R0, W0, a0, rs0, ps0, qs0, hcon⟩ := hCr
    exact hcon.blk.lt
  by_cases hlt : k < m
  rotate_left
  · obtain rfl : k = m := by omega
    rw [List.take_of_length_le (by rw [HM.out]; exact Nat.le_refl _)]
    have hsay := HSay.out
    obtain ⟨tW, htW⟩ : ∃ t, txt (linesR newConsole l).2 = t := ⟨_, rfl⟩
    have q1 : ¬ tW.toList = [] := by rw [← htW, ByteArray.toList_eq, txt_list]; exact hsay
    have q2 : tW.toList.isEmpty = false := by
      cases h : tW.toList with
      | nil => exact absurd h q1
      | cons a b => rfl
    have HJ1 := Lib.hid (HJ.out _ (HRow.out.ext hxr))
    rw [htW] at HSs ⊢
    have hw1 : IntKind.i64.wrap ((k : Int) - 1) = (k : Int) - 1 := IntWalk.i64_in _ (by omega)
    have s2 : (k : Int) - 1 ≤ z := hs2
    have s3 : z ≤ (k : Int) := hs3
    clear htW hsay hCr
    go_wp2_with fail
    refine (HJ1.out).mono ?_
    rintro e w5 ⟨rfl, hx5⟩
    have hxB := hxA.trans hx5
    go_wp2_with fail
    refine (HSs.out _ (HT.out.ext hxB) (HE.out.ext hxB) (HS.out.ext hxB)).mono ?_
    rintro e w6 ⟨rfl, hx6⟩
    go_wp2
    go_ret
    exact ⟨ret_bool (by first | rfl | (simp; omega)), hxB.trans hx6⟩
  have hlt2 : (k : Int) < (m : Int) := by omega
  have hkl : k < l.length := by rw [HM.out]; exact hlt
  obtain ⟨gb, ob, rfl, hgb, hc0⟩ := (HRow.out.ext hxr).str (k := k) hkl
  have hsm := (HL.out.all _ (List.getElem_mem hkl)).2
  have HSn : Hid (linesR newConsole (l.take (k + 1)) = _) := (congrArg _ (take_snoc hkl)).trans (linesR_snoc newConsole _ _)
  obtain ⟨x, hx⟩ : ∃ x, l[k]'hkl = x := ⟨_, rfl⟩
  rw [hx] at hc0 hsm HSn
  clear hx
  have hok : ConOk (linesR newConsole (l.take k)).1 := linesR_ok newConsole_ok _
  have hln := HTk.out k
  generalize linesR newConsole (l.take k) = Y at *
  obtain ⟨cY, tY⟩ := Y
  dsimp only at *
  have hl2 := lineR_len hok x
  obtain ⟨R0, W0, a0, rs0, ps0, qs0, hcon⟩ := hCr
  have hsep := hcon.sep
  have hblk := hcon.blk
  have hus : (conL R0 cY.State W0 a0).length = 22 := hsep.len
  have hlow := hcon.low
  clear hcon
  generalize conL R0 cY.State W0 a0 = us at *
  generalize rs0 ++ (ps0 ++ qs0) = rs at *
  have husz := con22 hus
  have hst : (txt x).size ≤ 1048576 := by rw [txt_size]; omega
  have hrun := runLine_in hsep hok (txt x) hst (HT.out.ext hxA) (HE.out.ext hxA)
  rw [txt_list] at hrun
  have HRn := Lib.hid hrun
  clear hrun hok hsep
  generalize lineR cY x = Z at *
  obtain ⟨cZ, tZ⟩ := Z
  dsimp only at *
  go_wp2_with (refine wpList_load_row (P := Tryz.prog) rfl 43 _ rfl B rfl 43 _ _ _ hblk Tryz.underlying43 rfl husz ?_)
  refine (HRn.out).mono ?_
  rintro e w4 ⟨vs, rfl, hin, hx4⟩
  obtain ⟨rs1, hsep1, hap1, hbd1⟩ := hin
  have hz4 := hx4.size
  have hv22 : vs.length = 22 := hsep1.len
  have hvz := con22 hv22
  have hone := all_one hsep1.cell
  have bZ := Blk.new w4 43 #[.slice none 0 0, .int .i64 0, .int .i64 0, .int .i64 0, .int .i64 0, .int .i64 0, .slice none 0 0, .slice none 0 0, .int .i64 0, .int .i64 0, .int .i64 0, .slice none 0 0, .int .i64 0, .int .i64 0, .int .i64 0, .int .i64 0, .int .i64 0, .slice none 0 0, .slice none 0 0, .slice none 0 0, .slice none 0 0, .slice none 0 0]
  have bV := Blk.new w4 43 vs.toArray
  have hzv := zsize22 hv22
  have huv : us.toArray.size = vs.toArray.size := by rw [List.size_toArray, List.size_toArray, hus, hv22]
  have bB := (hblk.ext hx4).alloc (.cells vs.toArray 43)
  have hxE := (hxr.trans hx4).alloc (.cells vs.toArray 43)
  have T5 : Touch B (B + 1) (w4.alloc (.cells vs.toArray 43)) ((w4.alloc (.cells vs.toArray 43)).setRow B vs.toArray) := (Touch.refl _ _ _).setRow (Nat.le_refl _) (Nat.lt_succ_self _) _
  have hC5 : ConAt ((w4.alloc (.cells vs.toArray 43)).setRow B vs.toArray) B cZ w1.heap.size := by
    refine Con.of ((hsep1.ext ((Ext.refl w4).alloc _)).touch T5 (fun q hq => .inr (by have := hbd1 q hq; omega))) hap1 (fun p hp => ?_) (bB.setRow _) hlow
    have := hbd1 p hp
    have := T5.size
    have h3 := hxr.size
    simp only [World.size_alloc] at this
    omega
  have hx5 : Ext w1 ((w4.alloc (.cells vs.toArray 43)).setRow B vs.toArray) := hxE.touch T5 hlow
  clear hsep1 hap1 hbd1
  have q0 : True := trivial
  by_cases hz : tZ = []
  · subst hz
    have q1 : (txt []).toList = [] := by rw [ByteArray.toList_eq, txt_list]
    have q2 : (txt []).toList.isEmpty = true := by rw [q1]; rfl
    have HSn2 : Hid (linesR newConsole (l.take (k + 1)) = (cZ, tY)) := by
      have h1 := HSn.out
      have h2 : linesR newConsole (l.take (k + 1)) = (cZ, tY) := by simpa using h1
      exact h2
    go_wp2_with (first
      | (refine wpList_store_row (P := Tryz.prog) rfl 43 _ _ rfl w4.heap.size vs.toArray rfl rfl 43 _ bZ hvz hzv hone ?_; rw [World.setRow_alloc_new])
      | (refine wpList_load_row (P := Tryz.prog) rfl 43 _ rfl w4.heap.size rfl 43 _ _ _ bV Tryz.underlying43 rfl hvz ?_)
      | (refine wpList_store_row (P := Tryz.prog) rfl 43 _ _ rfl B vs.toArray rfl rfl 43 _ bB hvz huv hone ?_))
    go_roundw
    case rel => exact ⟨k + 1, by omega, by go_num, by rw [HSn2.out], hx5, by rw [HSn2.out]; exact hC5⟩
    case measure => simp [intOf]; omega
  have q1 : ¬ (txt tZ).toList = [] := by rw [ByteArray.toList_eq, txt_list]; exact hz
  have q2 : (txt tZ).toList.isEmpty = false := by
    rw [ByteArray.toList_eq, txt_list]
    cases tZ
    · exact absurd rfl hz
    · rfl
  have HSn2 : Hid (linesR newConsole (l.take (k + 1)) = (cZ, tY ++ (tZ ++ [10]))) := by
    have := HSn.out
    rw [if_neg hz] at this
    exact this
  have ht1 : txt tY ++ txt tZ = txt (tY ++ tZ) := txt_cat _ _
  have ht2 : txt (tY ++ tZ) ++ (⟨#[10]⟩ : ByteArray) = txt (tY ++ (tZ ++ [10])) := by
    rw [show (⟨#[10]⟩ : ByteArray) = txt [10] from rfl, txt_cat, List.append_assoc]
  have z1 : (txt tY).size ≤ 810009 := by rw [txt_size]; exact hln
  have z2 : (txt tZ).size ≤ 90000 := by rw [txt_size]; exact hl2
  have z3 : (txt (tY ++ tZ)).size ≤ 900009 := by rw [txt_size, List.length_append]; omega
  have a1 := add_txt (a := txt tY) (b := txt tZ) (c := txt (tY ++ tZ)) ht1 (by omega)
  have a2 := add_txt (a := txt (tY ++ tZ)) (b := ⟨#[10]⟩) (c := txt (tY ++ (tZ ++ [10]))) ht2 (by have : (⟨#[10]⟩ : ByteArray).size = 1 := rfl; omega)
  obtain ⟨t1, e1⟩ : ∃ t, txt (tY ++ tZ) = t := ⟨_, rfl⟩
  obtain ⟨t2, e2⟩ : ∃ t, txt (tY ++ (tZ ++ [10])) = t := ⟨_, rfl⟩
  rw [e1] at a1 a2
  rw [e2] at a2
  have HT2 := Lib.hid e2
  clear ht1 ht2 z1 z2 z3 e1 e2
  go_wp2_with (first
    | (refine wpList_store_row (P := Tryz.prog) rfl 43 _ _ rfl w4.heap.size vs.toArray rfl rfl 43 _ bZ hvz hzv hone ?_; rw [World.setRow_alloc_new])
    | (refine wpList_load_row (P := Tryz.prog) rfl 43 _ rfl w4.heap.size rfl 43 _ _ _ bV Tryz.underlying43 rfl hvz ?_)
    | (refine wpList_store_row (P := Tryz.prog) rfl 43 _ _ rfl B vs.toArray rfl rfl 43 _ bB hvz huv hone ?_))
  go_roundw
  case rel => exact ⟨k + 1, by omega, by go_num, by rw [HSn2.out]; exact congrArg Value.string HT2.out.symm, hx5, by rw [HSn2.out]; exact hC5⟩
  case measure => simp [intOf]; omega
end Go.Proofs.YtfnmbpjkjajpcaaGreatDoor
