/- Plain geometry: the edges in their order meet in corners; a region is made of its own edges again. -/
import Derived.Test.YtlgkfjhbimffiaaDoorGeoE
namespace Go.Proofs.YtlgkfjhbimffiaaDoor
set_option linter.unusedVariables false

def negH (h : Half) : Half := ⟨-h.A, -h.B, h.C⟩
theorem negH_nz {h : Half} (hz : nz h) : nz (negH h) := by unfold nz negH at *; simp only; omega
theorem negH_up {h : Half} (hz : nz h) : isUpper (negH h) = !isUpper h := by
  cases hu : isUpper h with
  | true =>
    have u := (up_iff h).1 hu
    rw [Bool.not_true, ← Bool.not_eq_true, up_iff]; unfold negH; simp only; omega
  | false =>
    have u := (up_not h hz).1 hu
    rw [Bool.not_false, up_iff]; unfold negH; simp only; omega
theorem cross_negL (a b : Half) : cross (negH a) b = -cross a b := by unfold cross negH; grind
theorem cross_negR (a b : Half) : cross a (negH b) = -cross a b := by unfold cross negH; grind

/-- a weakly before b, b before c, c less than half a turn on from a -/
theorem mid1 {a b c : Half} (ha : nz a) (hb : nz b) (hc : nz c) (h1 : before a b = true) (h2 : before b c = true) (h : 0 < cross a c) : 0 < cross a b ∧ 0 < cross b c := by
  rw [before_iff] at h1 h2
  rcases h1 with ⟨a1, a2⟩ | ⟨a1, a2⟩ <;> rcases h2 with ⟨b1, b2⟩ | ⟨b1, b2⟩
  · rw [a2] at b1; cases b1
  · -- a upper, b and c lower
    refine ⟨?_, b2⟩
    have t := cross_trans (a := negH b) (b := negH c) (c := a) (negH_nz hb) (negH_nz hc) ha (by rw [negH_up hb, negH_up hc, b1]) (by rw [negH_up hc, a1, ← b1, a2]; rfl)
      (by rw [cross_negL, cross_negR]; omega) (by rw [cross_negL, cross_anti a c]; omega) (.inl (by rw [cross_negL, cross_negR]; omega))
    rw [cross_negL, cross_anti a b] at t
    omega
  · refine ⟨a2, ?_⟩
    have t := cross_trans (a := negH c) (b := a) (c := b) (negH_nz hc) ha hb (by rw [negH_up hc, b2, a1, b1]; rfl) a1
      (by rw [cross_negL, cross_anti a c]; omega) (by omega) (.inr a2)
    rw [cross_negL, cross_anti b c] at t
    omega
  · exact ⟨a2, b2⟩
/-- c before a before b, c less than half a turn on from a -/
theorem mid2 {a b c : Half} (ha : nz a) (hb : nz b) (hc : nz c) (h1 : before c a = true) (h2 : before a b = true) (h : 0 < cross a c) : 0 < cross a b ∧ 0 < cross b c := by
  rw [before_iff] at h1 h2
  rcases h1 with ⟨a1, a2⟩ | ⟨a1, a2⟩
  · rcases h2 with ⟨b1, b2⟩ | ⟨b1, b2⟩
    · rw [a2] at b1; cases b1
    · refine ⟨b2, ?_⟩
      have t := cross_trans (a := c) (b := negH a) (c := negH b) hc (negH_nz ha) (negH_nz hb) (by rw [negH_up ha, a1, a2]; rfl) (by rw [negH_up ha, negH_up hb, b1])
        (by rw [cross_negR, cross_anti a c]; omega) (by rw [cross_negL, cross_negR]; omega) (.inr (by rw [cross_negL, cross_negR]; omega))
      rw [cross_negR, cross_anti b c] at t
      omega
  · have := cross_anti a c
    omega
/-- b before c before a, c less than half a turn on from a -/
theorem mid3 {a b c : Half} (ha : nz a) (hb : nz b) (hc : nz c) (h1 : before b c = true) (h2 : before c a = true) (h : 0 < cross a c) : 0 < cross a b ∧ 0 < cross b c := by
  rw [before_iff] at h1 h2
  rcases h2 with ⟨a1, a2⟩ | ⟨a1, a2⟩
  · rcases h1 with ⟨b1, b2⟩ | ⟨b1, b2⟩
    · rw [b2] at a1; cases a1
    · refine ⟨?_, b2⟩
      have t := cross_trans (a := b) (b := c) (c := negH a) hb hc (negH_nz ha) b1 (by rw [negH_up ha, a1, a2]; rfl)
        (by omega) (by rw [cross_negR, cross_anti a c]; omega) (.inl b2)
      rw [cross_negR, cross_anti a b] at t
      omega
  · have := cross_anti a c
    omega
theorem same_cross {a b : Half} (h : sameDir a b = true) : cross a b = 0 := ((sameDir_iff a b).1 h).1
/-- what turns on from two of one direction -/
theorem same_turn {a b c : Half} (ha : nz a) (hb : nz b) (h : sameDir a b = true) : sizeH b * cross a c = sizeH a * cross b c := by
  obtain ⟨e1, e2⟩ := same_scale ha hb h
  unfold cross
  generalize sizeH a = s at *
  generalize sizeH b = t at *
  grind

def edges (S : List Half) : List Half := S.filter (edgeFb S)
theorem edges_mem {S : List Half} {k : Half} : k ∈ edges S ↔ k ∈ S ∧ edgeF S k := by
  unfold edges; rw [List.mem_filter, edgeFb_iff]
theorem edges_srt {S : List Half} (h : Srt S) : Srt (edges S) := h.sublist List.filter_sublist
/-- k and its next edge: a corner of the region -/
def Corner (S : List Half) (k j : Half) : Prop := 0 < cross k j ∧ ∀ m ∈ S, 0 ≤ det3 k j m
theorem no_between {S : List Half} {k j m : Half} (h : Corner S k j) (hk : k ∈ S) (hj : j ∈ S) (hm : edgeF S m) (hmS : m ∈ S) (h1 : 0 < cross k m) (h2 : 0 < cross m j) : False := by
  have a := hm k hk j hj (by have := cross_anti k m; omega) h2
  have b := h.2 m hmS
  have c := det3_cyc m k j
  omega
theorem Srt.at_ {l : List Half} (h : Srt l) {i j : Nat} (hi : i < l.length) (hj : j < l.length) (hij : i < j) : before l[i] l[j] = true := List.pairwise_iff_getElem.1 h i j hi hj hij
theorem next_at {S : List Half} (hS : Good S) (ho : openP S) {t : Nat} (ht : t < (edges S).length) (hn : (t + 1) % (edges S).length < (edges S).length) :
    Corner S (edges S)[t] (edges S)[(t + 1) % (edges S).length] := by
  obtain ⟨hk, he⟩ := edges_mem.1 (List.getElem_mem ht)
  obtain ⟨j, hj, ej, cj, sj⟩ := edge_next hS ho hk he
  have cor : Corner S (edges S)[t] j := ⟨cj, sj⟩
  have mj : j ∈ edges S := edges_mem.2 ⟨hj, ej⟩
  have sE := edges_srt hS.srt
  obtain ⟨hk', he'⟩ := edges_mem.1 (List.getElem_mem hn)
  obtain ⟨s, hs, rfl⟩ := List.getElem_of_mem mj
  have zk := hS.nz _ hk
  have zj := hS.nz _ hj
  have zn := hS.nz _ hk'
  have hne : s ≠ t := by
    intro e; subst e
    rw [cross_self] at cj; omega
  by_cases e : s = (t + 1) % (edges S).length
  · simp only [← e]
    exact cor
  · exfalso
    by_cases hl : t + 1 < (edges S).length
    · have em : (t + 1) % (edges S).length = t + 1 := Nat.mod_eq_of_lt hl
      simp only [em] at e hk' he' zn hn
      have b1 := sE.at_ ht hl (by omega)
      by_cases hst : s < t
      · have b2 := sE.at_ hs ht hst
        obtain ⟨c1, c2⟩ := mid2 zk zn zj b2 b1 cj
        exact no_between cor hk hj he' hk' c1 c2
      · have b2 := sE.at_ hl hs (by omega)
        obtain ⟨c1, c2⟩ := mid1 zk zn zj b1 b2 cj
        exact no_between cor hk hj he' hk' c1 c2
    · have em : (t + 1) % (edges S).length = 0 := by rw [show t + 1 = (edges S).length by omega]; exact Nat.mod_self _
      simp only [em] at e hk' he' zn hn
      have b1 := sE.at_ hs ht (by omega)
      have b2 := sE.at_ hn hs (by omega)
      obtain ⟨c1, c2⟩ := mid3 zk zn zj b2 b1 cj
      exact no_between cor hk hj he' hk' c1 c2

/-- each half plane of the list follows from two edges that meet in a corner -/
theorem implied {S : List Half} (hS : Good S) (ho : openP S) (hne : edges S ≠ []) {m : Half} (hm : m ∈ S) :
    ∃ a ∈ edges S, ∃ b ∈ edges S, Corner S a b ∧ 0 ≤ cross a m ∧ 0 ≤ cross m b := by
  have sE := edges_srt hS.srt
  have zE : Nz (edges S) := fun x hx => hS.nz x (edges_mem.1 hx).1
  have zm := hS.nz m hm
  have hn0 : 0 < (edges S).length := List.length_pos_iff.2 hne
  -- the number of edges that do not come behind m
  have key : ∀ n, n ≤ (edges S).length → (∀ t (ht : t < (edges S).length), t < n → before m (edges S)[t] = false) ∨
      (∃ t, ∃ ht : t < (edges S).length, before m (edges S)[t] = true ∧ ∀ u (hu : u < (edges S).length), u < t → before m (edges S)[u] = false) := by
    intro n
    induction n with
    | zero => intro _; exact .inl fun t _ h => by omega
    | succ n ih =>
      intro hn
      rcases ih (by omega) with h | h
      · cases hb : before m ((edges S)[n]'(by omega)) with
        | true => exact .inr ⟨n, by omega, hb, fun u hu hlt => h u hu hlt⟩
        | false =>
          refine .inl fun t ht hlt => ?_
          by_cases e : t = n
          · subst e; exact hb
          · exact h t ht (by omega)
      · exact .inr h
  have weak : ∀ t (ht : t < (edges S).length), before m (edges S)[t] = false → sameDir (edges S)[t] m = true ∨ before (edges S)[t] m = true := by
    intro t ht hb
    rcases before_tri (edges S)[t] m with h | h | h
    · exact .inr h
    · exact .inl h
    · rw [hb] at h; cases h
  have corner : ∀ t (ht : t < (edges S).length) (hu : (t + 1) % (edges S).length < (edges S).length), Corner S (edges S)[t] (edges S)[(t + 1) % (edges S).length] := fun t ht hu => next_at hS ho ht hu
  rcases key (edges S).length (Nat.le_refl _) with h | ⟨t, ht, hb, hlow⟩
  · -- all edges come before m, or have its direction: the last and the first
    have hl : (edges S).length - 1 < (edges S).length := by omega
    have em : ((edges S).length - 1 + 1) % (edges S).length = 0 := by rw [show (edges S).length - 1 + 1 = (edges S).length by omega]; exact Nat.mod_self _
    have co := corner _ hl (by rw [em]; exact hn0)
    simp only [em] at co
    have za := zE _ (List.getElem_mem hl)
    have zb := zE _ (List.getElem_mem hn0)
    refine ⟨_, List.getElem_mem hl, _, List.getElem_mem hn0, co, ?_⟩
    have hne1 : (edges S).length ≠ 1 := by
      intro e1
      have := co.1
      simp only [e1] at this
      rw [cross_self] at this
      omega
    have b0 := sE.at_ hn0 hl (by omega)
    rcases weak _ hl (h _ hl hl) with w | w
    · refine ⟨by rw [same_cross w]; omega, ?_⟩
      have e1 := same_turn (c := (edges S)[0]) za zm w
      have := Int.mul_pos (sizeH_pos zm) co.1
      exact pos_of_mul (sizeH_pos za) (by omega)
    · obtain ⟨c1, c2⟩ := mid2 za zm zb b0 w co.1
      omega
  · by_cases ht0 : t = 0
    · subst ht0
      have hl : (edges S).length - 1 < (edges S).length := by omega
      have em : ((edges S).length - 1 + 1) % (edges S).length = 0 := by rw [show (edges S).length - 1 + 1 = (edges S).length by omega]; exact Nat.mod_self _
      have co := corner _ hl (by rw [em]; exact hn0)
      simp only [em] at co
      have za := zE _ (List.getElem_mem hl)
      have zb := zE _ (List.getElem_mem hn0)
      refine ⟨_, List.getElem_mem hl, _, List.getElem_mem hn0, co, ?_⟩
      have hne1 : (edges S).length ≠ 1 := by
        intro e1
        have := co.1
        simp only [e1] at this
        rw [cross_self] at this
        omega
      have b0 := sE.at_ hn0 hl (by omega)
      obtain ⟨c1, c2⟩ := mid3 za zm zb hb b0 co.1
      omega
    · have ht1 : t - 1 < (edges S).length := by omega
      have em : (t - 1 + 1) % (edges S).length = t := by rw [show t - 1 + 1 = t by omega]; exact Nat.mod_eq_of_lt ht
      have co := corner _ ht1 (by rw [em]; exact ht)
      simp only [em] at co
      have za := zE _ (List.getElem_mem ht1)
      have zb := zE _ (List.getElem_mem ht)
      refine ⟨_, List.getElem_mem ht1, _, List.getElem_mem ht, co, ?_⟩
      rcases weak _ ht1 (hlow _ ht1 (by omega)) with w | w
      · refine ⟨by rw [same_cross w]; omega, ?_⟩
        have e1 := same_turn (c := (edges S)[t]) za zm w
        have := Int.mul_pos (sizeH_pos zm) co.1
        exact pos_of_mul (sizeH_pos za) (by omega)
      · obtain ⟨c1, c2⟩ := mid1 za zm zb w hb co.1
        omega

/-- a crossing that lies in two edges lies in what follows from them -/
theorem sat_implied {S : List Half} {k i a b m : Half} (hc : Corner S a b) (hm : m ∈ S) (h1 : 0 ≤ cross a m) (h2 : 0 ≤ cross m b) (sa : sat k i a) (sb : sat k i b) : sat k i m := by
  have e : cross a b * det3 k i m = cross m b * det3 k i a + cross a m * det3 k i b + det3 a b m * cross k i := by unfold det3 cross; grind
  obtain ⟨c1, c2⟩ := hc
  have c3 := c2 m hm
  unfold sat at *
  rcases sa with ⟨p, q⟩ | ⟨p, q⟩
  · rcases sb with ⟨_, r⟩ | ⟨p', _⟩
    · have m1 := Int.mul_nonneg h2 q
      have m2 := Int.mul_nonneg h1 r
      have m3 := Int.mul_nonneg c3 (Int.le_of_lt p)
      exact .inl ⟨p, pos_of_mul c1 (by omega)⟩
    · omega
  · rcases sb with ⟨p', _⟩ | ⟨_, r⟩
    · omega
    · have m1 := mul_pn h2 q
      have m2 := mul_pn h1 r
      have m3 := mul_pn c3 (Int.le_of_lt p)
      refine .inr ⟨p, ?_⟩
      rcases Int.lt_or_le 0 (det3 k i m) with x | x
      · have := Int.mul_pos c1 x; omega
      · exact x

/-- the half planes of the frame -/
def frame : List Half := [⟨1, 0, 1000⟩, ⟨0, 1, 1000⟩, ⟨-1, 0, 1000⟩, ⟨0, -1, 1000⟩]
theorem frame_ok : ∀ h ∈ frame, halfOk h = true := by decide
theorem good_of {S L : List Half} (hT : Tst S L) (hL : ∀ x ∈ L, halfOk x = true) (hf : ∀ x ∈ frame, x ∈ L) : Good S := by
  have hz := ok_nz hL
  have hzS : Nz S := fun x hx => hz x (hT.sub hx)
  refine ⟨hT.srt, hzS, ?_, ?_, ?_, ?_⟩
  · obtain ⟨e, he, hs, ht⟩ := hT.has hz ⟨1, 0, 1000⟩ (hf _ (by decide))
    obtain ⟨p, q⟩ := same_scale (hzS e he) (by simp [nz]) hs
    have pz := sizeH_pos (hzS e he)
    have e1 : sizeH ⟨1, 0, 1000⟩ = 1 := by decide
    unfold tle at ht
    rw [e1] at p q ht
    simp only [Int.mul_zero, Int.one_mul, Int.mul_one] at p q ht
    exact ⟨e, he, by omega, by omega, by rw [p]; exact ht⟩
  · obtain ⟨e, he, hs, ht⟩ := hT.has hz ⟨0, 1, 1000⟩ (hf _ (by decide))
    obtain ⟨p, q⟩ := same_scale (hzS e he) (by simp [nz]) hs
    have pz := sizeH_pos (hzS e he)
    have e1 : sizeH ⟨0, 1, 1000⟩ = 1 := by decide
    unfold tle at ht
    rw [e1] at p q ht
    simp only [Int.mul_zero, Int.one_mul, Int.mul_one] at p q ht
    exact ⟨e, he, by omega, by omega, by rw [q]; exact ht⟩
  · obtain ⟨e, he, hs, ht⟩ := hT.has hz ⟨-1, 0, 1000⟩ (hf _ (by decide))
    obtain ⟨p, q⟩ := same_scale (hzS e he) (by simp [nz]) hs
    have pz := sizeH_pos (hzS e he)
    have e1 : sizeH ⟨-1, 0, 1000⟩ = 1 := by decide
    unfold tle at ht
    rw [e1] at p q ht
    simp only [Int.mul_zero, Int.one_mul, Int.mul_one, Int.mul_neg] at p q ht
    exact ⟨e, he, by omega, by omega, by rw [p, Int.neg_neg]; exact ht⟩
  · obtain ⟨e, he, hs, ht⟩ := hT.has hz ⟨0, -1, 1000⟩ (hf _ (by decide))
    obtain ⟨p, q⟩ := same_scale (hzS e he) (by simp [nz]) hs
    have pz := sizeH_pos (hzS e he)
    have e1 : sizeH ⟨0, -1, 1000⟩ = 1 := by decide
    unfold tle at ht
    rw [e1] at p q ht
    simp only [Int.mul_zero, Int.one_mul, Int.mul_one, Int.mul_neg] at p q ht
    exact ⟨e, he, by omega, by omega, by rw [q, Int.neg_neg]; exact ht⟩

/-- a half plane, and one of its direction: multiples but for their bounds -/
theorem same_det {k i g h : Half} (hg : nz g) (hh : nz h) (hs : sameDir g h = true) : sizeH g * det3 k i h = sizeH h * det3 k i g + (sizeH g * h.C - sizeH h * g.C) * cross k i := by
  obtain ⟨e1, e2⟩ := same_scale hg hh hs
  unfold det3 cross
  generalize sizeH g = s at *
  generalize sizeH h = t at *
  grind

/-- the lists L and L': what was made of L, and a list of its edges and of looser ones -/
theorem make_again {L L' : List Half} (hL : ∀ x ∈ L, halfOk x = true) (hf : ∀ x ∈ frame, x ∈ L) (hf' : ∀ x ∈ frame, x ∈ L') {S S' : List Half} (hT : Tst S L) (hT' : Tst S' L')
    (hsub : ∀ x ∈ L', x ∈ L) (ho : openP S) (hne : edges S ≠ []) (hE : ∀ x ∈ edges S, x ∈ L') : openP S' ∧ edges S' = edges S := by
  have hL' : ∀ x ∈ L', halfOk x = true := fun x hx => hL x (hsub x hx)
  have hS := good_of hT hL hf
  have hS' := good_of hT' hL' hf'
  have hz := ok_nz hL
  -- each of S' has a tighter one of its direction in S
  have up : ∀ x ∈ S', ∃ y ∈ S, sameDir y x = true ∧ tle y x := fun x hx => hT.has hz x (hsub x (hT'.sub hx))
  have open' : openP S' := by
    intro g hg h hh h0 hn
    obtain ⟨a, ha, sa, ta⟩ := up g hg
    obtain ⟨b, hb, sb, tb⟩ := up h hh
    have zg := hS'.nz g hg
    have zh := hS'.nz h hh
    have za := hS.nz a ha
    have zb := hS.nz b hb
    have pa := sizeH_pos za
    have pb := sizeH_pos zb
    have pg := sizeH_pos zg
    have ph := sizeH_pos zh
    have c1 : cross a b = 0 := by
      have e1 := same_turn (c := b) za zg sa
      have e2 := same_turn (c := g) zb zh sb
      have e3 := cross_anti g b
      have e4 := cross_anti g h
      rw [show cross h g = 0 by omega, Int.mul_zero] at e2
      have e5 : cross b g = 0 := (Int.mul_eq_zero.1 e2).resolve_left (by omega)
      rw [show cross g b = 0 by omega, Int.mul_zero] at e1
      exact (Int.mul_eq_zero.1 e1).resolve_left (by omega)
    have c2 : sameDir a b = false := by
      rw [← Bool.not_eq_true]
      intro e
      have := same_trans zg za zh (sameDir_symm sa) (same_trans za zb zh e sb)
      rw [hn] at this; cases this
    have r := ho a ha b hb c1 c2
    unfold tle at ta tb
    unfold room at r ⊢
    have q1 := Int.mul_pos (Int.mul_pos r pg) ph
    have q2 := Int.mul_le_mul_of_nonneg_right (Int.mul_le_mul_of_nonneg_right ta (Int.le_of_lt pb)) (Int.le_of_lt ph)
    have q3 := Int.mul_le_mul_of_nonneg_right (Int.mul_le_mul_of_nonneg_right tb (Int.le_of_lt pa)) (Int.le_of_lt pg)
    have q4 : 0 < sizeH a * sizeH b * (g.C * sizeH h + h.C * sizeH g) := by grind
    exact pos_of_mul' (Int.mul_pos pa pb) q4
  -- the edges of S are edges of S'
  have there : ∀ k ∈ edges S, k ∈ S' := by
    intro k hk
    obtain ⟨hkS, _⟩ := edges_mem.1 hk
    exact (hT'.mem k).2 ⟨hE k hk, fun y hy e => ((hT.mem k).1 hkS).2 y (hsub y hy) e⟩
  have keeps : ∀ k ∈ edges S, edgeF S' k := by
    intro k hk i hi j hj fi fj
    obtain ⟨hkS, he⟩ := edges_mem.1 hk
    obtain ⟨a, ha, sa, ta⟩ := up i hi
    obtain ⟨b, hb, sb, tb⟩ := up j hj
    have zi := hS'.nz i hi
    have zj := hS'.nz j hj
    have za := hS.nz a ha
    have zb := hS.nz b hb
    have pa := sizeH_pos za
    have pb := sizeH_pos zb
    have pi := sizeH_pos zi
    have pj := sizeH_pos zj
    have e1 := same_turn (c := k) za zi sa
    have e2 := same_turn (c := k) zb zj sb
    rw [cross_anti k a, cross_anti k i] at e1
    rw [cross_anti k b, cross_anti k j] at e2
    have f1 : cross k a < 0 := by
      have := Int.mul_neg_of_pos_of_neg pa fi
      rw [Int.mul_neg, Int.mul_neg] at e1
      rcases Int.lt_or_le (cross k a) 0 with x | x
      · exact x
      · have := Int.mul_nonneg (Int.le_of_lt pi) x; omega
    have f2 : 0 < cross k b := by
      have := Int.mul_pos pb fj
      rw [Int.mul_neg, Int.mul_neg] at e2
      exact pos_of_mul' pj (by omega)
    have d := he a ha b hb f1 f2
    have g1 := same_det (k := k) (i := a) zb zj sb
    have g2 := same_det (k := k) (i := j) za zi sa
    unfold tle at ta tb
    have w1 := det3_swap2 k i j
    have w2 := det3_swap2 k a j
    rw [w1, w2] at g2
    -- size b * det k a j = size j * det k a b + (..) * cross k a: below 0
    have m1 := Int.mul_neg_of_pos_of_neg pj d
    have m2 := mul_pn (show 0 ≤ sizeH b * j.C - sizeH j * b.C by rw [Int.mul_comm, Int.mul_comm (sizeH j)]; omega) (Int.le_of_lt f1)
    have d2 : det3 k a j < 0 := by
      rcases Int.lt_or_le (det3 k a j) 0 with x | x
      · exact x
      · have := Int.mul_nonneg (Int.le_of_lt pb) x; omega
    have m3 := Int.mul_neg_of_pos_of_neg pi d2
    have m4 := Int.mul_nonneg (show 0 ≤ sizeH a * i.C - sizeH i * a.C by rw [Int.mul_comm, Int.mul_comm (sizeH i)]; omega) (Int.le_of_lt fj)
    rcases Int.lt_or_le (det3 k i j) 0 with x | x
    · exact x
    · have := Int.mul_nonneg (Int.le_of_lt pa) x
      rw [Int.mul_neg, Int.mul_neg] at g2
      omega
  refine ⟨open', srt_eq (edges_srt hS'.srt) (edges_srt hS.srt) fun k => ⟨fun hk => ?_, fun hk => edges_mem.2 ⟨there k hk, keeps k hk⟩⟩⟩
  obtain ⟨hkS, he⟩ := edges_mem.1 hk
  obtain ⟨i, hi, j, hj, ni, nj, si, sj, hd⟩ := edgeF_S hS' open' hkS he
  -- what lies in S' lies in S
  have all : ∀ p, (∀ m ∈ S', sat k p m) → ∀ m ∈ S, sat k p m := by
    intro p hp m hm
    obtain ⟨a, ha, b, hb, hc, h1, h2⟩ := implied hS ho hne hm
    exact sat_implied hc hm h1 h2 (hp a (there a ha)) (hp b (there b hb))
  obtain ⟨s, hs, ss, ts⟩ := up k hkS
  have zk := hS'.nz k hkS
  have zs := hS.nz s hs
  have pk := sizeH_pos zk
  have e := same_det (k := k) (i := i) zk zs (sameDir_symm ss)
  have z : det3 k i k = 0 := by unfold det3 cross; grind
  rw [z, Int.mul_zero, Int.zero_add] at e
  have ts' := ts
  unfold tle at ts
  have t2 : tle k s := by
    unfold tle
    have q := all i si s hs
    rcases Int.lt_or_le 0 (sizeH s * k.C - sizeH k * s.C) with x | x
    · exfalso
      unfold sat at q
      rcases q with ⟨p, q⟩ | ⟨p, q⟩
      · have m1 := Int.mul_nonneg (Int.le_of_lt pk) q
        have m2 := Int.mul_neg_of_neg_of_pos (show sizeH k * s.C - sizeH s * k.C < 0 by omega) p
        omega
      · have m1 := mul_pn (Int.le_of_lt pk) q
        have m2 := Int.mul_pos_of_neg_of_neg (show sizeH k * s.C - sizeH s * k.C < 0 by omega) p
        omega
    · rw [Int.mul_comm, Int.mul_comm s.C]; omega
  have ek : s = k := tle_antisymm (hL s (hT.sub hs)) (hL' k (hT'.sub hkS)) ss ts' t2
  exact edges_mem.2 ⟨by rw [← ek]; exact hs, edgeF_of ni nj (all i si) (all j sj) hd⟩
end Go.Proofs.YtlgkfjhbimffiaaDoor
