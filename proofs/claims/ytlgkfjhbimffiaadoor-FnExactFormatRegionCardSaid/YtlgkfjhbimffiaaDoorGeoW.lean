/- Plain geometry: what the loops of the program and of the reference compute, against the edges. -/
import Derived.Test.YtlgkfjhbimffiaaDoorGeoI
namespace Go.Proofs.YtlgkfjhbimffiaaDoor
set_option linter.unusedVariables false

/-- the square of a direction's length -/
def sqH (h : Half) : Int := h.A * h.A + h.B * h.B
theorem sq_pos {h : Half} (hz : nz h) : 0 < sqH h := by
  unfold sqH nz at *
  have h1 : 0 ≤ h.A * h.A := by rcases Int.le_total 0 h.A with x | x; exact Int.mul_nonneg x x; exact Int.mul_nonneg_of_nonpos_of_nonpos x x
  have h2 : 0 ≤ h.B * h.B := by rcases Int.le_total 0 h.B with x | x; exact Int.mul_nonneg x x; exact Int.mul_nonneg_of_nonpos_of_nonpos x x
  rcases hz with x | x
  · have : h.A * h.A ≠ 0 := fun e => x (by rcases Int.mul_eq_zero.1 e with y | y <;> exact y)
    omega
  · have : h.B * h.B ≠ 0 := fun e => x (by rcases Int.mul_eq_zero.1 e with y | y <;> exact y)
    omega
/-- the place of the crossing of the borders of h and g along the border of h -/
def frN (h g : Half) : Int := if cross h g < 0 then -(g.C * sqH h - h.C * (h.A * g.A + h.B * g.B)) else g.C * sqH h - h.C * (h.A * g.A + h.B * g.B)
def frD (h g : Half) : Int := if cross h g < 0 then -cross h g else cross h g
theorem frD_pos {h g : Half} (hn : cross h g ≠ 0) : 0 < frD h g := by unfold frD; split <;> omega
theorem fr_det {h i j : Half} (hi : cross h i < 0) (hj : 0 < cross h j) : frN h j * frD h i - frN h i * frD h j = -(sqH h * det3 h i j) := by
  unfold frN frD
  rw [if_pos hi, if_neg (by omega), if_pos hi, if_neg (by omega)]
  unfold det3 cross sqH
  grind
theorem fr_lt {h i j : Half} (hz : nz h) (hi : cross h i < 0) (hj : 0 < cross h j) : frN h i * frD h j < frN h j * frD h i ↔ det3 h i j < 0 := by
  have e := fr_det hi hj
  have hp := sq_pos hz
  constructor
  · intro h1
    have : 0 < -(sqH h * det3 h i j) := by omega
    rcases Int.lt_or_le (det3 h i j) 0 with x | x
    · exact x
    · have := Int.mul_nonneg (Int.le_of_lt hp) x
      omega
  · intro h1
    have := Int.mul_neg_of_pos_of_neg hp h1
    omega
theorem fr_trans {a b c d e f : Int} (hb : 0 < b) (hd : 0 < d) (hf : 0 < f) (h1 : a * d ≤ c * b) (h2 : c * f ≤ e * d) : a * f ≤ e * b := by
  have x1 := Int.mul_le_mul_of_nonneg_right h1 (Int.le_of_lt hf)
  have x2 := Int.mul_le_mul_of_nonneg_right h2 (Int.le_of_lt hb)
  have x3 : d * (a * f) ≤ d * (e * b) := by
    rw [show d * (a * f) = a * d * f by grind, show d * (e * b) = e * d * b by grind]
    rw [show c * b * f = c * f * b by grind] at x1
    omega
  exact Int.le_of_mul_le_mul_left x3 hd
/-- a place on a border, as the program's loop keeps it -/
structure Mark where
  n : Int
  d : Int
  is : Bool
def onSide (later : Bool) (h g : Half) : Prop := if later = true then cross h g < 0 else 0 < cross h g
def noWorse (later : Bool) (n d n' d' : Int) : Prop := if later = true then n' * d ≤ n * d' else n * d' ≤ n' * d
/-- m is the greatest (least) place of those of done -/
def Best (later : Bool) (h : Half) (done : List Half) (m : Mark) : Prop :=
  (m.is = false ∧ ∀ g ∈ done, ¬ onSide later h g) ∨ (m.is = true ∧ ∃ g ∈ done, onSide later h g ∧ m.n = frN h g ∧ m.d = frD h g ∧ ∀ g' ∈ done, onSide later h g' → noWorse later m.n m.d (frN h g') (frD h g'))
theorem onSide_ne {later : Bool} {h g : Half} (hs : onSide later h g) : cross h g ≠ 0 := by unfold onSide at hs; split at hs <;> omega
theorem Best.nil (later : Bool) (h : Half) : Best later h [] ⟨0, 0, false⟩ := .inl ⟨rfl, fun g hg => by cases hg⟩
theorem Best.pos {later : Bool} {h : Half} {done : List Half} {m : Mark} (hb : Best later h done m) (hi : m.is = true) : 0 < m.d := by
  rcases hb with ⟨h1, _⟩ | ⟨_, g, _, hs, _, hd, _⟩
  · rw [h1] at hi; cases hi
  · rw [hd]; exact frD_pos (onSide_ne hs)
theorem Best.skip {later : Bool} {h g : Half} {done : List Half} {m : Mark} (hb : Best later h done m) (hn : ¬ onSide later h g) : Best later h (done ++ [g]) m := by
  rcases hb with ⟨h1, h2⟩ | ⟨h1, g0, hg0, hs, e1, e2, h3⟩
  · refine .inl ⟨h1, fun x hx => ?_⟩
    rcases List.mem_append.1 hx with hx | hx
    · exact h2 x hx
    · rw [List.mem_singleton.1 hx]; exact hn
  · refine .inr ⟨h1, g0, List.mem_append_left _ hg0, hs, e1, e2, fun x hx hsx => ?_⟩
    rcases List.mem_append.1 hx with hx | hx
    · exact h3 x hx hsx
    · rw [List.mem_singleton.1 hx] at hsx; exact absurd hsx hn
theorem noWorse_refl (later : Bool) (n d : Int) : noWorse later n d n d := by unfold noWorse; split <;> omega
theorem Best.first {later : Bool} {h g : Half} {done : List Half} {m : Mark} (hb : Best later h done m) (h0 : m.is = false) (hs : onSide later h g) : Best later h (done ++ [g]) ⟨frN h g, frD h g, true⟩ := by
  rcases hb with ⟨h1, h2⟩ | ⟨h1, _⟩
  · refine .inr ⟨rfl, g, by simp, hs, rfl, rfl, fun x hx hsx => ?_⟩
    rcases List.mem_append.1 hx with hx | hx
    · exact absurd hsx (h2 x hx)
    · rw [List.mem_singleton.1 hx]; exact noWorse_refl _ _ _
  · rw [h1] at h0; cases h0
theorem Best.keep {later : Bool} {h g : Half} {done : List Half} {m : Mark} (hb : Best later h done m) (h0 : m.is = true) (hk : noWorse later m.n m.d (frN h g) (frD h g)) : Best later h (done ++ [g]) m := by
  rcases hb with ⟨h1, h2⟩ | ⟨h1, g0, hg0, hs, e1, e2, h3⟩
  · rw [h1] at h0; cases h0
  · refine .inr ⟨h1, g0, List.mem_append_left _ hg0, hs, e1, e2, fun x hx hsx => ?_⟩
    rcases List.mem_append.1 hx with hx | hx
    · exact h3 x hx hsx
    · rw [List.mem_singleton.1 hx]; exact hk
theorem Best.take {later : Bool} {h g : Half} {done : List Half} {m : Mark} (hb : Best later h done m) (h0 : m.is = true) (hs : onSide later h g) (hk : ¬ noWorse later m.n m.d (frN h g) (frD h g)) : Best later h (done ++ [g]) ⟨frN h g, frD h g, true⟩ := by
  have hd := hb.pos h0
  have hg := frD_pos (onSide_ne hs)
  rcases hb with ⟨h1, h2⟩ | ⟨h1, g0, hg0, hs0, e1, e2, h3⟩
  · rw [h1] at h0; cases h0
  · refine .inr ⟨rfl, g, by simp, hs, rfl, rfl, fun x hx hsx => ?_⟩
    rcases List.mem_append.1 hx with hx | hx
    · have hw := h3 x hx hsx
      have hxp := frD_pos (onSide_ne hsx)
      unfold noWorse at *
      cases later
      · simp only [Bool.false_eq_true, if_false] at *
        exact fr_trans hg hd hxp (by omega) hw
      · simp only [if_true] at *
        exact fr_trans hxp hd hg hw (by omega)
    · rw [List.mem_singleton.1 hx]; exact noWorse_refl _ _ _
/-- what narrow does to a mark -/
def narrowM (m : Mark) (n d : Int) (later : Bool) : Mark :=
  if m.is = true ∧ ((later = true ∧ cmpI (n * m.d) (m.n * d) ≤ 0) ∨ (later = false ∧ 0 ≤ cmpI (n * m.d) (m.n * d))) then m else ⟨n, d, true⟩
theorem cmpI_ge {x y : Int} : 0 ≤ cmpI x y ↔ y ≤ x := by unfold cmpI; split <;> (try split) <;> omega
theorem cmpI_le' {x y : Int} : cmpI x y ≤ 0 ↔ x ≤ y := by unfold cmpI; split <;> (try split) <;> omega
theorem cmpI_lt' {x y : Int} : cmpI x y < 0 ↔ x < y := by unfold cmpI; split <;> (try split) <;> omega
theorem Best.narrow {later : Bool} {h g : Half} {done : List Half} {m : Mark} (hb : Best later h done m) (hs : onSide later h g) : Best later h (done ++ [g]) (narrowM m (frN h g) (frD h g) later) := by
  unfold narrowM
  split
  · rename_i hc
    refine hb.keep hc.1 ?_
    unfold noWorse
    rcases hc.2 with ⟨h1, h2⟩ | ⟨h1, h2⟩
    · rw [if_pos h1]; exact cmpI_le'.1 h2
    · rw [if_neg (by rw [h1]; simp)]; exact cmpI_ge.1 h2
  · rename_i hc
    cases hm : m.is
    · exact hb.first hm hs
    · refine hb.take hm hs (fun hw => hc ⟨hm, ?_⟩)
      unfold noWorse at hw
      cases later
      · exact .inr ⟨rfl, cmpI_ge.2 (by simpa using hw)⟩
      · exact .inl ⟨rfl, cmpI_le'.2 (by simpa using hw)⟩
theorem edge_of_best {S : List Half} {k : Half} {F T : Mark} (hS : Good S) (hk : k ∈ S) (hF : Best true k S F) (hT : Best false k S T) :
    (F.is && T.is && decide (cmpI (F.n * T.d) (T.n * F.d) < 0)) = edgeFb S k := by
  have hz := hS.nz k hk
  obtain ⟨lo, hlo, clo⟩ := hS.fr.lo hz
  obtain ⟨hi, hhi, chi⟩ := hS.fr.hi hz
  rcases hF with ⟨_, h2⟩ | ⟨f1, f, hf, sf, fn, fd, fb⟩
  · exact absurd (show onSide true k lo from clo) (h2 lo hlo)
  rcases hT with ⟨_, h2⟩ | ⟨t1, t, ht, st, tn, td, tb⟩
  · exact absurd (show onSide false k hi from by unfold onSide; simpa using chi) (h2 hi hhi)
  have sf' : cross k f < 0 := sf
  have st' : 0 < cross k t := by unfold onSide at st; simpa using st
  rw [f1, t1, Bool.true_and, Bool.true_and, Bool.eq_iff_iff, decide_eq_true_eq, cmpI_lt', edgeFb_iff]
  constructor
  · intro h i hi j hj ci cj
    have w1 := fb i hi ci
    have w2 := tb j hj (by unfold onSide; simpa using cj)
    unfold noWorse at w1 w2
    simp only [if_true, Bool.false_eq_true, if_false] at w1 w2
    rw [fn, fd] at w1 h
    rw [tn, td] at w2 h
    have pi := frD_pos (h := k) (g := i) (by omega)
    have pj := frD_pos (h := k) (g := j) (by omega)
    have pf := frD_pos (h := k) (g := f) (by omega)
    have pt := frD_pos (h := k) (g := t) (by omega)
    rw [← fr_lt hz ci cj]
    -- i <= f < t <= j
    rcases Int.lt_or_le (frN k i * frD k j) (frN k j * frD k i) with x | x
    · exact x
    · exfalso
      -- j <= i, so t <= j <= i <= f
      have y1 := fr_trans pt pj pi w2 x
      have y2 := fr_trans pt pi pf y1 w1
      omega
  · intro h
    rw [fn, fd, tn, td]
    exact (fr_lt hz sf' st').2 (h f hf t ht sf' st')
/-- no opposite half plane without room, among those at the first n places, k itself apart -/
def roomAt (S : List Half) (k i : Nat) : Bool := decide (i = k) || decide (cross (S.getD k ⟨0, 0, 0⟩) (S.getD i ⟨0, 0, 0⟩) ≠ 0) || decide (0 < room (S.getD i ⟨0, 0, 0⟩) (S.getD k ⟨0, 0, 0⟩))
theorem room_symm (g h : Half) : room g h = room h g := by unfold room; omega
theorem open_rooms {S : List Half} (hS : Good S) : openB S = true ↔ ∀ k i, k < S.length → i < S.length → roomAt S k i = true := by
  rw [openB_iff]
  unfold openP roomAt
  constructor
  · intro h k i hk hi
    simp only [Bool.or_eq_true, decide_eq_true_eq, List.getD_eq_getElem?_getD, List.getElem?_eq_getElem hk, List.getElem?_eq_getElem hi, Option.getD_some]
    by_cases e : i = k
    · exact .inl (.inl e)
    · by_cases c : cross S[k] S[i] = 0
      · refine .inr ?_
        rw [room_symm]
        refine h _ (List.getElem_mem hk) _ (List.getElem_mem hi) c ?_
        cases hd : sameDir S[k] S[i]
        · rfl
        · exfalso
          rcases Nat.lt_or_gt_of_ne e with x | x
          · have := before_not_same (hS.srt.at_ hi hk x)
            rw [sameDir_symm hd] at this
            cases this
          · have := before_not_same (hS.srt.at_ hk hi x)
            rw [hd] at this
            cases this
      · exact .inl (.inr c)
  · intro h g hg x hx c hs
    obtain ⟨k, hk, rfl⟩ := List.mem_iff_getElem.1 hg
    obtain ⟨i, hi, rfl⟩ := List.mem_iff_getElem.1 hx
    have := h k i hk hi
    simp only [Bool.or_eq_true, decide_eq_true_eq, List.getD_eq_getElem?_getD, List.getElem?_eq_getElem hk, List.getElem?_eq_getElem hi, Option.getD_some] at this
    rcases this with (e | e) | e
    · subst e
      rw [sameDir_refl] at hs
      cases hs
    · exact absurd c e
    · rw [room_symm]; exact e

/-- the place of a half plane in a sorted list -/
def placeH (h : Half) : List Half → Nat
  | [] => 0
  | g :: l => if before g h = true then placeH h l + 1 else 0
theorem placeH_le (h : Half) : ∀ l : List Half, placeH h l ≤ l.length
  | [] => Nat.le_refl _
  | g :: l => by
    unfold placeH
    split
    · have := placeH_le h l; simp; omega
    · simp
theorem placeH_before (h : Half) : ∀ (l : List Half) (i : Nat) (hi : i < l.length), i < placeH h l → before l[i] h = true
  | g :: l, i, hi, hp => by
    unfold placeH at hp
    split at hp
    · rename_i hb
      cases i with
      | zero => exact hb
      | succ i => exact placeH_before h l i (by simpa using hi) (by omega)
    · omega
theorem placeH_at (h : Half) : ∀ (l : List Half) (hp : placeH h l < l.length), before l[placeH h l] h = false
  | g :: l, hp => by
    by_cases hb : before g h = true
    · have e : placeH h (g :: l) = placeH h l + 1 := if_pos hb
      have hp' : placeH h l < l.length := by rw [e] at hp; simpa using hp
      have := placeH_at h l hp'
      simp only [e, List.getElem_cons_succ]
      exact this
    · have e : placeH h (g :: l) = 0 := if_neg hb
      simp only [e, List.getElem_cons_zero]
      simpa using hb
theorem placeH_of {h : Half} {l : List Half} {k : Nat} (hk : k ≤ l.length) (h1 : ∀ i (hi : i < l.length), i < k → before l[i] h = true) (h2 : ∀ hk : k < l.length, before l[k] h = false) : placeH h l = k := by
  rcases Nat.lt_trichotomy (placeH h l) k with x | x | x
  · have := placeH_at h l (by omega)
    rw [h1 _ (by omega) x] at this
    cases this
  · exact x
  · have hl := placeH_le h l
    have := placeH_before h l k (by omega) x
    rw [h2 (by omega)] at this
    cases this
theorem insertH_same (h : Half) : ∀ (l : List Half) (hp : placeH h l < l.length), sameDir l[placeH h l] h = true → insertH h l = l.set (placeH h l) (tighter l[placeH h l] h)
  | g :: l, hp, hs => by
    by_cases hb : before g h = true
    · have e : placeH h (g :: l) = placeH h l + 1 := if_pos hb
      have hp' : placeH h l < l.length := by rw [e] at hp; simpa using hp
      simp only [e, List.getElem_cons_succ] at hs ⊢
      have := insertH_same h l hp' hs
      unfold insertH
      rw [if_pos hb, this]
      rfl
    · have e : placeH h (g :: l) = 0 := if_neg hb
      simp only [e, List.getElem_cons_zero] at hs ⊢
      unfold insertH
      rw [if_neg hb, if_pos hs]
      rfl
theorem insertH_new (h : Half) : ∀ (l : List Half), (∀ hp : placeH h l < l.length, sameDir l[placeH h l] h = false) → insertH h l = l.take (placeH h l) ++ h :: l.drop (placeH h l)
  | [], _ => rfl
  | g :: l, hs => by
    by_cases hb : before g h = true
    · have e : placeH h (g :: l) = placeH h l + 1 := if_pos hb
      have := insertH_new h l (fun hp => by
        have := hs (by rw [e]; simpa using hp)
        simp only [e, List.getElem_cons_succ] at this
        exact this)
      unfold insertH
      rw [if_pos hb, this, e]
      rfl
    · have e : placeH h (g :: l) = 0 := if_neg hb
      have := hs (by rw [e]; simp)
      simp only [e, List.getElem_cons_zero] at this
      unfold insertH
      rw [if_neg hb, if_neg (by rw [this]; simp), e]
      rfl
theorem insertH_len (h : Half) : ∀ l : List Half, (insertH h l).length ≤ l.length + 1
  | [] => Nat.le_refl _
  | g :: l => by
    unfold insertH
    split
    · have := insertH_len h l; simp; omega
    · split <;> simp
def sortedTo (l : List Half) (k : Nat) : List Half := sortedH (l.take k)
theorem sortedTo_succ {l : List Half} {k : Nat} (h : k < l.length) : sortedTo l (k + 1) = insertH l[k] (sortedTo l k) := by
  unfold sortedTo sortedH
  rw [List.take_succ_eq_append_getElem h, List.foldl_append]
  rfl
theorem sortedTo_all (l : List Half) : sortedTo l l.length = sortedH l := by unfold sortedTo; rw [List.take_length]
theorem sortedTo_len (l : List Half) : ∀ k, (sortedTo l k).length ≤ k
  | 0 => Nat.le_refl _
  | k + 1 => by
    by_cases h : k < l.length
    · rw [sortedTo_succ h]
      have := insertH_len l[k] (sortedTo l k)
      have := sortedTo_len l k
      omega
    · have : sortedTo l (k + 1) = sortedTo l k := by unfold sortedTo; rw [List.take_of_length_le (by omega), List.take_of_length_le (by omega)]
      rw [this]
      have := sortedTo_len l k
      omega
theorem insertH_ok {h : Half} {l : List Half} (hh : halfOk h = true) (hl : ∀ x ∈ l, halfOk x = true) : ∀ x ∈ insertH h l, halfOk x = true := fun x hx => by
  rcases insertH_sub h l x hx with rfl | hx
  · exact hh
  · exact hl x hx
theorem sortedTo_ok {l : List Half} (hl : ∀ x ∈ l, halfOk x = true) : ∀ k, ∀ x ∈ sortedTo l k, halfOk x = true
  | 0 => fun x hx => by cases hx
  | k + 1 => by
    by_cases h : k < l.length
    · rw [sortedTo_succ h]
      exact insertH_ok (hl _ (List.getElem_mem h)) (sortedTo_ok hl k)
    · have : sortedTo l (k + 1) = sortedTo l k := by unfold sortedTo; rw [List.take_of_length_le (by omega), List.take_of_length_le (by omega)]
      rw [this]
      exact sortedTo_ok hl k

/-- what is made of half planes -/
def madeOf (hs : List Half) : List Half := makeI (sortedH (frame ++ hs))
def fitR (l : List Half) : List Half × Bool := if l.length ≤ 40 then (l, true) else ([], false)
def fromR (hs : List Half) : List Half × Bool := if hs.length ≤ 40 ∧ hs.all halfOk = true then fitR (madeOf hs) else ([], false)
def regOk (hs : List Half) : Bool := hs.isEmpty || ((fromR hs).2 && decide ((fromR hs).1 = hs))
theorem made_good {hs : List Half} (h : hs.all halfOk = true) : Good (sortedH (frame ++ hs)) := by
  have hok : ∀ x ∈ frame ++ hs, halfOk x = true := fun x hx => by
    rcases List.mem_append.1 hx with hx | hx
    · exact frame_ok x hx
    · exact List.all_eq_true.1 h x hx
  exact good_of (sortedH_tst hok) hok (fun x hx => List.mem_append_left _ hx)
theorem made_spec {hs : List Half} (h : hs.all halfOk = true) : madeOf hs = makeS (sortedH (hs ++ frame)) := by
  have hok : ∀ x ∈ frame ++ hs, halfOk x = true := fun x hx => by
    rcases List.mem_append.1 hx with hx | hx
    · exact frame_ok x hx
    · exact List.all_eq_true.1 h x hx
  unfold madeOf
  rw [make_eq (made_good h), sortedH_same (l' := hs ++ frame) hok (fun x => by simp only [List.mem_append]; exact Or.comm)]
theorem made_len (hs : List Half) : (madeOf hs).length ≤ 4 + hs.length := by
  unfold madeOf makeI
  split
  · refine Nat.le_trans (List.length_filter_le _ _) ?_
    have := sortedTo_len (frame ++ hs) (frame ++ hs).length
    rw [sortedTo_all, List.length_append] at this
    exact this
  · simp
end Go.Proofs.YtlgkfjhbimffiaaDoor
