/- Regions that are cut: what is made of a region and more half planes has no other edges; what is made is a region. -/
import Derived.Test.YtfnmbpjkjajpcaaGreatDoorFbPz
namespace Go.Proofs.YtfnmbpjkjajpcaaGreatDoor
set_option linter.unusedVariables false
theorem edge_loosen {L L' S S' : List Half} (hL : ∀ x ∈ L, halfOk x = true) (hT : Tst S L) (hT' : Tst S' L') (hsub : ∀ x ∈ L', x ∈ L) {k : Half} (hk : k ∈ S) (he : edgeF S k) (hk' : k ∈ L') : k ∈ S' ∧ edgeF S' k := by
  have hz := ok_nz hL
  have zS : Nz S := fun x hx => hz x (hT.sub hx)
  have zS' : Nz S' := fun x hx => hz x (hsub x (hT'.sub hx))
  have up : ∀ x ∈ S', ∃ y ∈ S, sameDir y x = true ∧ tle y x := fun x hx => hT.has hz x (hsub x (hT'.sub hx))
  refine ⟨(hT'.mem k).2 ⟨hk', fun y hy e => ((hT.mem k).1 hk).2 y (hsub y hy) e⟩, ?_⟩
  intro i hi j hj fi fj
  obtain ⟨a, ha, sa, ta⟩ := up i hi
  obtain ⟨b, hb, sb, tb⟩ := up j hj
  have zi := zS' i hi
  have zj := zS' j hj
  have za := zS a ha
  have zb := zS b hb
  have pa := sizeH_pos za
  have pb := sizeH_pos zb
  have pi := sizeH_pos zi
  have pj := sizeH_pos zj
  have e1 := same_turn (c := k) za zi sa
  have e2 := same_turn (c := k) zb zj sb
  rw [cross_anti k a, cross_anti k i] at e1
  rw [cross_anti k b, cross_anti k j] at e2
  have f1 : cross k a < 0 := by
    have := Int.mul_neg_of_pos_of_neg pa fi
    rw [Int.mul_neg, Int.mul_neg] at e1
    rcases Int.lt_or_le (cross k a) 0 with x | x
    · exact x
    · have := Int.mul_nonneg (Int.le_of_lt pi) x; omega
  have f2 : 0 < cross k b := by
    have := Int.mul_pos pb fj
    rw [Int.mul_neg, Int.mul_neg] at e2
    exact pos_of_mul' pj (by omega)
  have d := he a ha b hb f1 f2
  have g1 := same_det (k := k) (i := a) zb zj sb
  have g2 := same_det (k := k) (i := j) za zi sa
  unfold tle at ta tb
  have w1 := det3_swap2 k i j
  have w2 := det3_swap2 k a j
  rw [w1, w2] at g2
  have m1 := Int.mul_neg_of_pos_of_neg pj d
  have m2 := mul_pn (show 0 ≤ sizeH b * j.C - sizeH j * b.C by rw [Int.mul_comm, Int.mul_comm (sizeH j)]; omega) (Int.le_of_lt f1)
  have d2 : det3 k a j < 0 := by
    rcases Int.lt_or_le (det3 k a j) 0 with x | x
    · exact x
    · have := Int.mul_nonneg (Int.le_of_lt pb) x; omega
  have m3 := Int.mul_neg_of_pos_of_neg pi d2
  have m4 := Int.mul_nonneg (show 0 ≤ sizeH a * i.C - sizeH i * a.C by rw [Int.mul_comm, Int.mul_comm (sizeH i)]; omega) (Int.le_of_lt fj)
  rcases Int.lt_or_le (det3 k i j) 0 with x | x
  · exact x
  · have := Int.mul_nonneg (Int.le_of_lt pa) x
    rw [Int.mul_neg, Int.mul_neg] at g2
    omega
theorem all_ok {hs : List Half} (h : hs.all halfOk = true) : ∀ x ∈ hs, halfOk x = true := fun x hx => List.all_eq_true.1 h x hx
theorem framed_ok {hs : List Half} (h : hs.all halfOk = true) : ∀ x ∈ frame ++ hs, halfOk x = true := fun x hx => by
  rcases List.mem_append.1 hx with h1 | h1
  · exact frame_ok x h1
  · exact all_ok h x h1
theorem made_sub {hs : List Half} (h : hs.all halfOk = true) : ∀ x ∈ madeOf hs, x ∈ frame ++ hs := fun x hx => by
  unfold madeOf makeI at hx
  split at hx
  · exact (sortedH_tst (framed_ok h)).sub (List.mem_filter.1 hx).1
  · cases hx
theorem made_edge {hs : List Half} : ∀ x ∈ madeOf hs, x ∈ sortedH (frame ++ hs) ∧ edgeF (sortedH (frame ++ hs)) x := fun x hx => by
  unfold madeOf makeI at hx
  split at hx
  · have := List.mem_filter.1 hx; exact ⟨this.1, edgeFb_iff.1 this.2⟩
  · cases hx
theorem made_eq_edges {hs : List Half} (hne : madeOf hs ≠ []) : openP (sortedH (frame ++ hs)) ∧ madeOf hs = edges (sortedH (frame ++ hs)) := by
  unfold madeOf makeI at hne ⊢
  split
  · rename_i h; exact ⟨openB_iff.1 h, rfl⟩
  · rename_i h; rw [if_neg h] at hne; exact absurd rfl hne
theorem made_of {hs : List Half} (ho : openP (sortedH (frame ++ hs))) : madeOf hs = edges (sortedH (frame ++ hs)) := by
  unfold madeOf makeI
  rw [if_pos (openB_iff.2 ho)]; rfl
theorem made_all {hs : List Half} (h : hs.all halfOk = true) : (madeOf hs).all halfOk = true := List.all_eq_true.2 fun x hx => framed_ok h x (made_sub h x hx)
theorem made_srt {hs : List Half} (h : hs.all halfOk = true) : Srt (madeOf hs) := by
  unfold madeOf makeI
  split
  · exact (sortedH_tst (framed_ok h)).srt.sublist List.filter_sublist
  · exact List.Pairwise.nil
theorem made_again {hs : List Half} (h : hs.all halfOk = true) (hne : madeOf hs ≠ []) : madeOf (madeOf hs) = madeOf hs := by
  obtain ⟨ho, he⟩ := made_eq_edges hne
  have hE := made_all h
  have hL := framed_ok h
  have hT := sortedH_tst hL
  have hT' := sortedH_tst (framed_ok hE)
  obtain ⟨o', e'⟩ := make_again hL (L' := frame ++ madeOf hs) (fun x hx => List.mem_append_left _ hx) (fun x hx => List.mem_append_left _ hx) hT hT'
    (fun x hx => by
      rcases List.mem_append.1 hx with h1 | h1
      · exact List.mem_append_left _ h1
      · exact made_sub h x h1) ho (by rw [← he]; exact hne) (fun x hx => List.mem_append_right _ (by rw [he]; exact hx))
  rw [made_of o', e', ← he]
theorem fit_ok {l : List Half} (h : l.length ≤ 40) : fitR l = (l, true) := if_pos h
theorem made_regOk {hs : List Half} (h : hs.all halfOk = true) (hl : (madeOf hs).length ≤ 40) : regOk (madeOf hs) = true := by
  by_cases hne : madeOf hs = []
  · rw [hne]; rfl
  unfold regOk fromR
  rw [if_pos ⟨hl, made_all h⟩, made_again h hne, fit_ok hl]
  simp
theorem fit_regOk {hs : List Half} (h : hs.all halfOk = true) : regOk (fitR (madeOf hs)).1 = true := by
  unfold fitR
  split
  · rename_i hl; exact made_regOk h hl
  · rfl
theorem regOk_made {hs : List Half} (h : regOk hs = true) (hne : hs ≠ []) : hs.all halfOk = true ∧ hs.length ≤ 40 ∧ madeOf hs = hs := by
  unfold regOk at h
  cases hs with
  | nil => exact absurd rfl hne
  | cons x l =>
    simp only [List.isEmpty_cons, Bool.false_or, Bool.and_eq_true, decide_eq_true_eq] at h
    obtain ⟨h1, h2⟩ := h
    unfold fromR at h1 h2
    split at h1
    · rename_i h3
      rw [if_pos h3] at h2
      refine ⟨h3.2, h3.1, ?_⟩
      unfold fitR at h1 h2
      split at h1
      · rename_i h4; rw [if_pos h4] at h2; exact h2
      · cases h1
    · cases h1
theorem nodup_sub_len {α : Type} [DecidableEq α] : ∀ {l m : List α}, l.Nodup → (∀ x ∈ l, x ∈ m) → l.length ≤ m.length := by
  intro l
  induction l with
  | nil => intro m _ _; simp
  | cons x l ih =>
    intro m hn hs
    have h1 := hs x (List.mem_cons_self ..)
    have h2 := ih (m := m.erase x) (List.nodup_cons.1 hn).2 (fun y hy => (List.mem_erase_of_ne (fun e => (List.nodup_cons.1 hn).1 (by rw [← e]; exact hy))).2 (hs y (List.mem_cons_of_mem _ hy)))
    rw [List.length_erase_of_mem h1] at h2
    have := List.length_pos_of_mem h1
    simp only [List.length_cons]
    omega
theorem made_cut {p q : List Half} (hp : regOk p = true) (hne : p ≠ []) (hq : q.all halfOk = true) : ∀ x ∈ madeOf (p ++ q), x ∈ p ++ q := by
  obtain ⟨pok, _, pm⟩ := regOk_made hp hne
  have hpq : (p ++ q).all halfOk = true := by rw [List.all_append, pok, hq]; rfl
  intro x hx
  have hxf := made_sub hpq x hx
  obtain ⟨hxS, hxE⟩ := made_edge x hx
  rcases List.mem_append.1 hxf with h1 | h1
  · obtain ⟨ho, he⟩ := made_eq_edges (hs := p) (by rw [pm]; exact hne)
    obtain ⟨g1, g2⟩ := edge_loosen (framed_ok hpq) (sortedH_tst (framed_ok hpq)) (sortedH_tst (framed_ok pok)) (fun y hy => by
      rcases List.mem_append.1 hy with h | h
      · exact List.mem_append_left _ h
      · exact List.mem_append_right _ (List.mem_append_left _ h)) hxS hxE (List.mem_append_left _ h1)
    refine List.mem_append_left _ ?_
    rw [← pm, he]
    exact edges_mem.2 ⟨g1, g2⟩
  · exact h1
theorem made_cut_len {p q : List Half} (hp : regOk p = true) (hne : p ≠ []) (hq : q.all halfOk = true) : (madeOf (p ++ q)).length ≤ p.length + q.length := by
  obtain ⟨pok, _, _⟩ := regOk_made hp hne
  have hpq : (p ++ q).all halfOk = true := by rw [List.all_append, pok, hq]; rfl
  have := nodup_sub_len (made_srt hpq).nodup (made_cut hp hne hq)
  rwa [List.length_append] at this
theorem made_cut_fit {p q : List Half} (hp : regOk p = true) (hne : p ≠ []) (hq : q.all halfOk = true) (hl : p.length + q.length ≤ 40) : fitR (madeOf (p ++ q)) = (madeOf (p ++ q), true) := fit_ok (by have := made_cut_len hp hne hq; omega)
end Go.Proofs.YtfnmbpjkjajpcaaGreatDoor
namespace Go.Proofs.YtfnmbpjkjajpcaaGreatDoor
set_option linter.unusedVariables false
theorem implied_dir {S : List Half} (hS : Good S) (ho : openP S) (hne : edges S ≠ []) {m : Half} (zm : nz m) :
    ∃ t, ∃ ht : t < (edges S).length, ∃ hu : (t + 1) % (edges S).length < (edges S).length, Corner S (edges S)[t] (edges S)[(t + 1) % (edges S).length] ∧ 0 ≤ cross (edges S)[t] m ∧ 0 ≤ cross m (edges S)[(t + 1) % (edges S).length] := by
  have sE := edges_srt hS.srt
  have zE : Nz (edges S) := fun x hx => hS.nz x (edges_mem.1 hx).1
  have hn0 : 0 < (edges S).length := List.length_pos_iff.2 hne
  -- the number of edges that do not come behind m
  have key : ∀ n, n ≤ (edges S).length → (∀ t (ht : t < (edges S).length), t < n → before m (edges S)[t] = false) ∨
      (∃ t, ∃ ht : t < (edges S).length, before m (edges S)[t] = true ∧ ∀ u (hu : u < (edges S).length), u < t → before m (edges S)[u] = false) := by
    intro n
    induction n with
    | zero => intro _; exact .inl fun t _ h => by omega
    | succ n ih =>
      intro hn
      rcases ih (by omega) with h | h
      · cases hb : before m ((edges S)[n]'(by omega)) with
        | true => exact .inr ⟨n, by omega, hb, fun u hu hlt => h u hu hlt⟩
        | false =>
          refine .inl fun t ht hlt => ?_
          by_cases e : t = n
          · subst e; exact hb
          · exact h t ht (by omega)
      · exact .inr h
  have weak : ∀ t (ht : t < (edges S).length), before m (edges S)[t] = false → sameDir (edges S)[t] m = true ∨ before (edges S)[t] m = true := by
    intro t ht hb
    rcases before_tri (edges S)[t] m with h | h | h
    · exact .inr h
    · exact .inl h
    · rw [hb] at h; cases h
  have corner : ∀ t (ht : t < (edges S).length) (hu : (t + 1) % (edges S).length < (edges S).length), Corner S (edges S)[t] (edges S)[(t + 1) % (edges S).length] := fun t ht hu => next_at hS ho ht hu
  rcases key (edges S).length (Nat.le_refl _) with h | ⟨t, ht, hb, hlow⟩
  · -- all edges come before m, or have its direction: the last and the first
    have hl : (edges S).length - 1 < (edges S).length := by omega
    have em : ((edges S).length - 1 + 1) % (edges S).length = 0 := by rw [show (edges S).length - 1 + 1 = (edges S).length by omega]; exact Nat.mod_self _
    have co := corner _ hl (by rw [em]; exact hn0)
    simp only [em] at co
    have za := zE _ (List.getElem_mem hl)
    have zb := zE _ (List.getElem_mem hn0)
    refine ⟨_, hl, by rw [em]; exact hn0, ?_⟩
    simp only [em]
    refine ⟨co, ?_⟩
    have hne1 : (edges S).length ≠ 1 := by
      intro e1
      have := co.1
      simp only [e1] at this
      rw [cross_self] at this
      omega
    have b0 := sE.at_ hn0 hl (by omega)
    rcases weak _ hl (h _ hl hl) with w | w
    · refine ⟨by rw [same_cross w]; omega, ?_⟩
      have e1 := same_turn (c := (edges S)[0]) za zm w
      have := Int.mul_pos (sizeH_pos zm) co.1
      exact pos_of_mul (sizeH_pos za) (by omega)
    · obtain ⟨c1, c2⟩ := mid2 za zm zb b0 w co.1
      omega
  · by_cases ht0 : t = 0
    · subst ht0
      have hl : (edges S).length - 1 < (edges S).length := by omega
      have em : ((edges S).length - 1 + 1) % (edges S).length = 0 := by rw [show (edges S).length - 1 + 1 = (edges S).length by omega]; exact Nat.mod_self _
      have co := corner _ hl (by rw [em]; exact hn0)
      simp only [em] at co
      have za := zE _ (List.getElem_mem hl)
      have zb := zE _ (List.getElem_mem hn0)
      refine ⟨_, hl, by rw [em]; exact hn0, ?_⟩
      simp only [em]
      refine ⟨co, ?_⟩
      have hne1 : (edges S).length ≠ 1 := by
        intro e1
        have := co.1
        simp only [e1] at this
        rw [cross_self] at this
        omega
      have b0 := sE.at_ hn0 hl (by omega)
      obtain ⟨c1, c2⟩ := mid3 za zm zb hb b0 co.1
      omega
    · have ht1 : t - 1 < (edges S).length := by omega
      have em : (t - 1 + 1) % (edges S).length = t := by rw [show t - 1 + 1 = t by omega]; exact Nat.mod_eq_of_lt ht
      have co := corner _ ht1 (by rw [em]; exact ht)
      simp only [em] at co
      have za := zE _ (List.getElem_mem ht1)
      have zb := zE _ (List.getElem_mem ht)
      refine ⟨_, ht1, by rw [em]; exact ht, ?_⟩
      simp only [em]
      refine ⟨co, ?_⟩
      rcases weak _ ht1 (hlow _ ht1 (by omega)) with w | w
      · refine ⟨by rw [same_cross w]; omega, ?_⟩
        have e1 := same_turn (c := (edges S)[t]) za zm w
        have := Int.mul_pos (sizeH_pos zm) co.1
        exact pos_of_mul (sizeH_pos za) (by omega)
      · obtain ⟨c1, c2⟩ := mid1 za zm zb w hb co.1
        omega
def listOf (p : List Half) : List Half := sortedH (frame ++ p)
structure Shape (p : List Half) : Prop where
  good : Good (listOf p)
  open_ : openP (listOf p)
  eq : edges (listOf p) = p
  all : p.all halfOk = true
  len : p.length ≤ 40
  ne : p ≠ []
theorem shape_of {p : List Half} (h : regOk p = true) (hne : p ≠ []) : Shape p := by
  obtain ⟨h1, h2, h3⟩ := regOk_made h hne
  obtain ⟨ho, he⟩ := made_eq_edges (hs := p) (by rw [h3]; exact hne)
  exact ⟨made_good h1, ho, by unfold listOf; rw [← he, h3], h1, h2, hne⟩
theorem Shape.sub {p : List Half} (h : Shape p) : ∀ x ∈ p, x ∈ listOf p := fun x hx => (edges_mem.1 (by rw [h.eq]; exact hx)).1
theorem Shape.pos {p : List Half} (h : Shape p) : 0 < p.length := List.length_pos_iff.2 h.ne
theorem Shape.nz {p : List Half} (h : Shape p) : Nz p := ok_nz (all_ok h.all)
theorem Shape.corner {p : List Half} (h : Shape p) {t : Nat} (ht : t < p.length) (hu : (t + 1) % p.length < p.length) : Corner (listOf p) p[t] p[(t + 1) % p.length] := by
  have e := h.eq
  have := next_at h.good h.open_ (t := t) (by rw [e]; exact ht) (by rw [e]; exact hu)
  simp only [e] at this
  exact this
theorem Shape.dir {p : List Half} (h : Shape p) {m : Half} (zm : Go.Proofs.YtfnmbpjkjajpcaaGreatDoor.nz m) :
    ∃ t, ∃ ht : t < p.length, ∃ hu : (t + 1) % p.length < p.length, Corner (listOf p) p[t] p[(t + 1) % p.length] ∧ 0 ≤ cross p[t] m ∧ 0 ≤ cross m p[(t + 1) % p.length] := by
  have e := h.eq
  have := implied_dir h.good h.open_ (by rw [e]; exact h.ne) zm
  simp only [e] at this
  exact this
theorem Corner.sat {S : List Half} {k j : Half} (h : Corner S k j) : ∀ m ∈ S, sat k j m := fun m hm => .inl ⟨h.1, h.2 m hm⟩
theorem Corner.inside {S : List Half} (hS : Good S) {k j : Half} (h : Corner S k j) : insideB S k j = true := (inside_iff hS).2 ⟨by have := h.1; omega, h.sat⟩
theorem Corner.frD {S : List Half} {k j : Half} (h : Corner S k j) : frD k j = cross k j := by
  unfold Go.Proofs.YtfnmbpjkjajpcaaGreatDoor.frD; rw [if_neg (by have := h.1; omega)]
theorem Corner.box {S : List Half} (hS : Good S) {k j : Half} (h : Corner S k j) : inBox (ptX k j) (ptY k j) (Go.Proofs.YtfnmbpjkjajpcaaGreatDoor.frD k j) = true := by
  have := h.inside hS
  unfold insideB at this
  rw [Bool.and_eq_true] at this
  exact this.1
theorem Corner.inPt {S : List Half} (hS : Good S) {k j : Half} (h : Corner S k j) : ∀ m ∈ S, inPt (ptX k j) (ptY k j) (Go.Proofs.YtfnmbpjkjajpcaaGreatDoor.frD k j) m = true := by
  have := h.inside hS
  unfold insideB at this
  rw [Bool.and_eq_true] at this
  exact List.all_eq_true.1 this.2
def inH (h : Half) (s : Spot) : Prop := h.A * s.X + h.B * s.Y ≤ h.C * s.D
theorem Shape.follows {p : List Half} (h : Shape p) {s : Spot} (hd : 0 < s.D) (hs : ∀ x ∈ p, inH x s) : ∀ m ∈ listOf p, inH m s := by
  intro m hm
  obtain ⟨t, ht, hu, co, c1, c2⟩ := h.dir (h.good.nz m hm)
  have h1 := hs _ (List.getElem_mem ht)
  have h2 := hs _ (List.getElem_mem hu)
  obtain ⟨c0, c3⟩ := co
  have c4 := c3 m hm
  generalize p[t] = a at *
  generalize p[(t + 1) % p.length] = b at *
  unfold inH at *
  have q1 := Int.mul_le_mul_of_nonneg_left h1 c2
  have q2 := Int.mul_le_mul_of_nonneg_left h2 c1
  have q3 := Int.mul_nonneg c4 (Int.le_of_lt hd)
  refine Int.le_of_mul_le_mul_left (a := cross a b) ?_ c0
  have e1 : cross a b * (m.A * s.X + m.B * s.Y) = cross m b * (a.A * s.X + a.B * s.Y) + cross a m * (b.A * s.X + b.B * s.Y) := by unfold cross; grind
  have e2 : cross a b * (m.C * s.D) = cross m b * (a.C * s.D) + cross a m * (b.C * s.D) + det3 a b m * s.D := by unfold det3 cross; grind
  omega
end Go.Proofs.YtfnmbpjkjajpcaaGreatDoor
namespace Go.Proofs.YtfnmbpjkjajpcaaGreatDoor
set_option linter.unusedVariables false
def halfOfZ (a b c : Int) : Half × Bool :=
  if (isLeastI a = false ∧ isLeastI b = false ∧ isLeastI c = false) ∧ halfOk ⟨a / (gcd3 a b c : Int), b / (gcd3 a b c : Int), c / (gcd3 a b c : Int)⟩ = true then (⟨a / (gcd3 a b c : Int), b / (gcd3 a b c : Int), c / (gcd3 a b c : Int)⟩, true) else (⟨0, 0, 0⟩, false)
theorem halfOfZ_ok {a b c : Int} (h : (halfOfZ a b c).2 = true) : halfOk (halfOfZ a b c).1 = true := by
  unfold halfOfZ at h ⊢
  split
  · rename_i h1; exact h1.2
  · rename_i h1; rw [if_neg h1] at h; cases h
theorem halfOfZ_no {a b c : Int} (h : (halfOfZ a b c).2 = false) : halfOfZ a b c = (⟨0, 0, 0⟩, false) := by
  unfold halfOfZ at h ⊢
  split
  · rename_i h1; rw [if_pos h1] at h; cases h
  · rfl
def halfAt0 (hs : List Half) (i : Nat) : Half := hs.getD i ⟨0, 0, 0⟩
theorem halfAt0_at {hs : List Half} {i : Nat} (h : i < hs.length) : halfAt0 hs i = hs[i] := by simp [halfAt0, h]
def cornL (hs : List Half) : List Spot := (List.range hs.length).map fun i => lowPt (halfAt0 hs i) (halfAt0 hs ((i + 1) % hs.length))
theorem cornL_len (hs : List Half) : (cornL hs).length = hs.length := by simp [cornL]
def spotAt (l : List Spot) (k : Nat) : Spot := l.getD k ⟨0, 0, 0⟩
theorem spotAt_at {l : List Spot} {i : Nat} (h : i < l.length) : spotAt l i = l[i] := by simp [spotAt, h]
def farTo (a b : Int) (l : List Spot) : Nat → Int × Int × Int
  | 0 => (-1, 0, 0)
  | k + 1 => if (farTo a b l k).2.2 = 0 ∨ (farTo a b l k).2.1 * (spotAt l k).D < (a * (spotAt l k).X + b * (spotAt l k).Y) * (farTo a b l k).2.2
      then ((k : Int), a * (spotAt l k).X + b * (spotAt l k).Y, (spotAt l k).D) else farTo a b l k
def farOf (a b : Int) (hs : List Half) : Int × Int × Int := farTo a b (cornL hs) hs.length
def suppR (hs : List Half) (a b : Int) : Ratio := ratioOf (farOf a b hs).2.1 (farOf a b hs).2.2
structure SpotB (s : Spot) : Prop where
  d1 : 1 ≤ s.D
  d2 : s.D ≤ 5000000000
  x1 : -(1000 * s.D) ≤ s.X
  x2 : s.X ≤ 1000 * s.D
  y1 : -(1000 * s.D) ≤ s.Y
  y2 : s.Y ≤ 1000 * s.D
theorem low_B {x y d : Int} (hd : 0 < d) (hd2 : d ≤ 5000000000) (hb : inBox x y d = true) : SpotB (lowSpot x y d) := by
  obtain ⟨e1, e2, e3⟩ := low_mul x y d
  have hg : (0 : Int) < (gcd3 x y d : Int) := by have := gcd3_pos (x := x) (y := y) hd; omega
  have hp := low_pos (x := x) (y := y) hd
  unfold inBox at hb
  simp only [Bool.and_eq_true, decide_eq_true_eq] at hb
  obtain ⟨⟨⟨⟨_, b1⟩, b2⟩, b3⟩, b4⟩ := hb
  generalize lowSpot x y d = s at *
  generalize (gcd3 x y d : Int) = g at *
  have le : ∀ u v : Int, u * g ≤ v * g → u ≤ v := fun u v h => Int.le_of_mul_le_mul_right h hg
  have hle : s.D ≤ d := by
    have := Int.mul_le_mul_of_nonneg_left (show 1 ≤ g by omega) (Int.le_of_lt hp)
    omega
  refine ⟨by omega, by omega, le _ _ ?_, le _ _ ?_, le _ _ ?_, le _ _ ?_⟩
  · rw [Int.neg_mul, Int.mul_assoc, e3, e1]; omega
  · rw [Int.mul_assoc, e3, e1]; omega
  · rw [Int.neg_mul, Int.mul_assoc, e3, e2]; omega
  · rw [Int.mul_assoc, e3, e2]; omega
theorem Shape.corn {p : List Half} (h : Shape p) {i : Nat} (hi : i < p.length) (hu : (i + 1) % p.length < p.length) : (cornL p)[i]'(by rw [cornL_len]; exact hi) = lowPt p[i] p[(i + 1) % p.length] := by
  unfold cornL
  rw [List.getElem_map, List.getElem_range, halfAt0_at hi, halfAt0_at hu]
theorem Shape.spotB {p : List Half} (h : Shape p) : ∀ s ∈ cornL p, SpotB s := by
  intro s hs
  obtain ⟨i, hi, rfl⟩ := List.getElem_of_mem hs
  rw [cornL_len] at hi
  have hu := Nat.mod_lt (i + 1) h.pos
  rw [h.corn hi hu]
  have co := h.corner hi hu
  have hk := small_ok (all_ok h.all _ (List.getElem_mem hi))
  have hj := small_ok (all_ok h.all _ (List.getElem_mem hu))
  have hb := pt_bd hk hj
  exact low_B (by rw [co.frD]; exact co.1) (by omega) (co.box h.good)
theorem SpotB.mul {s : Spot} (h : SpotB s) {a b M : Int} (ha : -M ≤ a ∧ a ≤ M) (hb : -M ≤ b ∧ b ≤ M) : -(2000 * M * s.D) ≤ a * s.X + b * s.Y ∧ a * s.X + b * s.Y ≤ 2000 * M * s.D := by
  have h1 := mul_bd (a := a) (b := s.X) (A := M) (B := 1000 * s.D) ha ⟨h.x1, h.x2⟩
  have h2 := mul_bd (a := b) (b := s.Y) (A := M) (B := 1000 * s.D) hb ⟨h.y1, h.y2⟩
  have e : M * (1000 * s.D) + M * (1000 * s.D) = 2000 * M * s.D := by grind
  omega
theorem farTo_inv {a b M : Int} (ha : -M ≤ a ∧ a ≤ M) (hb : -M ≤ b ∧ b ≤ M) {l : List Spot} (hl : ∀ s ∈ l, SpotB s) : ∀ k, k ≤ l.length →
    (k = 0 ∧ farTo a b l k = (-1, 0, 0)) ∨ (0 < k ∧ ∃ i, ∃ hi : i < l.length, i < k ∧ farTo a b l k = ((i : Int), a * l[i].X + b * l[i].Y, l[i].D) ∧ ∀ j (hj : j < l.length), j < k → (a * l[j].X + b * l[j].Y) * l[i].D ≤ (a * l[i].X + b * l[i].Y) * l[j].D) := by
  intro k
  induction k with
  | zero => intro _; exact .inl ⟨rfl, rfl⟩
  | succ k ih =>
    intro hk
    have hkl : k < l.length := by omega
    rcases ih (by omega) with ⟨h1, h2⟩ | ⟨h1, i, hi, hik, h2, h3⟩
    · subst h1
      refine .inr ⟨by omega, 0, hkl, by omega, ?_, fun j hj hj1 => ?_⟩
      · rw [farTo, h2, if_pos (.inl rfl), spotAt_at hkl]
      · obtain rfl : j = 0 := by omega
        exact Int.le_refl _
    · have di := (hl _ (List.getElem_mem hi)).d1
      have dk := (hl _ (List.getElem_mem hkl)).d1
      by_cases hlt : (a * l[i].X + b * l[i].Y) * l[k].D < (a * l[k].X + b * l[k].Y) * l[i].D
      · refine .inr ⟨by omega, k, hkl, by omega, ?_, fun j hj hj1 => ?_⟩
        · rw [farTo, h2, spotAt_at hkl, if_pos (.inr hlt)]
        · by_cases e : j = k
          · subst e; exact Int.le_refl _
          · have dj := (hl _ (List.getElem_mem hj)).d1
            exact fr_trans (b := l[j].D) (d := l[i].D) (f := l[k].D) (by omega) (by omega) (by omega) (h3 j hj (by omega)) (by omega)
      · refine .inr ⟨by omega, i, hi, by omega, ?_, fun j hj hj1 => ?_⟩
        · rw [farTo, h2, spotAt_at hkl, if_neg]
          rintro (h | h)
          · simp only at h; omega
          · exact hlt h
        · by_cases e : j = k
          · subst e; omega
          · exact h3 j hj (by omega)
theorem farOf_at {a b M : Int} (ha : -M ≤ a ∧ a ≤ M) (hb : -M ≤ b ∧ b ≤ M) {p : List Half} (h : Shape p) :
    ∃ i, ∃ hi : i < (cornL p).length, farOf a b p = ((i : Int), a * (cornL p)[i].X + b * (cornL p)[i].Y, (cornL p)[i].D) ∧ ∀ j (hj : j < (cornL p).length), (a * (cornL p)[j].X + b * (cornL p)[j].Y) * (cornL p)[i].D ≤ (a * (cornL p)[i].X + b * (cornL p)[i].Y) * (cornL p)[j].D := by
  have hp := h.pos
  have hc := cornL_len p
  rcases farTo_inv ha hb h.spotB p.length (by omega) with ⟨h1, _⟩ | ⟨_, i, hi, _, h2, h3⟩
  · omega
  · exact ⟨i, hi, h2, fun j hj => h3 j hj (by omega)⟩
theorem supp_ok {a b : Int} (ha : -50000 ≤ a ∧ a ≤ 50000) (hb : -50000 ≤ b ∧ b ≤ 50000) {p : List Half} (h : Shape p) :
    ratioOk (suppR p a b) = true ∧ 1 ≤ (suppR p a b).D ∧ (suppR p a b).D ≤ 5000000000 ∧ -(100000000 * (suppR p a b).D) ≤ (suppR p a b).N ∧ (suppR p a b).N ≤ 100000000 * (suppR p a b).D := by
  obtain ⟨i, hi, e, _⟩ := farOf_at ha hb h
  have hB := h.spotB _ (List.getElem_mem hi)
  have hm := hB.mul ha hb
  have hd := hB.d1
  have hd2 := hB.d2
  unfold suppR
  rw [e]
  simp only
  obtain ⟨g1, g2, g3, g4, g5⟩ := ratioOf_good (n := a * (cornL p)[i].X + b * (cornL p)[i].Y) (d := (cornL p)[i].D) (by omega) hd (by omega)
  generalize (cornL p)[i] = s at *
  generalize a * s.X + b * s.Y = n at *
  generalize ratioOf n s.D = r at *
  have le : ∀ u v : Int, u * s.D ≤ v * s.D → u ≤ v := fun u v h => Int.le_of_mul_le_mul_right h (by omega)
  have m1 := Int.mul_le_mul_of_nonneg_right hm.1 (show 0 ≤ r.D by omega)
  have m2 := Int.mul_le_mul_of_nonneg_right hm.2 (show 0 ≤ r.D by omega)
  refine ⟨g1, g4, by omega, le _ _ ?_, le _ _ ?_⟩
  · rw [g2]
    have : -(100000000 * r.D) * s.D = -(2000 * 50000 * s.D) * r.D := by grind
    omega
  · rw [g2]
    have : 100000000 * r.D * s.D = 2000 * 50000 * s.D * r.D := by grind
    omega
def erodeH (w : List Half) (h : Half) : Half × Bool := halfOfZ (h.A * (suppR w h.A h.B).D) (h.B * (suppR w h.A h.B).D) (h.C * (suppR w h.A h.B).D - (suppR w h.A h.B).N)
def movedR (f : Half → Half × Bool) (p : List Half) : List Half × Bool := if p = [] then ([], true) else if p.all (fun h => (f h).2) = true then fitR (madeOf (p.map fun h => (f h).1)) else ([], false)
def erodeR (p w : List Half) : List Half × Bool := movedR (erodeH w) p
theorem moved_ok {f : Half → Half × Bool} (hf : ∀ h, (f h).2 = true → halfOk (f h).1 = true) (p : List Half) : regOk (movedR f p).1 = true := by
  unfold movedR
  split
  · rfl
  · split
    · rename_i h
      refine fit_regOk (List.all_eq_true.2 fun x hx => ?_)
      obtain ⟨y, hy, rfl⟩ := List.mem_map.1 hx
      exact hf y (List.all_eq_true.1 h y hy)
    · rfl
theorem erodeR_ok (p w : List Half) : regOk (erodeR p w).1 = true := moved_ok (fun _ h => halfOfZ_ok h) p
def growH (bx by_ low high : Int) (h : Half) : Half × Bool := halfOfZ h.A h.B (h.C + (if -low * (h.A * bx + h.B * by_) < -high * (h.A * bx + h.B * by_) then -high * (h.A * bx + h.B * by_) else -low * (h.A * bx + h.B * by_)))
def sideH (p : List Half) (a b : Int) : Half × Bool := halfOfZ (a * (suppR p a b).D) (b * (suppR p a b).D) (suppR p a b).N
def dirA (bx by_ : Int) : Int := (-by_).tdiv (Int.gcd bx by_ : Int)
def dirB (bx by_ : Int) : Int := bx.tdiv (Int.gcd bx by_ : Int)
def growR (p : List Half) (bx by_ low high : Int) : List Half × Bool :=
  if p = [] ∨ (bx = 0 ∧ by_ = 0) then (p, true) else
  if (sideH p (dirA bx by_) (dirB bx by_)).2 = true ∧ (sideH p (-dirA bx by_) (-dirB bx by_)).2 = true ∧ p.all (fun h => (growH bx by_ low high h).2) = true
  then fitR (madeOf ([(sideH p (dirA bx by_) (dirB bx by_)).1, (sideH p (-dirA bx by_) (-dirB bx by_)).1] ++ p.map fun h => (growH bx by_ low high h).1)) else ([], false)
theorem growR_ok {p : List Half} (hp : regOk p = true) (bx by_ low high : Int) : regOk (growR p bx by_ low high).1 = true := by
  unfold growR
  split
  · exact hp
  · split
    · rename_i h
      obtain ⟨h1, h2, h3⟩ := h
      refine fit_regOk (List.all_eq_true.2 fun x hx => ?_)
      rcases List.mem_append.1 hx with h | h
      · simp only [List.mem_cons, List.not_mem_nil, or_false] at h
        rcases h with rfl | rfl
        · exact halfOfZ_ok h1
        · exact halfOfZ_ok h2
      · obtain ⟨y, hy, rfl⟩ := List.mem_map.1 h
        exact halfOfZ_ok (List.all_eq_true.1 h3 y hy)
    · rfl
def pullH (a b c d q : Int) (h : Half) : Half × Bool := halfOfZ (h.A * a + h.B * c) (h.A * b + h.B * d) (h.C * q)
def pullR (p : List Half) (a b c d q : Int) : List Half × Bool := movedR (pullH a b c d q) p
theorem pullR_ok (p : List Half) (a b c d q : Int) : regOk (pullR p a b c d q).1 = true := moved_ok (fun _ h => halfOfZ_ok h) p
def meetR (p q : List Half) : List Half × Bool := if 40 < p.length + q.length then ([], false) else if p = [] ∨ q = [] then ([], true) else (madeOf (p ++ q), true)
theorem meet_fit {p q : List Half} (hp : regOk p = true) (hq : regOk q = true) (hl : p.length + q.length ≤ 40) (h1 : p ≠ []) (h2 : q ≠ []) : fitR (madeOf (p ++ q)) = (madeOf (p ++ q), true) :=
  made_cut_fit hp h1 (regOk_made hq h2).1 hl
theorem meetR_ok {p q : List Half} (hp : regOk p = true) (hq : regOk q = true) : regOk (meetR p q).1 = true := by
  unfold meetR
  split
  · rfl
  · split
    · rfl
    · rename_i h1 h2
      obtain ⟨a1, _, _⟩ := regOk_made hp (fun e => h2 (.inl e))
      obtain ⟨b1, _, _⟩ := regOk_made hq (fun e => h2 (.inr e))
      have := fit_regOk (hs := p ++ q) (by rw [List.all_append, a1, b1]; rfl)
      rwa [meet_fit hp hq (by omega) (fun e => h2 (.inl e)) (fun e => h2 (.inr e))] at this
def cutR (p : List Half) (h : Half) : List Half × Bool := if regOk p = true ∧ halfOk h = true ∧ p.length < 40 then (if p = [] then ([], true) else (madeOf (p ++ [h]), true)) else ([], false)
theorem cutR_ok (p : List Half) (h : Half) : regOk (cutR p h).1 = true := by
  unfold cutR
  split
  · rename_i h1
    split
    · rfl
    · rename_i hne
      obtain ⟨a1, _, _⟩ := regOk_made h1.1 hne
      have := fit_regOk (hs := p ++ [h]) (by rw [List.all_append, a1]; simp [h1.2.1])
      rwa [made_cut_fit h1.1 hne (by simp [h1.2.1]) (by have := h1.2.2; simp; omega)] at this
  · rfl
end Go.Proofs.YtfnmbpjkjajpcaaGreatDoor
namespace Go.Proofs.YtfnmbpjkjajpcaaGreatDoor
set_option linter.unusedVariables false
theorem supp_at {a b : Int} (ha : -50000 ≤ a ∧ a ≤ 50000) (hb : -50000 ≤ b ∧ b ≤ 50000) {p : List Half} (h : Shape p) :
    (∃ i, ∃ hi : i < (cornL p).length, (suppR p a b).N * (cornL p)[i].D = (a * (cornL p)[i].X + b * (cornL p)[i].Y) * (suppR p a b).D) ∧
    ∀ j (hj : j < (cornL p).length), (a * (cornL p)[j].X + b * (cornL p)[j].Y) * (suppR p a b).D ≤ (suppR p a b).N * (cornL p)[j].D := by
  obtain ⟨i, hi, e, hmost⟩ := farOf_at ha hb h
  have hB := h.spotB _ (List.getElem_mem hi)
  have hm := hB.mul ha hb
  have hd := hB.d1
  have hd2 := hB.d2
  unfold suppR
  rw [e]
  simp only
  obtain ⟨g1, g2, g3, g4, g5⟩ := ratioOf_good (n := a * (cornL p)[i].X + b * (cornL p)[i].Y) (d := (cornL p)[i].D) (by omega) hd (by omega)
  refine ⟨⟨i, hi, g2⟩, fun j hj => ?_⟩
  have k := hmost j hj
  generalize (cornL p)[i] = s at *
  generalize (cornL p)[j] = t at *
  generalize a * s.X + b * s.Y = n at *
  generalize a * t.X + b * t.Y = m at *
  generalize ratioOf n s.D = r at *
  refine Int.le_of_mul_le_mul_right (a := s.D) ?_ (by omega)
  have m1 := Int.mul_le_mul_of_nonneg_right k (show 0 ≤ r.D by omega)
  have e1 : m * r.D * s.D = m * s.D * r.D := by grind
  have e2 : r.N * t.D * s.D = n * t.D * r.D := by rw [show r.N * t.D * s.D = r.N * s.D * t.D by grind, g2]; grind
  omega
theorem supp_bd {a b M : Int} (hM : 0 ≤ M ∧ M ≤ 50000) (ha : -M ≤ a ∧ a ≤ M) (hb : -M ≤ b ∧ b ≤ M) {p : List Half} (h : Shape p) :
    -(2000 * M * (suppR p a b).D) ≤ (suppR p a b).N ∧ (suppR p a b).N ≤ 2000 * M * (suppR p a b).D := by
  obtain ⟨⟨i, hi, e⟩, _⟩ := supp_at (a := a) (b := b) (by omega) (by omega) h
  obtain ⟨_, q1, _⟩ := supp_ok (a := a) (b := b) (by omega) (by omega) h
  have hB := h.spotB _ (List.getElem_mem hi)
  have hm := hB.mul ha hb
  have hd := hB.d1
  generalize (cornL p)[i] = s at *
  generalize suppR p a b = r at *
  generalize a * s.X + b * s.Y = v at *
  have m1 := Int.mul_le_mul_of_nonneg_right hm.1 (show 0 ≤ r.D by omega)
  have m2 := Int.mul_le_mul_of_nonneg_right hm.2 (show 0 ≤ r.D by omega)
  constructor
  · refine Int.le_of_mul_le_mul_right (a := s.D) ?_ (by omega)
    rw [e]
    have : -(2000 * M * r.D) * s.D = -(2000 * M * s.D) * r.D := by grind
    omega
  · refine Int.le_of_mul_le_mul_right (a := s.D) ?_ (by omega)
    rw [e]
    have : 2000 * M * r.D * s.D = 2000 * M * s.D * r.D := by grind
    omega
end Go.Proofs.YtfnmbpjkjajpcaaGreatDoor
namespace Go.Proofs.YtfnmbpjkjajpcaaGreatDoor
set_option linter.unusedVariables false
end Go.Proofs.YtfnmbpjkjajpcaaGreatDoor
namespace Go.Proofs.YtfnmbpjkjajpcaaGreatDoor
set_option linter.unusedVariables false
structure Dyn where
  a : Int
  b : Int
  c : Int
  d : Int
  q : Int
  bx : Int
  by_ : Int
  low : Int
  high : Int
structure DynOk (r : Dyn) : Prop where
  a : -20 ≤ r.a ∧ r.a ≤ 20
  b : -20 ≤ r.b ∧ r.b ≤ 20
  c : -20 ≤ r.c ∧ r.c ≤ 20
  d : -20 ≤ r.d ∧ r.d ≤ 20
  q : 1 ≤ r.q ∧ r.q ≤ 20
  bx : -100 ≤ r.bx ∧ r.bx ≤ 100
  by_ : -100 ≤ r.by_ ∧ r.by_ ≤ 100
  low : -1000 ≤ r.low
  mid : r.low ≤ r.high
  high : r.high ≤ 1000
def mapX (r : Dyn) (s : Spot) : Int := r.a * s.X + r.b * s.Y
def mapY (r : Dyn) (s : Spot) : Int := r.c * s.X + r.d * s.Y
def mapD (r : Dyn) (s : Spot) : Int := r.q * s.D
def topH (r : Dyn) (s : Spot) (h : Half) : Int := h.C * mapD r s - h.A * mapX r s - h.B * mapY r s
def slopeH (r : Dyn) (h : Half) : Int := h.A * r.bx + h.B * r.by_
def admStep (r : Dyn) (s : Spot) (w : Span) (h : Half) : Option Span :=
  if 0 < slopeH r h then some ⟨w.Low, ratioMin w.High (ratioOf (topH r s h) (mapD r s * slopeH r h))⟩
  else if slopeH r h < 0 then some ⟨ratioMax w.Low (ratioOf (-topH r s h) (-mapD r s * slopeH r h)), w.High⟩
  else if topH r s h < 0 then none else some w
def admTo (r : Dyn) (s : Spot) (hs : List Half) : Nat → Option Span
  | 0 => some ⟨⟨r.low, 1⟩, ⟨r.high, 1⟩⟩
  | k + 1 => (admTo r s hs k).bind fun w => admStep r s w (halfAt0 hs k)
def zeroSpan : Span := ⟨⟨0, 0⟩, ⟨0, 0⟩⟩
def admitR (r : Dyn) (hs : List Half) (s : Spot) : Span × Bool :=
  match admTo r s hs hs.length with
  | some w => if spanOk w = true then (w, true) else (zeroSpan, false)
  | none => (zeroSpan, false)
theorem admTo_none {r : Dyn} {s : Spot} {hs : List Half} {k : Nat} (h : admTo r s hs k = none) : ∀ m, k ≤ m → admTo r s hs m = none := by
  intro m
  induction m with
  | zero => intro hk; obtain rfl : k = 0 := by omega
            exact h
  | succ m ih =>
    intro hk
    by_cases e : k = m + 1
    · subst e; exact h
    · rw [admTo, ih (by omega)]; rfl
theorem cmp_le {r s : Ratio} (hr : ratioOk r = true) (hs : ratioOk s = true) : ratioCmp r s ≤ 0 ↔ r.N * s.D ≤ s.N * r.D := by
  unfold ratioCmp; rw [if_pos ⟨hr, hs⟩]; exact cmpI_le
theorem cmp_ge {r s : Ratio} (hr : ratioOk r = true) (hs : ratioOk s = true) : ratioCmp r s ≥ 0 ↔ s.N * r.D ≤ r.N * s.D := by
  unfold ratioCmp; rw [if_pos ⟨hr, hs⟩]
  have := @cmpI_neg_iff (r.N * s.D) (s.N * r.D)
  constructor
  · intro h
    rcases Int.lt_or_le (r.N * s.D) (s.N * r.D) with x | x
    · have := this.2 x; omega
    · exact x
  · intro h
    rcases Int.lt_or_le (cmpI (r.N * s.D) (s.N * r.D)) 0 with x | x
    · have := this.1 x; omega
    · exact x
def rle (r s : Ratio) : Prop := r.N * s.D ≤ s.N * r.D
theorem rle_trans {r s t : Ratio} (hr : ratioOk r = true) (hs : ratioOk s = true) (ht : ratioOk t = true) (h1 : rle r s) (h2 : rle s t) : rle r t :=
  fr_trans (b := r.D) (d := s.D) (f := t.D) (ratioOk_bd hr).1 (ratioOk_bd hs).1 (ratioOk_bd ht).1 h1 h2
theorem rle_refl (r : Ratio) : rle r r := Int.le_refl _
theorem rle_total (r s : Ratio) : rle r s ∨ rle s r := by unfold rle; omega
theorem min_parts {r s : Ratio} (hr : ratioOk r = true) (hs : ratioOk s = true) : ratioOk (ratioMin r s) = true ∧ rle (ratioMin r s) r ∧ rle (ratioMin r s) s ∧ (ratioMin r s = r ∨ ratioMin r s = s) := by
  unfold ratioMin
  rw [if_pos (by rw [hr, hs]; rfl)]
  split
  · rename_i h; exact ⟨hr, rle_refl r, (cmp_le hr hs).1 h, .inl rfl⟩
  · rename_i h
    have : ¬ rle r s := fun e => h ((cmp_le hr hs).2 e)
    exact ⟨hs, (rle_total r s).resolve_left this, rle_refl s, .inr rfl⟩
theorem max_parts {r s : Ratio} (hr : ratioOk r = true) (hs : ratioOk s = true) : ratioOk (ratioMax r s) = true ∧ rle r (ratioMax r s) ∧ rle s (ratioMax r s) ∧ (ratioMax r s = r ∨ ratioMax r s = s) := by
  unfold ratioMax
  rw [if_pos (by rw [hr, hs]; rfl)]
  split
  · rename_i h; exact ⟨hr, rle_refl r, (cmp_ge hr hs).1 h, .inl rfl⟩
  · rename_i h
    have : ¬ rle s r := fun e => h ((cmp_ge hr hs).2 e)
    exact ⟨hs, (rle_total s r).resolve_left this, rle_refl s, .inr rfl⟩
structure SpotS (s : Spot) : Prop extends SpotB s where
  d3 : s.D ≤ 100000
theorem map_bd {r : Dyn} (hr : DynOk r) {s : Spot} (hs : SpotS s) : (-4000000000 ≤ mapX r s ∧ mapX r s ≤ 4000000000) ∧ (-4000000000 ≤ mapY r s ∧ mapY r s ≤ 4000000000) ∧ 1 ≤ mapD r s ∧ mapD r s ≤ 2000000 := by
  have b1 : -100000000 ≤ s.X ∧ s.X ≤ 100000000 := by have := hs.x1; have := hs.x2; have := hs.d3; omega
  have b2 : -100000000 ≤ s.Y ∧ s.Y ≤ 100000000 := by have := hs.y1; have := hs.y2; have := hs.d3; omega
  have m1 := mul_bd hr.a b1
  have m2 := mul_bd hr.b b2
  have m3 := mul_bd hr.c b1
  have m4 := mul_bd hr.d b2
  have m5 := Int.mul_le_mul hr.q.2 hs.d3 (by have := hs.d1; omega) (by omega)
  have m6 := Int.mul_le_mul hr.q.1 hs.d1 (by omega) (by have := hr.q.1; omega)
  unfold mapX mapY mapD
  omega
theorem top_bd {r : Dyn} (hr : DynOk r) {s : Spot} (hs : SpotS s) {h : Half} (hh : halfOk h = true) : (-600000000000000 ≤ topH r s h ∧ topH r s h ≤ 600000000000000) ∧ (-10000000 ≤ slopeH r h ∧ slopeH r h ≤ 10000000) ∧ (-20000000000000 ≤ mapD r s * slopeH r h ∧ mapD r s * slopeH r h ≤ 20000000000000) ∧
    (-200000000000000 ≤ h.C * mapD r s ∧ h.C * mapD r s ≤ 200000000000000) ∧ (-200000000000000 ≤ h.A * mapX r s ∧ h.A * mapX r s ≤ 200000000000000) ∧ (-200000000000000 ≤ h.B * mapY r s ∧ h.B * mapY r s ≤ 200000000000000) := by
  obtain ⟨x, y, d1, d2⟩ := map_bd hr hs
  obtain ⟨b1, b2, b3, b4, b5, b6, _⟩ := halfOk_bd hh
  have m1 := mul_bd (a := h.C) (b := mapD r s) (A := 100000000) (B := 2000000) ⟨b5, b6⟩ ⟨by omega, d2⟩
  have m2 := mul_bd (a := h.A) (b := mapX r s) (A := 50000) (B := 4000000000) ⟨b1, b2⟩ x
  have m3 := mul_bd (a := h.B) (b := mapY r s) (A := 50000) (B := 4000000000) ⟨b3, b4⟩ y
  have m4 := mul_bd (a := h.A) (b := r.bx) (A := 50000) (B := 100) ⟨b1, b2⟩ hr.bx
  have m5 := mul_bd (a := h.B) (b := r.by_) (A := 50000) (B := 100) ⟨b3, b4⟩ hr.by_
  have hsl : -10000000 ≤ slopeH r h ∧ slopeH r h ≤ 10000000 := by unfold slopeH; omega
  have m6 := mul_bd (a := mapD r s) (b := slopeH r h) (A := 2000000) (B := 10000000) ⟨by omega, d2⟩ hsl
  unfold topH
  omega
theorem admHigh_ok {r : Dyn} (hr : DynOk r) {s : Spot} (hs : SpotS s) {h : Half} (hh : halfOk h = true) (hn : 0 < slopeH r h) : ratioOk (ratioOf (topH r s h) (mapD r s * slopeH r h)) = true ∧ (ratioOf (topH r s h) (mapD r s * slopeH r h)).N * (mapD r s * slopeH r h) = topH r s h * (ratioOf (topH r s h) (mapD r s * slopeH r h)).D := by
  obtain ⟨t, _, m, _⟩ := top_bd hr hs hh
  have hp := Int.mul_pos (map_bd hr hs).2.2.1 hn
  obtain ⟨g1, g2, _⟩ := ratioOf_good (n := topH r s h) (d := mapD r s * slopeH r h) (by omega) (by omega) (by omega)
  exact ⟨g1, g2⟩
theorem admLow_ok {r : Dyn} (hr : DynOk r) {s : Spot} (hs : SpotS s) {h : Half} (hh : halfOk h = true) (hn : slopeH r h < 0) : ratioOk (ratioOf (-topH r s h) (-mapD r s * slopeH r h)) = true ∧ (ratioOf (-topH r s h) (-mapD r s * slopeH r h)).N * (-mapD r s * slopeH r h) = -topH r s h * (ratioOf (-topH r s h) (-mapD r s * slopeH r h)).D := by
  obtain ⟨t, _, m, _⟩ := top_bd hr hs hh
  have hp := Int.mul_neg_of_pos_of_neg (map_bd hr hs).2.2.1 hn
  have e : -mapD r s * slopeH r h = -(mapD r s * slopeH r h) := Int.neg_mul ..
  obtain ⟨g1, g2, _⟩ := ratioOf_good (n := -topH r s h) (d := -mapD r s * slopeH r h) (by omega) (by omega) (by omega)
  exact ⟨g1, g2⟩
def keepsH (r : Dyn) (s : Spot) (u : Ratio) (h : Half) : Prop := slopeH r h * u.N * mapD r s ≤ topH r s h * u.D
structure AdmInv (r : Dyn) (s : Spot) (hs : List Half) (k : Nat) (w : Span) : Prop where
  lo : ratioOk w.Low = true
  hi : ratioOk w.High = true
  low : rle ⟨r.low, 1⟩ w.Low
  high : rle w.High ⟨r.high, 1⟩
  keep : ∀ u, ratioOk u = true → rle w.Low u → rle u w.High → ∀ i (hi : i < hs.length), i < k → keepsH r s u hs[i]
theorem admInv {r : Dyn} (hr : DynOk r) {s : Spot} (hs : SpotS s) {l : List Half} (hl : l.all halfOk = true) : ∀ k, k ≤ l.length → ∀ w, admTo r s l k = some w → AdmInv r s l k w := by
  have o1 := ratioOk_one (n := r.low) (by have := hr.low; omega) (by have := hr.mid; have := hr.high; omega)
  have o2 := ratioOk_one (n := r.high) (by have := hr.low; have := hr.mid; omega) (by have := hr.high; omega)
  intro k
  induction k with
  | zero =>
    intro _ w h
    injection h with h
    subst h
    exact ⟨o1, o2, rle_refl _, rle_refl _, fun u _ _ _ i _ hi => by omega⟩
  | succ k ih =>
    intro hk w h
    rw [admTo] at h
    obtain ⟨w0, h0, h1⟩ := Option.bind_eq_some_iff.1 h
    have I := ih (by omega) w0 h0
    rw [halfAt0_at (show k < l.length by omega)] at h1
    have hh := all_ok hl _ (List.getElem_mem (show k < l.length by omega))
    have hd := (map_bd hr hs).2.2.1
    unfold admStep at h1
    split at h1
    · rename_i hn
      injection h1 with h1
      subst h1
      obtain ⟨g1, g2⟩ := admHigh_ok hr hs hh hn
      obtain ⟨m1, m2, m3, _⟩ := min_parts I.hi g1
      refine ⟨I.lo, m1, I.low, rle_trans m1 I.hi o2 m2 I.high, fun u hu a b i hi hik => ?_⟩
      by_cases e : i = k
      · subst e
        have q := rle_trans hu m1 g1 b m3
        unfold keepsH
        unfold rle at q
        generalize ratioOf (topH r s l[i]) (mapD r s * slopeH r l[i]) = z at *
        have zd := (ratioOk_bd g1).1
        have q2 := Int.mul_le_mul_of_nonneg_right q (Int.le_of_lt (Int.mul_pos hd hn))
        refine Int.le_of_mul_le_mul_right (a := z.D) ?_ (by omega)
        have e1 : slopeH r l[i] * u.N * mapD r s * z.D = u.N * z.D * (mapD r s * slopeH r l[i]) := by grind
        have e2 : topH r s l[i] * u.D * z.D = z.N * u.D * (mapD r s * slopeH r l[i]) := by rw [show z.N * u.D * (mapD r s * slopeH r l[i]) = z.N * (mapD r s * slopeH r l[i]) * u.D by grind, g2]; grind
        omega
      · exact I.keep u hu a (rle_trans hu m1 I.hi b m2) i hi (by omega)
    · split at h1
      · rename_i hn0 hn
        injection h1 with h1
        subst h1
        obtain ⟨g1, g2⟩ := admLow_ok hr hs hh hn
        obtain ⟨m1, m2, m3, _⟩ := max_parts I.lo g1
        refine ⟨m1, I.hi, rle_trans o1 I.lo m1 I.low m2, I.high, fun u hu a b i hi hik => ?_⟩
        by_cases e : i = k
        · subst e
          have q := rle_trans g1 m1 hu m3 a
          unfold keepsH
          unfold rle at q
          generalize ratioOf (-topH r s l[i]) (-mapD r s * slopeH r l[i]) = z at *
          have zd := (ratioOk_bd g1).1
          have hp := Int.mul_neg_of_pos_of_neg hd hn
          have en : -mapD r s * slopeH r l[i] = -(mapD r s * slopeH r l[i]) := Int.neg_mul ..
          have q2 := Int.mul_le_mul_of_nonneg_right q (show 0 ≤ -mapD r s * slopeH r l[i] by omega)
          refine Int.le_of_mul_le_mul_right (a := z.D) ?_ (by omega)
          have e1 : slopeH r l[i] * u.N * mapD r s * z.D = -(u.N * z.D * (-mapD r s * slopeH r l[i])) := by grind
          have e2 : topH r s l[i] * u.D * z.D = -(z.N * u.D * (-mapD r s * slopeH r l[i])) := by rw [show z.N * u.D * (-mapD r s * slopeH r l[i]) = z.N * (-mapD r s * slopeH r l[i]) * u.D by grind, g2]; grind
          omega
        · exact I.keep u hu (rle_trans I.lo m1 hu m2 a) b i hi (by omega)
      · split at h1
        · cases h1
        · rename_i hn0 hn1 ht
          injection h1 with h1
          subst h1
          refine ⟨I.lo, I.hi, I.low, I.high, fun u hu a b i hi hik => ?_⟩
          by_cases e : i = k
          · subst e
            unfold keepsH
            have : slopeH r l[i] = 0 := by omega
            rw [this, Int.zero_mul, Int.zero_mul]
            exact Int.mul_nonneg (by omega) (by have := (ratioOk_bd hu).1; omega)
          · exact I.keep u hu a b i hi (by omega)
end Go.Proofs.YtfnmbpjkjajpcaaGreatDoor
