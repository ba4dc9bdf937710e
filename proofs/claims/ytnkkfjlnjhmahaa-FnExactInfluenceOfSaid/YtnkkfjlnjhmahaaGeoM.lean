/- Regions that are cut: what is made of a region and more half planes has no other edges; what is made is a region. -/
import Derived.Test.YtnkkfjlnjhmahaaPz
namespace Go.Proofs.Ytnkkfjlnjhmahaa
set_option linter.unusedVariables false

/-- an edge of the tighter list that stands in the looser list is an edge of it -/
theorem edge_loosen {L L' S S' : List Half} (hL : ∀ x ∈ L, halfOk x = true) (hT : Tst S L) (hT' : Tst S' L') (hsub : ∀ x ∈ L', x ∈ L) {k : Half} (hk : k ∈ S) (he : edgeF S k) (hk' : k ∈ L') : k ∈ S' ∧ edgeF S' k := by
  have hz := ok_nz hL
  have zS : Nz S := fun x hx => hz x (hT.sub hx)
  have zS' : Nz S' := fun x hx => hz x (hsub x (hT'.sub hx))
  have up : ∀ x ∈ S', ∃ y ∈ S, sameDir y x = true ∧ tle y x := fun x hx => hT.has hz x (hsub x (hT'.sub hx))
  refine ⟨(hT'.mem k).2 ⟨hk', fun y hy e => ((hT.mem k).1 hk).2 y (hsub y hy) e⟩, ?_⟩
  intro i hi j hj fi fj
  obtain ⟨a, ha, sa, ta⟩ := up i hi
  obtain ⟨b, hb, sb, tb⟩ := up j hj
  have zi := zS' i hi
  have zj := zS' j hj
  have za := zS a ha
  have zb := zS b hb
  have pa := sizeH_pos za
  have pb := sizeH_pos zb
  have pi := sizeH_pos zi
  have pj := sizeH_pos zj
  have e1 := same_turn (c := k) za zi sa
  have e2 := same_turn (c := k) zb zj sb
  rw [cross_anti k a, cross_anti k i] at e1
  rw [cross_anti k b, cross_anti k j] at e2
  have f1 : cross k a < 0 := by
    have := Int.mul_neg_of_pos_of_neg pa fi
    rw [Int.mul_neg, Int.mul_neg] at e1
    rcases Int.lt_or_le (cross k a) 0 with x | x
    · exact x
    · have := Int.mul_nonneg (Int.le_of_lt pi) x; omega
  have f2 : 0 < cross k b := by
    have := Int.mul_pos pb fj
    rw [Int.mul_neg, Int.mul_neg] at e2
    exact pos_of_mul' pj (by omega)
  have d := he a ha b hb f1 f2
  have g1 := same_det (k := k) (i := a) zb zj sb
  have g2 := same_det (k := k) (i := j) za zi sa
  unfold tle at ta tb
  have w1 := det3_swap2 k i j
  have w2 := det3_swap2 k a j
  rw [w1, w2] at g2
  have m1 := Int.mul_neg_of_pos_of_neg pj d
  have m2 := mul_pn (show 0 ≤ sizeH b * j.C - sizeH j * b.C by rw [Int.mul_comm, Int.mul_comm (sizeH j)]; omega) (Int.le_of_lt f1)
  have d2 : det3 k a j < 0 := by
    rcases Int.lt_or_le (det3 k a j) 0 with x | x
    · exact x
    · have := Int.mul_nonneg (Int.le_of_lt pb) x; omega
  have m3 := Int.mul_neg_of_pos_of_neg pi d2
  have m4 := Int.mul_nonneg (show 0 ≤ sizeH a * i.C - sizeH i * a.C by rw [Int.mul_comm, Int.mul_comm (sizeH i)]; omega) (Int.le_of_lt fj)
  rcases Int.lt_or_le (det3 k i j) 0 with x | x
  · exact x
  · have := Int.mul_nonneg (Int.le_of_lt pa) x
    rw [Int.mul_neg, Int.mul_neg] at g2
    omega

theorem all_ok {hs : List Half} (h : hs.all halfOk = true) : ∀ x ∈ hs, halfOk x = true := fun x hx => List.all_eq_true.1 h x hx
theorem framed_ok {hs : List Half} (h : hs.all halfOk = true) : ∀ x ∈ frame ++ hs, halfOk x = true := fun x hx => by
  rcases List.mem_append.1 hx with h1 | h1
  · exact frame_ok x h1
  · exact all_ok h x h1
theorem made_sub {hs : List Half} (h : hs.all halfOk = true) : ∀ x ∈ madeOf hs, x ∈ frame ++ hs := fun x hx => by
  unfold madeOf makeI at hx
  split at hx
  · exact (sortedH_tst (framed_ok h)).sub (List.mem_filter.1 hx).1
  · cases hx
theorem made_edge {hs : List Half} : ∀ x ∈ madeOf hs, x ∈ sortedH (frame ++ hs) ∧ edgeF (sortedH (frame ++ hs)) x := fun x hx => by
  unfold madeOf makeI at hx
  split at hx
  · have := List.mem_filter.1 hx; exact ⟨this.1, edgeFb_iff.1 this.2⟩
  · cases hx
theorem made_eq_edges {hs : List Half} (hne : madeOf hs ≠ []) : openP (sortedH (frame ++ hs)) ∧ madeOf hs = edges (sortedH (frame ++ hs)) := by
  unfold madeOf makeI at hne ⊢
  split
  · rename_i h; exact ⟨openB_iff.1 h, rfl⟩
  · rename_i h; rw [if_neg h] at hne; exact absurd rfl hne
theorem made_of {hs : List Half} (ho : openP (sortedH (frame ++ hs))) : madeOf hs = edges (sortedH (frame ++ hs)) := by
  unfold madeOf makeI
  rw [if_pos (openB_iff.2 ho)]; rfl
theorem made_all {hs : List Half} (h : hs.all halfOk = true) : (madeOf hs).all halfOk = true := List.all_eq_true.2 fun x hx => framed_ok h x (made_sub h x hx)
theorem made_srt {hs : List Half} (h : hs.all halfOk = true) : Srt (madeOf hs) := by
  unfold madeOf makeI
  split
  · exact (sortedH_tst (framed_ok h)).srt.sublist List.filter_sublist
  · exact List.Pairwise.nil
/-- what is made of what was made -/
theorem made_again {hs : List Half} (h : hs.all halfOk = true) (hne : madeOf hs ≠ []) : madeOf (madeOf hs) = madeOf hs := by
  obtain ⟨ho, he⟩ := made_eq_edges hne
  have hE := made_all h
  have hL := framed_ok h
  have hT := sortedH_tst hL
  have hT' := sortedH_tst (framed_ok hE)
  obtain ⟨o', e'⟩ := make_again hL (L' := frame ++ madeOf hs) (fun x hx => List.mem_append_left _ hx) (fun x hx => List.mem_append_left _ hx) hT hT'
    (fun x hx => by
      rcases List.mem_append.1 hx with h1 | h1
      · exact List.mem_append_left _ h1
      · exact made_sub h x h1) ho (by rw [← he]; exact hne) (fun x hx => List.mem_append_right _ (by rw [he]; exact hx))
  rw [made_of o', e', ← he]
theorem fit_ok {l : List Half} (h : l.length ≤ 40) : fitR l = (l, true) := if_pos h
/-- what is made is a region -/
theorem made_regOk {hs : List Half} (h : hs.all halfOk = true) (hl : (madeOf hs).length ≤ 40) : regOk (madeOf hs) = true := by
  by_cases hne : madeOf hs = []
  · rw [hne]; rfl
  unfold regOk fromR
  rw [if_pos ⟨hl, made_all h⟩, made_again h hne, fit_ok hl]
  simp
theorem fit_regOk {hs : List Half} (h : hs.all halfOk = true) : regOk (fitR (madeOf hs)).1 = true := by
  unfold fitR
  split
  · rename_i hl; exact made_regOk h hl
  · rfl
theorem regOk_made {hs : List Half} (h : regOk hs = true) (hne : hs ≠ []) : hs.all halfOk = true ∧ hs.length ≤ 40 ∧ madeOf hs = hs := by
  unfold regOk at h
  cases hs with
  | nil => exact absurd rfl hne
  | cons x l =>
    simp only [List.isEmpty_cons, Bool.false_or, Bool.and_eq_true, decide_eq_true_eq] at h
    obtain ⟨h1, h2⟩ := h
    unfold fromR at h1 h2
    split at h1
    · rename_i h3
      rw [if_pos h3] at h2
      refine ⟨h3.2, h3.1, ?_⟩
      unfold fitR at h1 h2
      split at h1
      · rename_i h4; rw [if_pos h4] at h2; exact h2
      · cases h1
    · cases h1
theorem nodup_sub_len {α : Type} [DecidableEq α] : ∀ {l m : List α}, l.Nodup → (∀ x ∈ l, x ∈ m) → l.length ≤ m.length := by
  intro l
  induction l with
  | nil => intro m _ _; simp
  | cons x l ih =>
    intro m hn hs
    have h1 := hs x (List.mem_cons_self ..)
    have h2 := ih (m := m.erase x) (List.nodup_cons.1 hn).2 (fun y hy => (List.mem_erase_of_ne (fun e => (List.nodup_cons.1 hn).1 (by rw [← e]; exact hy))).2 (hs y (List.mem_cons_of_mem _ hy)))
    rw [List.length_erase_of_mem h1] at h2
    have := List.length_pos_of_mem h1
    simp only [List.length_cons]
    omega
/-- a region and more half planes: no other edges than theirs -/
theorem made_cut {p q : List Half} (hp : regOk p = true) (hne : p ≠ []) (hq : q.all halfOk = true) : ∀ x ∈ madeOf (p ++ q), x ∈ p ++ q := by
  obtain ⟨pok, _, pm⟩ := regOk_made hp hne
  have hpq : (p ++ q).all halfOk = true := by rw [List.all_append, pok, hq]; rfl
  intro x hx
  have hxf := made_sub hpq x hx
  obtain ⟨hxS, hxE⟩ := made_edge x hx
  rcases List.mem_append.1 hxf with h1 | h1
  · obtain ⟨ho, he⟩ := made_eq_edges (hs := p) (by rw [pm]; exact hne)
    obtain ⟨g1, g2⟩ := edge_loosen (framed_ok hpq) (sortedH_tst (framed_ok hpq)) (sortedH_tst (framed_ok pok)) (fun y hy => by
      rcases List.mem_append.1 hy with h | h
      · exact List.mem_append_left _ h
      · exact List.mem_append_right _ (List.mem_append_left _ h)) hxS hxE (List.mem_append_left _ h1)
    refine List.mem_append_left _ ?_
    rw [← pm, he]
    exact edges_mem.2 ⟨g1, g2⟩
  · exact h1
theorem made_cut_len {p q : List Half} (hp : regOk p = true) (hne : p ≠ []) (hq : q.all halfOk = true) : (madeOf (p ++ q)).length ≤ p.length + q.length := by
  obtain ⟨pok, _, _⟩ := regOk_made hp hne
  have hpq : (p ++ q).all halfOk = true := by rw [List.all_append, pok, hq]; rfl
  have := nodup_sub_len (made_srt hpq).nodup (made_cut hp hne hq)
  rwa [List.length_append] at this
theorem made_cut_fit {p q : List Half} (hp : regOk p = true) (hne : p ≠ []) (hq : q.all halfOk = true) (hl : p.length + q.length ≤ 40) : fitR (madeOf (p ++ q)) = (madeOf (p ++ q), true) := fit_ok (by have := made_cut_len hp hne hq; omega)
end Go.Proofs.Ytnkkfjlnjhmahaa
