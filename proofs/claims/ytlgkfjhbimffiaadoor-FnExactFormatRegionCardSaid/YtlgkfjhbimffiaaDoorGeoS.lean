/- Plain geometry: the sorted list of the tightest half planes, whatever the order in which they come. -/
import Derived.Test.YtlgkfjhbimffiaaDoorGeo
import Derived.Test.YtlgkfjhbimffiaaDoorPlainQ
namespace Go.Proofs.YtlgkfjhbimffiaaDoor
set_option linter.unusedVariables false

/-- h is valid -/
def halfOk (h : Half) : Bool := inR h.A (-50000) 50000 && inR h.B (-50000) 50000 && inR h.C (-100000000) 100000000 && (decide (h.A ≠ 0) || decide (h.B ≠ 0)) && decide (Nat.gcd (Int.gcd h.A h.B) h.C.natAbs = 1)
theorem halfOk_bd {h : Half} (hk : halfOk h = true) : -50000 ≤ h.A ∧ h.A ≤ 50000 ∧ -50000 ≤ h.B ∧ h.B ≤ 50000 ∧ -100000000 ≤ h.C ∧ h.C ≤ 100000000 ∧ nz h ∧ Nat.gcd (Int.gcd h.A h.B) h.C.natAbs = 1 := by
  simp only [halfOk, inR, Bool.and_eq_true, Bool.or_eq_true, decide_eq_true_eq] at hk
  unfold nz
  omega

/-- g bounds at least as tightly as h -/
def tle (g h : Half) : Prop := g.C * sizeH h ≤ h.C * sizeH g
theorem tle_total (g h : Half) : tle g h ∨ tle h g := by unfold tle; omega
theorem tle_refl (g : Half) : tle g g := by unfold tle; omega
theorem tle_trans {a b c : Half} (ha : nz a) (hb : nz b) (hc : nz c) (h1 : tle a b) (h2 : tle b c) : tle a c := by
  unfold tle at *
  have pa := sizeH_pos ha
  have pb := sizeH_pos hb
  have pc := sizeH_pos hc
  have e1 := Int.mul_le_mul_of_nonneg_right h1 (Int.le_of_lt pc)
  have e2 := Int.mul_le_mul_of_nonneg_right h2 (Int.le_of_lt pa)
  have e3 : a.C * sizeH c * sizeH b ≤ c.C * sizeH a * sizeH b := by grind
  exact Int.le_of_mul_le_mul_right e3 pb
/-- two valid half planes of one direction that bound alike are one -/
theorem tle_antisymm {g h : Half} (hg : halfOk g = true) (hh : halfOk h = true) (hs : sameDir g h = true) (h1 : tle g h) (h2 : tle h g) : g = h := by
  obtain ⟨_, _, _, _, _, _, zg, gg⟩ := halfOk_bd hg
  obtain ⟨_, _, _, _, _, _, zh, gh⟩ := halfOk_bd hh
  obtain ⟨eA, eB⟩ := same_scale zg zh hs
  unfold tle at h1 h2
  have eC : sizeH h * g.C = sizeH g * h.C := by rw [Int.mul_comm, Int.mul_comm (sizeH g)]; omega
  have pg := sizeH_pos zg
  have ph := sizeH_pos zh
  generalize sizeH g = s at *
  generalize sizeH h = t at *
  have nA : t.natAbs * g.A.natAbs = s.natAbs * h.A.natAbs := by rw [← Int.natAbs_mul, ← Int.natAbs_mul, eA]
  have nB : t.natAbs * g.B.natAbs = s.natAbs * h.B.natAbs := by rw [← Int.natAbs_mul, ← Int.natAbs_mul, eB]
  have nC : t.natAbs * g.C.natAbs = s.natAbs * h.C.natAbs := by rw [← Int.natAbs_mul, ← Int.natAbs_mul, eC]
  have k1 : t.natAbs * Nat.gcd (Nat.gcd g.A.natAbs g.B.natAbs) g.C.natAbs = s.natAbs * Nat.gcd (Nat.gcd h.A.natAbs h.B.natAbs) h.C.natAbs := by
    rw [← Nat.gcd_mul_left, ← Nat.gcd_mul_left, ← Nat.gcd_mul_left, ← Nat.gcd_mul_left, nA, nB, nC]
  unfold Int.gcd at gg gh
  rw [gg, gh] at k1
  have e : t = s := by omega
  subst e
  have hA := Int.eq_of_mul_eq_mul_left (show t ≠ 0 by omega) eA
  have hB := Int.eq_of_mul_eq_mul_left (show t ≠ 0 by omega) eB
  have hC := Int.eq_of_mul_eq_mul_left (show t ≠ 0 by omega) eC
  cases g; cases h; simp_all

def tighter (g h : Half) : Half := if h.C * sizeH g < g.C * sizeH h then h else g
def insertH (h : Half) : List Half → List Half
  | [] => [h]
  | g :: l => if before g h = true then g :: insertH h l else if sameDir g h = true then tighter g h :: l else h :: g :: l
def sortedH (l : List Half) : List Half := l.foldl (fun out h => insertH h out) []

def Srt (l : List Half) : Prop := l.Pairwise (fun a b => before a b = true)
def Nz (l : List Half) : Prop := ∀ h ∈ l, nz h

theorem tighter_or (g h : Half) : tighter g h = g ∨ tighter g h = h := by unfold tighter; split <;> simp
theorem tighter_same {g h : Half} (hs : sameDir g h = true) : sameDir (tighter g h) h = true := by
  unfold tighter; split
  · exact sameDir_refl h
  · exact hs
theorem insertH_sub (h : Half) : ∀ (l : List Half) (x : Half), x ∈ insertH h l → x = h ∨ x ∈ l := by
  intro l
  induction l with
  | nil => intro x hx; simp [insertH] at hx; exact .inl hx
  | cons g l ih =>
    intro x hx
    unfold insertH at hx
    split at hx
    · rcases List.mem_cons.1 hx with e | e
      · exact .inr (by rw [e]; simp)
      · rcases ih x e with e | e
        · exact .inl e
        · exact .inr (List.mem_cons_of_mem _ e)
    · split at hx
      · rcases List.mem_cons.1 hx with e | e
        · rcases tighter_or g h with t | t
          · exact .inr (by rw [e, t]; simp)
          · exact .inl (by rw [e, t])
        · exact .inr (List.mem_cons_of_mem _ e)
      · rcases List.mem_cons.1 hx with e | e
        · exact .inl e
        · exact .inr e
theorem insertH_nz {h : Half} {l : List Half} (hh : nz h) (hl : Nz l) : Nz (insertH h l) := by
  intro x hx
  rcases insertH_sub h l x hx with e | e
  · rw [e]; exact hh
  · exact hl x e

theorem insertH_srt {h : Half} (hh : nz h) : ∀ {l : List Half}, Nz l → Srt l → Srt (insertH h l) := by
  intro l
  induction l with
  | nil => intro _ _; simp [insertH, Srt]
  | cons g l ih =>
    intro hz hs
    have hg := hz g (by simp)
    have hl : Nz l := fun x hx => hz x (List.mem_cons_of_mem _ hx)
    obtain ⟨h1, h2⟩ := List.pairwise_cons.1 hs
    unfold insertH
    split
    · rename_i hb
      refine List.pairwise_cons.2 ⟨fun x hx => ?_, ih hl h2⟩
      rcases insertH_sub h l x hx with e | e
      · rw [e]; exact hb
      · exact h1 x e
    · rename_i hb
      split
      · rename_i hsd
        refine List.pairwise_cons.2 ⟨fun x hx => ?_, h2⟩
        rcases tighter_or g h with t | t
        · rw [t]; exact h1 x hx
        · rw [t]; exact same_before hh hg (hl x hx) (sameDir_symm hsd) (h1 x hx)
      · rename_i hsd
        have hbg : before h g = true := by
          rcases before_tri g h with e | e | e
          · exact absurd e hb
          · exact absurd e hsd
          · exact e
        refine List.pairwise_cons.2 ⟨fun x hx => ?_, hs⟩
        rcases List.mem_cons.1 hx with e | e
        · rw [e]; exact hbg
        · exact before_trans hh hg (hl x e) hbg (h1 x e)

/-- what lies in the list after an insertion -/
theorem insertH_mem {h : Half} (hh : nz h) : ∀ {l : List Half}, Nz l → Srt l → ∀ x, x ∈ insertH h l ↔ ((x ∈ l ∧ (sameDir x h = true → tle x h)) ∨ (x = h ∧ ∀ y ∈ l, sameDir y h = true → ¬ tle y h)) := by
  intro l
  induction l with
  | nil => intro _ _ x; simp [insertH]
  | cons g l ih =>
    intro hz hs x
    have hg := hz g (by simp)
    have hl : Nz l := fun x hx => hz x (List.mem_cons_of_mem _ hx)
    obtain ⟨h1, h2⟩ := List.pairwise_cons.1 hs
    unfold insertH
    split
    · rename_i hb
      have ns := before_not_same hb
      rw [List.mem_cons, ih hl h2 x]
      constructor
      · rintro (rfl | ⟨a, b⟩ | ⟨a, b⟩)
        · exact .inl ⟨by simp, fun e => by rw [ns] at e; cases e⟩
        · exact .inl ⟨List.mem_cons_of_mem _ a, b⟩
        · refine .inr ⟨a, fun y hy e => ?_⟩
          rcases List.mem_cons.1 hy with r | r
          · rw [r, ns] at e; cases e
          · exact b y r e
      · rintro (⟨a, b⟩ | ⟨a, b⟩)
        · rcases List.mem_cons.1 a with r | r
          · exact .inl r
          · exact .inr (.inl ⟨r, b⟩)
        · exact .inr (.inr ⟨a, fun y hy e => b y (List.mem_cons_of_mem _ hy) e⟩)
    · rename_i hb
      split
      · rename_i hsd
        -- nothing of l has h's direction
        have nl : ∀ y ∈ l, sameDir y h = false := fun y hy => by
          rw [← Bool.not_eq_true]
          intro e
          have := before_same hg (hl y hy) hh (h1 y hy) e
          exact hb this
        rw [List.mem_cons]
        by_cases ht : h.C * sizeH g < g.C * sizeH h
        · have e1 : tighter g h = h := if_pos ht
          have e2 : ¬ tle g h := by unfold tle; omega
          rw [e1]
          constructor
          · rintro (rfl | a)
            · refine .inr ⟨rfl, fun y hy e => ?_⟩
              rcases List.mem_cons.1 hy with r | r
              · rw [r]; exact e2
              · rw [nl y r] at e; cases e
            · exact .inl ⟨List.mem_cons_of_mem _ a, fun e => by rw [nl x a] at e; cases e⟩
          · rintro (⟨a, b⟩ | ⟨a, b⟩)
            · rcases List.mem_cons.1 a with r | r
              · subst r; exact absurd (b hsd) e2
              · exact .inr r
            · exact .inl a
        · have e1 : tighter g h = g := if_neg ht
          have e2 : tle g h := by unfold tle; omega
          rw [e1]
          constructor
          · rintro (rfl | a)
            · exact .inl ⟨by simp, fun _ => e2⟩
            · exact .inl ⟨List.mem_cons_of_mem _ a, fun e => by rw [nl x a] at e; cases e⟩
          · rintro (⟨a, b⟩ | ⟨a, b⟩)
            · exact List.mem_cons.1 a
            · exact absurd e2 (b g (by simp) hsd)
      · rename_i hsd
        have hbg : before h g = true := by
          rcases before_tri g h with e | e | e
          · exact absurd e hb
          · exact absurd e hsd
          · exact e
        have nl : ∀ y ∈ g :: l, sameDir y h = false := fun y hy => by
          rw [← Bool.not_eq_true]
          intro e
          rcases List.mem_cons.1 hy with r | r
          · rw [r] at e; exact hsd e
          · have := before_not_same (before_trans hh hg (hl y r) hbg (h1 y r))
            rw [sameDir_symm e] at this; cases this
        rw [List.mem_cons]
        constructor
        · rintro (rfl | a)
          · exact .inr ⟨rfl, fun y hy e => by rw [nl y hy] at e; cases e⟩
          · exact .inl ⟨a, fun e => by rw [nl x a] at e; cases e⟩
        · rintro (⟨a, b⟩ | ⟨a, b⟩)
          · exact .inr a
          · exact .inl a

/-- S is the sorted list of the tightest of L -/
structure Tst (S L : List Half) : Prop where
  srt : Srt S
  mem : ∀ x, x ∈ S ↔ x ∈ L ∧ ∀ y ∈ L, sameDir x y = true → tle x y
theorem Tst.sub {S L : List Half} (h : Tst S L) {x : Half} (hx : x ∈ S) : x ∈ L := ((h.mem x).1 hx).1
theorem Tst.ok {S L : List Half} (h : Tst S L) (hL : ∀ x ∈ L, halfOk x = true) : ∀ x ∈ S, halfOk x = true := fun x hx => hL x (h.sub hx)
theorem ok_nz {L : List Half} (hL : ∀ x ∈ L, halfOk x = true) : Nz L := fun x hx => (halfOk_bd (hL x hx)).2.2.2.2.2.2.1

/-- the direction of each half plane is there, tighter -/
theorem Tst.has {L : List Half} : ∀ {S : List Half}, Tst S L → Nz L → ∀ y ∈ L, ∃ x ∈ S, sameDir x y = true ∧ tle x y := by
  intro S h hz y hy
  -- the tightest of a list with y's direction
  have key : ∀ (M : List Half), (∀ m ∈ M, m ∈ L) → ∀ b, b ∈ L → sameDir b y = true → ∃ x ∈ L, sameDir x y = true ∧ tle x b ∧ ∀ m ∈ M, sameDir m y = true → tle x m := by
    intro M
    induction M with
    | nil => intro _ b hb hs; exact ⟨b, hb, hs, tle_refl b, by simp⟩
    | cons m M ih =>
      intro hM b hb hs
      have hm := hM m (by simp)
      have hM' := fun x hx => hM x (List.mem_cons_of_mem _ hx)
      by_cases c : sameDir m y = true ∧ tle m b
      · obtain ⟨x, hx, h1, h2, h3⟩ := ih hM' m hm c.1
        refine ⟨x, hx, h1, tle_trans (hz x hx) (hz m hm) (hz b hb) h2 c.2, fun z hzM hs' => ?_⟩
        rcases List.mem_cons.1 hzM with r | r
        · rw [r]; exact h2
        · exact h3 z r hs'
      · obtain ⟨x, hx, h1, h2, h3⟩ := ih hM' b hb hs
        refine ⟨x, hx, h1, h2, fun z hzM hs' => ?_⟩
        rcases List.mem_cons.1 hzM with r | r
        · subst r
          rcases tle_total b z with t | t
          · exact tle_trans (hz x hx) (hz b hb) (hz z hm) h2 t
          · exact absurd ⟨hs', t⟩ c
        · exact h3 z r hs'
  obtain ⟨x, hx, h1, h2, h3⟩ := key L (fun _ h => h) y hy (sameDir_refl y)
  refine ⟨x, (h.mem x).2 ⟨hx, fun z hzL hs => ?_⟩, h1, h2⟩
  exact h3 z hzL (same_trans (hz z hzL) (hz x hx) (hz y hy) (sameDir_symm hs) h1)

theorem Tst.insert {S L : List Half} {h : Half} (hT : Tst S L) (hh : halfOk h = true) (hL : ∀ x ∈ L, halfOk x = true) : Tst (insertH h S) (h :: L) := by
  have hz := ok_nz hL
  have hn := (halfOk_bd hh).2.2.2.2.2.2.1
  have hzS : Nz S := fun x hx => hz x (hT.sub hx)
  refine ⟨insertH_srt hn hzS hT.srt, fun x => ?_⟩
  rw [insertH_mem hn hzS hT.srt, hT.mem]
  constructor
  · rintro (⟨⟨a, b⟩, c⟩ | ⟨rfl, b⟩)
    · refine ⟨List.mem_cons_of_mem _ a, fun y hy e => ?_⟩
      rcases List.mem_cons.1 hy with r | r
      · rw [r] at e ⊢; exact c e
      · exact b y r e
    · refine ⟨by simp, fun y hy e => ?_⟩
      rcases List.mem_cons.1 hy with r | r
      · rw [r]; exact tle_refl x
      · obtain ⟨z, hzS', s1, t1⟩ := hT.has hz y r
        have hnz := hzS z hzS'
        have s2 : sameDir z x = true := same_trans hnz (hz y r) hn s1 (sameDir_symm e)
        have n1 := b z hzS' s2
        have : tle x z := (tle_total x z).resolve_right n1
        exact tle_trans hn hnz (hz y r) this t1
  · rintro ⟨a, b⟩
    rcases List.mem_cons.1 a with r | r
    · by_cases c : ∀ y ∈ S, sameDir y h = true → ¬ tle y h
      · exact .inr ⟨r, c⟩
      · obtain ⟨y, hy, hs, ht⟩ : ∃ y ∈ S, sameDir y h = true ∧ tle y h :=
          Classical.byContradiction fun hn => c fun y hy hs ht => hn ⟨y, hy, hs, ht⟩
        have hyL := hT.sub hy
        have e : y = h := tle_antisymm (hL y hyL) hh hs ht (by
          have := b y (List.mem_cons_of_mem _ hyL) (by rw [r]; exact sameDir_symm hs)
          rwa [r] at this)
        have hx : x ∈ L := by rw [r, ← e]; exact hyL
        exact .inl ⟨⟨hx, fun z hz' e => b z (List.mem_cons_of_mem _ hz') e⟩, fun e => b h (by simp) e⟩
    · exact .inl ⟨⟨r, fun z hz' e => b z (List.mem_cons_of_mem _ hz') e⟩, fun e => b h (by simp) e⟩

theorem Tst.mono {S L L' : List Half} (hT : Tst S L) (h : ∀ x, x ∈ L ↔ x ∈ L') : Tst S L' :=
  ⟨hT.srt, fun x => by rw [hT.mem, h]; exact ⟨fun ⟨a, b⟩ => ⟨a, fun y hy => b y ((h y).2 hy)⟩, fun ⟨a, b⟩ => ⟨a, fun y hy => b y ((h y).1 hy)⟩⟩⟩
theorem sortedFrom_tst : ∀ (l : List Half) {S L : List Half}, Tst S L → (∀ x ∈ L, halfOk x = true) → (∀ x ∈ l, halfOk x = true) → Tst (l.foldl (fun out h => insertH h out) S) (l ++ L) := by
  intro l
  induction l with
  | nil => intro S L h _ _; exact h
  | cons h l ih =>
    intro S L hT hL hl
    have h1 := hT.insert (hl h (by simp)) hL
    have h2 := ih h1 (fun x hx => by rcases List.mem_cons.1 hx with e | e; (rw [e]; exact hl h (by simp)); exact hL x e) (fun x hx => hl x (List.mem_cons_of_mem _ hx))
    exact h2.mono fun x => by simp only [List.mem_append, List.mem_cons, List.cons_append]; grind
theorem sortedH_tst {l : List Half} (hl : ∀ x ∈ l, halfOk x = true) : Tst (sortedH l) l := by
  have h0 : Tst [] [] := ⟨List.Pairwise.nil, by simp⟩
  have := sortedFrom_tst l h0 (by simp) hl
  rwa [List.append_nil] at this

/-- two sorted lists of the same half planes are one -/
theorem srt_eq : ∀ {l l' : List Half}, Srt l → Srt l' → (∀ x, x ∈ l ↔ x ∈ l') → l = l' := by
  intro l
  induction l with
  | nil =>
    intro l' _ _ h
    cases l' with
    | nil => rfl
    | cons b l' => have := (h b).2 (by simp); simp at this
  | cons a l ih =>
    intro l' h1 h2 h
    cases l' with
    | nil => have := (h a).1 (by simp); simp at this
    | cons b l' =>
      obtain ⟨a1, a2⟩ := List.pairwise_cons.1 h1
      obtain ⟨b1, b2⟩ := List.pairwise_cons.1 h2
      have e : a = b := by
        rcases List.mem_cons.1 ((h a).1 (by simp)) with e | e
        · exact e
        · rcases List.mem_cons.1 ((h b).2 (by simp)) with f | f
          · exact f.symm
          · have x := before_asymm (b1 a e)
            rw [a1 b f] at x; cases x
      subst e
      rw [ih a2 b2 fun x => ?_]
      constructor
      · intro hx
        rcases List.mem_cons.1 ((h x).1 (List.mem_cons_of_mem _ hx)) with e | e
        · subst e; have := a1 x hx; rw [before_irr] at this; cases this
        · exact e
      · intro hx
        rcases List.mem_cons.1 ((h x).2 (List.mem_cons_of_mem _ hx)) with e | e
        · subst e; have := b1 x hx; rw [before_irr] at this; cases this
        · exact e
theorem tst_unique {S S' L L' : List Half} (h : Tst S L) (h' : Tst S' L') (e : ∀ x, x ∈ L ↔ x ∈ L') : S = S' := by
  have h2 := h.mono e
  exact srt_eq h.srt h'.srt fun x => by rw [h2.mem, h'.mem]
/-- the order in which half planes come does not matter -/
theorem sortedH_same {l l' : List Half} (hl : ∀ x ∈ l, halfOk x = true) (e : ∀ x, x ∈ l ↔ x ∈ l') : sortedH l = sortedH l' :=
  tst_unique (sortedH_tst hl) (sortedH_tst fun x hx => hl x ((e x).2 hx)) e
/-- two of one direction in a sorted list are one -/
theorem Srt.same {l : List Half} (hs : Srt l) {x y : Half} (hx : x ∈ l) (hy : y ∈ l) (h : sameDir x y = true) : x = y := by
  induction l with
  | nil => simp at hx
  | cons a l ih =>
    obtain ⟨a1, a2⟩ := List.pairwise_cons.1 hs
    rcases List.mem_cons.1 hx with e | e <;> rcases List.mem_cons.1 hy with f | f
    · rw [e, f]
    · rw [e] at h; rw [before_not_same (a1 y f)] at h; cases h
    · rw [f] at h; have h := sameDir_symm h; rw [before_not_same (a1 x e)] at h; cases h
    · exact ih a2 e f
end Go.Proofs.YtlgkfjhbimffiaaDoor
