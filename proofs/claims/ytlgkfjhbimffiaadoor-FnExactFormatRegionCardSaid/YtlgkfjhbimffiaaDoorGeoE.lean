/- Plain geometry: the edges of the region of a sorted list of half planes, found in two ways. -/
import Derived.Test.YtlgkfjhbimffiaaDoorGeoS
namespace Go.Proofs.YtlgkfjhbimffiaaDoor
set_option linter.unusedVariables false

structure Framed (S : List Half) : Prop where
  e1 : ∃ e ∈ S, 0 < e.A ∧ e.B = 0 ∧ e.C ≤ 1000 * e.A
  e2 : ∃ e ∈ S, e.A = 0 ∧ 0 < e.B ∧ e.C ≤ 1000 * e.B
  e3 : ∃ e ∈ S, e.A < 0 ∧ e.B = 0 ∧ e.C ≤ 1000 * -e.A
  e4 : ∃ e ∈ S, e.A = 0 ∧ e.B < 0 ∧ e.C ≤ 1000 * -e.B
structure Good (S : List Half) : Prop where
  srt : Srt S
  nz : Nz S
  fr : Framed S

theorem Framed.lo {S : List Half} (f : Framed S) {h : Half} (hz : nz h) : ∃ i ∈ S, cross h i < 0 := by
  obtain ⟨a, ha, a1, a2, _⟩ := f.e1
  obtain ⟨b, hb, b1, b2, _⟩ := f.e2
  obtain ⟨c, hc, c1, c2, _⟩ := f.e3
  obtain ⟨d, hd, d1, d2, _⟩ := f.e4
  unfold nz at hz
  rcases Int.lt_trichotomy h.B 0 with e | e | e
  · refine ⟨c, hc, ?_⟩
    unfold cross; rw [c2]
    have := Int.mul_pos_of_neg_of_neg e c1
    omega
  · rcases Int.lt_trichotomy h.A 0 with g | g | g
    · refine ⟨b, hb, ?_⟩
      unfold cross; rw [b1]
      have := Int.mul_neg_of_neg_of_pos g b2
      omega
    · omega
    · refine ⟨d, hd, ?_⟩
      unfold cross; rw [d1]
      have := Int.mul_neg_of_pos_of_neg g d2
      omega
  · refine ⟨a, ha, ?_⟩
    unfold cross; rw [a2]
    have := Int.mul_pos e a1
    omega
theorem Framed.hi {S : List Half} (f : Framed S) {h : Half} (hz : nz h) : ∃ i ∈ S, 0 < cross h i := by
  obtain ⟨a, ha, a1, a2, _⟩ := f.e1
  obtain ⟨b, hb, b1, b2, _⟩ := f.e2
  obtain ⟨c, hc, c1, c2, _⟩ := f.e3
  obtain ⟨d, hd, d1, d2, _⟩ := f.e4
  unfold nz at hz
  rcases Int.lt_trichotomy h.B 0 with e | e | e
  · refine ⟨a, ha, ?_⟩
    unfold cross; rw [a2]
    have := Int.mul_neg_of_neg_of_pos e a1
    omega
  · rcases Int.lt_trichotomy h.A 0 with g | g | g
    · refine ⟨d, hd, ?_⟩
      unfold cross; rw [d1]
      have := Int.mul_pos_of_neg_of_neg g d2
      omega
    · omega
    · refine ⟨b, hb, ?_⟩
      unfold cross; rw [b1]
      have := Int.mul_pos g b2
      omega
  · refine ⟨c, hc, ?_⟩
    unfold cross; rw [c2]
    have := Int.mul_neg_of_pos_of_neg e c1
    omega

/-- the crossing of k and i lies in m -/
def sat (k i m : Half) : Prop := (0 < cross k i ∧ 0 ≤ det3 k i m) ∨ (cross k i < 0 ∧ det3 k i m ≤ 0)
def edgeF (S : List Half) (k : Half) : Prop := ∀ i ∈ S, ∀ j ∈ S, cross k i < 0 → 0 < cross k j → det3 k i j < 0
def edgeS (S : List Half) (k : Half) : Prop := ∃ i ∈ S, ∃ j ∈ S, cross k i ≠ 0 ∧ cross k j ≠ 0 ∧ (∀ m ∈ S, sat k i m) ∧ (∀ m ∈ S, sat k j m) ∧ det3 k i j ≠ 0
def room (g h : Half) : Int := g.C * sizeH h + h.C * sizeH g
def openP (S : List Half) : Prop := ∀ g ∈ S, ∀ h ∈ S, cross g h = 0 → sameDir g h = false → 0 < room g h

theorem pos_of_mul {a b : Int} (ha : 0 < a) (h : 0 ≤ a * b) : 0 ≤ b := by
  rcases Int.lt_or_le b 0 with x | x
  · have := Int.mul_neg_of_pos_of_neg ha x; omega
  · exact x
theorem pos_of_mul' {a b : Int} (ha : 0 < a) (h : 0 < a * b) : 0 < b := by
  rcases Int.lt_or_le 0 b with x | x
  · exact x
  · have := Int.mul_nonneg (Int.le_of_lt ha) (show 0 ≤ -b by omega)
    rw [Int.mul_neg] at this; omega
theorem neg_of_mul {a b : Int} (ha : a < 0) (h : 0 ≤ a * b) : b ≤ 0 := by
  rcases Int.lt_or_le 0 b with x | x
  · have := Int.mul_neg_of_neg_of_pos ha x; omega
  · exact x
theorem neg_of_mul' {a b : Int} (ha : a < 0) (h : 0 < a * b) : b < 0 := by
  rcases Int.lt_or_le b 0 with x | x
  · exact x
  · have := Int.mul_nonneg (show 0 ≤ -a by omega) x
    rw [Int.neg_mul] at this; omega
theorem mul_np {a b : Int} (ha : a ≤ 0) (hb : 0 ≤ b) : a * b ≤ 0 := by
  have := Int.mul_nonneg (show 0 ≤ -a by omega) hb
  rw [Int.neg_mul] at this; omega
theorem mul_nn {a b : Int} (ha : a ≤ 0) (hb : b ≤ 0) : 0 ≤ a * b := Int.mul_nonneg_of_nonpos_of_nonpos ha hb
theorem mul_pn {a b : Int} (ha : 0 ≤ a) (hb : b ≤ 0) : a * b ≤ 0 := by rw [Int.mul_comm]; exact mul_np hb ha

/-- half planes on parallel lines: the same direction, or the opposite one -/
theorem opp_scale {g h : Half} (hg : nz g) (hh : nz h) (h0 : cross g h = 0) (hn : sameDir g h = false) : sizeH h * g.A = -(sizeH g * h.A) ∧ sizeH h * g.B = -(sizeH g * h.B) := by
  have hs : sameDir g ⟨-h.A, -h.B, h.C⟩ = true := by
    rw [sameDir_iff]
    refine ⟨by unfold cross at h0 ⊢; simp only; grind, ?_⟩
    rw [← Bool.not_eq_true, sameDir_iff] at hn
    have hne : isUpper g ≠ isUpper h := fun e => hn ⟨h0, e⟩
    unfold nz at hh
    cases hu : isUpper h with
    | true =>
      have u := (up_iff h).1 hu
      have e : isUpper (⟨-h.A, -h.B, h.C⟩ : Half) = false := by
        rw [← Bool.not_eq_true, up_iff]; simp only; omega
      rw [e]
      cases hv : isUpper g
      · rfl
      · rw [hu, hv] at hne; exact absurd rfl hne
    | false =>
      have u := (up_not h hh).1 hu
      have e : isUpper (⟨-h.A, -h.B, h.C⟩ : Half) = true := by
        rw [up_iff]; simp only; omega
      rw [e]
      cases hv : isUpper g
      · rw [hu, hv] at hne; exact absurd rfl hne
      · rfl
  have hh' : nz (⟨-h.A, -h.B, h.C⟩ : Half) := by unfold nz at hh ⊢; simp only; omega
  obtain ⟨e1, e2⟩ := same_scale hg hh' hs
  have es : sizeH (⟨-h.A, -h.B, h.C⟩ : Half) = sizeH h := by
    unfold sizeH; simp only
    by_cases c : h.A = 0
    · rw [if_neg (show ¬ -h.A ≠ 0 by omega), if_neg (show ¬ h.A ≠ 0 by omega)]
      split <;> split <;> omega
    · rw [if_pos (show -h.A ≠ 0 by omega), if_pos c]
      split <;> split <;> omega
  rw [es] at e1 e2
  simp only [Int.mul_neg] at e1 e2
  exact ⟨e1, e2⟩
theorem opp_det {k i g h : Half} (hg : nz g) (hh : nz h) (h0 : cross g h = 0) (hn : sameDir g h = false) : sizeH g * det3 k i h = -(sizeH h * det3 k i g) + room g h * cross k i := by
  obtain ⟨e1, e2⟩ := opp_scale hg hh h0 hn
  unfold det3 room cross
  generalize sizeH g = s at *
  generalize sizeH h = t at *
  grind
/-- an opposite half plane, with room, at a crossing on the border -/
theorem opp_room {k i m : Half} (hk : nz k) (hm : nz m) (h0 : cross k m = 0) (hn : sameDir k m = false) : sizeH k * det3 k i m = room k m * cross k i := by
  have e := opp_det (k := k) (i := i) hk hm h0 hn
  have z : det3 k i k = 0 := by unfold det3 cross; grind
  rw [z] at e
  omega

/-- the first of a list by a relation that is total and transitive on the elements that matter -/
theorem extreme {P : Half → Prop} {R : Half → Half → Prop} (ht : ∀ x y, P x → P y → R x y ∨ R y x) (hr : ∀ x y z, P x → P y → P z → R x y → R y z → R x z) :
    ∀ (L : List Half), (∃ x ∈ L, P x) → ∃ x ∈ L, P x ∧ ∀ y ∈ L, P y → R x y := by
  intro L
  induction L with
  | nil => rintro ⟨x, h, _⟩; simp at h
  | cons a L ih =>
    rintro ⟨x, hx, px⟩
    have rr : ∀ x, P x → R x x := fun x p => by rcases ht x x p p with h | h <;> exact h
    by_cases hL : ∃ x ∈ L, P x
    · obtain ⟨b, hb, pb, hbm⟩ := ih hL
      by_cases pa : P a
      · rcases ht a b pa pb with h | h
        · refine ⟨a, by simp, pa, fun y hy py => ?_⟩
          rcases List.mem_cons.1 hy with e | e
          · rw [e]; exact rr a pa
          · exact hr a b y pa pb py h (hbm y e py)
        · refine ⟨b, List.mem_cons_of_mem _ hb, pb, fun y hy py => ?_⟩
          rcases List.mem_cons.1 hy with e | e
          · rw [e]; exact h
          · exact hbm y e py
      · refine ⟨b, List.mem_cons_of_mem _ hb, pb, fun y hy py => ?_⟩
        rcases List.mem_cons.1 hy with e | e
        · rw [e] at py; exact absurd py pa
        · exact hbm y e py
    · have e : x = a := by
        rcases List.mem_cons.1 hx with e | e
        · exact e
        · exact absurd ⟨x, e, px⟩ hL
      subst e
      refine ⟨x, by simp, px, fun y hy py => ?_⟩
      rcases List.mem_cons.1 hy with e | e
      · rw [e]; exact rr x px
      · exact absurd ⟨y, e, py⟩ hL

theorem edgeF_of {S : List Half} {k a b : Half} (na : cross k a ≠ 0) (nb : cross k b ≠ 0) (sa : ∀ m ∈ S, sat k a m) (sb : ∀ m ∈ S, sat k b m) (hd : det3 k a b ≠ 0) : edgeF S k := by
  intro i hi j hj fi fj
  have key : ∀ p, cross k p ≠ 0 → sat k p i → sat k p j → det3 k i j ≤ 0 ∧ (det3 k i j = 0 → det3 k p i = 0 ∧ det3 k p j = 0) := by
    intro p np s1 s2
    have pl := plucker k i p j
    have sw := det3_swap2 k p i
    unfold sat at s1 s2
    rcases Int.lt_trichotomy (cross k p) 0 with c | c | c
    · have d1 : det3 k p i ≤ 0 := by omega
      have d2 : det3 k p j ≤ 0 := by omega
      have m1 := mul_nn (Int.le_of_lt fi) d2
      have m2 := Int.mul_nonneg (Int.le_of_lt fj) (show 0 ≤ det3 k i p by omega)
      have r := neg_of_mul c (b := det3 k i j) (by omega)
      refine ⟨r, fun z => ?_⟩
      rw [z, Int.mul_zero] at pl
      have z1 : cross k i * det3 k p j = 0 := by omega
      have z2 : cross k j * det3 k i p = 0 := by omega
      rcases Int.mul_eq_zero.1 z1 with y | y <;> rcases Int.mul_eq_zero.1 z2 with y' | y' <;> omega
    · exact absurd c np
    · have d1 : 0 ≤ det3 k p i := by omega
      have d2 : 0 ≤ det3 k p j := by omega
      have m1 := mul_np (Int.le_of_lt fi) d2
      have m2 := mul_pn (Int.le_of_lt fj) (show det3 k i p ≤ 0 by omega)
      have r : det3 k i j ≤ 0 := by
        rcases Int.lt_or_le 0 (det3 k i j) with x | x
        · have := Int.mul_pos c x; omega
        · exact x
      refine ⟨r, fun z => ?_⟩
      rw [z, Int.mul_zero] at pl
      have z1 : cross k i * det3 k p j = 0 := by omega
      have z2 : cross k j * det3 k i p = 0 := by omega
      rcases Int.mul_eq_zero.1 z1 with y | y <;> rcases Int.mul_eq_zero.1 z2 with y' | y' <;> omega
  obtain ⟨k1, k2⟩ := key a na (sa i hi) (sa j hj)
  obtain ⟨_, k4⟩ := key b nb (sb i hi) (sb j hj)
  rcases Int.lt_or_le (det3 k i j) 0 with c | c
  · exact c
  · exfalso
    have z : det3 k i j = 0 := by omega
    obtain ⟨_, z1⟩ := k2 z
    obtain ⟨_, z2⟩ := k4 z
    have pl := plucker k a j b
    rw [z1, det3_swap2 k b j, z2] at pl
    simp at pl
    rcases Int.mul_eq_zero.1 pl with pl | pl <;> omega

theorem edgeS_F {S : List Half} {k : Half} (h : edgeS S k) : edgeF S k := by
  obtain ⟨a, ha, b, hb, na, nb, sa, sb, hd⟩ := h
  exact edgeF_of na nb sa sb hd

theorem same_of_par {S : List Half} (hS : Good S) {k m : Half} (hk : k ∈ S) (hm : m ∈ S) (h0 : cross k m = 0) : m = k ∨ sameDir k m = false := by
  cases h : sameDir k m with
  | false => exact .inr rfl
  | true => exact .inl (hS.srt.same hm hk (sameDir_symm h))

theorem edgeF_S {S : List Half} (hS : Good S) (ho : openP S) {k : Half} (hk : k ∈ S) (h : edgeF S k) : edgeS S k := by
  have zk := hS.nz k hk
  obtain ⟨i, hi, fi, mi⟩ := extreme (P := fun x => cross k x < 0) (R := fun x y => det3 k x y ≤ 0)
    (fun x y _ _ => by have := det3_swap2 k x y; omega)
    (fun x y z px py pz h1 h2 => by
      have pl := plucker k x y z
      have m1 := mul_nn (Int.le_of_lt px) h2
      have m2 := mul_nn (Int.le_of_lt pz) h1
      exact neg_of_mul py (by omega)) S (hS.fr.lo zk)
  obtain ⟨j, hj, fj, mj⟩ := extreme (P := fun x => 0 < cross k x) (R := fun x y => 0 ≤ det3 k x y)
    (fun x y _ _ => by have := det3_swap2 k x y; omega)
    (fun x y z px py pz h1 h2 => by
      have pl := plucker k x y z
      have m1 := Int.mul_nonneg (Int.le_of_lt px) h2
      have m2 := Int.mul_nonneg (Int.le_of_lt pz) h1
      exact pos_of_mul py (by omega)) S (hS.fr.hi zk)
  have dij := h i hi j hj fi fj
  refine ⟨i, hi, j, hj, by omega, by omega, fun m hm => .inr ⟨fi, ?_⟩, fun m hm => .inl ⟨fj, ?_⟩, by omega⟩
  · rcases Int.lt_trichotomy (cross k m) 0 with c | c | c
    · exact mi m hm c
    · rcases same_of_par hS hk hm c with e | e
      · subst e
        have : det3 m i m = 0 := by unfold det3 cross; grind
        omega
      · have e1 := opp_room (i := i) zk (hS.nz m hm) c e
        have e2 := Int.mul_neg_of_pos_of_neg (ho k hk m hm c e) fi
        have p := sizeH_pos zk
        rcases Int.lt_or_le 0 (det3 k i m) with x | x
        · have := Int.mul_pos p x; omega
        · exact x
    · exact Int.le_of_lt (h i hi m hm fi c)
  · rcases Int.lt_trichotomy (cross k m) 0 with c | c | c
    · have := h m hm j hj c fj
      have := det3_swap2 k j m
      omega
    · rcases same_of_par hS hk hm c with e | e
      · subst e
        have : det3 m j m = 0 := by unfold det3 cross; grind
        omega
      · have e1 := opp_room (i := j) zk (hS.nz m hm) c e
        have e2 := Int.mul_pos (ho k hk m hm c e) fj
        exact pos_of_mul (sizeH_pos zk) (by omega)
    · exact mj m hm c

/-- the next edge, counterclockwise; the crossing with it lies in the region -/
theorem edge_next {S : List Half} (hS : Good S) (ho : openP S) {k : Half} (hk : k ∈ S) (h : edgeF S k) :
    ∃ j ∈ S, edgeF S j ∧ 0 < cross k j ∧ ∀ m ∈ S, 0 ≤ det3 k j m := by
  have zk := hS.nz k hk
  obtain ⟨j, hj, fj, mj⟩ := extreme (P := fun x => 0 < cross k x) (R := fun x y => 0 < det3 k x y ∨ (det3 k x y = 0 ∧ cross x y ≤ 0))
    (fun x y _ _ => by have := det3_swap2 k x y; have := cross_anti x y; omega)
    (fun x y z px py pz h1 h2 => by
      have pl := plucker k x y z
      have p2 := plucker2 k x y z
      by_cases c : det3 k x y = 0 ∧ det3 k y z = 0
      · rw [c.1, c.2] at pl
        simp at pl
        have z0 : det3 k x z = 0 := (Int.mul_eq_zero.1 pl).resolve_left (by omega)
        refine .inr ⟨z0, ?_⟩
        have m1 := mul_pn (Int.le_of_lt pz) (show cross x y ≤ 0 by omega)
        have m2 := mul_pn (Int.le_of_lt px) (show cross y z ≤ 0 by omega)
        rcases Int.lt_or_le 0 (cross x z) with q | q
        · have := Int.mul_pos py q; omega
        · exact q
      · left
        have m1 := Int.mul_nonneg (Int.le_of_lt px) (show 0 ≤ det3 k y z by omega)
        have m2 := Int.mul_nonneg (Int.le_of_lt pz) (show 0 ≤ det3 k x y by omega)
        refine pos_of_mul' py ?_
        by_cases c1 : 0 < det3 k x y
        · have := Int.mul_pos pz c1; omega
        · have := Int.mul_pos px (show 0 < det3 k y z by omega); omega) S (hS.fr.hi zk)
  -- strictly inside where m turns on from j
  have strict : ∀ m ∈ S, 0 < cross j m → 0 < det3 k j m := by
    intro m hm fm
    rcases Int.lt_trichotomy (cross k m) 0 with c | c | c
    · have := h m hm j hj c fj
      have := det3_swap2 k m j
      omega
    · rcases same_of_par hS hk hm c with e | e
      · subst e
        have := cross_anti m j
        omega
      · have e1 := opp_room (i := j) zk (hS.nz m hm) c e
        have e2 := Int.mul_pos (ho k hk m hm c e) fj
        exact pos_of_mul' (sizeH_pos zk) (by omega)
    · have := mj m hm c
      omega
  have all : ∀ m ∈ S, 0 ≤ det3 k j m := by
    intro m hm
    rcases Int.lt_trichotomy (cross k m) 0 with c | c | c
    · have := h m hm j hj c fj
      have := det3_swap2 k m j
      omega
    · rcases same_of_par hS hk hm c with e | e
      · subst e
        have : det3 m j m = 0 := by unfold det3 cross; grind
        omega
      · have e1 := opp_room (i := j) zk (hS.nz m hm) c e
        have e2 := Int.mul_pos (ho k hk m hm c e) fj
        exact pos_of_mul (sizeH_pos zk) (by omega)
    · have := mj m hm c
      omega
  refine ⟨j, hj, fun i hi m hm gi gm => ?_, fj, all⟩
  have pl := plucker j i k m
  have g1 := cross_anti k j
  have d1 := det3_swap k j m
  have d2 := det3_cyc k j i
  have s1 := strict m hm gm
  have s2 := all i hi
  have m1 := Int.mul_pos_of_neg_of_neg gi (show det3 j k m < 0 by omega)
  have m2 := Int.mul_nonneg (Int.le_of_lt gm) (show 0 ≤ det3 j i k by omega)
  exact neg_of_mul' (show cross j k < 0 by omega) (by omega)

theorem three_in {L : List Half} {a b c : Half} (ha : a ∈ L) (hb : b ∈ L) (hc : c ∈ L) (h1 : a ≠ b) (h2 : b ≠ c) (h3 : a ≠ c) : 3 ≤ L.length := by
  match L with
  | [] => simp at ha
  | [x] => simp at ha hb; rw [ha, hb] at h1; exact absurd rfl h1
  | [x, y] =>
    simp at ha hb hc
    rcases ha with ha | ha <;> rcases hb with hb | hb <;> rcases hc with hc | hc <;> simp_all
  | x :: y :: z :: L => simp
theorem two_out {L : List Half} {g h : Half} (hn : L.Nodup) (hs : ∀ x ∈ L, x = g ∨ x = h) : L.length < 3 := by
  match L, hn, hs with
  | [], _, _ => simp
  | [x], _, _ => simp
  | [x, y], _, _ => simp
  | x :: y :: z :: L, hn, hs =>
    exfalso
    have a := hs x (by simp)
    have b := hs y (by simp)
    have c := hs z (by simp)
    simp at hn
    obtain ⟨⟨n1, n2, _⟩, ⟨n3, _⟩, _⟩ := hn
    rcases a with a | a <;> rcases b with b | b <;> rcases c with c | c <;> simp_all

/-- no room between two opposite ones: what the second way calls an edge is one of them -/
theorem edge_void {S : List Half} (hS : Good S) {g h k : Half} (hg : g ∈ S) (hh : h ∈ S) (h0 : cross g h = 0) (hn : sameDir g h = false) (hr : room g h ≤ 0) (hk : k ∈ S) (he : edgeS S k) : k = g ∨ k = h := by
  obtain ⟨a, ha, b, hb, na, nb, sa, sb, hd⟩ := he
  have zg := hS.nz g hg
  have zh := hS.nz h hh
  have zk := hS.nz k hk
  have pg := sizeH_pos zg
  have ph := sizeH_pos zh
  have key : ∀ p, cross k p ≠ 0 → sat k p g → sat k p h → det3 k p g = 0 := by
    intro p np s1 s2
    have e := opp_det (k := k) (i := p) zg zh h0 hn
    unfold sat at s1 s2
    rcases Int.lt_trichotomy (cross k p) 0 with c | c | c
    · have m1 := mul_nn hr (Int.le_of_lt c)
      have m2 := mul_pn (Int.le_of_lt pg) (show det3 k p h ≤ 0 by omega)
      have m3 := mul_pn (Int.le_of_lt ph) (show det3 k p g ≤ 0 by omega)
      have z : sizeH h * det3 k p g = 0 := by omega
      rcases Int.mul_eq_zero.1 z with y | y <;> omega
    · exact absurd c np
    · have m1 := mul_np hr (Int.le_of_lt c)
      have m2 := Int.mul_nonneg (Int.le_of_lt pg) (show 0 ≤ det3 k p h by omega)
      have m3 := Int.mul_nonneg (Int.le_of_lt ph) (show 0 ≤ det3 k p g by omega)
      have z : sizeH h * det3 k p g = 0 := by omega
      rcases Int.mul_eq_zero.1 z with y | y <;> omega
  have z1 := key a na (sa g hg) (sa h hh)
  have z2 := key b nb (sb g hg) (sb h hh)
  have pl := plucker k a g b
  rw [z1, det3_swap2 k b g, z2] at pl
  simp at pl
  have c0 : cross k g = 0 := (Int.mul_eq_zero.1 pl).resolve_right hd
  rcases same_of_par hS hk hg c0 with e | e
  · exact .inl e.symm
  · right
    -- the other of the two directions
    refine hS.srt.same hk hh ?_
    rw [sameDir_iff]
    rw [← Bool.not_eq_true, sameDir_iff] at e hn
    have c1 : cross k h = 0 := by
      have p1 := pluckerA k g h
      have p2 := pluckerB k g h
      rw [c0, h0] at p1 p2
      simp at p1 p2
      unfold nz at zg
      rcases Int.mul_eq_zero.1 p1 with p1 | p1
      · rcases Int.mul_eq_zero.1 p2 with p2 | p2
        · omega
        · exact p2
      · exact p1
    refine ⟨c1, ?_⟩
    have e1 : isUpper k ≠ isUpper g := fun x => e ⟨c0, x⟩
    have e2 : isUpper g ≠ isUpper h := fun x => hn ⟨h0, x⟩
    revert e1 e2
    cases isUpper k <;> cases isUpper g <;> cases isUpper h <;> simp

def edgeFb (S : List Half) (k : Half) : Bool := S.all fun i => S.all fun j => !decide (cross k i < 0) || !decide (0 < cross k j) || decide (det3 k i j < 0)
theorem edgeFb_iff {S : List Half} {k : Half} : edgeFb S k = true ↔ edgeF S k := by
  unfold edgeFb edgeF
  simp only [List.all_eq_true, Bool.or_eq_true, Bool.not_eq_true', decide_eq_false_iff_not, decide_eq_true_eq]
  constructor
  · intro h i hi j hj a b
    rcases h i hi j hj with (c | c) | c
    · exact absurd a c
    · exact absurd b c
    · exact c
  · intro h i hi j hj
    by_cases a : cross k i < 0
    · by_cases b : 0 < cross k j
      · exact .inr (h i hi j hj a b)
      · exact .inl (.inr b)
    · exact .inl (.inl a)
def openB (S : List Half) : Bool := S.all fun g => S.all fun h => !decide (cross g h = 0) || sameDir g h || decide (0 < room g h)
theorem openB_iff {S : List Half} : openB S = true ↔ openP S := by
  unfold openB openP
  simp only [List.all_eq_true, Bool.or_eq_true, Bool.not_eq_true', decide_eq_false_iff_not, decide_eq_true_eq]
  constructor
  · intro h i hi j hj a b
    rcases h i hi j hj with (c | c) | c
    · exact absurd a c
    · rw [c] at b; cases b
    · exact c
  · intro h i hi j hj
    by_cases a : cross i j = 0
    · cases b : sameDir i j
      · exact .inr (h i hi j hj a b)
      · exact .inl (.inr rfl)
    · exact .inl (.inl a)
def satB (k i m : Half) : Bool := (decide (0 < cross k i) && decide (0 ≤ det3 k i m)) || (decide (cross k i < 0) && decide (det3 k i m ≤ 0))
theorem satB_iff {k i m : Half} : satB k i m = true ↔ sat k i m := by unfold satB sat; simp
def edgeSb (S : List Half) (k : Half) : Bool := S.any fun i => S.any fun j => decide (cross k i ≠ 0) && decide (cross k j ≠ 0) && S.all (satB k i) && S.all (satB k j) && decide (det3 k i j ≠ 0)
theorem edgeSb_iff {S : List Half} {k : Half} : edgeSb S k = true ↔ edgeS S k := by
  unfold edgeSb edgeS
  simp only [List.any_eq_true, List.all_eq_true, Bool.and_eq_true, decide_eq_true_eq, satB_iff, and_assoc]

def makeI (S : List Half) : List Half := if openB S = true then S.filter (edgeFb S) else []
def makeS (S : List Half) : List Half := if (S.filter (edgeSb S)).length < 3 then [] else S.filter (edgeSb S)

theorem Srt.nodup {l : List Half} (h : Srt l) : l.Nodup := h.imp fun {a b} hab e => by subst e; rw [before_irr] at hab; cases hab

theorem make_eq {S : List Half} (hS : Good S) : makeI S = makeS S := by
  unfold makeI makeS
  by_cases ho : openB S = true
  · have hp := openB_iff.1 ho
    have e : S.filter (edgeSb S) = S.filter (edgeFb S) := List.filter_congr fun k hk => by
      rw [Bool.eq_iff_iff, edgeSb_iff, edgeFb_iff]
      exact ⟨edgeS_F, edgeF_S hS hp hk⟩
    rw [if_pos ho, e]
    split
    · rename_i hl
      cases hf : S.filter (edgeFb S) with
      | nil => rfl
      | cons k r =>
        exfalso
        have hk : k ∈ S.filter (edgeFb S) := by rw [hf]; simp
        obtain ⟨hkS, hke⟩ := List.mem_filter.1 hk
        obtain ⟨j, hj, ej, cj, _⟩ := edge_next hS hp hkS (edgeFb_iff.1 hke)
        obtain ⟨l, hl', el, cl, _⟩ := edge_next hS hp hj ej
        have mj : j ∈ S.filter (edgeFb S) := List.mem_filter.2 ⟨hj, edgeFb_iff.2 ej⟩
        have ml : l ∈ S.filter (edgeFb S) := List.mem_filter.2 ⟨hl', edgeFb_iff.2 el⟩
        have := three_in hk mj ml (fun e => by subst e; rw [cross_self] at cj; omega) (fun e => by subst e; rw [cross_self] at cl; omega)
          (fun e => by subst e; have := cross_anti k j; omega)
        omega
    · rfl
  · rw [if_neg ho]
    have hn : ¬ openP S := fun h => ho (openB_iff.2 h)
    obtain ⟨g, hg, h, hh, h0, hs, hr⟩ : ∃ g ∈ S, ∃ h ∈ S, cross g h = 0 ∧ sameDir g h = false ∧ room g h ≤ 0 :=
      Classical.byContradiction fun hc => hn fun g hg h hh a b => by
        rcases Int.lt_or_le 0 (room g h) with c | c
        · exact c
        · exact absurd ⟨g, hg, h, hh, a, b, c⟩ hc
    have hl : (S.filter (edgeSb S)).length < 3 := two_out (hS.srt.nodup.filter _) fun x hx => by
      obtain ⟨hxS, hxe⟩ := List.mem_filter.1 hx
      exact edge_void hS hg hh h0 hs hr hxS (edgeSb_iff.1 hxe)
    rw [if_pos hl]
end Go.Proofs.YtlgkfjhbimffiaaDoor
