/- What a solid contains: halves, points, parts; its hull; its cuts. -/
import Derived.Test.YtafkibnkpcmmgaaPlainV
import Derived.Test.YtafkibnkpcmmgaaPlainF
import Derived.Test.YtafkibnkpcmmgaaHull
namespace Go.Proofs.Ytafkibnkpcmmgaa

theorem join_left (a b : Bx) : (joinX a b).lx ≤ a.lx ∧ (joinX a b).ly ≤ a.ly ∧ (joinX a b).lz ≤ a.lz ∧ a.hx ≤ (joinX a b).hx ∧ a.hy ≤ (joinX a b).hy ∧ a.hz ≤ (joinX a b).hz := by
  simp only [joinX]; omega
theorem contains_trans {a b c : Bx} (h1 : containsB a b = true) (h2 : containsB b c = true) : containsB a c = true := by
  have h1 := contains_iff.1 h1
  have h2 := contains_iff.1 h2
  exact contains_iff.2 (by omega)
theorem contains_self (a : Bx) : containsB a a = true := contains_iff.2 (by omega)
theorem join_has (a b : Bx) : containsB (joinX a b) a = true ∧ containsB (joinX a b) b = true := by
  constructor <;> (apply contains_iff.2; simp only [joinX]; omega)
theorem fold_has (l : List Bx) (a : Bx) : containsB (l.foldl joinX a) a = true ∧ ∀ b ∈ l, containsB (l.foldl joinX a) b = true := by
  induction l generalizing a with
  | nil => exact ⟨contains_self a, fun b hb => by cases hb⟩
  | cons c l ih =>
    obtain ⟨h1, h2⟩ := ih (joinX a c)
    refine ⟨contains_trans h1 (join_has a c).1, fun b hb => ?_⟩
    rcases List.mem_cons.1 hb with e | e
    · subst e; exact contains_trans h1 (join_has a b).2
    · exact h2 b e
/-- An end of the hull is an end of one of the boxes. -/
theorem fold_ends (l : List Bx) (a : Bx) (k : Int) : (∃ b, (b = a ∨ b ∈ l) ∧ (l.foldl joinX a).lo k = b.lo k) ∧ ∃ b, (b = a ∨ b ∈ l) ∧ (l.foldl joinX a).hi k = b.hi k := by
  induction l generalizing a with
  | nil => exact ⟨⟨a, .inl rfl, rfl⟩, ⟨a, .inl rfl, rfl⟩⟩
  | cons c l ih =>
    obtain ⟨⟨b, hb, e⟩, ⟨b', hb', e'⟩⟩ := ih (joinX a c)
    have two : ((joinX a c).lo k = a.lo k ∨ (joinX a c).lo k = c.lo k) ∧ ((joinX a c).hi k = a.hi k ∨ (joinX a c).hi k = c.hi k) := by
      unfold Bx.lo Bx.hi joinX
      dsimp only
      split
      · omega
      · split <;> omega
    refine ⟨?_, ?_⟩
    · rcases hb with rfl | hb
      · rcases two.1 with h | h
        · exact ⟨a, .inl rfl, by rw [List.foldl_cons, e, h]⟩
        · exact ⟨c, .inr (by simp), by rw [List.foldl_cons, e, h]⟩
      · exact ⟨b, .inr (List.mem_cons_of_mem _ hb), e⟩
    · rcases hb' with rfl | hb'
      · rcases two.2 with h | h
        · exact ⟨a, .inl rfl, by rw [List.foldl_cons, e', h]⟩
        · exact ⟨c, .inr (by simp), by rw [List.foldl_cons, e', h]⟩
      · exact ⟨b', .inr (List.mem_cons_of_mem _ hb'), e'⟩
theorem hull_has {l : List Bx} {b : Bx} (hb : b ∈ l) : containsB (hullX l) b = true := by
  cases l with
  | nil => cases hb
  | cons a r => exact (fold_has (a :: r) a).2 b hb
theorem hull_ends {l : List Bx} (h : l ≠ []) (k : Int) : (∃ b ∈ l, (hullX l).lo k = b.lo k) ∧ ∃ b ∈ l, (hullX l).hi k = b.hi k := by
  cases l with
  | nil => exact absurd rfl h
  | cons a r =>
    obtain ⟨⟨b, hb, e⟩, ⟨b', hb', e'⟩⟩ := fold_ends (a :: r) a k
    refine ⟨⟨b, ?_, e⟩, ⟨b', ?_, e'⟩⟩
    · rcases hb with rfl | hb
      · simp
      · exact hb
    · rcases hb' with rfl | hb'
      · simp
      · exact hb'

def thickB (b : Bx) : Bool := validB b && decide (b.lx < b.hx ∧ b.ly < b.hy ∧ b.lz < b.hz)
theorem thick_iff {b : Bx} : thickB b = true ↔ validB b = true ∧ (b.lx < b.hx ∧ b.ly < b.hy ∧ b.lz < b.hz) := by
  unfold thickB; rw [Bool.and_eq_true, decide_eq_true_iff]
theorem all_valid {l : List Bx} (h : l.all thickB = true) : l.all validB = true := by
  rw [List.all_eq_true] at h ⊢
  exact fun x hx => (thick_iff.1 (h x hx)).1
theorem thick_axis {b : Bx} (h : thickB b = true) (k : Int) : b.lo k < b.hi k := by
  have := (thick_iff.1 h).2
  unfold Bx.lo Bx.hi
  split
  · omega
  · split <;> omega
theorem valid_axis {b : Bx} (h : validB b = true) (k : Int) : -1048576 ≤ b.lo k ∧ b.lo k ≤ b.hi k ∧ b.hi k ≤ 1048576 := by
  have := valid_iff.1 h
  unfold Bx.lo Bx.hi
  split
  · omega
  · split <;> omega
theorem contains_axis {a b : Bx} (h : containsB a b = true) (k : Int) : a.lo k ≤ b.lo k ∧ b.hi k ≤ a.hi k := by
  have := contains_iff.1 h
  unfold Bx.lo Bx.hi
  split
  · omega
  · split <;> omega
theorem hull_thick {l : List Bx} (h : l.all thickB = true) (h0 : l ≠ []) : thickB (hullX l) = true := by
  obtain ⟨a, ha⟩ := List.exists_mem_of_ne_nil l h0
  have hh := List.all_eq_true.1 h
  have hc := contains_iff.1 (hull_has ha)
  have ht := thick_iff.1 (hh a ha)
  have key : ∀ k, -1048576 ≤ (hullX l).lo k ∧ (hullX l).hi k ≤ 1048576 := fun k => by
    obtain ⟨⟨b, hb, e⟩, ⟨b', hb', e'⟩⟩ := hull_ends h0 k
    rw [e, e']
    have h1 := valid_axis (thick_iff.1 (hh b hb)).1 k
    have h2 := valid_axis (thick_iff.1 (hh b' hb')).1 k
    omega
  have k0 := key 0
  have k1 := key 1
  have k2 := key 2
  change -1048576 ≤ (hullX l).lx ∧ (hullX l).hx ≤ 1048576 at k0
  change -1048576 ≤ (hullX l).ly ∧ (hullX l).hy ≤ 1048576 at k1
  change -1048576 ≤ (hullX l).lz ∧ (hullX l).hz ≤ 1048576 at k2
  rw [thick_iff, valid_iff]
  omega

/-- A solid contains a box. -/
def containsS (l m : List Bx) (b : Bx) : Bool := !(m.any fun h => opensB h b) && coversB l b
def solidB (l m : List Bx) : Bool := decide (1 ≤ l.length) && decide (l.length ≤ 20) && decide (m.length ≤ 20) && l.all thickB && m.all thickB
theorem solid_iff {l m : List Bx} : solidB l m = true ↔ (1 ≤ l.length ∧ l.length ≤ 20) ∧ m.length ≤ 20 ∧ l.all thickB = true ∧ m.all thickB = true := by
  unfold solidB; simp only [Bool.and_eq_true, decide_eq_true_iff]; simp only [and_assoc]

theorem covers_sub {l : List Bx} {b c : Bx} (hb : b.lx ≤ b.hx ∧ b.ly ≤ b.hy ∧ b.lz ≤ b.hz) (hc : c.lx ≤ c.hx ∧ c.ly ≤ c.hy ∧ c.lz ≤ c.hz) (h : containsB b c = true) (h2 : coversB l b = true) : coversB l c = true := by
  rw [covers_iff hb.1 hb.2.1 hb.2.2] at h2
  rw [covers_iff hc.1 hc.2.1 hc.2.2]
  have := contains_iff.1 h
  intro P Q R ⟨hP, hQ, hR⟩
  exact h2 P Q R ⟨by omega, by omega, by omega⟩
theorem opens_sub {h b c : Bx} (hc : containsB b c = true) (ho : opensB h c = true) : opensB h b = true := by
  have := contains_iff.1 hc
  have := opens_iff.1 ho
  exact opens_iff.2 (by omega)
theorem containsS_iff {l m : List Bx} {b : Bx} : containsS l m b = true ↔ (∀ h ∈ m, opensB h b = false) ∧ coversB l b = true := by
  unfold containsS
  rw [Bool.and_eq_true, Bool.not_eq_true', List.any_eq_false]
  constructor
  · intro ⟨h1, h2⟩; exact ⟨fun h hh => by simpa using h1 h hh, h2⟩
  · intro ⟨h1, h2⟩; exact ⟨fun h hh => by simpa using h1 h hh, h2⟩
/-- What is contained in a box that a solid contains is contained too. -/
theorem containsS_sub {l m : List Bx} {b c : Bx} (hb : b.lx ≤ b.hx ∧ b.ly ≤ b.hy ∧ b.lz ≤ b.hz) (hc : c.lx ≤ c.hx ∧ c.ly ≤ c.hy ∧ c.lz ≤ c.hz) (h : containsB b c = true) (h2 : containsS l m b = true) : containsS l m c = true := by
  rw [containsS_iff] at h2 ⊢
  refine ⟨fun x hx => ?_, covers_sub hb hc h h2.2⟩
  cases ho : opensB x c
  · rfl
  · have := h2.1 x hx
    rw [opens_sub h ho] at this; cases this
/-- A part that is chosen is contained. -/
theorem sel_contains {l m : List Bx} {c : Bx} (hc : c.lx ≤ c.hx ∧ c.ly ≤ c.hy ∧ c.lz ≤ c.hz) (h : selB l m c = true) : containsS l m c = true := by
  unfold selB at h
  rw [Bool.and_eq_true, Bool.not_eq_true'] at h
  obtain ⟨h1, h2⟩ := h
  obtain ⟨a, ha, hac⟩ := List.any_eq_true.1 h1
  unfold containsS
  rw [h2, covers_iff hc.1 hc.2.1 hc.2.2 |>.2]
  · rfl
  · intro P Q R ⟨hP, hQ, hR⟩
    have := contains_iff.1 hac
    exact ⟨a, ha, by omega, by omega, by omega⟩
theorem cell_ord {A0 A1 A2 : List Int} (h0 : A0.Pairwise (· < ·)) (h1 : A1.Pairwise (· < ·)) (h2 : A2.Pairwise (· < ·)) {c : Bx} (h : c ∈ rowA (pairsL A0) (pairsL A1) (pairsL A2)) : c.lx < c.hx ∧ c.ly < c.hy ∧ c.lz < c.hz := by
  obtain ⟨p, hp, q, hq, r, hr, rfl⟩ := mem_rowA.1 h
  have := pairs_mem A0 h0 p hp
  have := pairs_mem A1 h1 q hq
  have := pairs_mem A2 h2 r hr
  simp only [cellX]; omega

theorem pairs_apart {A : List Int} (hA : A.Pairwise (· < ·)) : (pairsL A).Pairwise (fun p q => p.2 ≤ q.1) := by
  induction A with
  | nil => exact List.Pairwise.nil
  | cons a A ih =>
    cases A with
    | nil => exact List.Pairwise.nil
    | cons b r =>
      rw [List.pairwise_cons] at hA
      rw [pairsL, List.pairwise_cons]
      refine ⟨fun p hp => ?_, ih hA.2⟩
      have := (pairs_mem _ hA.2 p hp).1
      rcases List.mem_cons.1 this with e | e
      · simp only; omega
      · have := (List.pairwise_cons.1 hA.2).1 _ e; simp only; omega
theorem gap_of {a b : Bx} (h : a.hx ≤ b.lx ∨ b.hx ≤ a.lx ∨ a.hy ≤ b.ly ∨ b.hy ≤ a.ly ∨ a.hz ≤ b.lz ∨ b.hz ≤ a.lz) : 0 ≤ gapI a b := by
  unfold gapI alongI
  show 0 ≤ max (max (b.lx - a.hx) (a.lx - b.hx)) (max (max (b.ly - a.hy) (a.ly - b.hy)) (max (b.lz - a.hz) (a.lz - b.hz)))
  omega
/-- Parts have no inner points in common. -/
theorem cells_apart {A0 A1 A2 : List Int} (h0 : A0.Pairwise (· < ·)) (h1 : A1.Pairwise (· < ·)) (h2 : A2.Pairwise (· < ·)) : (rowA (pairsL A0) (pairsL A1) (pairsL A2)).Pairwise (fun c d => 0 ≤ gapI d c) := by
  unfold rowA rowX rowY
  rw [List.pairwise_flatMap]
  refine ⟨fun p _ => ?_, ?_⟩
  · rw [List.pairwise_flatMap]
    refine ⟨fun q _ => ?_, ?_⟩
    · rw [List.pairwise_map]
      exact (pairs_apart h2).imp fun {a b} h => gap_of (by simp only [cellX]; omega)
    · refine (pairs_apart h1).imp fun {a b} h => ?_
      intro c hc d hd
      obtain ⟨_, _, rfl⟩ := List.mem_map.1 hc
      obtain ⟨_, _, rfl⟩ := List.mem_map.1 hd
      exact gap_of (by simp only [cellX]; omega)
  · refine (pairs_apart h0).imp fun {a b} h => ?_
    intro c hc d hd
    obtain ⟨_, _, hc⟩ := List.mem_flatMap.1 hc
    obtain ⟨_, _, hd⟩ := List.mem_flatMap.1 hd
    obtain ⟨_, _, rfl⟩ := List.mem_map.1 hc
    obtain ⟨_, _, rfl⟩ := List.mem_map.1 hd
    exact gap_of (by simp only [cellX]; omega)

def halfLo (b : Bx) (k p : Int) : Bx := if k = 0 then ⟨b.lx, b.ly, b.lz, p, b.hy, b.hz⟩ else if k = 1 then ⟨b.lx, b.ly, b.lz, b.hx, p, b.hz⟩ else ⟨b.lx, b.ly, b.lz, b.hx, b.hy, p⟩
def halfHi (b : Bx) (k p : Int) : Bx := if k = 0 then ⟨p, b.ly, b.lz, b.hx, b.hy, b.hz⟩ else if k = 1 then ⟨b.lx, p, b.lz, b.hx, b.hy, b.hz⟩ else ⟨b.lx, b.ly, p, b.hx, b.hy, b.hz⟩
theorem half_in {b : Bx} {k p : Int} (hb : b.lx ≤ b.hx ∧ b.ly ≤ b.hy ∧ b.lz ≤ b.hz) (hp : b.lo k ≤ p ∧ p ≤ b.hi k) :
    ((halfLo b k p).lx ≤ (halfLo b k p).hx ∧ (halfLo b k p).ly ≤ (halfLo b k p).hy ∧ (halfLo b k p).lz ≤ (halfLo b k p).hz) ∧ ((halfHi b k p).lx ≤ (halfHi b k p).hx ∧ (halfHi b k p).ly ≤ (halfHi b k p).hy ∧ (halfHi b k p).lz ≤ (halfHi b k p).hz) ∧
    containsB b (halfLo b k p) = true ∧ containsB b (halfHi b k p) = true := by
  rw [contains_iff, contains_iff]
  unfold Bx.lo Bx.hi at hp
  unfold halfLo halfHi
  by_cases h0 : k = 0
  · simp only [if_pos h0] at *; omega
  · by_cases h1 : k = 1
    · simp only [if_neg h0, if_pos h1] at *; omega
    · simp only [if_neg h0, if_neg h1] at *; omega
theorem opens_halves {h b : Bx} {k p : Int} (ht : h.lx < h.hx ∧ h.ly < h.hy ∧ h.lz < h.hz) (hp : b.lo k ≤ p ∧ p ≤ b.hi k) :
    opensB h b = (opensB h (halfLo b k p) || opensB h (halfHi b k p)) := by
  apply bool_ext
  rw [Bool.or_eq_true, opens_iff, opens_iff, opens_iff]
  unfold Bx.lo Bx.hi at hp
  unfold halfLo halfHi
  by_cases h0 : k = 0
  · simp only [if_pos h0] at *; omega
  · by_cases h1 : k = 1
    · simp only [if_neg h0, if_pos h1] at *; omega
    · simp only [if_neg h0, if_neg h1] at *; omega
theorem containsS_halves {l m : List Bx} {b : Bx} {k p : Int} (hm : m.all thickB = true) (hb : b.lx ≤ b.hx ∧ b.ly ≤ b.hy ∧ b.lz ≤ b.hz) (hp : b.lo k ≤ p ∧ p ≤ b.hi k) :
    containsS l m b = (containsS l m (halfLo b k p) && containsS l m (halfHi b k p)) := by
  obtain ⟨o1, o2, c1, c2⟩ := half_in hb hp
  apply bool_ext
  rw [Bool.and_eq_true]
  constructor
  · intro h
    exact ⟨containsS_sub hb o1 c1 h, containsS_sub hb o2 c2 h⟩
  · intro ⟨h1, h2⟩
    rw [containsS_iff] at h1 h2 ⊢
    refine ⟨fun x hx => ?_, ?_⟩
    · rw [opens_halves (thick_iff.1 (List.all_eq_true.1 hm x hx)).2 hp, h1.1 x hx, h2.1 x hx]; rfl
    · rw [covers_iff hb.1 hb.2.1 hb.2.2]
      have k1 := h1.2
      have k2 := h2.2
      rw [covers_iff o1.1 o1.2.1 o1.2.2] at k1
      rw [covers_iff o2.1 o2.2.1 o2.2.2] at k2
      intro P Q R hin
      by_cases hc : inB (halfLo b k p) P Q R
      · exact k1 P Q R hc
      · refine k2 P Q R ?_
        unfold inB at *
        unfold Bx.lo Bx.hi at hp
        unfold halfLo halfHi at *
        by_cases h0 : k = 0
        · simp only [if_pos h0] at *; omega
        · by_cases h1 : k = 1
          · simp only [if_neg h0, if_pos h1] at *; omega
          · simp only [if_neg h0, if_neg h1] at *; omega
/-- A point of a part that is chosen is in the concrete. -/
theorem sel_point {l m : List Bx} {c : Bx} {x y z : Int} (hc : c.lx ≤ c.hx ∧ c.ly ≤ c.hy ∧ c.lz ≤ c.hz) (h : selB l m c = true) (hp : containsB c (ptX x y z) = true) : containsS l m (ptX x y z) = true :=
  containsS_sub hc ⟨Int.le_refl _, Int.le_refl _, Int.le_refl _⟩ hp (sel_contains hc h)

end Go.Proofs.Ytafkibnkpcmmgaa
