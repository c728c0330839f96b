/- The path of a bar: what shape.Path answers. -/
import Derived.Test.YtofjopdcbmaijaaLaidB
import Derived.Test.YtofjopdcbmaijaaBlk
namespace Go.Proofs.Ytofjopdcbmaijaa
open Go.RowKit
set_option maxRecDepth 20000

/-- A point, one leg further. -/
def addP (dims : List Int) (p : Pt) (g : Nat × Int) : Pt :=
  if g.2 = 120 then ⟨p.x + dims.getD g.1 0, p.y, p.z⟩ else if g.2 = 88 then ⟨p.x - dims.getD g.1 0, p.y, p.z⟩ else if g.2 = 121 then ⟨p.x, p.y + dims.getD g.1 0, p.z⟩ else if g.2 = 89 then ⟨p.x, p.y - dims.getD g.1 0, p.z⟩ else ⟨p.x, p.y, p.z + dims.getD g.1 0⟩
def atK (dims : List Int) (legs : List (Nat × Int)) (k : Nat) : Pt := (legs.take k).foldl (addP dims) ⟨0, 0, 0⟩
theorem atK_succ (dims : List Int) {legs : List (Nat × Int)} {k : Nat} (h : k < legs.length) : atK dims legs (k + 1) = addP dims (atK dims legs k) legs[k] := by
  unfold atK
  rw [List.take_succ_eq_append_getElem h, List.foldl_append]; rfl
def ptsK (dims : List Int) (legs : List (Nat × Int)) (k : Nat) : List Pt := (List.range (k + 1)).map (atK dims legs)
theorem ptsK_succ (dims : List Int) (legs : List (Nat × Int)) (k : Nat) : ptsK dims legs (k + 1) = ptsK dims legs k ++ [atK dims legs (k + 1)] := by
  unfold ptsK
  rw [List.range_succ, List.map_append]; rfl
theorem ptsK_length (dims : List Int) (legs : List (Nat × Int)) (k : Nat) : (ptsK dims legs k).length = k + 1 := by simp [ptsK]
def pathL (b : Br) : List Pt := ptsK b.dims (legsC b.code) (legsC b.code).length

theorem restB_mem {r : Int} {l : List Int} (h : restB r l = true) : ∀ n ∈ l, 1 ≤ n ∧ n ≤ r := by
  induction l generalizing r with
  | nil => intro n hn; cases hn
  | cons a l ih =>
    simp only [restB, Bool.and_eq_true, decide_eq_true_iff] at h
    obtain ⟨⟨h1, h2⟩, h3⟩ := h
    intro n hn
    rcases List.mem_cons.1 hn with rfl | hn
    · exact ⟨h1, h2⟩
    · have := ih h3 n hn; omega
theorem shape_facts {b : Br} (h : shapeB b = true) : (dimsR b.code).2 = 0 ∧ nameB b.mark = true ∧ sizeB b.size = true ∧ (1 ≤ b.count ∧ b.count ≤ 1000) ∧ (b.dims.length : Int) = (dimsR b.code).1 ∧ restB 262144 b.dims = true := by
  unfold shapeB at h
  simp only [Bool.and_eq_true, decide_eq_true_iff] at h
  obtain ⟨h1, h2, h3, h4, h5, h6, h7⟩ := h
  exact ⟨h1, h2, h3, ⟨h4, h5⟩, h6, h7⟩
theorem maxD_ge (l : List (Nat × Int)) : ∀ x ∈ l, (x.1 : Int) ≤ maxD l := by
  suffices H : ∀ (l : List (Nat × Int)) (m : Int), m ≤ l.foldl (fun m x => max m (x.1 : Int)) m ∧ ∀ x ∈ l, (x.1 : Int) ≤ l.foldl (fun m x => max m (x.1 : Int)) m from (H l (-1)).2
  intro l
  induction l with
  | nil => intro m; exact ⟨Int.le_refl _, fun x hx => by cases hx⟩
  | cons a l ih =>
    intro m
    obtain ⟨i1, i2⟩ := ih (max m (a.1 : Int))
    refine ⟨Int.le_trans (Int.le_max_left _ _) i1, fun x hx => ?_⟩
    rcases List.mem_cons.1 hx with rfl | hx
    · exact Int.le_trans (Int.le_max_right _ _) i1
    · exact i2 x hx
theorem legs_dims {b : Br} (h : shapeB b = true) : ∀ x ∈ legsC b.code, x.1 < b.dims.length := by
  obtain ⟨h1, _, _, _, h5, _⟩ := shape_facts h
  intro x hx
  have := maxD_ge _ x hx
  unfold dimsR at h1 h5
  split at h1
  · exact absurd h1 (by decide)
  · rename_i hneg
    rw [if_neg hneg] at h5
    simp only at h5
    omega
theorem legs_way (c : Int) : (legsC c).length ≤ 6 ∧ ∀ x ∈ legsC c, x.2 = 120 ∨ x.2 = 88 ∨ x.2 = 121 ∨ x.2 = 89 ∨ x.2 = 122 := by
  rcases legs_cases c with rfl | rfl | rfl | rfl | rfl | rfl | rfl | rfl | ⟨_, he⟩
  all_goals first | decide | (rw [he]; exact ⟨by decide, fun x hx => by cases hx⟩)


end Go.Proofs.Ytofjopdcbmaijaa
