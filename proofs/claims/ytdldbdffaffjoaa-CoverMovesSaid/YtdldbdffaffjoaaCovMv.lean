/- CoverMoves: members moved and mirrored: the plain facts. -/
import Derived.Test.YtdldbdffaffjoaaCovM
import Derived.Test.YtdldbdffaffjoaaDApp
namespace Go.Proofs.Ytdldbdffaffjoaa
open Go.RowKit
set_option maxRecDepth 20000

/-- A member whose boxes and holes are moved by f, with new slices. -/
def mapQ (f : Bx → Bx) (q : Mb) (u t : Value) : Mb := ⟨q.name, q.l.map f, q.m.map f, u, t, q.cover, q.agg, q.poker⟩
theorem map_core_moved (dx dy dz : Int) (d : Int) (leg : Bx) : coreX d (movedX dx dy dz leg) = movedX dx dy dz (coreX d leg) := by
  unfold coreX; exact grown_moved dx dy dz leg _
theorem map_core_turned (d : Int) (leg : Bx) : coreX d (turnX leg) = turnX (coreX d leg) := by
  unfold coreX; exact grown_turned leg _
theorem given_turned {q : Mb} {d : Int} {leg : Bx} (u t : Value) (h : givenI q d leg = 0) : givenI (mapQ turnX q u t) d (turnX leg) = 0 := by
  obtain ⟨h1, h2, h3⟩ := given_zero.1 h
  refine given_zero.2 ⟨?_, by rw [valid_turned]; exact h2, h3⟩
  unfold mbB memberB at h1 ⊢
  unfold mapQ
  simp only
  rw [solid_turned]
  exact h1
theorem sides_turned {q : Mb} {d : Int} {leg : Bx} (h : givenI q d leg = 0) (i : Nat) : sideC (q.l.map turnX) (q.m.map turnX) (coreX d (turnX leg)) i = sideC q.l q.m (coreX d leg) (otherI i) := by
  obtain ⟨h1, h2, h3⟩ := given_zero.1 h
  rw [map_core_turned]
  exact sideC_turned q.l q.m (core_ord h2 h3) i
theorem sides_moved {q : Mb} {d : Int} {leg : Bx} (dx dy dz : Int) (h : givenI q d leg = 0) (i : Nat) : sideC (q.l.map (movedX dx dy dz)) (q.m.map (movedX dx dy dz)) (coreX d (movedX dx dy dz leg)) i = sideC q.l q.m (coreX d leg) i := by
  obtain ⟨h1, h2, h3⟩ := given_zero.1 h
  rw [map_core_moved]
  exact sideC_moved dx dy dz q.l q.m (core_ord h2 h3) i
theorem given_moved (q : Mb) (d : Int) (leg : Bx) (dx dy dz : Int) (u t : Value) (h : givenI q d leg = 0) : givenI (mapQ (movedX dx dy dz) q u t) d (movedX dx dy dz leg) = 0 ∨ givenI (mapQ (movedX dx dy dz) q u t) d (movedX dx dy dz leg) = 1 := by
  obtain ⟨h1, h2, h3⟩ := given_zero.1 h
  unfold givenI
  by_cases hg : mbB (mapQ (movedX dx dy dz) q u t) = true ∧ validB (movedX dx dy dz leg) = true
  · left; rw [if_pos hg, if_pos h3]
  · right; rw [if_neg hg]

/-- What holds before each round of a loop that appends to a field of each of two members. -/
structure MovL (w W1 : World) (g g' : Nat) (c c' : Value → Array Value) (f f' : Bx → Bx) (l : List Bx) (k : Nat) (a a' : Value) (wr : World) : Prop where
  below : Below w.heap.size w wr
  kept : ∀ j, j < W1.heap.size → j ≠ g → j ≠ g' → wr.heap[j]? = W1.heap[j]?
  size : W1.heap.size ≤ wr.heap.size
  ge : w.heap.size ≤ W1.heap.size
  hg : w.heap.size ≤ g ∧ g < W1.heap.size
  hg' : w.heap.size ≤ g' ∧ g' < W1.heap.size
  ne : g ≠ g'
  b1 : Blk wr g (c a) 26
  b2 : Blk wr g' (c' a') 26
  r1 : wr.ownsRow W1.heap.size 30 6 a k (boxCells ((l.take k).map f))
  r2 : wr.ownsRow W1.heap.size 30 6 a' k (boxCells ((l.take k).map f'))
  sep : ∀ b, a.ownBlock = some b → a'.ownBlock ≠ some b
theorem cells_next (f : Bx → Bx) {l : List Bx} {k : Nat} (hk : k < l.length) : boxCells ((l.take k).map f) ++ boxCells [f l[k]] = boxCells ((l.take (k + 1)).map f) := by
  rw [List.take_succ_eq_append_getElem hk, List.map_append, boxCells_append]; rfl
theorem MovL.next {w W1 : World} {g g' : Nat} {c c' : Value → Array Value} {f f' : Bx → Bx} {l : List Bx} {k : Nat} {a a' : Value} {wr W : World} (h : MovL w W1 g g' c c' f f' l k a a' wr) (hk : k < l.length) {r r' : Rw} {L : Array Bool} {vs : List Value}
    (hD : DApp 30 26 6 W1.heap.size wr r r' L vs W) (e1 : r.G = g ∧ r.c = c a ∧ r.a = a ∧ r.n = k ∧ r.xs = boxCells ((l.take k).map f) ∧ r.news = boxCells [f l[k]]) (e2 : r'.G = g' ∧ r'.c = c' a' ∧ r'.a = a' ∧ r'.n = k ∧ r'.xs = boxCells ((l.take k).map f') ∧ r'.news = boxCells [f' l[k]])
    (s1 : ∀ v, (c a).setIfInBounds r.off v = c v) (s2 : ∀ v, (c' a').setIfInBounds r'.off v = c' v) (hS : L.getD r.kS true = true) (hA : L.getD r.kA true = true) (hS' : L.getD r'.kS true = true) (hA' : L.getD r'.kA true = true) :
    MovL w W1 g g' c c' f f' l (k + 1) (vs.getD r.kA undef) (vs.getD r'.kA undef) W := by
  obtain ⟨g1, g2, g3, g4, g5, g6⟩ := e1
  obtain ⟨q1, q2, q3, q4, q5, q6⟩ := e2
  have hfr : ∀ j, j < W1.heap.size → j ≠ g → j ≠ g' → W.heap[j]? = wr.heap[j]? := fun j h1 h2 h3 =>
    hD.frame j (by have := h.size; omega) (by rw [g1]; exact h2) (by rw [q1]; exact h3) (by rw [g3]; intro e; have := (h.r1.lt j e).1; omega) (by rw [q3]; intro e; have := (h.r2.lt j e).1; omega)
  have hge := h.ge
  refine ⟨⟨hD.os.trans h.below.os, hD.tape.trans h.below.tape, hD.output.trans h.below.output, by have := h.below.size; have := hD.size; omega, fun j hj => ?_⟩, fun j h1 h2 h3 => by rw [hfr j h1 h2 h3]; exact h.kept j h1 h2 h3, by have := h.size; have := hD.size; omega, h.ge, h.hg, h.hg', h.ne, ?_, ?_, ?_, ?_, ?_⟩
  · rw [hfr j (by omega) (by have := h.hg.1; omega) (by have := h.hg'.1; omega)]
    exact h.below.block j hj
  · have := hD.r1.blk1 hS
    rw [g1, g2, s1] at this
    exact this
  · have := hD.r2.blk1 hS'
    rw [q1, q2, s2] at this
    exact this
  · have := hD.r1.row1 hA
    rw [g4, g5, g6, cells_next f hk] at this
    exact this
  · have := hD.r2.row1 hA'
    rw [q4, q5, q6, cells_next f' hk] at this
    exact this
  · have := hD.sep
    unfold Rw.cur at this
    rw [if_pos hA, if_pos hA'] at this
    exact this
theorem MovL.drew {w W1 : World} {g g' : Nat} {c c' : Value → Array Value} {f f' : Bx → Bx} {l : List Bx} {k : Nat} {a a' : Value} {wr : World} (h : MovL w W1 g g' c c' f f' l k a a' wr) {r r' : Rw} {L : Array Bool} {vs : List Value}
    (e1 : r.G = g ∧ r.c = c a ∧ r.a = a ∧ r.n = k ∧ r.xs = boxCells ((l.take k).map f)) (e2 : r'.G = g' ∧ r'.c = c' a' ∧ r'.a = a' ∧ r'.n = k ∧ r'.xs = boxCells ((l.take k).map f')) (hL : ∀ k ∈ r.ks ++ r'.ks, L.getD k true = false) : DApp 30 26 6 W1.heap.size wr r r' L vs wr.drew := by
  obtain ⟨g1, g2, g3, g4, g5⟩ := e1
  obtain ⟨q1, q2, q3, q4, q5⟩ := e2
  refine DApp.init hL ?_ ?_ ?_ ?_ ?_ ?_
  · rw [g3, g4, g5]; exact h.r1
  · rw [q3, q4, q5]; exact h.r2
  · rw [g1, g2]; exact h.b1
  · rw [q1, q2]; exact h.b2
  · rw [g3, q3]; exact h.sep
  · rw [g1, q1]; exact h.ne

end Go.Proofs.Ytdldbdffaffjoaa
