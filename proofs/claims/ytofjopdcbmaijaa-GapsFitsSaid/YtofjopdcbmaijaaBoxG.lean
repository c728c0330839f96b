/- box.Covers. -/
import Derived.Test.YtofjopdcbmaijaaBoxF
namespace Go.Proofs.Ytofjopdcbmaijaa
open Go.RowKit
set_option maxRecDepth 20000

theorem Boxes.below {w w' : World} {v : Value} {l : List Bx} (h : Boxes w v l) (hb : Below w.heap.size w w') : Boxes w' v l := by
  obtain ⟨x, rfl⟩ := ext_of hb; exact h.ext x

/-- A slice value that reads as a list of pairs. -/
def Pairs (w : World) (v : Value) (l : List (Int × Int)) : Prop :=
  ∃ a cap, v = .slice a l.length cap ∧ l.length ≤ cap ∧ cap ≤ 9223372036854775807 ∧
    ∀ i (h : i < l.length), ∃ g, a = some ⟨g, 0, none⟩ ∧ w.cell? ⟨g, i * 2, none⟩ = some (.int .i64 l[i].1) ∧ w.cell? ⟨g, i * 2 + 1, none⟩ = some (.int .i64 l[i].2)
theorem Pairs.ext {w : World} {v : Value} {l : List (Int × Int)} (h : Pairs w v l) (y : World) : Pairs (ext w y) v l := by
  obtain ⟨a, cap, h1, h2, h3, h4⟩ := h
  exact ⟨a, cap, h1, h2, h3, fun i hi => let ⟨g, e, c1, c2⟩ := h4 i hi; ⟨g, e, cell_ext_some c1 y, cell_ext_some c2 y⟩⟩
theorem Pairs.below {w w' : World} {v : Value} {l : List (Int × Int)} (h : Pairs w v l) (hb : Below w.heap.size w w') : Pairs w' v l := by
  obtain ⟨x, rfl⟩ := ext_of hb; exact h.ext x
theorem pairCells_get (l : List (Int × Int)) (i : Nat) (h : i < l.length) : (pairCells l)[i * 2]? = some (.int .i64 l[i].1) ∧ (pairCells l)[i * 2 + 1]? = some (.int .i64 l[i].2) := by
  induction l generalizing i with
  | nil => simp at h
  | cons a l ih =>
    cases i with
    | zero => simp [pairCells]
    | succ i =>
      have := ih i (by simpa using h)
      have e1 : (i + 1) * 2 = i * 2 + 1 + 1 := by omega
      simp only [pairCells, List.flatMap_cons, List.cons_append, List.nil_append, List.getElem_cons_succ] at this ⊢
      rw [e1, List.getElem?_cons_succ, List.getElem?_cons_succ, show i * 2 + 1 + 1 + 1 = (i * 2 + 1) + 1 + 1 from rfl, List.getElem?_cons_succ, List.getElem?_cons_succ]
      exact this
theorem Pairs.of_own {w : World} {base : Nat} {e : TypeId} {v : Value} {l : List (Int × Int)} (h : w.ownsRow base e 2 v l.length (pairCells l)) : Pairs w v l := by
  obtain ⟨a, cap, rfl, h1, h2, h3⟩ := own_shape h
  unfold maxLen at h2
  refine ⟨a, cap, rfl, h1, by omega, fun i hi => ?_⟩
  obtain ⟨g, rfl, _, hc⟩ := h3 (by omega)
  obtain ⟨p1, p2⟩ := pairCells_get l i hi
  exact ⟨g, rfl, by rw [hc _ (by omega), p1], by rw [hc _ (by omega), p2]⟩

def cellX (x y z : Int × Int) : Bx := ⟨x.1, y.1, z.1, x.2, y.2, z.2⟩
def okZ (l : List Bx) (x y z : Int × Int) : Bool := l.any fun a => containsB a (cellX x y z)
def okY (l : List Bx) (b : Bx) (x y : Int × Int) : Bool := (partsL l b 2).all (okZ l x y)
def okX (l : List Bx) (b : Bx) (x : Int × Int) : Bool := (partsL l b 1).all (okY l b x)
/-- Boxes cover a box, cell by cell. -/
def coversB (l : List Bx) (b : Bx) : Bool := (partsL l b 0).all (okX l b)

theorem all_false_of {α : Type} {p : α → Bool} {l : List α} {i : Nat} (h : i < l.length) (hp : p l[i] = false) : l.all p = false := by
  rw [List.all_eq_false]; exact ⟨l[i], List.getElem_mem h, by simp [hp]⟩
theorem all_take_succ {α : Type} {p : α → Bool} {l : List α} {i : Nat} (h : i < l.length) (hp : p l[i] = true) (ht : (l.take i).all p = true) : (l.take (i + 1)).all p = true := by
  rw [List.take_succ_eq_append_getElem h, List.all_append, ht]; simp [hp]

end Go.Proofs.Ytofjopdcbmaijaa
