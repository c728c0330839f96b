/- Boxes with a number each: slices of them. -/
import Derived.Test.YtmoechhfjmemaaaGreatBlk
import Derived.Test.YtmoechhfjmemaaaGreatOwn
namespace Go.Proofs.YtmoechhfjmemaaaGreat
open Go.RowKit
set_option maxRecDepth 20000

structure Rc where
  box : Bx
  bar : Int
def RcAt (w : World) (b off : Nat) (c : Rc) : Prop :=
  w.cell? ⟨b, off, none⟩ = some (.int .i64 c.box.lx) ∧ w.cell? ⟨b, off + 1, none⟩ = some (.int .i64 c.box.ly) ∧ w.cell? ⟨b, off + 2, none⟩ = some (.int .i64 c.box.lz) ∧
  w.cell? ⟨b, off + 3, none⟩ = some (.int .i64 c.box.hx) ∧ w.cell? ⟨b, off + 4, none⟩ = some (.int .i64 c.box.hy) ∧ w.cell? ⟨b, off + 5, none⟩ = some (.int .i64 c.box.hz) ∧
  w.cell? ⟨b, off + 6, none⟩ = some (.int .i64 c.bar)
theorem RcAt.ext {w : World} {b off : Nat} {c : Rc} (h : RcAt w b off c) (y : World) : RcAt (ext w y) b off c := by
  obtain ⟨h0, h1, h2, h3, h4, h5, h6⟩ := h
  exact ⟨cell_ext_some h0 y, cell_ext_some h1 y, cell_ext_some h2 y, cell_ext_some h3 y, cell_ext_some h4 y, cell_ext_some h5 y, cell_ext_some h6 y⟩
/-- A slice value that reads as a list of the reference's cuts. -/
def Rcs (w : World) (v : Value) (l : List Rc) : Prop :=
  ∃ a cap, v = .slice a l.length cap ∧ l.length ≤ cap ∧ cap ≤ 9223372036854775807 ∧ ∀ i (h : i < l.length), ∃ b off, a = some ⟨b, off, none⟩ ∧ RcAt w b (off + i * 7) l[i]
theorem Rcs.ext {w : World} {v : Value} {l : List Rc} (h : Rcs w v l) (y : World) : Rcs (ext w y) v l := by
  obtain ⟨a, cap, h1, h2, h3, h4⟩ := h
  exact ⟨a, cap, h1, h2, h3, fun i hi => let ⟨b, off, e, hb⟩ := h4 i hi; ⟨b, off, e, hb.ext y⟩⟩
theorem Rcs.below {w w' : World} {v : Value} {l : List Rc} (h : Rcs w v l) (hb : Below w.heap.size w w') : Rcs w' v l := by
  obtain ⟨x, rfl⟩ := ext_of hb
  exact h.ext x
theorem Rcs.shape {w : World} {v : Value} {l : List Rc} (h : Rcs w v l) : ∃ a cap, v = .slice a l.length cap ∧ l.length ≤ cap ∧ cap ≤ 9223372036854775807 ∧ ∀ i (h : i < l.length), ∃ b off, a = some ⟨b, off, none⟩ ∧ RcAt w b (off + i * 7) l[i] := h
def rcCells (l : List Rc) : List Value := l.flatMap fun c => [.int .i64 c.box.lx, .int .i64 c.box.ly, .int .i64 c.box.lz, .int .i64 c.box.hx, .int .i64 c.box.hy, .int .i64 c.box.hz, .int .i64 c.bar]
theorem rcCells_append (a b : List Rc) : rcCells (a ++ b) = rcCells a ++ rcCells b := by unfold rcCells; rw [List.flatMap_append]
theorem rcCells_one (l : List Rc) : ∀ u ∈ rcCells l, u.oneCell' = true := by
  intro u hu
  unfold rcCells at hu
  obtain ⟨b, _, hb⟩ := List.mem_flatMap.1 hu
  simp only [List.mem_cons, List.not_mem_nil, or_false] at hb
  rcases hb with rfl | rfl | rfl | rfl | rfl | rfl | rfl <;> rfl
theorem rcCells_get (l : List Rc) (i : Nat) (h : i < l.length) : (rcCells l)[i * 7]? = some (.int .i64 l[i].box.lx) ∧ (rcCells l)[i * 7 + 1]? = some (.int .i64 l[i].box.ly) ∧ (rcCells l)[i * 7 + 2]? = some (.int .i64 l[i].box.lz) ∧
    (rcCells l)[i * 7 + 3]? = some (.int .i64 l[i].box.hx) ∧ (rcCells l)[i * 7 + 4]? = some (.int .i64 l[i].box.hy) ∧ (rcCells l)[i * 7 + 5]? = some (.int .i64 l[i].box.hz) ∧ (rcCells l)[i * 7 + 6]? = some (.int .i64 l[i].bar) := by
  induction l generalizing i with
  | nil => simp at h
  | cons a l ih =>
    cases i with
    | zero => simp [rcCells]
    | succ i =>
      have := ih i (by simpa using h)
      have hc : ∀ k, (rcCells (a :: l))[(i + 1) * 7 + k]? = (rcCells l)[i * 7 + k]? := fun k => by
        rw [show (i + 1) * 7 + k = (i * 7 + k) + 1 + 1 + 1 + 1 + 1 + 1 + 1 by omega]
        simp only [rcCells, List.flatMap_cons, List.cons_append, List.nil_append, List.getElem?_cons_succ]
      have h0 := hc 0
      rw [Nat.add_zero, Nat.add_zero] at h0
      rw [h0, hc, hc, hc, hc, hc, hc]
      exact this
theorem Rcs.of_own {w : World} {base : Nat} {e : TypeId} {v : Value} {l : List Rc} (h : w.ownsRow base e 7 v l.length (rcCells l)) : Rcs w v l := by
  obtain ⟨a, cap, rfl, h1, h2, h3⟩ := own_shape h
  unfold maxLen at h2
  refine ⟨a, cap, rfl, h1, by omega, fun i hi => ?_⟩
  obtain ⟨g, rfl, _, hc⟩ := h3 (by omega)
  obtain ⟨p0, p1, p2, p3, p4, p5, p6⟩ := rcCells_get l i hi
  refine ⟨g, 0, rfl, ?_⟩
  rw [Nat.zero_add]
  exact ⟨by rw [hc _ (by omega), p0], by rw [hc _ (by omega), p1], by rw [hc _ (by omega), p2], by rw [hc _ (by omega), p3], by rw [hc _ (by omega), p4], by rw [hc _ (by omega), p5], by rw [hc _ (by omega), p6]⟩
theorem own_rcs {W : World} {M : Nat} {e : TypeId} {v : Value} {n : Nat} {l : List Rc} {c : Rc} (h : W.ownsRow M e 7 v (n + 1) (rcCells l ++ rcCells [c])) (hn : n = l.length) : W.ownsRow M e 7 v (l ++ [c]).length (rcCells (l ++ [c])) := by
  subst hn
  rw [rcCells_append, List.length_append]; exact h

end Go.Proofs.YtmoechhfjmemaaaGreat
