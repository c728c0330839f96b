/- A row of boxes that a call has made reads as a list; the example's covers. -/
import Derived.Test.YtmoechhfjmemaaaGreatBoxK2
import Derived.Test.YtmoechhfjmemaaaGreatPlainA
namespace Go.Proofs.YtmoechhfjmemaaaGreat
open Go.RowKit
set_option maxRecDepth 20000

def boxCells (l : List Bx) : List Value := l.flatMap fun b => [.int .i64 b.lx, .int .i64 b.ly, .int .i64 b.lz, .int .i64 b.hx, .int .i64 b.hy, .int .i64 b.hz]
theorem boxCells_get (l : List Bx) (i : Nat) (h : i < l.length) : (boxCells l)[i * 6]? = some (.int .i64 l[i].lx) ∧ (boxCells l)[i * 6 + 1]? = some (.int .i64 l[i].ly) ∧ (boxCells l)[i * 6 + 2]? = some (.int .i64 l[i].lz) ∧
    (boxCells l)[i * 6 + 3]? = some (.int .i64 l[i].hx) ∧ (boxCells l)[i * 6 + 4]? = some (.int .i64 l[i].hy) ∧ (boxCells l)[i * 6 + 5]? = some (.int .i64 l[i].hz) := by
  induction l generalizing i with
  | nil => simp at h
  | cons a l ih =>
    cases i with
    | zero => simp [boxCells]
    | succ i =>
      have := ih i (by simpa using h)
      have hc : ∀ k, (boxCells (a :: l))[(i + 1) * 6 + k]? = (boxCells l)[i * 6 + k]? := fun k => by
        rw [show (i + 1) * 6 + k = (i * 6 + k) + 1 + 1 + 1 + 1 + 1 + 1 by omega]
        simp only [boxCells, List.flatMap_cons, List.cons_append, List.nil_append, List.getElem?_cons_succ]
      have h0 := hc 0
      rw [Nat.add_zero, Nat.add_zero] at h0
      rw [h0, hc, hc, hc, hc, hc]
      exact this
theorem Boxes.of_own {w : World} {base : Nat} {e : TypeId} {v : Value} {l : List Bx} (h : w.ownsRow base e 6 v l.length (boxCells l)) : Boxes w v l := by
  obtain ⟨a, cap, rfl, h1, h2, h3⟩ := own_shape h
  unfold maxLen at h2
  refine ⟨a, cap, rfl, h1, by omega, fun i hi => ?_⟩
  obtain ⟨g, rfl, _, hc⟩ := h3 (by omega)
  obtain ⟨p0, p1, p2, p3, p4, p5⟩ := boxCells_get l i hi
  refine ⟨g, 0, rfl, ?_⟩
  rw [Nat.zero_add]
  exact ⟨by rw [hc _ (by omega), p0], by rw [hc _ (by omega), p1], by rw [hc _ (by omega), p2], by rw [hc _ (by omega), p3], by rw [hc _ (by omega), p4], by rw [hc _ (by omega), p5]⟩

theorem example_covers : coversB [⟨0, 0, 0, 4, 10, 10⟩, ⟨4, 0, 0, 11, 10, 10⟩] ⟨0, 0, 0, 10, 10, 10⟩ = true := by
  rw [covers_iff (by decide) (by decide) (by decide)]
  intro P Q R h
  unfold inB at h
  simp only at h
  by_cases hp : P ≤ 8
  · exact ⟨_, List.mem_cons_self .., by unfold inB; simp only; omega⟩
  · exact ⟨_, List.mem_cons_of_mem _ (List.mem_singleton.2 rfl), by unfold inB; simp only; omega⟩

end Go.Proofs.YtmoechhfjmemaaaGreat
