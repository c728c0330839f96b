/- Findings of the kind 1: slices of them; two equal lists of them. -/
import Derived.Test.YtmhhohancconaaaGreatBaseK
import Derived.Test.YtmhhohancconaaaGreatExtK
namespace Go.Proofs.YtmhhohancconaaaGreat
open Go.RowKit
set_option maxRecDepth 20000

def FdAt (w : World) (b off : Nat) (m : ByteArray) : Prop := w.cell? ⟨b, off, none⟩ = some (.int .i64 1) ∧ w.cell? ⟨b, off + 1, none⟩ = some (.string m)
/-- A slice value that reads as findings of the kind 1, with these marks. -/
def Fds (w : World) (v : Value) (l : List ByteArray) : Prop :=
  ∃ a cap, v = .slice a l.length cap ∧ l.length ≤ cap ∧ cap ≤ 9223372036854775807 ∧ ∀ i (h : i < l.length), ∃ b off, a = some ⟨b, off, none⟩ ∧ FdAt w b (off + i * 2) l[i]
theorem Fds.ext {w : World} {v : Value} {l : List ByteArray} (h : Fds w v l) (y : World) : Fds (ext w y) v l := by
  obtain ⟨a, cap, h1, h2, h3, h4⟩ := h
  exact ⟨a, cap, h1, h2, h3, fun i hi => let ⟨b, off, e, hb, hc⟩ := h4 i hi; ⟨b, off, e, cell_ext_some hb y, cell_ext_some hc y⟩⟩
theorem Fds.below {w w' : World} {v : Value} {l : List ByteArray} (h : Fds w v l) (hb : Below w.heap.size w w') : Fds w' v l := by
  obtain ⟨x, rfl⟩ := ext_of hb
  exact h.ext x
theorem Fds.shape {w : World} {v : Value} {l : List ByteArray} (h : Fds w v l) : ∃ a cap, v = .slice a l.length cap ∧ l.length ≤ cap ∧ cap ≤ 9223372036854775807 ∧ ∀ i (h : i < l.length), ∃ b off, a = some ⟨b, off, none⟩ ∧ FdAt w b (off + i * 2) l[i] := h
theorem fds_nil (w : World) : Fds w (.slice none 0 0) [] := ⟨none, 0, rfl, Nat.le_refl _, by decide, fun i hi => absurd hi (Nat.not_lt_zero _)⟩
def fdCells (l : List ByteArray) : List Value := l.flatMap fun m => [.int .i64 1, .string m]
theorem fdCells_append (a b : List ByteArray) : fdCells (a ++ b) = fdCells a ++ fdCells b := by unfold fdCells; rw [List.flatMap_append]
theorem fdCells_one (l : List ByteArray) : ∀ u ∈ fdCells l, u.oneCell' = true := by
  intro u hu
  unfold fdCells at hu
  obtain ⟨b, _, hb⟩ := List.mem_flatMap.1 hu
  simp only [List.mem_cons, List.not_mem_nil, or_false] at hb
  rcases hb with rfl | rfl <;> rfl
theorem fdCells_get (l : List ByteArray) (i : Nat) (h : i < l.length) : (fdCells l)[i * 2]? = some (.int .i64 1) ∧ (fdCells l)[i * 2 + 1]? = some (.string l[i]) := by
  induction l generalizing i with
  | nil => simp at h
  | cons a l ih =>
    cases i with
    | zero => simp [fdCells]
    | succ i =>
      have := ih i (by simpa using h)
      have hc : ∀ k, (fdCells (a :: l))[(i + 1) * 2 + k]? = (fdCells l)[i * 2 + k]? := fun k => by
        rw [show (i + 1) * 2 + k = (i * 2 + k) + 1 + 1 by omega]
        simp only [fdCells, List.flatMap_cons, List.cons_append, List.nil_append, List.getElem?_cons_succ]
      have h0 := hc 0
      rw [Nat.add_zero, Nat.add_zero] at h0
      rw [h0, hc]
      exact this
theorem Fds.of_own {w : World} {base : Nat} {e : TypeId} {v : Value} {l : List ByteArray} (h : w.ownsRow base e 2 v l.length (fdCells l)) : Fds w v l := by
  obtain ⟨a, cap, rfl, h1, h2, h3⟩ := own_shape h
  unfold maxLen at h2
  refine ⟨a, cap, rfl, h1, by omega, fun i hi => ?_⟩
  obtain ⟨g, rfl, _, hc⟩ := h3 (by omega)
  obtain ⟨p0, p1⟩ := fdCells_get l i hi
  refine ⟨g, 0, rfl, ?_⟩
  rw [Nat.zero_add]
  exact ⟨by rw [hc _ (by omega), p0], by rw [hc _ (by omega), p1]⟩
/-- Findings of the call's own, and an error number; or alone. -/
def RetFds (w : World) (l : List ByteArray) (err : Int) (e : Ending) (w' : World) : Prop :=
  ∃ v, e = .returned (.tuple #[v, .int .i64 err]) ∧ w'.ownsRow w.heap.size 47 2 v l.length (fdCells l) ∧ ∃ x, w' = ext w x
def RetFdsO (w : World) (l : List ByteArray) (e : Ending) (W : World) : Prop := ∃ v, e = .returned v ∧ W.ownsRow w.heap.size 47 2 v l.length (fdCells l) ∧ ∃ x, W = ext w x
theorem fds_len {w : World} {L : List ByteArray} {err : Int} {N : Nat} (hN : L.length = N) {e : Ending} {W : World} (h : RetFds w L err e W) :
    ∃ a c, e = .returned (.tuple #[.slice a N c, .int .i64 err]) ∧ N ≤ c ∧ c ≤ 9223372036854775807 ∧ ∃ x, W = ext w x := by
  subst hN
  obtain ⟨v, rfl, hown, x, rfl⟩ := h
  obtain ⟨a, c, rfl, h1, h2, -⟩ := own_shape hown
  exact ⟨a, c, rfl, h1, h2, x, rfl⟩
theorem fds_nothing {w : World} {err : Int} {e : Ending} {W : World} (h : RetFds w [] err e W) : ∃ a c, e = .returned (.tuple #[.slice a 0 c, .int .i64 err]) ∧ c ≤ 9223372036854775807 ∧ ∃ x, W = ext w x := by
  obtain ⟨a, c, e1, _, e3, e5⟩ := fds_len (N := 0) rfl h
  exact ⟨a, c, e1, e3, e5⟩
theorem info_fd : (Tryz.prog.info? 47).map (fun i => (i.zero, i.size, i.bytes)) = some (some (.agg #[.int .i64 0, .string ⟨#[]⟩]), 2, 24) := by kernel_rfl
theorem own_fds {W : World} {M : Nat} {e : TypeId} {v : Value} {n : Nat} {l : List ByteArray} {c : ByteArray} (h : W.ownsRow M e 2 v (n + 1) (fdCells l ++ fdCells [c])) (hn : n = l.length) : W.ownsRow M e 2 v (l ++ [c]).length (fdCells (l ++ [c])) := by
  subst hn
  rw [fdCells_append, List.length_append]; exact h

end Go.Proofs.YtmhhohancconaaaGreat
