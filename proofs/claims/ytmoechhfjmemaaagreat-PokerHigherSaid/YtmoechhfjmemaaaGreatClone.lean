/- Append of a slice that came in; slices.Clone of boxes. -/
import Derived.Test.YtmoechhfjmemaaaGreatAwake0
namespace Go.Proofs.YtmoechhfjmemaaaGreat
open Go.RowKit
set_option maxRecDepth 20000

theorem app_own_at {P : Program} {ops : Array Oper} {rest : List Oper} {o : Oper} {a : Act} {Q : Exit → Act → World → Prop} (hgd : o.guard = none) (s x : Operand) (t : TypeId)
    (ho : o.op = .call { callee := .builtin .append, args := #[s, x], argTypes := #[t, t] })
    (e : TypeId) (z : Value) (size bytes : Nat) (ht : P.underlying t = some (.slice e)) (hi : (P.info? e).map (fun i => (i.zero, i.size, i.bytes)) = some (some z, size, bytes)) (hzs : z.cells.size = size) (hsz : 0 < size)
    (B : World) (v : Value) (n : Nat) (xs : List Value) (w : World) (hs : a.eval s = v) (hown : w.ownsRow B.heap.size e size v n xs)
    (ad : Addr) (m c : Nat) (news : List Value) (hx : a.eval x = .slice (some ad) m c) (hl : news.length = m * size) (hnews : ∀ j u, news[j]? = some u → w.cell? (ad.add j) = some u) (h1 : ∀ u ∈ news, u.oneCell' = true)
    (hroom : (n + m) * bytes ≤ 140737488355328) (hby : 0 < bytes) (hB : Below B.heap.size B w)
    (h : ∀ v' y, (ext B y).ownsRow B.heap.size e size v' (n + m) (xs ++ news) → w.grownBy (ext B y) v.ownBlock → wpList P ops Q rest (a.put o.dst v') (ext B y)) : wpList P ops Q (o :: rest) a w := by
  obtain ⟨i0, hi, hz0, hz1, hz2⟩ := info_parts hi
  have h63 : n + m ≤ maxLen := by
    unfold maxLen
    have := Nat.le_mul_of_pos_right (n + m) hby
    omega
  refine wpList_append_own w hgd s x t ho B.heap.size e i0 z size bytes ht hi hz0 hz1 hz2 hzs hsz v n xs hs hown ad m c news hx hl hnews h1 h63 hroom hB.size ?_
  intro v' w' hown' hgrow _
  obtain ⟨y, rfl⟩ := ext_of (hB.grown hgrow hB.size (own_row hown))
  exact h v' y hown' hgrow

theorem boxCells_length (l : List Bx) : (boxCells l).length = l.length * 6 := by
  unfold boxCells
  induction l with
  | nil => rfl
  | cons a l ih => simp only [List.flatMap_cons, List.length_append, ih, List.length_cons, List.length_nil]; omega
theorem boxCells_one (l : List Bx) : ∀ u ∈ boxCells l, u.oneCell' = true := by
  intro u hu
  unfold boxCells at hu
  obtain ⟨b, _, hb⟩ := List.mem_flatMap.1 hu
  simp only [List.mem_cons, List.not_mem_nil, or_false] at hb
  rcases hb with rfl | rfl | rfl | rfl | rfl | rfl <;> rfl
theorem info_box' : (Tryz.prog.info? 34).map (fun i => (i.zero, i.size, i.bytes)) = some (some (.agg #[.int .i64 0, .int .i64 0, .int .i64 0, .int .i64 0, .int .i64 0, .int .i64 0]), 6, 48) := by kernel_rfl

/-- The cells of a slice of boxes, one after another. -/
theorem Boxes.cells {w : World} {ad : Addr} {cap : Nat} {l : List Bx} (h : Boxes w (.slice (some ad) l.length cap) l) : ∀ j u, (boxCells l)[j]? = some u → w.cell? (ad.add j) = some u := by
  intro j u hj
  obtain ⟨a, cap', he, _, _, hc⟩ := h
  cases he
  have hlt : j < (boxCells l).length := (List.getElem?_eq_some_iff.1 hj).1
  rw [boxCells_length] at hlt
  obtain ⟨i, r, hr, rfl⟩ : ∃ i r, r < 6 ∧ j = i * 6 + r := ⟨j / 6, j % 6, Nat.mod_lt _ (by decide), by omega⟩
  have hi : i < l.length := by omega
  obtain ⟨b, off, e, c0, c1, c2, c3, c4, c5⟩ := hc i hi
  cases e
  obtain ⟨d0, d1, d2, d3, d4, d5⟩ := boxCells_get l i hi
  have hadd : ∀ n, (⟨b, off, none⟩ : Addr).add n = ⟨b, off + n, none⟩ := fun n => by
    unfold Addr.add; split
    · rename_i h0; subst h0; rfl
    · rfl
  rw [hadd, ← Nat.add_assoc]
  have hr6 : r = 0 ∨ r = 1 ∨ r = 2 ∨ r = 3 ∨ r = 4 ∨ r = 5 := by omega
  rcases hr6 with rfl | rfl | rfl | rfl | rfl | rfl
  · rw [Nat.add_zero, d0] at hj; rw [Nat.add_zero, c0]; exact hj
  · rw [d1] at hj; rw [c1]; exact hj
  · rw [d2] at hj; rw [c2]; exact hj
  · rw [d3] at hj; rw [c3]; exact hj
  · rw [d4] at hj; rw [c4]; exact hj
  · rw [d5] at hj; rw [c5]; exact hj

theorem cell_alloc_keep {w : World} {a : Addr} {v : Value} (h : w.cell? a = some v) (o : Obj) : (w.alloc o).cell? a = some v := by
  rw [cell_alloc, h, Option.some_or]

end Go.Proofs.YtmoechhfjmemaaaGreat
