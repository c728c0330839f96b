/- A block of known cells in a world that is else unknown; points: slices and rows of them. -/
import Derived.Test.YtmoechhfjmemaaaGreatLaidA
import Derived.Test.YtmoechhfjmemaaaGreatClone
import Derived.OneCell
namespace Go.Proofs.YtmoechhfjmemaaaGreat
open Go.RowKit
set_option maxRecDepth 20000

def Blk (w : World) (k : Nat) (cs : Array Value) (t : TypeId) : Prop := w.heap[k]? = some (.cells cs t (0, 0))
theorem Blk.lt {w : World} {k : Nat} {cs : Array Value} {t : TypeId} (h : Blk w k cs t) : k < w.heap.size := lt_of_block h
theorem Blk.cell {w : World} {k : Nat} {cs : Array Value} {t : TypeId} (h : Blk w k cs t) (i : Nat) : w.cell? ⟨k, i, none⟩ = cs[i]? := by
  unfold Blk at h; simp [World.cell?, h]
theorem Blk.frozen {w : World} {k : Nat} {cs : Array Value} {t : TypeId} (h : Blk w k cs t) (i : Nat) : w.frozen? ⟨k, i, none⟩ = false := by
  unfold Blk at h; simp [World.frozen?, h]
theorem Blk.of_block {w w' : World} {k : Nat} {cs : Array Value} {t : TypeId} (h : Blk w k cs t) (e : w'.heap[k]? = w.heap[k]?) : Blk w' k cs t := e.trans h
theorem Blk.alloc {w : World} {k : Nat} {cs : Array Value} {t : TypeId} (h : Blk w k cs t) (o : Obj) : Blk (w.alloc o) k cs t := h.of_block (Below.heap_alloc _ _ _ h.lt)
theorem Blk.new (w : World) (cs : Array Value) (t : TypeId) : Blk (w.alloc (.cells cs t)) w.heap.size cs t := heap_alloc_new w _
theorem Blk.new' {w : World} {k : Nat} (hk : k = w.heap.size) (cs : Array Value) (t : TypeId) : Blk (w.alloc (.cells cs t)) k cs t := by subst hk; exact Blk.new _ _ _
theorem Blk.ext {w : World} {k : Nat} {cs : Array Value} {t : TypeId} (h : Blk w k cs t) (x : World) : Blk (ext w x) k cs t := h.of_block ((below_ext w x).block k h.lt)
theorem Blk.below {w w' : World} {k : Nat} {cs : Array Value} {t : TypeId} (h : Blk w k cs t) (hb : Below w.heap.size w w') : Blk w' k cs t := h.of_block (hb.block k h.lt)
theorem Blk.other {w : World} {k : Nat} {cs : Array Value} {t : TypeId} (h : Blk w k cs t) {a : Addr} (hne : k ≠ a.block) (u : Value) : Blk (w.setCell a u) k cs t := h.of_block (Below.heap_setCell w a u k hne)
theorem Blk.set {w : World} {k : Nat} {cs : Array Value} {t : TypeId} (h : Blk w k cs t) (i : Nat) (u : Value) : Blk (w.setCell ⟨k, i, none⟩ u) k (cs.setIfInBounds i u) t := by
  have hlt := lt_of_block h
  have h' : w.heap[k] = .cells cs t (0, 0) := by unfold Blk at h; simpa [Array.getElem?_eq_getElem hlt] using h
  show (w.heap.modify k _)[k]? = _
  rw [Array.getElem?_eq_getElem (by simpa using hlt), Array.getElem_modify_self, h']; rfl
theorem Blk.grown {w w' : World} {k : Nat} {cs : Array Value} {t : TypeId} (h : Blk w k cs t) {row : Option Nat} (hg : w.grownBy w' row) (hne : some k ≠ row) : Blk w' k cs t := h.of_block (hg.block k h.lt hne)
/-- A row of other elements lies in another block. -/
theorem Blk.ne_row {w : World} {k : Nat} {cs : Array Value} {t : TypeId} (h : Blk w k cs t) {base s n : Nat} {e : TypeId} {v : Value} {xs : List Value} (ho : w.ownsRow base e s v n xs) (he : t ≠ e) : some k ≠ v.ownBlock := by
  rcases ho.2 with ⟨rfl, _⟩ | ⟨g, cap, cur, rfl, _, g1, _⟩
  · simp [Value.ownBlock]
  · intro q
    simp only [Value.ownBlock, Option.some.injEq] at q
    subst q
    unfold Blk at h
    rw [g1] at h
    cases h
    exact he rfl
theorem own_base_ne {w : World} {k base s n : Nat} {e : TypeId} {v : Value} {xs : List Value} (ho : w.ownsRow base e s v n xs) (h : k < base) : some k ≠ v.ownBlock := fun q => by have := (ho.lt k q.symm).1; omega

theorem app_own_b {P : Program} {ops : Array Oper} {rest : List Oper} {o : Oper} {a : Act} {Q : Exit → Act → World → Prop} (hgd : o.guard = none) (s x : Operand) (t : TypeId)
    (ho : o.op = .call { callee := .builtin .append, args := #[s, x], argTypes := #[t, t] })
    (e : TypeId) (z : Value) (size bytes : Nat) (ht : P.underlying t = some (.slice e)) (hi : (P.info? e).map (fun i => (i.zero, i.size, i.bytes)) = some (some z, size, bytes)) (hzs : z.cells.size = size) (hsz : 0 < size)
    (base : Nat) (v : Value) (n : Nat) (xs : List Value) (w : World) (hs : a.eval s = v) (hown : w.ownsRow base e size v n xs)
    (g m c : Nat) (news : List Value) (hx : a.eval x = .slice (some ⟨g, 0, none⟩) m c) (hl : news.length = m * size) (hnews : ∀ j u, news[j]? = some u → w.cell? ((⟨g, 0, none⟩ : Addr).add j) = some u) (h1 : ∀ u ∈ news, u.oneCell' = true)
    (hroom : (n + m) * bytes ≤ 140737488355328) (hby : 0 < bytes) (hB : base ≤ w.heap.size)
    (h : ∀ v' w', w'.ownsRow base e size v' (n + m) (xs ++ news) → w.grownBy w' v.ownBlock → wpList P ops Q rest (a.put o.dst v') w') : wpList P ops Q (o :: rest) a w := by
  obtain ⟨i0, hi, hz0, hz1, hz2⟩ := info_parts hi
  have h63 : n + m ≤ maxLen := by
    unfold maxLen
    have := Nat.le_mul_of_pos_right (n + m) hby
    omega
  refine wpList_append_own w hgd s x t ho base e i0 z size bytes ht hi hz0 hz1 hz2 hzs hsz v n xs hs hown ⟨g, 0, none⟩ m c news hx hl hnews h1 h63 hroom hB ?_
  intro v' w' hown' hgrow _
  exact h v' w' hown' hgrow

def PtAt (w : World) (b off : Nat) (p : Pt) : Prop :=
  w.cell? ⟨b, off, none⟩ = some (.int .i64 p.x) ∧ w.cell? ⟨b, off + 1, none⟩ = some (.int .i64 p.y) ∧ w.cell? ⟨b, off + 2, none⟩ = some (.int .i64 p.z)
theorem PtAt.ext {w : World} {b off : Nat} {p : Pt} (h : PtAt w b off p) (y : World) : PtAt (ext w y) b off p := ⟨cell_ext_some h.1 y, cell_ext_some h.2.1 y, cell_ext_some h.2.2 y⟩
/-- A slice value that reads as a list of points. -/
def Pts (w : World) (v : Value) (l : List Pt) : Prop :=
  ∃ a cap, v = .slice a l.length cap ∧ l.length ≤ cap ∧ cap ≤ 9223372036854775807 ∧ ∀ i (h : i < l.length), ∃ b off, a = some ⟨b, off, none⟩ ∧ PtAt w b (off + i * 3) l[i]
theorem Pts.ext {w : World} {v : Value} {l : List Pt} (h : Pts w v l) (y : World) : Pts (ext w y) v l := by
  obtain ⟨a, cap, h1, h2, h3, h4⟩ := h
  exact ⟨a, cap, h1, h2, h3, fun i hi => let ⟨b, off, e, hb⟩ := h4 i hi; ⟨b, off, e, hb.ext y⟩⟩
theorem Pts.below {w w' : World} {v : Value} {l : List Pt} (h : Pts w v l) (hb : Below w.heap.size w w') : Pts w' v l := by
  obtain ⟨x, rfl⟩ := ext_of hb
  exact h.ext x
theorem Pts.shape {w : World} {v : Value} {l : List Pt} (h : Pts w v l) : ∃ a cap, v = .slice a l.length cap ∧ l.length ≤ cap ∧ cap ≤ 9223372036854775807 ∧ ∀ i (h : i < l.length), ∃ b off, a = some ⟨b, off, none⟩ ∧ PtAt w b (off + i * 3) l[i] := h

def ptCells (l : List Pt) : List Value := l.flatMap fun p => [.int .i64 p.x, .int .i64 p.y, .int .i64 p.z]
theorem ptCells_length (l : List Pt) : (ptCells l).length = l.length * 3 := by
  unfold ptCells
  induction l with
  | nil => rfl
  | cons a l ih => simp only [List.flatMap_cons, List.length_append, ih, List.length_cons, List.length_nil]; omega
theorem ptCells_append (a b : List Pt) : ptCells (a ++ b) = ptCells a ++ ptCells b := by unfold ptCells; rw [List.flatMap_append]
theorem ptCells_one (l : List Pt) : ∀ u ∈ ptCells l, u.oneCell' = true := by
  intro u hu
  unfold ptCells at hu
  obtain ⟨b, _, hb⟩ := List.mem_flatMap.1 hu
  simp only [List.mem_cons, List.not_mem_nil, or_false] at hb
  rcases hb with rfl | rfl | rfl <;> rfl
theorem ptCells_get (l : List Pt) (i : Nat) (h : i < l.length) : (ptCells l)[i * 3]? = some (.int .i64 l[i].x) ∧ (ptCells l)[i * 3 + 1]? = some (.int .i64 l[i].y) ∧ (ptCells l)[i * 3 + 2]? = some (.int .i64 l[i].z) := by
  induction l generalizing i with
  | nil => simp at h
  | cons a l ih =>
    cases i with
    | zero => simp [ptCells]
    | succ i =>
      have := ih i (by simpa using h)
      have hc : ∀ k, (ptCells (a :: l))[(i + 1) * 3 + k]? = (ptCells l)[i * 3 + k]? := fun k => by
        rw [show (i + 1) * 3 + k = (i * 3 + k) + 1 + 1 + 1 by omega]
        simp only [ptCells, List.flatMap_cons, List.cons_append, List.nil_append, List.getElem?_cons_succ]
      have h0 := hc 0
      rw [Nat.add_zero, Nat.add_zero] at h0
      rw [h0, hc, hc]
      exact this
theorem Pts.of_own {w : World} {base : Nat} {e : TypeId} {v : Value} {l : List Pt} (h : w.ownsRow base e 3 v l.length (ptCells l)) : Pts w v l := by
  obtain ⟨a, cap, rfl, h1, h2, h3⟩ := own_shape h
  unfold maxLen at h2
  refine ⟨a, cap, rfl, h1, by omega, fun i hi => ?_⟩
  obtain ⟨g, rfl, _, hc⟩ := h3 (by omega)
  obtain ⟨p0, p1, p2⟩ := ptCells_get l i hi
  refine ⟨g, 0, rfl, ?_⟩
  rw [Nat.zero_add]
  exact ⟨by rw [hc _ (by omega), p0], by rw [hc _ (by omega), p1], by rw [hc _ (by omega), p2]⟩
theorem info_pt : (Tryz.prog.info? 30).map (fun i => (i.zero, i.size, i.bytes)) = some (some (.agg #[.int .i64 0, .int .i64 0, .int .i64 0]), 3, 24) := by kernel_rfl
theorem own_pts {W : World} {M : Nat} {e : TypeId} {v : Value} {n : Nat} {l : List Pt} {p : Pt} (h : W.ownsRow M e 3 v (n + 1) (ptCells l ++ ptCells [p])) (hn : n = l.length) : W.ownsRow M e 3 v (l ++ [p]).length (ptCells (l ++ [p])) := by
  subst hn
  rw [ptCells_append, List.length_append]; exact h

end Go.Proofs.YtmoechhfjmemaaaGreat
