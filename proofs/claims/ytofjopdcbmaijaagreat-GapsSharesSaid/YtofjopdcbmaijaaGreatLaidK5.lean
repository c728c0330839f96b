/- LaidP0, LaidP in one text. -/
import Derived.Test.YtofjopdcbmaijaaGreatLaidK4
namespace Go.Proofs.YtofjopdcbmaijaaGreat
open Go.RowKit
set_option maxRecDepth 20000

def movR (g : Pt) (r : Rn) : Rn := { r with ax := r.ax + g.x, ay := r.ay + g.y, az := r.az + g.z }
def rnL (r : Rn) : List Value := [.string r.mark, .int .i64 r.tx, .int .i64 r.ty, .int .i64 r.ax, .int .i64 r.ay, .int .i64 r.az, .int .i64 r.sx, .int .i64 r.sy, .int .i64 r.sz, .int .i64 r.count]
def rnsCells (l : List Rn) : List Value := l.flatMap rnL
theorem rnL_len (r : Rn) : (rnL r).length = 10 := rfl
theorem rnsCells_append (a b : List Rn) : rnsCells (a ++ b) = rnsCells a ++ rnsCells b := by unfold rnsCells; rw [List.flatMap_append]
theorem rnsCells_length (l : List Rn) : (rnsCells l).length = l.length * 10 := by
  unfold rnsCells
  induction l with
  | nil => rfl
  | cons a l ih => simp only [List.flatMap_cons, List.length_append, ih, List.length_cons, rnL_len]; omega
theorem rnsCells_one (l : List Rn) : ∀ u ∈ rnsCells l, u.oneCell' = true := by
  intro u hu
  unfold rnsCells rnL at hu
  obtain ⟨b, _, hb⟩ := List.mem_flatMap.1 hu
  simp only [List.mem_cons, List.not_mem_nil, or_false] at hb
  rcases hb with rfl | rfl | rfl | rfl | rfl | rfl | rfl | rfl | rfl | rfl <;> rfl
theorem rnsCells_get (l : List Rn) (i : Nat) (h : i < l.length) (r : Nat) (hr : r < 10) : (rnsCells l)[i * 10 + r]? = (rnL l[i])[r]? := by
  have e : rnsCells l = rnsCells (l.take i) ++ (rnL l[i] ++ rnsCells (l.drop (i + 1))) := by
    have h1 : l = l.take i ++ (l[i] :: l.drop (i + 1)) := by rw [← List.drop_eq_getElem_cons h, List.take_append_drop]
    conv => lhs; rw [h1]
    rw [rnsCells_append]; rfl
  have hlen : (rnsCells (l.take i)).length = i * 10 := by rw [rnsCells_length, List.length_take]; omega
  rw [e, List.getElem?_append_right (by omega), hlen, Nat.add_sub_cancel_left, List.getElem?_append_left (by rw [rnL_len]; exact hr)]
/-- Ten cells that read as a run. -/
theorem RnAt.of_cells {w : World} {b off : Nat} {x : Rn} (h : ∀ r, r < 10 → w.cell? ⟨b, off + r, none⟩ = (rnL x)[r]?) : RnAt w b off x :=
  ⟨h 0 (by omega), h 1 (by omega), h 2 (by omega), h 3 (by omega), h 4 (by omega), h 5 (by omega), h 6 (by omega), h 7 (by omega), h 8 (by omega), h 9 (by omega)⟩
theorem RnAt.cells {w : World} {b off : Nat} {x : Rn} (h : RnAt w b off x) (r : Nat) (hr : r < 10) : w.cell? ⟨b, off + r, none⟩ = (rnL x)[r]? := by
  obtain ⟨c0, c1, c2, c3, c4, c5, c6, c7, c8, c9⟩ := h
  have h10 : r = 0 ∨ r = 1 ∨ r = 2 ∨ r = 3 ∨ r = 4 ∨ r = 5 ∨ r = 6 ∨ r = 7 ∨ r = 8 ∨ r = 9 := by omega
  rcases h10 with rfl | rfl | rfl | rfl | rfl | rfl | rfl | rfl | rfl | rfl
  · exact c0
  · exact c1
  · exact c2
  · exact c3
  · exact c4
  · exact c5
  · exact c6
  · exact c7
  · exact c8
  · exact c9
theorem Runs.marks {w : World} {v : Value} {l : List Rn} (h : Runs w v l) : ∀ r ∈ l, r.mark.size ≤ 9223372036854775807 := by
  obtain ⟨_, _, _, _, _, hc⟩ := h
  intro r hr
  obtain ⟨i, hi, rfl⟩ := List.getElem_of_mem hr
  exact (hc i hi).1
theorem Runs.of_own {w : World} {base : Nat} {e : TypeId} {v : Value} {l : List Rn} (hm : ∀ r ∈ l, r.mark.size ≤ 9223372036854775807) (h : w.ownsRow base e 10 v l.length (rnsCells l)) : Runs w v l := by
  obtain ⟨a, cap, rfl, h1, h2, h3⟩ := own_shape h
  refine ⟨a, cap, rfl, h1, h2, fun i hi => ⟨hm _ (List.getElem_mem hi), ?_⟩⟩
  obtain ⟨g, rfl, _, hc⟩ := h3 (by omega)
  refine ⟨g, 0, rfl, RnAt.of_cells fun r hr => ?_⟩
  rw [Nat.zero_add, hc (i * 10 + r) (by omega), rnsCells_get l i hi r hr]
/-- The cells of a slice of runs, one after another. -/
theorem Runs.cells {w : World} {ad : Addr} {cap : Nat} {l : List Rn} (h : Runs w (.slice (some ad) l.length cap) l) : ∀ j u, (rnsCells l)[j]? = some u → w.cell? (ad.add j) = some u := by
  intro j u hj
  obtain ⟨a, cap', he, _, _, hc⟩ := h
  cases he
  have hlt : j < (rnsCells l).length := (List.getElem?_eq_some_iff.1 hj).1
  rw [rnsCells_length] at hlt
  obtain ⟨i, r, hr, rfl⟩ : ∃ i r, r < 10 ∧ j = i * 10 + r := ⟨j / 10, j % 10, Nat.mod_lt _ (by decide), by omega⟩
  have hi : i < l.length := by omega
  obtain ⟨_, b, off, e, hat⟩ := hc i hi
  cases e
  rw [rnsCells_get l i hi r hr] at hj
  have hadd : ∀ n, (⟨b, off, none⟩ : Addr).add n = ⟨b, off + n, none⟩ := fun n => by
    unfold Addr.add; split
    · rename_i h0; subst h0; rfl
    · rfl
  rw [hadd, ← Nat.add_assoc, hat.cells r hr]
  exact hj

theorem info_rn : (Tryz.prog.info? 89).map (fun i => (i.zero, i.size, i.bytes)) = some (some (.agg #[.string ⟨#[]⟩, .int .i64 0, .int .i64 0, .int .i64 0, .int .i64 0, .int .i64 0, .int .i64 0, .int .i64 0, .int .i64 0, .int .i64 0]), 10, 88) := by kernel_rfl

end Go.Proofs.YtofjopdcbmaijaaGreat

namespace Go.Proofs.YtofjopdcbmaijaaGreat
open Go.RowKit
set_option maxRecDepth 20000

/-- A block that holds the runs, the first k of them moved. -/
structure MovK (g : Pt) (rs : List Rn) (gO k : Nat) (W : World) : Prop where
  ex : ∃ cur, Blk W gO cur 89 ∧ ∀ j (h : j < rs.length) r, r < 10 → cur[j * 10 + r]? = (rnL (if j < k then movR g rs[j] else rs[j]))[r]?
theorem MovK.cell {g : Pt} {rs : List Rn} {gO k : Nat} {W : World} (h : MovK g rs gO k W) {j : Nat} (hj : j < rs.length) (r : Nat) (hr : r < 10) : W.cell? ⟨gO, j * 10 + r, none⟩ = (rnL (if j < k then movR g rs[j] else rs[j]))[r]? := by
  obtain ⟨cur, hb, hc⟩ := h.ex
  rw [hb.cell, hc j hj r hr]
theorem MovK.frozen {g : Pt} {rs : List Rn} {gO k : Nat} {W : World} (h : MovK g rs gO k W) (i : Nat) : W.frozen? ⟨gO, i, none⟩ = false := by
  obtain ⟨cur, hb, _⟩ := h.ex
  exact hb.frozen i
theorem MovK.below {g : Pt} {rs : List Rn} {gO k : Nat} {W W' : World} (h : MovK g rs gO k W) (hb : Below W.heap.size W W') : MovK g rs gO k W' := by
  obtain ⟨cur, hb', hc⟩ := h.ex
  exact ⟨cur, hb'.below hb, hc⟩
theorem MovK.step {g : Pt} {rs : List Rn} {gO k : Nat} {W : World} (h : MovK g rs gO k W) (hk : k < rs.length) (a b c : Int) (ha : rs[k].ax + g.x = a) (hb : rs[k].ay + g.y = b) (hc : rs[k].az + g.z = c) :
    MovK g rs gO (k + 1) (((W.setCell ⟨gO, k * 10 + 3, none⟩ (.int .i64 a)).setCell ⟨gO, k * 10 + 3 + 1, none⟩ (.int .i64 b)).setCell ⟨gO, k * 10 + 3 + 2, none⟩ (.int .i64 c)) := by
  subst ha hb hc
  obtain ⟨cur, hb, hc⟩ := h.ex
  refine ⟨⟨_, ((hb.set _ _).set _ _).set _ _, fun j hj r hr => ?_⟩⟩
  have hcj := hc j hj r hr
  have hsz : k * 10 + 9 < cur.size := by
    have := hc k hk 9 (by omega)
    rw [if_neg (Nat.lt_irrefl k)] at this
    exact (Array.getElem?_eq_some_iff.1 (this.trans rfl)).1
  simp only [Array.getElem?_setIfInBounds, Array.size_setIfInBounds]
  by_cases hjk : j = k
  · subst hjk
    rw [if_neg (Nat.lt_irrefl j)] at hcj
    rw [if_pos (Nat.lt_succ_self j)]
    have h10 : r = 3 ∨ r = 4 ∨ r = 5 ∨ (r = 0 ∨ r = 1 ∨ r = 2 ∨ r = 6 ∨ r = 7 ∨ r = 8 ∨ r = 9) := by omega
    rcases h10 with rfl | rfl | rfl | h10
    · rw [if_neg (by omega), if_neg (by omega), if_pos rfl, if_pos (by omega)]; rfl
    · rw [if_neg (by omega), if_pos (by omega), if_pos (by omega)]; rfl
    · rw [if_pos (by omega), if_pos (by omega)]; rfl
    · rw [if_neg (by omega), if_neg (by omega), if_neg (by omega), hcj]
      rcases h10 with rfl | rfl | rfl | rfl | rfl | rfl | rfl <;> rfl
  · rw [if_neg (by omega), if_neg (by omega), if_neg (by omega), hcj]
    by_cases h1 : j < k
    · rw [if_pos h1, if_pos (by omega)]
    · rw [if_neg h1, if_neg (by omega)]
theorem MovK.of_own {g : Pt} {rs : List Rn} {gO cap base : Nat} {W : World} (h : W.ownsRow base 89 10 (.slice (some ⟨gO, 0, none⟩) rs.length cap) rs.length (rnsCells rs)) : MovK g rs gO 0 W := by
  rcases h.2 with ⟨e, _⟩ | ⟨g', cap', cur, e, h1, h2, h3, h4, h5, h6⟩
  · cases e
  · cases e
    refine ⟨cur, h2, fun j hj r hr => ?_⟩
    rw [if_neg (Nat.not_lt_zero j), ← rnsCells_get rs j hj r hr, ← h6, ← Array.getElem?_toList, List.getElem?_take, if_pos (by omega)]
theorem MovK.runs {g : Pt} {rs : List Rn} {gO cap : Nat} {W : World} (h : MovK g rs gO rs.length W) (hm : ∀ r ∈ rs, r.mark.size ≤ 9223372036854775807) (h1 : rs.length ≤ cap) (h2 : cap ≤ 9223372036854775807) : Runs W (.slice (some ⟨gO, 0, none⟩) rs.length cap) (rs.map (movR g)) := by
  refine ⟨some ⟨gO, 0, none⟩, cap, by rw [List.length_map], by rw [List.length_map]; exact h1, h2, fun i hi => ?_⟩
  rw [List.length_map] at hi
  rw [List.getElem_map]
  refine ⟨show rs[i].mark.size ≤ 9223372036854775807 from hm _ (List.getElem_mem hi), gO, 0, rfl, RnAt.of_cells fun r hr => ?_⟩
  rw [Nat.zero_add, h.cell hi r hr, if_pos hi]
theorem runs_nil (w : World) (a : Option Addr) (cap : Nat) (h : cap ≤ 9223372036854775807) : Runs w (.slice a 0 cap) [] := ⟨a, cap, rfl, Nat.zero_le _, h, fun _ hi => absurd hi (Nat.not_lt_zero _)⟩

/-- What Moved answers: an error, or the moved runs. -/
def RetMov (w : World) (g : Pt) (rs : List Rn) (e : Ending) (W : World) : Prop :=
  ∃ a n c err, e = .returned (.tuple #[.slice a n c, .int .i64 err]) ∧ (err = 0 → NearP g 2097152 ∧ Runs W (.slice a n c) (rs.map (movR g))) ∧ ∃ x, W = ext w x
/-- What holds before each round. -/
structure MovL (w : World) (g : Pt) (rs : List Rn) (gO k : Nat) (W : World) : Prop where
  below : Below w.heap.size w W
  by_ : Blk W w.heap.size #[.int .i64 g.x, .int .i64 g.y, .int .i64 g.z] 36
  row : MovK g rs gO k W

end Go.Proofs.YtofjopdcbmaijaaGreat

