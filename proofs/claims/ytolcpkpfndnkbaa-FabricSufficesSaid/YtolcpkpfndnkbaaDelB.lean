/- slices.Delete of boxes, one box taken out, in a slice of one's own. -/
import Derived.Test.YtolcpkpfndnkbaaClone
import Derived.Deep.MidRow
import Derived.Deep.RegionLaw
import Derived.Lib.SliceRun
import Derived.Test.YtolcpkpfndnkbaaRefF
import Derived.Shelf.RegionOpenPlain
namespace Go.Proofs.Ytolcpkpfndnkbaa
open Go.RowKit Go.Lib

theorem below_setCellsB {B : Nat} {a : World} (b : Nat) (hb : B ≤ b) : ∀ (vs : List Value) (o : Nat) {w : World}, Below B a w → Below B a (w.setCells b o vs)
  | [], _, _, h => h
  | v :: r, o, _, h => below_setCellsB b hb r (o + 1) (h.setCell (p := ⟨b, o, none⟩) hb v)

theorem run_clear_cells {P : Program} (w : World) (t e ty : TypeId) (z : Value) (n : Nat) (ht : P.underlying t = some (.slice e)) (hv : ∀ w, (zeroValue e).run P w = .ok z w) (cs : List Value) (hn : 0 < n) (hz : (Builtin.zeroCells z.cells n).toList = cs) (h1 : ∀ v ∈ cs, v.oneCell' = true) (b o c : Nat)
    (hc : w.there b o cs.length) :
    (Builtin.clear_ #[t] ty #[.slice (some ⟨b, o, none⟩) n c]).run P w = .ok (.tuple #[]) (w.setCells b o cs) := by
  have hst := run_storeCells_cells (P := P) b o cs 0 w (by simpa using fun j hj => (hc j hj).1) (by simpa using fun j hj => (hc j hj).2) h1
  simp only [Nat.add_zero] at hst
  obtain ⟨m, rfl⟩ : ∃ m, n = m + 1 := ⟨n - 1, by omega⟩
  simp [Builtin.clear_, run_underlying ht, hv, hz, hst]

theorem zero_boxes : (Builtin.zeroCells ((.agg #[.int .i64 0, .int .i64 0, .int .i64 0, .int .i64 0, .int .i64 0, .int .i64 0]) : Value).cells 1).toList = [.int .i64 0, .int .i64 0, .int .i64 0, .int .i64 0, .int .i64 0, .int .i64 0] := by kernel_rfl

/-- The boxes that stand in cells that are known. -/
theorem boxes_of_range {w : World} {g cap : Nat} {l : List Bx} (h : w.rangeAt g 0 (boxCells l)) (hcap : l.length ≤ cap) (hcap2 : cap ≤ 9223372036854775807) : Boxes w (.slice (some ⟨g, 0, none⟩) l.length cap) l := by
  refine ⟨some ⟨g, 0, none⟩, cap, rfl, hcap, hcap2, fun i hi => ⟨g, 0, rfl, ?_⟩⟩
  obtain ⟨p0, p1, p2, p3, p4, p5⟩ := boxCells_get l i hi
  exact ⟨by simpa using h _ _ p0, by simpa [Nat.add_assoc] using h _ _ p1, by simpa [Nat.add_assoc] using h _ _ p2, by simpa [Nat.add_assoc] using h _ _ p3, by simpa [Nat.add_assoc] using h _ _ p4, by simpa [Nat.add_assoc] using h _ _ p5⟩

set_option maxRecDepth 100000 in
set_option maxHeartbeats 2000000 in
theorem delete_at (l : List Bx) (i m g cap : Nat) (hm : l.length = m + 1) (hi : i ≤ m) (hle : m + 1 ≤ cap) (hcap : cap ≤ maxLen) (w : World) (hr : w.rangeAt g 0 (boxCells l)) (ht : w.there g 0 ((m + 1) * 6)) :
    Calls Try.prog 31 #[.slice (some ⟨g, 0, none⟩) (m + 1) cap, .int .i64 i, .int .i64 ((i : Int) + 1)] w fun en w' => en = .returned (.slice (some ⟨g, 0, none⟩) m cap) ∧
      w' = (w.drew.setCells g (i * 6) (boxCells (l.drop (i + 1)))).setCells g (m * 6) [.int .i64 0, .int .i64 0, .int .i64 0, .int .i64 0, .int .i64 0, .int .i64 0] := by
  obtain ⟨i0, hi0, hz0, hz1, hz2⟩ := info_parts info_box'
  obtain ⟨news, hnews⟩ : ∃ news, news = boxCells (l.drop (i + 1)) := ⟨_, rfl⟩
  have hlen : news.length = (m - i) * 6 := by rw [hnews, boxCells_length, List.length_drop]; omega
  have hget : ∀ t, t < news.length → news[t]? = (boxCells l)[(i + 1) * 6 + t]? := by
    intro t ht0
    have e2 : boxCells l = boxCells (l.take (i + 1)) ++ news := by rw [hnews, ← boxCells_append, List.take_append_drop]
    rw [e2, List.getElem?_append_right (by rw [boxCells_length, List.length_take]; omega), boxCells_length, List.length_take, show (i + 1) * 6 + t - min (i + 1) l.length * 6 = t by omega]
  obtain ⟨A, hA, hsrc⟩ : ∃ A : Addr, (if cap = i + 1 then some (⟨g, 0, none⟩ : Addr) else some ⟨g, (i + 1) * 6, none⟩) = some A ∧ Hid (∀ t u, news[t]? = some u → w.drew.cell? (A.add t) = some u) := by
    by_cases hc : cap = i + 1
    · refine ⟨⟨g, 0, none⟩, by simp [hc], fun t u hu => ?_⟩
      have h0 : news.length = 0 := by rw [hlen]; omega
      rw [List.length_eq_zero_iff.1 h0] at hu
      simp at hu
    · refine ⟨⟨g, (i + 1) * 6, none⟩, by simp [hc], fun t u hu => ?_⟩
      have ht0 := (List.getElem?_eq_some_iff.1 hu).1
      rw [hget t ht0] at hu
      rw [Addr.add_mid]
      have := hr _ _ hu
      rwa [Nat.zero_add] at this
  have s1 := Lib.hid hlen
  have s2 : Hid (∀ u ∈ news, u.oneCell' = true) := by rw [hnews]; exact boxCells_one _
  have s3 : Hid (∀ t, t < news.length → (w.drew.cell? ⟨g, 0 + i * 6 + t, none⟩).isSome = true ∧ w.drew.frozen? ⟨g, 0 + i * 6 + t, none⟩ = false) := by
    intro t ht0
    have := ht (i * 6 + t) (by omega)
    rw [Nat.zero_add] at this
    rw [Nat.zero_add]
    exact this
  obtain ⟨W1, hW1⟩ : ∃ W1, W1 = w.drew.setCells g (0 + i * 6) news := ⟨_, rfl⟩
  have hcl : ∀ ty, (Builtin.clear_ #[35] ty #[.slice (some ⟨g, m * 6, none⟩) 1 (cap - m)]).run Try.prog W1 = .ok (.tuple #[]) (W1.setCells g (m * 6) [.int .i64 0, .int .i64 0, .int .i64 0, .int .i64 0, .int .i64 0, .int .i64 0]) := fun ty =>
    run_clear_cells W1 _ _ ty _ 1 Try.underlying35 Try.zeroValue52 _ (by decide) zero_boxes (by decide) g (m * 6) _ (by
      rw [hW1]
      refine World.there_setCells (fun j hj => ?_) _ _ _
      have hj6 : j < 6 := hj
      have := ht (m * 6 + j) (by omega)
      rw [Nat.zero_add] at this
      exact this)
  have hW : Hid (W1 = w.drew.setCells g (0 + i * 6) news) := hW1
  have HH := Lib.hid hnews
  have mixed : Try.prog.follows .mixedOrders = true := by kernel_rfl
  have hb1 : (0 : Int) ≤ (i : Int) + 1 := by omega
  have hb2 : (i : Int) ≤ (m : Int) := by omega
  have hic : i ≤ cap := by omega
  have hjc : i + 1 ≤ cap := by omega
  have hk : i + (m - i) = m := by omega
  clear hr ht hget hlen hnews hW1
  go_enter Try.func31, Try.ntmps31
  go_wp2_with fail
  go_region_law_o (refine step_append_room rfl (.tmp 22) (.tmp 25) 35 rfl 52 i0 6 Try.underlying35 hi0 hz1 g 0 i cap (by simp [Act.eval, Act.put]) A (m - i) (cap - (i + 1)) news (by simp [Act.eval, Act.put]) s1.out hsrc.out s2.out (by omega) s3.out ?_; rw [← hW.out])
  go_wp2
  go_ret
  refine ⟨rfl, ?_⟩
  rw [hW.out, HH.out, Nat.zero_add]

theorem delete_c (l : List Bx) (i : Nat) (hi : i < l.length) (v : Value) (base : Nat) (w : World) (h : w.ownsRow base 52 6 v l.length (boxCells l)) :
    Calls Try.prog 31 #[v, .int .i64 i, .int .i64 ((i : Int) + 1)] w fun en w' => ∃ l' v', en = .returned v' ∧ l'.length = l.length - 1 ∧ Boxes w' v' l' ∧ Below base w w' := by
  rcases h.2 with ⟨_, h0⟩ | ⟨g, cap, cur, rfl, hgb, hheap, hle, hcap, hsz, htake⟩
  · omega
  obtain ⟨m, hm⟩ : ∃ m, l.length = m + 1 := ⟨l.length - 1, by omega⟩
  have hr : w.rangeAt g 0 (boxCells l) := fun j u hu => by rw [← Addr.add_mid]; exact h.cells rfl j u hu
  have ht : w.there g 0 ((m + 1) * 6) := fun j hj => by
    have hj2 : j < cur.size := by rw [hsz]; exact Nat.lt_of_lt_of_le hj (Nat.mul_le_mul_right _ (by omega))
    refine ⟨?_, frozen_of_row w g _ cur _ hheap⟩
    rw [Nat.zero_add, cell_of_row w g j cur _ _ hheap, Array.getElem?_eq_getElem hj2]; rfl
  rw [hm]
  refine (delete_at l i m g cap hm (by omega) (by omega) hcap w hr ht).mono ?_
  rintro e w' ⟨rfl, rfl⟩
  have hl' : (l.take i ++ l.drop (i + 1)).length = m := by rw [List.length_append, List.length_take, List.length_drop]; omega
  have hn : (boxCells (l.drop (i + 1))).length = (m - i) * 6 := by rw [boxCells_length, List.length_drop]; omega
  refine ⟨l.take i ++ l.drop (i + 1), _, rfl, by omega, ?_, below_setCellsB g hgb _ _ (below_setCellsB g hgb _ _ (Below.refl _ _).drew)⟩
  have key := boxes_of_range (w := (w.drew.setCells g (i * 6) (boxCells (l.drop (i + 1)))).setCells g (m * 6) [.int .i64 0, .int .i64 0, .int .i64 0, .int .i64 0, .int .i64 0, .int .i64 0]) (g := g) (cap := cap) (l := l.take i ++ l.drop (i + 1)) (by
    refine World.rangeAt_setCells_apart ?_ _ _ _ (.inr (.inl (by rw [boxCells_length, hl']; omega)))
    have t1 : (w.drew.setCells g (i * 6) (boxCells (l.drop (i + 1)))).rangeAt g 0 (boxCells (l.take i)) := by
      refine World.rangeAt_setCells_apart ?_ _ _ _ (.inr (.inl (by rw [boxCells_length, List.length_take]; omega)))
      intro j u hu
      refine hr j u ?_
      have e1 : boxCells l = boxCells (l.take i) ++ boxCells (l.drop i) := by rw [← boxCells_append, List.take_append_drop]
      rw [e1, List.getElem?_append_left (List.getElem?_eq_some_iff.1 hu).1]; exact hu
    have t2 : (w.drew.setCells g (i * 6) (boxCells (l.drop (i + 1)))).rangeAt g (i * 6) (boxCells (l.drop (i + 1))) := World.rangeAt_setCells_same _ _ _ _ (fun j hj => by
      have := ht (i * 6 + j) (by omega)
      rw [Nat.zero_add] at this
      exact this)
    intro j u hu
    rw [boxCells_append] at hu
    have hti : (boxCells (l.take i)).length = i * 6 := by rw [boxCells_length, List.length_take]; omega
    by_cases hj : j < i * 6
    · rw [List.getElem?_append_left (by omega)] at hu
      exact t1 j u hu
    · rw [List.getElem?_append_right (by omega), hti] at hu
      have := t2 _ u hu
      rwa [show i * 6 + (j - i * 6) = 0 + j by omega] at this) (by omega) hcap
  rw [hl'] at key
  exact key

end Go.Proofs.Ytolcpkpfndnkbaa
