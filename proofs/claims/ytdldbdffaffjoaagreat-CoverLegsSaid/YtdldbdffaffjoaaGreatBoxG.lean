/- box.Covers. -/
import Derived.Test.YtdldbdffaffjoaaGreatBoxF
namespace Go.Proofs.YtdldbdffaffjoaaGreat
open Go.RowKit
set_option maxRecDepth 20000

theorem Boxes.below {w w' : World} {v : Value} {l : List Bx} (h : Boxes w v l) (hb : Below w.heap.size w w') : Boxes w' v l := by
  obtain ⟨x, rfl⟩ := ext_of hb; exact h.ext x

/-- A slice value that reads as a list of pairs. -/
def Pairs (w : World) (v : Value) (l : List (Int × Int)) : Prop :=
  ∃ a cap, v = .slice a l.length cap ∧ l.length ≤ cap ∧ cap ≤ 9223372036854775807 ∧
    ∀ i (h : i < l.length), ∃ g, a = some ⟨g, 0, none⟩ ∧ w.cell? ⟨g, i * 2, none⟩ = some (.int .i64 l[i].1) ∧ w.cell? ⟨g, i * 2 + 1, none⟩ = some (.int .i64 l[i].2)
theorem Pairs.ext {w : World} {v : Value} {l : List (Int × Int)} (h : Pairs w v l) (y : World) : Pairs (ext w y) v l := by
  obtain ⟨a, cap, h1, h2, h3, h4⟩ := h
  exact ⟨a, cap, h1, h2, h3, fun i hi => let ⟨g, e, c1, c2⟩ := h4 i hi; ⟨g, e, cell_ext_some c1 y, cell_ext_some c2 y⟩⟩
theorem Pairs.below {w w' : World} {v : Value} {l : List (Int × Int)} (h : Pairs w v l) (hb : Below w.heap.size w w') : Pairs w' v l := by
  obtain ⟨x, rfl⟩ := ext_of hb; exact h.ext x
theorem pairCells_get (l : List (Int × Int)) (i : Nat) (h : i < l.length) : (pairCells l)[i * 2]? = some (.int .i64 l[i].1) ∧ (pairCells l)[i * 2 + 1]? = some (.int .i64 l[i].2) := by
  induction l generalizing i with
  | nil => simp at h
  | cons a l ih =>
    cases i with
    | zero => simp [pairCells]
    | succ i =>
      have := ih i (by simpa using h)
      have e1 : (i + 1) * 2 = i * 2 + 1 + 1 := by omega
      simp only [pairCells, List.flatMap_cons, List.cons_append, List.nil_append, List.getElem_cons_succ] at this ⊢
      rw [e1, List.getElem?_cons_succ, List.getElem?_cons_succ, show i * 2 + 1 + 1 + 1 = (i * 2 + 1) + 1 + 1 from rfl, List.getElem?_cons_succ, List.getElem?_cons_succ]
      exact this
theorem Pairs.of_own {w : World} {base : Nat} {e : TypeId} {v : Value} {l : List (Int × Int)} (h : w.ownsRow base e 2 v l.length (pairCells l)) : Pairs w v l := by
  obtain ⟨a, cap, rfl, h1, h2, h3⟩ := own_shape h
  unfold maxLen at h2
  refine ⟨a, cap, rfl, h1, by omega, fun i hi => ?_⟩
  obtain ⟨g, rfl, _, hc⟩ := h3 (by omega)
  obtain ⟨p1, p2⟩ := pairCells_get l i hi
  exact ⟨g, rfl, by rw [hc _ (by omega), p1], by rw [hc _ (by omega), p2]⟩

def cellX (x y z : Int × Int) : Bx := ⟨x.1, y.1, z.1, x.2, y.2, z.2⟩
def okZ (l : List Bx) (x y z : Int × Int) : Bool := l.any fun a => containsB a (cellX x y z)
def okY (l : List Bx) (b : Bx) (x y : Int × Int) : Bool := (partsL l b 2).all (okZ l x y)
def okX (l : List Bx) (b : Bx) (x : Int × Int) : Bool := (partsL l b 1).all (okY l b x)
/-- Boxes cover a box, cell by cell. -/
def coversB (l : List Bx) (b : Bx) : Bool := (partsL l b 0).all (okX l b)

theorem all_false_of {α : Type} {p : α → Bool} {l : List α} {i : Nat} (h : i < l.length) (hp : p l[i] = false) : l.all p = false := by
  rw [List.all_eq_false]; exact ⟨l[i], List.getElem_mem h, by simp [hp]⟩
theorem all_take_succ {α : Type} {p : α → Bool} {l : List α} {i : Nat} (h : i < l.length) (hp : p l[i] = true) (ht : (l.take i).all p = true) : (l.take (i + 1)).all p = true := by
  rw [List.take_succ_eq_append_getElem h, List.all_append, ht]; simp [hp]

set_option maxHeartbeats 400000 in
theorem covers1_c (a c : Bx) (blk : Nat) (w : World) (h : BoxAt w blk 0 c) :
    Calls Tryz.prog 130 #[(.agg #[.int .i64 a.lx, .int .i64 a.ly, .int .i64 a.lz, .int .i64 a.hx, .int .i64 a.hy, .int .i64 a.hz]), .pointer (some ⟨blk, 0, none⟩)] w (Ret w (.bool (containsB a c))) := by
  obtain ⟨c0, c1, c2, c3, c4, c5⟩ := h
  go_enter Tryz.func130, Tryz.ntmps130
  go_wp2_with fail
  go_at_call 131; refine (contains_c a c _).mono ?_; rintro e w' ⟨rfl, x, rfl⟩
  go_wp2
  go_ret
  exact Ret.of (by (repeat (first | exact grow_refl _ | refine grow_ext _ ?_ | refine grow_alloc _ ?_ | refine grow_drew ?_)))
theorem enters_covers1 : Enters 130 := enters_of Tryz.func130 (by decide) (by simp [Tryz.f130])

set_option maxRecDepth 100000 in
set_option maxHeartbeats 2000000 in
theorem Covers_ok (l : List Bx) (v : Value) (b : Bx) (w : World) (hl : Boxes w v l) (hlen : l.length ≤ 40) (h1 : l.all validB = true) (h2 : validB b = true) :
    Calls Tryz.prog 103 #[v, (.agg #[.int .i64 b.lx, .int .i64 b.ly, .int .i64 b.lz, .int .i64 b.hx, .int .i64 b.hy, .int .i64 b.hz])] w (Ret w (.tuple #[.bool (coversB l b), .int .i64 0])) := by
  obtain ⟨a, cap, rfl, hcap, hcap2, _⟩ := hl.shape
  have h40 : decide ((40 : Int) < (l.length : Int)) = false := by simp; omega
  go_enter Tryz.func103, Tryz.ntmps103
  go_wp2_with fail
  refine (all_c l _ _ (hl.below (by (repeat (first | exact grow_refl _ | refine grow_ext _ ?_ | refine grow_alloc _ ?_ | refine grow_drew ?_))))).mono ?_; rintro e w' ⟨rfl, x, rfl⟩
  rw [h1]
  go_wp2_with fail
  go_at_call 62; refine (valid_v b _ h2 _).mono ?_; rintro e w' ⟨rfl, x, rfl⟩
  go_wp2_with fail
  go_at_call 129; refine (parts_c l _ b 0 (by omega) _ (hl.below (by (repeat (first | exact grow_refl _ | refine grow_ext _ ?_ | refine grow_alloc _ ?_ | refine grow_drew ?_)))) (by omega)).mono ?_; rintro e w' ⟨v28, rfl, hown, y, rfl⟩
  have HP0 := Pairs.of_own hown
  clear hown
  have HP := HP0
  obtain ⟨a28, cap28, rfl, hc1, hc2, _⟩ := HP0
  go_wp2_with fail
  go_loopw [30] (fun i wr => ∃ j : Nat, j ≤ (partsL l b 0).length ∧ i = .int .i64 j ∧ (∃ x, wr = ext w x) ∧ BoxAt wr w.heap.size 0 b ∧ Pairs wr (.slice a28 (partsL l b 0).length cap28) (partsL l b 0) ∧ ((partsL l b 0).take j).all (okX l b) = true) (fun i _ => (partsL l b 0).length - (intOf i).toNat)
  case atStart => exact ⟨0, by omega, rfl, ext_of (by (repeat (first | exact grow_refl _ | refine grow_ext _ ?_ | refine grow_alloc _ ?_ | refine grow_drew ?_))), by simp [BoxAt, go_sem], HP, by simp⟩
  case round =>
    obtain ⟨j, hj, rfl, ⟨x1, rfl⟩, ⟨c0, c1, c2, c3, c4, c5⟩, hP, hall⟩ := hrel
    have HAL := Lib.hid hall
    clear hall HP
    obtain ⟨a', cap', he, _, _, hcell⟩ := id hP
    cases he
    by_cases hlt : j < (partsL l b 0).length
    · obtain ⟨g, rfl, d0, d1⟩ := hcell j hlt
      have HC := Lib.hid hcell
      clear hcell
      go_wp2_with fail
      go_at_call 129; refine (parts_c l _ b 1 (by omega) _ (hl.below (by (repeat (first | exact grow_refl _ | refine grow_ext _ ?_ | refine grow_alloc _ ?_ | refine grow_drew ?_)))) (by omega)).mono ?_; rintro e w' ⟨v36, rfl, hown, y, rfl⟩
      have HP1 := Pairs.of_own hown
      clear hown
      have HQ := HP1
      obtain ⟨a36, cap36, rfl, hc3, hc4, _⟩ := HP1
      go_wp2_with fail
      go_loopw [38] (fun i wr => ∃ j2 : Nat, j2 ≤ (partsL l b 1).length ∧ i = .int .i64 j2 ∧ (∃ z, wr = ext (ext w x1) z) ∧ wr.cell? ⟨w.heap.size + x1.heap.size, 0, none⟩ = some (.int .i64 (partsL l b 0)[j].1) ∧ wr.cell? ⟨w.heap.size + x1.heap.size, 1, none⟩ = some (.int .i64 (partsL l b 0)[j].2) ∧ Pairs wr (.slice a36 (partsL l b 1).length cap36) (partsL l b 1) ∧ ((partsL l b 1).take j2).all (okY l b (partsL l b 0)[j]) = true) (fun i _ => (partsL l b 1).length - (intOf i).toNat)
      case atStart => exact ⟨0, by omega, rfl, ext_of (by (repeat (first | exact grow_refl _ | refine grow_ext _ ?_ | refine grow_alloc _ ?_ | refine grow_drew ?_))), by simp [go_sem], by simp [go_sem], HQ, by simp⟩
      case round =>
        obtain ⟨j2, hj2, rfl, ⟨x2, rfl⟩, e0, e1, hP2, hall2⟩ := hrel
        have HAL2 := Lib.hid hall2
        clear hall2 HQ
        obtain ⟨a', cap', he, _, _, hcell2⟩ := id hP2
        cases he
        by_cases hlt2 : j2 < (partsL l b 1).length
        · obtain ⟨g2, rfl, d2, d3⟩ := hcell2 j2 hlt2
          clear hcell2 d0 d1
          go_wp2_with fail
          go_at_call 129; refine (parts_c l _ b 2 (by omega) _ (hl.below (by (repeat (first | exact grow_refl _ | refine grow_ext _ ?_ | refine grow_alloc _ ?_ | refine grow_drew ?_)))) (by omega)).mono ?_; rintro e w' ⟨v44, rfl, hown, y, rfl⟩
          have HP2 := Pairs.of_own hown
          clear hown
          have HR := HP2
          obtain ⟨a44, cap44, rfl, hc5, hc6, _⟩ := HP2
          go_wp2_with fail
          go_loopw [46] (fun i wr => ∃ j3 : Nat, j3 ≤ (partsL l b 2).length ∧ i = .int .i64 j3 ∧ (∃ z, wr = ext (ext (ext w x1) x2) z) ∧ wr.cell? ⟨w.heap.size + x1.heap.size + x2.heap.size, 0, none⟩ = some (.int .i64 (partsL l b 1)[j2].1) ∧ wr.cell? ⟨w.heap.size + x1.heap.size + x2.heap.size, 1, none⟩ = some (.int .i64 (partsL l b 1)[j2].2) ∧ Pairs wr (.slice a44 (partsL l b 2).length cap44) (partsL l b 2) ∧ ((partsL l b 2).take j3).all (okZ l (partsL l b 0)[j] (partsL l b 1)[j2]) = true) (fun i _ => (partsL l b 2).length - (intOf i).toNat)
          case atStart => exact ⟨0, by omega, rfl, ext_of (by (repeat (first | exact grow_refl _ | refine grow_ext _ ?_ | refine grow_alloc _ ?_ | refine grow_drew ?_))), by simp [go_sem], by simp [go_sem], HR, by simp⟩
          case round =>
            obtain ⟨j3, hj3, rfl, ⟨x3, rfl⟩, e2, e3, hP3, hall3⟩ := hrel
            have HAL3 := Lib.hid hall3
            clear hall3 HR
            obtain ⟨a', cap', he, _, _, hcell3⟩ := id hP3
            cases he
            by_cases hlt3 : j3 < (partsL l b 2).length
            · obtain ⟨g3, rfl, d4, d5⟩ := hcell3 j3 hlt3
              clear hcell3 d2 d3
              go_wp2_with fail
              go_at_call 100
              refine Calls.mono (containsFunc_c 130 enters_covers1 _ (fun a => containsB a (cellX (partsL l b 0)[j] (partsL l b 1)[j2] (partsL l b 2)[j3])) l _ _ (hl.below (by (repeat (first | exact grow_refl _ | refine grow_ext _ ?_ | refine grow_alloc _ ?_ | refine grow_drew ?_)))) ?_) ?_
              · intro a z _
                simp only [List.append_toArray, List.cons_append, List.nil_append]
                exact covers1_c a (cellX (partsL l b 0)[j] (partsL l b 1)[j2] (partsL l b 2)[j3]) _ _ (BoxAt.ext (by simp [BoxAt, go_sem, cellX]) z)
              rintro e w' ⟨rfl, y3, rfl⟩
              cases hz : okZ l (partsL l b 0)[j] (partsL l b 1)[j2] (partsL l b 2)[j3]
              · have hcov : coversB l b = false := all_false_of hlt (all_false_of hlt2 (all_false_of hlt3 hz))
                have hz2 : (l.any fun a => containsB a (cellX (partsL l b 0)[j] (partsL l b 1)[j2] (partsL l b 2)[j3])) = false := hz
                have HCOV := Lib.hid hcov
                clear hcov hz
                go_wp2
                go_ret2
                rw [HCOV.out]
                exact Ret.of (by (repeat (first | exact grow_refl _ | refine grow_ext _ ?_ | refine grow_alloc _ ?_ | refine grow_drew ?_)))
              · have hz2 : (l.any fun a => containsB a (cellX (partsL l b 0)[j] (partsL l b 1)[j2] (partsL l b 2)[j3])) = true := hz
                have hal := Lib.hid (all_take_succ hlt3 hz HAL3.out)
                clear hz
                go_wp2
                go_roundw
                case rel => exact ⟨j3 + 1, by omega, by go_num, ext_of (by (repeat (first | exact grow_refl _ | refine grow_ext _ ?_ | refine grow_alloc _ ?_ | refine grow_drew ?_))), by simp [go_sem, e2], by simp [go_sem, e3], hP3.below (by (repeat (first | exact grow_refl _ | refine grow_ext _ ?_ | refine grow_alloc _ ?_ | refine grow_drew ?_))), hal.out⟩
                case measure => simp [intOf]; omega
            · have hy : okY l b (partsL l b 0)[j] (partsL l b 1)[j2] = true := by
                have := HAL3.out
                rwa [List.take_of_length_le (by omega)] at this
              have hal := Lib.hid (all_take_succ hlt2 hy HAL2.out)
              clear hy hcell3 d2 d3
              go_wp2
              go_roundw
              case rel => exact ⟨j2 + 1, by omega, by go_num, ext_of (by (repeat (first | exact grow_refl _ | refine grow_ext _ ?_ | refine grow_alloc _ ?_ | refine grow_drew ?_))), by simp [go_sem, e0], by simp [go_sem, e1], hP2.below (by (repeat (first | exact grow_refl _ | refine grow_ext _ ?_ | refine grow_alloc _ ?_ | refine grow_drew ?_))), hal.out⟩
              case measure => simp [intOf]; omega
        · have hy : okX l b (partsL l b 0)[j] = true := by
            have := HAL2.out
            rwa [List.take_of_length_le (by omega)] at this
          have hal := Lib.hid (all_take_succ hlt hy HAL.out)
          clear hy hcell2 d0 d1
          go_wp2
          go_roundw
          case rel => exact ⟨j + 1, by omega, by go_num, ext_of (by (repeat (first | exact grow_refl _ | refine grow_ext _ ?_ | refine grow_alloc _ ?_ | refine grow_drew ?_))), BoxAt.ext ⟨c0, c1, c2, c3, c4, c5⟩ _, hP.below (by (repeat (first | exact grow_refl _ | refine grow_ext _ ?_ | refine grow_alloc _ ?_ | refine grow_drew ?_))), hal.out⟩
          case measure => simp [intOf]; omega
    · have hy : coversB l b = true := by
        have := HAL.out
        rwa [List.take_of_length_le (by omega)] at this
      have HY := Lib.hid hy
      clear hy hcell
      go_wp2
      go_ret2
      rw [HY.out]
      exact Ret.of (by (repeat (first | exact grow_refl _ | refine grow_ext _ ?_ | refine grow_alloc _ ?_ | refine grow_drew ?_)))

end Go.Proofs.YtdldbdffaffjoaaGreat
