/- The hull of boxes. -/
import Derived.Test.YtmhhohancconaaaGreatRefK
import Derived.Test.YtmhhohancconaaaGreatBoxK2
namespace Go.Proofs.YtmhhohancconaaaGreat
open Go.RowKit
set_option maxRecDepth 20000

def joinX (a b : Bx) : Bx := ⟨min a.lx b.lx, min a.ly b.ly, min a.lz b.lz, max a.hx b.hx, max a.hy b.hy, max a.hz b.hz⟩
def hullTo (a : Bx) (l : List Bx) (i : Nat) : Bx := (l.take i).foldl joinX a
def hullX : List Bx → Bx
  | [] => zeroX
  | a :: r => (a :: r).foldl joinX a
theorem hullTo_succ (a : Bx) (l : List Bx) (i : Nat) (h : i < l.length) : hullTo a l (i + 1) = joinX (hullTo a l i) l[i] := by
  unfold hullTo; rw [List.take_succ_eq_append_getElem h, List.foldl_append]; rfl
theorem hullTo_one (l : List Bx) (h : 0 < l.length) : hullTo l[0] l 1 = l[0] := by
  rw [hullTo_succ _ _ _ h]
  show joinX l[0] l[0] = l[0]
  unfold joinX
  simp
theorem hullTo_all (l : List Bx) (h : 0 < l.length) : hullTo l[0] l l.length = hullX l := by
  unfold hullTo
  rw [List.take_length]
  cases l with
  | nil => simp at h
  | cons a r => rfl

set_option maxRecDepth 100000 in
set_option maxHeartbeats 1000000 in
theorem Hull_ok (l : List Bx) (v : Value) (w : World) (hl : Boxes w v l) (h1 : l.all validB = true) (h0 : 0 < l.length) :
    Calls Tryz.prog 25 #[v] w (Ret w (.tuple #[(.agg #[.int .i64 (hullX l).lx, .int .i64 (hullX l).ly, .int .i64 (hullX l).lz, .int .i64 (hullX l).hx, .int .i64 (hullX l).hy, .int .i64 (hullX l).hz]), .int .i64 0])) := by
  obtain ⟨a, cap, rfl, hcap, hcap2, hcell⟩ := hl.shape
  have HCE := Lib.hid hcell
  have HALL := Lib.hid (hullTo_all l h0)
  obtain ⟨b0, off0, rfl, c0, c1, c2, c3, c4, c5⟩ := hcell 0 h0
  rw [Nat.zero_mul, Nat.add_zero] at c0 c1 c2 c3 c4 c5
  clear hcell
  have HL := Lib.hid hl
  clear hl
  have hz : ¬ ((l.length : Int) = 0) := by omega
  have hp : (0 : Int) < (l.length : Int) := by omega
  go_enter Tryz.func25, Tryz.ntmps25
  go_wp2_with fail
  refine (all_c l _ _ (HL.out.below (by (repeat (first | exact grow_refl _ | refine grow_ext _ ?_ | refine grow_alloc _ ?_ | refine grow_drew ?_))))).mono ?_; rintro e w' ⟨rfl, x1, rfl⟩
  rw [h1]
  go_wp2_with fail
  clear c0 c1 c2 c3 c4 c5
  go_loopw [22] (fun i wr => ∃ j : Nat, j ≤ l.length ∧ i = .int .i64 j ∧ ∃ x, wr = ext ((ext (w.alloc (.cells #[.int .i64 0, .int .i64 0, .int .i64 0, .int .i64 0, .int .i64 0, .int .i64 0] 56)) x1).alloc (.cells #[.int .i64 (hullTo l[0] l j).lx, .int .i64 (hullTo l[0] l j).ly, .int .i64 (hullTo l[0] l j).lz, .int .i64 (hullTo l[0] l j).hx, .int .i64 (hullTo l[0] l j).hy, .int .i64 (hullTo l[0] l j).hz] 56)) x) (fun i _ => l.length - (intOf i).toNat)
  case atStart => exact ⟨0, by omega, rfl, ext_refl _⟩
  case round =>
    obtain ⟨j, hj, rfl, x, rfl⟩ := hrel
    by_cases hlt : j < l.length
    · obtain ⟨b1, off1, e1, c0, c1, c2, c3, c4, c5⟩ := HCE.out j hlt
      cases e1
      have HS := Lib.hid (hullTo_succ l[0] l j hlt)
      generalize hullTo l[0] l j = H at HS
      go_wp2
      go_roundw
      case rel => exact ⟨j + 1, by omega, by go_num, by rw [HS.out]; simp only [joinX]; exact ext_of (by (repeat (first | exact grow_refl _ | refine grow_ext _ ?_ | refine grow_alloc _ ?_ | refine grow_drew ?_)))⟩
      case measure => simp [intOf]; omega
    · obtain rfl : j = l.length := by omega
      rw [HALL.out]
      go_wp2
      refine bodyPost_ret (v := .tuple #[(.agg #[.int .i64 (hullX l).lx, .int .i64 (hullX l).ly, .int .i64 (hullX l).lz, .int .i64 (hullX l).hx, .int .i64 (hullX l).hy, .int .i64 (hullX l).hz]), .int .i64 0]) (by simp [results, Tryz.results25, go_sem]) rfl ?_
      exact Ret.of (by (repeat (first | exact grow_refl _ | refine grow_ext _ ?_ | refine grow_alloc _ ?_ | refine grow_drew ?_)))

set_option maxHeartbeats 400000 in
theorem Hull_arg (l : List Bx) (v : Value) (w : World) (hl : Boxes w v l) (h1 : l.all validB = false) :
    Calls Tryz.prog 25 #[v] w (Ret w (.tuple #[(.agg #[.int .i64 0, .int .i64 0, .int .i64 0, .int .i64 0, .int .i64 0, .int .i64 0]), .int .i64 1])) := by
  go_enter Tryz.func25, Tryz.ntmps25
  go_wp2_with fail
  refine (all_c l _ _ (hl.below (by (repeat (first | exact grow_refl _ | refine grow_ext _ ?_ | refine grow_alloc _ ?_ | refine grow_drew ?_))))).mono ?_; rintro e w' ⟨rfl, x1, rfl⟩
  rw [h1]
  go_wp2
  refine bodyPost_ret (v := .tuple #[(.agg #[.int .i64 0, .int .i64 0, .int .i64 0, .int .i64 0, .int .i64 0, .int .i64 0]), .int .i64 1]) (by simp [results, Tryz.results25, go_sem]) rfl ?_
  exact Ret.of (by (repeat (first | exact grow_refl _ | refine grow_ext _ ?_ | refine grow_alloc _ ?_ | refine grow_drew ?_)))

set_option maxHeartbeats 400000 in
theorem Hull_empty (v : Value) (w : World) (hl : Boxes w v []) :
    Calls Tryz.prog 25 #[v] w (Ret w (.tuple #[(.agg #[.int .i64 0, .int .i64 0, .int .i64 0, .int .i64 0, .int .i64 0, .int .i64 0]), .int .i64 14])) := by
  obtain ⟨a, cap, rfl, hcap, hcap2, hcell⟩ := hl.shape
  clear hcell
  have HL := Lib.hid hl
  clear hl
  simp only [List.length_nil] at *
  go_enter Tryz.func25, Tryz.ntmps25
  go_wp2_with fail
  refine (all_c [] _ _ (HL.out.below (by (repeat (first | exact grow_refl _ | refine grow_ext _ ?_ | refine grow_alloc _ ?_ | refine grow_drew ?_))))).mono ?_; rintro e w' ⟨rfl, x1, rfl⟩
  rw [show ([] : List Bx).all validB = true from rfl]
  go_wp2
  refine bodyPost_ret (v := .tuple #[(.agg #[.int .i64 0, .int .i64 0, .int .i64 0, .int .i64 0, .int .i64 0, .int .i64 0]), .int .i64 14]) (by simp [results, Tryz.results25, go_sem]) rfl ?_
  exact Ret.of (by (repeat (first | exact grow_refl _ | refine grow_ext _ ?_ | refine grow_alloc _ ?_ | refine grow_drew ?_)))

def hullR (l : List Bx) : Bx × Int := if l.all validB = true then (if 0 < l.length then (hullX l, 0) else (zeroX, 14)) else (zeroX, 1)
theorem Hull_c (l : List Bx) (v : Value) (w : World) (hl : Boxes w v l) : Calls Tryz.prog 25 #[v] w (Ret w (.tuple #[(.agg #[.int .i64 (hullR l).1.lx, .int .i64 (hullR l).1.ly, .int .i64 (hullR l).1.lz, .int .i64 (hullR l).1.hx, .int .i64 (hullR l).1.hy, .int .i64 (hullR l).1.hz]), .int .i64 (hullR l).2])) := by
  unfold hullR
  cases h : l.all validB
  · simpa [zeroX] using Hull_arg l v w hl h
  · by_cases h0 : 0 < l.length
    · simpa [h0] using Hull_ok l v w hl h h0
    · have : l = [] := List.eq_nil_of_length_eq_zero (by omega)
      subst this
      simpa [zeroX] using Hull_empty v w hl

end Go.Proofs.YtmhhohancconaaaGreat
