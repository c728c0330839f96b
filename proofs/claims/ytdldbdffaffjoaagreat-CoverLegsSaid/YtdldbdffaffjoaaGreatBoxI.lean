/- The errors of Nearest and Covers; both as one contract. -/
import Derived.Test.YtdldbdffaffjoaaGreatBoxH
namespace Go.Proofs.YtdldbdffaffjoaaGreat
open Go.RowKit
set_option maxRecDepth 20000

set_option maxHeartbeats 400000 in
theorem Covers_arg (l : List Bx) (v : Value) (b : Bx) (w : World) (hl : Boxes w v l) (h : ¬ (l.all validB = true ∧ validB b = true)) :
    Calls Tryz.prog 103 #[v, (.agg #[.int .i64 b.lx, .int .i64 b.ly, .int .i64 b.lz, .int .i64 b.hx, .int .i64 b.hy, .int .i64 b.hz])] w (Ret w (.tuple #[.bool false, .int .i64 1])) := by
  cases ha : l.all validB
  · go_enter Tryz.func103, Tryz.ntmps103
    go_wp2_with fail
    refine (all_c l _ _ (hl.below (by (repeat (first | exact grow_refl _ | refine grow_ext _ ?_ | refine grow_alloc _ ?_ | refine grow_drew ?_))))).mono ?_; rintro e w' ⟨rfl, x, rfl⟩
    rw [ha]
    go_wp2
    go_ret2
    exact Ret.of (by (repeat (first | exact grow_refl _ | refine grow_ext _ ?_ | refine grow_alloc _ ?_ | refine grow_drew ?_)))
  · have hb : validB b = false := by cases hb : validB b <;> simp_all
    clear h
    go_enter Tryz.func103, Tryz.ntmps103
    go_wp2_with fail
    refine (all_c l _ _ (hl.below (by (repeat (first | exact grow_refl _ | refine grow_ext _ ?_ | refine grow_alloc _ ?_ | refine grow_drew ?_))))).mono ?_; rintro e w' ⟨rfl, x, rfl⟩
    rw [ha]
    go_wp2_with fail
    go_at_call 62; refine (valid_v b _ hb _).mono ?_; rintro e w' ⟨rfl, x, rfl⟩
    go_wp2
    go_ret2
    exact Ret.of (by (repeat (first | exact grow_refl _ | refine grow_ext _ ?_ | refine grow_alloc _ ?_ | refine grow_drew ?_)))

set_option maxHeartbeats 400000 in
theorem Covers_full (l : List Bx) (v : Value) (b : Bx) (w : World) (hl : Boxes w v l) (h1 : l.all validB = true) (h2 : validB b = true) (hlen : 40 < l.length) :
    Calls Tryz.prog 103 #[v, (.agg #[.int .i64 b.lx, .int .i64 b.ly, .int .i64 b.lz, .int .i64 b.hx, .int .i64 b.hy, .int .i64 b.hz])] w (Ret w (.tuple #[.bool false, .int .i64 4])) := by
  obtain ⟨a, cap, rfl, hcap, hcap2, _⟩ := hl.shape
  have h40 : (40 : Int) < (l.length : Int) := by omega
  go_enter Tryz.func103, Tryz.ntmps103
  go_wp2_with fail
  refine (all_c l _ _ (hl.below (by (repeat (first | exact grow_refl _ | refine grow_ext _ ?_ | refine grow_alloc _ ?_ | refine grow_drew ?_))))).mono ?_; rintro e w' ⟨rfl, x, rfl⟩
  rw [h1]
  go_wp2_with fail
  go_at_call 62; refine (valid_v b _ h2 _).mono ?_; rintro e w' ⟨rfl, x, rfl⟩
  go_wp2
  go_ret2
  exact Ret.of (by (repeat (first | exact grow_refl _ | refine grow_ext _ ?_ | refine grow_alloc _ ?_ | refine grow_drew ?_)))

def coversV (l : List Bx) (b : Bx) : Bool × Int :=
  if l.all validB = true ∧ validB b = true then (if l.length ≤ 40 then (coversB l b, 0) else (false, 4)) else (false, 1)
theorem Covers_c (l : List Bx) (v : Value) (b : Bx) (w : World) (hl : Boxes w v l) :
    Calls Tryz.prog 103 #[v, (.agg #[.int .i64 b.lx, .int .i64 b.ly, .int .i64 b.lz, .int .i64 b.hx, .int .i64 b.hy, .int .i64 b.hz])] w (Ret w (.tuple #[.bool (coversV l b).1, .int .i64 (coversV l b).2])) := by
  unfold coversV
  by_cases h : l.all validB = true ∧ validB b = true
  · rw [if_pos h]
    by_cases hn : l.length ≤ 40
    · rw [if_pos hn]; exact Covers_ok l v b w hl hn h.1 h.2
    · rw [if_neg hn]; exact Covers_full l v b w hl h.1 h.2 (by omega)
  · rw [if_neg h]; exact Covers_arg l v b w hl h

end Go.Proofs.YtdldbdffaffjoaaGreat
