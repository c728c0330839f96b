/- Contracts of package box, third part: contains, Contains, Gap, Square. -/
import Derived.Test.YtafkibnkpcmmgaaBoxB
namespace Go.Proofs.Ytafkibnkpcmmgaa
open Go.RowKit

/-- The first box contains the second one. -/
def containsB (a b : Bx) : Bool := decide (a.lx ≤ b.lx ∧ b.hx ≤ a.hx ∧ a.ly ≤ b.ly ∧ b.hy ≤ a.hy ∧ a.lz ≤ b.lz ∧ b.hz ≤ a.hz)
theorem contains_iff {a b : Bx} : containsB a b = true ↔ (a.lx ≤ b.lx ∧ b.hx ≤ a.hx ∧ a.ly ≤ b.ly ∧ b.hy ≤ a.hy ∧ a.lz ≤ b.lz ∧ b.hz ≤ a.hz) := by
  unfold containsB; exact decide_eq_true_iff

set_option maxHeartbeats 1000000 in
theorem contains_c (a b : Bx) (w : World) :
    Calls Try.prog 71 #[(.agg #[.int .i64 a.lx, .int .i64 a.ly, .int .i64 a.lz, .int .i64 a.hx, .int .i64 a.hy, .int .i64 a.hz]), (.agg #[.int .i64 b.lx, .int .i64 b.ly, .int .i64 b.lz, .int .i64 b.hx, .int .i64 b.hy, .int .i64 b.hz])] w (Ret w (.bool (containsB a b))) := by
  go_enter Try.func71, Try.ntmps71
  go_wp2
  refine wp_loop_rounds 4 ?_
  rw [rounds_succ]
  go_wp2_with fail
  go_at_call 73; refine (ends0_c a _).mono ?_; rintro e w' ⟨rfl, x, rfl⟩
  go_wp2_with fail
  go_at_call 73; refine (ends0_c b _).mono ?_; rintro e w' ⟨rfl, x, rfl⟩
  go_wp2_with fail
  all_goals first | (go_ret; exact Ret.bool (by unfold containsB; simp; omega) (by (repeat (first | exact grow_refl _ | refine grow_ext _ ?_ | refine grow_alloc _ ?_ | refine grow_drew ?_)))) | rw [rounds_succ]
  go_wp2_with fail
  go_at_call 73; refine (ends1_c a _).mono ?_; rintro e w' ⟨rfl, x, rfl⟩
  go_wp2_with fail
  go_at_call 73; refine (ends1_c b _).mono ?_; rintro e w' ⟨rfl, x, rfl⟩
  go_wp2_with fail
  all_goals first | (go_ret; exact Ret.bool (by unfold containsB; simp; omega) (by (repeat (first | exact grow_refl _ | refine grow_ext _ ?_ | refine grow_alloc _ ?_ | refine grow_drew ?_)))) | rw [rounds_succ]
  go_wp2_with fail
  go_at_call 73; refine (ends2_c a _).mono ?_; rintro e w' ⟨rfl, x, rfl⟩
  go_wp2_with fail
  go_at_call 73; refine (ends2_c b _).mono ?_; rintro e w' ⟨rfl, x, rfl⟩
  go_wp2_with fail
  all_goals first | (go_ret; exact Ret.bool (by unfold containsB; simp; omega) (by (repeat (first | exact grow_refl _ | refine grow_ext _ ?_ | refine grow_alloc _ ?_ | refine grow_drew ?_)))) | rw [rounds_succ]
  go_wp2
  go_ret
  exact Ret.bool (by unfold containsB; simp; omega) (by (repeat (first | exact grow_refl _ | refine grow_ext _ ?_ | refine grow_alloc _ ?_ | refine grow_drew ?_)))

set_option maxHeartbeats 400000 in
theorem Contains_ok (a b : Bx) (ha : validB a = true) (hb : validB b = true) (w : World) :
    Calls Try.prog 42 #[(.agg #[.int .i64 a.lx, .int .i64 a.ly, .int .i64 a.lz, .int .i64 a.hx, .int .i64 a.hy, .int .i64 a.hz]), (.agg #[.int .i64 b.lx, .int .i64 b.ly, .int .i64 b.lz, .int .i64 b.hx, .int .i64 b.hy, .int .i64 b.hz])] w (Ret w (.tuple #[.bool (containsB a b), .int .i64 0])) := by
  go_enter Try.func42, Try.ntmps42
  go_wp2_with fail
  go_at_call 44; refine (valid_v a _ ha _).mono ?_; rintro e w' ⟨rfl, x, rfl⟩
  go_wp2_with fail
  go_at_call 44; refine (valid_v b _ hb _).mono ?_; rintro e w' ⟨rfl, x, rfl⟩
  go_wp2_with fail
  go_at_call 71; refine (contains_c a b _).mono ?_; rintro e w' ⟨rfl, x, rfl⟩
  go_wp2
  go_ret2
  exact Ret.of (by (repeat (first | exact grow_refl _ | refine grow_ext _ ?_ | refine grow_alloc _ ?_ | refine grow_drew ?_)))

set_option maxHeartbeats 400000 in
theorem Contains_err (a b : Bx) (h : ¬ (validB a = true ∧ validB b = true)) (w : World) :
    Calls Try.prog 42 #[(.agg #[.int .i64 a.lx, .int .i64 a.ly, .int .i64 a.lz, .int .i64 a.hx, .int .i64 a.hy, .int .i64 a.hz]), (.agg #[.int .i64 b.lx, .int .i64 b.ly, .int .i64 b.lz, .int .i64 b.hx, .int .i64 b.hy, .int .i64 b.hz])] w (Ret w (.tuple #[.bool false, .int .i64 1])) := by
  cases ha : validB a
  · go_enter Try.func42, Try.ntmps42
    go_wp2_with fail
    go_at_call 44; refine (valid_v a _ ha _).mono ?_; rintro e w' ⟨rfl, x, rfl⟩
    go_wp2
    go_ret2
    exact Ret.of (by (repeat (first | exact grow_refl _ | refine grow_ext _ ?_ | refine grow_alloc _ ?_ | refine grow_drew ?_)))
  · have hb : validB b = false := by cases hb : validB b <;> simp_all
    clear h
    go_enter Try.func42, Try.ntmps42
    go_wp2_with fail
    go_at_call 44; refine (valid_v a _ ha _).mono ?_; rintro e w' ⟨rfl, x, rfl⟩
    go_wp2_with fail
    go_at_call 44; refine (valid_v b _ hb _).mono ?_; rintro e w' ⟨rfl, x, rfl⟩
    go_wp2
    go_ret2
    exact Ret.of (by (repeat (first | exact grow_refl _ | refine grow_ext _ ?_ | refine grow_alloc _ ?_ | refine grow_drew ?_)))

def gapI (a b : Bx) : Int := max (alongI a b 0) (max (alongI a b 1) (alongI a b 2))

set_option maxHeartbeats 400000 in
theorem Gap_ok (a b : Bx) (ha : validB a = true) (hb : validB b = true) (w : World) :
    Calls Try.prog 26 #[(.agg #[.int .i64 a.lx, .int .i64 a.ly, .int .i64 a.lz, .int .i64 a.hx, .int .i64 a.hy, .int .i64 a.hz]), (.agg #[.int .i64 b.lx, .int .i64 b.ly, .int .i64 b.lz, .int .i64 b.hx, .int .i64 b.hy, .int .i64 b.hz])] w (Ret w (.tuple #[.int .i64 (gapI a b), .int .i64 0])) := by
  have ka := Bd.of_valid ha
  have kb := Bd.of_valid hb
  go_enter Try.func26, Try.ntmps26
  go_wp2_with fail
  go_at_call 44; refine (valid_v a _ ha _).mono ?_; rintro e w' ⟨rfl, x, rfl⟩
  go_wp2_with fail
  go_at_call 44; refine (valid_v b _ hb _).mono ?_; rintro e w' ⟨rfl, x, rfl⟩
  go_wp2_with fail
  refine wp_region_grows (by kernel_rfl) (by kernel_rfl) ?_
  repeat (go_big_quiet_step ((go_at_call 58; refine Calls.quiet_ext (along_c a b _ ?_ ka kb _); omega)))
  refine wpQuiet_nil ?_; rintro _ ⟨xq, rfl⟩
  go_wp2
  go_ret2
  exact Ret.of (by (repeat (first | exact grow_refl _ | refine grow_ext _ ?_ | refine grow_alloc _ ?_ | refine grow_drew ?_)))

set_option maxHeartbeats 400000 in
theorem Gap_err (a b : Bx) (h : ¬ (validB a = true ∧ validB b = true)) (w : World) :
    Calls Try.prog 26 #[(.agg #[.int .i64 a.lx, .int .i64 a.ly, .int .i64 a.lz, .int .i64 a.hx, .int .i64 a.hy, .int .i64 a.hz]), (.agg #[.int .i64 b.lx, .int .i64 b.ly, .int .i64 b.lz, .int .i64 b.hx, .int .i64 b.hy, .int .i64 b.hz])] w (Ret w (.tuple #[.int .i64 0, .int .i64 1])) := by
  cases ha : validB a
  · go_enter Try.func26, Try.ntmps26
    go_wp2_with fail
    go_at_call 44; refine (valid_v a _ ha _).mono ?_; rintro e w' ⟨rfl, x, rfl⟩
    go_wp2
    go_ret2
    exact Ret.of (by (repeat (first | exact grow_refl _ | refine grow_ext _ ?_ | refine grow_alloc _ ?_ | refine grow_drew ?_)))
  · have hb : validB b = false := by cases hb : validB b <;> simp_all
    clear h
    go_enter Try.func26, Try.ntmps26
    go_wp2_with fail
    go_at_call 44; refine (valid_v a _ ha _).mono ?_; rintro e w' ⟨rfl, x, rfl⟩
    go_wp2_with fail
    go_at_call 44; refine (valid_v b _ hb _).mono ?_; rintro e w' ⟨rfl, x, rfl⟩
    go_wp2
    go_ret2
    exact Ret.of (by (repeat (first | exact grow_refl _ | refine grow_ext _ ?_ | refine grow_alloc _ ?_ | refine grow_drew ?_)))

end Go.Proofs.Ytafkibnkpcmmgaa
