/- Contracts of package box, third part: contains, Contains, Gap, Square. -/
import Derived.Test.YtdldbdffaffjoaaBoxB
namespace Go.Proofs.Ytdldbdffaffjoaa
open Go.RowKit

/-- The first box contains the second one. -/
def containsB (a b : Bx) : Bool := decide (a.lx ≤ b.lx ∧ b.hx ≤ a.hx ∧ a.ly ≤ b.ly ∧ b.hy ≤ a.hy ∧ a.lz ≤ b.lz ∧ b.hz ≤ a.hz)
theorem contains_iff {a b : Bx} : containsB a b = true ↔ (a.lx ≤ b.lx ∧ b.hx ≤ a.hx ∧ a.ly ≤ b.ly ∧ b.hy ≤ a.hy ∧ a.lz ≤ b.lz ∧ b.hz ≤ a.hz) := by
  unfold containsB; exact decide_eq_true_iff

set_option maxHeartbeats 1000000 in
theorem contains_c (a b : Bx) (w : World) :
    Calls Try.prog 53 #[(.agg #[.int .i64 a.lx, .int .i64 a.ly, .int .i64 a.lz, .int .i64 a.hx, .int .i64 a.hy, .int .i64 a.hz]), (.agg #[.int .i64 b.lx, .int .i64 b.ly, .int .i64 b.lz, .int .i64 b.hx, .int .i64 b.hy, .int .i64 b.hz])] w (Ret w (.bool (containsB a b))) := by
  go_enter Try.func53, Try.ntmps53
  go_wp2
  refine wp_loop_rounds 4 ?_
  rw [rounds_succ]
  go_wp2_with fail
  go_at_call 44; refine (ends0_c a _).mono ?_; rintro e w' ⟨rfl, x, rfl⟩
  go_wp2_with fail
  go_at_call 44; refine (ends0_c b _).mono ?_; rintro e w' ⟨rfl, x, rfl⟩
  go_wp2_with fail
  all_goals first | (go_ret; exact Ret.bool (by unfold containsB; simp; omega) (by (repeat (first | exact grow_refl _ | refine grow_ext _ ?_ | refine grow_alloc _ ?_ | refine grow_drew ?_)))) | rw [rounds_succ]
  go_wp2_with fail
  go_at_call 44; refine (ends1_c a _).mono ?_; rintro e w' ⟨rfl, x, rfl⟩
  go_wp2_with fail
  go_at_call 44; refine (ends1_c b _).mono ?_; rintro e w' ⟨rfl, x, rfl⟩
  go_wp2_with fail
  all_goals first | (go_ret; exact Ret.bool (by unfold containsB; simp; omega) (by (repeat (first | exact grow_refl _ | refine grow_ext _ ?_ | refine grow_alloc _ ?_ | refine grow_drew ?_)))) | rw [rounds_succ]
  go_wp2_with fail
  go_at_call 44; refine (ends2_c a _).mono ?_; rintro e w' ⟨rfl, x, rfl⟩
  go_wp2_with fail
  go_at_call 44; refine (ends2_c b _).mono ?_; rintro e w' ⟨rfl, x, rfl⟩
  go_wp2_with fail
  all_goals first | (go_ret; exact Ret.bool (by unfold containsB; simp; omega) (by (repeat (first | exact grow_refl _ | refine grow_ext _ ?_ | refine grow_alloc _ ?_ | refine grow_drew ?_)))) | rw [rounds_succ]
  go_wp2
  go_ret
  exact Ret.bool (by unfold containsB; simp; omega) (by (repeat (first | exact grow_refl _ | refine grow_ext _ ?_ | refine grow_alloc _ ?_ | refine grow_drew ?_)))

def gapI (a b : Bx) : Int := max (alongI a b 0) (max (alongI a b 1) (alongI a b 2))

end Go.Proofs.Ytdldbdffaffjoaa
