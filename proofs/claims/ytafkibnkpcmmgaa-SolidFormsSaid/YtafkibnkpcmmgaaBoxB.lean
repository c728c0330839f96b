/- Contracts of package box, second part: gaps along an axis, boxes that contain one another. -/
import Derived.Test.YtafkibnkpcmmgaaBoxA
namespace Go.Proofs.Ytafkibnkpcmmgaa
open Go.RowKit

/-- All coordinates are far from the ends of int. -/
def Bd (b : Bx) : Prop := (-1099511627776 ≤ b.lx ∧ b.lx ≤ 1099511627776) ∧ (-1099511627776 ≤ b.ly ∧ b.ly ≤ 1099511627776) ∧ (-1099511627776 ≤ b.lz ∧ b.lz ≤ 1099511627776) ∧ (-1099511627776 ≤ b.hx ∧ b.hx ≤ 1099511627776) ∧ (-1099511627776 ≤ b.hy ∧ b.hy ≤ 1099511627776) ∧ (-1099511627776 ≤ b.hz ∧ b.hz ≤ 1099511627776)

theorem valid_iff {b : Bx} : validB b = true ↔ (-1048576 ≤ b.lx ∧ b.lx ≤ b.hx ∧ b.hx ≤ 1048576 ∧ -1048576 ≤ b.ly ∧ b.ly ≤ b.hy ∧ b.hy ≤ 1048576 ∧ -1048576 ≤ b.lz ∧ b.lz ≤ b.hz ∧ b.hz ≤ 1048576) := by
  unfold validB; exact decide_eq_true_iff
theorem Bd.of_valid {b : Bx} (h : validB b = true) : Bd b := by
  have := valid_iff.1 h; unfold Bd; omega

theorem valid_v (b : Bx) (r : Bool) (h : validB b = r) (w : World) : Calls Try.prog 44 #[(.agg #[.int .i64 b.lx, .int .i64 b.ly, .int .i64 b.lz, .int .i64 b.hx, .int .i64 b.hy, .int .i64 b.hz])] w (Ret w (.bool r)) := by
  subst h; exact valid_c b w

def alongI (a b : Bx) (k : Int) : Int := max (b.lo k - a.hi k) (a.lo k - b.hi k)

theorem Bd.lo {b : Bx} (h : Bd b) (k : Int) : -1099511627776 ≤ b.lo k ∧ b.lo k ≤ 1099511627776 := by
  unfold Bd at h; unfold Bx.lo; split <;> (try split) <;> omega
theorem Bd.hi {b : Bx} (h : Bd b) (k : Int) : -1099511627776 ≤ b.hi k ∧ b.hi k ≤ 1099511627776 := by
  unfold Bd at h; unfold Bx.hi; split <;> (try split) <;> omega

set_option maxHeartbeats 400000 in
theorem along_c (a b : Bx) (k : Int) (h : 0 ≤ k ∧ k ≤ 2) (ha : Bd a) (hb : Bd b) (w : World) :
    Calls Try.prog 58 #[(.agg #[.int .i64 a.lx, .int .i64 a.ly, .int .i64 a.lz, .int .i64 a.hx, .int .i64 a.hy, .int .i64 a.hz]), (.agg #[.int .i64 b.lx, .int .i64 b.ly, .int .i64 b.lz, .int .i64 b.hx, .int .i64 b.hy, .int .i64 b.hz]), .int .i64 k] w (Ret w (.int .i64 (alongI a b k))) := by
  have h1 := ha.lo k
  have h2 := ha.hi k
  have h3 := hb.lo k
  have h4 := hb.hi k
  clear ha hb
  go_enter Try.func58, Try.ntmps58
  go_wp2_with fail
  go_at_call 73; refine (ends_c a k h _).mono ?_; rintro e w' ⟨rfl, x, rfl⟩
  go_wp2_with fail
  go_at_call 73; refine (ends_c b k h _).mono ?_; rintro e w' ⟨rfl, x, rfl⟩
  go_wp2
  go_ret
  exact Ret.int (by unfold alongI; rfl) (by (repeat (first | exact grow_refl _ | refine grow_ext _ ?_ | refine grow_alloc _ ?_ | refine grow_drew ?_)))

end Go.Proofs.Ytafkibnkpcmmgaa
