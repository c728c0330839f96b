/- The reference's solids: its hull, what it contains, its size. -/
import Derived.Test.YtdldbdffaffjoaaSolC
namespace Go.Proofs.Ytdldbdffaffjoaa
open Go.RowKit

theorem any_open_true {l : List Bx} {b : Bx} {i : Nat} (h : i < l.length) (hp : opensB l[i] b = true) : (l.any fun h => opensB h b) = true := any_true_of (p := fun h => opensB h b) h hp

def smallB (a b n : Nat) : Bool := (decide (a ≤ n) || decide (20 < a)) && decide (a ≤ 25) && (decide (b ≤ n) || decide (20 < b)) && decide (b ≤ 25)
theorem small_iff {a b n : Nat} : smallB a b n = true ↔ ((a ≤ n ∨ 20 < a) ∧ a ≤ 25) ∧ ((b ≤ n ∨ 20 < b) ∧ b ≤ 25) := by
  unfold smallB; simp only [Bool.and_eq_true, Bool.or_eq_true, decide_eq_true_iff, and_assoc]

set_option maxHeartbeats 2000000 in
theorem refSmall_c (l m : List Bx) (u t : Value) (n : Nat) (w : World) (hl : Boxes w u l) (hm : Boxes w t m) :
    Calls Try.prog 17 #[.agg #[u, t], .int .i64 n] w (Ret w (.bool (smallB l.length m.length n))) := by
  obtain ⟨ua, uc, rfl, _, _, _⟩ := hl.shape
  obtain ⟨ta, tc, rfl, _, _, _⟩ := hm.shape
  clear hl hm
  go_enter Try.func17, Try.ntmps17
  go_wp2_with fail
  refine wp_region_grows (by kernel_rfl) (by kernel_rfl) ?_
  repeat (go_big_quiet_step (fail))
  refine wpQuiet_nil ?_; rintro _ ⟨xq, rfl⟩
  go_wp2
  all_goals
    go_ret
    exact Ret.bool (by rw [Bool.eq_iff_iff, small_iff]; simp; try omega) (by (repeat (first | exact grow_refl _ | refine grow_ext _ ?_ | refine grow_alloc _ ?_ | refine grow_drew ?_)))
theorem refSmall_v (l m : List Bx) (u t : Value) (n : Nat) (r : Bool) (h : smallB l.length m.length n = r) (w : World) (hl : Boxes w u l) (hm : Boxes w t m) :
    Calls Try.prog 17 #[.agg #[u, t], .int .i64 n] w (Ret w (.bool r)) := by subst h; exact refSmall_c l m u t n w hl hm

end Go.Proofs.Ytdldbdffaffjoaa
