/- Contracts of package box, first part. -/
import Derived.Test.YtafkibnkpcmmgaaExt
namespace Go.Proofs.Ytafkibnkpcmmgaa
open Go.RowKit

structure Bx where
  lx : Int
  ly : Int
  lz : Int
  hx : Int
  hy : Int
  hz : Int

theorem Ret.bool {w w' : World} {b c : Bool} (h : b = c) (hb : Below w.heap.size w w') : Ret w (.bool c) (.returned (.bool b)) w' := by
  subst h; exact Ret.of hb
theorem Ret.int {w w' : World} {k : IntKind} {b c : Int} (h : b = c) (hb : Below w.heap.size w w') : Ret w (.int k c) (.returned (.int k b)) w' := by
  subst h; exact Ret.of hb
theorem Ret.val {w w' : World} {b c : Value} (h : b = c) (hb : Below w.heap.size w w') : Ret w c (.returned b) w' := by
  subst h; exact Ret.of hb

set_option maxHeartbeats 400000 in
theorem coords_c (x y z : Int) (w : World) :
    Calls Try.prog 101 #[.agg #[.int .i64 x, .int .i64 y, .int .i64 z]] w (Ret w (.agg #[.int .i64 x, .int .i64 y, .int .i64 z])) := by
  go_enter Try.func101, Try.ntmps101
  go_wp2
  refine bodyPost_ret (v := .agg #[.int .i64 x, .int .i64 y, .int .i64 z]) (by simp [results, Try.results101, go_sem]) rfl ?_
  exact Ret.of (by (repeat (first | exact grow_refl _ | refine grow_ext _ ?_ | refine grow_alloc _ ?_ | refine grow_drew ?_)))

theorem idx3_0 (x y z : Value) (w : World) : (Instr.index 117 (.agg #[x, y, z]) (.int .i64 0)).run Try.prog w = .ok x w := by kernel_rfl
theorem idx3_1 (x y z : Value) (w : World) : (Instr.index 117 (.agg #[x, y, z]) (.int .i64 1)).run Try.prog w = .ok y w := by kernel_rfl
theorem idx3_2 (x y z : Value) (w : World) : (Instr.index 117 (.agg #[x, y, z]) (.int .i64 2)).run Try.prog w = .ok z w := by kernel_rfl
attribute [go_sem] idx3_0 idx3_1 idx3_2

/-- The ends of a box along an axis. -/
def Bx.lo (b : Bx) (k : Int) : Int := if k = 0 then b.lx else if k = 1 then b.ly else b.lz
def Bx.hi (b : Bx) (k : Int) : Int := if k = 0 then b.hx else if k = 1 then b.hy else b.hz

set_option maxHeartbeats 400000 in
theorem ends_c (b : Bx) (k : Int) (h : 0 ≤ k ∧ k ≤ 2) (w : World) :
    Calls Try.prog 73 #[(.agg #[.int .i64 b.lx, .int .i64 b.ly, .int .i64 b.lz, .int .i64 b.hx, .int .i64 b.hy, .int .i64 b.hz]), .int .i64 k] w (Ret w (.tuple #[.int .i64 (b.lo k), .int .i64 (b.hi k)])) := by
  have hk : k = 0 ∨ k = 1 ∨ k = 2 := by omega
  rcases hk with rfl | rfl | rfl
  all_goals
    clear h
    simp only [Bx.lo, Bx.hi]
    go_enter Try.func73, Try.ntmps73
    go_wp2
    refine wp_region_grows (by kernel_rfl) (by kernel_rfl) ?_
    repeat (go_big_quiet_step ((go_at_call 101; exact Calls.quiet_ext (coords_c _ _ _ _))))
    refine wpQuiet_nil ?_; rintro _ ⟨xq, rfl⟩
    go_wp2
    go_ret2
    exact Ret.of (by (repeat (first | exact grow_refl _ | refine grow_ext _ ?_ | refine grow_alloc _ ?_ | refine grow_drew ?_)))

/-- A valid box. -/
def validB (b : Bx) : Bool := decide (-1048576 ≤ b.lx ∧ b.lx ≤ b.hx ∧ b.hx ≤ 1048576 ∧ -1048576 ≤ b.ly ∧ b.ly ≤ b.hy ∧ b.hy ≤ 1048576 ∧ -1048576 ≤ b.lz ∧ b.lz ≤ b.hz ∧ b.hz ≤ 1048576)

theorem ends0_c (b : Bx) (w : World) : Calls Try.prog 73 #[(.agg #[.int .i64 b.lx, .int .i64 b.ly, .int .i64 b.lz, .int .i64 b.hx, .int .i64 b.hy, .int .i64 b.hz]), .int .i64 0] w (Ret w (.tuple #[.int .i64 b.lx, .int .i64 b.hx])) := ends_c b 0 (by omega) w
theorem ends1_c (b : Bx) (w : World) : Calls Try.prog 73 #[(.agg #[.int .i64 b.lx, .int .i64 b.ly, .int .i64 b.lz, .int .i64 b.hx, .int .i64 b.hy, .int .i64 b.hz]), .int .i64 1] w (Ret w (.tuple #[.int .i64 b.ly, .int .i64 b.hy])) := ends_c b 1 (by omega) w
theorem ends2_c (b : Bx) (w : World) : Calls Try.prog 73 #[(.agg #[.int .i64 b.lx, .int .i64 b.ly, .int .i64 b.lz, .int .i64 b.hx, .int .i64 b.hy, .int .i64 b.hz]), .int .i64 2] w (Ret w (.tuple #[.int .i64 b.lz, .int .i64 b.hz])) := ends_c b 2 (by omega) w

set_option maxHeartbeats 1000000 in
theorem valid_c (b : Bx) (w : World) :
    Calls Try.prog 44 #[(.agg #[.int .i64 b.lx, .int .i64 b.ly, .int .i64 b.lz, .int .i64 b.hx, .int .i64 b.hy, .int .i64 b.hz])] w (Ret w (.bool (validB b))) := by
  go_enter Try.func44, Try.ntmps44
  go_wp2
  refine wp_loop_rounds 4 ?_
  rw [rounds_succ]
  go_wp2_with (go_at_call 73; refine (ends0_c b _).mono ?_; rintro e w' ⟨rfl, x, rfl⟩)
  all_goals first | (go_ret; exact Ret.bool (by unfold validB; simp; omega) (by (repeat (first | exact grow_refl _ | refine grow_ext _ ?_ | refine grow_alloc _ ?_ | refine grow_drew ?_)))) | rw [rounds_succ]
  go_wp2_with (go_at_call 73; refine (ends1_c b _).mono ?_; rintro e w' ⟨rfl, x, rfl⟩)
  all_goals first | (go_ret; exact Ret.bool (by unfold validB; simp; omega) (by (repeat (first | exact grow_refl _ | refine grow_ext _ ?_ | refine grow_alloc _ ?_ | refine grow_drew ?_)))) | rw [rounds_succ]
  go_wp2_with (go_at_call 73; refine (ends2_c b _).mono ?_; rintro e w' ⟨rfl, x, rfl⟩)
  all_goals first | (go_ret; exact Ret.bool (by unfold validB; simp; omega) (by (repeat (first | exact grow_refl _ | refine grow_ext _ ?_ | refine grow_alloc _ ?_ | refine grow_drew ?_)))) | rw [rounds_succ]
  go_wp2
  go_ret
  exact Ret.bool (by unfold validB; simp; omega) (by (repeat (first | exact grow_refl _ | refine grow_ext _ ?_ | refine grow_alloc _ ?_ | refine grow_drew ?_)))

end Go.Proofs.Ytafkibnkpcmmgaa
