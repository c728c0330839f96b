/- Contracts of the reference for boxes, second part: gaps, squares, what two boxes have in common. -/
import Derived.Test.YtmmhplmomahfhaaRefA
namespace Go.Proofs.Ytmmhplmomahfhaa
open Go.RowKit

set_option maxHeartbeats 1000000 in
theorem refAlong_c (a b : Bx) (k : Int) (h : 0 ≤ k ∧ k ≤ 2) (ha : Bd a) (hb : Bd b) (w : World) :
    Calls Try.prog 44 #[(.agg #[.int .i64 a.lx, .int .i64 a.ly, .int .i64 a.lz, .int .i64 a.hx, .int .i64 a.hy, .int .i64 a.hz]), (.agg #[.int .i64 b.lx, .int .i64 b.ly, .int .i64 b.lz, .int .i64 b.hx, .int .i64 b.hy, .int .i64 b.hz]), .int .i64 k] w (Ret w (.int .i64 (alongI a b k))) := by
  have h1 := ha.lo k
  have h2 := ha.hi k
  have h3 := hb.lo k
  have h4 := hb.hi k
  clear ha hb
  go_enter Try.func44, Try.ntmps44
  go_wp2
  refine wp_region_grows (by kernel_rfl) (by kernel_rfl) ?_
  repeat (go_big_quiet_step ((first | (go_at_call_of 42 (Value.agg #[.int .i64 b.lx, .int .i64 b.ly, .int .i64 b.lz]); exact Calls.quiet_ext (coordLo_c b k h _)) | (go_at_call_of 42 (Value.agg #[.int .i64 a.hx, .int .i64 a.hy, .int .i64 a.hz]); exact Calls.quiet_ext (coordHi_c a k h _)) | (go_at_call_of 42 (Value.agg #[.int .i64 a.lx, .int .i64 a.ly, .int .i64 a.lz]); exact Calls.quiet_ext (coordLo_c a k h _)) | (go_at_call_of 42 (Value.agg #[.int .i64 b.hx, .int .i64 b.hy, .int .i64 b.hz]); exact Calls.quiet_ext (coordHi_c b k h _)))))
  refine wpQuiet_nil ?_; rintro _ ⟨xq, rfl⟩
  go_wp2
  go_ret
  exact Ret.of (by (repeat (first | exact grow_refl _ | refine grow_ext _ ?_ | refine grow_alloc _ ?_ | refine grow_drew ?_)))

set_option maxHeartbeats 1000000 in
theorem refGap_c (a b : Bx) (ha : Bd a) (hb : Bd b) (w : World) :
    Calls Try.prog 16 #[(.agg #[.int .i64 a.lx, .int .i64 a.ly, .int .i64 a.lz, .int .i64 a.hx, .int .i64 a.hy, .int .i64 a.hz]), (.agg #[.int .i64 b.lx, .int .i64 b.ly, .int .i64 b.lz, .int .i64 b.hx, .int .i64 b.hy, .int .i64 b.hz])] w (Ret w (.int .i64 (gapI a b))) := by
  go_enter Try.func16, Try.ntmps16
  go_wp2
  refine wp_region_grows (by kernel_rfl) (by kernel_rfl) ?_
  repeat (go_big_quiet_step ((go_at_call 44; refine Calls.quiet_ext (refAlong_c a b _ ?_ ha hb _); omega)))
  refine wpQuiet_nil ?_; rintro _ ⟨xq, rfl⟩
  go_wp2
  go_ret
  exact Ret.of (by (repeat (first | exact grow_refl _ | refine grow_ext _ ?_ | refine grow_alloc _ ?_ | refine grow_drew ?_)))

def squareI (a b : Bx) : Int := max 0 (alongI a b 0) * max 0 (alongI a b 0) + max 0 (alongI a b 1) * max 0 (alongI a b 1) + max 0 (alongI a b 2) * max 0 (alongI a b 2)
theorem along_bound {a b : Bx} (ha : validB a = true) (hb : validB b = true) (k : Int) : alongI a b k ≤ 2097152 := by
  have h1 := valid_iff.1 ha
  have h2 := valid_iff.1 hb
  unfold alongI Bx.lo Bx.hi
  split <;> (try split) <;> omega
theorem pos_sq {a b : Bx} (ha : validB a = true) (hb : validB b = true) (k : Int) : 0 ≤ max 0 (alongI a b k) * max 0 (alongI a b k) ∧ max 0 (alongI a b k) * max 0 (alongI a b k) ≤ 4398046511104 := by
  have h := along_bound ha hb k
  generalize alongI a b k = n at h
  have h0 : 0 ≤ max 0 n := by omega
  have h1 : max 0 n ≤ 2097152 := by omega
  exact ⟨Int.mul_nonneg h0 h0, by have := Int.mul_le_mul h1 h1 h0 (by omega); omega⟩

set_option maxHeartbeats 1000000 in
theorem refSquare_c (a b : Bx) (ha : validB a = true) (hb : validB b = true) (w : World) :
    Calls Try.prog 17 #[(.agg #[.int .i64 a.lx, .int .i64 a.ly, .int .i64 a.lz, .int .i64 a.hx, .int .i64 a.hy, .int .i64 a.hz]), (.agg #[.int .i64 b.lx, .int .i64 b.ly, .int .i64 b.lz, .int .i64 b.hx, .int .i64 b.hy, .int .i64 b.hz])] w (Ret w (.int .i64 (squareI a b))) := by
  have ka := Bd.of_valid ha
  have kb := Bd.of_valid hb
  have q0 := pos_sq ha hb 0
  have q1 := pos_sq ha hb 1
  have q2 := pos_sq ha hb 2
  clear ha hb
  go_enter Try.func17, Try.ntmps17
  go_wp2
  refine wp_loop_rounds 4 ?_
  rw [rounds_succ]
  go_wp2_with fail
  go_at_call 44; refine (refAlong_c a b 0 (by omega) ka kb _).mono ?_; rintro e w' ⟨rfl, x, rfl⟩
  go_wp2_with fail
  rw [rounds_succ]
  go_wp2_with fail
  go_at_call 44; refine (refAlong_c a b 1 (by omega) ka kb _).mono ?_; rintro e w' ⟨rfl, x, rfl⟩
  go_wp2_with fail
  rw [rounds_succ]
  go_wp2_with fail
  go_at_call 44; refine (refAlong_c a b 2 (by omega) ka kb _).mono ?_; rintro e w' ⟨rfl, x, rfl⟩
  go_wp2_with fail
  rw [rounds_succ]
  go_wp2_with fail
  go_ret
  exact Ret.of (by (repeat (first | exact grow_refl _ | refine grow_ext _ ?_ | refine grow_alloc _ ?_ | refine grow_drew ?_)))

set_option maxHeartbeats 1000000 in
theorem Square_ok (a b : Bx) (ha : validB a = true) (hb : validB b = true) (w : World) :
    Calls Try.prog 12 #[(.agg #[.int .i64 a.lx, .int .i64 a.ly, .int .i64 a.lz, .int .i64 a.hx, .int .i64 a.hy, .int .i64 a.hz]), (.agg #[.int .i64 b.lx, .int .i64 b.ly, .int .i64 b.lz, .int .i64 b.hx, .int .i64 b.hy, .int .i64 b.hz])] w (Ret w (.tuple #[.int .i64 (squareI a b), .int .i64 0])) := by
  have ka := Bd.of_valid ha
  have kb := Bd.of_valid hb
  have q0 := pos_sq ha hb 0
  have q1 := pos_sq ha hb 1
  have q2 := pos_sq ha hb 2
  go_enter Try.func12, Try.ntmps12
  go_wp2_with fail
  go_at_call 22; refine (valid_v a _ ha _).mono ?_; rintro e w' ⟨rfl, x, rfl⟩
  go_wp2_with fail
  go_at_call 22; refine (valid_v b _ hb _).mono ?_; rintro e w' ⟨rfl, x, rfl⟩
  go_wp2_with fail
  refine wp_loop_rounds 4 ?_
  rw [rounds_succ]
  go_wp2_with fail
  go_at_call 38; refine (along_c a b 0 (by omega) ka kb _).mono ?_; rintro e w' ⟨rfl, x, rfl⟩
  go_wp2_with fail
  rw [rounds_succ]
  go_wp2_with fail
  go_at_call 38; refine (along_c a b 1 (by omega) ka kb _).mono ?_; rintro e w' ⟨rfl, x, rfl⟩
  go_wp2_with fail
  rw [rounds_succ]
  go_wp2_with fail
  go_at_call 38; refine (along_c a b 2 (by omega) ka kb _).mono ?_; rintro e w' ⟨rfl, x, rfl⟩
  go_wp2_with fail
  rw [rounds_succ]
  go_wp2_with fail
  go_ret2
  exact Ret.of (by (repeat (first | exact grow_refl _ | refine grow_ext _ ?_ | refine grow_alloc _ ?_ | refine grow_drew ?_)))

set_option maxHeartbeats 400000 in
theorem Square_err (a b : Bx) (h : ¬ (validB a = true ∧ validB b = true)) (w : World) :
    Calls Try.prog 12 #[(.agg #[.int .i64 a.lx, .int .i64 a.ly, .int .i64 a.lz, .int .i64 a.hx, .int .i64 a.hy, .int .i64 a.hz]), (.agg #[.int .i64 b.lx, .int .i64 b.ly, .int .i64 b.lz, .int .i64 b.hx, .int .i64 b.hy, .int .i64 b.hz])] w (Ret w (.tuple #[.int .i64 0, .int .i64 1])) := by
  cases ha : validB a
  · go_enter Try.func12, Try.ntmps12
    go_wp2_with fail
    go_at_call 22; refine (valid_v a _ ha _).mono ?_; rintro e w' ⟨rfl, x, rfl⟩
    go_wp2
    go_ret2
    exact Ret.of (by (repeat (first | exact grow_refl _ | refine grow_ext _ ?_ | refine grow_alloc _ ?_ | refine grow_drew ?_)))
  · have hb : validB b = false := by cases hb : validB b <;> simp_all
    clear h
    go_enter Try.func12, Try.ntmps12
    go_wp2_with fail
    go_at_call 22; refine (valid_v a _ ha _).mono ?_; rintro e w' ⟨rfl, x, rfl⟩
    go_wp2_with fail
    go_at_call 22; refine (valid_v b _ hb _).mono ?_; rintro e w' ⟨rfl, x, rfl⟩
    go_wp2
    go_ret2
    exact Ret.of (by (repeat (first | exact grow_refl _ | refine grow_ext _ ?_ | refine grow_alloc _ ?_ | refine grow_drew ?_)))

theorem Square_c (a b : Bx) (w : World) :
    Calls Try.prog 12 #[(.agg #[.int .i64 a.lx, .int .i64 a.ly, .int .i64 a.lz, .int .i64 a.hx, .int .i64 a.hy, .int .i64 a.hz]), (.agg #[.int .i64 b.lx, .int .i64 b.ly, .int .i64 b.lz, .int .i64 b.hx, .int .i64 b.hy, .int .i64 b.hz])] w (Ret w (.tuple #[.int .i64 (if validB a = true ∧ validB b = true then squareI a b else 0), .int .i64 (if validB a = true ∧ validB b = true then 0 else 1)])) := by
  by_cases h : validB a = true ∧ validB b = true
  · simpa [h] using Square_ok a b h.1 h.2 w
  · simpa [h] using Square_err a b h w

end Go.Proofs.Ytmmhplmomahfhaa
